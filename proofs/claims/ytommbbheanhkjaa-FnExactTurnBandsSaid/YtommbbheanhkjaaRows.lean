/-
  No cell of these rows narrows 'for every input' (looked for: loops, veiled, ifaces, maps, wideKeys, modest, calm, conditions, laid).
  DERIVED. THE GIVEN ROWS OF THIS SEAT. 11 by the template 'for every input the law returns true; each argument reads behind the call as it read before'; 0 by the template 'total and deterministic' (their statements: YtommbbheanhkjaaTotals.lean).
  GIVEN WITH THE SEED: the statements are not yours to turn. If you find one false, say at which input.
  Laid BY PROGRAM, IN A SANDBOX (cutbox-rows.mjs): the forced cells as the released guide's own fill.sh prints them over the translation 54bbe649ae575d4e… (all of the seat's roots in one cut). By AI agents, Wed Nov 11 2026. No macro, syntax, notation, axiom, sorry.
-/
import Derived.Test.YtommbbheanhkjaaChecked
import GoSem.Claim
import GoSem.ClaimJoined
import GoSem.ClaimMapViews
import Derived.JoinedTies
import Derived.KernelRfl
namespace Go.Proofs.Ytommbbheanhkjaa
/- THE CELL 'sum', in the pinned program and in every row, IS THE sha256 OF THE DUMP (.gsa) THAT YtommbbheanhkjaaProg.lean LOADS. Nothing in Lean hashes anything: it is a label: what it is worth is what the hold of that sum in a sandbox is worth. -/
noncomputable def Try.pinned : Pinned := { name := "ytommbbheanhkjaa", sum := "54bbe649ae575d4e5e77f69b874c296518c4cf29052940ad99618dc7706808c0", checked := Try.checked }
namespace Rows
def none {H : Type} : Left H := { results := [], args := [] }

/-- 'laws.FnExactTiltWay': WHATEVER THE INPUT: true; the input reads as it did. -/
def fnExactTiltWaySpec : ChangeSpec := { name := "fnExactTiltWay", fn := fun _ => fun
  | [d1, d2] => { results := [.lit (.bool true)], args := [d1, d2] }
  | _ => none }
def fnExactTiltWayRow : OpenClaim := { program := "ytommbbheanhkjaa", sum := "54bbe649ae575d4e5e77f69b874c296518c4cf29052940ad99618dc7706808c0", func := "loop.example/g01308/laws.FnExactTiltWay", spec := "fnExactTiltWay", inPlace := ["math.Float64frombits", "math.Float64bits", "math.archTrunc"], unfollowed := true, recurses := true, apart := false }
def FnExactTiltWaySaid : Prop := fnExactTiltWayRow.holds Try.pinned (OpenSpec.ofChange fnExactTiltWaySpec)

/-- ITS FALSE NEIGHBOUR: 'it returns false'. Refute it at one input. -/
def fnExactTiltWayWrong : ChangeSpec := { name := "fnExactTiltWay", fn := fun _ => fun
  | [d1, d2] => { results := [.lit (.bool false)], args := [d1, d2] }
  | _ => none }
def FnExactTiltWayWrongFalsely : Prop := fnExactTiltWayRow.holds Try.pinned (OpenSpec.ofChange fnExactTiltWayWrong)

/-- 'laws.FnExactTurnWay': WHATEVER THE INPUT: true; the input reads as it did. -/
def fnExactTurnWaySpec : ChangeSpec := { name := "fnExactTurnWay", fn := fun _ => fun
  | [d1, d2] => { results := [.lit (.bool true)], args := [d1, d2] }
  | _ => none }
def fnExactTurnWayRow : OpenClaim := { program := "ytommbbheanhkjaa", sum := "54bbe649ae575d4e5e77f69b874c296518c4cf29052940ad99618dc7706808c0", func := "loop.example/g01308/laws.FnExactTurnWay", spec := "fnExactTurnWay", inPlace := ["math.Float64frombits", "math.Float64bits", "math.archTrunc"], unfollowed := true, recurses := true, apart := false }
def FnExactTurnWaySaid : Prop := fnExactTurnWayRow.holds Try.pinned (OpenSpec.ofChange fnExactTurnWaySpec)

/-- ITS FALSE NEIGHBOUR: 'it returns false'. Refute it at one input. -/
def fnExactTurnWayWrong : ChangeSpec := { name := "fnExactTurnWay", fn := fun _ => fun
  | [d1, d2] => { results := [.lit (.bool false)], args := [d1, d2] }
  | _ => none }
def FnExactTurnWayWrongFalsely : Prop := fnExactTurnWayRow.holds Try.pinned (OpenSpec.ofChange fnExactTurnWayWrong)

/-- 'laws.FnExactTurnBands': WHATEVER THE INPUT: true; the input reads as it did. -/
def fnExactTurnBandsSpec : ChangeSpec := { name := "fnExactTurnBands", fn := fun _ => fun
  | [d1, d2] => { results := [.lit (.bool true)], args := [d1, d2] }
  | _ => none }
def fnExactTurnBandsRow : OpenClaim := { program := "ytommbbheanhkjaa", sum := "54bbe649ae575d4e5e77f69b874c296518c4cf29052940ad99618dc7706808c0", func := "loop.example/g01308/laws.FnExactTurnBands", spec := "fnExactTurnBands", inPlace := ["math.Float64frombits", "math.Float64bits", "math.archTrunc"], unfollowed := true, recurses := true, apart := false }
def FnExactTurnBandsSaid : Prop := fnExactTurnBandsRow.holds Try.pinned (OpenSpec.ofChange fnExactTurnBandsSpec)

/-- ITS FALSE NEIGHBOUR: 'it returns false'. Refute it at one input. -/
def fnExactTurnBandsWrong : ChangeSpec := { name := "fnExactTurnBands", fn := fun _ => fun
  | [d1, d2] => { results := [.lit (.bool false)], args := [d1, d2] }
  | _ => none }
def FnExactTurnBandsWrongFalsely : Prop := fnExactTurnBandsRow.holds Try.pinned (OpenSpec.ofChange fnExactTurnBandsWrong)

/-- 'laws.FnExactSolidOf': WHATEVER THE INPUT: true; the input reads as it did. -/
def fnExactSolidOfSpec : ChangeSpec := { name := "fnExactSolidOf", fn := fun _ => fun
  | [d1, d2] => { results := [.lit (.bool true)], args := [d1, d2] }
  | _ => none }
def fnExactSolidOfRow : OpenClaim := { program := "ytommbbheanhkjaa", sum := "54bbe649ae575d4e5e77f69b874c296518c4cf29052940ad99618dc7706808c0", func := "loop.example/g01308/laws.FnExactSolidOf", spec := "fnExactSolidOf", inPlace := ["math.Float64frombits", "math.Float64bits", "math.archTrunc"], unfollowed := true, recurses := true, apart := false }
def FnExactSolidOfSaid : Prop := fnExactSolidOfRow.holds Try.pinned (OpenSpec.ofChange fnExactSolidOfSpec)

/-- ITS FALSE NEIGHBOUR: 'it returns false'. Refute it at one input. -/
def fnExactSolidOfWrong : ChangeSpec := { name := "fnExactSolidOf", fn := fun _ => fun
  | [d1, d2] => { results := [.lit (.bool false)], args := [d1, d2] }
  | _ => none }
def FnExactSolidOfWrongFalsely : Prop := fnExactSolidOfRow.holds Try.pinned (OpenSpec.ofChange fnExactSolidOfWrong)

/-- 'laws.FnExactWayOf': WHATEVER THE INPUT: true; the input reads as it did. -/
def fnExactWayOfSpec : ChangeSpec := { name := "fnExactWayOf", fn := fun _ => fun
  | [d1, d2, d3] => { results := [.lit (.bool true)], args := [d1, d2, d3] }
  | _ => none }
def fnExactWayOfRow : OpenClaim := { program := "ytommbbheanhkjaa", sum := "54bbe649ae575d4e5e77f69b874c296518c4cf29052940ad99618dc7706808c0", func := "loop.example/g01308/laws.FnExactWayOf", spec := "fnExactWayOf", inPlace := ["math.Float64frombits", "math.Float64bits", "math.archTrunc"], unfollowed := true, recurses := true, apart := false }
def FnExactWayOfSaid : Prop := fnExactWayOfRow.holds Try.pinned (OpenSpec.ofChange fnExactWayOfSpec)

/-- ITS FALSE NEIGHBOUR: 'it returns false'. Refute it at one input. -/
def fnExactWayOfWrong : ChangeSpec := { name := "fnExactWayOf", fn := fun _ => fun
  | [d1, d2, d3] => { results := [.lit (.bool false)], args := [d1, d2, d3] }
  | _ => none }
def FnExactWayOfWrongFalsely : Prop := fnExactWayOfRow.holds Try.pinned (OpenSpec.ofChange fnExactWayOfWrong)

/-- 'laws.FnExactTotalLight': WHATEVER THE INPUT: true; the input reads as it did. -/
def fnExactTotalLightSpec : ChangeSpec := { name := "fnExactTotalLight", fn := fun _ => fun
  | [d] => { results := [.lit (.bool true)], args := [d] }
  | _ => none }
def fnExactTotalLightRow : OpenClaim := { program := "ytommbbheanhkjaa", sum := "54bbe649ae575d4e5e77f69b874c296518c4cf29052940ad99618dc7706808c0", func := "loop.example/g01308/laws.FnExactTotalLight", spec := "fnExactTotalLight", inPlace := ["math.Float64frombits", "math.Float64bits", "math.archTrunc"], unfollowed := true, recurses := true, apart := false }
def FnExactTotalLightSaid : Prop := fnExactTotalLightRow.holds Try.pinned (OpenSpec.ofChange fnExactTotalLightSpec)

/-- ITS FALSE NEIGHBOUR: 'it returns false'. Refute it at one input. -/
def fnExactTotalLightWrong : ChangeSpec := { name := "fnExactTotalLight", fn := fun _ => fun
  | [d] => { results := [.lit (.bool false)], args := [d] }
  | _ => none }
def FnExactTotalLightWrongFalsely : Prop := fnExactTotalLightRow.holds Try.pinned (OpenSpec.ofChange fnExactTotalLightWrong)

/-- 'laws.FnExactBrightestWay': WHATEVER THE INPUT: true; the input reads as it did. -/
def fnExactBrightestWaySpec : ChangeSpec := { name := "fnExactBrightestWay", fn := fun _ => fun
  | [d] => { results := [.lit (.bool true)], args := [d] }
  | _ => none }
def fnExactBrightestWayRow : OpenClaim := { program := "ytommbbheanhkjaa", sum := "54bbe649ae575d4e5e77f69b874c296518c4cf29052940ad99618dc7706808c0", func := "loop.example/g01308/laws.FnExactBrightestWay", spec := "fnExactBrightestWay", inPlace := ["math.Float64frombits", "math.Float64bits", "math.archTrunc"], unfollowed := true, recurses := true, apart := false }
def FnExactBrightestWaySaid : Prop := fnExactBrightestWayRow.holds Try.pinned (OpenSpec.ofChange fnExactBrightestWaySpec)

/-- ITS FALSE NEIGHBOUR: 'it returns false'. Refute it at one input. -/
def fnExactBrightestWayWrong : ChangeSpec := { name := "fnExactBrightestWay", fn := fun _ => fun
  | [d] => { results := [.lit (.bool false)], args := [d] }
  | _ => none }
def FnExactBrightestWayWrongFalsely : Prop := fnExactBrightestWayRow.holds Try.pinned (OpenSpec.ofChange fnExactBrightestWayWrong)

/-- 'laws.FnExactPixelOf': WHATEVER THE INPUT: true; the input reads as it did. -/
def fnExactPixelOfSpec : ChangeSpec := { name := "fnExactPixelOf", fn := fun _ => fun
  | [d1, d2] => { results := [.lit (.bool true)], args := [d1, d2] }
  | _ => none }
def fnExactPixelOfRow : OpenClaim := { program := "ytommbbheanhkjaa", sum := "54bbe649ae575d4e5e77f69b874c296518c4cf29052940ad99618dc7706808c0", func := "loop.example/g01308/laws.FnExactPixelOf", spec := "fnExactPixelOf", inPlace := ["math.Float64frombits", "math.Float64bits", "math.sqrt", "math.archFloor", "math.archTrunc"], unfollowed := true, recurses := true, apart := false }
def FnExactPixelOfSaid : Prop := fnExactPixelOfRow.holds Try.pinned (OpenSpec.ofChange fnExactPixelOfSpec)

/-- ITS FALSE NEIGHBOUR: 'it returns false'. Refute it at one input. -/
def fnExactPixelOfWrong : ChangeSpec := { name := "fnExactPixelOf", fn := fun _ => fun
  | [d1, d2] => { results := [.lit (.bool false)], args := [d1, d2] }
  | _ => none }
def FnExactPixelOfWrongFalsely : Prop := fnExactPixelOfRow.holds Try.pinned (OpenSpec.ofChange fnExactPixelOfWrong)

/-- 'laws.FnExactLightAt': WHATEVER THE INPUT: true; the input reads as it did. -/
def fnExactLightAtSpec : ChangeSpec := { name := "fnExactLightAt", fn := fun _ => fun
  | [d1, d2] => { results := [.lit (.bool true)], args := [d1, d2] }
  | _ => none }
def fnExactLightAtRow : OpenClaim := { program := "ytommbbheanhkjaa", sum := "54bbe649ae575d4e5e77f69b874c296518c4cf29052940ad99618dc7706808c0", func := "loop.example/g01308/laws.FnExactLightAt", spec := "fnExactLightAt", inPlace := ["math.Float64frombits", "math.Float64bits", "math.sqrt", "math.archFloor", "math.archTrunc"], unfollowed := true, recurses := true, apart := false }
def FnExactLightAtSaid : Prop := fnExactLightAtRow.holds Try.pinned (OpenSpec.ofChange fnExactLightAtSpec)

/-- ITS FALSE NEIGHBOUR: 'it returns false'. Refute it at one input. -/
def fnExactLightAtWrong : ChangeSpec := { name := "fnExactLightAt", fn := fun _ => fun
  | [d1, d2] => { results := [.lit (.bool false)], args := [d1, d2] }
  | _ => none }
def FnExactLightAtWrongFalsely : Prop := fnExactLightAtRow.holds Try.pinned (OpenSpec.ofChange fnExactLightAtWrong)

/-- 'laws.FnExactDirectLight': WHATEVER THE INPUT: true; the input reads as it did. -/
def fnExactDirectLightSpec : ChangeSpec := { name := "fnExactDirectLight", fn := fun _ => fun
  | [d1, d2] => { results := [.lit (.bool true)], args := [d1, d2] }
  | _ => none }
def fnExactDirectLightRow : OpenClaim := { program := "ytommbbheanhkjaa", sum := "54bbe649ae575d4e5e77f69b874c296518c4cf29052940ad99618dc7706808c0", func := "loop.example/g01308/laws.FnExactDirectLight", spec := "fnExactDirectLight", inPlace := ["math.sqrt", "math.Float64frombits", "math.Float64bits", "math.archTrunc"], unfollowed := true, recurses := true, apart := false }
def FnExactDirectLightSaid : Prop := fnExactDirectLightRow.holds Try.pinned (OpenSpec.ofChange fnExactDirectLightSpec)

/-- ITS FALSE NEIGHBOUR: 'it returns false'. Refute it at one input. -/
def fnExactDirectLightWrong : ChangeSpec := { name := "fnExactDirectLight", fn := fun _ => fun
  | [d1, d2] => { results := [.lit (.bool false)], args := [d1, d2] }
  | _ => none }
def FnExactDirectLightWrongFalsely : Prop := fnExactDirectLightRow.holds Try.pinned (OpenSpec.ofChange fnExactDirectLightWrong)

/-- 'laws.FnExactBallPicture': WHATEVER THE INPUT: true; the input reads as it did. -/
def fnExactBallPictureSpec : ChangeSpec := { name := "fnExactBallPicture", fn := fun _ => fun
  | [d1, d2] => { results := [.lit (.bool true)], args := [d1, d2] }
  | _ => none }
def fnExactBallPictureRow : OpenClaim := { program := "ytommbbheanhkjaa", sum := "54bbe649ae575d4e5e77f69b874c296518c4cf29052940ad99618dc7706808c0", func := "loop.example/g01308/laws.FnExactBallPicture", spec := "fnExactBallPicture", inPlace := ["math.sqrt"], unfollowed := true, recurses := true, apart := false }
def FnExactBallPictureSaid : Prop := fnExactBallPictureRow.holds Try.pinned (OpenSpec.ofChange fnExactBallPictureSpec)

/-- ITS FALSE NEIGHBOUR: 'it returns false'. Refute it at one input. -/
def fnExactBallPictureWrong : ChangeSpec := { name := "fnExactBallPicture", fn := fun _ => fun
  | [d1, d2] => { results := [.lit (.bool false)], args := [d1, d2] }
  | _ => none }
def FnExactBallPictureWrongFalsely : Prop := fnExactBallPictureRow.holds Try.pinned (OpenSpec.ofChange fnExactBallPictureWrong)

/- THE SECOND FORM. 'bulk': how many values and letters a reading holds, each counted each time it is reached (what is shared counts as often as it is met; a slice's spare places count too). A statement '..UptoSaid' is the law's where the arguments, and the package variables that the reading takes, are together of bulk at most 1048576: NARROWER than '..Said'. Prove '..Said' where nothing that the law and all that it calls make is longer than what came in: it says more and counts as full. Else prove '..UptoSaid'. A law counts once. -/
mutual
def uptoBulk {H : Type} : DataW H → Nat
  | .lit (.string bytes) => bytes.length + 1
  | .lit _ => 1
  | .nil => 1
  | .ptr d => uptoBulk d + 1
  | .slice elems spare => uptoBulkAll elems + uptoBulkAll spare + 1
  | .agg parts => uptoBulkAll parts + 1
  | .iface _ d => uptoBulk d + 1
  | .map entries => uptoBulkEntries entries + 1
  | .held _ => 1
def uptoBulkAll {H : Type} : List (DataW H) → Nat
  | [] => 0
  | d :: r => uptoBulk d + uptoBulkAll r
def uptoBulkEntries {H : Type} : List (Lit × DataW H) → Nat
  | [] => 0
  | x :: r => uptoBulkEntry x + uptoBulkEntries r
def uptoBulkEntry {H : Type} : Lit × DataW H → Nat
  | (.string bytes, d) => bytes.length + uptoBulk d + 1
  | (_, d) => uptoBulk d + 1
 end
def uptoSmall : (H : Type) → List (DataW H) → Bool := fun _ ds => decide (uptoBulkAll ds ≤ 1048576)
def OpenSpec.upto (s : _root_.Go.ChangeSpec) : _root_.Go.OpenSpec := { _root_.Go.OpenSpec.ofChange s with cond := some uptoSmall }

/-- 'laws.FnExactTiltWay', WHERE WHAT IT READS IS OF BULK AT MOST 1048576: true; the input reads as it did. -/
def fnExactTiltWayUptoRow : OpenClaim := { program := "ytommbbheanhkjaa", sum := "54bbe649ae575d4e5e77f69b874c296518c4cf29052940ad99618dc7706808c0", func := "loop.example/g01308/laws.FnExactTiltWay", spec := "fnExactTiltWay", inPlace := ["math.Float64frombits", "math.Float64bits", "math.archTrunc"], unfollowed := true, recurses := true, apart := false, narrowed := true }
def FnExactTiltWayUptoSaid : Prop := fnExactTiltWayUptoRow.holds Try.pinned (OpenSpec.upto fnExactTiltWaySpec)

/-- 'laws.FnExactTurnWay', WHERE WHAT IT READS IS OF BULK AT MOST 1048576: true; the input reads as it did. -/
def fnExactTurnWayUptoRow : OpenClaim := { program := "ytommbbheanhkjaa", sum := "54bbe649ae575d4e5e77f69b874c296518c4cf29052940ad99618dc7706808c0", func := "loop.example/g01308/laws.FnExactTurnWay", spec := "fnExactTurnWay", inPlace := ["math.Float64frombits", "math.Float64bits", "math.archTrunc"], unfollowed := true, recurses := true, apart := false, narrowed := true }
def FnExactTurnWayUptoSaid : Prop := fnExactTurnWayUptoRow.holds Try.pinned (OpenSpec.upto fnExactTurnWaySpec)

/-- 'laws.FnExactTurnBands', WHERE WHAT IT READS IS OF BULK AT MOST 1048576: true; the input reads as it did. -/
def fnExactTurnBandsUptoRow : OpenClaim := { program := "ytommbbheanhkjaa", sum := "54bbe649ae575d4e5e77f69b874c296518c4cf29052940ad99618dc7706808c0", func := "loop.example/g01308/laws.FnExactTurnBands", spec := "fnExactTurnBands", inPlace := ["math.Float64frombits", "math.Float64bits", "math.archTrunc"], unfollowed := true, recurses := true, apart := false, narrowed := true }
def FnExactTurnBandsUptoSaid : Prop := fnExactTurnBandsUptoRow.holds Try.pinned (OpenSpec.upto fnExactTurnBandsSpec)

/-- 'laws.FnExactSolidOf', WHERE WHAT IT READS IS OF BULK AT MOST 1048576: true; the input reads as it did. -/
def fnExactSolidOfUptoRow : OpenClaim := { program := "ytommbbheanhkjaa", sum := "54bbe649ae575d4e5e77f69b874c296518c4cf29052940ad99618dc7706808c0", func := "loop.example/g01308/laws.FnExactSolidOf", spec := "fnExactSolidOf", inPlace := ["math.Float64frombits", "math.Float64bits", "math.archTrunc"], unfollowed := true, recurses := true, apart := false, narrowed := true }
def FnExactSolidOfUptoSaid : Prop := fnExactSolidOfUptoRow.holds Try.pinned (OpenSpec.upto fnExactSolidOfSpec)

/-- 'laws.FnExactWayOf', WHERE WHAT IT READS IS OF BULK AT MOST 1048576: true; the input reads as it did. -/
def fnExactWayOfUptoRow : OpenClaim := { program := "ytommbbheanhkjaa", sum := "54bbe649ae575d4e5e77f69b874c296518c4cf29052940ad99618dc7706808c0", func := "loop.example/g01308/laws.FnExactWayOf", spec := "fnExactWayOf", inPlace := ["math.Float64frombits", "math.Float64bits", "math.archTrunc"], unfollowed := true, recurses := true, apart := false, narrowed := true }
def FnExactWayOfUptoSaid : Prop := fnExactWayOfUptoRow.holds Try.pinned (OpenSpec.upto fnExactWayOfSpec)

/-- 'laws.FnExactTotalLight', WHERE WHAT IT READS IS OF BULK AT MOST 1048576: true; the input reads as it did. -/
def fnExactTotalLightUptoRow : OpenClaim := { program := "ytommbbheanhkjaa", sum := "54bbe649ae575d4e5e77f69b874c296518c4cf29052940ad99618dc7706808c0", func := "loop.example/g01308/laws.FnExactTotalLight", spec := "fnExactTotalLight", inPlace := ["math.Float64frombits", "math.Float64bits", "math.archTrunc"], unfollowed := true, recurses := true, apart := false, narrowed := true }
def FnExactTotalLightUptoSaid : Prop := fnExactTotalLightUptoRow.holds Try.pinned (OpenSpec.upto fnExactTotalLightSpec)

/-- 'laws.FnExactBrightestWay', WHERE WHAT IT READS IS OF BULK AT MOST 1048576: true; the input reads as it did. -/
def fnExactBrightestWayUptoRow : OpenClaim := { program := "ytommbbheanhkjaa", sum := "54bbe649ae575d4e5e77f69b874c296518c4cf29052940ad99618dc7706808c0", func := "loop.example/g01308/laws.FnExactBrightestWay", spec := "fnExactBrightestWay", inPlace := ["math.Float64frombits", "math.Float64bits", "math.archTrunc"], unfollowed := true, recurses := true, apart := false, narrowed := true }
def FnExactBrightestWayUptoSaid : Prop := fnExactBrightestWayUptoRow.holds Try.pinned (OpenSpec.upto fnExactBrightestWaySpec)

/-- 'laws.FnExactPixelOf', WHERE WHAT IT READS IS OF BULK AT MOST 1048576: true; the input reads as it did. -/
def fnExactPixelOfUptoRow : OpenClaim := { program := "ytommbbheanhkjaa", sum := "54bbe649ae575d4e5e77f69b874c296518c4cf29052940ad99618dc7706808c0", func := "loop.example/g01308/laws.FnExactPixelOf", spec := "fnExactPixelOf", inPlace := ["math.Float64frombits", "math.Float64bits", "math.sqrt", "math.archFloor", "math.archTrunc"], unfollowed := true, recurses := true, apart := false, narrowed := true }
def FnExactPixelOfUptoSaid : Prop := fnExactPixelOfUptoRow.holds Try.pinned (OpenSpec.upto fnExactPixelOfSpec)

/-- 'laws.FnExactLightAt', WHERE WHAT IT READS IS OF BULK AT MOST 1048576: true; the input reads as it did. -/
def fnExactLightAtUptoRow : OpenClaim := { program := "ytommbbheanhkjaa", sum := "54bbe649ae575d4e5e77f69b874c296518c4cf29052940ad99618dc7706808c0", func := "loop.example/g01308/laws.FnExactLightAt", spec := "fnExactLightAt", inPlace := ["math.Float64frombits", "math.Float64bits", "math.sqrt", "math.archFloor", "math.archTrunc"], unfollowed := true, recurses := true, apart := false, narrowed := true }
def FnExactLightAtUptoSaid : Prop := fnExactLightAtUptoRow.holds Try.pinned (OpenSpec.upto fnExactLightAtSpec)

/-- 'laws.FnExactDirectLight', WHERE WHAT IT READS IS OF BULK AT MOST 1048576: true; the input reads as it did. -/
def fnExactDirectLightUptoRow : OpenClaim := { program := "ytommbbheanhkjaa", sum := "54bbe649ae575d4e5e77f69b874c296518c4cf29052940ad99618dc7706808c0", func := "loop.example/g01308/laws.FnExactDirectLight", spec := "fnExactDirectLight", inPlace := ["math.sqrt", "math.Float64frombits", "math.Float64bits", "math.archTrunc"], unfollowed := true, recurses := true, apart := false, narrowed := true }
def FnExactDirectLightUptoSaid : Prop := fnExactDirectLightUptoRow.holds Try.pinned (OpenSpec.upto fnExactDirectLightSpec)

/-- 'laws.FnExactBallPicture', WHERE WHAT IT READS IS OF BULK AT MOST 1048576: true; the input reads as it did. -/
def fnExactBallPictureUptoRow : OpenClaim := { program := "ytommbbheanhkjaa", sum := "54bbe649ae575d4e5e77f69b874c296518c4cf29052940ad99618dc7706808c0", func := "loop.example/g01308/laws.FnExactBallPicture", spec := "fnExactBallPicture", inPlace := ["math.sqrt"], unfollowed := true, recurses := true, apart := false, narrowed := true }
def FnExactBallPictureUptoSaid : Prop := fnExactBallPictureUptoRow.holds Try.pinned (OpenSpec.upto fnExactBallPictureSpec)

end Rows
end Go.Proofs.Ytommbbheanhkjaa
