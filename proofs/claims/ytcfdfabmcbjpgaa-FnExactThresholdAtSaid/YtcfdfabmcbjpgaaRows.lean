/-
  No cell of these rows narrows 'for every input' (looked for: loops, veiled, ifaces, maps, wideKeys, modest, calm, conditions, laid).
  DERIVED. THE GIVEN ROWS OF THIS SEAT. 6 by the template 'for every input the law returns true; each argument reads behind the call as it read before'; 0 by the template 'total and deterministic' (their statements: YtcfdfabmcbjpgaaTotals.lean).
  GIVEN WITH THE SEED: the statements are not yours to turn. If you find one false, say at which input.
  Laid BY PROGRAM, IN A SANDBOX (cutbox-rows.mjs): the forced cells as the released guide's own fill.sh prints them over the translation ae1ffa906777da6c… (all of the seat's roots in one cut). By AI agents, Wed Nov 11 2026. No macro, syntax, notation, axiom, sorry.
-/
import Derived.Test.YtcfdfabmcbjpgaaChecked
import GoSem.Claim
import GoSem.ClaimJoined
import GoSem.ClaimMapViews
import Derived.JoinedTies
import Derived.KernelRfl
namespace Go.Proofs.Ytcfdfabmcbjpgaa
/- THE CELL 'sum', in the pinned program and in every row, IS THE sha256 OF THE DUMP (.gsa) THAT YtcfdfabmcbjpgaaProg.lean LOADS. Nothing in Lean hashes anything: it is a label: what it is worth is what the hold of that sum in a sandbox is worth. -/
noncomputable def Try.pinned : Pinned := { name := "ytcfdfabmcbjpgaa", sum := "ae1ffa906777da6c8cc3de6043e7d81933a178e228eca03fd04ab9d0957cc585", checked := Try.checked }
namespace Rows
def none {H : Type} : Left H := { results := [], args := [] }

/-- 'laws.FnExactIsWay': WHATEVER THE INPUT: true; the input reads as it did. -/
def fnExactIsWaySpec : ChangeSpec := { name := "fnExactIsWay", fn := fun _ => fun
  | [d] => { results := [.lit (.bool true)], args := [d] }
  | _ => none }
def fnExactIsWayRow : OpenClaim := { program := "ytcfdfabmcbjpgaa", sum := "ae1ffa906777da6c8cc3de6043e7d81933a178e228eca03fd04ab9d0957cc585", func := "loop.example/g01308/laws.FnExactIsWay", spec := "fnExactIsWay", unfollowed := true, recurses := true, apart := false }
def FnExactIsWaySaid : Prop := fnExactIsWayRow.holds Try.pinned (OpenSpec.ofChange fnExactIsWaySpec)

/-- ITS FALSE NEIGHBOUR: 'it returns false'. Refute it at one input. -/
def fnExactIsWayWrong : ChangeSpec := { name := "fnExactIsWay", fn := fun _ => fun
  | [d] => { results := [.lit (.bool false)], args := [d] }
  | _ => none }
def FnExactIsWayWrongFalsely : Prop := fnExactIsWayRow.holds Try.pinned (OpenSpec.ofChange fnExactIsWayWrong)

/-- 'laws.FnExactSameColor': WHATEVER THE INPUT: true; the input reads as it did. -/
def fnExactSameColorSpec : ChangeSpec := { name := "fnExactSameColor", fn := fun _ => fun
  | [d1, d2] => { results := [.lit (.bool true)], args := [d1, d2] }
  | _ => none }
def fnExactSameColorRow : OpenClaim := { program := "ytcfdfabmcbjpgaa", sum := "ae1ffa906777da6c8cc3de6043e7d81933a178e228eca03fd04ab9d0957cc585", func := "loop.example/g01308/laws.FnExactSameColor", spec := "fnExactSameColor", inPlace := ["math.Float32bits", "math.Float64bits"], apart := false }
def FnExactSameColorSaid : Prop := fnExactSameColorRow.holds Try.pinned (OpenSpec.ofChange fnExactSameColorSpec)

/-- ITS FALSE NEIGHBOUR: 'it returns false'. Refute it at one input. -/
def fnExactSameColorWrong : ChangeSpec := { name := "fnExactSameColor", fn := fun _ => fun
  | [d1, d2] => { results := [.lit (.bool false)], args := [d1, d2] }
  | _ => none }
def FnExactSameColorWrongFalsely : Prop := fnExactSameColorRow.holds Try.pinned (OpenSpec.ofChange fnExactSameColorWrong)

/-- 'laws.FnExactSameWay': WHATEVER THE INPUT: true; the input reads as it did. -/
def fnExactSameWaySpec : ChangeSpec := { name := "fnExactSameWay", fn := fun _ => fun
  | [d1, d2] => { results := [.lit (.bool true)], args := [d1, d2] }
  | _ => none }
def fnExactSameWayRow : OpenClaim := { program := "ytcfdfabmcbjpgaa", sum := "ae1ffa906777da6c8cc3de6043e7d81933a178e228eca03fd04ab9d0957cc585", func := "loop.example/g01308/laws.FnExactSameWay", spec := "fnExactSameWay", inPlace := ["math.Float32bits", "math.Float64bits"], apart := false }
def FnExactSameWaySaid : Prop := fnExactSameWayRow.holds Try.pinned (OpenSpec.ofChange fnExactSameWaySpec)

/-- ITS FALSE NEIGHBOUR: 'it returns false'. Refute it at one input. -/
def fnExactSameWayWrong : ChangeSpec := { name := "fnExactSameWay", fn := fun _ => fun
  | [d1, d2] => { results := [.lit (.bool false)], args := [d1, d2] }
  | _ => none }
def FnExactSameWayWrongFalsely : Prop := fnExactSameWayRow.holds Try.pinned (OpenSpec.ofChange fnExactSameWayWrong)

/-- 'laws.FnExactThresholdAt': WHATEVER THE INPUT: true; the input reads as it did. -/
def fnExactThresholdAtSpec : ChangeSpec := { name := "fnExactThresholdAt", fn := fun _ => fun
  | [d1, d2, d3] => { results := [.lit (.bool true)], args := [d1, d2, d3] }
  | _ => none }
def fnExactThresholdAtRow : OpenClaim := { program := "ytcfdfabmcbjpgaa", sum := "ae1ffa906777da6c8cc3de6043e7d81933a178e228eca03fd04ab9d0957cc585", func := "loop.example/g01308/laws.FnExactThresholdAt", spec := "fnExactThresholdAt", apart := false }
def FnExactThresholdAtSaid : Prop := fnExactThresholdAtRow.holds Try.pinned (OpenSpec.ofChange fnExactThresholdAtSpec)

/-- ITS FALSE NEIGHBOUR: 'it returns false'. Refute it at one input. -/
def fnExactThresholdAtWrong : ChangeSpec := { name := "fnExactThresholdAt", fn := fun _ => fun
  | [d1, d2, d3] => { results := [.lit (.bool false)], args := [d1, d2, d3] }
  | _ => none }
def FnExactThresholdAtWrongFalsely : Prop := fnExactThresholdAtRow.holds Try.pinned (OpenSpec.ofChange fnExactThresholdAtWrong)

/-- 'laws.FnExactFaceWay': WHATEVER THE INPUT: true; the input reads as it did. -/
def fnExactFaceWaySpec : ChangeSpec := { name := "fnExactFaceWay", fn := fun _ => fun
  | [d1, d2, d3] => { results := [.lit (.bool true)], args := [d1, d2, d3] }
  | _ => none }
def fnExactFaceWayRow : OpenClaim := { program := "ytcfdfabmcbjpgaa", sum := "ae1ffa906777da6c8cc3de6043e7d81933a178e228eca03fd04ab9d0957cc585", func := "loop.example/g01308/laws.FnExactFaceWay", spec := "fnExactFaceWay", apart := false }
def FnExactFaceWaySaid : Prop := fnExactFaceWayRow.holds Try.pinned (OpenSpec.ofChange fnExactFaceWaySpec)

/-- ITS FALSE NEIGHBOUR: 'it returns false'. Refute it at one input. -/
def fnExactFaceWayWrong : ChangeSpec := { name := "fnExactFaceWay", fn := fun _ => fun
  | [d1, d2, d3] => { results := [.lit (.bool false)], args := [d1, d2, d3] }
  | _ => none }
def FnExactFaceWayWrongFalsely : Prop := fnExactFaceWayRow.holds Try.pinned (OpenSpec.ofChange fnExactFaceWayWrong)

/-- 'laws.FnExactGreyOf': WHATEVER THE INPUT: true; the input reads as it did. -/
def fnExactGreyOfSpec : ChangeSpec := { name := "fnExactGreyOf", fn := fun _ => fun
  | [d] => { results := [.lit (.bool true)], args := [d] }
  | _ => none }
def fnExactGreyOfRow : OpenClaim := { program := "ytcfdfabmcbjpgaa", sum := "ae1ffa906777da6c8cc3de6043e7d81933a178e228eca03fd04ab9d0957cc585", func := "loop.example/g01308/laws.FnExactGreyOf", spec := "fnExactGreyOf", unfollowed := true, recurses := true, apart := false }
def FnExactGreyOfSaid : Prop := fnExactGreyOfRow.holds Try.pinned (OpenSpec.ofChange fnExactGreyOfSpec)

/-- ITS FALSE NEIGHBOUR: 'it returns false'. Refute it at one input. -/
def fnExactGreyOfWrong : ChangeSpec := { name := "fnExactGreyOf", fn := fun _ => fun
  | [d] => { results := [.lit (.bool false)], args := [d] }
  | _ => none }
def FnExactGreyOfWrongFalsely : Prop := fnExactGreyOfRow.holds Try.pinned (OpenSpec.ofChange fnExactGreyOfWrong)

/- THE SECOND FORM. 'bulk': how many values and letters a reading holds, each counted each time it is reached (what is shared counts as often as it is met; a slice's spare places count too). A statement '..UptoSaid' is the law's where the arguments, and the package variables that the reading takes, are together of bulk at most 1048576: NARROWER than '..Said'. Prove '..Said' where nothing that the law and all that it calls make is longer than what came in: it says more and counts as full. Else prove '..UptoSaid'. A law counts once. -/
mutual
def uptoBulk {H : Type} : DataW H → Nat
  | .lit (.string bytes) => bytes.length + 1
  | .lit _ => 1
  | .nil => 1
  | .ptr d => uptoBulk d + 1
  | .slice elems spare => uptoBulkAll elems + uptoBulkAll spare + 1
  | .agg parts => uptoBulkAll parts + 1
  | .iface _ d => uptoBulk d + 1
  | .map entries => uptoBulkEntries entries + 1
  | .held _ => 1
def uptoBulkAll {H : Type} : List (DataW H) → Nat
  | [] => 0
  | d :: r => uptoBulk d + uptoBulkAll r
def uptoBulkEntries {H : Type} : List (Lit × DataW H) → Nat
  | [] => 0
  | x :: r => uptoBulkEntry x + uptoBulkEntries r
def uptoBulkEntry {H : Type} : Lit × DataW H → Nat
  | (.string bytes, d) => bytes.length + uptoBulk d + 1
  | (_, d) => uptoBulk d + 1
 end
def uptoSmall : (H : Type) → List (DataW H) → Bool := fun _ ds => decide (uptoBulkAll ds ≤ 1048576)
def OpenSpec.upto (s : _root_.Go.ChangeSpec) : _root_.Go.OpenSpec := { _root_.Go.OpenSpec.ofChange s with cond := some uptoSmall }

/-- 'laws.FnExactIsWay', WHERE WHAT IT READS IS OF BULK AT MOST 1048576: true; the input reads as it did. -/
def fnExactIsWayUptoRow : OpenClaim := { program := "ytcfdfabmcbjpgaa", sum := "ae1ffa906777da6c8cc3de6043e7d81933a178e228eca03fd04ab9d0957cc585", func := "loop.example/g01308/laws.FnExactIsWay", spec := "fnExactIsWay", unfollowed := true, recurses := true, apart := false, narrowed := true }
def FnExactIsWayUptoSaid : Prop := fnExactIsWayUptoRow.holds Try.pinned (OpenSpec.upto fnExactIsWaySpec)

/-- 'laws.FnExactSameColor', WHERE WHAT IT READS IS OF BULK AT MOST 1048576: true; the input reads as it did. -/
def fnExactSameColorUptoRow : OpenClaim := { program := "ytcfdfabmcbjpgaa", sum := "ae1ffa906777da6c8cc3de6043e7d81933a178e228eca03fd04ab9d0957cc585", func := "loop.example/g01308/laws.FnExactSameColor", spec := "fnExactSameColor", inPlace := ["math.Float32bits", "math.Float64bits"], apart := false, narrowed := true }
def FnExactSameColorUptoSaid : Prop := fnExactSameColorUptoRow.holds Try.pinned (OpenSpec.upto fnExactSameColorSpec)

/-- 'laws.FnExactSameWay', WHERE WHAT IT READS IS OF BULK AT MOST 1048576: true; the input reads as it did. -/
def fnExactSameWayUptoRow : OpenClaim := { program := "ytcfdfabmcbjpgaa", sum := "ae1ffa906777da6c8cc3de6043e7d81933a178e228eca03fd04ab9d0957cc585", func := "loop.example/g01308/laws.FnExactSameWay", spec := "fnExactSameWay", inPlace := ["math.Float32bits", "math.Float64bits"], apart := false, narrowed := true }
def FnExactSameWayUptoSaid : Prop := fnExactSameWayUptoRow.holds Try.pinned (OpenSpec.upto fnExactSameWaySpec)

/-- 'laws.FnExactThresholdAt', WHERE WHAT IT READS IS OF BULK AT MOST 1048576: true; the input reads as it did. -/
def fnExactThresholdAtUptoRow : OpenClaim := { program := "ytcfdfabmcbjpgaa", sum := "ae1ffa906777da6c8cc3de6043e7d81933a178e228eca03fd04ab9d0957cc585", func := "loop.example/g01308/laws.FnExactThresholdAt", spec := "fnExactThresholdAt", apart := false, narrowed := true }
def FnExactThresholdAtUptoSaid : Prop := fnExactThresholdAtUptoRow.holds Try.pinned (OpenSpec.upto fnExactThresholdAtSpec)

/-- 'laws.FnExactFaceWay', WHERE WHAT IT READS IS OF BULK AT MOST 1048576: true; the input reads as it did. -/
def fnExactFaceWayUptoRow : OpenClaim := { program := "ytcfdfabmcbjpgaa", sum := "ae1ffa906777da6c8cc3de6043e7d81933a178e228eca03fd04ab9d0957cc585", func := "loop.example/g01308/laws.FnExactFaceWay", spec := "fnExactFaceWay", apart := false, narrowed := true }
def FnExactFaceWayUptoSaid : Prop := fnExactFaceWayUptoRow.holds Try.pinned (OpenSpec.upto fnExactFaceWaySpec)

/-- 'laws.FnExactGreyOf', WHERE WHAT IT READS IS OF BULK AT MOST 1048576: true; the input reads as it did. -/
def fnExactGreyOfUptoRow : OpenClaim := { program := "ytcfdfabmcbjpgaa", sum := "ae1ffa906777da6c8cc3de6043e7d81933a178e228eca03fd04ab9d0957cc585", func := "loop.example/g01308/laws.FnExactGreyOf", spec := "fnExactGreyOf", unfollowed := true, recurses := true, apart := false, narrowed := true }
def FnExactGreyOfUptoSaid : Prop := fnExactGreyOfUptoRow.holds Try.pinned (OpenSpec.upto fnExactGreyOfSpec)

end Rows
end Go.Proofs.Ytcfdfabmcbjpgaa
