/-
  No cell of these rows narrows 'for every input' (looked for: loops, veiled, ifaces, maps, wideKeys, modest, calm, conditions, laid).
  DERIVED. THE GIVEN ROWS OF THIS SEAT. 10 by the template 'for every input the law returns true; each argument reads behind the call as it read before'; 0 by the template 'total and deterministic' (their statements: YtokpnjliikhecaaTotals.lean).
  GIVEN WITH THE SEED: the statements are not yours to turn. If you find one false, say at which input.
  Laid BY PROGRAM, IN A SANDBOX (cutbox-rows.mjs): the forced cells as the released guide's own fill.sh prints them over the translation c165fa450269d52b… (all of the seat's roots in one cut). By AI agents, Wed Nov 11 2026. No macro, syntax, notation, axiom, sorry.
-/
import Derived.Test.YtokpnjliikhecaaChecked
import GoSem.Claim
import GoSem.ClaimJoined
import GoSem.ClaimMapViews
import Derived.JoinedTies
import Derived.KernelRfl
namespace Go.Proofs.Ytokpnjliikhecaa
/- THE CELL 'sum', in the pinned program and in every row, IS THE sha256 OF THE DUMP (.gsa) THAT YtokpnjliikhecaaProg.lean LOADS. Nothing in Lean hashes anything: it is a label: what it is worth is what the hold of that sum in a sandbox is worth. -/
noncomputable def Try.pinned : Pinned := { name := "ytokpnjliikhecaa", sum := "c165fa450269d52bd55695d10bebaab57b54b4cbe252a194d0db8d89cf0419ee", checked := Try.checked }
namespace Rows
def none {H : Type} : Left H := { results := [], args := [] }

/-- 'laws.FnExactInnerOf': WHATEVER THE INPUT: true; the input reads as it did. -/
def fnExactInnerOfSpec : ChangeSpec := { name := "fnExactInnerOf", fn := fun _ => fun
  | [d1, d2] => { results := [.lit (.bool true)], args := [d1, d2] }
  | _ => none }
def fnExactInnerOfRow : OpenClaim := { program := "ytokpnjliikhecaa", sum := "c165fa450269d52bd55695d10bebaab57b54b4cbe252a194d0db8d89cf0419ee", func := "loop.example/g01308/laws.FnExactInnerOf", spec := "fnExactInnerOf", unfollowed := true, recurses := true, apart := false }
def FnExactInnerOfSaid : Prop := fnExactInnerOfRow.holds Try.pinned (OpenSpec.ofChange fnExactInnerOfSpec)

/-- ITS FALSE NEIGHBOUR: 'it returns false'. Refute it at one input. -/
def fnExactInnerOfWrong : ChangeSpec := { name := "fnExactInnerOf", fn := fun _ => fun
  | [d1, d2] => { results := [.lit (.bool false)], args := [d1, d2] }
  | _ => none }
def FnExactInnerOfWrongFalsely : Prop := fnExactInnerOfRow.holds Try.pinned (OpenSpec.ofChange fnExactInnerOfWrong)

/-- 'laws.FnExactIsKernel': WHATEVER THE INPUT: true; the input reads as it did. -/
def fnExactIsKernelSpec : ChangeSpec := { name := "fnExactIsKernel", fn := fun _ => fun
  | [d] => { results := [.lit (.bool true)], args := [d] }
  | _ => none }
def fnExactIsKernelRow : OpenClaim := { program := "ytokpnjliikhecaa", sum := "c165fa450269d52bd55695d10bebaab57b54b4cbe252a194d0db8d89cf0419ee", func := "loop.example/g01308/laws.FnExactIsKernel", spec := "fnExactIsKernel", inPlace := ["math.Float64bits", "math.Float64frombits"], unfollowed := true, recurses := true, apart := false }
def FnExactIsKernelSaid : Prop := fnExactIsKernelRow.holds Try.pinned (OpenSpec.ofChange fnExactIsKernelSpec)

/-- ITS FALSE NEIGHBOUR: 'it returns false'. Refute it at one input. -/
def fnExactIsKernelWrong : ChangeSpec := { name := "fnExactIsKernel", fn := fun _ => fun
  | [d] => { results := [.lit (.bool false)], args := [d] }
  | _ => none }
def FnExactIsKernelWrongFalsely : Prop := fnExactIsKernelRow.holds Try.pinned (OpenSpec.ofChange fnExactIsKernelWrong)

/-- 'laws.FnExactJoinMatrices': WHATEVER THE INPUT: true; the input reads as it did. -/
def fnExactJoinMatricesSpec : ChangeSpec := { name := "fnExactJoinMatrices", fn := fun _ => fun
  | [d1, d2] => { results := [.lit (.bool true)], args := [d1, d2] }
  | _ => none }
def fnExactJoinMatricesRow : OpenClaim := { program := "ytokpnjliikhecaa", sum := "c165fa450269d52bd55695d10bebaab57b54b4cbe252a194d0db8d89cf0419ee", func := "loop.example/g01308/laws.FnExactJoinMatrices", spec := "fnExactJoinMatrices", unfollowed := true, recurses := true, apart := false }
def FnExactJoinMatricesSaid : Prop := fnExactJoinMatricesRow.holds Try.pinned (OpenSpec.ofChange fnExactJoinMatricesSpec)

/-- ITS FALSE NEIGHBOUR: 'it returns false'. Refute it at one input. -/
def fnExactJoinMatricesWrong : ChangeSpec := { name := "fnExactJoinMatrices", fn := fun _ => fun
  | [d1, d2] => { results := [.lit (.bool false)], args := [d1, d2] }
  | _ => none }
def FnExactJoinMatricesWrongFalsely : Prop := fnExactJoinMatricesRow.holds Try.pinned (OpenSpec.ofChange fnExactJoinMatricesWrong)

/-- 'laws.FnExactTurnColor': WHATEVER THE INPUT: true; the input reads as it did. -/
def fnExactTurnColorSpec : ChangeSpec := { name := "fnExactTurnColor", fn := fun _ => fun
  | [d1, d2] => { results := [.lit (.bool true)], args := [d1, d2] }
  | _ => none }
def fnExactTurnColorRow : OpenClaim := { program := "ytokpnjliikhecaa", sum := "c165fa450269d52bd55695d10bebaab57b54b4cbe252a194d0db8d89cf0419ee", func := "loop.example/g01308/laws.FnExactTurnColor", spec := "fnExactTurnColor", unfollowed := true, recurses := true, apart := false }
def FnExactTurnColorSaid : Prop := fnExactTurnColorRow.holds Try.pinned (OpenSpec.ofChange fnExactTurnColorSpec)

/-- ITS FALSE NEIGHBOUR: 'it returns false'. Refute it at one input. -/
def fnExactTurnColorWrong : ChangeSpec := { name := "fnExactTurnColor", fn := fun _ => fun
  | [d1, d2] => { results := [.lit (.bool false)], args := [d1, d2] }
  | _ => none }
def FnExactTurnColorWrongFalsely : Prop := fnExactTurnColorRow.holds Try.pinned (OpenSpec.ofChange fnExactTurnColorWrong)

/-- 'laws.FnExactFaceOf': WHATEVER THE INPUT: true; the input reads as it did. -/
def fnExactFaceOfSpec : ChangeSpec := { name := "fnExactFaceOf", fn := fun _ => fun
  | [d] => { results := [.lit (.bool true)], args := [d] }
  | _ => none }
def fnExactFaceOfRow : OpenClaim := { program := "ytokpnjliikhecaa", sum := "c165fa450269d52bd55695d10bebaab57b54b4cbe252a194d0db8d89cf0419ee", func := "loop.example/g01308/laws.FnExactFaceOf", spec := "fnExactFaceOf", inPlace := ["math.Float64bits", "math.Float64frombits"], unfollowed := true, recurses := true, apart := false }
def FnExactFaceOfSaid : Prop := fnExactFaceOfRow.holds Try.pinned (OpenSpec.ofChange fnExactFaceOfSpec)

/-- ITS FALSE NEIGHBOUR: 'it returns false'. Refute it at one input. -/
def fnExactFaceOfWrong : ChangeSpec := { name := "fnExactFaceOf", fn := fun _ => fun
  | [d] => { results := [.lit (.bool false)], args := [d] }
  | _ => none }
def FnExactFaceOfWrongFalsely : Prop := fnExactFaceOfRow.holds Try.pinned (OpenSpec.ofChange fnExactFaceOfWrong)

/-- 'laws.FnExactBandPowers': WHATEVER THE INPUT: true; the input reads as it did. -/
def fnExactBandPowersSpec : ChangeSpec := { name := "fnExactBandPowers", fn := fun _ => fun
  | [d] => { results := [.lit (.bool true)], args := [d] }
  | _ => none }
def fnExactBandPowersRow : OpenClaim := { program := "ytokpnjliikhecaa", sum := "c165fa450269d52bd55695d10bebaab57b54b4cbe252a194d0db8d89cf0419ee", func := "loop.example/g01308/laws.FnExactBandPowers", spec := "fnExactBandPowers", unfollowed := true, recurses := true, apart := false }
def FnExactBandPowersSaid : Prop := fnExactBandPowersRow.holds Try.pinned (OpenSpec.ofChange fnExactBandPowersSpec)

/-- ITS FALSE NEIGHBOUR: 'it returns false'. Refute it at one input. -/
def fnExactBandPowersWrong : ChangeSpec := { name := "fnExactBandPowers", fn := fun _ => fun
  | [d] => { results := [.lit (.bool false)], args := [d] }
  | _ => none }
def FnExactBandPowersWrongFalsely : Prop := fnExactBandPowersRow.holds Try.pinned (OpenSpec.ofChange fnExactBandPowersWrong)

/-- 'laws.FnExactBackMatrix': WHATEVER THE INPUT: true; the input reads as it did. -/
def fnExactBackMatrixSpec : ChangeSpec := { name := "fnExactBackMatrix", fn := fun _ => fun
  | [d] => { results := [.lit (.bool true)], args := [d] }
  | _ => none }
def fnExactBackMatrixRow : OpenClaim := { program := "ytokpnjliikhecaa", sum := "c165fa450269d52bd55695d10bebaab57b54b4cbe252a194d0db8d89cf0419ee", func := "loop.example/g01308/laws.FnExactBackMatrix", spec := "fnExactBackMatrix", unfollowed := true, recurses := true, apart := false }
def FnExactBackMatrixSaid : Prop := fnExactBackMatrixRow.holds Try.pinned (OpenSpec.ofChange fnExactBackMatrixSpec)

/-- ITS FALSE NEIGHBOUR: 'it returns false'. Refute it at one input. -/
def fnExactBackMatrixWrong : ChangeSpec := { name := "fnExactBackMatrix", fn := fun _ => fun
  | [d] => { results := [.lit (.bool false)], args := [d] }
  | _ => none }
def FnExactBackMatrixWrongFalsely : Prop := fnExactBackMatrixRow.holds Try.pinned (OpenSpec.ofChange fnExactBackMatrixWrong)

/-- 'laws.FnExactUnitWay': WHATEVER THE INPUT: true; the input reads as it did. -/
def fnExactUnitWaySpec : ChangeSpec := { name := "fnExactUnitWay", fn := fun _ => fun
  | [d] => { results := [.lit (.bool true)], args := [d] }
  | _ => none }
def fnExactUnitWayRow : OpenClaim := { program := "ytokpnjliikhecaa", sum := "c165fa450269d52bd55695d10bebaab57b54b4cbe252a194d0db8d89cf0419ee", func := "loop.example/g01308/laws.FnExactUnitWay", spec := "fnExactUnitWay", inPlace := ["math.sqrt"], unfollowed := true, recurses := true, apart := false }
def FnExactUnitWaySaid : Prop := fnExactUnitWayRow.holds Try.pinned (OpenSpec.ofChange fnExactUnitWaySpec)

/-- ITS FALSE NEIGHBOUR: 'it returns false'. Refute it at one input. -/
def fnExactUnitWayWrong : ChangeSpec := { name := "fnExactUnitWay", fn := fun _ => fun
  | [d] => { results := [.lit (.bool false)], args := [d] }
  | _ => none }
def FnExactUnitWayWrongFalsely : Prop := fnExactUnitWayRow.holds Try.pinned (OpenSpec.ofChange fnExactUnitWayWrong)

/-- 'laws.FnExactHillKernel': WHATEVER THE INPUT: true; the input reads as it did. -/
def fnExactHillKernelSpec : ChangeSpec := { name := "fnExactHillKernel", fn := fun _ => fun
  | [d1, d2] => { results := [.lit (.bool true)], args := [d1, d2] }
  | _ => none }
def fnExactHillKernelRow : OpenClaim := { program := "ytokpnjliikhecaa", sum := "c165fa450269d52bd55695d10bebaab57b54b4cbe252a194d0db8d89cf0419ee", func := "loop.example/g01308/laws.FnExactHillKernel", spec := "fnExactHillKernel", inPlace := ["math.Float64frombits"], unfollowed := true, recurses := true, apart := false }
def FnExactHillKernelSaid : Prop := fnExactHillKernelRow.holds Try.pinned (OpenSpec.ofChange fnExactHillKernelSpec)

/-- ITS FALSE NEIGHBOUR: 'it returns false'. Refute it at one input. -/
def fnExactHillKernelWrong : ChangeSpec := { name := "fnExactHillKernel", fn := fun _ => fun
  | [d1, d2] => { results := [.lit (.bool false)], args := [d1, d2] }
  | _ => none }
def FnExactHillKernelWrongFalsely : Prop := fnExactHillKernelRow.holds Try.pinned (OpenSpec.ofChange fnExactHillKernelWrong)

/-- 'laws.FnMatrices': WHATEVER THE INPUT: true; the input reads as it did. -/
def fnMatricesSpec : ChangeSpec := { name := "fnMatrices", fn := fun _ => fun
  | [d1, d2] => { results := [.lit (.bool true)], args := [d1, d2] }
  | _ => none }
def fnMatricesRow : OpenClaim := { program := "ytokpnjliikhecaa", sum := "c165fa450269d52bd55695d10bebaab57b54b4cbe252a194d0db8d89cf0419ee", func := "loop.example/g01308/laws.FnMatrices", spec := "fnMatrices", inPlace := ["math.Float64bits"], unfollowed := true, recurses := true, apart := false }
def FnMatricesSaid : Prop := fnMatricesRow.holds Try.pinned (OpenSpec.ofChange fnMatricesSpec)

/-- ITS FALSE NEIGHBOUR: 'it returns false'. Refute it at one input. -/
def fnMatricesWrong : ChangeSpec := { name := "fnMatrices", fn := fun _ => fun
  | [d1, d2] => { results := [.lit (.bool false)], args := [d1, d2] }
  | _ => none }
def FnMatricesWrongFalsely : Prop := fnMatricesRow.holds Try.pinned (OpenSpec.ofChange fnMatricesWrong)

/- THE SECOND FORM. 'bulk': how many values and letters a reading holds, each counted each time it is reached (what is shared counts as often as it is met; a slice's spare places count too). A statement '..UptoSaid' is the law's where the arguments, and the package variables that the reading takes, are together of bulk at most 1048576: NARROWER than '..Said'. Prove '..Said' where nothing that the law and all that it calls make is longer than what came in: it says more and counts as full. Else prove '..UptoSaid'. A law counts once. -/
mutual
def uptoBulk {H : Type} : DataW H → Nat
  | .lit (.string bytes) => bytes.length + 1
  | .lit _ => 1
  | .nil => 1
  | .ptr d => uptoBulk d + 1
  | .slice elems spare => uptoBulkAll elems + uptoBulkAll spare + 1
  | .agg parts => uptoBulkAll parts + 1
  | .iface _ d => uptoBulk d + 1
  | .map entries => uptoBulkEntries entries + 1
  | .held _ => 1
def uptoBulkAll {H : Type} : List (DataW H) → Nat
  | [] => 0
  | d :: r => uptoBulk d + uptoBulkAll r
def uptoBulkEntries {H : Type} : List (Lit × DataW H) → Nat
  | [] => 0
  | x :: r => uptoBulkEntry x + uptoBulkEntries r
def uptoBulkEntry {H : Type} : Lit × DataW H → Nat
  | (.string bytes, d) => bytes.length + uptoBulk d + 1
  | (_, d) => uptoBulk d + 1
 end
def uptoSmall : (H : Type) → List (DataW H) → Bool := fun _ ds => decide (uptoBulkAll ds ≤ 1048576)
def OpenSpec.upto (s : _root_.Go.ChangeSpec) : _root_.Go.OpenSpec := { _root_.Go.OpenSpec.ofChange s with cond := some uptoSmall }

/-- 'laws.FnExactInnerOf', WHERE WHAT IT READS IS OF BULK AT MOST 1048576: true; the input reads as it did. -/
def fnExactInnerOfUptoRow : OpenClaim := { program := "ytokpnjliikhecaa", sum := "c165fa450269d52bd55695d10bebaab57b54b4cbe252a194d0db8d89cf0419ee", func := "loop.example/g01308/laws.FnExactInnerOf", spec := "fnExactInnerOf", unfollowed := true, recurses := true, apart := false, narrowed := true }
def FnExactInnerOfUptoSaid : Prop := fnExactInnerOfUptoRow.holds Try.pinned (OpenSpec.upto fnExactInnerOfSpec)

/-- 'laws.FnExactIsKernel', WHERE WHAT IT READS IS OF BULK AT MOST 1048576: true; the input reads as it did. -/
def fnExactIsKernelUptoRow : OpenClaim := { program := "ytokpnjliikhecaa", sum := "c165fa450269d52bd55695d10bebaab57b54b4cbe252a194d0db8d89cf0419ee", func := "loop.example/g01308/laws.FnExactIsKernel", spec := "fnExactIsKernel", inPlace := ["math.Float64bits", "math.Float64frombits"], unfollowed := true, recurses := true, apart := false, narrowed := true }
def FnExactIsKernelUptoSaid : Prop := fnExactIsKernelUptoRow.holds Try.pinned (OpenSpec.upto fnExactIsKernelSpec)

/-- 'laws.FnExactJoinMatrices', WHERE WHAT IT READS IS OF BULK AT MOST 1048576: true; the input reads as it did. -/
def fnExactJoinMatricesUptoRow : OpenClaim := { program := "ytokpnjliikhecaa", sum := "c165fa450269d52bd55695d10bebaab57b54b4cbe252a194d0db8d89cf0419ee", func := "loop.example/g01308/laws.FnExactJoinMatrices", spec := "fnExactJoinMatrices", unfollowed := true, recurses := true, apart := false, narrowed := true }
def FnExactJoinMatricesUptoSaid : Prop := fnExactJoinMatricesUptoRow.holds Try.pinned (OpenSpec.upto fnExactJoinMatricesSpec)

/-- 'laws.FnExactTurnColor', WHERE WHAT IT READS IS OF BULK AT MOST 1048576: true; the input reads as it did. -/
def fnExactTurnColorUptoRow : OpenClaim := { program := "ytokpnjliikhecaa", sum := "c165fa450269d52bd55695d10bebaab57b54b4cbe252a194d0db8d89cf0419ee", func := "loop.example/g01308/laws.FnExactTurnColor", spec := "fnExactTurnColor", unfollowed := true, recurses := true, apart := false, narrowed := true }
def FnExactTurnColorUptoSaid : Prop := fnExactTurnColorUptoRow.holds Try.pinned (OpenSpec.upto fnExactTurnColorSpec)

/-- 'laws.FnExactFaceOf', WHERE WHAT IT READS IS OF BULK AT MOST 1048576: true; the input reads as it did. -/
def fnExactFaceOfUptoRow : OpenClaim := { program := "ytokpnjliikhecaa", sum := "c165fa450269d52bd55695d10bebaab57b54b4cbe252a194d0db8d89cf0419ee", func := "loop.example/g01308/laws.FnExactFaceOf", spec := "fnExactFaceOf", inPlace := ["math.Float64bits", "math.Float64frombits"], unfollowed := true, recurses := true, apart := false, narrowed := true }
def FnExactFaceOfUptoSaid : Prop := fnExactFaceOfUptoRow.holds Try.pinned (OpenSpec.upto fnExactFaceOfSpec)

/-- 'laws.FnExactBandPowers', WHERE WHAT IT READS IS OF BULK AT MOST 1048576: true; the input reads as it did. -/
def fnExactBandPowersUptoRow : OpenClaim := { program := "ytokpnjliikhecaa", sum := "c165fa450269d52bd55695d10bebaab57b54b4cbe252a194d0db8d89cf0419ee", func := "loop.example/g01308/laws.FnExactBandPowers", spec := "fnExactBandPowers", unfollowed := true, recurses := true, apart := false, narrowed := true }
def FnExactBandPowersUptoSaid : Prop := fnExactBandPowersUptoRow.holds Try.pinned (OpenSpec.upto fnExactBandPowersSpec)

/-- 'laws.FnExactBackMatrix', WHERE WHAT IT READS IS OF BULK AT MOST 1048576: true; the input reads as it did. -/
def fnExactBackMatrixUptoRow : OpenClaim := { program := "ytokpnjliikhecaa", sum := "c165fa450269d52bd55695d10bebaab57b54b4cbe252a194d0db8d89cf0419ee", func := "loop.example/g01308/laws.FnExactBackMatrix", spec := "fnExactBackMatrix", unfollowed := true, recurses := true, apart := false, narrowed := true }
def FnExactBackMatrixUptoSaid : Prop := fnExactBackMatrixUptoRow.holds Try.pinned (OpenSpec.upto fnExactBackMatrixSpec)

/-- 'laws.FnExactUnitWay', WHERE WHAT IT READS IS OF BULK AT MOST 1048576: true; the input reads as it did. -/
def fnExactUnitWayUptoRow : OpenClaim := { program := "ytokpnjliikhecaa", sum := "c165fa450269d52bd55695d10bebaab57b54b4cbe252a194d0db8d89cf0419ee", func := "loop.example/g01308/laws.FnExactUnitWay", spec := "fnExactUnitWay", inPlace := ["math.sqrt"], unfollowed := true, recurses := true, apart := false, narrowed := true }
def FnExactUnitWayUptoSaid : Prop := fnExactUnitWayUptoRow.holds Try.pinned (OpenSpec.upto fnExactUnitWaySpec)

/-- 'laws.FnExactHillKernel', WHERE WHAT IT READS IS OF BULK AT MOST 1048576: true; the input reads as it did. -/
def fnExactHillKernelUptoRow : OpenClaim := { program := "ytokpnjliikhecaa", sum := "c165fa450269d52bd55695d10bebaab57b54b4cbe252a194d0db8d89cf0419ee", func := "loop.example/g01308/laws.FnExactHillKernel", spec := "fnExactHillKernel", inPlace := ["math.Float64frombits"], unfollowed := true, recurses := true, apart := false, narrowed := true }
def FnExactHillKernelUptoSaid : Prop := fnExactHillKernelUptoRow.holds Try.pinned (OpenSpec.upto fnExactHillKernelSpec)

/-- 'laws.FnMatrices', WHERE WHAT IT READS IS OF BULK AT MOST 1048576: true; the input reads as it did. -/
def fnMatricesUptoRow : OpenClaim := { program := "ytokpnjliikhecaa", sum := "c165fa450269d52bd55695d10bebaab57b54b4cbe252a194d0db8d89cf0419ee", func := "loop.example/g01308/laws.FnMatrices", spec := "fnMatrices", inPlace := ["math.Float64bits"], unfollowed := true, recurses := true, apart := false, narrowed := true }
def FnMatricesUptoSaid : Prop := fnMatricesUptoRow.holds Try.pinned (OpenSpec.upto fnMatricesSpec)

end Rows
end Go.Proofs.Ytokpnjliikhecaa
