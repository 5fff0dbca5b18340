/- Ways that functions give; units. -/
import Derived.Test.YtommbbheanhkjaaRoot
set_option linter.unusedSimpArgs false
set_option linter.unusedVariables false
set_option linter.unnecessarySimpa false
set_option maxRecDepth 20000
namespace Go.Fl
open Go.RowKit

/-- A way and a bool, old memory left alone. -/
def GivesW (w : World) (P Q R : Nat) (ok : Bool) (e : Ending) (w' : World) : Prop :=
  ∃ p q r, e = .returned (.tuple #[.agg #[.float .f32 p, .float .f32 q, .float .f32 r], .bool ok]) ∧ (can .f32 p = P ∧ can .f32 q = Q ∧ can .f32 r = R) ∧ (Wf .f32 p ∧ Wf .f32 q ∧ Wf .f32 r) ∧ Below w.heap.size w w'
/-- A way, old memory left alone. -/
def GivesV (w : World) (P Q R : Nat) (e : Ending) (w' : World) : Prop :=
  ∃ p q r, e = .returned (.agg #[.float .f32 p, .float .f32 q, .float .f32 r]) ∧ (can .f32 p = P ∧ can .f32 q = Q ∧ can .f32 r = R) ∧ (Wf .f32 p ∧ Wf .f32 q ∧ Wf .f32 r) ∧ Below w.heap.size w w'
def orZ (b : Bool) (x : Nat) : Nat := if b = true then x else 0
def unitBy (x y z : Nat) : Nat := rootF (inner x y z x y z)
def unitOk (x y z : Nat) : Bool := isWay x y z && isWay (quo x (unitBy x y z)) (quo y (unitBy x y z)) (quo z (unitBy x y z))
def unitR (x y z t : Nat) : Nat := orZ (unitOk x y z) (quo t (unitBy x y z))
@[go_sem] theorem heap_drewN (w : World) (n : Nat) : (w.drewN n).heap = w.heap := rfl
theorem below_undrew {W w1 : World} {n : Nat} (hb : Below (W.drewN n).heap.size (W.drewN n) w1) : Below W.heap.size W w1 := ⟨hb.os, hb.tape, hb.output, hb.size, hb.block⟩
theorem unitOk_fin {x y z : Nat} (hx : Wf .f32 x) (hy : Wf .f32 y) (hz : Wf .f32 z) (h1 : isWay (can .f32 x) (can .f32 y) (can .f32 z) = true) (h2 : isFin .f32 (inner (can .f32 x) (can .f32 y) (can .f32 z) (can .f32 x) (can .f32 y) (can .f32 z)) = false) : unitOk (can .f32 x) (can .f32 y) (can .f32 z) = false := by
  have hf : fin3 (can .f32 x) (can .f32 y) (can .f32 z) = true := by unfold isWay at h1; simp only [Bool.and_eq_true] at h1; exact h1.1
  unfold fin3 at hf
  simp only [Bool.and_eq_true] at hf
  have hi : Wf .f32 (inner (can .f32 x) (can .f32 y) (can .f32 z) (can .f32 x) (can .f32 y) (can .f32 z)) := wf_op _ _ _ _
  have hc : can .f32 (inner (can .f32 x) (can .f32 y) (can .f32 z) (can .f32 x) (can .f32 y) (can .f32 z)) = inner (can .f32 x) (can .f32 y) (can .f32 z) (can .f32 x) (can .f32 y) (can .f32 z) := can_op _ _ _ _
  have := no_unit (wf_can hx) (wf_can hy) (wf_can hz) hi hf.1.1 hf.1.2 hf.2 (by rw [hc]; exact h2)
  rw [hc] at this
  unfold unitOk unitBy
  rw [this, Bool.and_false]
theorem wf_zero3 : Wf .f32 0 ∧ Wf .f32 0 ∧ Wf .f32 0 := ⟨wf_zero _, wf_zero _, wf_zero _⟩
end Go.Fl
