/- FACES OF A WAY: the reference. -/
import Derived.Test.YtokpnjliikhecaaW21
set_option linter.unusedSimpArgs false
set_option linter.unusedVariables false
set_option linter.unnecessarySimpa false
set_option maxRecDepth 20000
namespace Go.Proofs.Ytokpnjliikhecaa
open Go.RowKit Go.Fl

theorem faceOfS_any (x y z : Nat) (w : World) (wx : Wf .f32 x) (wy : Wf .f32 y) (wz : Wf .f32 z) : Calls Try.prog 29 #[.agg #[.float .f32 x, .float .f32 y, .float .f32 z]] w
    (fun e w' => if isWay (can .f32 x) (can .f32 y) (can .f32 z) = true then ∃ p q, e = .returned (.tuple #[.int .i64 (fN (can .f32 x) (can .f32 y) (can .f32 z)), .float .f32 p, .float .f32 q, .bool true]) ∧ (can .f32 p = quo (fA (can .f32 x) (can .f32 y) (can .f32 z)) (fSize (can .f32 x) (can .f32 y) (can .f32 z)) ∧ can .f32 q = quo (fB (can .f32 x) (can .f32 y) (can .f32 z)) (fSize (can .f32 x) (can .f32 y) (can .f32 z))) ∧ (Wf .f32 p ∧ Wf .f32 q) ∧ Below w.heap.size w w'
      else e = .returned (.tuple #[.int .i64 0, .float .f32 0, .float .f32 0, .bool false]) ∧ Below w.heap.size w w') := by
  cases hB : isWay (can .f32 x) (can .f32 y) (can .f32 z)
  · go_enter Try.func29, Try.ntmps29
    go_wp2_with (first | (refine upon_op rfl ?_; intro r n hr hw; go_simp) | (refine upon_widen Try.underlying22 Try.underlying30 ?_; intro r n hr hw; go_simp) | (go_at_call 48; refine (l06Is_any _ _ _ _).mono ?_; rintro e w' ⟨rfl, hb⟩; obtain ⟨hc, hf⟩ := below_cells hb; have hz := hb.size; (try simp at hz); (try have hz3 := Nat.lt_of_succ_le hz); (try have hz0 : w.heap.size < w'.heap.size := by omega); (try have hz1 : w.heap.size + 1 < w'.heap.size := by omega); (try have hz2 : w.heap.size + 1 + 1 < w'.heap.size := by omega)))
    refine bodyPost_ret (by simp [results, Try.results29, go_sem, *] <;> rfl) rfl ?_
    exact ⟨rfl, (by repeat (with_reducible first | exact Below.refl _ _ | refine below_drewN ?_ _ | refine Below.drew ?_ | refine below_alloc ?_ _ | refine below_set0 ?_ _ _ | refine below_set1 ?_ _ _ | refine below_set2 ?_ _ _ | refine below_set3 ?_ _ _ | refine below_call (by assumption) ?_ | refine below_step (by assumption) (by assumption) ?_))⟩
  · have hf : fin3 (can .f32 x) (can .f32 y) (can .f32 z) = true := by unfold isWay at hB; simp only [Bool.and_eq_true] at hB; exact hB.1
    unfold fin3 at hf
    simp only [Bool.and_eq_true] at hf
    have HV := Lib.hid (fun w => l06FaceOf_any x y z w wx wy wz hf.1.1 hf.1.2 hf.2)
    clear hf
    generalize fN (can .f32 x) (can .f32 y) (can .f32 z) = n at *
    generalize quo (fA (can .f32 x) (can .f32 y) (can .f32 z)) (fSize (can .f32 x) (can .f32 y) (can .f32 z)) = P at *
    generalize quo (fB (can .f32 x) (can .f32 y) (can .f32 z)) (fSize (can .f32 x) (can .f32 y) (can .f32 z)) = Q at *
    go_enter Try.func29, Try.ntmps29
    go_wp2_with (first | (go_at_call 48; refine (l06Is_any _ _ _ _).mono ?_; rintro e w' ⟨rfl, hb⟩; obtain ⟨hc, hf⟩ := below_cells hb; have hz := hb.size; (try simp at hz); (try have hz3 := Nat.lt_of_succ_le hz); (try have hz0 : w.heap.size < w'.heap.size := by omega); (try have hz1 : w.heap.size + 1 < w'.heap.size := by omega); (try have hz2 : w.heap.size + 1 + 1 < w'.heap.size := by omega)) | (go_at_call 66; refine (HV.out _).mono ?_; rintro e w' ⟨p, q, rfl, ⟨hp, hq⟩, ⟨wp, wq⟩, hb⟩; obtain ⟨hc, hf⟩ := below_cells hb; have hz := hb.size; (try simp at hz); (try have hz3 := Nat.lt_of_succ_le hz); (try have hz0 : w.heap.size < w'.heap.size := by omega); (try have hz1 : w.heap.size + 1 < w'.heap.size := by omega); (try have hz2 : w.heap.size + 1 + 1 < w'.heap.size := by omega)))
    refine bodyPost_ret (by simp [results, Try.results29, go_sem, *] <;> rfl) rfl ?_
    exact ⟨_, _, rfl, ⟨hp, hq⟩, ⟨wp, wq⟩, (by repeat (with_reducible first | exact Below.refl _ _ | refine below_drewN ?_ _ | refine Below.drew ?_ | refine below_alloc ?_ _ | refine below_set0 ?_ _ _ | refine below_set1 ?_ _ _ | refine below_set2 ?_ _ _ | refine below_set3 ?_ _ _ | refine below_call (by assumption) ?_ | refine below_step (by assumption) (by assumption) ?_))⟩
end Go.Proofs.Ytokpnjliikhecaa
