/- WAYS, TURNED AND TILTED: their parts. -/
import Derived.Test.YtommbbheanhkjaaW31
set_option linter.unusedSimpArgs false
set_option linter.unusedVariables false
set_option linter.unnecessarySimpa false
set_option maxRecDepth 20000
namespace Go.Proofs.Ytommbbheanhkjaa
open Go.RowKit Go.Fl

theorem cosS_any (x : Nat) (w : World) : Calls Try.prog 52 #[.float .f32 x] w (RetF .f32 w (cosF (can .f32 x))) := by
  have c4 : can .f32 1048576000 = 1048576000 := by decide +kernel
  unfold cosF
  go_enter Try.func52, Try.ntmps52
  go_wp2_with (first | (refine upon_op rfl ?_; intro r n hr hw; go_simp) | (refine upon_widen Try.underlying22 Try.underlying46 ?_; intro r n hr hw; go_simp) | (go_at_call 53; refine (l01Sine_any _ _ (by assumption)).mono ?_; rintro e w' ⟨r, n, rfl, rfl, hr, hw⟩))
  go_ret
  exact retF_mk (by simp only [*]) (by assumption)
theorem circle_any (x : Nat) (w : World) (hx : Wf .f32 x) : Calls Try.prog 66 #[.float .f32 x] w (fun e w' => ∃ c s n, e = .returned (.tuple #[.float .f32 c, .float .f32 s]) ∧ w' = w.drewN n ∧ can .f32 c = cosF (can .f32 x) ∧ can .f32 s = sineF (can .f32 x) ∧ Wf .f32 c ∧ Wf .f32 s) := by
  have c4 : can .f32 1048576000 = 1048576000 := by decide +kernel
  unfold cosF
  go_enter Try.func66, Try.ntmps66
  go_wp2_with (first | (refine upon_op rfl ?_; intro r n hr hw; go_simp) | (refine upon_widen Try.underlying22 Try.underlying46 ?_; intro r n hr hw; go_simp) | (go_at_call 108; refine (sineI_any _ _ (by assumption)).mono ?_; rintro e w' ⟨r, n, rfl, rfl, hr, hw⟩))
  refine bodyPost_ret (by simp [results, Try.results66, go_sem, *] <;> rfl) rfl ?_
  exact ⟨_, _, _, rfl, rfl, by simp only [*], by simp only [*], by assumption, by assumption⟩
theorem around_any (c s x y : Nat) (w : World) : Calls Try.prog 67 #[.float .f32 c, .float .f32 s, .float .f32 x, .float .f32 y] w (fun e w' => ∃ p q n, e = .returned (.tuple #[.float .f32 p, .float .f32 q]) ∧ w' = w.drewN n ∧ can .f32 p = rotA (can .f32 c) (can .f32 s) (can .f32 x) (can .f32 y) ∧ can .f32 q = rotB (can .f32 c) (can .f32 s) (can .f32 x) (can .f32 y) ∧ Wf .f32 p ∧ Wf .f32 q) := by
  unfold rotA rotB
  go_enter Try.func67, Try.ntmps67
  go_wp2_with (first | (refine upon_op rfl ?_; intro r n hr hw; go_simp) | (refine upon_widen Try.underlying22 Try.underlying46 ?_; intro r n hr hw; go_simp))
  refine bodyPost_ret (by simp [results, Try.results67, go_sem, *] <;> rfl) rfl ?_
  exact ⟨_, _, _, rfl, rfl, by simp only [*], by simp only [*], by assumption, by assumption⟩
theorem tilted_any (x y z t : Nat) (w : World) (wx : Wf .f32 x) (wt : Wf .f32 t) : Calls Try.prog 57 #[.agg #[.float .f32 x, .float .f32 y, .float .f32 z], .float .f32 t] w (GivesV w (can .f32 x) (rotA (cosF (can .f32 t)) (sineF (can .f32 t)) (can .f32 y) (can .f32 z)) (rotB (cosF (can .f32 t)) (sineF (can .f32 t)) (can .f32 y) (can .f32 z))) := by
  go_enter Try.func57, Try.ntmps57
  go_wp2_with (first | (refine upon_op rfl ?_; intro r n hr hw; go_simp) | (refine upon_widen Try.underlying22 Try.underlying46 ?_; intro r n hr hw; go_simp) | (go_at_call 66; refine (circle_any _ _ (by assumption)).mono ?_; rintro e w' ⟨c, s, n, rfl, rfl, hc0, hs0, wc, ws⟩) | (go_at_call 67; refine (around_any _ _ _ _ _).mono ?_; rintro e w' ⟨p, q, n, rfl, rfl, hp, hq, wp, wq⟩))
  refine bodyPost_ret (by simp [results, Try.results57, go_sem, *] <;> rfl) rfl ?_
  exact ⟨_, _, _, rfl, ⟨by simp only [*], by simp only [*], by simp only [*]⟩, ⟨by assumption, by assumption, by assumption⟩, (by repeat (with_reducible first | exact Below.refl _ _ | refine below_drewN ?_ _ | refine Below.drew ?_ | refine below_alloc ?_ _ | refine below_set0 ?_ _ _ | refine below_set1 ?_ _ _ | refine below_set2 ?_ _ _ | refine below_set3 ?_ _ _ | refine below_call (by assumption) ?_ | refine below_step (by assumption) (by assumption) ?_))⟩
theorem spun_any (x y z t : Nat) (w : World) (wz : Wf .f32 z) (wt : Wf .f32 t) : Calls Try.prog 59 #[.agg #[.float .f32 x, .float .f32 y, .float .f32 z], .float .f32 t] w (GivesV w (rotA (cosF (can .f32 t)) (sineF (can .f32 t)) (can .f32 x) (can .f32 y)) (rotB (cosF (can .f32 t)) (sineF (can .f32 t)) (can .f32 x) (can .f32 y)) (can .f32 z)) := by
  go_enter Try.func59, Try.ntmps59
  go_wp2_with (first | (refine upon_op rfl ?_; intro r n hr hw; go_simp) | (refine upon_widen Try.underlying22 Try.underlying46 ?_; intro r n hr hw; go_simp) | (go_at_call 66; refine (circle_any _ _ (by assumption)).mono ?_; rintro e w' ⟨c, s, n, rfl, rfl, hc0, hs0, wc, ws⟩) | (go_at_call 67; refine (around_any _ _ _ _ _).mono ?_; rintro e w' ⟨p, q, n, rfl, rfl, hp, hq, wp, wq⟩))
  refine bodyPost_ret (by simp [results, Try.results59, go_sem, *] <;> rfl) rfl ?_
  exact ⟨_, _, _, rfl, ⟨by simp only [*], by simp only [*], by simp only [*]⟩, ⟨by assumption, by assumption, by assumption⟩, (by repeat (with_reducible first | exact Below.refl _ _ | refine below_drewN ?_ _ | refine Below.drew ?_ | refine below_alloc ?_ _ | refine below_set0 ?_ _ _ | refine below_set1 ?_ _ _ | refine below_set2 ?_ _ _ | refine below_set3 ?_ _ _ | refine below_call (by assumption) ?_ | refine below_step (by assumption) (by assumption) ?_))⟩
theorem tiltS_any (x y z c s : Nat) (w : World) (wx : Wf .f32 x) : Calls Try.prog 51 #[.agg #[.float .f32 x, .float .f32 y, .float .f32 z], .float .f32 c, .float .f32 s] w (GivesV w (can .f32 x) (rotA (can .f32 c) (can .f32 s) (can .f32 y) (can .f32 z)) (rotB (can .f32 c) (can .f32 s) (can .f32 y) (can .f32 z))) := by
  unfold rotA rotB
  go_enter Try.func51, Try.ntmps51
  go_wp2_with (first | (refine upon_op rfl ?_; intro r n hr hw; go_simp) | (refine upon_widen Try.underlying22 Try.underlying46 ?_; intro r n hr hw; go_simp))
  refine bodyPost_ret (by simp [results, Try.results51, go_sem, *] <;> rfl) rfl ?_
  exact ⟨_, _, _, rfl, ⟨by simp only [*], by simp only [*], by simp only [*]⟩, ⟨by assumption, by assumption, by assumption⟩, (by repeat (with_reducible first | exact Below.refl _ _ | refine below_drewN ?_ _ | refine Below.drew ?_ | refine below_alloc ?_ _ | refine below_set0 ?_ _ _ | refine below_set1 ?_ _ _ | refine below_set2 ?_ _ _ | refine below_set3 ?_ _ _ | refine below_call (by assumption) ?_ | refine below_step (by assumption) (by assumption) ?_))⟩
theorem spinS_any (x y z c s : Nat) (w : World) (wz : Wf .f32 z) : Calls Try.prog 58 #[.agg #[.float .f32 x, .float .f32 y, .float .f32 z], .float .f32 c, .float .f32 s] w (GivesV w (rotA (can .f32 c) (can .f32 s) (can .f32 x) (can .f32 y)) (rotB (can .f32 c) (can .f32 s) (can .f32 x) (can .f32 y)) (can .f32 z)) := by
  unfold rotA rotB
  go_enter Try.func58, Try.ntmps58
  go_wp2_with (first | (refine upon_op rfl ?_; intro r n hr hw; go_simp) | (refine upon_widen Try.underlying22 Try.underlying46 ?_; intro r n hr hw; go_simp))
  refine bodyPost_ret (by simp [results, Try.results58, go_sem, *] <;> rfl) rfl ?_
  exact ⟨_, _, _, rfl, ⟨by simp only [*], by simp only [*], by simp only [*]⟩, ⟨by assumption, by assumption, by assumption⟩, (by repeat (with_reducible first | exact Below.refl _ _ | refine below_drewN ?_ _ | refine Below.drew ?_ | refine below_alloc ?_ _ | refine below_set0 ?_ _ _ | refine below_set1 ?_ _ _ | refine below_set2 ?_ _ _ | refine below_set3 ?_ _ _ | refine below_call (by assumption) ?_ | refine below_step (by assumption) (by assumption) ?_))⟩
end Go.Proofs.Ytommbbheanhkjaa
