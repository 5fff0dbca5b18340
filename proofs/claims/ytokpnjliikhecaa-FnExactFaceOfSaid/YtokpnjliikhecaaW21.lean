/- FACES OF A WAY. -/
import Derived.Test.YtokpnjliikhecaaW15
import Derived.Test.YtokpnjliikhecaaPure9
set_option linter.unusedSimpArgs false
set_option linter.unusedVariables false
set_option linter.unnecessarySimpa false
set_option maxRecDepth 20000
namespace Go.Proofs.Ytokpnjliikhecaa
open Go.RowKit Go.Fl

theorem l02Size_any (x : Nat) (w : World) (hx : Wf .f32 x) (hf : isFin .f32 (can .f32 x) = true) : Calls Try.prog 96 #[.float .f32 x] w (RetF .f32 w (size .f32 (can .f32 x))) := by
  have wx := wf_can hx
  have nb := fin_not_bad hf
  have nb' : bad .f32 x = false := by rw [← bad_can]; exact nb
  have hc := can_of_not nb'
  cases hle : le .f32 (can .f32 x) 0
  · have e : size .f32 (can .f32 x) = can .f32 x := size_pos wx nb hle
    rw [e]
    clear e hc hf wx nb nb'
    go_enter Try.func96, Try.ntmps96
    go_wp2_with (first | (refine upon_op rfl ?_; intro r n hr hw; go_simp) | (refine upon_widen Try.underlying22 Try.underlying30 ?_; intro r n hr hw; go_simp))
    go_ret
    exact retF_mk0 rfl hx
  · have e := zero_sub wx hf hle
    have He := Lib.hid e
    clear e hc hf wx nb nb'
    go_enter Try.func96, Try.ntmps96
    go_wp2_with (first | (refine upon_op rfl ?_; intro r n hr hw; go_simp) | (refine upon_widen Try.underlying22 Try.underlying30 ?_; intro r n hr hw; go_simp))
    go_ret
    exact retF_mk (by rw [← He.out]; assumption) (by assumption)
set_option maxHeartbeats 4000000 in
theorem l06FaceOf_any (x y z : Nat) (w : World) (wx : Wf .f32 x) (wy : Wf .f32 y) (wz : Wf .f32 z) (fx : isFin .f32 (can .f32 x) = true) (fy : isFin .f32 (can .f32 y) = true) (fz : isFin .f32 (can .f32 z) = true) :
    Calls Try.prog 66 #[.agg #[.float .f32 x, .float .f32 y, .float .f32 z]] w (GivesFc w (fN (can .f32 x) (can .f32 y) (can .f32 z)) (quo (fA (can .f32 x) (can .f32 y) (can .f32 z)) (fSize (can .f32 x) (can .f32 y) (can .f32 z))) (quo (fB (can .f32 x) (can .f32 y) (can .f32 z)) (fSize (can .f32 x) (can .f32 y) (can .f32 z)))) := by
  unfold fN fA fB fSize fPart fb2 fs1 fb1
  cases h1 : lt .f32 (size .f32 (can .f32 x)) (size .f32 (can .f32 y))
  all_goals simp only [if_true, if_false, Bool.false_eq_true]
  · cases h2 : lt .f32 (size .f32 (can .f32 x)) (size .f32 (can .f32 z))
    all_goals simp only [if_true, if_false, Bool.false_eq_true]
    · cases h3 : lt .f32 0 (can .f32 x)
      all_goals
        go_enter Try.func66, Try.ntmps66
        go_wp2_with (first | (refine upon_op rfl ?_; intro r n hr hw; go_simp) | (refine upon_widen Try.underlying22 Try.underlying30 ?_; intro r n hr hw; go_simp) | (go_at_call 96; refine (l02Size_any _ _ (by assumption) (by assumption)).mono ?_; rintro e w' ⟨r, n, rfl, rfl, hr, hw⟩))
        refine bodyPost_ret (by simp [results, Try.results66, go_sem, *] <;> rfl) rfl ?_
        exact ⟨_, _, rfl, ⟨by simp only [*], by simp only [*]⟩, ⟨by assumption, by assumption⟩, (by repeat (with_reducible first | exact Below.refl _ _ | refine below_drewN ?_ _ | refine Below.drew ?_ | refine below_alloc ?_ _ | refine below_set0 ?_ _ _ | refine below_set1 ?_ _ _ | refine below_set2 ?_ _ _ | refine below_set3 ?_ _ _ | refine below_call (by assumption) ?_ | refine below_step (by assumption) (by assumption) ?_))⟩
    · cases h3 : lt .f32 0 (can .f32 z)
      all_goals
        go_enter Try.func66, Try.ntmps66
        go_wp2_with (first | (refine upon_op rfl ?_; intro r n hr hw; go_simp) | (refine upon_widen Try.underlying22 Try.underlying30 ?_; intro r n hr hw; go_simp) | (go_at_call 96; refine (l02Size_any _ _ (by assumption) (by assumption)).mono ?_; rintro e w' ⟨r, n, rfl, rfl, hr, hw⟩))
        refine bodyPost_ret (by simp [results, Try.results66, go_sem, *] <;> rfl) rfl ?_
        exact ⟨_, _, rfl, ⟨by simp only [*], by simp only [*]⟩, ⟨by assumption, by assumption⟩, (by repeat (with_reducible first | exact Below.refl _ _ | refine below_drewN ?_ _ | refine Below.drew ?_ | refine below_alloc ?_ _ | refine below_set0 ?_ _ _ | refine below_set1 ?_ _ _ | refine below_set2 ?_ _ _ | refine below_set3 ?_ _ _ | refine below_call (by assumption) ?_ | refine below_step (by assumption) (by assumption) ?_))⟩
  · cases h2 : lt .f32 (size .f32 (can .f32 y)) (size .f32 (can .f32 z))
    all_goals simp only [if_true, if_false, Bool.false_eq_true]
    · cases h3 : lt .f32 0 (can .f32 y)
      all_goals
        go_enter Try.func66, Try.ntmps66
        go_wp2_with (first | (refine upon_op rfl ?_; intro r n hr hw; go_simp) | (refine upon_widen Try.underlying22 Try.underlying30 ?_; intro r n hr hw; go_simp) | (go_at_call 96; refine (l02Size_any _ _ (by assumption) (by assumption)).mono ?_; rintro e w' ⟨r, n, rfl, rfl, hr, hw⟩))
        refine bodyPost_ret (by simp [results, Try.results66, go_sem, *] <;> rfl) rfl ?_
        exact ⟨_, _, rfl, ⟨by simp only [*], by simp only [*]⟩, ⟨by assumption, by assumption⟩, (by repeat (with_reducible first | exact Below.refl _ _ | refine below_drewN ?_ _ | refine Below.drew ?_ | refine below_alloc ?_ _ | refine below_set0 ?_ _ _ | refine below_set1 ?_ _ _ | refine below_set2 ?_ _ _ | refine below_set3 ?_ _ _ | refine below_call (by assumption) ?_ | refine below_step (by assumption) (by assumption) ?_))⟩
    · cases h3 : lt .f32 0 (can .f32 z)
      all_goals
        go_enter Try.func66, Try.ntmps66
        go_wp2_with (first | (refine upon_op rfl ?_; intro r n hr hw; go_simp) | (refine upon_widen Try.underlying22 Try.underlying30 ?_; intro r n hr hw; go_simp) | (go_at_call 96; refine (l02Size_any _ _ (by assumption) (by assumption)).mono ?_; rintro e w' ⟨r, n, rfl, rfl, hr, hw⟩))
        refine bodyPost_ret (by simp [results, Try.results66, go_sem, *] <;> rfl) rfl ?_
        exact ⟨_, _, rfl, ⟨by simp only [*], by simp only [*]⟩, ⟨by assumption, by assumption⟩, (by repeat (with_reducible first | exact Below.refl _ _ | refine below_drewN ?_ _ | refine Below.drew ?_ | refine below_alloc ?_ _ | refine below_set0 ?_ _ _ | refine below_set1 ?_ _ _ | refine below_set2 ?_ _ _ | refine below_set3 ?_ _ _ | refine below_call (by assumption) ?_ | refine below_step (by assumption) (by assumption) ?_))⟩
end Go.Proofs.Ytokpnjliikhecaa
