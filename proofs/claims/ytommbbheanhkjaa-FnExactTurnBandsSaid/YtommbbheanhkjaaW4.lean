/- INTEGERS AND COMPARISONS THAT ALL LAWS USE. -/
import Derived.Test.YtommbbheanhkjaaW2
set_option linter.unusedSimpArgs false
set_option linter.unusedVariables false
set_option linter.unnecessarySimpa false
set_option maxRecDepth 20000
namespace Go.Proofs.Ytommbbheanhkjaa
open Go.RowKit Go.Fl

theorem l00In_any (n lo hi : Int) (w : World) : Calls Try.prog 71 #[.int .i64 n, .int .i64 lo, .int .i64 hi] w (fun e w' => e = .returned (.bool (decide (lo ≤ n ∧ n ≤ hi))) ∧ w = w') := by
  go_enter Try.func71, Try.ntmps71
  go_wp2
  all_goals
    go_ret
    exact ⟨by first | (simp_all; done) | (simp_all; omega), rfl⟩
theorem between_any (n lo hi : Int) (w : World) : Calls Try.prog 74 #[.int .i64 n, .int .i64 lo, .int .i64 hi] w (fun e w' => e = .returned (.bool (decide (lo ≤ n ∧ n ≤ hi))) ∧ w = w') := by
  go_enter Try.func74, Try.ntmps74
  go_wp2
  all_goals
    go_ret
    exact ⟨by first | (simp_all; done) | (simp_all; omega), rfl⟩
theorem sameFloat_any (a b : Nat) (w : World) (ha : Wf .f64 a) (hb : Wf .f64 b) : Calls Try.prog 30 #[.float .f64 a, .float .f64 b] w (RetB w (can .f64 a == can .f64 b)) := by
  rw [← sameF_iff ha hb]
  unfold sameF
  go_enter Try.func30, Try.ntmps30
  go_wp2_with (first | (refine upon_op rfl ?_; intro r n hr hw; go_simp) | (refine upon_widen Try.underlying22 Try.underlying46 ?_; intro r n hr hw; go_simp))
  all_goals
    go_ret
    first | exact retB_mk (by simp_all) | exact retB_mk0 (by simp_all)
theorem numI_any (x : Nat) (w : World) (hx : Wf .f32 x) : Calls Try.prog 75 #[.float .f32 x] w (RetFB .f32 w (numOr .f32 (can .f32 x)) (isFin .f32 (can .f32 x))) := by
  go_enter Try.func75, Try.ntmps75
  go_wp2_with (first | (refine upon_op rfl ?_; intro r n hr hw; go_simp) | (refine upon_widen Try.underlying22 Try.underlying46 ?_; intro r n hr hw; go_simp) | (go_at_call 55; refine (isFinite_any _ _).mono ?_; rintro e w' ⟨n, rfl, rfl⟩))
  all_goals
    go_ret2
    first | exact retFB_mk (by simp_all) (by simp_all [numOr]) hx | exact retFB_mk (by simp_all) (by simp_all [numOr, can_zero]) (wf_zero _)
theorem numS_any (x : Nat) (w : World) (hx : Wf .f32 x) : Calls Try.prog 79 #[.float .f32 x] w (RetFB .f32 w (numOr .f32 (can .f32 x)) (isFin .f32 (can .f32 x))) := by
  go_enter Try.func79, Try.ntmps79
  go_wp2_with (first | (refine upon_op rfl ?_; intro r n hr hw; go_simp) | (refine upon_widen Try.underlying22 Try.underlying46 ?_; intro r n hr hw; go_simp) | (go_at_call 49; refine (l01Finite_any _ _).mono ?_; rintro e w' ⟨n, rfl, rfl⟩))
  all_goals
    go_ret2
    first | exact retFB_mk (by simp_all) (by simp_all [numOr]) hx | exact retFB_mk (by simp_all) (by simp_all [numOr, can_zero]) (wf_zero _)
end Go.Proofs.Ytommbbheanhkjaa
