/- INNER PRODUCTS. -/
import Derived.Test.YtommbbheanhkjaaW10
import Derived.Test.YtommbbheanhkjaaPure5
set_option linter.unusedSimpArgs false
set_option linter.unusedVariables false
set_option linter.unnecessarySimpa false
set_option maxRecDepth 20000
namespace Go.Proofs.Ytommbbheanhkjaa
open Go.RowKit Go.Fl

set_option maxHeartbeats 2000000 in
theorem innerI_any (a b c x y z : Nat) (w : World) : Calls Try.prog 91 #[.agg #[.float .f32 a, .float .f32 b, .float .f32 c], .agg #[.float .f32 x, .float .f32 y, .float .f32 z]] w (GivesF .f32 w (inner (can .f32 a) (can .f32 b) (can .f32 c) (can .f32 x) (can .f32 y) (can .f32 z))) := by
  go_enter Try.func91, Try.ntmps91
  go_wp2_with (first | (refine upon_op rfl ?_; intro r n hr hw; go_simp) | (refine upon_widen Try.underlying22 Try.underlying46 ?_; intro r n hr hw; go_simp))
  go_ret
  refine ⟨_, rfl, ?_, by assumption, (by repeat (with_reducible first | exact Below.refl _ _ | refine below_drewN ?_ _ | refine Below.drew ?_ | refine below_alloc ?_ _ | refine below_set0 ?_ _ _ | refine below_set1 ?_ _ _ | refine below_set2 ?_ _ _ | refine below_set3 ?_ _ _ | refine below_call (by assumption) ?_ | refine below_step (by assumption) (by assumption) ?_))⟩
  unfold Go.Fl.inner
  (repeat (first | (apply Eq.trans; assumption) | with_reducible exact rfl | (refine congr (congrArg _ ?_) ?_)))
set_option maxHeartbeats 2000000 in
theorem innerS_any (a b c x y z : Nat) (w : World) : Calls Try.prog 88 #[.agg #[.float .f32 a, .float .f32 b, .float .f32 c], .agg #[.float .f32 x, .float .f32 y, .float .f32 z]] w (GivesF .f32 w (inner (can .f32 a) (can .f32 b) (can .f32 c) (can .f32 x) (can .f32 y) (can .f32 z))) := by
  go_enter Try.func88, Try.ntmps88
  go_wp2_with (first | (refine upon_op rfl ?_; intro r n hr hw; go_simp) | (refine upon_widen Try.underlying22 Try.underlying46 ?_; intro r n hr hw; go_simp))
  go_ret
  refine ⟨_, rfl, ?_, by assumption, (by repeat (with_reducible first | exact Below.refl _ _ | refine below_drewN ?_ _ | refine Below.drew ?_ | refine below_alloc ?_ _ | refine below_set0 ?_ _ _ | refine below_set1 ?_ _ _ | refine below_set2 ?_ _ _ | refine below_set3 ?_ _ _ | refine below_call (by assumption) ?_ | refine below_step (by assumption) (by assumption) ?_))⟩
  unfold Go.Fl.inner
  (repeat (first | (apply Eq.trans; assumption) | with_reducible exact rfl | (refine congr (congrArg _ ?_) ?_)))
