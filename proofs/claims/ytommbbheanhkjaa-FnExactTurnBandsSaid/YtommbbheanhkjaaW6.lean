/- FACES, THRESHOLDS: the laws. -/
import Derived.Test.YtommbbheanhkjaaW5
import Derived.Test.YtommbbheanhkjaaPure2
set_option linter.unusedSimpArgs false
set_option linter.unusedVariables false
set_option linter.unnecessarySimpa false
set_option maxRecDepth 20000
namespace Go.Proofs.Ytommbbheanhkjaa
open Go.RowKit Go.Fl

theorem eqWay_any (x y z a b c : Nat) (w : World) : Calls Try.prog 17 #[.agg #[.float .f32 x, .float .f32 y, .float .f32 z], .agg #[.float .f32 a, .float .f32 b, .float .f32 c]] w (GivesB w ((widen (can .f32 x) == widen (can .f32 a)) && (widen (can .f32 y) == widen (can .f32 b)) && (widen (can .f32 z) == widen (can .f32 c)))) := by
  go_enter Try.func17, Try.ntmps17
  go_wp2_with (first | (refine upon_op rfl ?_; intro r n hr hw; go_simp) | (refine upon_widen Try.underlying22 Try.underlying46 ?_; intro r n hr hw; go_simp) | (go_at_call 30; refine (sameFloat_any _ _ _ (by assumption) (by assumption)).mono ?_; rintro e w' ⟨n, rfl, rfl⟩))
  all_goals
    go_ret
    refine ⟨?_, (by repeat (with_reducible first | exact Below.refl _ _ | refine below_drewN ?_ _ | refine Below.drew ?_ | refine below_alloc ?_ _ | refine below_set0 ?_ _ _ | refine below_set1 ?_ _ _ | refine below_set2 ?_ _ _ | refine below_set3 ?_ _ _ | refine below_call (by assumption) ?_ | refine below_step (by assumption) (by assumption) ?_))⟩
    simp_all
