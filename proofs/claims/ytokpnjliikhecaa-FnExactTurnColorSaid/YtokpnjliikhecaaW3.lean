/- WAYS AND COLORS: the laws. -/
import Derived.Test.YtokpnjliikhecaaW2
set_option linter.unusedSimpArgs false
set_option linter.unusedVariables false
set_option linter.unnecessarySimpa false
set_option maxRecDepth 20000
namespace Go.Proofs.Ytokpnjliikhecaa
open Go.RowKit Go.Fl

theorem sameColorI (x y z a b c : Nat) (w : World) (hx : Wf .f32 x) (hy : Wf .f32 y) (hz : Wf .f32 z) (ha : Wf .f32 a) (hb : Wf .f32 b) (hc : Wf .f32 c) :
    Calls Try.prog 47 #[.agg #[.float .f32 x, .float .f32 y, .float .f32 z], .agg #[.float .f32 a, .float .f32 b, .float .f32 c]] w (GivesB w ((can .f32 x == can .f32 a) && (can .f32 y == can .f32 b) && (can .f32 z == can .f32 c))) := by
  generalize hA : (can .f32 x == can .f32 a) = A
  generalize hB : (can .f32 y == can .f32 b) = B
  generalize hC : (can .f32 z == can .f32 c) = C
  have h1 := fun w => sameNumber_any x a w hx ha
  have h2 := fun w => sameNumber_any y b w hy hb
  have h3 := fun w => sameNumber_any z c w hz hc
  rw [hA] at h1
  rw [hB] at h2
  rw [hC] at h3
  have H1 := Lib.hid h1
  have H2 := Lib.hid h2
  have H3 := Lib.hid h3
  clear h1 h2 h3 hA hB hC hx hy hz ha hb hc
  go_enter Try.func47, Try.ntmps47
  go_wp2_with (go_at_call 88; (first | (with_reducible refine (H1.out _).mono ?_) | (with_reducible refine (H2.out _).mono ?_) | (with_reducible refine (H3.out _).mono ?_)); rintro e w' ⟨n, rfl, rfl⟩)
  all_goals
    go_ret
    exact ⟨by simp_all, (by repeat (with_reducible first | exact Below.refl _ _ | refine below_drewN ?_ _ | refine Below.drew ?_ | refine below_alloc ?_ _ | refine below_set0 ?_ _ _ | refine below_set1 ?_ _ _ | refine below_set2 ?_ _ _ | refine below_set3 ?_ _ _ | refine below_call (by assumption) ?_ | refine below_step (by assumption) (by assumption) ?_))⟩
