/- GREY, FACES, THRESHOLDS. -/
import Derived.Test.YtokpnjliikhecaaW4
import Derived.Test.YtokpnjliikhecaaW3
set_option linter.unusedSimpArgs false
set_option linter.unusedVariables false
set_option linter.unnecessarySimpa false
set_option maxRecDepth 20000
namespace Go.Proofs.Ytokpnjliikhecaa
open Go.RowKit Go.Fl

theorem isColor_any (x y z : Nat) (w : World) (hx : Wf .f32 x) (hy : Wf .f32 y) (hz : Wf .f32 z) : Calls Try.prog 64 #[.agg #[.float .f32 x, .float .f32 y, .float .f32 z]] w (GivesB w (fin3 (can .f32 x) (can .f32 y) (can .f32 z))) := by
  unfold fin3
  have ha := fun w c => areFinite_any (xs := [x, y, z]) (w := w) (cap := c) (off := 0) (hx := .three hx hy hz) (hl := by simp)
  rw [all3] at ha
  have Ha := Lib.hid ha
  clear ha hx hy hz
  generalize hB : (isFin .f32 (can .f32 x) && isFin .f32 (can .f32 y) && isFin .f32 (can .f32 z)) = B at *
  clear hB
  go_enter Try.func64, Try.ntmps64
  go_wp2_with (go_at_call 85; refine (Ha.out _ _ _ (FS.three ?_ ?_ ?_)).mono ?_; (· simp); (· simp); (· simp); rintro e w' ⟨n, rfl, rfl⟩)
  all_goals
    go_ret
    exact ⟨by simp_all, (by repeat (with_reducible first | exact Below.refl _ _ | refine below_drewN ?_ _ | refine Below.drew ?_ | refine below_alloc ?_ _ | refine below_set0 ?_ _ _ | refine below_set1 ?_ _ _ | refine below_set2 ?_ _ _ | refine below_set3 ?_ _ _ | refine below_call (by assumption) ?_ | refine below_step (by assumption) (by assumption) ?_))⟩
theorem l05Color_any (b x y z : Nat) (w : World) (h0 : w.cell? ⟨b, 0, none⟩ = some (.float .f32 x)) (h1 : w.cell? ⟨b, 1, none⟩ = some (.float .f32 y)) (h2 : w.cell? ⟨b, 2, none⟩ = some (.float .f32 z)) :
    Calls Try.prog 62 #[.pointer (some ⟨b, 0, none⟩)] w (RetB w (fin3 (can .f32 x) (can .f32 y) (can .f32 z))) := by
  unfold fin3
  go_enter Try.func62, Try.ntmps62
  go_wp2_with (first | (refine upon_op rfl ?_; intro r n hr hw; go_simp) | (refine upon_widen Try.underlying22 Try.underlying30 ?_; intro r n hr hw; go_simp) | (go_at_call 90; refine (l01Finite_any _ _).mono ?_; rintro e w' ⟨n, rfl, rfl⟩))
  all_goals
    go_ret
    exact retB_mk (by simp_all)
theorem greyI_any (x y z : Nat) (w : World) (hx : Wf .f32 x) (hy : Wf .f32 y) (hz : Wf .f32 z) : Calls Try.prog 45 #[.agg #[.float .f32 x, .float .f32 y, .float .f32 z]] w (GivesFB .f32 w (greyOr (can .f32 x) (can .f32 y) (can .f32 z)) (greyOk (can .f32 x) (can .f32 y) (can .f32 z))) := by
  unfold greyOr greyOk
  cases hF : fin3 (can .f32 x) (can .f32 y) (can .f32 z)
  · go_enter Try.func45, Try.ntmps45
    go_wp2_with (first | (refine upon_op rfl ?_; intro r n hr hw; go_simp) | (refine upon_widen Try.underlying22 Try.underlying30 ?_; intro r n hr hw; go_simp) | (go_at_call 64; refine (isColor_any _ _ _ _ (by assumption) (by assumption) (by assumption)).mono ?_; rintro e w' ⟨rfl, hb⟩; obtain ⟨hc, hf⟩ := below_cells hb; have hz := hb.size; (try simp at hz); (try have hz3 := Nat.lt_of_succ_le hz); (try have hz0 : w.heap.size < w'.heap.size := by omega); (try have hz1 : w.heap.size + 1 < w'.heap.size := by omega); (try have hz2 : w.heap.size + 1 + 1 < w'.heap.size := by omega)) | (go_at_call 52; refine (numI_any _ _ (by assumption)).mono ?_; rintro e w' ⟨r, n, rfl, rfl, hr, hw⟩))
    go_ret2
    exact ⟨_, rfl, can_zero _, wf_zero _, (by repeat (with_reducible first | exact Below.refl _ _ | refine below_drewN ?_ _ | refine Below.drew ?_ | refine below_alloc ?_ _ | refine below_set0 ?_ _ _ | refine below_set1 ?_ _ _ | refine below_set2 ?_ _ _ | refine below_set3 ?_ _ _ | refine below_call (by assumption) ?_ | refine below_step (by assumption) (by assumption) ?_))⟩
  · go_enter Try.func45, Try.ntmps45
    go_wp2_with (first | (refine upon_op rfl ?_; intro r n hr hw; go_simp) | (refine upon_widen Try.underlying22 Try.underlying30 ?_; intro r n hr hw; go_simp) | (go_at_call 64; refine (isColor_any _ _ _ _ (by assumption) (by assumption) (by assumption)).mono ?_; rintro e w' ⟨rfl, hb⟩; obtain ⟨hc, hf⟩ := below_cells hb; have hz := hb.size; (try simp at hz); (try have hz3 := Nat.lt_of_succ_le hz); (try have hz0 : w.heap.size < w'.heap.size := by omega); (try have hz1 : w.heap.size + 1 < w'.heap.size := by omega); (try have hz2 : w.heap.size + 1 + 1 < w'.heap.size := by omega)) | (go_at_call 52; refine (numI_any _ _ (by assumption)).mono ?_; rintro e w' ⟨r, n, rfl, rfl, hr, hw⟩))
    go_ret2
    refine ⟨_, rfl, ?_, by assumption, (by repeat (with_reducible first | exact Below.refl _ _ | refine below_drewN ?_ _ | refine Below.drew ?_ | refine below_alloc ?_ _ | refine below_set0 ?_ _ _ | refine below_set1 ?_ _ _ | refine below_set2 ?_ _ _ | refine below_set3 ?_ _ _ | refine below_call (by assumption) ?_ | refine below_step (by assumption) (by assumption) ?_))⟩
    simp only [if_true, grey, *]
