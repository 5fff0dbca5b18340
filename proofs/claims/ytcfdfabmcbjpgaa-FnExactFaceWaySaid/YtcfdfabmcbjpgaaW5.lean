/- GREY, FACES, THRESHOLDS. -/
import Derived.Test.YtcfdfabmcbjpgaaW4
import Derived.Test.YtcfdfabmcbjpgaaW3
set_option linter.unusedSimpArgs false
set_option linter.unusedVariables false
namespace Go.Proofs.Ytcfdfabmcbjpgaa
open Go.RowKit Go.Fl

theorem isColor_any (x y z : Nat) (w : World) (hx : Wf .f32 x) (hy : Wf .f32 y) (hz : Wf .f32 z) : Calls Try.prog 39 #[.agg #[.float .f32 x, .float .f32 y, .float .f32 z]] w (GivesB w (fin3 (can .f32 x) (can .f32 y) (can .f32 z))) := by
  unfold fin3
  have ha := fun w c => areFinite_any (xs := [x, y, z]) (w := w) (cap := c) (off := 0) (hx := .three hx hy hz) (hl := by simp)
  rw [all3] at ha
  have Ha := Lib.hid ha
  clear ha hx hy hz
  generalize hB : (isFin .f32 (can .f32 x) && isFin .f32 (can .f32 y) && isFin .f32 (can .f32 z)) = B at *
  clear hB
  go_enter Try.func39, Try.ntmps39
  go_wp2_with (go_at_call 26; refine (Ha.out _ _ _ (FS.three ?_ ?_ ?_)).mono ?_; (· simp); (· simp); (· simp); rintro e w' ⟨n, rfl, rfl⟩)
  all_goals
    go_ret
    exact ⟨by simp_all, (by repeat (with_reducible first | exact Below.refl _ _ | refine below_drewN ?_ _ | refine Below.drew ?_ | refine below_alloc ?_ _ | refine below_set0 ?_ _ _ | refine below_set1 ?_ _ _ | refine below_set2 ?_ _ _ | refine below_set3 ?_ _ _ | refine below_call (by assumption) ?_))⟩
theorem l05Color_any (b x y z : Nat) (w : World) (h0 : w.cell? ⟨b, 0, none⟩ = some (.float .f32 x)) (h1 : w.cell? ⟨b, 1, none⟩ = some (.float .f32 y)) (h2 : w.cell? ⟨b, 2, none⟩ = some (.float .f32 z)) :
    Calls Try.prog 37 #[.pointer (some ⟨b, 0, none⟩)] w (RetB w (fin3 (can .f32 x) (can .f32 y) (can .f32 z))) := by
  unfold fin3
  go_enter Try.func37, Try.ntmps37
  go_wp2_with (first | (refine upon_op rfl ?_; intro r n hr hw; go_simp) | (refine upon_widen Try.underlying22 Try.underlying40 ?_; intro r n hr hw; go_simp) | (go_at_call 48; refine (l01Finite_any _ _).mono ?_; rintro e w' ⟨n, rfl, rfl⟩))
  all_goals
    go_ret
    exact retB_mk (by simp_all)
theorem greyI_any (x y z : Nat) (w : World) (hx : Wf .f32 x) (hy : Wf .f32 y) (hz : Wf .f32 z) : Calls Try.prog 24 #[.agg #[.float .f32 x, .float .f32 y, .float .f32 z]] w (GivesFB .f32 w (greyOr (can .f32 x) (can .f32 y) (can .f32 z)) (greyOk (can .f32 x) (can .f32 y) (can .f32 z))) := by
  unfold greyOr greyOk
  cases hF : fin3 (can .f32 x) (can .f32 y) (can .f32 z)
  · go_enter Try.func24, Try.ntmps24
    go_wp2_with (first | (refine upon_op rfl ?_; intro r n hr hw; go_simp) | (refine upon_widen Try.underlying22 Try.underlying40 ?_; intro r n hr hw; go_simp) | (go_at_call 39; refine (isColor_any _ _ _ _ (by assumption) (by assumption) (by assumption)).mono ?_; rintro e w' ⟨rfl, hb⟩; obtain ⟨hc, hf⟩ := below_cells hb; have hz := hb.size; (try simp at hz); (try have hz0 : w.heap.size < w'.heap.size := by omega); (try have hz1 : w.heap.size + 1 < w'.heap.size := by omega); (try have hz2 : w.heap.size + 1 + 1 < w'.heap.size := by omega)) | (go_at_call 40; refine (numI_any _ _ (by assumption)).mono ?_; rintro e w' ⟨r, n, rfl, rfl, hr, hw⟩))
    go_ret2
    exact ⟨_, rfl, can_zero _, wf_zero _, (by repeat (with_reducible first | exact Below.refl _ _ | refine below_drewN ?_ _ | refine Below.drew ?_ | refine below_alloc ?_ _ | refine below_set0 ?_ _ _ | refine below_set1 ?_ _ _ | refine below_set2 ?_ _ _ | refine below_set3 ?_ _ _ | refine below_call (by assumption) ?_))⟩
  · go_enter Try.func24, Try.ntmps24
    go_wp2_with (first | (refine upon_op rfl ?_; intro r n hr hw; go_simp) | (refine upon_widen Try.underlying22 Try.underlying40 ?_; intro r n hr hw; go_simp) | (go_at_call 39; refine (isColor_any _ _ _ _ (by assumption) (by assumption) (by assumption)).mono ?_; rintro e w' ⟨rfl, hb⟩; obtain ⟨hc, hf⟩ := below_cells hb; have hz := hb.size; (try simp at hz); (try have hz0 : w.heap.size < w'.heap.size := by omega); (try have hz1 : w.heap.size + 1 < w'.heap.size := by omega); (try have hz2 : w.heap.size + 1 + 1 < w'.heap.size := by omega)) | (go_at_call 40; refine (numI_any _ _ (by assumption)).mono ?_; rintro e w' ⟨r, n, rfl, rfl, hr, hw⟩))
    go_ret2
    refine ⟨_, rfl, ?_, by assumption, (by repeat (with_reducible first | exact Below.refl _ _ | refine below_drewN ?_ _ | refine Below.drew ?_ | refine below_alloc ?_ _ | refine below_set0 ?_ _ _ | refine below_set1 ?_ _ _ | refine below_set2 ?_ _ _ | refine below_set3 ?_ _ _ | refine below_call (by assumption) ?_))⟩
    simp only [if_true, grey, *]
theorem greyS_any (x y z : Nat) (w : World) (hx : Wf .f32 x) (hy : Wf .f32 y) (hz : Wf .f32 z) : Calls Try.prog 23 #[.agg #[.float .f32 x, .float .f32 y, .float .f32 z]] w (GivesFB .f32 w (greyOr (can .f32 x) (can .f32 y) (can .f32 z)) (greyOk (can .f32 x) (can .f32 y) (can .f32 z))) := by
  unfold greyOr greyOk
  cases hF : fin3 (can .f32 x) (can .f32 y) (can .f32 z)
  · go_enter Try.func23, Try.ntmps23
    go_wp2_with (first | (refine upon_op rfl ?_; intro r n hr hw; go_simp) | (refine upon_widen Try.underlying22 Try.underlying40 ?_; intro r n hr hw; go_simp) | (go_at_call 37; refine (l05Color_any _ x y z _ ?_ ?_ ?_).mono ?_; (· go_simp); (· go_simp); (· go_simp); rintro e w' ⟨n, rfl, rfl⟩) | (go_at_call 38; refine (numS_any _ _ (by assumption)).mono ?_; rintro e w' ⟨r, n, rfl, rfl, hr, hw⟩))
    go_ret2
    exact ⟨_, rfl, can_zero _, wf_zero _, (by repeat (with_reducible first | exact Below.refl _ _ | refine below_drewN ?_ _ | refine Below.drew ?_ | refine below_alloc ?_ _ | refine below_set0 ?_ _ _ | refine below_set1 ?_ _ _ | refine below_set2 ?_ _ _ | refine below_set3 ?_ _ _ | refine below_call (by assumption) ?_))⟩
  · go_enter Try.func23, Try.ntmps23
    go_wp2_with (first | (refine upon_op rfl ?_; intro r n hr hw; go_simp) | (refine upon_widen Try.underlying22 Try.underlying40 ?_; intro r n hr hw; go_simp) | (go_at_call 37; refine (l05Color_any _ x y z _ ?_ ?_ ?_).mono ?_; (· go_simp); (· go_simp); (· go_simp); rintro e w' ⟨n, rfl, rfl⟩) | (go_at_call 38; refine (numS_any _ _ (by assumption)).mono ?_; rintro e w' ⟨r, n, rfl, rfl, hr, hw⟩))
    go_ret2
    refine ⟨_, rfl, ?_, by assumption, (by repeat (with_reducible first | exact Below.refl _ _ | refine below_drewN ?_ _ | refine Below.drew ?_ | refine below_alloc ?_ _ | refine below_set0 ?_ _ _ | refine below_set1 ?_ _ _ | refine below_set2 ?_ _ _ | refine below_set3 ?_ _ _ | refine below_call (by assumption) ?_))⟩
    simp only [if_true, grey, *]
theorem law_GreyOf (x y z : Nat) (w : World) (wx : Wf .f32 x) (wy : Wf .f32 y) (wz : Wf .f32 z) : Calls Try.prog 8 #[.agg #[.float .f32 x, .float .f32 y, .float .f32 z]] w (GivesB w true) := by
  go_enter Try.func8, Try.ntmps8
  go_wp2_with (first | (refine upon_op rfl ?_; intro r n hr hw; go_simp) | (refine upon_widen Try.underlying22 Try.underlying40 ?_; intro r n hr hw; go_simp) | (go_at_call 13; refine (toColor_any _ _ _ _).mono ?_; rintro e w' ⟨rfl, hb⟩; obtain ⟨hc, hf⟩ := below_cells hb; have hz := hb.size; (try simp at hz); (try have hz0 : w.heap.size < w'.heap.size := by omega); (try have hz1 : w.heap.size + 1 < w'.heap.size := by omega); (try have hz2 : w.heap.size + 1 + 1 < w'.heap.size := by omega)) | (go_at_call 24; refine (greyI_any _ _ _ _ (by assumption) (by assumption) (by assumption)).mono ?_; rintro e w' ⟨r, rfl, hr, hw, hb⟩; obtain ⟨hc, hf⟩ := below_cells hb; have hz := hb.size; (try simp at hz); (try have hz0 : w.heap.size < w'.heap.size := by omega); (try have hz1 : w.heap.size + 1 < w'.heap.size := by omega); (try have hz2 : w.heap.size + 1 + 1 < w'.heap.size := by omega)) | (go_at_call 23; refine (greyS_any _ _ _ _ (by assumption) (by assumption) (by assumption)).mono ?_; rintro e w' ⟨r, rfl, hr, hw, hb⟩; obtain ⟨hc, hf⟩ := below_cells hb; have hz := hb.size; (try simp at hz); (try have hz0 : w.heap.size < w'.heap.size := by omega); (try have hz1 : w.heap.size + 1 < w'.heap.size := by omega); (try have hz2 : w.heap.size + 1 + 1 < w'.heap.size := by omega)) | (go_at_call 19; refine (sameFloat_any _ _ _ (by assumption) (by assumption)).mono ?_; rintro e w' ⟨n, rfl, rfl⟩))
  go_ret
  exact ⟨rfl, (by repeat (with_reducible first | exact Below.refl _ _ | refine below_drewN ?_ _ | refine Below.drew ?_ | refine below_alloc ?_ _ | refine below_set0 ?_ _ _ | refine below_set1 ?_ _ _ | refine below_set2 ?_ _ _ | refine below_set3 ?_ _ _ | refine below_call (by assumption) ?_))⟩
theorem isInside_any (x : Nat) (w : World) : Calls Try.prog 35 #[.float .f32 x] w (RetB w (inside (can .f32 x))) := by
  unfold inside
  go_enter Try.func35, Try.ntmps35
  go_wp2_with (first | (refine upon_op rfl ?_; intro r n hr hw; go_simp) | (refine upon_widen Try.underlying22 Try.underlying40 ?_; intro r n hr hw; go_simp))
  all_goals
    go_ret
    exact retB_mk0 (by simp_all)
theorem l06Place_any (x : Nat) (w : World) : Calls Try.prog 33 #[.float .f32 x] w (RetB w (inside (can .f32 x))) := by
  unfold inside
  go_enter Try.func33, Try.ntmps33
  go_wp2_with (first | (refine upon_op rfl ?_; intro r n hr hw; go_simp) | (refine upon_widen Try.underlying22 Try.underlying40 ?_; intro r n hr hw; go_simp))
  all_goals
    go_ret
    exact retB_mk0 (by simp_all)
theorem faceI_any (f : Int) (x y : Nat) (w : World) (h0 : 0 ≤ f) (h5 : f ≤ 5) : Calls Try.prog 36 #[.int .i64 f, .float .f32 x, .float .f32 y] w (fun e w' => e = .returned (faceV f x y) ∧ Below w.heap.size w w') := by
  obtain rfl | rfl | rfl | rfl | rfl | rfl : f = 0 ∨ f = 1 ∨ f = 2 ∨ f = 3 ∨ f = 4 ∨ f = 5 := by omega
  all_goals
    go_enter Try.func36, Try.ntmps36
    go_wp2_with (first | (refine upon_op rfl ?_; intro r n hr hw; go_simp) | (refine upon_widen Try.underlying22 Try.underlying40 ?_; intro r n hr hw; go_simp))
    exact bodyPost_ret (by simp [results, Try.results36, go_sem, faceV, ofInt_one, ofInt_neg_one]) rfl ⟨rfl, (by repeat (with_reducible first | exact Below.refl _ _ | refine below_drewN ?_ _ | refine Below.drew ?_ | refine below_alloc ?_ _ | refine below_set0 ?_ _ _ | refine below_set1 ?_ _ _ | refine below_set2 ?_ _ _ | refine below_set3 ?_ _ _ | refine below_call (by assumption) ?_))⟩
theorem faceS_any (f : Int) (x y : Nat) (w : World) (h0 : 0 ≤ f) (h5 : f ≤ 5) : Calls Try.prog 34 #[.int .i64 f, .float .f32 x, .float .f32 y] w (fun e w' => e = .returned (faceV f x y) ∧ Below w.heap.size w w') := by
  obtain rfl | rfl | rfl | rfl | rfl | rfl : f = 0 ∨ f = 1 ∨ f = 2 ∨ f = 3 ∨ f = 4 ∨ f = 5 := by omega
  all_goals
    go_enter Try.func34, Try.ntmps34
    go_wp2_with (first | (refine upon_op rfl ?_; intro r n hr hw; go_simp) | (refine upon_widen Try.underlying22 Try.underlying40 ?_; intro r n hr hw; go_simp))
    exact bodyPost_ret (by simp [results, Try.results34, go_sem, faceV, ofInt_one, ofInt_neg_one]) rfl ⟨rfl, (by repeat (with_reducible first | exact Below.refl _ _ | refine below_drewN ?_ _ | refine Below.drew ?_ | refine below_alloc ?_ _ | refine below_set0 ?_ _ _ | refine below_set1 ?_ _ _ | refine below_set2 ?_ _ _ | refine below_set3 ?_ _ _ | refine below_call (by assumption) ?_))⟩
theorem faceWayI_any (f : Int) (x y : Nat) (w : World) : Calls Try.prog 21 #[.int .i64 f, .float .f32 x, .float .f32 y] w (fun e w' => e = .returned (.tuple #[faceR f x y, .bool (faceOk f x y)]) ∧ Below w.heap.size w w') := by
  cases hA : decide (0 ≤ f ∧ f ≤ 5) <;> cases hB : inside (can .f32 x) <;> cases hC : inside (can .f32 y)
  case true.true.true =>
    have hf : 0 ≤ f ∧ f ≤ 5 := by simpa using hA
    have hR : faceR f x y = faceV f x y := by unfold faceR faceOk; rw [hA, hB, hC]; rfl
    have hO : faceOk f x y = true := by unfold faceOk; rw [hA, hB, hC]; rfl
    rw [hR, hO]
    have Hf := Lib.hid hf
    have Ha := Lib.hid hA
    clear hf hR hO hA
    obtain ⟨p, q, r, hp⟩ := faceV_form f x y
    have H := fun w => faceI_any f x y w Hf.out.1 Hf.out.2
    rw [hp] at H
    rw [hp]
    have H' := Lib.hid H
    clear H hp
    go_enter Try.func21, Try.ntmps21
    go_wp2_with (first | (go_at_call 35; refine (isInside_any _ _).mono ?_; rintro e w' ⟨n, rfl, rfl⟩) | (go_at_call 31; refine (between_any _ _ _ _).mono ?_; rw [Ha.out]; rintro e w' ⟨rfl, rfl⟩) | (go_at_call 36; refine (H'.out _).mono ?_; rintro e w' ⟨rfl, hb⟩; obtain ⟨hc, hf⟩ := below_cells hb; have hz := hb.size; (try simp at hz); (try have hz0 : w.heap.size < w'.heap.size := by omega); (try have hz1 : w.heap.size + 1 < w'.heap.size := by omega); (try have hz2 : w.heap.size + 1 + 1 < w'.heap.size := by omega)))
    exact bodyPost_ret (by simp [results, Try.results21, go_sem, *]) rfl ⟨rfl, (by repeat (with_reducible first | exact Below.refl _ _ | refine below_drewN ?_ _ | refine Below.drew ?_ | refine below_alloc ?_ _ | refine below_set0 ?_ _ _ | refine below_set1 ?_ _ _ | refine below_set2 ?_ _ _ | refine below_set3 ?_ _ _ | refine below_call (by assumption) ?_))⟩
  all_goals
    have hR : faceR f x y = .agg #[.float .f32 0, .float .f32 0, .float .f32 0] := by unfold faceR faceOk; rw [hA, hB, hC]; rfl
    have hO : faceOk f x y = false := by unfold faceOk; rw [hA, hB, hC]; rfl
    rw [hR, hO]
    have Ha := Lib.hid hA
    clear hR hO hA
    go_enter Try.func21, Try.ntmps21
    go_wp2_with (first | (go_at_call 35; refine (isInside_any _ _).mono ?_; rintro e w' ⟨n, rfl, rfl⟩) | (go_at_call 31; refine (between_any _ _ _ _).mono ?_; rw [Ha.out]; rintro e w' ⟨rfl, rfl⟩))
    exact bodyPost_ret (by simp [results, Try.results21, go_sem, *]) rfl ⟨rfl, (by repeat (with_reducible first | exact Below.refl _ _ | refine below_drewN ?_ _ | refine Below.drew ?_ | refine below_alloc ?_ _ | refine below_set0 ?_ _ _ | refine below_set1 ?_ _ _ | refine below_set2 ?_ _ _ | refine below_set3 ?_ _ _ | refine below_call (by assumption) ?_))⟩
theorem faceWayS_any (f : Int) (x y : Nat) (w : World) : Calls Try.prog 20 #[.int .i64 f, .float .f32 x, .float .f32 y] w (fun e w' => e = .returned (.tuple #[faceR f x y, .bool (faceOk f x y)]) ∧ Below w.heap.size w w') := by
  cases hA : decide (0 ≤ f ∧ f ≤ 5) <;> cases hB : inside (can .f32 x) <;> cases hC : inside (can .f32 y)
  case true.true.true =>
    have hf : 0 ≤ f ∧ f ≤ 5 := by simpa using hA
    have hR : faceR f x y = faceV f x y := by unfold faceR faceOk; rw [hA, hB, hC]; rfl
    have hO : faceOk f x y = true := by unfold faceOk; rw [hA, hB, hC]; rfl
    rw [hR, hO]
    have Hf := Lib.hid hf
    have Ha := Lib.hid hA
    clear hf hR hO hA
    obtain ⟨p, q, r, hp⟩ := faceV_form f x y
    have H := fun w => faceS_any f x y w Hf.out.1 Hf.out.2
    rw [hp] at H
    rw [hp]
    have H' := Lib.hid H
    clear H hp
    go_enter Try.func20, Try.ntmps20
    go_wp2_with (first | (go_at_call 33; refine (l06Place_any _ _).mono ?_; rintro e w' ⟨n, rfl, rfl⟩) | (go_at_call 29; refine (l00In_any _ _ _ _).mono ?_; rw [Ha.out]; rintro e w' ⟨rfl, rfl⟩) | (go_at_call 34; refine (H'.out _).mono ?_; rintro e w' ⟨rfl, hb⟩; obtain ⟨hc, hf⟩ := below_cells hb; have hz := hb.size; (try simp at hz); (try have hz0 : w.heap.size < w'.heap.size := by omega); (try have hz1 : w.heap.size + 1 < w'.heap.size := by omega); (try have hz2 : w.heap.size + 1 + 1 < w'.heap.size := by omega)))
    exact bodyPost_ret (by simp [results, Try.results20, go_sem, *]) rfl ⟨rfl, (by repeat (with_reducible first | exact Below.refl _ _ | refine below_drewN ?_ _ | refine Below.drew ?_ | refine below_alloc ?_ _ | refine below_set0 ?_ _ _ | refine below_set1 ?_ _ _ | refine below_set2 ?_ _ _ | refine below_set3 ?_ _ _ | refine below_call (by assumption) ?_))⟩
  all_goals
    have hR : faceR f x y = .agg #[.float .f32 0, .float .f32 0, .float .f32 0] := by unfold faceR faceOk; rw [hA, hB, hC]; rfl
    have hO : faceOk f x y = false := by unfold faceOk; rw [hA, hB, hC]; rfl
    rw [hR, hO]
    have Ha := Lib.hid hA
    clear hR hO hA
    go_enter Try.func20, Try.ntmps20
    go_wp2_with (first | (go_at_call 33; refine (l06Place_any _ _).mono ?_; rintro e w' ⟨n, rfl, rfl⟩) | (go_at_call 29; refine (l00In_any _ _ _ _).mono ?_; rw [Ha.out]; rintro e w' ⟨rfl, rfl⟩))
    exact bodyPost_ret (by simp [results, Try.results20, go_sem, *]) rfl ⟨rfl, (by repeat (with_reducible first | exact Below.refl _ _ | refine below_drewN ?_ _ | refine Below.drew ?_ | refine below_alloc ?_ _ | refine below_set0 ?_ _ _ | refine below_set1 ?_ _ _ | refine below_set2 ?_ _ _ | refine below_set3 ?_ _ _ | refine below_call (by assumption) ?_))⟩
end Go.Proofs.Ytcfdfabmcbjpgaa
