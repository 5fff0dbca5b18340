/- THE SINE OF TURNS, NARROWED. -/
import Derived.Test.YtommbbheanhkjaaW30
import Derived.Test.YtommbbheanhkjaaPure15
set_option linter.unusedSimpArgs false
set_option linter.unusedVariables false
set_option linter.unnecessarySimpa false
set_option maxRecDepth 20000
namespace Go.Proofs.Ytommbbheanhkjaa
open Go.RowKit Go.Fl

theorem sineWide_nan (y : Nat) (w : World) (h : isFin .f64 (can .f64 y) = false) : Calls Try.prog 104 #[.float .f64 y] w (RetF .f64 w (qnan .f64)) := by
  unfold isFin at h
  go_enter Try.func104, Try.ntmps104
  go_wp2_with (first | (refine upon_op rfl ?_; intro r n hr hw; go_simp) | (go_at_call 123; refine (nanM_any _).mono ?_; rintro e w' ⟨q, n, rfl, rfl, hq, hwq⟩))
  go_ret
  exact retF_mk (by assumption) (by assumption)
theorem sineWide_big (y : Nat) (w : World) (h : isFin .f64 (can .f64 y) = true) (hb : (le .f64 4841369599423283200 (can .f64 y) || le .f64 (can .f64 y) 14064741636278059008) = true) : Calls Try.prog 104 #[.float .f64 y] w (RetF .f64 w 0) := by
  have cb : can .f64 4841369599423283200 = 4841369599423283200 := by decide +kernel
  have cn : can .f64 14064741636278059008 = 14064741636278059008 := by decide +kernel
  unfold isFin at h
  cases h1 : le .f64 4841369599423283200 (can .f64 y)
  · rw [h1] at hb
    simp only [Bool.false_or] at hb
    go_enter Try.func104, Try.ntmps104
    go_wp2_with (first | (refine upon_op rfl ?_; intro r n hr hw; go_simp) | (refine upon_widen Try.underlying22 Try.underlying46 ?_; intro r n hr hw; go_simp))
    go_ret
    exact retF_mk (can_zero _) (wf_zero _)
  · clear hb
    go_enter Try.func104, Try.ntmps104
    go_wp2_with (first | (refine upon_op rfl ?_; intro r n hr hw; go_simp) | (refine upon_widen Try.underlying22 Try.underlying46 ?_; intro r n hr hw; go_simp))
    go_ret
    exact retF_mk (can_zero _) (wf_zero _)
theorem l01Sine_any (x : Nat) (w : World) (hx : Wf .f32 x) : Calls Try.prog 53 #[.float .f32 x] w (RetF .f32 w (sineF (can .f32 x))) := by
  have wx := wf_can hx
  unfold sineF
  cases hf : isFin .f32 (can .f32 x)
  · have h1 := Lib.hid (wide_nan wx hf)
    have e : (if false = true then (if bigW (widen (can .f32 x)) = true then 0 else narrow (sineW (widen (can .f32 x)))) else qnan .f32) = qnan .f32 := rfl
    rw [e]
    clear e hf
    go_enter Try.func53, Try.ntmps53
    go_wp2_with (first | (refine upon_widen Try.underlying22 Try.underlying46 ?_; intro r n hr hw; go_simp) | (go_at_call 104; refine (sineWide_nan _ _ (by rw [hr]; exact h1.out)).mono ?_; rintro e w' ⟨q, n, rfl, rfl, hq, hwq⟩) | (go_at_call 103; refine (l01Narrow_any _ _ (by rw [hq]; exact ok_qnan)).mono ?_; rintro e w' ⟨t, n, rfl, rfl, ht, hwt⟩))
    go_ret
    exact retF_mk (by rw [ht, hq]; decide +kernel) (by assumption)
  · have h1 := Lib.hid (wide_fin wx hf)
    have hnb := Lib.hid (show bad .f64 (widen (can .f32 x)) = false by rw [bad_widen wx]; exact fin_not_bad hf)
    cases hB : bigW (widen (can .f32 x))
    · have e : (if true = true then (if false = true then 0 else narrow (sineW (widen (can .f32 x)))) else qnan .f32) = narrow (sineW (widen (can .f32 x))) := rfl
      rw [e]
      have hb := not_big wx hf hB
      have h2 := big_two wx hf
      rw [hB] at h2
      have h3 : le .f64 4841369599423283200 (widen (can .f32 x)) = false ∧ le .f64 (widen (can .f32 x)) 14064741636278059008 = false := by
        have := h2.symm; simpa [Bool.or_eq_false_iff] using this
      have HS := Lib.hid (fun w => sineWide_any _ w hb h3.1 h3.2)
      have Hok := Lib.hid ((bd_sineW hb).ok (by decide))
      clear e hf h2 h3 hb hB
      generalize hy : widen (can .f32 x) = y at *
      have HY := Lib.hid hy
      clear hy
      go_enter Try.func53, Try.ntmps53
      go_wp2_with (first | (refine upon_widen Try.underlying22 Try.underlying46 ?_; intro r n hr hw; have hry := eq_of_can (hr.trans HY.out) hnb.out; subst hry; go_simp) | (go_at_call 104; refine (HS.out _).mono ?_; rintro e w' ⟨q, n, rfl, rfl, hq, hwq⟩) | (go_at_call 103; refine (l01Narrow_any _ _ (by rw [hq]; exact Hok.out)).mono ?_; rintro e w' ⟨t, n, rfl, rfl, ht, hwt⟩))
      go_ret
      exact retF_mk (by rw [ht, hq]) (by assumption)
    · have h2 := big_two wx hf
      rw [hB] at h2
      have H2 := Lib.hid h2.symm
      have e : (if true = true then (if true = true then 0 else narrow (sineW (widen (can .f32 x)))) else qnan .f32) = 0 := rfl
      rw [e]
      clear e hf h2 hB
      go_enter Try.func53, Try.ntmps53
      go_wp2_with (first | (refine upon_widen Try.underlying22 Try.underlying46 ?_; intro r n hr hw; go_simp) | (go_at_call 104; refine (sineWide_big _ _ (by rw [hr]; exact h1.out) (by rw [hr]; exact H2.out)).mono ?_; rintro e w' ⟨q, n, rfl, rfl, hq, hwq⟩) | (go_at_call 103; refine (l01Narrow_any _ _ (by rw [hq]; decide +kernel)).mono ?_; rintro e w' ⟨t, n, rfl, rfl, ht, hwt⟩))
      go_ret
      exact retF_mk (by rw [ht, hq]; decide +kernel) (by assumption)
theorem sineI_any (x : Nat) (w : World) (hx : Wf .f32 x) : Calls Try.prog 108 #[.float .f32 x] w (RetF .f32 w (sineF (can .f32 x))) := by
  have wx := wf_can hx
  have cb : can .f64 4841369599423283200 = 4841369599423283200 := by decide +kernel
  unfold sineF
  cases hf : isFin .f32 (can .f32 x)
  · have e : (if false = true then (if bigW (widen (can .f32 x)) = true then 0 else narrow (sineW (widen (can .f32 x)))) else qnan .f32) = qnan .f32 := rfl
    rw [e]
    clear e
    go_enter Try.func108, Try.ntmps108
    go_wp2_with (first | (go_at_call 55; refine (isFinite_any _ _).mono ?_; rintro e w' ⟨n, rfl, rfl⟩) | (go_at_call 117; refine (nanI_any _).mono ?_; rintro e w' ⟨q, n, rfl, rfl, hq, hwq⟩))
    go_ret
    exact retF_mk (by assumption) (by assumption)
  · have hnb := Lib.hid (show bad .f64 (widen (can .f32 x)) = false by rw [bad_widen wx]; exact fin_not_bad hf)
    have hcs : can .f64 (size .f64 (widen (can .f32 x))) = size .f64 (widen (can .f32 x)) := can_of_not (by show bad _ _ = false; rw [bad_size]; exact hnb.out)
    cases hB : bigW (widen (can .f32 x))
    · have e : (if true = true then (if false = true then 0 else narrow (sineW (widen (can .f32 x)))) else qnan .f32) = narrow (sineW (widen (can .f32 x))) := rfl
      rw [e]
      have hb := not_big wx hf hB
      have HS := Lib.hid (fun w => sine_any _ w hb)
      have Hok := Lib.hid ((bd_sineW hb).ok (by decide))
      clear e hb
      unfold bigW at hB
      generalize hy : widen (can .f32 x) = y at *
      have HY := Lib.hid hy
      clear hy
      go_enter Try.func108, Try.ntmps108
      go_wp2_with (first | (go_at_call 55; refine (isFinite_any _ _).mono ?_; rintro e w' ⟨n, rfl, rfl⟩) | (refine upon_widen Try.underlying22 Try.underlying46 ?_; intro r n hr hw; have hry := eq_of_can (hr.trans HY.out) hnb.out; subst hry; go_simp) | (go_at_call 126; refine (absM_any _ _ (by assumption)).mono ?_; rintro e w' ⟨rfl, rfl⟩) | (go_at_call 127; refine (HS.out _).mono ?_; rintro e w' ⟨q, n, rfl, rfl, hq, hwq⟩) | (refine upon_narrow Try.underlying46 Try.underlying22 (by rw [hq]; exact Hok.out) ?_; intro t n ht hwt; go_simp))
      go_ret
      exact retF_mk (by rw [ht, hq]) (by assumption)
    · have e : (if true = true then (if true = true then 0 else narrow (sineW (widen (can .f32 x)))) else qnan .f32) = 0 := rfl
      rw [e]
      clear e
      unfold bigW at hB
      generalize hy : widen (can .f32 x) = y at *
      have HY := Lib.hid hy
      clear hy
      go_enter Try.func108, Try.ntmps108
      go_wp2_with (first | (go_at_call 55; refine (isFinite_any _ _).mono ?_; rintro e w' ⟨n, rfl, rfl⟩) | (refine upon_widen Try.underlying22 Try.underlying46 ?_; intro r n hr hw; have hry := eq_of_can (hr.trans HY.out) hnb.out; subst hry; go_simp) | (go_at_call 126; refine (absM_any _ _ (by assumption)).mono ?_; rintro e w' ⟨rfl, rfl⟩))
      go_ret
      exact retF_mk (can_zero _) (wf_zero _)
end Go.Proofs.Ytommbbheanhkjaa
