/- BANDS, TURNED: both. -/
import Derived.Test.YtommbbheanhkjaaW36
set_option linter.unusedSimpArgs false
set_option linter.unusedVariables false
set_option linter.unnecessarySimpa false
set_option maxRecDepth 20000
namespace Go.Proofs.Ytommbbheanhkjaa
open Go.RowKit Go.Fl

theorem turnBS_any (g : Nat) (xs : List Nat) (t : Nat) (w : World) (hc : FB w g xs) (hx : WfAll xs) (hl : xs.length ≤ 1048576) (wt : Wf .f32 t) :
    Calls Try.prog 20 #[.slice (some ⟨g, 0, none⟩) xs.length xs.length, .float .f32 t] w (GivesL w (tbR xs (can .f32 t)) (tbOk xs (can .f32 t))) := by
  have HC := Lib.hid hc
  have HX := Lib.hid hx
  cases h1 : (decide (xs.length = 9) && allFin xs)
  · have Hok := Lib.hid (show tbOk xs (can .f32 t) = false by unfold tbOk; rw [h1]; rfl)
    have Hr := Lib.hid (show tbR xs (can .f32 t) = [] by unfold tbR; rw [Hok.out]; rfl)
    clear hc hx
    go_enter Try.func20, Try.ntmps20
    go_wp2_with (first | (go_at_call 60; refine (l06Bands_any g 0 _ _ _ HC.out.fs hl).mono ?_; rw [h1]; rintro e w' ⟨n, rfl, rfl⟩) | (go_at_call 49; refine (l01Finite_any _ _).mono ?_; rintro e w' ⟨n, rfl, rfl⟩))
    go_ret2
    exact givesL_none Hok.out Hr.out (by repeat (with_reducible first | exact Below.refl _ _ | refine below_drewN ?_ _ | refine Below.drew ?_ | refine below_alloc ?_ _ | refine below_set0 ?_ _ _ | refine below_set1 ?_ _ _ | refine below_set2 ?_ _ _ | refine below_set3 ?_ _ _ | refine below_call (by assumption) ?_ | refine below_step (by assumption) (by assumption) ?_))
  · cases h2 : isFin .f32 (can .f32 t)
    · have Hok := Lib.hid (show tbOk xs (can .f32 t) = false by unfold tbOk; rw [h1, h2]; rfl)
      have Hr := Lib.hid (show tbR xs (can .f32 t) = [] by unfold tbR; rw [Hok.out]; rfl)
      clear hc hx
      go_enter Try.func20, Try.ntmps20
      go_wp2_with (first | (go_at_call 60; refine (l06Bands_any g 0 _ _ _ HC.out.fs hl).mono ?_; rw [h1]; rintro e w' ⟨n, rfl, rfl⟩) | (go_at_call 49; refine (l01Finite_any _ _).mono ?_; rintro e w' ⟨n, rfl, rfl⟩))
      go_ret2
      exact givesL_none Hok.out Hr.out (by repeat (with_reducible first | exact Below.refl _ _ | refine below_drewN ?_ _ | refine Below.drew ?_ | refine below_alloc ?_ _ | refine below_set0 ?_ _ _ | refine below_set1 ?_ _ _ | refine below_set2 ?_ _ _ | refine below_set3 ?_ _ _ | refine below_call (by assumption) ?_ | refine below_step (by assumption) (by assumption) ?_))
    · have h9 : xs.length = 9 := by simp only [Bool.and_eq_true, decide_eq_true_eq] at h1; exact h1.1
      match xs, h9 with
      | [x0, x1, x2, x3, x4, x5, x6, x7, x8], _ =>
      obtain ⟨i0, hi, hz0, hz1, hz2⟩ := info_parts info_f32
      have ct : can .f32 1073741824 = 1073741824 := by decide +kernel
      have Hok := Lib.hid (show ∀ zs : List Nat, zs.map (can .f32) = tbF [x0, x1, x2, x3, x4, x5, x6, x7, x8] (can .f32 t) → tbOk [x0, x1, x2, x3, x4, x5, x6, x7, x8] (can .f32 t) = allFin zs by
        intro zs hz; unfold tbOk; rw [h1, h2, allFin_map, hz]; rfl)
      have H1 := Lib.hid h1
      clear hc hx h1
      go_enter Try.func20, Try.ntmps20
      go_wp2_with (first | (go_at_call 60; refine (l06Bands_any g 0 _ _ _ HC.out.fs hl).mono ?_; rw [H1.out]; rintro e w' ⟨n, rfl, rfl⟩) | (go_at_call 49; refine (l01Finite_any _ _).mono ?_; rintro e w' ⟨n, rfl, rfl⟩) | (at_builtin; refine wpList_append_own _ rfl _ _ 31 rfl w.heap.size 22 i0 (.float .f32 0) 1 4 Try.underlying31 hi hz0 hz1 hz2 rfl (by decide) _ 0 [] rfl (owns_drewN (owns_empty _ _ (Nat.le_refl _)) _) ⟨g, 0, none⟩ 9 9 ([x0, x1, x2, x3, x4, x5, x6, x7, x8].map (Value.float .f32)) rfl (by simp) (cells_of (FB.drewN (FB.alloc HC.out _) _)) (one_cells _) (by simp only [maxLen]; omega) (by omega) (by simp) ?_))
      intro v1 w1 hown1 hgrow1 _
      obtain ⟨q, c, rfl, hqc, hqm, hqb, hF⟩ := own_fb (ys := [x0, x1, x2, x3, x4, x5, x6, x7, x8]) hown1 (by simp)
      have B0 : Below w.heap.size w w1 := below_step hgrow1 (fun k hk => by cases hk; exact Nat.le_refl _) (below_drewN (below_alloc (Below.refl _ _) _) _)
      have HF := Lib.hid hF
      have HB0 := Lib.hid B0
      clear hown1 hgrow1 hF B0
      go_wp2_with (first | (refine upon_op rfl ?_; intro tw ntw htw wtw; go_simp) | (go_at_call 52; refine (cosS_any _ _).mono ?_; rintro e w' ⟨cw, n1, rfl, rfl, hcw, wcw⟩) | (go_at_call 53; refine (l01Sine_any _ _ (by assumption)).mono ?_; rintro e w' ⟨sw, n2, rfl, rfl, hsw, wsw⟩))
      have ht2 : can .f32 tw = twice (can .f32 t) := by rw [htw, ct]; rfl
      refine (pairS_any 1 3 (.inl ⟨rfl, rfl⟩) q c [x0, x1, x2, x3, x4, x5, x6, x7, x8] cw sw _ (FB.drewN HF.out _) rfl).mono ?_
      rintro e w2 ⟨p1, q1, rfl, F1, ⟨hp1, hq1⟩, ⟨wp1, wq1⟩, G1⟩
      replace F1 : FB w2 q [x0, p1, x2, q1, x4, x5, x6, x7, x8] := F1
      rw [hcw, hsw] at hp1 hq1
      have B1 := Lib.hid (below_step G1 (fun k hk => by cases hk; exact hqb) (below_drewN HB0.out _))
      have HF1 := Lib.hid F1
      clear F1 G1
      go_wp2_with fail
      refine (pairS_any 5 7 (.inr (.inl ⟨rfl, rfl⟩)) q c [x0, p1, x2, q1, x4, x5, x6, x7, x8] cw sw _ HF1.out rfl).mono ?_
      rintro e w3 ⟨p2, q2, rfl, F2, ⟨hp2, hq2⟩, ⟨wp2, wq2⟩, G2⟩
      replace F2 : FB w3 q [x0, p1, x2, q1, x4, p2, x6, q2, x8] := F2
      rw [hcw, hsw] at hp2 hq2
      have B2 := Lib.hid (below_step G2 (fun k hk => by cases hk; exact hqb) B1.out)
      have HF2 := Lib.hid F2
      clear F2 G2 hcw hsw htw
      go_wp2_with (first | (go_at_call 52; refine (cosS_any _ _).mono ?_; rintro e w' ⟨cw2, n3, rfl, rfl, hcw2, wcw2⟩) | (go_at_call 53; refine (l01Sine_any _ _ (by assumption)).mono ?_; rintro e w' ⟨sw2, n4, rfl, rfl, hsw2, wsw2⟩))
      refine (pairS_any 4 8 (.inr (.inr ⟨rfl, rfl⟩)) q c [x0, p1, x2, q1, x4, p2, x6, q2, x8] cw2 sw2 _ (FB.drewN HF2.out _) rfl).mono ?_
      rintro e w4 ⟨p3, q3, rfl, F3, ⟨hp3, hq3⟩, ⟨wp3, wq3⟩, G3⟩
      replace F3 : FB w4 q [x0, p1, x2, q1, p3, p2, x6, q2, q3] := F3
      (try rw [ht2] at hcw2 hsw2)
      rw [hcw2, hsw2] at hp3 hq3
      have B3 := Lib.hid (below_step G3 (fun k hk => by cases hk; exact hqb) (below_drewN B2.out _))
      have HF3 := Lib.hid F3
      clear F3 G3 hcw2 hsw2
      have hz : [x0, p1, x2, q1, p3, p2, x6, q2, q3].map (can .f32) = tbF [x0, x1, x2, x3, x4, x5, x6, x7, x8] (can .f32 t) := by
        simp only [List.map_cons, List.map_nil, hp1, hq1, hp2, hq2, hp3, hq3]; rfl
      have hok := Hok.out _ hz
      have hwf : WfAll [x0, p1, x2, q1, p3, p2, x6, q2, q3] := WfAll.nine (HX.out x0 (by simp)) wp1 (HX.out x2 (by simp)) wq1 wp3 wp2 (HX.out x6 (by simp)) wq2 wq3
      have HZ := Lib.hid hz
      have HOK := Lib.hid hok
      have HW := Lib.hid hwf
      clear hz hok hwf hp1 hq1 hp2 hq2 hp3 hq3
      go_wp2_with fail
      cases hB : allFin [x0, p1, x2, q1, p3, p2, x6, q2, q3]
      all_goals
        refine (l02List_any q c [x0, p1, x2, q1, p3, p2, x6, q2, q3] _ HF3.out (by simp)).mono ?_
        rw [hB]
        rintro e w5 ⟨n5, rfl, rfl⟩
        simp only [listOr, if_true, if_false, Bool.false_eq_true]
        go_wp2_with fail
        go_ret2
        first
          | exact givesL_none (HOK.out.trans hB) (by unfold tbR; rw [HOK.out, hB]; rfl) (below_drewN B3.out _)
          | exact givesL_some (zs := [x0, p1, x2, q1, p3, p2, x6, q2, q3]) (HOK.out.trans hB) (FB.drewN HF3.out _) hqb (by rw [HZ.out]; unfold tbR; rw [HOK.out, hB]; rfl) HW.out (below_drewN B3.out _)
theorem turnBI_any (g : Nat) (xs : List Nat) (t : Nat) (w : World) (hc : FB w g xs) (hx : WfAll xs) (hl : xs.length ≤ 1048576) (wt : Wf .f32 t) :
    Calls Try.prog 22 #[.slice (some ⟨g, 0, none⟩) xs.length xs.length, .float .f32 t] w (GivesL w (tbR xs (can .f32 t)) (tbOk xs (can .f32 t))) := by
  have HC := Lib.hid hc
  have HX := Lib.hid hx
  cases h1 : (decide (xs.length = 9) && allFin xs)
  · have Hok := Lib.hid (show tbOk xs (can .f32 t) = false by unfold tbOk; rw [h1]; rfl)
    have Hr := Lib.hid (show tbR xs (can .f32 t) = [] by unfold tbR; rw [Hok.out]; rfl)
    clear hc hx
    go_enter Try.func22, Try.ntmps22
    go_wp2_with (first | (go_at_call 63; refine (areBands_any g 0 _ _ _ HC.out.fs HX.out hl).mono ?_; rw [h1]; rintro e w' ⟨n, rfl, rfl⟩) | (go_at_call 55; refine (isFinite_any _ _).mono ?_; rintro e w' ⟨n, rfl, rfl⟩))
    go_ret2
    exact givesL_none Hok.out Hr.out (by repeat (with_reducible first | exact Below.refl _ _ | refine below_drewN ?_ _ | refine Below.drew ?_ | refine below_alloc ?_ _ | refine below_set0 ?_ _ _ | refine below_set1 ?_ _ _ | refine below_set2 ?_ _ _ | refine below_set3 ?_ _ _ | refine below_call (by assumption) ?_ | refine below_step (by assumption) (by assumption) ?_))
  · cases h2 : isFin .f32 (can .f32 t)
    · have Hok := Lib.hid (show tbOk xs (can .f32 t) = false by unfold tbOk; rw [h1, h2]; rfl)
      have Hr := Lib.hid (show tbR xs (can .f32 t) = [] by unfold tbR; rw [Hok.out]; rfl)
      clear hc hx
      go_enter Try.func22, Try.ntmps22
      go_wp2_with (first | (go_at_call 63; refine (areBands_any g 0 _ _ _ HC.out.fs HX.out hl).mono ?_; rw [h1]; rintro e w' ⟨n, rfl, rfl⟩) | (go_at_call 55; refine (isFinite_any _ _).mono ?_; rintro e w' ⟨n, rfl, rfl⟩))
      go_ret2
      exact givesL_none Hok.out Hr.out (by repeat (with_reducible first | exact Below.refl _ _ | refine below_drewN ?_ _ | refine Below.drew ?_ | refine below_alloc ?_ _ | refine below_set0 ?_ _ _ | refine below_set1 ?_ _ _ | refine below_set2 ?_ _ _ | refine below_set3 ?_ _ _ | refine below_call (by assumption) ?_ | refine below_step (by assumption) (by assumption) ?_))
    · have h9 : xs.length = 9 := by simp only [Bool.and_eq_true, decide_eq_true_eq] at h1; exact h1.1
      match xs, h9 with
      | [x0, x1, x2, x3, x4, x5, x6, x7, x8], _ =>
      have ct : can .f32 1073741824 = 1073741824 := by decide +kernel
      have Hok := Lib.hid (show ∀ zs : List Nat, zs.map (can .f32) = tbF [x0, x1, x2, x3, x4, x5, x6, x7, x8] (can .f32 t) → tbOk [x0, x1, x2, x3, x4, x5, x6, x7, x8] (can .f32 t) = allFin zs by
        intro zs hz; unfold tbOk; rw [h1, h2, allFin_map, hz]; rfl)
      have H1 := Lib.hid h1
      clear hc hx h1
      go_enter Try.func22, Try.ntmps22
      go_wp2_with (first | (go_at_call 63; refine (areBands_any g 0 _ _ _ HC.out.fs HX.out hl).mono ?_; rw [H1.out]; rintro e w' ⟨n, rfl, rfl⟩) | (go_at_call 55; refine (isFinite_any _ _).mono ?_; rintro e w' ⟨n, rfl, rfl⟩))
      refine (clone_any g 9 [x0, x1, x2, x3, x4, x5, x6, x7, x8] _ (FB.drewN HC.out _) rfl).mono ?_
      rintro e W0 ⟨q, c, rfl, hqb, hF, hB0⟩
      replace hqb : w.heap.size ≤ q := hqb
      replace hB0 : Below w.heap.size w W0 := below_undrew hB0
      have hqW := hF.lt
      have HF := Lib.hid (FB.alloc hF (.cells #[.slice (some ⟨q, 0, none⟩) 9 c] 31))
      have HB0 := Lib.hid (below_alloc hB0 (.cells #[.slice (some ⟨q, 0, none⟩) 9 c] 31))
      have K0 := Lib.hid (show (W0.alloc (.cells #[.slice (some ⟨q, 0, none⟩) 9 c] 31)).cell? ⟨W0.heap.size, 0, none⟩ = some (.slice (some ⟨q, 0, none⟩) 9 c) by go_simp)
      have hne : W0.heap.size ≠ q := by omega
      clear hF hB0
      go_wp2_with fail
      refine (pairI_any 1 3 (.inl ⟨rfl, rfl⟩) W0.heap.size q c [x0, x1, x2, x3, x4, x5, x6, x7, x8] t _ K0.out hqW HF.out rfl wt).mono ?_
      rintro e W1 ⟨p1, q1, rfl, F1, ⟨hp1, hq1⟩, ⟨wp1, wq1⟩, G1⟩
      replace F1 : FB W1 q [x0, p1, x2, q1, x4, x5, x6, x7, x8] := F1
      have B1 := Lib.hid (below_step G1 (fun k hk => by cases hk; exact hqb) HB0.out)
      have K1 := Lib.hid ((grown_cell G1 (WorldLt.of_cell K0.out) hne).trans K0.out)
      have HF1 := Lib.hid F1
      clear F1 G1
      go_wp2_with fail
      refine (pairI_any 5 7 (.inr (.inl ⟨rfl, rfl⟩)) W0.heap.size q c [x0, p1, x2, q1, x4, x5, x6, x7, x8] t _ K1.out hqW HF1.out rfl wt).mono ?_
      rintro e W2 ⟨p2, q2, rfl, F2, ⟨hp2, hq2⟩, ⟨wp2, wq2⟩, G2⟩
      replace F2 : FB W2 q [x0, p1, x2, q1, x4, p2, x6, q2, x8] := F2
      have B2 := Lib.hid (below_step G2 (fun k hk => by cases hk; exact hqb) B1.out)
      have K2 := Lib.hid ((grown_cell G2 (WorldLt.of_cell K1.out) hne).trans K1.out)
      have HF2 := Lib.hid F2
      clear F2 G2
      go_wp2_with (refine upon_op rfl ?_; intro tw ntw htw wtw; go_simp)
      have ht2 : can .f32 tw = twice (can .f32 t) := by rw [htw, ct]; rfl
      have K2' : (W2.drewN ntw).cell? ⟨W0.heap.size, 0, none⟩ = some (.slice (some ⟨q, 0, none⟩) 9 c) := K2.out
      refine (pairI_any 4 8 (.inr (.inr ⟨rfl, rfl⟩)) W0.heap.size q c [x0, p1, x2, q1, x4, p2, x6, q2, x8] tw _ K2' hqW (FB.drewN HF2.out _) rfl wtw).mono ?_
      rintro e W3 ⟨p3, q3, rfl, F3, ⟨hp3, hq3⟩, ⟨wp3, wq3⟩, G3⟩
      replace F3 : FB W3 q [x0, p1, x2, q1, p3, p2, x6, q2, q3] := F3
      have B3 := Lib.hid (below_step G3 (fun k hk => by cases hk; exact hqb) (below_drewN B2.out _))
      have K3 := Lib.hid ((grown_cell G3 (WorldLt.of_cell K2') hne).trans K2')
      have HF3 := Lib.hid F3
      clear F3 G3
      rw [ht2] at hp3 hq3
      clear htw ht2 K2'
      have hz : [x0, p1, x2, q1, p3, p2, x6, q2, q3].map (can .f32) = tbF [x0, x1, x2, x3, x4, x5, x6, x7, x8] (can .f32 t) := by
        simp only [List.map_cons, List.map_nil, hp1, hq1, hp2, hq2, hp3, hq3]; rfl
      have hok := Hok.out _ hz
      have hwf : WfAll [x0, p1, x2, q1, p3, p2, x6, q2, q3] := WfAll.nine (HX.out x0 (by simp)) wp1 (HX.out x2 (by simp)) wq1 wp3 wp2 (HX.out x6 (by simp)) wq2 wq3
      have HZ := Lib.hid hz
      have HOK := Lib.hid hok
      have HW := Lib.hid hwf
      clear hz hok hwf hp1 hq1 hp2 hq2 hp3 hq3
      have k3 := K3.out
      go_wp2_with fail
      cases hB : allFin [x0, p1, x2, q1, p3, p2, x6, q2, q3]
      all_goals
        refine (numbersOrFail_any q c [x0, p1, x2, q1, p3, p2, x6, q2, q3] _ HF3.out HW.out (by simp)).mono ?_
        rw [hB]
        rintro e w5 ⟨n5, rfl, rfl⟩
        simp only [listOr, if_true, if_false, Bool.false_eq_true]
        go_wp2_with fail
        go_ret2
        first
          | exact givesL_none (HOK.out.trans hB) (by unfold tbR; rw [HOK.out, hB]; rfl) (below_drewN B3.out _)
          | exact givesL_some (zs := [x0, p1, x2, q1, p3, p2, x6, q2, q3]) (HOK.out.trans hB) (FB.drewN HF3.out _) hqb (by rw [HZ.out]; unfold tbR; rw [HOK.out, hB]; rfl) HW.out (below_drewN B3.out _)
end Go.Proofs.Ytommbbheanhkjaa
