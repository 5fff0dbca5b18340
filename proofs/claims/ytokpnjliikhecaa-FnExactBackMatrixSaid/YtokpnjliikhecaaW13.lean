/- BANDS: their powers. -/
import Derived.Test.YtokpnjliikhecaaW12
set_option linter.unusedSimpArgs false
set_option linter.unusedVariables false
set_option linter.unnecessarySimpa false
set_option maxRecDepth 20000
namespace Go.Proofs.Ytokpnjliikhecaa
open Go.RowKit Go.Fl

theorem l02List_any (g cap : Nat) (xs : List Nat) (w : World) (hc : FB w g xs) (hl : xs.length ≤ 1048576) :
    Calls Try.prog 69 #[.slice (some ⟨g, 0, none⟩) xs.length cap] w (fun e w' => ∃ n, w' = w.drewN n ∧ e = .returned (listOr (.slice (some ⟨g, 0, none⟩) xs.length cap) (allFin xs))) := by
  have H := Lib.hid (l02Finite_any g 0 cap xs w hc.fs hl)
  clear hc
  cases hB : allFin xs
  all_goals
    go_enter Try.func69, Try.ntmps69
    go_wp2_with (go_at_call 59; refine H.out.mono ?_; rintro e w' ⟨n, rfl, rfl⟩)
    go_ret2
    exact ⟨_, rfl, rfl⟩
theorem numbersOrFail_any (g cap : Nat) (xs : List Nat) (w : World) (hc : FB w g xs) (hx : WfAll xs) (hl : xs.length ≤ 1048576) :
    Calls Try.prog 73 #[.slice (some ⟨g, 0, none⟩) xs.length cap] w (fun e w' => ∃ n, w' = w.drewN n ∧ e = .returned (listOr (.slice (some ⟨g, 0, none⟩) xs.length cap) (allFin xs))) := by
  have H := Lib.hid (areFinite_any g 0 cap xs w hc.fs hx (by omega))
  have e : xs.all (fun x => isFin .f32 (can .f32 x)) = allFin xs := rfl
  rw [e] at H
  clear hc e
  cases hB : allFin xs
  all_goals
    go_enter Try.func73, Try.ntmps73
    go_wp2_with (go_at_call 85; refine H.out.mono ?_; rintro e w' ⟨n, rfl, rfl⟩)
    go_ret2
    exact ⟨_, rfl, rfl⟩
theorem bandPowersS_any (g : Nat) (xs : List Nat) (w : World) (hc : FB w g xs) (hx : WfAll xs) (hl : xs.length ≤ 1048576) :
    Calls Try.prog 31 #[.slice (some ⟨g, 0, none⟩) xs.length xs.length] w (GivesL w (bandsR xs) (bandsOk xs)) := by
  by_cases hn : xs.length = 9 ∧ allFin xs = true
  · obtain ⟨h9, hf⟩ := hn
    match xs, h9 with
    | [a0, a1, a2, a3, a4, a5, a6, a7, a8], _ =>
    have HC := Lib.hid hc
    have HX := Lib.hid hx
    have Hf := Lib.hid hf
    have hg := hc.lt
    have hc0 : w.cell? ⟨g, 0, none⟩ = some (.float .f32 a0) := hc.cell 0 (by simp)
    clear hc hx hf
    go_enter Try.func31, Try.ntmps31
    go_wp2_with (go_at_call 68; refine (l06Bands_any g 0 _ _ _ HC.out.fs (by simp)).mono ?_; rw [Hf.out]; rintro e w' ⟨n, rfl, rfl⟩)
    refine wp_region_below (fun _ _ _ => True) (by kernel_rfl) (by kernel_rfl) ?_
    repeat first
      | (refine wpLoose_want rfl ?_; refine loose_move _ rfl ?_; simp only [Act.put, Act.eval, List.setIfInBounds_toArray, List.set_cons_succ, List.set_cons_zero, Array.getD_eq_getD_getElem?, List.getElem?_toArray, List.getElem?_cons_succ, List.getElem?_cons_zero, Option.getD_some])
      | (refine wpLoose_want rfl ?_; refine loose_assign _ rfl ?_; simp only [Act.put, Act.eval, List.setIfInBounds_toArray, List.set_cons_succ, List.set_cons_zero, Array.getD_eq_getD_getElem?, List.getElem?_toArray, List.getElem?_cons_succ, List.getElem?_cons_zero, Option.getD_some])
      | (refine wpLoose_want rfl ?_; refine loose_arith _ _ _ _ _ rfl rfl _ _ _ rfl rfl (below_drawn _) (fun r hr hw => ?_); simp only [Act.put, Act.eval, List.setIfInBounds_toArray, List.set_cons_succ, List.set_cons_zero, Array.getD_eq_getD_getElem?, List.getElem?_toArray, List.getElem?_cons_succ, List.getElem?_cons_zero, Option.getD_some])
      | (refine wpLoose_want rfl ?_; apply loose_val; (· (intro w2 hC2; obtain ⟨hc2, hf2⟩ := below_cells hC2; have hcl := (hC2.cell (p := ⟨g, 0, none⟩) hg).trans hc0; go_simp; try rfl)); simp only [Act.put, Act.eval, List.setIfInBounds_toArray, List.set_cons_succ, List.set_cons_zero, Array.getD_eq_getD_getElem?, List.getElem?_toArray, List.getElem?_cons_succ, List.getElem?_cons_zero, Option.getD_some])
    refine wpLoose_nil fun w' hb => ?_
    have HC1 := Lib.hid (FB.up hb (HC.out.drewN n))
    go_wp2_with fail
    refine wp_region_cut [7, 1] (by kernel_rfl) (by kernel_rfl) ?_
    simp only [cuts, List.take_succ_cons, List.take_zero, List.drop_succ_cons, List.drop_zero]
    refine seg_loose (fun _ args v => ∃ r, v = .float .f32 r ∧ Wf .f32 r ∧ (∀ o n c, args = #[.slice (some ⟨g, o, none⟩) n c] → can .f32 r = powF ((List.drop o [a0, a1, a2, a3, a4, a5, a6, a7, a8]).take n))) ?_
    repeat first
      | (refine wpLoose_want rfl ?_; refine loose_move _ rfl ?_; simp only [Act.put, Act.eval, List.setIfInBounds_toArray, List.set_cons_succ, List.set_cons_zero, Array.getD_eq_getD_getElem?, List.getElem?_toArray, List.getElem?_cons_succ, List.getElem?_cons_zero, Option.getD_some])
      | (refine wpLoose_want rfl ?_; apply loose_val; (· (intro w2 hC2; obtain ⟨hc2, hf2⟩ := below_cells hC2; go_simp; try rfl)); simp only [Act.put, Act.eval, List.setIfInBounds_toArray, List.set_cons_succ, List.set_cons_zero, Array.getD_eq_getD_getElem?, List.getElem?_toArray, List.getElem?_cons_succ, List.getElem?_cons_zero, Option.getD_some])
    refine wpLoose_want rfl ?_
    refine loose_callB 70 #[.slice (some ⟨g, 1, none⟩) 3 8] (fun w2 => by go_simp) (fun w2 hC2 => (l06Powers_any g 1 8 [a1, a2, a3] w2 (FS.sub (i := 1) (n := 3) (FB.fs (FB.up hC2 (FB.drew HC1.out)))) (by simp)).mono fun e w3 ⟨r, he, hr, hw, hb3⟩ => ⟨_, he, ⟨r, rfl, hw, fun o n c h => by simp at h; obtain ⟨rfl, rfl, rfl⟩ := h; exact hr⟩, hb3⟩) (fun v hv => ?_)
    obtain ⟨r1, rfl, hw1, hr1⟩ := hv
    have hr1 := hr1 1 3 8 rfl
    simp only [Act.put, Act.eval, List.setIfInBounds_toArray, List.set_cons_succ, List.set_cons_zero, Array.getD_eq_getD_getElem?, List.getElem?_toArray, List.getElem?_cons_succ, List.getElem?_cons_zero, Option.getD_some]
    repeat first
      | (refine wpLoose_want rfl ?_; refine loose_move _ rfl ?_; simp only [Act.put, Act.eval, List.setIfInBounds_toArray, List.set_cons_succ, List.set_cons_zero, Array.getD_eq_getD_getElem?, List.getElem?_toArray, List.getElem?_cons_succ, List.getElem?_cons_zero, Option.getD_some])
      | (refine wpLoose_want rfl ?_; apply loose_val; (· (intro w2 hC2; obtain ⟨hc2, hf2⟩ := below_cells hC2; go_simp; try rfl)); simp only [Act.put, Act.eval, List.setIfInBounds_toArray, List.set_cons_succ, List.set_cons_zero, Array.getD_eq_getD_getElem?, List.getElem?_toArray, List.getElem?_cons_succ, List.getElem?_cons_zero, Option.getD_some])
    refine wpLoose_want rfl ?_
    refine loose_callB 70 #[.slice (some ⟨g, 4, none⟩) 5 5] (fun w2 => by go_simp) (fun w2 hC2 => (l06Powers_any g 4 5 [a4, a5, a6, a7, a8] w2 (FS.drop (i := 4) (FB.fs (FB.up hC2 (FB.drew HC1.out)))) (by simp)).mono fun e w3 ⟨r, he, hr, hw, hb3⟩ => ⟨_, he, ⟨r, rfl, hw, fun o n c h => by simp at h; obtain ⟨rfl, rfl, rfl⟩ := h; exact hr⟩, hb3⟩) (fun v hv => ?_)
    obtain ⟨r2, rfl, hw2, hr2⟩ := hv
    have hr2 := hr2 4 5 5 rfl
    simp only [Act.put, Act.eval, List.setIfInBounds_toArray, List.set_cons_succ, List.set_cons_zero, Array.getD_eq_getD_getElem?, List.getElem?_toArray, List.getElem?_cons_succ, List.getElem?_cons_zero, Option.getD_some]
    refine wpLoose_nil fun w'' hb2 => ?_
    refine seg_one ?_
    go_wp2_with fail
    rw [atNormal_normal]
    have hF : FB _ _ [r, r1, r2] := FB.new3 (w := w'') 22 r r1 r2
    have hz : [r, r1, r2].map (can .f32) = bandsF [a0, a1, a2, a3, a4, a5, a6, a7, a8] := by
      simp only [List.map_cons, List.map_nil, hr, hr1, hr2]; rfl
    have hok : bandsOk [a0, a1, a2, a3, a4, a5, a6, a7, a8] = allFin [r, r1, r2] := by
      unfold bandsOk; rw [Hf.out, allFin_map, hz]; rfl
    have Hok := Lib.hid hok
    have HF := Lib.hid hF
    have Hz := Lib.hid hz
    have Hw := Lib.hid (WfAll.three hw hw1 hw2)
    clear hok hF hz hr hr1 hr2
    refine seg_loose (fun _ _ v => v = listOr (.slice (some ⟨w''.heap.size, 0, none⟩) 3 3) (allFin [r, r1, r2])) ?_
    refine wpLoose_want rfl ?_
    refine loose_callB 69 #[.slice (some ⟨w''.heap.size, 0, none⟩) 3 3] (fun w2 => by go_simp) (fun w2 hC2 => (l02List_any w''.heap.size 3 [r, r1, r2] w2 (FB.up hC2 HF.out) (by simp)).mono fun e w3 ⟨n, hb3, he⟩ => ⟨_, he, rfl, by rw [hb3]; exact (by repeat (with_reducible first | exact Below.refl _ _ | refine below_drewN ?_ _ | refine Below.drew ?_ | refine below_alloc ?_ _ | refine below_set0 ?_ _ _ | refine below_set1 ?_ _ _ | refine below_set2 ?_ _ _ | refine below_set3 ?_ _ _ | refine below_call (by assumption) ?_ | refine below_step (by assumption) (by assumption) ?_))⟩) (fun v hv => ?_)
    obtain rfl := hv
    simp only [Act.put, Act.eval, List.setIfInBounds_toArray, List.set_cons_succ, List.set_cons_zero, Array.getD_eq_getD_getElem?, List.getElem?_toArray, List.getElem?_cons_succ, List.getElem?_cons_zero, Option.getD_some]
    cases hB : allFin [r, r1, r2]
    all_goals
      simp only [listOr, if_true, if_false, Bool.false_eq_true]
      repeat first
        | (refine wpLoose_want rfl ?_; refine loose_assign _ rfl ?_; simp only [Act.put, Act.eval, List.setIfInBounds_toArray, List.set_cons_succ, List.set_cons_zero, Array.getD_eq_getD_getElem?, List.getElem?_toArray, List.getElem?_cons_succ, List.getElem?_cons_zero, Option.getD_some])
        | (refine wpLoose_want rfl ?_; apply loose_val; (· (intro w2 hC2; obtain ⟨hc2, hf2⟩ := below_cells hC2; go_simp; try rfl)); simp only [Act.put, Act.eval, List.setIfInBounds_toArray, List.set_cons_succ, List.set_cons_zero, Array.getD_eq_getD_getElem?, List.getElem?_toArray, List.getElem?_cons_succ, List.getElem?_cons_zero, Option.getD_some])
      refine wpLoose_nil fun w3 hb3 => ?_
      refine seg_done ?_
      go_wp2_with fail
      go_ret2
      first
        | exact givesL_none (Hok.out.trans hB) (by unfold bandsR; rw [Hok.out, hB]; rfl) (by repeat (with_reducible first | exact Below.refl _ _ | refine below_drewN ?_ _ | refine Below.drew ?_ | refine below_alloc ?_ _ | refine below_set0 ?_ _ _ | refine below_set1 ?_ _ _ | refine below_set2 ?_ _ _ | refine below_set3 ?_ _ _ | refine below_call (by assumption) ?_ | refine below_step (by assumption) (by assumption) ?_))
        | exact givesL_some (zs := [r, r1, r2]) (Hok.out.trans hB) (FB.up hb3 HF.out) (by have h1 := hb.size; have h2 := hb2.size; simp at h1 h2; omega) (by rw [Hz.out]; unfold bandsR; rw [Hok.out, hB]; rfl) Hw.out (by repeat (with_reducible first | exact Below.refl _ _ | refine below_drewN ?_ _ | refine Below.drew ?_ | refine below_alloc ?_ _ | refine below_set0 ?_ _ _ | refine below_set1 ?_ _ _ | refine below_set2 ?_ _ _ | refine below_set3 ?_ _ _ | refine below_call (by assumption) ?_ | refine below_step (by assumption) (by assumption) ?_))
  · have hf : (decide (xs.length = 9) && allFin xs) = false := by
      by_cases h9 : xs.length = 9
      · have : ¬ allFin xs = true := fun h => hn ⟨h9, h⟩
        simp [h9, this]
      · simp [h9]
    have Hf := Lib.hid hf
    have HC := Lib.hid hc
    have Hok := Lib.hid (show bandsOk xs = false by unfold bandsOk; rw [hf]; rfl)
    have Hr := Lib.hid (show bandsR xs = [] by unfold bandsR bandsOk; rw [hf]; rfl)
    clear hf hn hc hx
    go_enter Try.func31, Try.ntmps31
    go_wp2_with (go_at_call 68; refine (l06Bands_any g 0 _ _ _ HC.out.fs hl).mono ?_; rw [Hf.out]; rintro e w' ⟨n, rfl, rfl⟩)
    go_ret2
    exact givesL_none Hok.out Hr.out (by repeat (with_reducible first | exact Below.refl _ _ | refine below_drewN ?_ _ | refine Below.drew ?_ | refine below_alloc ?_ _ | refine below_set0 ?_ _ _ | refine below_set1 ?_ _ _ | refine below_set2 ?_ _ _ | refine below_set3 ?_ _ _ | refine below_call (by assumption) ?_ | refine below_step (by assumption) (by assumption) ?_))
set_option maxHeartbeats 1000000 in
theorem bandPowersI_any (g : Nat) (xs : List Nat) (w : World) (hc : FB w g xs) (hx : WfAll xs) (hl : xs.length ≤ 1048576) :
    Calls Try.prog 32 #[.slice (some ⟨g, 0, none⟩) xs.length xs.length] w (GivesL w (bandsR xs) (bandsOk xs)) := by
  by_cases hn : xs.length = 9 ∧ allFin xs = true
  · obtain ⟨i0, hi, hz0, hz1, hz2⟩ := info_parts info_f32
    obtain ⟨h9, hf⟩ := hn
    have HC := Lib.hid hc
    have HX := Lib.hid hx
    have Hf := Lib.hid (show (decide (xs.length = 9) && allFin xs) = true by rw [h9, hf]; rfl)
    have H9 := Lib.hid h9
    clear hc hx hf h9
    go_enter Try.func32, Try.ntmps32
    go_wp2_with (go_at_call 71; refine (areBands_any g 0 _ _ _ HC.out.fs HX.out hl).mono ?_; rw [Hf.out]; rintro e w' ⟨n, rfl, rfl⟩)
    go_loopw [4, 13] (fun v i wr => ∃ (k : Nat) (ys : List Nat), k ≤ xs.length ∧ i = .int .i64 k ∧ ys.length = k ∧ wr.ownsRow w.heap.size 22 1 v k (ys.map (Value.float .f32)) ∧ ys.map (can .f32) = (xs.take k).map (fun x => mul (can .f32 x) (can .f32 x)) ∧ WfAll ys ∧ Below w.heap.size w wr) (fun _ i _ => xs.length - (intOf i).toNat)
    case atStart => exact ⟨0, [], Nat.zero_le _, rfl, rfl, owns_empty _ _ (Nat.le_refl _), by simp, fun x hx => by simp at hx, (by repeat (with_reducible first | exact Below.refl _ _ | refine below_drewN ?_ _ | refine Below.drew ?_ | refine below_alloc ?_ _ | refine below_set0 ?_ _ _ | refine below_set1 ?_ _ _ | refine below_set2 ?_ _ _ | refine below_set3 ?_ _ _ | refine below_call (by assumption) ?_ | refine below_step (by assumption) (by assumption) ?_))⟩
    case round =>
      obtain ⟨k, ys, hk, rfl, hy, hown, hm, hwf, hb⟩ := hrel
      have HO := Lib.hid hown
      have HM := Lib.hid hm
      have HW := Lib.hid hwf
      have HB := Lib.hid hb
      have HY := Lib.hid hy
      have hsz := hb.size
      clear hown hm hwf hb hy
      by_cases hlt : k < xs.length
      · have hcell := (HB.out.cell (p := ⟨g, k, none⟩) HC.out.lt).trans (HC.out.cell k hlt)
        go_wp2_with (first | (go_at_call 72; refine (square_any _ _).mono ?_; rintro e w' ⟨r, n, rfl, rfl, hr, hw⟩) | (at_builtin; refine wpList_append_own _ rfl _ _ 32 rfl w.heap.size 22 i0 (.float .f32 0) 1 4 Try.underlying32 hi hz0 hz1 hz2 rfl (by decide) _ _ _ rfl (owns_drewN (HO.out.alloc _) _) ⟨wr.heap.size, 0, none⟩ 1 1 [.float .f32 r] rfl rfl cell_new1 (one_cell r) (by simp only [maxLen]; omega) (by omega) (by simp; omega) ?_))
        intro v1 w1 hown1 hgrow1 _
        have HO1 := Lib.hid hown1
        have HB1 := Lib.hid (below_append HB.out HO.out hgrow1)
        clear hown1 hgrow1
        go_wp2
        go_roundw
        case rel => exact ⟨k + 1, ys ++ [r], by omega, by go_num, by simp [HY.out], by rw [List.map_append]; exact HO1.out, squares_succ hlt HM.out (by assumption), HW.out.snoc (by assumption), HB1.out⟩
        case measure => simp [intOf]; omega
      · have hk9 : k = 9 := by have := H9.out; omega
        have hO := HO.out
        rw [← HY.out] at hO
        obtain ⟨q, c, rfl, hqc, hqm, hqb, hF⟩ := own_fb hO (by have := HY.out; omega)
        have hy9 : ys.length = 9 := by have := HY.out; omega
        match ys, hy9 with
        | [b0, b1, b2, b3, b4, b5, b6, b7, b8], _ =>
        have hc9 : 9 ≤ c := by simpa using hqc
        have HF := Lib.hid hF
        have hb0 : wr.cell? ⟨q, 0, none⟩ = some (.float .f32 b0) := hF.cell 0 (by simp)
        have hqw := hF.lt
        have HM9 := Lib.hid (show [b0, b1, b2, b3, b4, b5, b6, b7, b8].map (can .f32) = xs.map (fun x => mul (can .f32 x) (can .f32 x)) by have := HM.out; rwa [List.take_of_length_le (by omega)] at this)
        clear hO hF HO hqc
        go_wp2_with fail
        refine wp_region_cut [9, 1] (by kernel_rfl) (by kernel_rfl) ?_
        simp only [cuts, List.take_succ_cons, List.take_zero, List.drop_succ_cons, List.drop_zero]
        refine seg_loose (fun _ args v => ∃ r, v = .float .f32 r ∧ Wf .f32 r ∧ (∀ o n c, args = #[.slice (some ⟨q, o, none⟩) n c] → can .f32 r = sumF ((List.drop o [b0, b1, b2, b3, b4, b5, b6, b7, b8]).take n))) ?_
        repeat first
          | (refine wpLoose_want rfl ?_; refine loose_move _ rfl ?_; simp only [Act.put, Act.eval, List.setIfInBounds_toArray, List.set_cons_succ, List.set_cons_zero, Array.getD_eq_getD_getElem?, List.getElem?_toArray, List.getElem?_cons_succ, List.getElem?_cons_zero, Option.getD_some])
          | (refine wpLoose_want rfl ?_; apply loose_val; (· (intro w2 hC2; obtain ⟨hc2, hf2⟩ := below_cells hC2; have hcl := (hC2.cell (p := ⟨q, 0, none⟩) hqw).trans hb0; go_simp; try rfl)); simp only [Act.put, Act.eval, List.setIfInBounds_toArray, List.set_cons_succ, List.set_cons_zero, Array.getD_eq_getD_getElem?, List.getElem?_toArray, List.getElem?_cons_succ, List.getElem?_cons_zero, Option.getD_some])
        have hcc4 : (4 : Int) ≤ (c : Int) := by omega
        have hcc9 : (9 : Int) ≤ (c : Int) := by omega
        have hcn1 : ¬ c = 1 := by omega
        have hcn4 : ¬ c = 4 := by omega
        (refine wpLoose_want rfl ?_; apply loose_val; (· (intro w2 hC2; obtain ⟨hc2, hf2⟩ := below_cells hC2; go_simp; try rfl)); simp only [Act.put, Act.eval, List.setIfInBounds_toArray, List.set_cons_succ, List.set_cons_zero, Array.getD_eq_getD_getElem?, List.getElem?_toArray, List.getElem?_cons_succ, List.getElem?_cons_zero, Option.getD_some])
        refine wpLoose_want rfl ?_
        refine loose_callB 57 #[.slice (some ⟨q, 1, none⟩) 3 (c - 1)] (fun w2 => by go_simp) (fun w2 hC2 => (sum_any q 1 (c - 1) [b1, b2, b3] w2 (FS.sub (i := 1) (n := 3) (FB.fs (FB.up hC2 (FB.drew HF.out)))) (WfAll.sub (i := 1) (n := 3) HW.out) (by simp)).mono fun e w3 ⟨r, n, he, hw3, hr, hw⟩ => ⟨_, he, ⟨r, rfl, hw, fun o n c h => by simp at h; obtain ⟨rfl, rfl, rfl⟩ := h; exact hr⟩, by rw [hw3]; exact (by repeat (with_reducible first | exact Below.refl _ _ | refine below_drewN ?_ _ | refine Below.drew ?_ | refine below_alloc ?_ _ | refine below_set0 ?_ _ _ | refine below_set1 ?_ _ _ | refine below_set2 ?_ _ _ | refine below_set3 ?_ _ _ | refine below_call (by assumption) ?_ | refine below_step (by assumption) (by assumption) ?_))⟩) (fun v hv => ?_)
        obtain ⟨r1, rfl, hw1, hr1⟩ := hv
        have hr1 := hr1 1 3 _ rfl
        simp only [Act.put, Act.eval, List.setIfInBounds_toArray, List.set_cons_succ, List.set_cons_zero, Array.getD_eq_getD_getElem?, List.getElem?_toArray, List.getElem?_cons_succ, List.getElem?_cons_zero, Option.getD_some]
        repeat first
          | (refine wpLoose_want rfl ?_; refine loose_move _ rfl ?_; simp only [Act.put, Act.eval, List.setIfInBounds_toArray, List.set_cons_succ, List.set_cons_zero, Array.getD_eq_getD_getElem?, List.getElem?_toArray, List.getElem?_cons_succ, List.getElem?_cons_zero, Option.getD_some])
          | (refine wpLoose_want rfl ?_; apply loose_val; (· (intro w2 hC2; obtain ⟨hc2, hf2⟩ := below_cells hC2; go_simp; try rfl)); simp only [Act.put, Act.eval, List.setIfInBounds_toArray, List.set_cons_succ, List.set_cons_zero, Array.getD_eq_getD_getElem?, List.getElem?_toArray, List.getElem?_cons_succ, List.getElem?_cons_zero, Option.getD_some])
        refine wpLoose_want rfl ?_
        refine loose_callB 57 #[.slice (some ⟨q, 4, none⟩) 5 (c - 4)] (fun w2 => by go_simp) (fun w2 hC2 => (sum_any q 4 (c - 4) [b4, b5, b6, b7, b8] w2 (FS.drop (i := 4) (FB.fs (FB.up hC2 (FB.drew HF.out)))) (WfAll.drop (i := 4) HW.out) (by simp)).mono fun e w3 ⟨r, n, he, hw3, hr, hw⟩ => ⟨_, he, ⟨r, rfl, hw, fun o n c h => by simp at h; obtain ⟨rfl, rfl, rfl⟩ := h; exact hr⟩, by rw [hw3]; exact (by repeat (with_reducible first | exact Below.refl _ _ | refine below_drewN ?_ _ | refine Below.drew ?_ | refine below_alloc ?_ _ | refine below_set0 ?_ _ _ | refine below_set1 ?_ _ _ | refine below_set2 ?_ _ _ | refine below_set3 ?_ _ _ | refine below_call (by assumption) ?_ | refine below_step (by assumption) (by assumption) ?_))⟩) (fun v hv => ?_)
        obtain ⟨r2, rfl, hw2, hr2⟩ := hv
        have hr2 := hr2 4 5 _ rfl
        simp only [Act.put, Act.eval, List.setIfInBounds_toArray, List.set_cons_succ, List.set_cons_zero, Array.getD_eq_getD_getElem?, List.getElem?_toArray, List.getElem?_cons_succ, List.getElem?_cons_zero, Option.getD_some]
        refine wpLoose_nil fun w'' hb2 => ?_
        refine seg_one ?_
        go_wp2_with fail
        rw [atNormal_normal]
        have hF3 : FB _ _ [b0, r1, r2] := FB.new3 (w := w'') 22 b0 r1 r2
        have hz : [b0, r1, r2].map (can .f32) = bandsF xs := bands_of_squares H9.out HM9.out hr1 hr2
        have hok : bandsOk xs = allFin [b0, r1, r2] := by
          unfold bandsOk; rw [Hf.out, allFin_map, hz]; rfl
        have Hok := Lib.hid hok
        have HF3 := Lib.hid hF3
        have Hz := Lib.hid hz
        have Hw := Lib.hid (WfAll.three (HW.out b0 (by simp)) hw1 hw2)
        clear hok hF3 hz hr1 hr2
        refine seg_loose (fun _ _ v => v = listOr (.slice (some ⟨w''.heap.size, 0, none⟩) 3 3) (allFin [b0, r1, r2])) ?_
        refine wpLoose_want rfl ?_
        refine loose_callB 73 #[.slice (some ⟨w''.heap.size, 0, none⟩) 3 3] (fun w2 => by go_simp) (fun w2 hC2 => (numbersOrFail_any w''.heap.size 3 [b0, r1, r2] w2 (FB.up hC2 HF3.out) Hw.out (by simp)).mono fun e w3 ⟨n, hb3, he⟩ => ⟨_, he, rfl, by rw [hb3]; exact (by repeat (with_reducible first | exact Below.refl _ _ | refine below_drewN ?_ _ | refine Below.drew ?_ | refine below_alloc ?_ _ | refine below_set0 ?_ _ _ | refine below_set1 ?_ _ _ | refine below_set2 ?_ _ _ | refine below_set3 ?_ _ _ | refine below_call (by assumption) ?_ | refine below_step (by assumption) (by assumption) ?_))⟩) (fun v hv => ?_)
        obtain rfl := hv
        simp only [Act.put, Act.eval, List.setIfInBounds_toArray, List.set_cons_succ, List.set_cons_zero, Array.getD_eq_getD_getElem?, List.getElem?_toArray, List.getElem?_cons_succ, List.getElem?_cons_zero, Option.getD_some]
        cases hB : allFin [b0, r1, r2]
        all_goals
          simp only [listOr, if_true, if_false, Bool.false_eq_true]
          repeat first
            | (refine wpLoose_want rfl ?_; refine loose_assign _ rfl ?_; simp only [Act.put, Act.eval, List.setIfInBounds_toArray, List.set_cons_succ, List.set_cons_zero, Array.getD_eq_getD_getElem?, List.getElem?_toArray, List.getElem?_cons_succ, List.getElem?_cons_zero, Option.getD_some])
            | (refine wpLoose_want rfl ?_; apply loose_val; (· (intro w2 hC2; obtain ⟨hc2, hf2⟩ := below_cells hC2; go_simp; try rfl)); simp only [Act.put, Act.eval, List.setIfInBounds_toArray, List.set_cons_succ, List.set_cons_zero, Array.getD_eq_getD_getElem?, List.getElem?_toArray, List.getElem?_cons_succ, List.getElem?_cons_zero, Option.getD_some])
          refine wpLoose_nil fun w3 hb3 => ?_
          refine seg_done ?_
          go_wp2_with fail
          go_ret2
          have Hb := HB.out
          first
            | exact givesL_none (Hok.out.trans hB) (by unfold bandsR; rw [Hok.out, hB]; rfl) (Below.trans Hb (Below.mono (by repeat (with_reducible first | exact Below.refl _ _ | refine below_drewN ?_ _ | refine Below.drew ?_ | refine below_alloc ?_ _ | refine below_set0 ?_ _ _ | refine below_set1 ?_ _ _ | refine below_set2 ?_ _ _ | refine below_set3 ?_ _ _ | refine below_call (by assumption) ?_ | refine below_step (by assumption) (by assumption) ?_)) Hb.size))
            | exact givesL_some (zs := [b0, r1, r2]) (Hok.out.trans hB) (FB.up hb3 HF3.out) (by have h1 := hb2.size; simp at h1; omega) (by rw [Hz.out]; unfold bandsR; rw [Hok.out, hB]; rfl) Hw.out (Below.trans Hb (Below.mono (by repeat (with_reducible first | exact Below.refl _ _ | refine below_drewN ?_ _ | refine Below.drew ?_ | refine below_alloc ?_ _ | refine below_set0 ?_ _ _ | refine below_set1 ?_ _ _ | refine below_set2 ?_ _ _ | refine below_set3 ?_ _ _ | refine below_call (by assumption) ?_ | refine below_step (by assumption) (by assumption) ?_)) Hb.size))
  · have hf : (decide (xs.length = 9) && allFin xs) = false := by
      by_cases h9 : xs.length = 9
      · have : ¬ allFin xs = true := fun h => hn ⟨h9, h⟩
        simp [h9, this]
      · simp [h9]
    have Hf := Lib.hid hf
    have HC := Lib.hid hc
    have HX := Lib.hid hx
    have Hok := Lib.hid (show bandsOk xs = false by unfold bandsOk; rw [hf]; rfl)
    have Hr := Lib.hid (show bandsR xs = [] by unfold bandsR bandsOk; rw [hf]; rfl)
    clear hf hn hc hx
    go_enter Try.func32, Try.ntmps32
    go_wp2_with (go_at_call 71; refine (areBands_any g 0 _ _ _ HC.out.fs HX.out hl).mono ?_; rw [Hf.out]; rintro e w' ⟨n, rfl, rfl⟩)
    go_ret2
    exact givesL_none Hok.out Hr.out (by repeat (with_reducible first | exact Below.refl _ _ | refine below_drewN ?_ _ | refine Below.drew ?_ | refine below_alloc ?_ _ | refine below_set0 ?_ _ _ | refine below_set1 ?_ _ _ | refine below_set2 ?_ _ _ | refine below_set3 ?_ _ _ | refine below_call (by assumption) ?_ | refine below_step (by assumption) (by assumption) ?_))
end Go.Proofs.Ytokpnjliikhecaa
