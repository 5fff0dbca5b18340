/- MATRICES: the program's inverse. -/
import Derived.Test.YtokpnjliikhecaaW17
set_option linter.unusedSimpArgs false
set_option linter.unusedVariables false
set_option linter.unnecessarySimpa false
set_option maxRecDepth 20000
namespace Go.Proofs.Ytokpnjliikhecaa
open Go.RowKit Go.Fl

set_option maxHeartbeats 8000000 in
theorem backI_any (g : Nat) (xs : List Nat) (w : World) (hc : FB w g xs) (hx : WfAll xs) (hl : xs.length ≤ 1048576) :
    Calls Try.prog 34 #[.slice (some ⟨g, 0, none⟩) xs.length xs.length] w (GivesL w (backR xs) (backOk xs)) := by
  cases hM : isMat xs
  · have HM := Lib.hid hM
    have HC := Lib.hid hc
    have HX := Lib.hid hx
    have Hok := Lib.hid (backOk_mat hM).1
    have Hr := Lib.hid (backOk_mat hM).2
    clear hM hc hx
    go_enter Try.func34, Try.ntmps34
    go_wp2_with (go_at_call 60; refine (isMatrix_any g 0 _ _ _ (FB.fs (FB.up (by repeat (with_reducible first | exact Below.refl _ _ | refine below_drewN ?_ _ | refine Below.drew ?_ | refine below_alloc ?_ _ | refine below_set0 ?_ _ _ | refine below_set1 ?_ _ _ | refine below_set2 ?_ _ _ | refine below_set3 ?_ _ _ | refine below_call (by assumption) ?_ | refine below_step (by assumption) (by assumption) ?_)) HC.out)) HX.out hl).mono ?_; rw [HM.out]; rintro e w' ⟨n, rfl, rfl⟩)
    go_ret2
    exact givesL_none Hok.out Hr.out (by repeat (with_reducible first | exact Below.refl _ _ | refine below_drewN ?_ _ | refine Below.drew ?_ | refine below_alloc ?_ _ | refine below_set0 ?_ _ _ | refine below_set1 ?_ _ _ | refine below_set2 ?_ _ _ | refine below_set3 ?_ _ _ | refine below_call (by assumption) ?_ | refine below_step (by assumption) (by assumption) ?_))
  · have h9 : xs.length = 9 := by unfold isMat at hM; simp at hM; exact hM.1
    have HM := Lib.hid hM
    have HC := Lib.hid hc
    have HX := Lib.hid hx
    have hX : ∀ (i j k l : Nat) (W : World), W.cell? ⟨w.heap.size, 0, none⟩ = some (.slice (some ⟨g, 0, none⟩) 9 9) → FB W g xs → Below w.heap.size w W → i < 9 → j < 9 → k < 9 → l < 9 →
        Calls Try.prog 75 #[.int .i64 i, .int .i64 j, .int .i64 k, .int .i64 l, .pointer (some ⟨w.heap.size, 0, none⟩)] W
          (fun e w' => ∃ r, e = .returned (.float .f32 r) ∧ can .f32 r = lessAt xs i j k l ∧ Wf .f32 r ∧ w'.cell? ⟨w.heap.size, 0, none⟩ = some (.slice (some ⟨g, 0, none⟩) 9 9) ∧ FB w' g xs ∧ Below w.heap.size w w') := fun i j k l W h1 h2 h3 hi hj hk hl =>
      (cross_any i j k l w.heap.size g xs W (by rw [h9]; exact h1) h2 (by omega) (by omega) (by omega) (by omega)).mono fun e w' ⟨r, he, hr, hw, hb⟩ =>
        ⟨r, he, hr, hw, (hb.cell (p := ⟨w.heap.size, 0, none⟩) (WorldLt.of_cell h1)).trans h1, FB.up hb h2, h3.trans (hb.mono h3.size)⟩
    have HX9 := Lib.hid hX
    clear hM hc hx hX
    rw [h9]
    go_enter Try.func34, Try.ntmps34
    go_wp2_with (go_at_call 60; have hI := fun w2 (h : FB w2 g xs) => isMatrix_any g 0 9 xs w2 h.fs HX.out hl; rw [h9] at hI; refine (hI _ (FB.up (by repeat (with_reducible first | exact Below.refl _ _ | refine below_drewN ?_ _ | refine Below.drew ?_ | refine below_alloc ?_ _ | refine below_set0 ?_ _ _ | refine below_set1 ?_ _ _ | refine below_set2 ?_ _ _ | refine below_set3 ?_ _ _ | refine below_call (by assumption) ?_ | refine below_step (by assumption) (by assumption) ?_)) HC.out)).mono ?_; rw [HM.out]; rintro e w' ⟨n, rfl, rfl⟩)
    refine (HX9.out 4 8 5 7 _ (by simp [go_sem]) (FB.up (by repeat (with_reducible first | exact Below.refl _ _ | refine below_drewN ?_ _ | refine Below.drew ?_ | refine below_alloc ?_ _ | refine below_set0 ?_ _ _ | refine below_set1 ?_ _ _ | refine below_set2 ?_ _ _ | refine below_set3 ?_ _ _ | refine below_call (by assumption) ?_ | refine below_step (by assumption) (by assumption) ?_)) HC.out) (by repeat (with_reducible first | exact Below.refl _ _ | refine below_drewN ?_ _ | refine Below.drew ?_ | refine below_alloc ?_ _ | refine below_set0 ?_ _ _ | refine below_set1 ?_ _ _ | refine below_set2 ?_ _ _ | refine below_set3 ?_ _ _ | refine below_call (by assumption) ?_ | refine below_step (by assumption) (by assumption) ?_)) (by decide) (by decide) (by decide) (by decide)).mono ?_
    rintro e W1 ⟨p, rfl, hp, wp, k1, f1, b1⟩
    go_wp2_with fail
    refine (HX9.out 5 6 3 8 _ k1 f1 b1 (by decide) (by decide) (by decide) (by decide)).mono ?_
    rintro e W2 ⟨q, rfl, hq, wq, k2, f2, b2⟩
    go_wp2_with fail
    refine (HX9.out 3 7 4 6 _ k2 f2 b2 (by decide) (by decide) (by decide) (by decide)).mono ?_
    rintro e W3 ⟨r, rfl, hr, wr, k3, f3, b3⟩
    have c0 : W3.cell? ⟨g, 0, none⟩ = some (.float .f32 (xs.getD 0 0)) := (f3.cell 0 (by omega)).trans (by simp [h9])
    have c1 : W3.cell? ⟨g, 1, none⟩ = some (.float .f32 (xs.getD 1 0)) := (f3.cell 1 (by omega)).trans (by simp [h9])
    have c2 : W3.cell? ⟨g, 2, none⟩ = some (.float .f32 (xs.getD 2 0)) := (f3.cell 2 (by omega)).trans (by simp [h9])
    have hd : detF xs = add (add (mul (can .f32 (xs.getD 0 0)) (can .f32 p)) (mul (can .f32 (xs.getD 1 0)) (can .f32 q))) (mul (can .f32 (xs.getD 2 0)) (can .f32 r)) := by rw [hp, hq, hr]; rfl
    generalize xs.getD 0 0 = m0 at *
    generalize xs.getD 1 0 = m1 at *
    generalize xs.getD 2 0 = m2 at *
    have hg := f3.lt
    have hbm := WorldLt.of_cell k3
    have Hp := Lib.hid hp
    have Hq := Lib.hid hq
    have Hr := Lib.hid hr
    have F3 := Lib.hid f3
    have B3 := Lib.hid b3
    clear hp hq hr k1 f1 b1 k2 f2 b2 f3 b3
    go_wp2_with fail
    refine wp_region_below (fun _ _ _ => True) (by kernel_rfl) (by kernel_rfl) ?_
    repeat first
      | (refine wpLoose_want rfl ?_; refine loose_move _ rfl ?_; simp only [Act.put, Act.eval, List.setIfInBounds_toArray, List.set_cons_succ, List.set_cons_zero, Array.getD_eq_getD_getElem?, List.getElem?_toArray, List.getElem?_cons_succ, List.getElem?_cons_zero, Option.getD_some])
      | (refine wpLoose_want rfl ?_; refine loose_assign _ rfl ?_; simp only [Act.put, Act.eval, List.setIfInBounds_toArray, List.set_cons_succ, List.set_cons_zero, Array.getD_eq_getD_getElem?, List.getElem?_toArray, List.getElem?_cons_succ, List.getElem?_cons_zero, Option.getD_some])
      | (refine wpLoose_want rfl ?_; refine loose_arith _ _ _ _ _ rfl rfl _ _ _ rfl rfl (below_drawn _) (fun s hs ws => ?_); simp only [Act.put, Act.eval, List.setIfInBounds_toArray, List.set_cons_succ, List.set_cons_zero, Array.getD_eq_getD_getElem?, List.getElem?_toArray, List.getElem?_cons_succ, List.getElem?_cons_zero, Option.getD_some])
      | (refine wpLoose_want rfl ?_; apply loose_val; (· (intro w2 hC2; obtain ⟨hc2, hf2⟩ := below_cells hC2; go_simp; try rfl)); simp only [Act.put, Act.eval, List.setIfInBounds_toArray, List.set_cons_succ, List.set_cons_zero, Array.getD_eq_getD_getElem?, List.getElem?_toArray, List.getElem?_cons_succ, List.getElem?_cons_zero, Option.getD_some])
    refine wpLoose_nil fun W4 hb4 => ?_
    have k4 := (hb4.cell (p := ⟨w.heap.size, 0, none⟩) hbm).trans k3
    have F4 := Lib.hid (FB.up hb4 F3.out)
    have B4 := Lib.hid (B3.out.trans (hb4.mono B3.out.size))
    have hsd : can .f32 s = detF xs := by
      rw [hd]
      (repeat (first | (apply Eq.trans; assumption) | with_reducible exact rfl | (refine congr (congrArg _ ?_) ?_)))
    clear hd hs c0 c1 c2 hb4 k3
    cases hE : eq .f32 (detF xs) 0
    · go_wp2_with fail
      refine (HX9.out 2 7 1 8 _ k4 F4.out B4.out (by decide) (by decide) (by decide) (by decide)).mono ?_
      rintro e W5 ⟨a1, rfl, ha1, wa1, k5, f5, b5⟩
      go_wp2_with fail
      refine (HX9.out 1 5 2 4 _ k5 f5 b5 (by decide) (by decide) (by decide) (by decide)).mono ?_
      rintro e W6 ⟨a2, rfl, ha2, wa2, k6, f6, b6⟩
      go_wp2_with fail
      refine (HX9.out 0 8 2 6 _ k6 f6 b6 (by decide) (by decide) (by decide) (by decide)).mono ?_
      rintro e W7 ⟨a4, rfl, ha4, wa4, k7, f7, b7⟩
      go_wp2_with fail
      refine (HX9.out 2 3 0 5 _ k7 f7 b7 (by decide) (by decide) (by decide) (by decide)).mono ?_
      rintro e W8 ⟨a5, rfl, ha5, wa5, k8, f8, b8⟩
      go_wp2_with fail
      refine (HX9.out 1 6 0 7 _ k8 f8 b8 (by decide) (by decide) (by decide) (by decide)).mono ?_
      rintro e W9 ⟨a7, rfl, ha7, wa7, k9, f9, b9⟩
      go_wp2_with fail
      refine (HX9.out 0 4 1 3 _ k9 f9 b9 (by decide) (by decide) (by decide) (by decide)).mono ?_
      rintro e W10 ⟨a8, rfl, ha8, wa8, k10, f10, b10⟩
      have hz : [p, a1, a2, q, a4, a5, r, a7, a8].map (can .f32) = adjF xs := by
        simp only [List.map_cons, List.map_nil, Hp.out, Hq.out, Hr.out, ha1, ha2, ha4, ha5, ha7, ha8]; rfl
      have hwz := WfAll.nine wp wa1 wa2 wq wa4 wa5 wr wa7 wa8
      have hz9 : [p, a1, a2, q, a4, a5, r, a7, a8].length = 9 := rfl
      have hF := FB.new9 (w := W10) 22 p a1 a2 q a4 a5 r a7 a8
      have hG : w.heap.size ≤ W10.heap.size := b10.size
      have HF := Lib.hid hF
      have HZ := Lib.hid hz
      have HW := Lib.hid hwz
      have B10 := Lib.hid b10
      clear hz hwz hF ha1 ha2 ha4 ha5 ha7 ha8 k4 k5 f5 b5 k6 f6 b6 k7 f7 b7 k8 f8 b8 k9 f9 b9 k10 f10 b10
      go_wp2_with fail
      have hB6 := Lib.hid (below_alloc B10.out (.cells #[.float .f32 p, .float .f32 a1, .float .f32 a2, .float .f32 q, .float .f32 a4, .float .f32 a5, .float .f32 r, .float .f32 a7, .float .f32 a8] 22))
      generalize [p, a1, a2, q, a4, a5, r, a7, a8] = zs at *
      go_loopw [58] (fun i wr => ∃ (k : Nat) (ys : List Nat), k ≤ 9 ∧ i = .int .i64 k ∧ ys.length = zs.length ∧ FB wr W10.heap.size ys ∧ (ys.take k).map (can .f32) = (zs.take k).map (fun x => quo (can .f32 x) (can .f32 s)) ∧ (∀ j, k ≤ j → ys[j]? = zs[j]?) ∧ WfAll ys ∧ Below w.heap.size w wr) (fun i _ => 9 - (intOf i).toNat)
      case atStart => exact ⟨0, zs, by omega, rfl, rfl, HF.out, by simp, fun _ _ => rfl, HW.out, hB6.out⟩
      case round =>
        obtain ⟨k, ys, hk, rfl, hy, hFr, ht, hrest, hwf, hbr⟩ := hrel
        have HFr := Lib.hid hFr
        have HT := Lib.hid ht
        have HR := Lib.hid hrest
        have HW2 := Lib.hid hwf
        have HBr := Lib.hid hbr
        clear hFr ht hrest hwf hbr
        by_cases hlt : k < 9
        · have hky : k < ys.length := by omega
          have hcell := HFr.out.cell k hky
          have hfro := HFr.out.frozen k hky
          go_wp2_with (first | (refine upon_op rfl ?_; intro r n hr hw; go_simp) | (refine upon_widen Try.underlying22 Try.underlying30 ?_; intro r n hr hw; go_simp))
          go_roundw
          case rel =>
            have hrk := divs_step (zs := zs) (d := can .f32 s) hy (by omega) HT.out HR.out (by rw [← divs_here (by omega) (by omega) HR.out]; assumption)
            exact ⟨k + 1, _, by omega, by go_num, by simp [hy], (HFr.out.set_ hky _).drewN _, hrk.1, hrk.2, HW2.out.set_ (by assumption), below_drewN (HBr.out.setCell (p := ⟨W10.heap.size, k, none⟩) hG _) _⟩
          case measure => simp [intOf]; omega
        · have hk9 : k = 9 := by omega
          have hy9 : ys.length = 9 := by omega
          have hyF : ys.map (can .f32) = backF xs := back_of HZ.out hsd (by have := HT.out; rwa [List.take_of_length_le (by omega), List.take_of_length_le (by omega)] at this)
          have HyF := Lib.hid hyF
          have Hok := Lib.hid (backOk_of HM.out hE hyF)
          have hlf := matrixOrFail_any W10.heap.size 9 ys
          have hiy : isMat ys = allFin ys := by unfold isMat; rw [hy9]; simp
          rw [hiy, hy9] at hlf
          have Hlf := Lib.hid hlf
          clear hyF hlf hiy
          cases hB : allFin ys
          all_goals
            go_wp2_with (go_at_call 61; refine (Hlf.out _ HFr.out HW2.out (by decide)).mono ?_; rw [hB]; rintro e w' ⟨n, rfl, rfl⟩; simp only [listOr, if_true, if_false, Bool.false_eq_true])
            go_ret2
            have Hb := HBr.out
            first
              | exact givesL_none (Hok.out.trans hB) (by unfold backR; rw [Hok.out, hB]; rfl) (by repeat (with_reducible first | exact Below.refl _ _ | refine below_drewN ?_ _ | refine Below.drew ?_ | refine below_alloc ?_ _ | refine below_set0 ?_ _ _ | refine below_set1 ?_ _ _ | refine below_set2 ?_ _ _ | refine below_set3 ?_ _ _ | refine below_call (by assumption) ?_ | refine below_step (by assumption) (by assumption) ?_))
              | (have hh := givesL_some (w := w) (cap := 9) (F := backR xs) (Hok.out.trans hB) (HFr.out.drewN n) hG (by rw [HyF.out]; unfold backR; rw [Hok.out, hB]; first | done | rfl) HW2.out (by repeat (with_reducible first | exact Below.refl _ _ | refine below_drewN ?_ _ | refine Below.drew ?_ | refine below_alloc ?_ _ | refine below_set0 ?_ _ _ | refine below_set1 ?_ _ _ | refine below_set2 ?_ _ _ | refine below_set3 ?_ _ _ | refine below_call (by assumption) ?_ | refine below_step (by assumption) (by assumption) ?_))
                 rw [hy9] at hh
                 exact hh)
    · go_wp2_with fail
      go_ret2
      have Hb := B4.out
      exact givesL_none (backOk_det hE).1 (backOk_det hE).2 (by repeat (with_reducible first | exact Below.refl _ _ | refine below_drewN ?_ _ | refine Below.drew ?_ | refine below_alloc ?_ _ | refine below_set0 ?_ _ _ | refine below_set1 ?_ _ _ | refine below_set2 ?_ _ _ | refine below_set3 ?_ _ _ | refine below_call (by assumption) ?_ | refine below_step (by assumption) (by assumption) ?_))
end Go.Proofs.Ytokpnjliikhecaa
