/- MATRICES: their inverses. -/
import Derived.Test.YtokpnjliikhecaaW17
set_option linter.unusedSimpArgs false
set_option linter.unusedVariables false
set_option linter.unnecessarySimpa false
set_option maxRecDepth 20000
namespace Go.Proofs.Ytokpnjliikhecaa
open Go.RowKit Go.Fl

set_option maxHeartbeats 8000000 in
theorem backS_any (g : Nat) (xs : List Nat) (w : World) (hc : FB w g xs) (hx : WfAll xs) (hl : xs.length ≤ 1048576) :
    Calls Try.prog 33 #[.slice (some ⟨g, 0, none⟩) xs.length xs.length] w (GivesL w (backR xs) (backOk xs)) := by
  cases hM : isMat xs
  · have HM := Lib.hid hM
    have HC := Lib.hid hc
    have Hok := Lib.hid (backOk_mat hM).1
    have Hr := Lib.hid (backOk_mat hM).2
    clear hM hc hx
    go_enter Try.func33, Try.ntmps33
    go_wp2_with (go_at_call 58; refine (l05Matrix_any g 0 _ _ _ HC.out.fs hl).mono ?_; rw [HM.out]; rintro e w' ⟨n, rfl, rfl⟩)
    go_ret2
    exact givesL_none Hok.out Hr.out (by repeat (with_reducible first | exact Below.refl _ _ | refine below_drewN ?_ _ | refine Below.drew ?_ | refine below_alloc ?_ _ | refine below_set0 ?_ _ _ | refine below_set1 ?_ _ _ | refine below_set2 ?_ _ _ | refine below_set3 ?_ _ _ | refine below_call (by assumption) ?_ | refine below_step (by assumption) (by assumption) ?_))
  · have h9 : xs.length = 9 := by unfold isMat at hM; simp at hM; exact hM.1
    match xs, h9 with
    | [m0, m1, m2, m3, m4, m5, m6, m7, m8], _ =>
    have HM := Lib.hid hM
    have HC := Lib.hid hc
    clear hM hc hx
    go_enter Try.func33, Try.ntmps33
    go_wp2_with (go_at_call 58; refine (l05Matrix_any g 0 _ _ _ HC.out.fs hl).mono ?_; rw [HM.out]; rintro e w' ⟨n, rfl, rfl⟩)
    replace HC := Lib.hid (HC.out.drewN n)
    have HB0 := Lib.hid (below_drewN (Below.refl w.heap.size w) n)
    generalize w.drewN n = W at *
    obtain ⟨q0, q1, q2, q3, q4, q5, q6, q7, q8⟩ := cells9 HC.out
    have hg := HC.out.lt
    refine wp_region_below (fun _ args v => ∀ a b c d, args = #[.float .f32 a, .float .f32 b, .float .f32 c, .float .f32 d] → ∃ r, v = .float .f32 r ∧ can .f32 r = lessF (can .f32 a) (can .f32 b) (can .f32 c) (can .f32 d) ∧ Wf .f32 r) (by kernel_rfl) (by kernel_rfl) ?_
    repeat first
      | (refine wpLoose_want rfl ?_; refine loose_move _ rfl ?_; simp only [Act.put, Act.eval, List.setIfInBounds_toArray, List.set_cons_succ, List.set_cons_zero, Array.getD_eq_getD_getElem?, List.getElem?_toArray, List.getElem?_cons_succ, List.getElem?_cons_zero, Option.getD_some])
      | (refine wpLoose_want rfl ?_; refine loose_assign _ rfl ?_; simp only [Act.put, Act.eval, List.setIfInBounds_toArray, List.set_cons_succ, List.set_cons_zero, Array.getD_eq_getD_getElem?, List.getElem?_toArray, List.getElem?_cons_succ, List.getElem?_cons_zero, Option.getD_some])
      | (refine wpLoose_want rfl ?_; apply loose_val; (· (intro w2 hC2; obtain ⟨hc2, hf2⟩ := below_cells hC2; go_simp; try rfl)); simp only [Act.put, Act.eval, List.setIfInBounds_toArray, List.set_cons_succ, List.set_cons_zero, Array.getD_eq_getD_getElem?, List.getElem?_toArray, List.getElem?_cons_succ, List.getElem?_cons_zero, Option.getD_some])
    refine wpLoose_want rfl ?_
    refine loose_callB 74 #[.float .f32 m4, .float .f32 m8, .float .f32 m5, .float .f32 m7] (fun w2 => by go_simp) (fun w2 _ => (l05Less_any m4 m8 m5 m7 w2).mono fun e w3 ⟨r, n, he, hw3, hr, hw⟩ => ⟨_, he, fun a b c d h => by simp at h; obtain ⟨rfl, rfl, rfl, rfl⟩ := h; exact ⟨r, rfl, hr, hw⟩, by rw [hw3]; exact (by repeat (with_reducible first | exact Below.refl _ _ | refine below_drewN ?_ _ | refine Below.drew ?_ | refine below_alloc ?_ _ | refine below_set0 ?_ _ _ | refine below_set1 ?_ _ _ | refine below_set2 ?_ _ _ | refine below_set3 ?_ _ _ | refine below_call (by assumption) ?_ | refine below_step (by assumption) (by assumption) ?_))⟩) (fun v hv => ?_)
    obtain ⟨p, rfl, hp, wp⟩ := hv _ _ _ _ rfl
    clear hv
    simp only [Act.put, Act.eval, List.setIfInBounds_toArray, List.set_cons_succ, List.set_cons_zero, Array.getD_eq_getD_getElem?, List.getElem?_toArray, List.getElem?_cons_succ, List.getElem?_cons_zero, Option.getD_some]
    repeat first
      | (refine wpLoose_want rfl ?_; refine loose_assign _ rfl ?_; simp only [Act.put, Act.eval, List.setIfInBounds_toArray, List.set_cons_succ, List.set_cons_zero, Array.getD_eq_getD_getElem?, List.getElem?_toArray, List.getElem?_cons_succ, List.getElem?_cons_zero, Option.getD_some])
    refine wpLoose_nil fun W1 hbW1 => ?_
    replace HC := Lib.hid (FB.up hbW1 HC.out)
    clear q0 q1 q2 q3 q4 q5 q6 q7 q8 hg
    go_wp2_with fail
    obtain ⟨q0, q1, q2, q3, q4, q5, q6, q7, q8⟩ := cells9 HC.out
    have hg := HC.out.lt
    refine wp_region_below (fun _ args v => ∀ a b c d, args = #[.float .f32 a, .float .f32 b, .float .f32 c, .float .f32 d] → ∃ r, v = .float .f32 r ∧ can .f32 r = lessF (can .f32 a) (can .f32 b) (can .f32 c) (can .f32 d) ∧ Wf .f32 r) (by kernel_rfl) (by kernel_rfl) ?_
    repeat first
      | (refine wpLoose_want rfl ?_; refine loose_move _ rfl ?_; simp only [Act.put, Act.eval, List.setIfInBounds_toArray, List.set_cons_succ, List.set_cons_zero, Array.getD_eq_getD_getElem?, List.getElem?_toArray, List.getElem?_cons_succ, List.getElem?_cons_zero, Option.getD_some])
      | (refine wpLoose_want rfl ?_; refine loose_assign _ rfl ?_; simp only [Act.put, Act.eval, List.setIfInBounds_toArray, List.set_cons_succ, List.set_cons_zero, Array.getD_eq_getD_getElem?, List.getElem?_toArray, List.getElem?_cons_succ, List.getElem?_cons_zero, Option.getD_some])
      | (refine wpLoose_want rfl ?_; apply loose_val; (· (intro w2 hC2; obtain ⟨hc2, hf2⟩ := below_cells hC2; go_simp; try rfl)); simp only [Act.put, Act.eval, List.setIfInBounds_toArray, List.set_cons_succ, List.set_cons_zero, Array.getD_eq_getD_getElem?, List.getElem?_toArray, List.getElem?_cons_succ, List.getElem?_cons_zero, Option.getD_some])
    refine wpLoose_want rfl ?_
    refine loose_callB 74 #[.float .f32 m5, .float .f32 m6, .float .f32 m3, .float .f32 m8] (fun w2 => by go_simp) (fun w2 _ => (l05Less_any m5 m6 m3 m8 w2).mono fun e w3 ⟨r, n, he, hw3, hr, hw⟩ => ⟨_, he, fun a b c d h => by simp at h; obtain ⟨rfl, rfl, rfl, rfl⟩ := h; exact ⟨r, rfl, hr, hw⟩, by rw [hw3]; exact (by repeat (with_reducible first | exact Below.refl _ _ | refine below_drewN ?_ _ | refine Below.drew ?_ | refine below_alloc ?_ _ | refine below_set0 ?_ _ _ | refine below_set1 ?_ _ _ | refine below_set2 ?_ _ _ | refine below_set3 ?_ _ _ | refine below_call (by assumption) ?_ | refine below_step (by assumption) (by assumption) ?_))⟩) (fun v hv => ?_)
    obtain ⟨q, rfl, hq, wq⟩ := hv _ _ _ _ rfl
    clear hv
    simp only [Act.put, Act.eval, List.setIfInBounds_toArray, List.set_cons_succ, List.set_cons_zero, Array.getD_eq_getD_getElem?, List.getElem?_toArray, List.getElem?_cons_succ, List.getElem?_cons_zero, Option.getD_some]
    repeat first
      | (refine wpLoose_want rfl ?_; refine loose_assign _ rfl ?_; simp only [Act.put, Act.eval, List.setIfInBounds_toArray, List.set_cons_succ, List.set_cons_zero, Array.getD_eq_getD_getElem?, List.getElem?_toArray, List.getElem?_cons_succ, List.getElem?_cons_zero, Option.getD_some])
    refine wpLoose_nil fun W2 hbW2 => ?_
    replace HC := Lib.hid (FB.up hbW2 HC.out)
    clear q0 q1 q2 q3 q4 q5 q6 q7 q8 hg
    go_wp2_with fail
    obtain ⟨q0, q1, q2, q3, q4, q5, q6, q7, q8⟩ := cells9 HC.out
    have hg := HC.out.lt
    refine wp_region_below (fun _ args v => ∀ a b c d, args = #[.float .f32 a, .float .f32 b, .float .f32 c, .float .f32 d] → ∃ r, v = .float .f32 r ∧ can .f32 r = lessF (can .f32 a) (can .f32 b) (can .f32 c) (can .f32 d) ∧ Wf .f32 r) (by kernel_rfl) (by kernel_rfl) ?_
    repeat first
      | (refine wpLoose_want rfl ?_; refine loose_move _ rfl ?_; simp only [Act.put, Act.eval, List.setIfInBounds_toArray, List.set_cons_succ, List.set_cons_zero, Array.getD_eq_getD_getElem?, List.getElem?_toArray, List.getElem?_cons_succ, List.getElem?_cons_zero, Option.getD_some])
      | (refine wpLoose_want rfl ?_; refine loose_assign _ rfl ?_; simp only [Act.put, Act.eval, List.setIfInBounds_toArray, List.set_cons_succ, List.set_cons_zero, Array.getD_eq_getD_getElem?, List.getElem?_toArray, List.getElem?_cons_succ, List.getElem?_cons_zero, Option.getD_some])
      | (refine wpLoose_want rfl ?_; apply loose_val; (· (intro w2 hC2; obtain ⟨hc2, hf2⟩ := below_cells hC2; go_simp; try rfl)); simp only [Act.put, Act.eval, List.setIfInBounds_toArray, List.set_cons_succ, List.set_cons_zero, Array.getD_eq_getD_getElem?, List.getElem?_toArray, List.getElem?_cons_succ, List.getElem?_cons_zero, Option.getD_some])
    refine wpLoose_want rfl ?_
    refine loose_callB 74 #[.float .f32 m3, .float .f32 m7, .float .f32 m4, .float .f32 m6] (fun w2 => by go_simp) (fun w2 _ => (l05Less_any m3 m7 m4 m6 w2).mono fun e w3 ⟨r, n, he, hw3, hr, hw⟩ => ⟨_, he, fun a b c d h => by simp at h; obtain ⟨rfl, rfl, rfl, rfl⟩ := h; exact ⟨r, rfl, hr, hw⟩, by rw [hw3]; exact (by repeat (with_reducible first | exact Below.refl _ _ | refine below_drewN ?_ _ | refine Below.drew ?_ | refine below_alloc ?_ _ | refine below_set0 ?_ _ _ | refine below_set1 ?_ _ _ | refine below_set2 ?_ _ _ | refine below_set3 ?_ _ _ | refine below_call (by assumption) ?_ | refine below_step (by assumption) (by assumption) ?_))⟩) (fun v hv => ?_)
    obtain ⟨r, rfl, hr, wr⟩ := hv _ _ _ _ rfl
    clear hv
    simp only [Act.put, Act.eval, List.setIfInBounds_toArray, List.set_cons_succ, List.set_cons_zero, Array.getD_eq_getD_getElem?, List.getElem?_toArray, List.getElem?_cons_succ, List.getElem?_cons_zero, Option.getD_some]
    repeat first
      | (refine wpLoose_want rfl ?_; refine loose_assign _ rfl ?_; simp only [Act.put, Act.eval, List.setIfInBounds_toArray, List.set_cons_succ, List.set_cons_zero, Array.getD_eq_getD_getElem?, List.getElem?_toArray, List.getElem?_cons_succ, List.getElem?_cons_zero, Option.getD_some])
    refine wpLoose_nil fun W3 hbW3 => ?_
    replace HC := Lib.hid (FB.up hbW3 HC.out)
    clear q0 q1 q2 q3 q4 q5 q6 q7 q8 hg
    go_wp2_with fail
    obtain ⟨q0, q1, q2, q3, q4, q5, q6, q7, q8⟩ := cells9 HC.out
    have hg := HC.out.lt
    refine wp_region_below (fun _ _ _ => True) (by kernel_rfl) (by kernel_rfl) ?_
    repeat first
      | (refine wpLoose_want rfl ?_; refine loose_move _ rfl ?_; simp only [Act.put, Act.eval, List.setIfInBounds_toArray, List.set_cons_succ, List.set_cons_zero, Array.getD_eq_getD_getElem?, List.getElem?_toArray, List.getElem?_cons_succ, List.getElem?_cons_zero, Option.getD_some])
      | (refine wpLoose_want rfl ?_; refine loose_assign _ rfl ?_; simp only [Act.put, Act.eval, List.setIfInBounds_toArray, List.set_cons_succ, List.set_cons_zero, Array.getD_eq_getD_getElem?, List.getElem?_toArray, List.getElem?_cons_succ, List.getElem?_cons_zero, Option.getD_some])
      | (refine wpLoose_want rfl ?_; refine loose_arith _ _ _ _ _ rfl rfl _ _ _ rfl rfl (below_drawn _) (fun s hs ws => ?_); simp only [Act.put, Act.eval, List.setIfInBounds_toArray, List.set_cons_succ, List.set_cons_zero, Array.getD_eq_getD_getElem?, List.getElem?_toArray, List.getElem?_cons_succ, List.getElem?_cons_zero, Option.getD_some])
      | (refine wpLoose_want rfl ?_; apply loose_val; (· (intro w2 hC2; obtain ⟨hc2, hf2⟩ := below_cells hC2; go_simp; try rfl)); simp only [Act.put, Act.eval, List.setIfInBounds_toArray, List.set_cons_succ, List.set_cons_zero, Array.getD_eq_getD_getElem?, List.getElem?_toArray, List.getElem?_cons_succ, List.getElem?_cons_zero, Option.getD_some])
    refine wpLoose_nil fun W4 hbW4 => ?_
    replace HC := Lib.hid (FB.up hbW4 HC.out)
    clear q0 q1 q2 q3 q4 q5 q6 q7 q8 hg
    have hd : detF [m0, m1, m2, m3, m4, m5, m6, m7, m8] = add (add (mul (can .f32 m0) (can .f32 p)) (mul (can .f32 m1) (can .f32 q))) (mul (can .f32 m2) (can .f32 r)) := by rw [hp, hq, hr]; rfl
    have hsd : can .f32 s = detF [m0, m1, m2, m3, m4, m5, m6, m7, m8] := by
      rw [hd]
      (repeat (first | (apply Eq.trans; assumption) | with_reducible exact rfl | (refine congr (congrArg _ ?_) ?_)))
    clear hd hs
    have Hp := Lib.hid hp
    have Hq := Lib.hid hq
    have Hr := Lib.hid hr
    clear hp hq hr
    have HB4 := Lib.hid (show Below w.heap.size w W4 from HB0.out.trans ((hbW1.trans ((hbW2.trans ((hbW3.trans (hbW4.mono hbW3.size)).mono hbW2.size)).mono hbW1.size)).mono HB0.out.size))
    clear hbW1 hbW2 hbW3 hbW4
    cases hE : eq .f32 (detF [m0, m1, m2, m3, m4, m5, m6, m7, m8]) 0
    · go_wp2_with fail
      refine wp_region_cut [81, 1] (by kernel_rfl) (by kernel_rfl) ?_
      simp only [cuts, List.take_succ_cons, List.take_zero, List.drop_succ_cons, List.drop_zero]
      obtain ⟨q0, q1, q2, q3, q4, q5, q6, q7, q8⟩ := cells9 HC.out
      have hg := HC.out.lt
      refine seg_loose (fun _ args v => ∀ a b c d, args = #[.float .f32 a, .float .f32 b, .float .f32 c, .float .f32 d] → ∃ r, v = .float .f32 r ∧ can .f32 r = lessF (can .f32 a) (can .f32 b) (can .f32 c) (can .f32 d) ∧ Wf .f32 r) ?_
      repeat first
        | (refine wpLoose_want rfl ?_; refine loose_move _ rfl ?_; simp only [Act.put, Act.eval, List.setIfInBounds_toArray, List.set_cons_succ, List.set_cons_zero, Array.getD_eq_getD_getElem?, List.getElem?_toArray, List.getElem?_cons_succ, List.getElem?_cons_zero, Option.getD_some])
        | (refine wpLoose_want rfl ?_; refine loose_assign _ rfl ?_; simp only [Act.put, Act.eval, List.setIfInBounds_toArray, List.set_cons_succ, List.set_cons_zero, Array.getD_eq_getD_getElem?, List.getElem?_toArray, List.getElem?_cons_succ, List.getElem?_cons_zero, Option.getD_some])
        | (refine wpLoose_want rfl ?_; apply loose_val; (· (intro w2 hC2; obtain ⟨hc2, hf2⟩ := below_cells hC2; (try replace hc2 : ∀ b o, b < W4.heap.size → w2.cell? ⟨b, o, none⟩ = W4.cell? ⟨b, o, none⟩ := hc2); go_simp; try rfl)); simp only [Act.put, Act.eval, List.setIfInBounds_toArray, List.set_cons_succ, List.set_cons_zero, Array.getD_eq_getD_getElem?, List.getElem?_toArray, List.getElem?_cons_succ, List.getElem?_cons_zero, Option.getD_some])
      refine wpLoose_want rfl ?_
      refine loose_callB 74 #[.float .f32 m2, .float .f32 m7, .float .f32 m1, .float .f32 m8] (fun w2 => by go_simp) (fun w2 _ => (l05Less_any m2 m7 m1 m8 w2).mono fun e w3 ⟨r, n, he, hw3, hr, hw⟩ => ⟨_, he, fun a b c d h => by simp at h; obtain ⟨rfl, rfl, rfl, rfl⟩ := h; exact ⟨r, rfl, hr, hw⟩, by rw [hw3]; exact (by repeat (with_reducible first | exact Below.refl _ _ | refine below_drewN ?_ _ | refine Below.drew ?_ | refine below_alloc ?_ _ | refine below_set0 ?_ _ _ | refine below_set1 ?_ _ _ | refine below_set2 ?_ _ _ | refine below_set3 ?_ _ _ | refine below_call (by assumption) ?_ | refine below_step (by assumption) (by assumption) ?_))⟩) (fun v hv => ?_)
      obtain ⟨a1, rfl, ha1, wa1⟩ := hv _ _ _ _ rfl
      clear hv
      simp only [Act.put, Act.eval, List.setIfInBounds_toArray, List.set_cons_succ, List.set_cons_zero, Array.getD_eq_getD_getElem?, List.getElem?_toArray, List.getElem?_cons_succ, List.getElem?_cons_zero, Option.getD_some]
      repeat first
        | (refine wpLoose_want rfl ?_; refine loose_move _ rfl ?_; simp only [Act.put, Act.eval, List.setIfInBounds_toArray, List.set_cons_succ, List.set_cons_zero, Array.getD_eq_getD_getElem?, List.getElem?_toArray, List.getElem?_cons_succ, List.getElem?_cons_zero, Option.getD_some])
        | (refine wpLoose_want rfl ?_; refine loose_assign _ rfl ?_; simp only [Act.put, Act.eval, List.setIfInBounds_toArray, List.set_cons_succ, List.set_cons_zero, Array.getD_eq_getD_getElem?, List.getElem?_toArray, List.getElem?_cons_succ, List.getElem?_cons_zero, Option.getD_some])
        | (refine wpLoose_want rfl ?_; apply loose_val; (· (intro w2 hC2; obtain ⟨hc2, hf2⟩ := below_cells hC2; (try replace hc2 : ∀ b o, b < W4.heap.size → w2.cell? ⟨b, o, none⟩ = W4.cell? ⟨b, o, none⟩ := hc2); go_simp; try rfl)); simp only [Act.put, Act.eval, List.setIfInBounds_toArray, List.set_cons_succ, List.set_cons_zero, Array.getD_eq_getD_getElem?, List.getElem?_toArray, List.getElem?_cons_succ, List.getElem?_cons_zero, Option.getD_some])
      refine wpLoose_want rfl ?_
      refine loose_callB 74 #[.float .f32 m1, .float .f32 m5, .float .f32 m2, .float .f32 m4] (fun w2 => by go_simp) (fun w2 _ => (l05Less_any m1 m5 m2 m4 w2).mono fun e w3 ⟨r, n, he, hw3, hr, hw⟩ => ⟨_, he, fun a b c d h => by simp at h; obtain ⟨rfl, rfl, rfl, rfl⟩ := h; exact ⟨r, rfl, hr, hw⟩, by rw [hw3]; exact (by repeat (with_reducible first | exact Below.refl _ _ | refine below_drewN ?_ _ | refine Below.drew ?_ | refine below_alloc ?_ _ | refine below_set0 ?_ _ _ | refine below_set1 ?_ _ _ | refine below_set2 ?_ _ _ | refine below_set3 ?_ _ _ | refine below_call (by assumption) ?_ | refine below_step (by assumption) (by assumption) ?_))⟩) (fun v hv => ?_)
      obtain ⟨a2, rfl, ha2, wa2⟩ := hv _ _ _ _ rfl
      clear hv
      simp only [Act.put, Act.eval, List.setIfInBounds_toArray, List.set_cons_succ, List.set_cons_zero, Array.getD_eq_getD_getElem?, List.getElem?_toArray, List.getElem?_cons_succ, List.getElem?_cons_zero, Option.getD_some]
      repeat first
        | (refine wpLoose_want rfl ?_; refine loose_move _ rfl ?_; simp only [Act.put, Act.eval, List.setIfInBounds_toArray, List.set_cons_succ, List.set_cons_zero, Array.getD_eq_getD_getElem?, List.getElem?_toArray, List.getElem?_cons_succ, List.getElem?_cons_zero, Option.getD_some])
        | (refine wpLoose_want rfl ?_; refine loose_assign _ rfl ?_; simp only [Act.put, Act.eval, List.setIfInBounds_toArray, List.set_cons_succ, List.set_cons_zero, Array.getD_eq_getD_getElem?, List.getElem?_toArray, List.getElem?_cons_succ, List.getElem?_cons_zero, Option.getD_some])
        | (refine wpLoose_want rfl ?_; apply loose_val; (· (intro w2 hC2; obtain ⟨hc2, hf2⟩ := below_cells hC2; (try replace hc2 : ∀ b o, b < W4.heap.size → w2.cell? ⟨b, o, none⟩ = W4.cell? ⟨b, o, none⟩ := hc2); go_simp; try rfl)); simp only [Act.put, Act.eval, List.setIfInBounds_toArray, List.set_cons_succ, List.set_cons_zero, Array.getD_eq_getD_getElem?, List.getElem?_toArray, List.getElem?_cons_succ, List.getElem?_cons_zero, Option.getD_some])
      refine wpLoose_want rfl ?_
      refine loose_callB 74 #[.float .f32 m0, .float .f32 m8, .float .f32 m2, .float .f32 m6] (fun w2 => by go_simp) (fun w2 _ => (l05Less_any m0 m8 m2 m6 w2).mono fun e w3 ⟨r, n, he, hw3, hr, hw⟩ => ⟨_, he, fun a b c d h => by simp at h; obtain ⟨rfl, rfl, rfl, rfl⟩ := h; exact ⟨r, rfl, hr, hw⟩, by rw [hw3]; exact (by repeat (with_reducible first | exact Below.refl _ _ | refine below_drewN ?_ _ | refine Below.drew ?_ | refine below_alloc ?_ _ | refine below_set0 ?_ _ _ | refine below_set1 ?_ _ _ | refine below_set2 ?_ _ _ | refine below_set3 ?_ _ _ | refine below_call (by assumption) ?_ | refine below_step (by assumption) (by assumption) ?_))⟩) (fun v hv => ?_)
      obtain ⟨a4, rfl, ha4, wa4⟩ := hv _ _ _ _ rfl
      clear hv
      simp only [Act.put, Act.eval, List.setIfInBounds_toArray, List.set_cons_succ, List.set_cons_zero, Array.getD_eq_getD_getElem?, List.getElem?_toArray, List.getElem?_cons_succ, List.getElem?_cons_zero, Option.getD_some]
      repeat first
        | (refine wpLoose_want rfl ?_; refine loose_move _ rfl ?_; simp only [Act.put, Act.eval, List.setIfInBounds_toArray, List.set_cons_succ, List.set_cons_zero, Array.getD_eq_getD_getElem?, List.getElem?_toArray, List.getElem?_cons_succ, List.getElem?_cons_zero, Option.getD_some])
        | (refine wpLoose_want rfl ?_; refine loose_assign _ rfl ?_; simp only [Act.put, Act.eval, List.setIfInBounds_toArray, List.set_cons_succ, List.set_cons_zero, Array.getD_eq_getD_getElem?, List.getElem?_toArray, List.getElem?_cons_succ, List.getElem?_cons_zero, Option.getD_some])
        | (refine wpLoose_want rfl ?_; apply loose_val; (· (intro w2 hC2; obtain ⟨hc2, hf2⟩ := below_cells hC2; (try replace hc2 : ∀ b o, b < W4.heap.size → w2.cell? ⟨b, o, none⟩ = W4.cell? ⟨b, o, none⟩ := hc2); go_simp; try rfl)); simp only [Act.put, Act.eval, List.setIfInBounds_toArray, List.set_cons_succ, List.set_cons_zero, Array.getD_eq_getD_getElem?, List.getElem?_toArray, List.getElem?_cons_succ, List.getElem?_cons_zero, Option.getD_some])
      refine wpLoose_want rfl ?_
      refine loose_callB 74 #[.float .f32 m2, .float .f32 m3, .float .f32 m0, .float .f32 m5] (fun w2 => by go_simp) (fun w2 _ => (l05Less_any m2 m3 m0 m5 w2).mono fun e w3 ⟨r, n, he, hw3, hr, hw⟩ => ⟨_, he, fun a b c d h => by simp at h; obtain ⟨rfl, rfl, rfl, rfl⟩ := h; exact ⟨r, rfl, hr, hw⟩, by rw [hw3]; exact (by repeat (with_reducible first | exact Below.refl _ _ | refine below_drewN ?_ _ | refine Below.drew ?_ | refine below_alloc ?_ _ | refine below_set0 ?_ _ _ | refine below_set1 ?_ _ _ | refine below_set2 ?_ _ _ | refine below_set3 ?_ _ _ | refine below_call (by assumption) ?_ | refine below_step (by assumption) (by assumption) ?_))⟩) (fun v hv => ?_)
      obtain ⟨a5, rfl, ha5, wa5⟩ := hv _ _ _ _ rfl
      clear hv
      simp only [Act.put, Act.eval, List.setIfInBounds_toArray, List.set_cons_succ, List.set_cons_zero, Array.getD_eq_getD_getElem?, List.getElem?_toArray, List.getElem?_cons_succ, List.getElem?_cons_zero, Option.getD_some]
      repeat first
        | (refine wpLoose_want rfl ?_; refine loose_move _ rfl ?_; simp only [Act.put, Act.eval, List.setIfInBounds_toArray, List.set_cons_succ, List.set_cons_zero, Array.getD_eq_getD_getElem?, List.getElem?_toArray, List.getElem?_cons_succ, List.getElem?_cons_zero, Option.getD_some])
        | (refine wpLoose_want rfl ?_; refine loose_assign _ rfl ?_; simp only [Act.put, Act.eval, List.setIfInBounds_toArray, List.set_cons_succ, List.set_cons_zero, Array.getD_eq_getD_getElem?, List.getElem?_toArray, List.getElem?_cons_succ, List.getElem?_cons_zero, Option.getD_some])
        | (refine wpLoose_want rfl ?_; apply loose_val; (· (intro w2 hC2; obtain ⟨hc2, hf2⟩ := below_cells hC2; (try replace hc2 : ∀ b o, b < W4.heap.size → w2.cell? ⟨b, o, none⟩ = W4.cell? ⟨b, o, none⟩ := hc2); go_simp; try rfl)); simp only [Act.put, Act.eval, List.setIfInBounds_toArray, List.set_cons_succ, List.set_cons_zero, Array.getD_eq_getD_getElem?, List.getElem?_toArray, List.getElem?_cons_succ, List.getElem?_cons_zero, Option.getD_some])
      refine wpLoose_want rfl ?_
      refine loose_callB 74 #[.float .f32 m1, .float .f32 m6, .float .f32 m0, .float .f32 m7] (fun w2 => by go_simp) (fun w2 _ => (l05Less_any m1 m6 m0 m7 w2).mono fun e w3 ⟨r, n, he, hw3, hr, hw⟩ => ⟨_, he, fun a b c d h => by simp at h; obtain ⟨rfl, rfl, rfl, rfl⟩ := h; exact ⟨r, rfl, hr, hw⟩, by rw [hw3]; exact (by repeat (with_reducible first | exact Below.refl _ _ | refine below_drewN ?_ _ | refine Below.drew ?_ | refine below_alloc ?_ _ | refine below_set0 ?_ _ _ | refine below_set1 ?_ _ _ | refine below_set2 ?_ _ _ | refine below_set3 ?_ _ _ | refine below_call (by assumption) ?_ | refine below_step (by assumption) (by assumption) ?_))⟩) (fun v hv => ?_)
      obtain ⟨a7, rfl, ha7, wa7⟩ := hv _ _ _ _ rfl
      clear hv
      simp only [Act.put, Act.eval, List.setIfInBounds_toArray, List.set_cons_succ, List.set_cons_zero, Array.getD_eq_getD_getElem?, List.getElem?_toArray, List.getElem?_cons_succ, List.getElem?_cons_zero, Option.getD_some]
      repeat first
        | (refine wpLoose_want rfl ?_; refine loose_move _ rfl ?_; simp only [Act.put, Act.eval, List.setIfInBounds_toArray, List.set_cons_succ, List.set_cons_zero, Array.getD_eq_getD_getElem?, List.getElem?_toArray, List.getElem?_cons_succ, List.getElem?_cons_zero, Option.getD_some])
        | (refine wpLoose_want rfl ?_; refine loose_assign _ rfl ?_; simp only [Act.put, Act.eval, List.setIfInBounds_toArray, List.set_cons_succ, List.set_cons_zero, Array.getD_eq_getD_getElem?, List.getElem?_toArray, List.getElem?_cons_succ, List.getElem?_cons_zero, Option.getD_some])
        | (refine wpLoose_want rfl ?_; apply loose_val; (· (intro w2 hC2; obtain ⟨hc2, hf2⟩ := below_cells hC2; (try replace hc2 : ∀ b o, b < W4.heap.size → w2.cell? ⟨b, o, none⟩ = W4.cell? ⟨b, o, none⟩ := hc2); go_simp; try rfl)); simp only [Act.put, Act.eval, List.setIfInBounds_toArray, List.set_cons_succ, List.set_cons_zero, Array.getD_eq_getD_getElem?, List.getElem?_toArray, List.getElem?_cons_succ, List.getElem?_cons_zero, Option.getD_some])
      refine wpLoose_want rfl ?_
      refine loose_callB 74 #[.float .f32 m0, .float .f32 m4, .float .f32 m1, .float .f32 m3] (fun w2 => by go_simp) (fun w2 _ => (l05Less_any m0 m4 m1 m3 w2).mono fun e w3 ⟨r, n, he, hw3, hr, hw⟩ => ⟨_, he, fun a b c d h => by simp at h; obtain ⟨rfl, rfl, rfl, rfl⟩ := h; exact ⟨r, rfl, hr, hw⟩, by rw [hw3]; exact (by repeat (with_reducible first | exact Below.refl _ _ | refine below_drewN ?_ _ | refine Below.drew ?_ | refine below_alloc ?_ _ | refine below_set0 ?_ _ _ | refine below_set1 ?_ _ _ | refine below_set2 ?_ _ _ | refine below_set3 ?_ _ _ | refine below_call (by assumption) ?_ | refine below_step (by assumption) (by assumption) ?_))⟩) (fun v hv => ?_)
      obtain ⟨a8, rfl, ha8, wa8⟩ := hv _ _ _ _ rfl
      clear hv
      simp only [Act.put, Act.eval, List.setIfInBounds_toArray, List.set_cons_succ, List.set_cons_zero, Array.getD_eq_getD_getElem?, List.getElem?_toArray, List.getElem?_cons_succ, List.getElem?_cons_zero, Option.getD_some]
      repeat first
        | (refine wpLoose_want rfl ?_; refine loose_move _ rfl ?_; simp only [Act.put, Act.eval, List.setIfInBounds_toArray, List.set_cons_succ, List.set_cons_zero, Array.getD_eq_getD_getElem?, List.getElem?_toArray, List.getElem?_cons_succ, List.getElem?_cons_zero, Option.getD_some])
        | (refine wpLoose_want rfl ?_; refine loose_assign _ rfl ?_; simp only [Act.put, Act.eval, List.setIfInBounds_toArray, List.set_cons_succ, List.set_cons_zero, Array.getD_eq_getD_getElem?, List.getElem?_toArray, List.getElem?_cons_succ, List.getElem?_cons_zero, Option.getD_some])
        | (refine wpLoose_want rfl ?_; apply loose_val; (· (intro w2 hC2; obtain ⟨hc2, hf2⟩ := below_cells hC2; (try replace hc2 : ∀ b o, b < W4.heap.size → w2.cell? ⟨b, o, none⟩ = W4.cell? ⟨b, o, none⟩ := hc2); go_simp; try rfl)); simp only [Act.put, Act.eval, List.setIfInBounds_toArray, List.set_cons_succ, List.set_cons_zero, Array.getD_eq_getD_getElem?, List.getElem?_toArray, List.getElem?_cons_succ, List.getElem?_cons_zero, Option.getD_some])
      refine wpLoose_nil fun W5 hb5 => ?_
      have hG : w.heap.size ≤ W5.heap.size := Nat.le_trans HB4.out.size hb5.size
      have HB5 := Lib.hid (show Below w.heap.size w W5 from HB4.out.trans (Below.mono (show Below W4.heap.size W4 W5 from ⟨hb5.os, hb5.tape, hb5.output, hb5.size, hb5.block⟩) HB4.out.size))
      refine seg_one ?_
      go_wp2_with fail
      rw [atNormal_normal]
      have hF : FB _ _ [p, a1, a2, q, a4, a5, r, a7, a8] := FB.new9 (w := W5) 22 p a1 a2 q a4 a5 r a7 a8
      have hz : [p, a1, a2, q, a4, a5, r, a7, a8].map (can .f32) = adjF [m0, m1, m2, m3, m4, m5, m6, m7, m8] := by
        simp only [List.map_cons, List.map_nil, Hp.out, Hq.out, Hr.out, ha1, ha2, ha4, ha5, ha7, ha8]; rfl
      have hwz := WfAll.nine wp wa1 wa2 wq wa4 wa5 wr wa7 wa8
      have hz9 : [p, a1, a2, q, a4, a5, r, a7, a8].length = 9 := rfl
      clear ha1 ha2 ha4 ha5 ha7 ha8 q0 q1 q2 q3 q4 q5 q6 q7 q8 hb5
      refine seg_one ?_
      go_wp2_with fail
      rw [atNormal_normal]
      refine seg_done ?_
      generalize [p, a1, a2, q, a4, a5, r, a7, a8] = zs at *
      have hB6 := Lib.hid (below_alloc HB5.out (.cells #[.float .f32 p, .float .f32 a1, .float .f32 a2, .float .f32 q, .float .f32 a4, .float .f32 a5, .float .f32 r, .float .f32 a7, .float .f32 a8] 22))
      have HF := Lib.hid hF
      have HZ := Lib.hid hz
      have HW := Lib.hid hwz
      clear hF hz hwz
      go_wp2_with fail
      go_loopw [155] (fun i wr => ∃ (k : Nat) (ys : List Nat), k ≤ 9 ∧ i = .int .i64 k ∧ ys.length = zs.length ∧ FB wr W5.heap.size ys ∧ (ys.take k).map (can .f32) = (zs.take k).map (fun x => quo (can .f32 x) (can .f32 s)) ∧ (∀ j, k ≤ j → ys[j]? = zs[j]?) ∧ WfAll ys ∧ Below w.heap.size w wr) (fun i _ => 9 - (intOf i).toNat)
      case atStart => exact ⟨0, zs, by omega, rfl, rfl, HF.out, by simp, fun _ _ => rfl, HW.out, hB6.out⟩
      case round =>
        obtain ⟨k, ys, hk, rfl, hy, hFr, ht, hrest, hwf, hbr⟩ := hrel
        have HFr := Lib.hid hFr
        have HT := Lib.hid ht
        have HR := Lib.hid hrest
        have HW2 := Lib.hid hwf
        have HBr := Lib.hid hbr
        clear hFr ht hrest hwf hbr
        by_cases hlt : k < 9
        · have hky : k < ys.length := by omega
          have hcell := HFr.out.cell k hky
          have hfro := HFr.out.frozen k hky
          go_wp2_with (first | (refine upon_op rfl ?_; intro r n hr hw; go_simp) | (refine upon_widen Try.underlying22 Try.underlying30 ?_; intro r n hr hw; go_simp))
          go_roundw
          case rel =>
            have hrk := divs_step (zs := zs) (d := can .f32 s) hy (by omega) HT.out HR.out (by rw [← divs_here (by omega) (by omega) HR.out]; assumption)
            exact ⟨k + 1, _, by omega, by go_num, by simp [hy], (HFr.out.set_ hky _).drewN _, hrk.1, hrk.2, HW2.out.set_ (by assumption), below_drewN (HBr.out.setCell (p := ⟨W5.heap.size, k, none⟩) hG _) _⟩
          case measure => simp [intOf]; omega
        · have hk9 : k = 9 := by omega
          have hy9 : ys.length = 9 := by omega
          have hyF : ys.map (can .f32) = backF [m0, m1, m2, m3, m4, m5, m6, m7, m8] := back_of HZ.out hsd (by have := HT.out; rwa [List.take_of_length_le (by omega), List.take_of_length_le (by omega)] at this)
          have HyF := Lib.hid hyF
          have Hok := Lib.hid (backOk_of HM.out hE hyF)
          have hlf := l02Finite_any W5.heap.size 0 9 ys
          rw [hy9] at hlf
          have Hlf := Lib.hid hlf
          clear hyF hlf
          cases hB : allFin ys
          all_goals
            go_wp2_with (go_at_call 59; refine (Hlf.out _ HFr.out.fs (by decide)).mono ?_; rw [hB]; rintro e w' ⟨n, rfl, rfl⟩)
            go_ret2
            have Hb := HBr.out
            first
              | exact givesL_none (Hok.out.trans hB) (by unfold backR; rw [Hok.out, hB]; rfl) (by repeat (with_reducible first | exact Below.refl _ _ | refine below_drewN ?_ _ | refine Below.drew ?_ | refine below_alloc ?_ _ | refine below_set0 ?_ _ _ | refine below_set1 ?_ _ _ | refine below_set2 ?_ _ _ | refine below_set3 ?_ _ _ | refine below_call (by assumption) ?_ | refine below_step (by assumption) (by assumption) ?_))
              | (have hh := givesL_some (w := w) (cap := 9) (F := backR [m0, m1, m2, m3, m4, m5, m6, m7, m8]) (Hok.out.trans hB) (HFr.out.drewN n) hG (by rw [HyF.out]; unfold backR; rw [Hok.out, hB]; first | done | rfl) HW2.out (by repeat (with_reducible first | exact Below.refl _ _ | refine below_drewN ?_ _ | refine Below.drew ?_ | refine below_alloc ?_ _ | refine below_set0 ?_ _ _ | refine below_set1 ?_ _ _ | refine below_set2 ?_ _ _ | refine below_set3 ?_ _ _ | refine below_call (by assumption) ?_ | refine below_step (by assumption) (by assumption) ?_))
                 rw [hy9] at hh
                 exact hh)
    · go_wp2_with fail
      go_ret2
      have Hb := HB4.out
      exact givesL_none (backOk_det hE).1 (backOk_det hE).2 (by repeat (with_reducible first | exact Below.refl _ _ | refine below_drewN ?_ _ | refine Below.drew ?_ | refine below_alloc ?_ _ | refine below_set0 ?_ _ _ | refine below_set1 ?_ _ _ | refine below_set2 ?_ _ _ | refine below_set3 ?_ _ _ | refine below_call (by assumption) ?_ | refine below_step (by assumption) (by assumption) ?_))
end Go.Proofs.Ytokpnjliikhecaa
