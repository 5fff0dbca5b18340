/- FACES OF A WAY: the program's walk. -/
import Derived.Test.YtokpnjliikhecaaW23
import Derived.Test.YtokpnjliikhecaaPure10
import Derived.Test.YtokpnjliikhecaaW11
set_option linter.unusedSimpArgs false
set_option linter.unusedVariables false
set_option linter.unnecessarySimpa false
set_option maxRecDepth 20000
namespace Go.Proofs.Ytokpnjliikhecaa
open Go.RowKit Go.Fl

set_option maxHeartbeats 4000000 in
theorem faceOfI_any (x y z : Nat) (w : World) (wx : Wf .f32 x) (wy : Wf .f32 y) (wz : Wf .f32 z) : Calls Try.prog 30 #[.agg #[.float .f32 x, .float .f32 y, .float .f32 z]] w
    (fun e w' => if isWay (can .f32 x) (can .f32 y) (can .f32 z) = true then ∃ p q, e = .returned (.tuple #[.int .i64 (fN (can .f32 x) (can .f32 y) (can .f32 z)), .float .f32 p, .float .f32 q, .bool true]) ∧ (can .f32 p = quo (fA (can .f32 x) (can .f32 y) (can .f32 z)) (fSize (can .f32 x) (can .f32 y) (can .f32 z)) ∧ can .f32 q = quo (fB (can .f32 x) (can .f32 y) (can .f32 z)) (fSize (can .f32 x) (can .f32 y) (can .f32 z))) ∧ (Wf .f32 p ∧ Wf .f32 q) ∧ Below w.heap.size w w'
      else e = .returned (.tuple #[.int .i64 0, .float .f32 0, .float .f32 0, .bool false]) ∧ Below w.heap.size w w') := by
  cases hB : isWay (can .f32 x) (can .f32 y) (can .f32 z)
  · go_enter Try.func30, Try.ntmps30
    go_wp2_with (first | (refine upon_op rfl ?_; intro r n hr hw; go_simp) | (refine upon_widen Try.underlying22 Try.underlying30 ?_; intro r n hr hw; go_simp) | (go_at_call 51; refine (isWayI_any _ _ _ _ (by assumption) (by assumption) (by assumption)).mono ?_; rintro e w' ⟨rfl, hb⟩; obtain ⟨hc, hf⟩ := below_cells hb; have hz := hb.size; (try simp at hz); (try have hz3 := Nat.lt_of_succ_le hz); (try have hz0 : w.heap.size < w'.heap.size := by omega); (try have hz1 : w.heap.size + 1 < w'.heap.size := by omega); (try have hz2 : w.heap.size + 1 + 1 < w'.heap.size := by omega)))
    refine bodyPost_ret (by simp [results, Try.results30, go_sem, *] <;> rfl) rfl ?_
    exact ⟨rfl, (by repeat (with_reducible first | exact Below.refl _ _ | refine below_drewN ?_ _ | refine Below.drew ?_ | refine below_alloc ?_ _ | refine below_set0 ?_ _ _ | refine below_set1 ?_ _ _ | refine below_set2 ?_ _ _ | refine below_set3 ?_ _ _ | refine below_call (by assumption) ?_ | refine below_step (by assumption) (by assumption) ?_))⟩
  · have HB := Lib.hid hB
    have hw3 := WfAll.three wx wy wz
    obtain ⟨L, hL⟩ : ∃ L : Nat → Nat, L = fun j => if j = 0 then x else if j = 1 then y else z := ⟨_, rfl⟩
    have hff : isFin .f32 (can .f32 x) = true ∧ isFin .f32 (can .f32 y) = true ∧ isFin .f32 (can .f32 z) = true := by unfold isWay fin3 at hB; simp only [Bool.and_eq_true] at hB; exact ⟨hB.1.1.1, hB.1.1.2, hB.1.2⟩
    have hLf : ∀ j, j < 3 → Wf .f32 (L j) ∧ isFin .f32 (can .f32 (L j)) = true := by
      intro j hj; subst hL
      obtain rfl | rfl | rfl : j = 0 ∨ j = 1 ∨ j = 2 := by omega
      · exact ⟨wx, hff.1⟩
      · exact ⟨wy, hff.2.1⟩
      · exact ⟨wz, hff.2.2⟩
    have hLc : ∀ (W : World) g, FB W g [x, y, z] → ∀ j, j < 3 → W.cell? ⟨g, j, none⟩ = some (.float .f32 (L j)) := by
      intro W g hF j hj; subst hL
      obtain rfl | rfl | rfl : j = 0 ∨ j = 1 ∨ j = 2 := by omega
      · exact hF.cell 0 (by simp)
      · exact hF.cell 1 (by simp)
      · exact hF.cell 2 (by simp)
    have hL0 : L 0 = x := by subst hL; rfl
    have hL1 : L 1 = y := by subst hL; rfl
    have hL2 : L 2 = z := by subst hL; rfl
    have hb3 := bst_three (M := fun j => can .f32 (L j)) (by rw [hL0]) (by rw [hL1]) (by rw [hL2]) (wf_can wx) hff.1
    have hpn := fPart_ne (wf_can wx) (wf_can wy) (wf_can wz) hB
    have hblt := fun k (h : k ≤ 3) => bst_lt (fun j => can .f32 (L j)) k h
    have hbs : ∀ k, bst (fun j => can .f32 (L j)) (k + 1) = if lt .f32 (size .f32 (can .f32 (L (bst (fun j => can .f32 (L j)) k)))) (size .f32 (can .f32 (L k))) = true then k else bst (fun j => can .f32 (L j)) k := fun k => rfl
    have hb0 : bst (fun j => can .f32 (L j)) 0 = 0 := rfl
    generalize bst (fun j => can .f32 (L j)) = bb at *
    clear hL
    have HLf := Lib.hid hLf
    have HLc := Lib.hid hLc
    have HL := Lib.hid (And.intro hL0 (And.intro hL1 hL2))
    have Hff := Lib.hid hff
    have Hb3 := Lib.hid hb3
    have Hpn := Lib.hid hpn
    have Hblt := Lib.hid hblt
    have Hbs := Lib.hid hbs
    have Hb0 := Lib.hid hb0
    clear hLf hLc hL0 hL1 hL2 hff hb3 hpn hblt hbs hb0 hw3
    go_enter Try.func30, Try.ntmps30
    go_wp2_with (first | (go_at_call 51; refine (isWayI_any _ _ _ _ (by assumption) (by assumption) (by assumption)).mono ?_; rintro e w' ⟨rfl, hb⟩; obtain ⟨hc, hf⟩ := below_cells hb; have hz := hb.size; (try simp at hz); (try have hz3 := Nat.lt_of_succ_le hz); (try have hz0 : w.heap.size < w'.heap.size := by omega); (try have hz1 : w.heap.size + 1 < w'.heap.size := by omega); (try have hz2 : w.heap.size + 1 + 1 < w'.heap.size := by omega)))
    have hF : FB _ _ [x, y, z] := FB.new3 (w := w') 22 x y z
    go_loopw [7, 25] (fun b i wr => ∃ k : Nat, k ≤ 3 ∧ i = .int .i64 k ∧ b = .int .i64 (bb k) ∧ Below (w'.alloc (.cells #[.float .f32 x, .float .f32 y, .float .f32 z] 22)).heap.size (w'.alloc (.cells #[.float .f32 x, .float .f32 y, .float .f32 z] 22)) wr) (fun _ i _ => 3 - (intOf i).toNat)
    case atStart => exact ⟨0, Nat.zero_le _, rfl, by rw [Hb0.out]; rfl, Below.refl _ _⟩
    case round =>
      obtain ⟨k, hk, rfl, rfl, hbb⟩ := hrel
      have HBB := Lib.hid hbb
      have hF1 := FB.up hbb hF
      have hbk := Hblt.out k hk
      have hcb := HLc.out _ _ hF1 (bb k) hbk
      have hgl := hF1.lt
      have hbi : ((bb k : Nat) : Int) < 3 := by omega
      by_cases hlt : k < 3
      · have hck := HLc.out _ _ hF1 k hlt
        have HF1 := Lib.hid hF1
        have hwk := (HLf.out k hlt).1
        have hwb := (HLf.out _ hbk).1
        have hek := absF_fin (HLf.out k hlt).2
        have heb := absF_fin (HLf.out _ hbk).2
        have Hek := Lib.hid hek
        have Heb := Lib.hid heb
        clear hF1 hbb hF hek heb
        go_wp2_with fail
        refine wp_region_below (fun _ args v => ∃ r, v = .float .f32 r ∧ Wf .f32 r ∧ ∀ a, args = #[.float .f32 a] → can .f32 r = absF (can .f32 a)) (by kernel_rfl) (by kernel_rfl) ?_
        repeat first
          | (refine wpLoose_want rfl ?_; refine loose_move _ rfl ?_; simp only [Act.put, Act.eval, List.setIfInBounds_toArray, List.set_cons_succ, List.set_cons_zero, Array.getD_eq_getD_getElem?, List.getElem?_toArray, List.getElem?_cons_succ, List.getElem?_cons_zero, Option.getD_some])
          | (refine wpLoose_want rfl ?_; apply loose_val; (· (intro w2 hC2; obtain ⟨hc2, hf2⟩ := below_cells hC2; go_simp; try rfl)); simp only [Act.put, Act.eval, List.setIfInBounds_toArray, List.set_cons_succ, List.set_cons_zero, Array.getD_eq_getD_getElem?, List.getElem?_toArray, List.getElem?_cons_succ, List.getElem?_cons_zero, Option.getD_some])
        refine wpLoose_want rfl ?_
        refine loose_callB 56 #[.float .f32 (L k)] (fun w2 => by go_simp) (fun w2 hC2 => (abs_any (L k) w2 hwk).mono fun e w3 ⟨r, n, he, hb3, hr, hw⟩ => ⟨_, he, ⟨r, rfl, hw, fun a h => by simp at h; subst h; exact hr⟩, by rw [hb3]; exact (by repeat (with_reducible first | exact Below.refl _ _ | refine below_drewN ?_ _ | refine Below.drew ?_ | refine below_alloc ?_ _ | refine below_set0 ?_ _ _ | refine below_set1 ?_ _ _ | refine below_set2 ?_ _ _ | refine below_set3 ?_ _ _ | refine below_call (by assumption) ?_ | refine below_step (by assumption) (by assumption) ?_))⟩) (fun v hv => ?_)
        obtain ⟨r1, rfl, hw1, hr1⟩ := hv
        replace hr1 := (hr1 _ rfl).trans Hek.out
        simp only [Act.put, Act.eval, List.setIfInBounds_toArray, List.set_cons_succ, List.set_cons_zero, Array.getD_eq_getD_getElem?, List.getElem?_toArray, List.getElem?_cons_succ, List.getElem?_cons_zero, Option.getD_some]
        repeat first
          | (refine wpLoose_want rfl ?_; refine loose_move _ rfl ?_; simp only [Act.put, Act.eval, List.setIfInBounds_toArray, List.set_cons_succ, List.set_cons_zero, Array.getD_eq_getD_getElem?, List.getElem?_toArray, List.getElem?_cons_succ, List.getElem?_cons_zero, Option.getD_some])
          | (refine wpLoose_want rfl ?_; apply loose_val; (· (intro w2 hC2; obtain ⟨hc2, hf2⟩ := below_cells hC2; have hcl := (hC2.cell (p := ⟨w'.heap.size, bb k, none⟩) hgl).trans hcb; go_simp; try rfl)); simp only [Act.put, Act.eval, List.setIfInBounds_toArray, List.set_cons_succ, List.set_cons_zero, Array.getD_eq_getD_getElem?, List.getElem?_toArray, List.getElem?_cons_succ, List.getElem?_cons_zero, Option.getD_some])
        refine wpLoose_want rfl ?_
        refine loose_callB 56 #[.float .f32 (L (bb k))] (fun w2 => by go_simp) (fun w2 hC2 => (abs_any (L (bb k)) w2 hwb).mono fun e w3 ⟨r, n, he, hb3, hr, hw⟩ => ⟨_, he, ⟨r, rfl, hw, fun a h => by simp at h; subst h; exact hr⟩, by rw [hb3]; exact (by repeat (with_reducible first | exact Below.refl _ _ | refine below_drewN ?_ _ | refine Below.drew ?_ | refine below_alloc ?_ _ | refine below_set0 ?_ _ _ | refine below_set1 ?_ _ _ | refine below_set2 ?_ _ _ | refine below_set3 ?_ _ _ | refine below_call (by assumption) ?_ | refine below_step (by assumption) (by assumption) ?_))⟩) (fun v hv => ?_)
        obtain ⟨r2, rfl, hw2, hr2⟩ := hv
        replace hr2 := (hr2 _ rfl).trans Heb.out
        simp only [Act.put, Act.eval, List.setIfInBounds_toArray, List.set_cons_succ, List.set_cons_zero, Array.getD_eq_getD_getElem?, List.getElem?_toArray, List.getElem?_cons_succ, List.getElem?_cons_zero, Option.getD_some]
        repeat first
          | (refine wpLoose_want rfl ?_; refine loose_move _ rfl ?_; simp only [Act.put, Act.eval, List.setIfInBounds_toArray, List.set_cons_succ, List.set_cons_zero, Array.getD_eq_getD_getElem?, List.getElem?_toArray, List.getElem?_cons_succ, List.getElem?_cons_zero, Option.getD_some])
          | (refine wpLoose_want rfl ?_; apply loose_val; (· (intro w2 hC2; obtain ⟨hc2, hf2⟩ := below_cells hC2; go_simp; try rfl)); simp only [Act.put, Act.eval, List.setIfInBounds_toArray, List.set_cons_succ, List.set_cons_zero, Array.getD_eq_getD_getElem?, List.getElem?_toArray, List.getElem?_cons_succ, List.getElem?_cons_zero, Option.getD_some])
        refine wpLoose_nil fun W1 hb1 => ?_
        cases hc : lt .f32 (size .f32 (can .f32 (L (bb k)))) (size .f32 (can .f32 (L k)))
        all_goals
          have hs := Hbs.out k
          rw [hc] at hs
          simp only [if_true, if_false, Bool.false_eq_true] at hs
          rw [← hr1, ← hr2] at hc
          have Hs := Lib.hid hs
          clear hs
          go_wp2_with fail
          go_roundw
          case rel => exact ⟨k + 1, by omega, by go_num, by rw [Hs.out], HBB.out.trans (hb1.mono HBB.out.size)⟩
          case measure => simp [intOf]; omega
      · obtain rfl : k = 3 := by omega
        have key : ∃ b : Nat, b < 3 ∧ bb 3 = b ∧ can .f32 (L b) = fPart (can .f32 x) (can .f32 y) (can .f32 z) ∧ fSize (can .f32 x) (can .f32 y) (can .f32 z) = size .f32 (can .f32 (L b)) ∧ fA (can .f32 x) (can .f32 y) (can .f32 z) = can .f32 (if b = 0 then y else x) ∧ fB (can .f32 x) (can .f32 y) (can .f32 z) = can .f32 (if b = 2 then y else z) ∧ fN (can .f32 x) (can .f32 y) (can .f32 z) = 2 * (b : Int) + (if lt .f32 0 (can .f32 (L b)) = true then 0 else 1) := by
          have h3 := Hb3.out
          obtain ⟨l0, l1, l2⟩ := HL.out
          unfold fN fA fB fSize fPart fs1
          cases hB2 : fb2 (can .f32 x) (can .f32 y) (can .f32 z)
          · cases hB1 : fb1 (can .f32 x) (can .f32 y)
            · rw [hB2, hB1] at h3
              exact ⟨0, by decide, h3, by rw [l0]; rfl, by rw [l0]; rfl, rfl, rfl, by rw [l0]; rfl⟩
            · rw [hB2, hB1] at h3
              exact ⟨1, by decide, h3, by rw [l1]; rfl, by rw [l1]; rfl, rfl, rfl, by rw [l1]; rfl⟩
          · rw [hB2] at h3
            exact ⟨2, by decide, h3, by rw [l2]; rfl, by rw [l2]; rfl, rfl, rfl, by rw [l2]; rfl⟩
        obtain ⟨b, hb3, hbb3, hpt, hsz, hA, hBq, hN⟩ := key
        have hcb := HLc.out _ _ hF1 b hb3
        have HF1 := Lib.hid hF1
        have hfb := (HLf.out b hb3).2
        have hwb := (HLf.out b hb3).1
        have Hea := Lib.hid (absF_fin hfb)
        have hsw := lt_swap0 (wf_can hwb) hfb (by rw [hpt]; exact Hpn.out)
        have HN := Lib.hid hN
        have HR := Lib.hid (And.intro hsz (And.intro hA hBq))
        clear hF hF1 hbb hpt hfb hsz hA hBq hN
        rw [hbb3]
        have HG := Lib.hid (fun W h => delete_any w'.heap.size b x y z W h hb3)
        cases hlt0 : lt .f32 0 (can .f32 (L b))
        all_goals
          rw [hlt0] at hsw
          obtain rfl | rfl | rfl : b = 0 ∨ b = 1 ∨ b = 2 := by omega
          all_goals
            clear hbb3 hb3 hbk
            go_wp2_with (first | (go_at_call 56; refine (abs_any _ _ (by assumption)).mono ?_; rintro e w' ⟨r, n, rfl, rfl, hr, hw⟩) | (go_at_call 67; refine (HG.out _ (FB.drewN HF1.out _)).mono ?_; rintro e W9 ⟨_, rfl, rfl, hgr, hd0, hd1⟩))
            have hg9 : w'.heap.size < W9.heap.size := by have h1 := hgr.size; simp at h1; omega
            have HGR := Lib.hid hgr
            clear hgr
            refine wp_region_below (fun _ _ _ => True) (by kernel_rfl) (by kernel_rfl) ?_
            repeat first
              | (refine wpLoose_want rfl ?_; refine loose_move _ rfl ?_; simp only [Act.put, Act.eval, List.setIfInBounds_toArray, List.set_cons_succ, List.set_cons_zero, Array.getD_eq_getD_getElem?, List.getElem?_toArray, List.getElem?_cons_succ, List.getElem?_cons_zero, Option.getD_some])
              | (refine wpLoose_want rfl ?_; refine loose_assign _ rfl ?_; simp only [Act.put, Act.eval, List.setIfInBounds_toArray, List.set_cons_succ, List.set_cons_zero, Array.getD_eq_getD_getElem?, List.getElem?_toArray, List.getElem?_cons_succ, List.getElem?_cons_zero, Option.getD_some])
              | (refine wpLoose_want rfl ?_; refine loose_arith _ _ _ _ _ rfl rfl _ _ _ rfl rfl (below_drawn _) (fun r hr hw => ?_); simp only [Act.put, Act.eval, List.setIfInBounds_toArray, List.set_cons_succ, List.set_cons_zero, Array.getD_eq_getD_getElem?, List.getElem?_toArray, List.getElem?_cons_succ, List.getElem?_cons_zero, Option.getD_some])
              | (refine wpLoose_want rfl ?_; apply loose_val; (· (intro w2 hC2; obtain ⟨hc2, hf2⟩ := below_cells hC2; have hcl := (hC2.cell (p := ⟨w'.heap.size, 0, none⟩) hg9).trans hd0; have hcl2 := (hC2.cell (p := ⟨w'.heap.size, 1, none⟩) hg9).trans hd1; go_simp; try rfl)); simp only [Act.put, Act.eval, List.setIfInBounds_toArray, List.set_cons_succ, List.set_cons_zero, Array.getD_eq_getD_getElem?, List.getElem?_toArray, List.getElem?_cons_succ, List.getElem?_cons_zero, Option.getD_some])
            refine wpLoose_nil fun W1 hb1 => ?_
            go_wp2_with fail
            refine bodyPost_ret (by simp [results, Try.results30, go_sem, *] <;> rfl) rfl ?_
            have HB1 := Lib.hid hb1
            clear hb1
            have hbW : Below w.heap.size w wr := by have h1 : Below w.heap.size w (w'.alloc (.cells #[.float .f32 x, .float .f32 y, .float .f32 z] 22)) := (by repeat (with_reducible first | exact Below.refl _ _ | refine below_drewN ?_ _ | refine Below.drew ?_ | refine below_alloc ?_ _ | refine below_set0 ?_ _ _ | refine below_set1 ?_ _ _ | refine below_set2 ?_ _ _ | refine below_set3 ?_ _ _ | refine below_call (by assumption) ?_ | refine below_step (by assumption) (by assumption) ?_)); exact h1.trans (HBB.out.mono h1.size)
            have hbW9 := below_step HGR.out (fun k hk => by cases hk; omega) (below_drewN hbW _)
            have hbF := hbW9.trans (HB1.out.mono hbW9.size)
            refine ⟨_, _, by rw [HN.out, hlt0]; rfl, ⟨?_, ?_⟩, ⟨by assumption, by assumption⟩, hbF⟩
            · rw [HR.out.1, HR.out.2.1, ← Hea.out]; simp only [*]; rfl
            · rw [HR.out.1, HR.out.2.2, ← Hea.out]; simp only [*]; rfl
