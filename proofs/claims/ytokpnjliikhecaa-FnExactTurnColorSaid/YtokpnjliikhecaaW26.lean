/- A COLOUR, TURNED. -/
import Derived.Test.YtokpnjliikhecaaW17
import Derived.Test.YtokpnjliikhecaaW5
import Derived.Test.YtokpnjliikhecaaPure11
set_option linter.unusedSimpArgs false
set_option linter.unusedVariables false
set_option linter.unnecessarySimpa false
set_option maxRecDepth 20000
namespace Go.Proofs.Ytokpnjliikhecaa
open Go.RowKit Go.Fl

theorem eqColor_any (x y z a b c : Nat) (w : World) : Calls Try.prog 28 #[.agg #[.float .f32 x, .float .f32 y, .float .f32 z], .agg #[.float .f32 a, .float .f32 b, .float .f32 c]] w (GivesB w ((widen (can .f32 x) == widen (can .f32 a)) && (widen (can .f32 y) == widen (can .f32 b)) && (widen (can .f32 z) == widen (can .f32 c)))) := by
  go_enter Try.func28, Try.ntmps28
  go_wp2_with (first | (refine upon_op rfl ?_; intro r n hr hw; go_simp) | (refine upon_widen Try.underlying22 Try.underlying30 ?_; intro r n hr hw; go_simp) | (go_at_call 16; refine (sameFloat_any _ _ _ (by assumption) (by assumption)).mono ?_; rintro e w' ⟨n, rfl, rfl⟩))
  all_goals
    go_ret
    refine ⟨?_, (by repeat (with_reducible first | exact Below.refl _ _ | refine below_drewN ?_ _ | refine Below.drew ?_ | refine below_alloc ?_ _ | refine below_set0 ?_ _ _ | refine below_set1 ?_ _ _ | refine below_set2 ?_ _ _ | refine below_set3 ?_ _ _ | refine below_call (by assumption) ?_ | refine below_step (by assumption) (by assumption) ?_))⟩
    simp_all
theorem turnRow_any (i : Nat) (bm bc g : Nat) (x y z : Nat) (xs : List Nat) (w : World) (hm : w.cell? ⟨bm, 0, none⟩ = some (.slice (some ⟨g, 0, none⟩) xs.length xs.length)) (hc : FB w g xs) (c0 : w.cell? ⟨bc, 0, none⟩ = some (.float .f32 x)) (c1 : w.cell? ⟨bc, 1, none⟩ = some (.float .f32 y)) (c2 : w.cell? ⟨bc, 2, none⟩ = some (.float .f32 z)) (h9 : xs.length = 9) (hi : i = 0 ∨ i = 3 ∨ i = 6) :
    Calls Try.prog 65 #[.int .i64 i, .pointer (some ⟨bm, 0, none⟩), .pointer (some ⟨bc, 0, none⟩)] w (GivesF .f32 w (tRow xs (can .f32 x) (can .f32 y) (can .f32 z) i)) := by
  have hbm := WorldLt.of_cell hm
  have hbc := WorldLt.of_cell c0
  have hg := hc.lt
  have m0 := hc.cell i (by omega)
  have m1 := hc.cell (i + 1) (by omega)
  have m2 := hc.cell (i + 2) (by omega)
  have e : tRow xs (can .f32 x) (can .f32 y) (can .f32 z) i = add (add (mul (can .f32 (xs[i]'(by omega))) (can .f32 x)) (mul (can .f32 (xs[i + 1]'(by omega))) (can .f32 y))) (mul (can .f32 (xs[i + 2]'(by omega))) (can .f32 z)) := by
    unfold tRow
    have q : ∀ j (h : j < xs.length), xs.getD j 0 = xs[j] := fun j h => by simp [h]
    rw [q i (by omega), q (i + 1) (by omega), q (i + 2) (by omega)]
  rw [e]
  generalize xs[i]'(by omega) = x1 at *
  generalize xs[i + 1]'(by omega) = x2 at *
  generalize xs[i + 2]'(by omega) = x3 at *
  rw [h9] at hm
  clear hc e h9
  obtain rfl | rfl | rfl := hi
  all_goals
    simp only [Nat.zero_add, Nat.reduceAdd] at m0 m1 m2
    have wr1 : IntKind.i64.wrap 1 = 1 := rfl
    have wr2 : IntKind.i64.wrap 2 = 2 := rfl
    have wr4 : IntKind.i64.wrap 4 = 4 := rfl
    have wr5 : IntKind.i64.wrap 5 = 5 := rfl
    have wr7 : IntKind.i64.wrap 7 = 7 := rfl
    have wr8 : IntKind.i64.wrap 8 = 8 := rfl
    go_enter Try.func65, Try.ntmps65
    go_wp2_with fail
    refine wp_region_below (fun _ _ _ => True) (by kernel_rfl) (by kernel_rfl) ?_
    repeat first
      | (refine wpLoose_want rfl ?_; refine loose_move _ rfl ?_; simp only [Act.put, Act.eval, List.setIfInBounds_toArray, List.set_cons_succ, List.set_cons_zero, Array.getD_eq_getD_getElem?, List.getElem?_toArray, List.getElem?_cons_succ, List.getElem?_cons_zero, Option.getD_some])
      | (refine wpLoose_want rfl ?_; refine loose_assign _ rfl ?_; simp only [Act.put, Act.eval, List.setIfInBounds_toArray, List.set_cons_succ, List.set_cons_zero, Array.getD_eq_getD_getElem?, List.getElem?_toArray, List.getElem?_cons_succ, List.getElem?_cons_zero, Option.getD_some])
      | (refine wpLoose_want rfl ?_; refine loose_arith _ _ _ _ _ rfl rfl _ _ _ rfl rfl (below_drawn _) (fun r hr hw => ?_); simp only [Act.put, Act.eval, List.setIfInBounds_toArray, List.set_cons_succ, List.set_cons_zero, Array.getD_eq_getD_getElem?, List.getElem?_toArray, List.getElem?_cons_succ, List.getElem?_cons_zero, Option.getD_some])
      | (refine wpLoose_want rfl ?_; apply loose_val; (· (intro w2 hC2; obtain ⟨hc2, hf2⟩ := below_cells hC2; go_simp; try rfl)); simp only [Act.put, Act.eval, List.setIfInBounds_toArray, List.set_cons_succ, List.set_cons_zero, Array.getD_eq_getD_getElem?, List.getElem?_toArray, List.getElem?_cons_succ, List.getElem?_cons_zero, Option.getD_some])
    refine wpLoose_nil fun w' hb => ?_
    go_wp2_with fail
    go_ret
    exact ⟨_, rfl, by simp only [*], by assumption, (by repeat (with_reducible first | exact Below.refl _ _ | refine below_drewN ?_ _ | refine Below.drew ?_ | refine below_alloc ?_ _ | refine below_set0 ?_ _ _ | refine below_set1 ?_ _ _ | refine below_set2 ?_ _ _ | refine below_set3 ?_ _ _ | refine below_call (by assumption) ?_ | refine below_step (by assumption) (by assumption) ?_))⟩
theorem turnS_any (g : Nat) (x y z : Nat) (xs : List Nat) (w : World) (hc : FB w g xs) (h9 : xs.length = 9) :
    Calls Try.prog 63 #[.slice (some ⟨g, 0, none⟩) xs.length xs.length, .agg #[.float .f32 x, .float .f32 y, .float .f32 z]] w (GivesV w (tRow xs (can .f32 x) (can .f32 y) (can .f32 z) 0) (tRow xs (can .f32 x) (can .f32 y) (can .f32 z) 3) (tRow xs (can .f32 x) (can .f32 y) (can .f32 z) 6)) := by
  match xs, h9 with
  | [m0, m1, m2, m3, m4, m5, m6, m7, m8], _ =>
  have hg := hc.lt
  obtain ⟨c0, c1, c2, c3, c4, c5, c6, c7, c8⟩ := cells9 hc
  clear hc h9
  unfold tRow
  simp only [List.getD_cons_zero, List.getD_cons_succ, Nat.zero_add, Nat.reduceAdd]
  go_enter Try.func63, Try.ntmps63
  go_wp2_with fail
  obtain ⟨W, hW⟩ : ∃ W, W = (w.alloc (.cells #[.float .f32 x, .float .f32 y, .float .f32 z] 41)).alloc (.cells #[.float .f32 0, .float .f32 0, .float .f32 0] 41) := ⟨_, rfl⟩
  rw [← hW]
  have hbW : Below w.heap.size w W := by rw [hW]; exact (by repeat (with_reducible first | exact Below.refl _ _ | refine below_drewN ?_ _ | refine Below.drew ?_ | refine below_alloc ?_ _ | refine below_set0 ?_ _ _ | refine below_set1 ?_ _ _ | refine below_set2 ?_ _ _ | refine below_set3 ?_ _ _ | refine below_call (by assumption) ?_ | refine below_step (by assumption) (by assumption) ?_))
  have hsW : W.heap.size = w.heap.size + 1 + 1 := by rw [hW]; simp
  have k0 : W.cell? ⟨w.heap.size, 0, none⟩ = some (.float .f32 x) := by rw [hW]; go_simp
  have k1 : W.cell? ⟨w.heap.size, 1, none⟩ = some (.float .f32 y) := by rw [hW]; go_simp
  have k2 : W.cell? ⟨w.heap.size, 2, none⟩ = some (.float .f32 z) := by rw [hW]; go_simp
  have j0 : W.cell? ⟨w.heap.size + 1, 0, none⟩ = some (.float .f32 0) := by rw [hW]; go_simp
  have j1 : W.cell? ⟨w.heap.size + 1, 1, none⟩ = some (.float .f32 0) := by rw [hW]; go_simp
  have j2 : W.cell? ⟨w.heap.size + 1, 2, none⟩ = some (.float .f32 0) := by rw [hW]; go_simp
  have z0 : W.frozen? ⟨w.heap.size + 1, 0, none⟩ = false := by rw [hW]; go_simp
  have z1 : W.frozen? ⟨w.heap.size + 1, 1, none⟩ = false := by rw [hW]; go_simp
  have z2 : W.frozen? ⟨w.heap.size + 1, 2, none⟩ = false := by rw [hW]; go_simp
  clear hW
  replace c0 := (hbW.cell (p := ⟨g, 0, none⟩) hg).trans c0
  replace c1 := (hbW.cell (p := ⟨g, 1, none⟩) hg).trans c1
  replace c2 := (hbW.cell (p := ⟨g, 2, none⟩) hg).trans c2
  replace c3 := (hbW.cell (p := ⟨g, 3, none⟩) hg).trans c3
  replace c4 := (hbW.cell (p := ⟨g, 4, none⟩) hg).trans c4
  replace c5 := (hbW.cell (p := ⟨g, 5, none⟩) hg).trans c5
  replace c6 := (hbW.cell (p := ⟨g, 6, none⟩) hg).trans c6
  replace c7 := (hbW.cell (p := ⟨g, 7, none⟩) hg).trans c7
  replace c8 := (hbW.cell (p := ⟨g, 8, none⟩) hg).trans c8
  have hgW : g < W.heap.size := by omega
  have hxW : w.heap.size < W.heap.size := by omega
  have hyW : w.heap.size + 1 < W.heap.size := by omega
  clear hsW
  refine wp_region_cut [61] (by kernel_rfl) (by kernel_rfl) ?_
  simp only [cuts, List.take_succ_cons, List.take_zero, List.drop_succ_cons, List.drop_zero]
  refine seg_loose (fun _ _ _ => True) ?_
  repeat first
    | (refine wpLoose_want rfl ?_; refine loose_move _ rfl ?_; simp only [Act.put, Act.eval, List.setIfInBounds_toArray, List.set_cons_succ, List.set_cons_zero, Array.getD_eq_getD_getElem?, List.getElem?_toArray, List.getElem?_cons_succ, List.getElem?_cons_zero, Option.getD_some])
    | (refine wpLoose_want rfl ?_; refine loose_arith _ _ _ _ _ rfl rfl _ _ _ rfl rfl (below_drawn _) (fun r hr hw => ?_); simp only [Act.put, Act.eval, List.setIfInBounds_toArray, List.set_cons_succ, List.set_cons_zero, Array.getD_eq_getD_getElem?, List.getElem?_toArray, List.getElem?_cons_succ, List.getElem?_cons_zero, Option.getD_some])
    | (refine wpLoose_want rfl ?_; apply loose_val; (· (intro w2 hC2; obtain ⟨hc2, hf2⟩ := below_cells hC2; (try replace hc2 : ∀ b o, b < W.heap.size → w2.cell? ⟨b, o, none⟩ = W.cell? ⟨b, o, none⟩ := hc2); go_simp; try rfl)); simp only [Act.put, Act.eval, List.setIfInBounds_toArray, List.set_cons_succ, List.set_cons_zero, Array.getD_eq_getD_getElem?, List.getElem?_toArray, List.getElem?_cons_succ, List.getElem?_cons_zero, Option.getD_some])
  refine wpLoose_nil fun W1 hb1 => ?_
  replace hb1 : Below W.heap.size W W1 := below_undrew (n := 1) hb1
  have hq := below_cells hb1
  have y0 : W1.cell? ⟨w.heap.size + 1, 0, none⟩ = some (.float .f32 0) := by rw [hq.1 _ _ hyW]; exact j0
  have y1 : W1.cell? ⟨w.heap.size + 1, 1, none⟩ = some (.float .f32 0) := by rw [hq.1 _ _ hyW]; exact j1
  have y2 : W1.cell? ⟨w.heap.size + 1, 2, none⟩ = some (.float .f32 0) := by rw [hq.1 _ _ hyW]; exact j2
  have x0 := (hq.2 _ 0 hyW).trans z0
  have x1 := (hq.2 _ 1 hyW).trans z1
  have x2 := (hq.2 _ 2 hyW).trans z2
  have hbF : Below w.heap.size w W1 := hbW.trans (hb1.mono hbW.size)
  clear c0 c1 c2 c3 c4 c5 c6 c7 c8 k0 k1 k2 j0 j1 j2 z0 z1 z2 hb1 hq hbW
  refine seg_one ?_
  go_wp2_with fail
  rw [atNormal_normal]
  refine seg_done ?_
  go_wp2_with fail
  refine bodyPost_ret (by simp [results, Try.results63, go_sem, *] <;> rfl) rfl ?_
  exact ⟨_, _, _, rfl, ⟨by simp only [*], by simp only [*], by simp only [*]⟩, ⟨by assumption, by assumption, by assumption⟩, (by repeat (with_reducible first | exact Below.refl _ _ | refine below_drewN ?_ _ | refine Below.drew ?_ | refine below_alloc ?_ _ | refine below_set0 ?_ _ _ | refine below_set1 ?_ _ _ | refine below_set2 ?_ _ _ | refine below_set3 ?_ _ _ | refine below_call (by assumption) ?_ | refine below_step (by assumption) (by assumption) ?_))⟩
end Go.Proofs.Ytokpnjliikhecaa
