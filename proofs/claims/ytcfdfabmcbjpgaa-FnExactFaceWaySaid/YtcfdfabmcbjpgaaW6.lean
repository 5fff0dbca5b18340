/- FACES, THRESHOLDS: the laws. -/
import Derived.Test.YtcfdfabmcbjpgaaW5
import Derived.Test.YtcfdfabmcbjpgaaPure2
set_option linter.unusedSimpArgs false
set_option linter.unusedVariables false
namespace Go.Proofs.Ytcfdfabmcbjpgaa
open Go.RowKit Go.Fl

theorem eqWay_any (x y z a b c : Nat) (w : World) : Calls Try.prog 22 #[.agg #[.float .f32 x, .float .f32 y, .float .f32 z], .agg #[.float .f32 a, .float .f32 b, .float .f32 c]] w (GivesB w ((widen (can .f32 x) == widen (can .f32 a)) && (widen (can .f32 y) == widen (can .f32 b)) && (widen (can .f32 z) == widen (can .f32 c)))) := by
  go_enter Try.func22, Try.ntmps22
  go_wp2_with (first | (refine upon_op rfl ?_; intro r n hr hw; go_simp) | (refine upon_widen Try.underlying22 Try.underlying40 ?_; intro r n hr hw; go_simp) | (go_at_call 19; refine (sameFloat_any _ _ _ (by assumption) (by assumption)).mono ?_; rintro e w' ⟨n, rfl, rfl⟩))
  all_goals
    go_ret
    refine ⟨?_, (by repeat (with_reducible first | exact Below.refl _ _ | refine below_drewN ?_ _ | refine Below.drew ?_ | refine below_alloc ?_ _ | refine below_set0 ?_ _ _ | refine below_set1 ?_ _ _ | refine below_set2 ?_ _ _ | refine below_set3 ?_ _ _ | refine below_call (by assumption) ?_))⟩
    simp_all
theorem law_FaceWay (f : Int) (x y : Nat) (w : World) (lo : -9223372036854775808 ≤ f) (hi : f ≤ 9223372036854775807) (wx : Wf .f32 x) (wy : Wf .f32 y) : Calls Try.prog 7 #[.int .i64 f, .float .f32 x, .float .f32 y] w (GivesB w true) := by
  clear lo hi wx wy
  obtain ⟨p, q, r, hp⟩ : ∃ p q r, faceR f x y = .agg #[.float .f32 p, .float .f32 q, .float .f32 r] := by
    unfold faceR; split
    · exact faceV_form f x y
    · exact ⟨_, _, _, rfl⟩
  have H1 := fun w => faceWayS_any f x y w
  have H2 := fun w => faceWayI_any f x y w
  rw [hp] at H1 H2
  have H1' := Lib.hid H1
  have H2' := Lib.hid H2
  clear H1 H2 hp
  go_enter Try.func7, Try.ntmps7
  go_wp2_with (first | (go_at_call 22; refine (eqWay_any _ _ _ _ _ _ _).mono ?_; rintro e w' ⟨rfl, hb⟩; obtain ⟨hc, hf⟩ := below_cells hb; have hz := hb.size; (try simp at hz); (try have hz3 := Nat.lt_of_succ_le hz); (try have hz0 : w.heap.size < w'.heap.size := by omega); (try have hz1 : w.heap.size + 1 < w'.heap.size := by omega); (try have hz2 : w.heap.size + 1 + 1 < w'.heap.size := by omega)) | (go_at_call 20; refine (H1'.out _).mono ?_; rintro e w' ⟨rfl, hb⟩; obtain ⟨hc, hf⟩ := below_cells hb; have hz := hb.size; (try simp at hz); (try have hz3 := Nat.lt_of_succ_le hz); (try have hz0 : w.heap.size < w'.heap.size := by omega); (try have hz1 : w.heap.size + 1 < w'.heap.size := by omega); (try have hz2 : w.heap.size + 1 + 1 < w'.heap.size := by omega)) | (go_at_call 21; refine (H2'.out _).mono ?_; rintro e w' ⟨rfl, hb⟩; obtain ⟨hc, hf⟩ := below_cells hb; have hz := hb.size; (try simp at hz); (try have hz3 := Nat.lt_of_succ_le hz); (try have hz0 : w.heap.size < w'.heap.size := by omega); (try have hz1 : w.heap.size + 1 < w'.heap.size := by omega); (try have hz2 : w.heap.size + 1 + 1 < w'.heap.size := by omega)))
  go_ret
  exact ⟨rfl, (by repeat (with_reducible first | exact Below.refl _ _ | refine below_drewN ?_ _ | refine Below.drew ?_ | refine below_alloc ?_ _ | refine below_set0 ?_ _ _ | refine below_set1 ?_ _ _ | refine below_set2 ?_ _ _ | refine below_set3 ?_ _ _ | refine below_call (by assumption) ?_))⟩
set_option maxHeartbeats 4000000 in
theorem thresholdI_any (s x y : Int) (w : World) (hs : s = 2 ∨ s = 4) (hx : 0 ≤ x) (hx' : x ≤ 1000000) (hy : 0 ≤ y) (hy' : y ≤ 1000000) : Calls Try.prog 32 #[.int .i64 s, .int .i64 x, .int .i64 y] w (GivesF .f32 w (thr s x y)) := by
  unfold thr
  rcases hs with rfl | rfl
  · rcases mod_two x with h1 | h1 <;> rcases mod_two y with h2 | h2
    all_goals
      have e1 : x.tmod 2 = x % 2 := Int.tmod_eq_emod_of_nonneg hx
      have e2 : y.tmod 2 = y % 2 := Int.tmod_eq_emod_of_nonneg hy
      have wr := IntWalk.i64_in
      rw [h1] at e1
      rw [h2] at e2
      rw [h1, h2]
      go_enter Try.func32, Try.ntmps32
      go_wp2_with fail
      refine wp_region_below (fun _ _ _ => True) (by kernel_rfl) (by kernel_rfl) ?_
      repeat first
        | (refine wpLoose_want rfl ?_; refine loose_move _ rfl ?_; simp only [Act.put, Act.eval, List.setIfInBounds_toArray, List.set_cons_succ, List.set_cons_zero, Array.getD_eq_getD_getElem?, List.getElem?_toArray, List.getElem?_cons_succ, List.getElem?_cons_zero, Option.getD_some])
        | (refine wpLoose_want rfl ?_; refine loose_assign _ rfl ?_; simp only [Act.put, Act.eval, List.setIfInBounds_toArray, List.set_cons_succ, List.set_cons_zero, Array.getD_eq_getD_getElem?, List.getElem?_toArray, List.getElem?_cons_succ, List.getElem?_cons_zero, Option.getD_some])
        | (refine wpLoose_want rfl ?_; refine loose_arith _ _ _ _ _ rfl rfl _ _ _ rfl rfl (below_drawn _) (fun r hr hw => ?_); simp only [Act.put, Act.eval, List.setIfInBounds_toArray, List.set_cons_succ, List.set_cons_zero, Array.getD_eq_getD_getElem?, List.getElem?_toArray, List.getElem?_cons_succ, List.getElem?_cons_zero, Option.getD_some])
        | (refine wpLoose_want rfl ?_; apply loose_val; (· (intro w2 hC2; obtain ⟨hc2, hf2⟩ := below_cells hC2; go_simp; try rfl)); simp only [Act.put, Act.eval, List.setIfInBounds_toArray, List.set_cons_succ, List.set_cons_zero, Array.getD_eq_getD_getElem?, List.getElem?_toArray, List.getElem?_cons_succ, List.getElem?_cons_zero, Option.getD_some])
      refine wpLoose_nil fun w' hb => ?_
      obtain ⟨hc, hf⟩ := below_cells hb; have hz := hb.size; (try simp at hz); (try have hz3 := Nat.lt_of_succ_le hz); (try have hz0 : w.heap.size < w'.heap.size := by omega); (try have hz1 : w.heap.size + 1 < w'.heap.size := by omega); (try have hz2 : w.heap.size + 1 + 1 < w'.heap.size := by omega)
      go_wp2_with fail
      go_ret
      refine ⟨_, rfl, ?_, by assumption, (by repeat (with_reducible first | exact Below.refl _ _ | refine below_drewN ?_ _ | refine Below.drew ?_ | refine below_alloc ?_ _ | refine below_set0 ?_ _ _ | refine below_set1 ?_ _ _ | refine below_set2 ?_ _ _ | refine below_set3 ?_ _ _ | refine below_call (by assumption) ?_))⟩
      first
        | (apply Eq.trans; assumption; refine congrArg (fun z => op .quo .f32 z _) ?_; apply Eq.trans; assumption; rfl)
        | (trace_state; done)
  · rcases mod_four x with h1 | h1 | h1 | h1 <;> rcases mod_four y with h2 | h2 | h2 | h2
    all_goals
      have e1 : x.tmod 4 = x % 4 := Int.tmod_eq_emod_of_nonneg hx
      have e2 : y.tmod 4 = y % 4 := Int.tmod_eq_emod_of_nonneg hy
      have wr := IntWalk.i64_in
      rw [h1] at e1
      rw [h2] at e2
      rw [h1, h2]
      go_enter Try.func32, Try.ntmps32
      go_wp2_with fail
      refine wp_region_below (fun _ _ _ => True) (by kernel_rfl) (by kernel_rfl) ?_
      repeat first
        | (refine wpLoose_want rfl ?_; refine loose_move _ rfl ?_; simp only [Act.put, Act.eval, List.setIfInBounds_toArray, List.set_cons_succ, List.set_cons_zero, Array.getD_eq_getD_getElem?, List.getElem?_toArray, List.getElem?_cons_succ, List.getElem?_cons_zero, Option.getD_some])
        | (refine wpLoose_want rfl ?_; refine loose_assign _ rfl ?_; simp only [Act.put, Act.eval, List.setIfInBounds_toArray, List.set_cons_succ, List.set_cons_zero, Array.getD_eq_getD_getElem?, List.getElem?_toArray, List.getElem?_cons_succ, List.getElem?_cons_zero, Option.getD_some])
        | (refine wpLoose_want rfl ?_; refine loose_arith _ _ _ _ _ rfl rfl _ _ _ rfl rfl (below_drawn _) (fun r hr hw => ?_); simp only [Act.put, Act.eval, List.setIfInBounds_toArray, List.set_cons_succ, List.set_cons_zero, Array.getD_eq_getD_getElem?, List.getElem?_toArray, List.getElem?_cons_succ, List.getElem?_cons_zero, Option.getD_some])
        | (refine wpLoose_want rfl ?_; apply loose_val; (· (intro w2 hC2; obtain ⟨hc2, hf2⟩ := below_cells hC2; go_simp; try rfl)); simp only [Act.put, Act.eval, List.setIfInBounds_toArray, List.set_cons_succ, List.set_cons_zero, Array.getD_eq_getD_getElem?, List.getElem?_toArray, List.getElem?_cons_succ, List.getElem?_cons_zero, Option.getD_some])
      refine wpLoose_nil fun w' hb => ?_
      obtain ⟨hc, hf⟩ := below_cells hb; have hz := hb.size; (try simp at hz); (try have hz3 := Nat.lt_of_succ_le hz); (try have hz0 : w.heap.size < w'.heap.size := by omega); (try have hz1 : w.heap.size + 1 < w'.heap.size := by omega); (try have hz2 : w.heap.size + 1 + 1 < w'.heap.size := by omega)
      go_wp2_with fail
      go_ret
      refine ⟨_, rfl, ?_, by assumption, (by repeat (with_reducible first | exact Below.refl _ _ | refine below_drewN ?_ _ | refine Below.drew ?_ | refine below_alloc ?_ _ | refine below_set0 ?_ _ _ | refine below_set1 ?_ _ _ | refine below_set2 ?_ _ _ | refine below_set3 ?_ _ _ | refine below_call (by assumption) ?_))⟩
      first
        | (apply Eq.trans; assumption; refine congrArg (fun z => op .quo .f32 z _) ?_; apply Eq.trans; assumption; rfl)
        | (trace_state; done)
set_option maxHeartbeats 4000000 in
theorem thresholdS_any (s x y : Int) (w : World) (hs : s = 2 ∨ s = 4) (hx : 0 ≤ x) (hx' : x ≤ 1000000) (hy : 0 ≤ y) (hy' : y ≤ 1000000) : Calls Try.prog 30 #[.int .i64 s, .int .i64 x, .int .i64 y] w (GivesF .f32 w (thr s x y)) := by
  unfold thr
  rcases hs with rfl | rfl
  · rcases mod_two x with h1 | h1 <;> rcases mod_two y with h2 | h2
    all_goals
      have e1 : x.tmod 2 = x % 2 := Int.tmod_eq_emod_of_nonneg hx
      have e2 : y.tmod 2 = y % 2 := Int.tmod_eq_emod_of_nonneg hy
      have wr := IntWalk.i64_in
      rw [h1] at e1
      rw [h2] at e2
      rw [h1, h2]
      go_enter Try.func30, Try.ntmps30
      go_wp2_with fail
      refine wp_region_below (fun _ _ _ => True) (by kernel_rfl) (by kernel_rfl) ?_
      repeat first
        | (refine wpLoose_want rfl ?_; refine loose_move _ rfl ?_; simp only [Act.put, Act.eval, List.setIfInBounds_toArray, List.set_cons_succ, List.set_cons_zero, Array.getD_eq_getD_getElem?, List.getElem?_toArray, List.getElem?_cons_succ, List.getElem?_cons_zero, Option.getD_some])
        | (refine wpLoose_want rfl ?_; refine loose_assign _ rfl ?_; simp only [Act.put, Act.eval, List.setIfInBounds_toArray, List.set_cons_succ, List.set_cons_zero, Array.getD_eq_getD_getElem?, List.getElem?_toArray, List.getElem?_cons_succ, List.getElem?_cons_zero, Option.getD_some])
        | (refine wpLoose_want rfl ?_; apply loose_val; (· (intro w2 hC2; obtain ⟨hc2, hf2⟩ := below_cells hC2; go_simp; try rfl)); simp only [Act.put, Act.eval, List.setIfInBounds_toArray, List.set_cons_succ, List.set_cons_zero, Array.getD_eq_getD_getElem?, List.getElem?_toArray, List.getElem?_cons_succ, List.getElem?_cons_zero, Option.getD_some])
      refine wpLoose_nil fun w' hb => ?_
      obtain ⟨hc, hf⟩ := below_cells hb; have hz := hb.size; (try simp at hz); (try have hz3 := Nat.lt_of_succ_le hz); (try have hz0 : w.heap.size < w'.heap.size := by omega); (try have hz1 : w.heap.size + 1 < w'.heap.size := by omega); (try have hz2 : w.heap.size + 1 + 1 < w'.heap.size := by omega)
      go_wp2_with (first | (refine upon_op rfl ?_; intro r n hr hw; go_simp) | (refine upon_widen Try.underlying22 Try.underlying40 ?_; intro r n hr hw; go_simp))
      go_ret
      refine ⟨_, rfl, ?_, by assumption, (by repeat (with_reducible first | exact Below.refl _ _ | refine below_drewN ?_ _ | refine Below.drew ?_ | refine below_alloc ?_ _ | refine below_set0 ?_ _ _ | refine below_set1 ?_ _ _ | refine below_set2 ?_ _ _ | refine below_set3 ?_ _ _ | refine below_call (by assumption) ?_))⟩
      first
        | (apply Eq.trans; assumption; refine congrArg (fun z => op .quo .f32 z _) ?_; apply Eq.trans; assumption; rfl)
        | (trace_state; done)
  · rcases mod_four x with h1 | h1 | h1 | h1 <;> rcases mod_four y with h2 | h2 | h2 | h2
    all_goals
      have e1 : x.tmod 4 = x % 4 := Int.tmod_eq_emod_of_nonneg hx
      have e2 : y.tmod 4 = y % 4 := Int.tmod_eq_emod_of_nonneg hy
      have wr := IntWalk.i64_in
      rw [h1] at e1
      rw [h2] at e2
      rw [h1, h2]
      go_enter Try.func30, Try.ntmps30
      go_wp2_with fail
      refine wp_region_below (fun _ _ _ => True) (by kernel_rfl) (by kernel_rfl) ?_
      repeat first
        | (refine wpLoose_want rfl ?_; refine loose_move _ rfl ?_; simp only [Act.put, Act.eval, List.setIfInBounds_toArray, List.set_cons_succ, List.set_cons_zero, Array.getD_eq_getD_getElem?, List.getElem?_toArray, List.getElem?_cons_succ, List.getElem?_cons_zero, Option.getD_some])
        | (refine wpLoose_want rfl ?_; refine loose_assign _ rfl ?_; simp only [Act.put, Act.eval, List.setIfInBounds_toArray, List.set_cons_succ, List.set_cons_zero, Array.getD_eq_getD_getElem?, List.getElem?_toArray, List.getElem?_cons_succ, List.getElem?_cons_zero, Option.getD_some])
        | (refine wpLoose_want rfl ?_; apply loose_val; (· (intro w2 hC2; obtain ⟨hc2, hf2⟩ := below_cells hC2; go_simp; try rfl)); simp only [Act.put, Act.eval, List.setIfInBounds_toArray, List.set_cons_succ, List.set_cons_zero, Array.getD_eq_getD_getElem?, List.getElem?_toArray, List.getElem?_cons_succ, List.getElem?_cons_zero, Option.getD_some])
      refine wpLoose_nil fun w' hb => ?_
      obtain ⟨hc, hf⟩ := below_cells hb; have hz := hb.size; (try simp at hz); (try have hz3 := Nat.lt_of_succ_le hz); (try have hz0 : w.heap.size < w'.heap.size := by omega); (try have hz1 : w.heap.size + 1 < w'.heap.size := by omega); (try have hz2 : w.heap.size + 1 + 1 < w'.heap.size := by omega)
      go_wp2_with (first | (refine upon_op rfl ?_; intro r n hr hw; go_simp) | (refine upon_widen Try.underlying22 Try.underlying40 ?_; intro r n hr hw; go_simp))
      go_ret
      refine ⟨_, rfl, ?_, by assumption, (by repeat (with_reducible first | exact Below.refl _ _ | refine below_drewN ?_ _ | refine Below.drew ?_ | refine below_alloc ?_ _ | refine below_set0 ?_ _ _ | refine below_set1 ?_ _ _ | refine below_set2 ?_ _ _ | refine below_set3 ?_ _ _ | refine below_call (by assumption) ?_))⟩
      first
        | (apply Eq.trans; assumption; refine congrArg (fun z => op .quo .f32 z _) ?_; apply Eq.trans; assumption; rfl)
        | (trace_state; done)
end Go.Proofs.Ytcfdfabmcbjpgaa
