/- INNER PRODUCTS. -/
import Derived.Test.YtokpnjliikhecaaW10
import Derived.Test.YtokpnjliikhecaaPure5
set_option linter.unusedSimpArgs false
set_option linter.unusedVariables false
set_option linter.unnecessarySimpa false
set_option maxRecDepth 20000
namespace Go.Proofs.Ytokpnjliikhecaa
open Go.RowKit Go.Fl

set_option maxHeartbeats 2000000 in
theorem innerI_any (a b c x y z : Nat) (w : World) : Calls Try.prog 53 #[.agg #[.float .f32 a, .float .f32 b, .float .f32 c], .agg #[.float .f32 x, .float .f32 y, .float .f32 z]] w (GivesF .f32 w (inner (can .f32 a) (can .f32 b) (can .f32 c) (can .f32 x) (can .f32 y) (can .f32 z))) := by
  go_enter Try.func53, Try.ntmps53
  go_wp2_with (first | (refine upon_op rfl ?_; intro r n hr hw; go_simp) | (refine upon_widen Try.underlying22 Try.underlying30 ?_; intro r n hr hw; go_simp))
  go_ret
  refine ⟨_, rfl, ?_, by assumption, (by repeat (with_reducible first | exact Below.refl _ _ | refine below_drewN ?_ _ | refine Below.drew ?_ | refine below_alloc ?_ _ | refine below_set0 ?_ _ _ | refine below_set1 ?_ _ _ | refine below_set2 ?_ _ _ | refine below_set3 ?_ _ _ | refine below_call (by assumption) ?_ | refine below_step (by assumption) (by assumption) ?_))⟩
  unfold Go.Fl.inner
  (repeat (first | (apply Eq.trans; assumption) | with_reducible exact rfl | (refine congr (congrArg _ ?_) ?_)))
set_option maxHeartbeats 2000000 in
theorem innerS_any (a b c x y z : Nat) (w : World) : Calls Try.prog 50 #[.agg #[.float .f32 a, .float .f32 b, .float .f32 c], .agg #[.float .f32 x, .float .f32 y, .float .f32 z]] w (GivesF .f32 w (inner (can .f32 a) (can .f32 b) (can .f32 c) (can .f32 x) (can .f32 y) (can .f32 z))) := by
  go_enter Try.func50, Try.ntmps50
  go_wp2_with (first | (refine upon_op rfl ?_; intro r n hr hw; go_simp) | (refine upon_widen Try.underlying22 Try.underlying30 ?_; intro r n hr hw; go_simp))
  go_ret
  refine ⟨_, rfl, ?_, by assumption, (by repeat (with_reducible first | exact Below.refl _ _ | refine below_drewN ?_ _ | refine Below.drew ?_ | refine below_alloc ?_ _ | refine below_set0 ?_ _ _ | refine below_set1 ?_ _ _ | refine below_set2 ?_ _ _ | refine below_set3 ?_ _ _ | refine below_call (by assumption) ?_ | refine below_step (by assumption) (by assumption) ?_))⟩
  unfold Go.Fl.inner
  (repeat (first | (apply Eq.trans; assumption) | with_reducible exact rfl | (refine congr (congrArg _ ?_) ?_)))
theorem innerOfI_any (a b c x y z : Nat) (w : World) (wa : Wf .f32 a) (wb : Wf .f32 b) (wc : Wf .f32 c) (wx : Wf .f32 x) (wy : Wf .f32 y) (wz : Wf .f32 z) :
    Calls Try.prog 15 #[.agg #[.float .f32 a, .float .f32 b, .float .f32 c], .agg #[.float .f32 x, .float .f32 y, .float .f32 z]] w (GivesFB .f32 w (innerOr (can .f32 a) (can .f32 b) (can .f32 c) (can .f32 x) (can .f32 y) (can .f32 z)) (innerOk (can .f32 a) (can .f32 b) (can .f32 c) (can .f32 x) (can .f32 y) (can .f32 z))) := by
  unfold innerOr innerOk
  cases h1 : isWay (can .f32 a) (can .f32 b) (can .f32 c) <;> cases h2 : isWay (can .f32 x) (can .f32 y) (can .f32 z)
  all_goals
    go_enter Try.func15, Try.ntmps15
    go_wp2_with (first | (refine upon_op rfl ?_; intro r n hr hw; go_simp) | (refine upon_widen Try.underlying22 Try.underlying30 ?_; intro r n hr hw; go_simp) | (go_at_call 51; refine (isWayI_any _ _ _ _ (by assumption) (by assumption) (by assumption)).mono ?_; rintro e w' ⟨rfl, hb⟩; obtain ⟨hc, hf⟩ := below_cells hb; have hz := hb.size; (try simp at hz); (try have hz3 := Nat.lt_of_succ_le hz); (try have hz0 : w.heap.size < w'.heap.size := by omega); (try have hz1 : w.heap.size + 1 < w'.heap.size := by omega); (try have hz2 : w.heap.size + 1 + 1 < w'.heap.size := by omega)) | (go_at_call 53; refine (innerI_any _ _ _ _ _ _ _).mono ?_; rintro e w' ⟨r, rfl, hr, hw, hb⟩; obtain ⟨hc, hf⟩ := below_cells hb; have hz := hb.size; (try simp at hz); (try have hz3 := Nat.lt_of_succ_le hz); (try have hz0 : w.heap.size < w'.heap.size := by omega); (try have hz1 : w.heap.size + 1 < w'.heap.size := by omega); (try have hz2 : w.heap.size + 1 + 1 < w'.heap.size := by omega)) | (go_at_call 52; refine (numI_any _ _ (by assumption)).mono ?_; rintro e w' ⟨r, n, rfl, rfl, hr, hw⟩))
    go_ret2
    refine ⟨_, rfl, ?_, ?_, (by repeat (with_reducible first | exact Below.refl _ _ | refine below_drewN ?_ _ | refine Below.drew ?_ | refine below_alloc ?_ _ | refine below_set0 ?_ _ _ | refine below_set1 ?_ _ _ | refine below_set2 ?_ _ _ | refine below_set3 ?_ _ _ | refine below_call (by assumption) ?_ | refine below_step (by assumption) (by assumption) ?_))⟩
    all_goals first | assumption | exact wf_zero _ | (simp only [can_zero, Bool.and_self, Bool.and_true, Bool.and_false, Bool.false_eq_true, if_true, if_false, Bool.true_and, *]; done) | trace_state
theorem innerOfS_any (a b c x y z : Nat) (w : World) :
    Calls Try.prog 13 #[.agg #[.float .f32 a, .float .f32 b, .float .f32 c], .agg #[.float .f32 x, .float .f32 y, .float .f32 z]] w (GivesFB .f32 w (innerOr (can .f32 a) (can .f32 b) (can .f32 c) (can .f32 x) (can .f32 y) (can .f32 z)) (innerOk (can .f32 a) (can .f32 b) (can .f32 c) (can .f32 x) (can .f32 y) (can .f32 z))) := by
  unfold innerOr innerOk
  cases h1 : isWay (can .f32 a) (can .f32 b) (can .f32 c) <;> cases h2 : isWay (can .f32 x) (can .f32 y) (can .f32 z)
  all_goals
    go_enter Try.func13, Try.ntmps13
    go_wp2_with (first | (refine upon_op rfl ?_; intro r n hr hw; go_simp) | (refine upon_widen Try.underlying22 Try.underlying30 ?_; intro r n hr hw; go_simp) | (go_at_call 48; refine (l06Is_any _ _ _ _).mono ?_; rintro e w' ⟨rfl, hb⟩; obtain ⟨hc, hf⟩ := below_cells hb; have hz := hb.size; (try simp at hz); (try have hz3 := Nat.lt_of_succ_le hz); (try have hz0 : w.heap.size < w'.heap.size := by omega); (try have hz1 : w.heap.size + 1 < w'.heap.size := by omega); (try have hz2 : w.heap.size + 1 + 1 < w'.heap.size := by omega)) | (go_at_call 50; refine (innerS_any _ _ _ _ _ _ _).mono ?_; rintro e w' ⟨r, rfl, hr, hw, hb⟩; obtain ⟨hc, hf⟩ := below_cells hb; have hz := hb.size; (try simp at hz); (try have hz3 := Nat.lt_of_succ_le hz); (try have hz0 : w.heap.size < w'.heap.size := by omega); (try have hz1 : w.heap.size + 1 < w'.heap.size := by omega); (try have hz2 : w.heap.size + 1 + 1 < w'.heap.size := by omega)) | (go_at_call 49; refine (numS_any _ _ (by assumption)).mono ?_; rintro e w' ⟨r, n, rfl, rfl, hr, hw⟩))
    go_ret2
    refine ⟨_, rfl, ?_, ?_, (by repeat (with_reducible first | exact Below.refl _ _ | refine below_drewN ?_ _ | refine Below.drew ?_ | refine below_alloc ?_ _ | refine below_set0 ?_ _ _ | refine below_set1 ?_ _ _ | refine below_set2 ?_ _ _ | refine below_set3 ?_ _ _ | refine below_call (by assumption) ?_ | refine below_step (by assumption) (by assumption) ?_))⟩
    all_goals first | assumption | exact wf_zero _ | (simp only [can_zero, Bool.and_self, Bool.and_true, Bool.and_false, Bool.false_eq_true, if_true, if_false, Bool.true_and, *]; done) | trace_state
theorem law_InnerOf (a b c x y z : Nat) (w : World) (wa : Wf .f32 a) (wb : Wf .f32 b) (wc : Wf .f32 c) (wx : Wf .f32 x) (wy : Wf .f32 y) (wz : Wf .f32 z) :
    Calls Try.prog 3 #[.agg #[.float .f32 a, .float .f32 b, .float .f32 c], .agg #[.float .f32 x, .float .f32 y, .float .f32 z]] w (GivesB w true) := by
  have HI := fun w2 => innerOfI_any a b c x y z w2 wa wb wc wx wy wz
  have HS := fun w2 => innerOfS_any a b c x y z w2
  generalize hB : innerOk (can .f32 a) (can .f32 b) (can .f32 c) (can .f32 x) (can .f32 y) (can .f32 z) = B at *
  generalize hX : innerOr (can .f32 a) (can .f32 b) (can .f32 c) (can .f32 x) (can .f32 y) (can .f32 z) = X at *
  have HI' := Lib.hid HI
  have HS' := Lib.hid HS
  clear HI HS hB hX wa wb wc wx wy wz
  go_enter Try.func3, Try.ntmps3
  go_wp2_with fail
  refine wp_region_below (fun f args v => if f = 14 then args = #[v] else ∃ r, v = .tuple #[.float .f32 r, .bool B] ∧ can .f32 r = X ∧ Wf .f32 r) (by kernel_rfl) (by kernel_rfl) ?_
  (refine wpLoose_want rfl ?_; apply loose_val; (· (intro w2 hC2; obtain ⟨hc2, hf2⟩ := below_cells hC2; go_simp; try rfl)); simp only [Act.put, Act.eval, List.setIfInBounds_toArray, List.set_cons_succ, List.set_cons_zero, Array.getD_eq_getD_getElem?, List.getElem?_toArray, List.getElem?_cons_succ, List.getElem?_cons_zero, Option.getD_some])
  refine wpLoose_want rfl ?_
  refine loose_callB 14 #[.agg #[.float .f32 a, .float .f32 b, .float .f32 c]] (fun w2 => by go_simp) (fun w2 _ => (toWay_any a b c w2).mono fun e w3 ⟨he, hb3⟩ => ⟨_, he, rfl, hb3⟩) (fun v hv => ?_)
  obtain rfl : _ = v := by simpa using hv
  simp only [Act.put, Act.eval, List.setIfInBounds_toArray, List.set_cons_succ, List.set_cons_zero, Array.getD_eq_getD_getElem?, List.getElem?_toArray, List.getElem?_cons_succ, List.getElem?_cons_zero, Option.getD_some]
  clear hv
  (refine wpLoose_want rfl ?_; apply loose_val; (· (intro w2 hC2; obtain ⟨hc2, hf2⟩ := below_cells hC2; go_simp; try rfl)); simp only [Act.put, Act.eval, List.setIfInBounds_toArray, List.set_cons_succ, List.set_cons_zero, Array.getD_eq_getD_getElem?, List.getElem?_toArray, List.getElem?_cons_succ, List.getElem?_cons_zero, Option.getD_some])
  refine wpLoose_want rfl ?_
  refine loose_callB 14 #[.agg #[.float .f32 x, .float .f32 y, .float .f32 z]] (fun w2 => by go_simp) (fun w2 _ => (toWay_any x y z w2).mono fun e w3 ⟨he, hb3⟩ => ⟨_, he, rfl, hb3⟩) (fun v hv => ?_)
  obtain rfl : _ = v := by simpa using hv
  simp only [Act.put, Act.eval, List.setIfInBounds_toArray, List.set_cons_succ, List.set_cons_zero, Array.getD_eq_getD_getElem?, List.getElem?_toArray, List.getElem?_cons_succ, List.getElem?_cons_zero, Option.getD_some]
  clear hv
  refine wpLoose_want rfl ?_
  refine loose_callB 13 _ (fun w2 => by go_simp) (fun w2 _ => (HS'.out w2).mono fun e w3 ⟨r, he, hr, hw, hb3⟩ => ⟨_, he, ⟨r, rfl, hr, hw⟩, hb3⟩) (fun v hv => ?_)
  obtain ⟨r, rfl, hr, hw⟩ : ∃ r, v = .tuple #[.float .f32 r, .bool B] ∧ can .f32 r = X ∧ Wf .f32 r := by simpa using hv
  simp only [Act.put, Act.eval, List.setIfInBounds_toArray, List.set_cons_succ, List.set_cons_zero, Array.getD_eq_getD_getElem?, List.getElem?_toArray, List.getElem?_cons_succ, List.getElem?_cons_zero, Option.getD_some]
  clear hv
  repeat first
    | (refine wpLoose_want rfl ?_; refine loose_move _ rfl ?_; simp only [Act.put, Act.eval, List.setIfInBounds_toArray, List.set_cons_succ, List.set_cons_zero, Array.getD_eq_getD_getElem?, List.getElem?_toArray, List.getElem?_cons_succ, List.getElem?_cons_zero, Option.getD_some])
    | (refine wpLoose_want rfl ?_; refine loose_assign _ rfl ?_; simp only [Act.put, Act.eval, List.setIfInBounds_toArray, List.set_cons_succ, List.set_cons_zero, Array.getD_eq_getD_getElem?, List.getElem?_toArray, List.getElem?_cons_succ, List.getElem?_cons_zero, Option.getD_some])
    | (refine wpLoose_want rfl ?_; apply loose_val; (· (intro w2 hC2; obtain ⟨hc2, hf2⟩ := below_cells hC2; go_simp; try rfl)); simp only [Act.put, Act.eval, List.setIfInBounds_toArray, List.set_cons_succ, List.set_cons_zero, Array.getD_eq_getD_getElem?, List.getElem?_toArray, List.getElem?_cons_succ, List.getElem?_cons_zero, Option.getD_some])
  refine wpLoose_nil fun w' hb => ?_
  obtain ⟨hc, hf⟩ := below_cells hb; have hz := hb.size; (try simp at hz); (try have hz3 := Nat.lt_of_succ_le hz); (try have hz0 : w.heap.size < w'.heap.size := by omega); (try have hz1 : w.heap.size + 1 < w'.heap.size := by omega); (try have hz2 : w.heap.size + 1 + 1 < w'.heap.size := by omega)
  go_wp2_with fail
  refine wp_region_below (fun f args v => if f = 14 then args = #[v] else ∃ r, v = .tuple #[.float .f32 r, .bool B] ∧ can .f32 r = X ∧ Wf .f32 r) (by kernel_rfl) (by kernel_rfl) ?_
  (refine wpLoose_want rfl ?_; apply loose_val; (· (intro w2 hC2; obtain ⟨hc2, hf2⟩ := below_cells hC2; go_simp; try rfl)); simp only [Act.put, Act.eval, List.setIfInBounds_toArray, List.set_cons_succ, List.set_cons_zero, Array.getD_eq_getD_getElem?, List.getElem?_toArray, List.getElem?_cons_succ, List.getElem?_cons_zero, Option.getD_some])
  refine wpLoose_want rfl ?_
  refine loose_callB 14 #[.agg #[.float .f32 a, .float .f32 b, .float .f32 c]] (fun w2 => by go_simp) (fun w2 _ => (toWay_any a b c w2).mono fun e w3 ⟨he, hb3⟩ => ⟨_, he, rfl, hb3⟩) (fun v hv => ?_)
  obtain rfl : _ = v := by simpa using hv
  simp only [Act.put, Act.eval, List.setIfInBounds_toArray, List.set_cons_succ, List.set_cons_zero, Array.getD_eq_getD_getElem?, List.getElem?_toArray, List.getElem?_cons_succ, List.getElem?_cons_zero, Option.getD_some]
  clear hv
  (refine wpLoose_want rfl ?_; apply loose_val; (· (intro w2 hC2; obtain ⟨hc2, hf2⟩ := below_cells hC2; go_simp; try rfl)); simp only [Act.put, Act.eval, List.setIfInBounds_toArray, List.set_cons_succ, List.set_cons_zero, Array.getD_eq_getD_getElem?, List.getElem?_toArray, List.getElem?_cons_succ, List.getElem?_cons_zero, Option.getD_some])
  refine wpLoose_want rfl ?_
  refine loose_callB 14 #[.agg #[.float .f32 x, .float .f32 y, .float .f32 z]] (fun w2 => by go_simp) (fun w2 _ => (toWay_any x y z w2).mono fun e w3 ⟨he, hb3⟩ => ⟨_, he, rfl, hb3⟩) (fun v hv => ?_)
  obtain rfl : _ = v := by simpa using hv
  simp only [Act.put, Act.eval, List.setIfInBounds_toArray, List.set_cons_succ, List.set_cons_zero, Array.getD_eq_getD_getElem?, List.getElem?_toArray, List.getElem?_cons_succ, List.getElem?_cons_zero, Option.getD_some]
  clear hv
  refine wpLoose_want rfl ?_
  refine loose_callB 15 _ (fun w2 => by go_simp) (fun w2 _ => (HI'.out w2).mono fun e w3 ⟨r, he, hr, hw, hb3⟩ => ⟨_, he, ⟨r, rfl, hr, hw⟩, hb3⟩) (fun v hv => ?_)
  obtain ⟨q, rfl, hq, hwq⟩ : ∃ r, v = .tuple #[.float .f32 r, .bool B] ∧ can .f32 r = X ∧ Wf .f32 r := by simpa using hv
  simp only [Act.put, Act.eval, List.setIfInBounds_toArray, List.set_cons_succ, List.set_cons_zero, Array.getD_eq_getD_getElem?, List.getElem?_toArray, List.getElem?_cons_succ, List.getElem?_cons_zero, Option.getD_some]
  clear hv
  repeat first
    | (refine wpLoose_want rfl ?_; refine loose_move _ rfl ?_; simp only [Act.put, Act.eval, List.setIfInBounds_toArray, List.set_cons_succ, List.set_cons_zero, Array.getD_eq_getD_getElem?, List.getElem?_toArray, List.getElem?_cons_succ, List.getElem?_cons_zero, Option.getD_some])
    | (refine wpLoose_want rfl ?_; refine loose_assign _ rfl ?_; simp only [Act.put, Act.eval, List.setIfInBounds_toArray, List.set_cons_succ, List.set_cons_zero, Array.getD_eq_getD_getElem?, List.getElem?_toArray, List.getElem?_cons_succ, List.getElem?_cons_zero, Option.getD_some])
    | (refine wpLoose_want rfl ?_; apply loose_val; (· (intro w2 hC2; obtain ⟨hc2, hf2⟩ := below_cells hC2; go_simp; try rfl)); simp only [Act.put, Act.eval, List.setIfInBounds_toArray, List.set_cons_succ, List.set_cons_zero, Array.getD_eq_getD_getElem?, List.getElem?_toArray, List.getElem?_cons_succ, List.getElem?_cons_zero, Option.getD_some])
  refine wpLoose_nil fun w' hb => ?_
  obtain ⟨hc, hf⟩ := below_cells hb; have hz := hb.size; (try simp at hz); (try have hz3 := Nat.lt_of_succ_le hz); (try have hz0 : w.heap.size < w'.heap.size := by omega); (try have hz1 : w.heap.size + 1 < w'.heap.size := by omega); (try have hz2 : w.heap.size + 1 + 1 < w'.heap.size := by omega)
  go_wp2_with (first | (refine upon_op rfl ?_; intro r n hr hw; go_simp) | (refine upon_widen Try.underlying22 Try.underlying30 ?_; intro r n hr hw; go_simp) | (go_at_call 16; refine (sameFloat_any _ _ _ (by assumption) (by assumption)).mono ?_; rintro e w' ⟨n, rfl, rfl⟩))
  go_ret
  exact ⟨rfl, (by repeat (with_reducible first | exact Below.refl _ _ | refine below_drewN ?_ _ | refine Below.drew ?_ | refine below_alloc ?_ _ | refine below_set0 ?_ _ _ | refine below_set1 ?_ _ _ | refine below_set2 ?_ _ _ | refine below_set3 ?_ _ _ | refine below_call (by assumption) ?_ | refine below_step (by assumption) (by assumption) ?_))⟩
end Go.Proofs.Ytokpnjliikhecaa
