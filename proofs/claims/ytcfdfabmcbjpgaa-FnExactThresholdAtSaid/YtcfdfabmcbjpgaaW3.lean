/- WAYS AND COLORS: the laws. -/
import Derived.Test.YtcfdfabmcbjpgaaW2
set_option linter.unusedSimpArgs false
set_option linter.unusedVariables false
namespace Go.Proofs.Ytcfdfabmcbjpgaa
open Go.RowKit Go.Fl

theorem sameWayS (x y z a b c : Nat) (w : World) (hx : Wf .f32 x) (hy : Wf .f32 y) (hz : Wf .f32 z) (ha : Wf .f32 a) (hb : Wf .f32 b) (hc : Wf .f32 c) :
    Calls Try.prog 15 #[.agg #[.float .f32 x, .float .f32 y, .float .f32 z], .agg #[.float .f32 a, .float .f32 b, .float .f32 c]] w (GivesB w ((can .f32 x == can .f32 a) && (can .f32 y == can .f32 b) && (can .f32 z == can .f32 c))) := by
  generalize hA : (can .f32 x == can .f32 a) = A
  generalize hB : (can .f32 y == can .f32 b) = B
  generalize hC : (can .f32 z == can .f32 c) = C
  have h1 := fun w => l01Same_any x a w hx ha
  have h2 := fun w => l01Same_any y b w hy hb
  have h3 := fun w => l01Same_any z c w hz hc
  rw [hA] at h1
  rw [hB] at h2
  rw [hC] at h3
  have H1 := Lib.hid h1
  have H2 := Lib.hid h2
  have H3 := Lib.hid h3
  clear h1 h2 h3 hA hB hC hx hy hz ha hb hc
  go_enter Try.func15, Try.ntmps15
  go_wp2_with (go_at_call 27; (first | (with_reducible refine (H1.out _).mono ?_) | (with_reducible refine (H2.out _).mono ?_) | (with_reducible refine (H3.out _).mono ?_)); rintro e w' ⟨rfl, rfl⟩)
  all_goals
    go_ret
    exact ⟨by simp_all, (by repeat (with_reducible first | exact Below.refl _ _ | refine below_drewN ?_ _ | refine Below.drew ?_ | refine below_alloc ?_ _ | refine below_set0 ?_ _ _ | refine below_set1 ?_ _ _ | refine below_set2 ?_ _ _ | refine below_set3 ?_ _ _ | refine below_call (by assumption) ?_))⟩
theorem sameWayI (x y z a b c : Nat) (w : World) (hx : Wf .f32 x) (hy : Wf .f32 y) (hz : Wf .f32 z) (ha : Wf .f32 a) (hb : Wf .f32 b) (hc : Wf .f32 c) :
    Calls Try.prog 16 #[.agg #[.float .f32 x, .float .f32 y, .float .f32 z], .agg #[.float .f32 a, .float .f32 b, .float .f32 c]] w (GivesB w ((can .f32 x == can .f32 a) && (can .f32 y == can .f32 b) && (can .f32 z == can .f32 c))) := by
  generalize hA : (can .f32 x == can .f32 a) = A
  generalize hB : (can .f32 y == can .f32 b) = B
  generalize hC : (can .f32 z == can .f32 c) = C
  have h1 := fun w => sameNumber_any x a w hx ha
  have h2 := fun w => sameNumber_any y b w hy hb
  have h3 := fun w => sameNumber_any z c w hz hc
  rw [hA] at h1
  rw [hB] at h2
  rw [hC] at h3
  have H1 := Lib.hid h1
  have H2 := Lib.hid h2
  have H3 := Lib.hid h3
  clear h1 h2 h3 hA hB hC hx hy hz ha hb hc
  go_enter Try.func16, Try.ntmps16
  go_wp2_with (go_at_call 28; (first | (with_reducible refine (H1.out _).mono ?_) | (with_reducible refine (H2.out _).mono ?_) | (with_reducible refine (H3.out _).mono ?_)); rintro e w' ⟨n, rfl, rfl⟩)
  all_goals
    go_ret
    exact ⟨by simp_all, (by repeat (with_reducible first | exact Below.refl _ _ | refine below_drewN ?_ _ | refine Below.drew ?_ | refine below_alloc ?_ _ | refine below_set0 ?_ _ _ | refine below_set1 ?_ _ _ | refine below_set2 ?_ _ _ | refine below_set3 ?_ _ _ | refine below_call (by assumption) ?_))⟩
theorem sameColorS (x y z a b c : Nat) (w : World) (hx : Wf .f32 x) (hy : Wf .f32 y) (hz : Wf .f32 z) (ha : Wf .f32 a) (hb : Wf .f32 b) (hc : Wf .f32 c) :
    Calls Try.prog 12 #[.agg #[.float .f32 x, .float .f32 y, .float .f32 z], .agg #[.float .f32 a, .float .f32 b, .float .f32 c]] w (GivesB w ((can .f32 x == can .f32 a) && (can .f32 y == can .f32 b) && (can .f32 z == can .f32 c))) := by
  generalize hA : (can .f32 x == can .f32 a) = A
  generalize hB : (can .f32 y == can .f32 b) = B
  generalize hC : (can .f32 z == can .f32 c) = C
  have h1 := fun w => l01Same_any x a w hx ha
  have h2 := fun w => l01Same_any y b w hy hb
  have h3 := fun w => l01Same_any z c w hz hc
  rw [hA] at h1
  rw [hB] at h2
  rw [hC] at h3
  have H1 := Lib.hid h1
  have H2 := Lib.hid h2
  have H3 := Lib.hid h3
  clear h1 h2 h3 hA hB hC hx hy hz ha hb hc
  go_enter Try.func12, Try.ntmps12
  go_wp2_with (go_at_call 27; (first | (with_reducible refine (H1.out _).mono ?_) | (with_reducible refine (H2.out _).mono ?_) | (with_reducible refine (H3.out _).mono ?_)); rintro e w' ⟨rfl, rfl⟩)
  all_goals
    go_ret
    exact ⟨by simp_all, (by repeat (with_reducible first | exact Below.refl _ _ | refine below_drewN ?_ _ | refine Below.drew ?_ | refine below_alloc ?_ _ | refine below_set0 ?_ _ _ | refine below_set1 ?_ _ _ | refine below_set2 ?_ _ _ | refine below_set3 ?_ _ _ | refine below_call (by assumption) ?_))⟩
theorem sameColorI (x y z a b c : Nat) (w : World) (hx : Wf .f32 x) (hy : Wf .f32 y) (hz : Wf .f32 z) (ha : Wf .f32 a) (hb : Wf .f32 b) (hc : Wf .f32 c) :
    Calls Try.prog 14 #[.agg #[.float .f32 x, .float .f32 y, .float .f32 z], .agg #[.float .f32 a, .float .f32 b, .float .f32 c]] w (GivesB w ((can .f32 x == can .f32 a) && (can .f32 y == can .f32 b) && (can .f32 z == can .f32 c))) := by
  generalize hA : (can .f32 x == can .f32 a) = A
  generalize hB : (can .f32 y == can .f32 b) = B
  generalize hC : (can .f32 z == can .f32 c) = C
  have h1 := fun w => sameNumber_any x a w hx ha
  have h2 := fun w => sameNumber_any y b w hy hb
  have h3 := fun w => sameNumber_any z c w hz hc
  rw [hA] at h1
  rw [hB] at h2
  rw [hC] at h3
  have H1 := Lib.hid h1
  have H2 := Lib.hid h2
  have H3 := Lib.hid h3
  clear h1 h2 h3 hA hB hC hx hy hz ha hb hc
  go_enter Try.func14, Try.ntmps14
  go_wp2_with (go_at_call 28; (first | (with_reducible refine (H1.out _).mono ?_) | (with_reducible refine (H2.out _).mono ?_) | (with_reducible refine (H3.out _).mono ?_)); rintro e w' ⟨n, rfl, rfl⟩)
  all_goals
    go_ret
    exact ⟨by simp_all, (by repeat (with_reducible first | exact Below.refl _ _ | refine below_drewN ?_ _ | refine Below.drew ?_ | refine below_alloc ?_ _ | refine below_set0 ?_ _ _ | refine below_set1 ?_ _ _ | refine below_set2 ?_ _ _ | refine below_set3 ?_ _ _ | refine below_call (by assumption) ?_))⟩
theorem law_SameWay (x y z a b c : Nat) (w : World) (wx : Wf .f32 x) (wy : Wf .f32 y) (wz : Wf .f32 z) (wa : Wf .f32 a) (wb : Wf .f32 b) (wc : Wf .f32 c) :
    Calls Try.prog 5 #[.agg #[.float .f32 x, .float .f32 y, .float .f32 z], .agg #[.float .f32 a, .float .f32 b, .float .f32 c]] w (GivesB w true) := by
  go_enter Try.func5, Try.ntmps5
  go_wp2_with fail
  refine wp_region_below (fun f args v => if f = 10 then args = #[v] else v = .bool ((can .f32 x == can .f32 a) && (can .f32 y == can .f32 b) && (can .f32 z == can .f32 c))) (by kernel_rfl) (by kernel_rfl) ?_
  (refine wpLoose_want rfl ?_; apply loose_val; (· (intro w2 hC2; obtain ⟨hc2, hf2⟩ := below_cells hC2; go_simp; try rfl)); simp only [Act.put, Act.eval, List.setIfInBounds_toArray, List.set_cons_succ, List.set_cons_zero, Array.getD_eq_getD_getElem?, List.getElem?_toArray, List.getElem?_cons_succ, List.getElem?_cons_zero, Option.getD_some])
  refine wpLoose_want rfl ?_
  refine loose_callB 10 #[.agg #[.float .f32 x, .float .f32 y, .float .f32 z]] (fun w2 => by go_simp) (fun w2 _ => (toWay_any x y z w2).mono fun e w3 ⟨he, hb3⟩ => ⟨_, he, rfl, hb3⟩) (fun v hv => ?_)
  obtain rfl : _ = v := by simpa using hv
  simp only [Act.put, Act.eval, List.setIfInBounds_toArray, List.set_cons_succ, List.set_cons_zero, Array.getD_eq_getD_getElem?, List.getElem?_toArray, List.getElem?_cons_succ, List.getElem?_cons_zero, Option.getD_some]
  clear hv
  (refine wpLoose_want rfl ?_; apply loose_val; (· (intro w2 hC2; obtain ⟨hc2, hf2⟩ := below_cells hC2; go_simp; try rfl)); simp only [Act.put, Act.eval, List.setIfInBounds_toArray, List.set_cons_succ, List.set_cons_zero, Array.getD_eq_getD_getElem?, List.getElem?_toArray, List.getElem?_cons_succ, List.getElem?_cons_zero, Option.getD_some])
  refine wpLoose_want rfl ?_
  refine loose_callB 10 #[.agg #[.float .f32 a, .float .f32 b, .float .f32 c]] (fun w2 => by go_simp) (fun w2 _ => (toWay_any a b c w2).mono fun e w3 ⟨he, hb3⟩ => ⟨_, he, rfl, hb3⟩) (fun v hv => ?_)
  obtain rfl : _ = v := by simpa using hv
  simp only [Act.put, Act.eval, List.setIfInBounds_toArray, List.set_cons_succ, List.set_cons_zero, Array.getD_eq_getD_getElem?, List.getElem?_toArray, List.getElem?_cons_succ, List.getElem?_cons_zero, Option.getD_some]
  clear hv
  refine wpLoose_want rfl ?_
  refine loose_callB 15 _ (fun w2 => by go_simp) (fun w2 _ => (sameWayS x y z a b c w2 wx wy wz wa wb wc).mono fun e w3 ⟨he, hb3⟩ => ⟨_, he, rfl, hb3⟩) (fun v hv => ?_)
  obtain rfl : v = _ := by simpa using hv
  simp only [Act.put, Act.eval, List.setIfInBounds_toArray, List.set_cons_succ, List.set_cons_zero, Array.getD_eq_getD_getElem?, List.getElem?_toArray, List.getElem?_cons_succ, List.getElem?_cons_zero, Option.getD_some]
  clear hv
  refine wpLoose_want rfl ?_
  refine loose_assign _ rfl ?_
  simp only [Act.put, Act.eval, List.setIfInBounds_toArray, List.set_cons_succ, List.set_cons_zero, Array.getD_eq_getD_getElem?, List.getElem?_toArray, List.getElem?_cons_succ, List.getElem?_cons_zero, Option.getD_some]
  refine wpLoose_nil fun w' hb => ?_
  obtain ⟨hc, hf⟩ := below_cells hb; have hz := hb.size; (try simp at hz); (try have hz0 : w.heap.size < w'.heap.size := by omega); (try have hz1 : w.heap.size + 1 < w'.heap.size := by omega); (try have hz2 : w.heap.size + 1 + 1 < w'.heap.size := by omega)
  go_wp2_with fail
  refine wp_region_below (fun f args v => if f = 10 then args = #[v] else v = .bool ((can .f32 x == can .f32 a) && (can .f32 y == can .f32 b) && (can .f32 z == can .f32 c))) (by kernel_rfl) (by kernel_rfl) ?_
  (refine wpLoose_want rfl ?_; apply loose_val; (· (intro w2 hC2; obtain ⟨hc2, hf2⟩ := below_cells hC2; go_simp; try rfl)); simp only [Act.put, Act.eval, List.setIfInBounds_toArray, List.set_cons_succ, List.set_cons_zero, Array.getD_eq_getD_getElem?, List.getElem?_toArray, List.getElem?_cons_succ, List.getElem?_cons_zero, Option.getD_some])
  refine wpLoose_want rfl ?_
  refine loose_callB 10 #[.agg #[.float .f32 x, .float .f32 y, .float .f32 z]] (fun w2 => by go_simp) (fun w2 _ => (toWay_any x y z w2).mono fun e w3 ⟨he, hb3⟩ => ⟨_, he, rfl, hb3⟩) (fun v hv => ?_)
  obtain rfl : _ = v := by simpa using hv
  simp only [Act.put, Act.eval, List.setIfInBounds_toArray, List.set_cons_succ, List.set_cons_zero, Array.getD_eq_getD_getElem?, List.getElem?_toArray, List.getElem?_cons_succ, List.getElem?_cons_zero, Option.getD_some]
  clear hv
  (refine wpLoose_want rfl ?_; apply loose_val; (· (intro w2 hC2; obtain ⟨hc2, hf2⟩ := below_cells hC2; go_simp; try rfl)); simp only [Act.put, Act.eval, List.setIfInBounds_toArray, List.set_cons_succ, List.set_cons_zero, Array.getD_eq_getD_getElem?, List.getElem?_toArray, List.getElem?_cons_succ, List.getElem?_cons_zero, Option.getD_some])
  refine wpLoose_want rfl ?_
  refine loose_callB 10 #[.agg #[.float .f32 a, .float .f32 b, .float .f32 c]] (fun w2 => by go_simp) (fun w2 _ => (toWay_any a b c w2).mono fun e w3 ⟨he, hb3⟩ => ⟨_, he, rfl, hb3⟩) (fun v hv => ?_)
  obtain rfl : _ = v := by simpa using hv
  simp only [Act.put, Act.eval, List.setIfInBounds_toArray, List.set_cons_succ, List.set_cons_zero, Array.getD_eq_getD_getElem?, List.getElem?_toArray, List.getElem?_cons_succ, List.getElem?_cons_zero, Option.getD_some]
  clear hv
  refine wpLoose_want rfl ?_
  refine loose_callB 16 _ (fun w2 => by go_simp) (fun w2 _ => (sameWayI x y z a b c w2 wx wy wz wa wb wc).mono fun e w3 ⟨he, hb3⟩ => ⟨_, he, rfl, hb3⟩) (fun v hv => ?_)
  obtain rfl : v = _ := by simpa using hv
  simp only [Act.put, Act.eval, List.setIfInBounds_toArray, List.set_cons_succ, List.set_cons_zero, Array.getD_eq_getD_getElem?, List.getElem?_toArray, List.getElem?_cons_succ, List.getElem?_cons_zero, Option.getD_some]
  clear hv
  refine wpLoose_want rfl ?_
  refine loose_assign _ rfl ?_
  simp only [Act.put, Act.eval, List.setIfInBounds_toArray, List.set_cons_succ, List.set_cons_zero, Array.getD_eq_getD_getElem?, List.getElem?_toArray, List.getElem?_cons_succ, List.getElem?_cons_zero, Option.getD_some]
  refine wpLoose_nil fun w' hb => ?_
  obtain ⟨hc, hf⟩ := below_cells hb; have hz := hb.size; (try simp at hz); (try have hz0 : w.heap.size < w'.heap.size := by omega); (try have hz1 : w.heap.size + 1 < w'.heap.size := by omega); (try have hz2 : w.heap.size + 1 + 1 < w'.heap.size := by omega)
  go_wp2_with fail
  go_ret
  exact ⟨rfl, (by repeat (with_reducible first | exact Below.refl _ _ | refine below_drewN ?_ _ | refine Below.drew ?_ | refine below_alloc ?_ _ | refine below_set0 ?_ _ _ | refine below_set1 ?_ _ _ | refine below_set2 ?_ _ _ | refine below_set3 ?_ _ _ | refine below_call (by assumption) ?_))⟩
theorem law_SameColor (x y z a b c : Nat) (w : World) (wx : Wf .f32 x) (wy : Wf .f32 y) (wz : Wf .f32 z) (wa : Wf .f32 a) (wb : Wf .f32 b) (wc : Wf .f32 c) :
    Calls Try.prog 4 #[.agg #[.float .f32 x, .float .f32 y, .float .f32 z], .agg #[.float .f32 a, .float .f32 b, .float .f32 c]] w (GivesB w true) := by
  go_enter Try.func4, Try.ntmps4
  go_wp2_with fail
  refine wp_region_below (fun f args v => if f = 13 then args = #[v] else v = .bool ((can .f32 x == can .f32 a) && (can .f32 y == can .f32 b) && (can .f32 z == can .f32 c))) (by kernel_rfl) (by kernel_rfl) ?_
  (refine wpLoose_want rfl ?_; apply loose_val; (· (intro w2 hC2; obtain ⟨hc2, hf2⟩ := below_cells hC2; go_simp; try rfl)); simp only [Act.put, Act.eval, List.setIfInBounds_toArray, List.set_cons_succ, List.set_cons_zero, Array.getD_eq_getD_getElem?, List.getElem?_toArray, List.getElem?_cons_succ, List.getElem?_cons_zero, Option.getD_some])
  refine wpLoose_want rfl ?_
  refine loose_callB 13 #[.agg #[.float .f32 x, .float .f32 y, .float .f32 z]] (fun w2 => by go_simp) (fun w2 _ => (toColor_any x y z w2).mono fun e w3 ⟨he, hb3⟩ => ⟨_, he, rfl, hb3⟩) (fun v hv => ?_)
  obtain rfl : _ = v := by simpa using hv
  simp only [Act.put, Act.eval, List.setIfInBounds_toArray, List.set_cons_succ, List.set_cons_zero, Array.getD_eq_getD_getElem?, List.getElem?_toArray, List.getElem?_cons_succ, List.getElem?_cons_zero, Option.getD_some]
  clear hv
  (refine wpLoose_want rfl ?_; apply loose_val; (· (intro w2 hC2; obtain ⟨hc2, hf2⟩ := below_cells hC2; go_simp; try rfl)); simp only [Act.put, Act.eval, List.setIfInBounds_toArray, List.set_cons_succ, List.set_cons_zero, Array.getD_eq_getD_getElem?, List.getElem?_toArray, List.getElem?_cons_succ, List.getElem?_cons_zero, Option.getD_some])
  refine wpLoose_want rfl ?_
  refine loose_callB 13 #[.agg #[.float .f32 a, .float .f32 b, .float .f32 c]] (fun w2 => by go_simp) (fun w2 _ => (toColor_any a b c w2).mono fun e w3 ⟨he, hb3⟩ => ⟨_, he, rfl, hb3⟩) (fun v hv => ?_)
  obtain rfl : _ = v := by simpa using hv
  simp only [Act.put, Act.eval, List.setIfInBounds_toArray, List.set_cons_succ, List.set_cons_zero, Array.getD_eq_getD_getElem?, List.getElem?_toArray, List.getElem?_cons_succ, List.getElem?_cons_zero, Option.getD_some]
  clear hv
  refine wpLoose_want rfl ?_
  refine loose_callB 12 _ (fun w2 => by go_simp) (fun w2 _ => (sameColorS x y z a b c w2 wx wy wz wa wb wc).mono fun e w3 ⟨he, hb3⟩ => ⟨_, he, rfl, hb3⟩) (fun v hv => ?_)
  obtain rfl : v = _ := by simpa using hv
  simp only [Act.put, Act.eval, List.setIfInBounds_toArray, List.set_cons_succ, List.set_cons_zero, Array.getD_eq_getD_getElem?, List.getElem?_toArray, List.getElem?_cons_succ, List.getElem?_cons_zero, Option.getD_some]
  clear hv
  refine wpLoose_want rfl ?_
  refine loose_assign _ rfl ?_
  simp only [Act.put, Act.eval, List.setIfInBounds_toArray, List.set_cons_succ, List.set_cons_zero, Array.getD_eq_getD_getElem?, List.getElem?_toArray, List.getElem?_cons_succ, List.getElem?_cons_zero, Option.getD_some]
  refine wpLoose_nil fun w' hb => ?_
  obtain ⟨hc, hf⟩ := below_cells hb; have hz := hb.size; (try simp at hz); (try have hz0 : w.heap.size < w'.heap.size := by omega); (try have hz1 : w.heap.size + 1 < w'.heap.size := by omega); (try have hz2 : w.heap.size + 1 + 1 < w'.heap.size := by omega)
  go_wp2_with fail
  refine wp_region_below (fun f args v => if f = 13 then args = #[v] else v = .bool ((can .f32 x == can .f32 a) && (can .f32 y == can .f32 b) && (can .f32 z == can .f32 c))) (by kernel_rfl) (by kernel_rfl) ?_
  (refine wpLoose_want rfl ?_; apply loose_val; (· (intro w2 hC2; obtain ⟨hc2, hf2⟩ := below_cells hC2; go_simp; try rfl)); simp only [Act.put, Act.eval, List.setIfInBounds_toArray, List.set_cons_succ, List.set_cons_zero, Array.getD_eq_getD_getElem?, List.getElem?_toArray, List.getElem?_cons_succ, List.getElem?_cons_zero, Option.getD_some])
  refine wpLoose_want rfl ?_
  refine loose_callB 13 #[.agg #[.float .f32 x, .float .f32 y, .float .f32 z]] (fun w2 => by go_simp) (fun w2 _ => (toColor_any x y z w2).mono fun e w3 ⟨he, hb3⟩ => ⟨_, he, rfl, hb3⟩) (fun v hv => ?_)
  obtain rfl : _ = v := by simpa using hv
  simp only [Act.put, Act.eval, List.setIfInBounds_toArray, List.set_cons_succ, List.set_cons_zero, Array.getD_eq_getD_getElem?, List.getElem?_toArray, List.getElem?_cons_succ, List.getElem?_cons_zero, Option.getD_some]
  clear hv
  (refine wpLoose_want rfl ?_; apply loose_val; (· (intro w2 hC2; obtain ⟨hc2, hf2⟩ := below_cells hC2; go_simp; try rfl)); simp only [Act.put, Act.eval, List.setIfInBounds_toArray, List.set_cons_succ, List.set_cons_zero, Array.getD_eq_getD_getElem?, List.getElem?_toArray, List.getElem?_cons_succ, List.getElem?_cons_zero, Option.getD_some])
  refine wpLoose_want rfl ?_
  refine loose_callB 13 #[.agg #[.float .f32 a, .float .f32 b, .float .f32 c]] (fun w2 => by go_simp) (fun w2 _ => (toColor_any a b c w2).mono fun e w3 ⟨he, hb3⟩ => ⟨_, he, rfl, hb3⟩) (fun v hv => ?_)
  obtain rfl : _ = v := by simpa using hv
  simp only [Act.put, Act.eval, List.setIfInBounds_toArray, List.set_cons_succ, List.set_cons_zero, Array.getD_eq_getD_getElem?, List.getElem?_toArray, List.getElem?_cons_succ, List.getElem?_cons_zero, Option.getD_some]
  clear hv
  refine wpLoose_want rfl ?_
  refine loose_callB 14 _ (fun w2 => by go_simp) (fun w2 _ => (sameColorI x y z a b c w2 wx wy wz wa wb wc).mono fun e w3 ⟨he, hb3⟩ => ⟨_, he, rfl, hb3⟩) (fun v hv => ?_)
  obtain rfl : v = _ := by simpa using hv
  simp only [Act.put, Act.eval, List.setIfInBounds_toArray, List.set_cons_succ, List.set_cons_zero, Array.getD_eq_getD_getElem?, List.getElem?_toArray, List.getElem?_cons_succ, List.getElem?_cons_zero, Option.getD_some]
  clear hv
  refine wpLoose_want rfl ?_
  refine loose_assign _ rfl ?_
  simp only [Act.put, Act.eval, List.setIfInBounds_toArray, List.set_cons_succ, List.set_cons_zero, Array.getD_eq_getD_getElem?, List.getElem?_toArray, List.getElem?_cons_succ, List.getElem?_cons_zero, Option.getD_some]
  refine wpLoose_nil fun w' hb => ?_
  obtain ⟨hc, hf⟩ := below_cells hb; have hz := hb.size; (try simp at hz); (try have hz0 : w.heap.size < w'.heap.size := by omega); (try have hz1 : w.heap.size + 1 < w'.heap.size := by omega); (try have hz2 : w.heap.size + 1 + 1 < w'.heap.size := by omega)
  go_wp2_with fail
  go_ret
  exact ⟨rfl, (by repeat (with_reducible first | exact Below.refl _ _ | refine below_drewN ?_ _ | refine Below.drew ?_ | refine below_alloc ?_ _ | refine below_set0 ?_ _ _ | refine below_set1 ?_ _ _ | refine below_set2 ?_ _ _ | refine below_set3 ?_ _ _ | refine below_call (by assumption) ?_))⟩
end Go.Proofs.Ytcfdfabmcbjpgaa
