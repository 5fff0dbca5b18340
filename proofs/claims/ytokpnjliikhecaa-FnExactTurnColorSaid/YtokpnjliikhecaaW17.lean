/- MATRICES: their parts. -/
import Derived.Test.YtokpnjliikhecaaW15
import Derived.Test.YtokpnjliikhecaaPure8
set_option linter.unusedSimpArgs false
set_option linter.unusedVariables false
set_option linter.unnecessarySimpa false
set_option maxRecDepth 20000
namespace Go.Proofs.Ytokpnjliikhecaa
open Go.RowKit Go.Fl

theorem l05Less_any (a b c d : Nat) (w : World) : Calls Try.prog 74 #[.float .f32 a, .float .f32 b, .float .f32 c, .float .f32 d] w (RetF .f32 w (lessF (can .f32 a) (can .f32 b) (can .f32 c) (can .f32 d))) := by
  unfold lessF
  go_enter Try.func74, Try.ntmps74
  go_wp2_with (first | (refine upon_op rfl ?_; intro r n hr hw; go_simp) | (refine upon_widen Try.underlying22 Try.underlying30 ?_; intro r n hr hw; go_simp))
  go_ret
  exact retF_mk (by simp only [*]) (by assumption)
theorem l05Matrix_any (b off cap : Nat) (xs : List Nat) (w : World) (hc : FS w b off xs) (hl : xs.length ≤ 1048576) :
    Calls Try.prog 58 #[.slice (some ⟨b, off, none⟩) xs.length cap] w (RetB w (isMat xs)) := by
  have H := Lib.hid (l02Finite_any b off cap xs w hc hl)
  clear hc
  unfold isMat
  go_enter Try.func58, Try.ntmps58
  go_wp2_with (go_at_call 59; refine H.out.mono ?_; rintro e w' ⟨n, rfl, rfl⟩)
  all_goals
    go_ret
    first
      | (refine retB_mk ?_; (first | (simp_all; done) | (simp_all; omega)); done)
      | (refine retB_mk0 ?_; (first | (simp_all; done) | (simp_all; omega)); done)
theorem isMatrix_any (b off cap : Nat) (xs : List Nat) (w : World) (hc : FS w b off xs) (hx : WfAll xs) (hl : xs.length ≤ 1048576) :
    Calls Try.prog 60 #[.slice (some ⟨b, off, none⟩) xs.length cap] w (RetB w (isMat xs)) := by
  have H := Lib.hid (areFinite_any b off cap xs w hc hx (by omega))
  have e : xs.all (fun x => isFin .f32 (can .f32 x)) = allFin xs := rfl
  rw [e] at H
  clear hc hx e
  unfold isMat
  go_enter Try.func60, Try.ntmps60
  go_wp2_with (go_at_call 85; refine H.out.mono ?_; rintro e w' ⟨n, rfl, rfl⟩)
  all_goals
    go_ret
    first
      | (refine retB_mk ?_; (first | (simp_all; done) | (simp_all; omega)); done)
      | (refine retB_mk0 ?_; (first | (simp_all; done) | (simp_all; omega)); done)
theorem matrixOrFail_any (g cap : Nat) (xs : List Nat) (w : World) (hc : FB w g xs) (hx : WfAll xs) (hl : xs.length ≤ 1048576) :
    Calls Try.prog 61 #[.slice (some ⟨g, 0, none⟩) xs.length cap] w (fun e w' => ∃ n, w' = w.drewN n ∧ e = .returned (listOr (.slice (some ⟨g, 0, none⟩) xs.length cap) (isMat xs))) := by
  have H := Lib.hid (isMatrix_any g 0 cap xs w hc.fs hx hl)
  clear hc
  cases hB : isMat xs
  all_goals
    go_enter Try.func61, Try.ntmps61
    go_wp2_with (go_at_call 60; refine H.out.mono ?_; rintro e w' ⟨n, rfl, rfl⟩)
    go_ret2
    exact ⟨_, rfl, rfl⟩
theorem cross_any (i j k l : Nat) (bm g : Nat) (xs : List Nat) (w : World) (hm : w.cell? ⟨bm, 0, none⟩ = some (.slice (some ⟨g, 0, none⟩) xs.length xs.length)) (hc : FB w g xs) (hi : i < xs.length) (hj : j < xs.length) (hk : k < xs.length) (hl : l < xs.length) :
    Calls Try.prog 75 #[.int .i64 i, .int .i64 j, .int .i64 k, .int .i64 l, .pointer (some ⟨bm, 0, none⟩)] w (GivesF .f32 w (lessAt xs i j k l)) := by
  have hbm := WorldLt.of_cell hm
  have hg := hc.lt
  have c1 := hc.cell i hi
  have c2 := hc.cell j hj
  have c3 := hc.cell k hk
  have c4 := hc.cell l hl
  have e : lessAt xs i j k l = lessF (can .f32 xs[i]) (can .f32 xs[j]) (can .f32 xs[k]) (can .f32 xs[l]) := by unfold lessAt at'; simp [hi, hj, hk, hl]
  rw [e]
  unfold lessF
  generalize xs[i] = x1 at *
  generalize xs[j] = x2 at *
  generalize xs[k] = x3 at *
  generalize xs[l] = x4 at *
  generalize xs.length = n at *
  clear hc e
  go_enter Try.func75, Try.ntmps75
  go_wp2_with fail
  refine wp_region_below (fun _ _ _ => True) (by kernel_rfl) (by kernel_rfl) ?_
  repeat first
    | (refine wpLoose_want rfl ?_; refine loose_move _ rfl ?_; simp only [Act.put, Act.eval, List.setIfInBounds_toArray, List.set_cons_succ, List.set_cons_zero, Array.getD_eq_getD_getElem?, List.getElem?_toArray, List.getElem?_cons_succ, List.getElem?_cons_zero, Option.getD_some])
    | (refine wpLoose_want rfl ?_; refine loose_assign _ rfl ?_; simp only [Act.put, Act.eval, List.setIfInBounds_toArray, List.set_cons_succ, List.set_cons_zero, Array.getD_eq_getD_getElem?, List.getElem?_toArray, List.getElem?_cons_succ, List.getElem?_cons_zero, Option.getD_some])
    | (refine wpLoose_want rfl ?_; refine loose_arith _ _ _ _ _ rfl rfl _ _ _ rfl rfl (below_drawn _) (fun r hr hw => ?_); simp only [Act.put, Act.eval, List.setIfInBounds_toArray, List.set_cons_succ, List.set_cons_zero, Array.getD_eq_getD_getElem?, List.getElem?_toArray, List.getElem?_cons_succ, List.getElem?_cons_zero, Option.getD_some])
    | (refine wpLoose_want rfl ?_; apply loose_val; (· (intro w2 hC2; obtain ⟨hc2, hf2⟩ := below_cells hC2; go_simp; try rfl)); simp only [Act.put, Act.eval, List.setIfInBounds_toArray, List.set_cons_succ, List.set_cons_zero, Array.getD_eq_getD_getElem?, List.getElem?_toArray, List.getElem?_cons_succ, List.getElem?_cons_zero, Option.getD_some])
  refine wpLoose_nil fun w' hb => ?_
  go_wp2_with fail
  go_ret
  exact ⟨_, rfl, by simp only [*], by assumption, (by repeat (with_reducible first | exact Below.refl _ _ | refine below_drewN ?_ _ | refine Below.drew ?_ | refine below_alloc ?_ _ | refine below_set0 ?_ _ _ | refine below_set1 ?_ _ _ | refine below_set2 ?_ _ _ | refine below_set3 ?_ _ _ | refine below_call (by assumption) ?_ | refine below_step (by assumption) (by assumption) ?_))⟩
end Go.Proofs.Ytokpnjliikhecaa
