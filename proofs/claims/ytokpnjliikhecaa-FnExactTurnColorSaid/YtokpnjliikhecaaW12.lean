/- BANDS AND MATRICES: their parts. -/
import Derived.Test.YtokpnjliikhecaaW11
import Derived.Test.YtokpnjliikhecaaPure6
import Derived.Test.YtokpnjliikhecaaSeg
set_option linter.unusedSimpArgs false
set_option linter.unusedVariables false
set_option linter.unnecessarySimpa false
set_option maxRecDepth 20000
namespace Go.Proofs.Ytokpnjliikhecaa
open Go.RowKit Go.Fl

theorem l02Finite_any (b off cap : Nat) (xs : List Nat) (w : World) (hc : FS w b off xs) (hl : xs.length ≤ 1048576) :
    Calls Try.prog 59 #[.slice (some ⟨b, off, none⟩) xs.length cap] w (RetB w (allFin xs)) := by
  unfold allFin
  have Hc := Lib.hid hc
  clear hc
  go_enter Try.func59, Try.ntmps59
  go_wp2_with fail
  go_loopw [3] (fun i wr => ∃ (k m : Nat), k ≤ xs.length ∧ i = .int .i64 k ∧ wr = w.drewN m ∧ (xs.take k).all (fun x => isFin .f32 (can .f32 x)) = true) (fun i _ => xs.length - (intOf i).toNat)
  case atStart => exact ⟨0, 0, Nat.zero_le _, rfl, rfl, by simp⟩
  case round =>
    obtain ⟨k, m, hk, rfl, rfl, ha⟩ := hrel
    have Ha := Lib.hid ha
    clear ha
    by_cases hlt : k < xs.length
    · have hcell := Hc.out k hlt
      cases hlk : isFin .f32 (can .f32 xs[k])
      · have Hf := Lib.hid (all_false_of_take (p := fun x => isFin .f32 (can .f32 x)) hlt hlk)
        go_wp2_with (first | (refine upon_op rfl ?_; intro r n hr hw; go_simp) | (refine upon_widen Try.underlying22 Try.underlying30 ?_; intro r n hr hw; go_simp) | (go_at_call 90; refine (l01Finite_any _ _).mono ?_; rintro e w' ⟨n, rfl, rfl⟩))
        go_ret
        exact retB_mk (by rw [Hf.out])
      · have Hf := Lib.hid ((all_take_succ (p := fun x => isFin .f32 (can .f32 x)) hlt).trans (by rw [Ha.out, hlk]; first | done | rfl))
        go_wp2_with (first | (refine upon_op rfl ?_; intro r n hr hw; go_simp) | (refine upon_widen Try.underlying22 Try.underlying30 ?_; intro r n hr hw; go_simp) | (go_at_call 90; refine (l01Finite_any _ _).mono ?_; rintro e w' ⟨n, rfl, rfl⟩))
        go_roundw
        case rel => exact ⟨k + 1, _, by omega, by go_num, rfl, Hf.out⟩
        case measure => simp [intOf]; omega
    · have Hl := Lib.hid (show xs.all (fun x => isFin .f32 (can .f32 x)) = true by have h := Ha.out; rwa [List.take_of_length_le (by omega)] at h)
      go_wp2_with (first | (refine upon_op rfl ?_; intro r n hr hw; go_simp) | (refine upon_widen Try.underlying22 Try.underlying30 ?_; intro r n hr hw; go_simp))
      go_ret
      exact retB_mk (by rw [Hl.out])
theorem l06Bands_any (b off cap : Nat) (xs : List Nat) (w : World) (hc : FS w b off xs) (hl : xs.length ≤ 1048576) :
    Calls Try.prog 68 #[.slice (some ⟨b, off, none⟩) xs.length cap] w (RetB w (decide (xs.length = 9) && allFin xs)) := by
  have H := Lib.hid (l02Finite_any b off cap xs w hc hl)
  clear hc
  go_enter Try.func68, Try.ntmps68
  go_wp2_with (go_at_call 59; refine H.out.mono ?_; rintro e w' ⟨n, rfl, rfl⟩)
  all_goals
    go_ret
    first
      | (refine retB_mk ?_; (first | (simp_all; done) | (simp_all; omega)); done)
      | (refine retB_mk0 ?_; (first | (simp_all; done) | (simp_all; omega)); done)
theorem areBands_any (b off cap : Nat) (xs : List Nat) (w : World) (hc : FS w b off xs) (hx : WfAll xs) (hl : xs.length ≤ 1048576) :
    Calls Try.prog 71 #[.slice (some ⟨b, off, none⟩) xs.length cap] w (RetB w (decide (xs.length = 9) && allFin xs)) := by
  have H := Lib.hid (areFinite_any b off cap xs w hc hx (by omega))
  have e : xs.all (fun x => isFin .f32 (can .f32 x)) = allFin xs := rfl
  rw [e] at H
  clear hc hx e
  go_enter Try.func71, Try.ntmps71
  go_wp2_with (go_at_call 85; refine H.out.mono ?_; rintro e w' ⟨n, rfl, rfl⟩)
  all_goals
    go_ret
    first
      | (refine retB_mk ?_; (first | (simp_all; done) | (simp_all; omega)); done)
      | (refine retB_mk0 ?_; (first | (simp_all; done) | (simp_all; omega)); done)
theorem square_any (x : Nat) (w : World) : Calls Try.prog 72 #[.float .f32 x] w (RetF .f32 w (mul (can .f32 x) (can .f32 x))) := by
  go_enter Try.func72, Try.ntmps72
  go_wp2_with (first | (refine upon_op rfl ?_; intro r n hr hw; go_simp) | (refine upon_widen Try.underlying22 Try.underlying30 ?_; intro r n hr hw; go_simp))
  go_ret
  exact retF_mk (by assumption) (by assumption)
theorem l06Powers_any (b off cap : Nat) (xs : List Nat) (w : World) (hc : FS w b off xs) (hl : xs.length ≤ 1048576) :
    Calls Try.prog 70 #[.slice (some ⟨b, off, none⟩) xs.length cap] w (GivesF .f32 w (powF xs)) := by
  have Hc := Lib.hid hc
  clear hc
  go_enter Try.func70, Try.ntmps70
  go_wp2_with fail
  go_loopw [3, 4] (fun s i wr => ∃ (k r : Nat), k ≤ xs.length ∧ i = .int .i64 k ∧ s = .float .f32 r ∧ Below w.heap.size w wr ∧ can .f32 r = powF (xs.take k) ∧ Wf .f32 r) (fun _ i _ => xs.length - (intOf i).toNat)
  case atStart => exact ⟨0, 0, Nat.zero_le _, rfl, rfl, Below.refl _ _, by rw [can_zero]; rfl, wf_zero _⟩
  case round =>
    obtain ⟨k, r, hk, rfl, rfl, hb, hr, hw⟩ := hrel
    have Hr := Lib.hid hr
    have HB := Lib.hid hb
    clear hr hb
    by_cases hlt : k < xs.length
    · have hlt2 := WorldLt.of_cell (Hc.out k hlt)
      have hcell := (HB.out.cell (p := ⟨b, off + k, none⟩) hlt2).trans (Hc.out k hlt)
      go_wp2_with fail
      refine wp_region_below (fun _ _ _ => True) (by kernel_rfl) (by kernel_rfl) ?_
      repeat first
        | (refine wpLoose_want rfl ?_; refine loose_move _ rfl ?_; simp only [Act.put, Act.eval, List.setIfInBounds_toArray, List.set_cons_succ, List.set_cons_zero, Array.getD_eq_getD_getElem?, List.getElem?_toArray, List.getElem?_cons_succ, List.getElem?_cons_zero, Option.getD_some])
        | (refine wpLoose_want rfl ?_; refine loose_assign _ rfl ?_; simp only [Act.put, Act.eval, List.setIfInBounds_toArray, List.set_cons_succ, List.set_cons_zero, Array.getD_eq_getD_getElem?, List.getElem?_toArray, List.getElem?_cons_succ, List.getElem?_cons_zero, Option.getD_some])
        | (refine wpLoose_want rfl ?_; refine loose_arith _ _ _ _ _ rfl rfl _ _ _ rfl rfl (below_drawn _) (fun r hr hw => ?_); simp only [Act.put, Act.eval, List.setIfInBounds_toArray, List.set_cons_succ, List.set_cons_zero, Array.getD_eq_getD_getElem?, List.getElem?_toArray, List.getElem?_cons_succ, List.getElem?_cons_zero, Option.getD_some])
        | (refine wpLoose_want rfl ?_; apply loose_val; (· (intro w2 hC2; obtain ⟨hc2, hf2⟩ := below_cells hC2; have hcl := (hC2.cell (p := ⟨b, off + k, none⟩) (Nat.lt_of_lt_of_le hlt2 HB.out.size)).trans hcell; go_simp; try rfl)); simp only [Act.put, Act.eval, List.setIfInBounds_toArray, List.set_cons_succ, List.set_cons_zero, Array.getD_eq_getD_getElem?, List.getElem?_toArray, List.getElem?_cons_succ, List.getElem?_cons_zero, Option.getD_some])
      refine wpLoose_nil fun w' hb => ?_
      go_wp2_with fail
      go_roundw
      case rel => exact ⟨k + 1, _, by omega, by go_num, rfl, HB.out.trans (hb.mono HB.out.size), by rw [pow_succ hlt, ← Hr.out]; simp only [*], by assumption⟩
      case measure => simp [intOf]; omega
    · go_wp2_with fail
      go_ret
      have hk' : k = xs.length := by omega
      exact ⟨_, rfl, by have h := Hr.out; rwa [List.take_of_length_le (by omega)] at h, hw, HB.out⟩
end Go.Proofs.Ytokpnjliikhecaa
