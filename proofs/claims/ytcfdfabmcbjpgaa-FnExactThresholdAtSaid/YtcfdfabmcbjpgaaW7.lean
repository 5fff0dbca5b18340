/- THRESHOLDS AT A PLACE. -/
import Derived.Test.YtcfdfabmcbjpgaaW6
import Derived.Test.YtcfdfabmcbjpgaaPure3
set_option linter.unusedSimpArgs false
set_option linter.unusedVariables false
namespace Go.Proofs.Ytcfdfabmcbjpgaa
open Go.RowKit Go.Fl

theorem thrAtI_any (s x y : Int) (w : World) : Calls Try.prog 18 #[.int .i64 s, .int .i64 x, .int .i64 y] w (GivesFB .f32 w (if thrOk s x y = true then thr s x y else 0) (thrOk s x y)) := by
  generalize hX : (if thrOk s x y = true then thr s x y else 0) = X
  generalize hB : thrOk s x y = B
  have HX := Lib.hid hX
  have HB := Lib.hid hB
  clear hX hB
  obtain rfl | rfl | ⟨h2, h4⟩ : s = 2 ∨ s = 4 ∨ (s ≠ 2 ∧ s ≠ 4) := by omega
  all_goals
    cases h0 : decide (0 ≤ x ∧ x ≤ 1000000) <;> cases h1 : decide (0 ≤ y ∧ y ≤ 1000000)
    all_goals
      have H0 := Lib.hid h0
      have H1 := Lib.hid h1
      clear h0 h1
      go_enter Try.func18, Try.ntmps18
      go_wp2_with (first | (go_at_call 31; refine (between_any _ _ _ _).mono ?_; (first | rw [H0.out] | rw [H1.out]); rintro e w' ⟨rfl, rfl⟩) | (go_at_call 32; have a0 := of_decide_eq_true H0.out; have a1 := of_decide_eq_true H1.out; refine (thresholdI_any _ _ _ _ (by decide) a0.1 a0.2 a1.1 a1.2).mono ?_; rintro e w' ⟨r, rfl, hr, hw, hb⟩; obtain ⟨hc, hf⟩ := below_cells hb; have hz := hb.size; (try simp at hz); (try have hz3 := Nat.lt_of_succ_le hz); (try have hz0 : w.heap.size < w'.heap.size := by omega); (try have hz1 : w.heap.size + 1 < w'.heap.size := by omega); (try have hz2 : w.heap.size + 1 + 1 < w'.heap.size := by omega)))
      all_goals
        go_ret2
        have hB := HB.out
        have hX := HX.out
        unfold thrOk at hB hX
        rw [H0.out, H1.out] at hB hX
        simp at hB hX
        subst hB; subst hX
        refine ⟨_, by first | rfl | (simp only [h2, h4, false_or, false_and, decide_false, Bool.false_and]; rfl) | (simp [h2, h4]; rfl), ?_, ?_, (by repeat (with_reducible first | exact Below.refl _ _ | refine below_drewN ?_ _ | refine Below.drew ?_ | refine below_alloc ?_ _ | refine below_set0 ?_ _ _ | refine below_set1 ?_ _ _ | refine below_set2 ?_ _ _ | refine below_set3 ?_ _ _ | refine below_call (by assumption) ?_))⟩
        all_goals first | assumption | exact wf_zero _ | (simp_all [can_zero]; done)
theorem thrAtS_any (s x y : Int) (w : World) : Calls Try.prog 17 #[.int .i64 s, .int .i64 x, .int .i64 y] w (GivesFB .f32 w (if thrOk s x y = true then thr s x y else 0) (thrOk s x y)) := by
  generalize hX : (if thrOk s x y = true then thr s x y else 0) = X
  generalize hB : thrOk s x y = B
  have HX := Lib.hid hX
  have HB := Lib.hid hB
  clear hX hB
  obtain rfl | rfl | ⟨h2, h4⟩ : s = 2 ∨ s = 4 ∨ (s ≠ 2 ∧ s ≠ 4) := by omega
  all_goals
    cases h0 : decide (0 ≤ x ∧ x ≤ 1000000) <;> cases h1 : decide (0 ≤ y ∧ y ≤ 1000000)
    all_goals
      have H0 := Lib.hid h0
      have H1 := Lib.hid h1
      clear h0 h1
      go_enter Try.func17, Try.ntmps17
      go_wp2_with (first | (go_at_call 29; refine (l00In_any _ _ _ _).mono ?_; (first | rw [H0.out] | rw [H1.out]); rintro e w' ⟨rfl, rfl⟩) | (go_at_call 30; have a0 := of_decide_eq_true H0.out; have a1 := of_decide_eq_true H1.out; refine (thresholdS_any _ _ _ _ (by decide) a0.1 a0.2 a1.1 a1.2).mono ?_; rintro e w' ⟨r, rfl, hr, hw, hb⟩; obtain ⟨hc, hf⟩ := below_cells hb; have hz := hb.size; (try simp at hz); (try have hz3 := Nat.lt_of_succ_le hz); (try have hz0 : w.heap.size < w'.heap.size := by omega); (try have hz1 : w.heap.size + 1 < w'.heap.size := by omega); (try have hz2 : w.heap.size + 1 + 1 < w'.heap.size := by omega)))
      all_goals
        go_ret2
        have hB := HB.out
        have hX := HX.out
        unfold thrOk at hB hX
        rw [H0.out, H1.out] at hB hX
        simp at hB hX
        subst hB; subst hX
        refine ⟨_, by first | rfl | (simp only [h2, h4, false_or, false_and, decide_false, Bool.false_and]; rfl) | (simp [h2, h4]; rfl), ?_, ?_, (by repeat (with_reducible first | exact Below.refl _ _ | refine below_drewN ?_ _ | refine Below.drew ?_ | refine below_alloc ?_ _ | refine below_set0 ?_ _ _ | refine below_set1 ?_ _ _ | refine below_set2 ?_ _ _ | refine below_set3 ?_ _ _ | refine below_call (by assumption) ?_))⟩
        all_goals first | assumption | exact wf_zero _ | (simp_all [can_zero]; done)
theorem law_ThresholdAt (s x y : Int) (w : World) (lo0 : -9223372036854775808 ≤ s) (hi0 : s ≤ 9223372036854775807) (lo1 : -9223372036854775808 ≤ x) (hi1 : x ≤ 9223372036854775807) (lo2 : -9223372036854775808 ≤ y) (hi2 : y ≤ 9223372036854775807) : Calls Try.prog 6 #[.int .i64 s, .int .i64 x, .int .i64 y] w (GivesB w true) := by
  generalize hX : (if thrOk s x y = true then thr s x y else 0) = X
  have HI := thrAtI_any s x y
  have HS := thrAtS_any s x y
  rw [hX] at HI HS
  have HI' := Lib.hid HI
  have HS' := Lib.hid HS
  clear HI HS hX
  generalize thrOk s x y = B at *
  go_enter Try.func6, Try.ntmps6
  go_wp2_with (first | (go_at_call 19; refine (sameFloat_any _ _ _ (by assumption) (by assumption)).mono ?_; rintro e w' ⟨n, rfl, rfl⟩) | (refine upon_widen Try.underlying22 Try.underlying40 ?_; intro r n hr hw; go_simp) | (go_at_call 17; refine (HS'.out _).mono ?_; rintro e w' ⟨r, rfl, hr, hw, hb⟩; obtain ⟨hc, hf⟩ := below_cells hb; have hz := hb.size; (try simp at hz); (try have hz3 := Nat.lt_of_succ_le hz); (try have hz0 : w.heap.size < w'.heap.size := by omega); (try have hz1 : w.heap.size + 1 < w'.heap.size := by omega); (try have hz2 : w.heap.size + 1 + 1 < w'.heap.size := by omega)) | (go_at_call 18; refine (HI'.out _).mono ?_; rintro e w' ⟨r, rfl, hr, hw, hb⟩; obtain ⟨hc, hf⟩ := below_cells hb; have hz := hb.size; (try simp at hz); (try have hz3 := Nat.lt_of_succ_le hz); (try have hz0 : w.heap.size < w'.heap.size := by omega); (try have hz1 : w.heap.size + 1 < w'.heap.size := by omega); (try have hz2 : w.heap.size + 1 + 1 < w'.heap.size := by omega)))
  go_ret
  exact ⟨rfl, (by repeat (with_reducible first | exact Below.refl _ _ | refine below_drewN ?_ _ | refine Below.drew ?_ | refine below_alloc ?_ _ | refine below_set0 ?_ _ _ | refine below_set1 ?_ _ _ | refine below_set2 ?_ _ _ | refine below_set3 ?_ _ _ | refine below_call (by assumption) ?_))⟩
end Go.Proofs.Ytcfdfabmcbjpgaa
