/- THE SINE OF TURNS: the reference. -/
import Derived.Test.YtommbbheanhkjaaW29
set_option linter.unusedSimpArgs false
set_option linter.unusedVariables false
set_option linter.unnecessarySimpa false
set_option maxRecDepth 20000
namespace Go.Proofs.Ytommbbheanhkjaa
open Go.RowKit Go.Fl

set_option maxHeartbeats 8000000 in
theorem sineWide_any (y : Nat) (w : World) (h : Bd y 52) (b1 : le .f64 4841369599423283200 y = false) (b2 : le .f64 y 14064741636278059008 = false) : Calls Try.prog 104 #[.float .f64 y] w (RetF .f64 w (sineW y)) := by
  have hcy := h.can_ (by decide)
  have hfy : isFin .f64 y = true := by obtain ⟨s, r, rfl, hr⟩ := h; exact fin_word (Bd.lt hr (by decide))
  have cb : can .f64 4841369599423283200 = 4841369599423283200 := by decide +kernel
  have cn : can .f64 14064741636278059008 = 14064741636278059008 := by decide +kernel
  obtain ⟨lo, hi, hI, hB, -, -, -⟩ := frac_facts h
  have lo' : -9223372036854775808 ≤ truncI y := by omega
  have hi' : truncI y ≤ 9223372036854775807 := by omega
  have hfr : op .sub .f64 y (can .f64 (floatOfInt .f64 (truncI y))) = fracW y := by
    show op .sub .f64 y (can .f64 (FloatKind.f64.nearest (truncI y))) = fracW y
    unfold fracW; rw [can_nearest]
  unfold isFin at hfy
  have hz := Lib.hid (bd_sineZ h)
  have ch : can .f64 4602678819172646912 = half := by decide +kernel
  have cq : can .f64 4598175219545276416 = quarter := by decide +kernel
  have c1 : can .f64 4607182418800017408 = one64 := by decide +kernel
  have cp : can .f64 4618760256179416344 = twoPi := by decide +kernel
  unfold sineW
  unfold sineZ at hz ⊢
  generalize hZ : turnZ y = Z at *
  unfold turnZ at hZ
  generalize hU : upW (fracW y) = U at *
  unfold upW at hU
  have HZ := Lib.hid hZ
  clear h
  cases h1 : le .f64 half U
  all_goals
    cases h2 : lt .f64 quarter (halfW U)
  all_goals
    cases h0 : lt .f64 (fracW y) 0
  all_goals
    have hZ := HZ.out
    unfold quartW at hZ
    rw [h2] at hZ
    unfold halfW at hZ h2
    rw [h1] at hZ h2
    simp only [if_true, if_false, Bool.false_eq_true] at hZ h2
    have HZZ := Lib.hid hZ
    clear hZ
    go_enter Try.func104, Try.ntmps104
    rw [h0] at hU
    (try simp only [if_true, if_false, Bool.false_eq_true] at hU)
    subst hU
    go_wp2_with (first | (refine upon_op rfl ?_; intro r n hr hw; go_simp) | (refine upon_toInt Try.underlying46 Try.underlying2 hI lo' hi' ?_; go_simp))
    rename_i z nz hz1 hwz Ka Kb
    have hz2 : can .f64 z = Z := by rw [← HZZ.out]; simp only [*]
    have hu2 : can .f64 r = op .mul .f64 Z Z := by rw [hr, hz2]
    have Hz2 := Lib.hid hz2
    have Hu2 := Lib.hid hu2
    clear hz2 hu2 hr hz1 hw hwz
    generalize op .mul .f64 Z Z = UU at *
    go_loopw [7, 8] (fun p i wr => ∃ (j k n q : Nat), j + k = 8 ∧ i = .int .i64 k ∧ p = .float .f64 q ∧ can .f64 q = sinP UU j ∧ Wf .f64 q ∧ wr = w.drewN n) (fun _ i _ => (intOf i).toNat)
    case atStart => exact ⟨0, 8, _, _, rfl, rfl, rfl, c1, by unfold Wf; decide +kernel, rfl⟩
    case round =>
      obtain ⟨j, k, n2, q, hjk, rfl, rfl, hq, hwq, rfl⟩ := hrel
      by_cases hk : 1 ≤ k
      · have hd := sinD_facts hk (by omega)
        have Hq := Lib.hid hq
        have hu := Hu2.out
        clear hq hd
        obtain rfl : j = 8 - k := by omega
        obtain rfl | rfl | rfl | rfl | rfl | rfl | rfl | rfl : k = 1 ∨ k = 2 ∨ k = 3 ∨ k = 4 ∨ k = 5 ∨ k = 6 ∨ k = 7 ∨ k = 8 := by omega
        · go_wp2_with (first | (refine upon_op rfl ?_; intro r n hr hw; go_simp) | (refine upon_widen Try.underlying22 Try.underlying46 ?_; intro r n hr hw; go_simp))
          have ho : can .f64 (floatOfInt .f64 6) = sinD 1 := by decide +kernel
          have hnew : can .f64 r = sinP UU 8 := by
            show can .f64 r = op .sub .f64 one64 (op .quo .f64 (op .mul .f64 UU (sinP UU (8 - 1))) (sinD 1))
            rw [← Hq.out]; simp only [*]
          go_roundw
          case rel => exact ⟨8, 0, _, _, rfl, rfl, rfl, hnew, hw, rfl⟩
          case measure => decide
        · go_wp2_with (first | (refine upon_op rfl ?_; intro r n hr hw; go_simp) | (refine upon_widen Try.underlying22 Try.underlying46 ?_; intro r n hr hw; go_simp))
          have ho : can .f64 (floatOfInt .f64 20) = sinD 2 := by decide +kernel
          have hnew : can .f64 r = sinP UU 7 := by
            show can .f64 r = op .sub .f64 one64 (op .quo .f64 (op .mul .f64 UU (sinP UU (8 - 2))) (sinD 2))
            rw [← Hq.out]; simp only [*]
          go_roundw
          case rel => exact ⟨7, 1, _, _, rfl, rfl, rfl, hnew, hw, rfl⟩
          case measure => decide
        · go_wp2_with (first | (refine upon_op rfl ?_; intro r n hr hw; go_simp) | (refine upon_widen Try.underlying22 Try.underlying46 ?_; intro r n hr hw; go_simp))
          have ho : can .f64 (floatOfInt .f64 42) = sinD 3 := by decide +kernel
          have hnew : can .f64 r = sinP UU 6 := by
            show can .f64 r = op .sub .f64 one64 (op .quo .f64 (op .mul .f64 UU (sinP UU (8 - 3))) (sinD 3))
            rw [← Hq.out]; simp only [*]
          go_roundw
          case rel => exact ⟨6, 2, _, _, rfl, rfl, rfl, hnew, hw, rfl⟩
          case measure => decide
        · go_wp2_with (first | (refine upon_op rfl ?_; intro r n hr hw; go_simp) | (refine upon_widen Try.underlying22 Try.underlying46 ?_; intro r n hr hw; go_simp))
          have ho : can .f64 (floatOfInt .f64 72) = sinD 4 := by decide +kernel
          have hnew : can .f64 r = sinP UU 5 := by
            show can .f64 r = op .sub .f64 one64 (op .quo .f64 (op .mul .f64 UU (sinP UU (8 - 4))) (sinD 4))
            rw [← Hq.out]; simp only [*]
          go_roundw
          case rel => exact ⟨5, 3, _, _, rfl, rfl, rfl, hnew, hw, rfl⟩
          case measure => decide
        · go_wp2_with (first | (refine upon_op rfl ?_; intro r n hr hw; go_simp) | (refine upon_widen Try.underlying22 Try.underlying46 ?_; intro r n hr hw; go_simp))
          have ho : can .f64 (floatOfInt .f64 110) = sinD 5 := by decide +kernel
          have hnew : can .f64 r = sinP UU 4 := by
            show can .f64 r = op .sub .f64 one64 (op .quo .f64 (op .mul .f64 UU (sinP UU (8 - 5))) (sinD 5))
            rw [← Hq.out]; simp only [*]
          go_roundw
          case rel => exact ⟨4, 4, _, _, rfl, rfl, rfl, hnew, hw, rfl⟩
          case measure => decide
        · go_wp2_with (first | (refine upon_op rfl ?_; intro r n hr hw; go_simp) | (refine upon_widen Try.underlying22 Try.underlying46 ?_; intro r n hr hw; go_simp))
          have ho : can .f64 (floatOfInt .f64 156) = sinD 6 := by decide +kernel
          have hnew : can .f64 r = sinP UU 3 := by
            show can .f64 r = op .sub .f64 one64 (op .quo .f64 (op .mul .f64 UU (sinP UU (8 - 6))) (sinD 6))
            rw [← Hq.out]; simp only [*]
          go_roundw
          case rel => exact ⟨3, 5, _, _, rfl, rfl, rfl, hnew, hw, rfl⟩
          case measure => decide
        · go_wp2_with (first | (refine upon_op rfl ?_; intro r n hr hw; go_simp) | (refine upon_widen Try.underlying22 Try.underlying46 ?_; intro r n hr hw; go_simp))
          have ho : can .f64 (floatOfInt .f64 210) = sinD 7 := by decide +kernel
          have hnew : can .f64 r = sinP UU 2 := by
            show can .f64 r = op .sub .f64 one64 (op .quo .f64 (op .mul .f64 UU (sinP UU (8 - 7))) (sinD 7))
            rw [← Hq.out]; simp only [*]
          go_roundw
          case rel => exact ⟨2, 6, _, _, rfl, rfl, rfl, hnew, hw, rfl⟩
          case measure => decide
        · go_wp2_with (first | (refine upon_op rfl ?_; intro r n hr hw; go_simp) | (refine upon_widen Try.underlying22 Try.underlying46 ?_; intro r n hr hw; go_simp))
          have ho : can .f64 (floatOfInt .f64 272) = sinD 8 := by decide +kernel
          have hnew : can .f64 r = sinP UU 1 := by
            show can .f64 r = op .sub .f64 one64 (op .quo .f64 (op .mul .f64 UU (sinP UU (8 - 8))) (sinD 8))
            rw [← Hq.out]; simp only [*]
          go_roundw
          case rel => exact ⟨1, 7, _, _, rfl, rfl, rfl, hnew, hw, rfl⟩
          case measure => decide
      · obtain rfl : k = 0 := by omega
        obtain rfl : j = 8 := by omega
        have hz2 := Hz2.out
        go_wp2_with (first | (refine upon_op rfl ?_; intro r n hr hw; go_simp) | (refine upon_widen Try.underlying22 Try.underlying46 ?_; intro r n hr hw; go_simp))
        have hrz : r = op .mul .f64 Z (sinP UU 8) := eq_of_can (by rw [hr, hz2, hq]) (hz.out.not_bad (by decide))
        have hnz := (hz.out.neg (by decide)).can_ (by decide)
        have hwn := (hz.out.neg (by decide)).wf (by decide)
        go_ret
        (try simp only [Bool.false_eq_true, if_false, if_true])
        first
          | exact retF_mk (by rw [hr, hz2, hq]) (by assumption)
          | exact retF_mk (by rw [hrz]; exact hnz) (by rw [hrz]; exact hwn)
end Go.Proofs.Ytommbbheanhkjaa
