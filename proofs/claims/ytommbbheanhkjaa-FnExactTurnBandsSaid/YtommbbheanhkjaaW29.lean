/- THE SINE OF TURNS. -/
import Derived.Test.YtommbbheanhkjaaW15
import Derived.Test.YtommbbheanhkjaaW9
import Derived.Test.YtommbbheanhkjaaPure14
set_option linter.unusedSimpArgs false
set_option linter.unusedVariables false
set_option linter.unnecessarySimpa false
set_option maxRecDepth 20000
namespace Go.Proofs.Ytommbbheanhkjaa
open Go.RowKit Go.Fl

@[go_sem] theorem nanbits_run (w : World) : (callFunc 132 #[.int .u64 9221120237041090561]).run Try.prog w = .ok (.value (.float .f64 9221120237041090561)) w := by kernel_rfl
theorem nanM_any (w : World) : Calls Try.prog 123 #[] w (RetF .f64 w (qnan .f64)) := by
  go_enter Try.func123, Try.ntmps123
  go_wp2_with (first | (refine upon_op rfl ?_; intro r n hr hw; go_simp) | (refine upon_widen Try.underlying22 Try.underlying46 ?_; intro r n hr hw; go_simp))
  go_ret
  exact retF_mk0 (by decide +kernel) (by unfold Wf; decide +kernel)
theorem nanI_any (w : World) : Calls Try.prog 117 #[] w (RetF .f32 w (qnan .f32)) := by
  go_enter Try.func117, Try.ntmps117
  go_wp2_with (first | (go_at_call 123; refine (nanM_any _).mono ?_; rintro e w' ⟨q, n, rfl, rfl, hq, hwq⟩) | (refine upon_narrow Try.underlying46 Try.underlying22 (by rw [hq]; exact ok_qnan) ?_; intro t n ht hwt; go_simp))
  go_ret
  exact retF_mk (by rw [ht, hq]; decide +kernel) (by assumption)
theorem trunc_entry (x : Nat) (w : World) : (callFunc 142 #[.float .f64 x]).run Try.prog w = (Sem.run Try.prog (Extern.MathFloor.toIntegral "math.archTrunc" .zero #[.float .f64 x]) w).andThen fun v w' => .ok (.value v) w' :=
  run_callFunc_extern Try.func142 (by kernel_rfl) (by kernel_rfl) (by kernel_rfl) (e := Extern.MathFloor.toIntegral "math.archTrunc" .zero) (by kernel_rfl) _ w
theorem trunc_run (x : Nat) (w : World) (h : bad .f64 x = false) : (callFunc 142 #[.float .f64 x]).run Try.prog w = .ok (.value (.float .f64 (truncW x))) w := by
  rw [trunc_entry, run_trunc x w h]; rfl
theorem upon_trunc {o : Oper} {a : Act} {K : Act → World → Prop} {Q : Exit → Act → World → Prop} {w : World} {x : Nat} (hx : bad .f64 x = false) (h : K (a.put o.dst (.float .f64 (truncW x))) w) :
    Oper.upon Try.prog o a K Q (Sem.run Try.prog (callFunc 142 #[.float .f64 x]) w) := by
  rw [trunc_run x w hx]
  exact h
theorem trunc_any (x : Nat) (w : World) (hx : bad .f64 x = false) : Calls Try.prog 138 #[.float .f64 x] w (fun e w' => e = .returned (.float .f64 (truncW x)) ∧ w' = w) := by
  go_enter Try.func138, Try.ntmps138
  go_wp2_with (refine upon_trunc hx ?_; go_simp)
  go_ret
  exact ⟨rfl, rfl⟩
theorem fraction_any (y : Nat) (w : World) (h : Bd y 52) : Calls Try.prog 135 #[.float .f64 y] w (RetF .f64 w (upW (fracW y))) := by
  have hbad := h.not_bad (by decide)
  obtain ⟨-, -, -, hB, hb, hwt, hif⟩ := frac_facts h
  have hcy := h.can_ (by decide)
  have hct : can .f64 (truncW y) = truncW y := can_of_not hb
  have hcf := hB.can_ (by decide)
  have hwf := hB.wf (by decide)
  unfold upW
  have Hwf := Lib.hid hwf
  have Hcf := Lib.hid hcf
  cases hE : eq .f64 (truncW y) 0
  · rw [hE] at hif
    have hif : op .sub .f64 y (truncW y) = fracW y := hif
    have Hif := Lib.hid hif
    clear hB hif h hwf hcf
    cases hL : lt .f64 (fracW y) 0
    all_goals
      rw [← Hif.out] at hL
      go_enter Try.func135, Try.ntmps135
      go_wp2_with (first | (refine upon_op rfl ?_; intro r n hr hw; go_simp) | (go_at_call 138; refine (trunc_any _ _ (by assumption)).mono ?_; rintro e w' ⟨rfl, rfl⟩))
      go_ret
      refine retF_mk ?_ (by assumption)
      (try simp only [Bool.false_eq_true, if_false, if_true])
      first | (simp only [*]; done) | (simp only [*]; rfl) | (rw [← Hif.out]; simp only [*]; done) | (rw [← Hif.out]; simp only [*]; rfl)
  · rw [hE] at hif
    have hif : y = fracW y := hif
    rw [← hif] at Hwf Hcf hB ⊢
    clear hif h hcf hwf
    cases hL : lt .f64 y 0
    all_goals
      go_enter Try.func135, Try.ntmps135
      go_wp2_with (first | (refine upon_op rfl ?_; intro r n hr hw; go_simp) | (go_at_call 138; refine (trunc_any _ _ (by assumption)).mono ?_; rintro e w' ⟨rfl, rfl⟩))
      go_ret
      first
        | (refine retF_mk ?_ (by assumption); (try simp only [Bool.false_eq_true, if_false, if_true]); first | (simp only [*]; done) | (simp only [*]; rfl))
        | exact retF_mk0 hcy Hwf.out
@[go_sem] theorem neg_run (k : FloatKind) (b : Nat) (w : World) : (Op.unary .neg (.float k b)).run Try.prog w = .ok (.float k (Op.negFloat k b)) w := rfl
set_option maxHeartbeats 8000000 in
theorem sine_any (y : Nat) (w : World) (h : Bd y 52) : Calls Try.prog 127 #[.float .f64 y] w (RetF .f64 w (sineW y)) := by
  have HF := Lib.hid (fun w => fraction_any y w h)
  have hz := Lib.hid (bd_sineZ h)
  have ch : can .f64 4602678819172646912 = half := by decide +kernel
  have cq : can .f64 4598175219545276416 = quarter := by decide +kernel
  have c1 : can .f64 4607182418800017408 = one64 := by decide +kernel
  have cp : can .f64 4618760256179416344 = twoPi := by decide +kernel
  unfold sineW
  unfold sineZ at hz ⊢
  generalize hZ : turnZ y = Z at *
  unfold turnZ at hZ
  generalize upW (fracW y) = U at *
  have HZ := Lib.hid hZ
  clear h
  cases h1 : le .f64 half U
  all_goals
    cases h2 : lt .f64 quarter (halfW U)
  all_goals
    have hZ := HZ.out
    unfold quartW at hZ
    rw [h2] at hZ
    unfold halfW at hZ h2
    rw [h1] at hZ h2
    simp only [if_true, if_false, Bool.false_eq_true] at hZ h2
    have HZZ := Lib.hid hZ
    clear hZ
    go_enter Try.func127, Try.ntmps127
    go_wp2_with (first | (refine upon_op rfl ?_; intro r n hr hw; go_simp) | (go_at_call 135; refine (HF.out _).mono ?_; rintro e w' ⟨f, n, rfl, rfl, hf, hwf⟩))
    rename_i z nz hz1 hwz Ka Kb
    have hz2 : can .f64 z = Z := by rw [← HZZ.out]; simp only [*]
    have hu2 : can .f64 r = op .mul .f64 Z Z := by rw [hr, hz2]
    have Hz2 := Lib.hid hz2
    have Hu2 := Lib.hid hu2
    clear hz2 hu2 hr hz1 hw hwz hwf hf
    generalize op .mul .f64 Z Z = UU at *
    go_loopw [7, 8] (fun p i wr => ∃ (j k n q : Nat), j + k = 8 ∧ i = .int .i64 k ∧ p = .float .f64 q ∧ can .f64 q = sinP UU j ∧ Wf .f64 q ∧ wr = w.drewN n) (fun _ i _ => (intOf i).toNat)
    case atStart => exact ⟨0, 8, _, _, rfl, rfl, rfl, c1, by unfold Wf; decide +kernel, rfl⟩
    case round =>
      obtain ⟨j, k, n2, q, hjk, rfl, rfl, hq, hwq, rfl⟩ := hrel
      by_cases hk : 1 ≤ k
      · have hd := sinD_facts hk (by omega)
        have Hq := Lib.hid hq
        have hu := Hu2.out
        clear hq hd
        obtain rfl : j = 8 - k := by omega
        obtain rfl | rfl | rfl | rfl | rfl | rfl | rfl | rfl : k = 1 ∨ k = 2 ∨ k = 3 ∨ k = 4 ∨ k = 5 ∨ k = 6 ∨ k = 7 ∨ k = 8 := by omega
        · go_wp2_with (first | (refine upon_op rfl ?_; intro r n hr hw; go_simp) | (refine upon_widen Try.underlying22 Try.underlying46 ?_; intro r n hr hw; go_simp))
          have ho : can .f64 (floatOfInt .f64 6) = sinD 1 := by decide +kernel
          have hnew : can .f64 r = sinP UU 8 := by
            show can .f64 r = op .sub .f64 one64 (op .quo .f64 (op .mul .f64 UU (sinP UU (8 - 1))) (sinD 1))
            rw [← Hq.out]; simp only [*]
          go_roundw
          case rel => exact ⟨8, 0, _, _, rfl, rfl, rfl, hnew, hw, rfl⟩
          case measure => decide
        · go_wp2_with (first | (refine upon_op rfl ?_; intro r n hr hw; go_simp) | (refine upon_widen Try.underlying22 Try.underlying46 ?_; intro r n hr hw; go_simp))
          have ho : can .f64 (floatOfInt .f64 20) = sinD 2 := by decide +kernel
          have hnew : can .f64 r = sinP UU 7 := by
            show can .f64 r = op .sub .f64 one64 (op .quo .f64 (op .mul .f64 UU (sinP UU (8 - 2))) (sinD 2))
            rw [← Hq.out]; simp only [*]
          go_roundw
          case rel => exact ⟨7, 1, _, _, rfl, rfl, rfl, hnew, hw, rfl⟩
          case measure => decide
        · go_wp2_with (first | (refine upon_op rfl ?_; intro r n hr hw; go_simp) | (refine upon_widen Try.underlying22 Try.underlying46 ?_; intro r n hr hw; go_simp))
          have ho : can .f64 (floatOfInt .f64 42) = sinD 3 := by decide +kernel
          have hnew : can .f64 r = sinP UU 6 := by
            show can .f64 r = op .sub .f64 one64 (op .quo .f64 (op .mul .f64 UU (sinP UU (8 - 3))) (sinD 3))
            rw [← Hq.out]; simp only [*]
          go_roundw
          case rel => exact ⟨6, 2, _, _, rfl, rfl, rfl, hnew, hw, rfl⟩
          case measure => decide
        · go_wp2_with (first | (refine upon_op rfl ?_; intro r n hr hw; go_simp) | (refine upon_widen Try.underlying22 Try.underlying46 ?_; intro r n hr hw; go_simp))
          have ho : can .f64 (floatOfInt .f64 72) = sinD 4 := by decide +kernel
          have hnew : can .f64 r = sinP UU 5 := by
            show can .f64 r = op .sub .f64 one64 (op .quo .f64 (op .mul .f64 UU (sinP UU (8 - 4))) (sinD 4))
            rw [← Hq.out]; simp only [*]
          go_roundw
          case rel => exact ⟨5, 3, _, _, rfl, rfl, rfl, hnew, hw, rfl⟩
          case measure => decide
        · go_wp2_with (first | (refine upon_op rfl ?_; intro r n hr hw; go_simp) | (refine upon_widen Try.underlying22 Try.underlying46 ?_; intro r n hr hw; go_simp))
          have ho : can .f64 (floatOfInt .f64 110) = sinD 5 := by decide +kernel
          have hnew : can .f64 r = sinP UU 4 := by
            show can .f64 r = op .sub .f64 one64 (op .quo .f64 (op .mul .f64 UU (sinP UU (8 - 5))) (sinD 5))
            rw [← Hq.out]; simp only [*]
          go_roundw
          case rel => exact ⟨4, 4, _, _, rfl, rfl, rfl, hnew, hw, rfl⟩
          case measure => decide
        · go_wp2_with (first | (refine upon_op rfl ?_; intro r n hr hw; go_simp) | (refine upon_widen Try.underlying22 Try.underlying46 ?_; intro r n hr hw; go_simp))
          have ho : can .f64 (floatOfInt .f64 156) = sinD 6 := by decide +kernel
          have hnew : can .f64 r = sinP UU 3 := by
            show can .f64 r = op .sub .f64 one64 (op .quo .f64 (op .mul .f64 UU (sinP UU (8 - 6))) (sinD 6))
            rw [← Hq.out]; simp only [*]
          go_roundw
          case rel => exact ⟨3, 5, _, _, rfl, rfl, rfl, hnew, hw, rfl⟩
          case measure => decide
        · go_wp2_with (first | (refine upon_op rfl ?_; intro r n hr hw; go_simp) | (refine upon_widen Try.underlying22 Try.underlying46 ?_; intro r n hr hw; go_simp))
          have ho : can .f64 (floatOfInt .f64 210) = sinD 7 := by decide +kernel
          have hnew : can .f64 r = sinP UU 2 := by
            show can .f64 r = op .sub .f64 one64 (op .quo .f64 (op .mul .f64 UU (sinP UU (8 - 7))) (sinD 7))
            rw [← Hq.out]; simp only [*]
          go_roundw
          case rel => exact ⟨2, 6, _, _, rfl, rfl, rfl, hnew, hw, rfl⟩
          case measure => decide
        · go_wp2_with (first | (refine upon_op rfl ?_; intro r n hr hw; go_simp) | (refine upon_widen Try.underlying22 Try.underlying46 ?_; intro r n hr hw; go_simp))
          have ho : can .f64 (floatOfInt .f64 272) = sinD 8 := by decide +kernel
          have hnew : can .f64 r = sinP UU 1 := by
            show can .f64 r = op .sub .f64 one64 (op .quo .f64 (op .mul .f64 UU (sinP UU (8 - 8))) (sinD 8))
            rw [← Hq.out]; simp only [*]
          go_roundw
          case rel => exact ⟨1, 7, _, _, rfl, rfl, rfl, hnew, hw, rfl⟩
          case measure => decide
      · obtain rfl : k = 0 := by omega
        obtain rfl : j = 8 := by omega
        have hz2 := Hz2.out
        go_wp2_with (first | (refine upon_op rfl ?_; intro r n hr hw; go_simp) | (refine upon_widen Try.underlying22 Try.underlying46 ?_; intro r n hr hw; go_simp))
        have hrz : r = op .mul .f64 Z (sinP UU 8) := eq_of_can (by rw [hr, hz2, hq]) (hz.out.not_bad (by decide))
        have hnz := (hz.out.neg (by decide)).can_ (by decide)
        have hwn := (hz.out.neg (by decide)).wf (by decide)
        go_ret
        (try simp only [Bool.false_eq_true, if_false, if_true])
        first
          | exact retF_mk (by rw [hr, hz2, hq]) (by assumption)
          | exact retF_mk (by rw [hrz]; exact hnz) (by rw [hrz]; exact hwn)
end Go.Proofs.Ytommbbheanhkjaa
