/- LISTS OF NUMBERS, SUMS, KERNELS. -/
import Derived.Test.YtokpnjliikhecaaW8
import Derived.Test.YtokpnjliikhecaaPure4
set_option linter.unusedSimpArgs false
set_option linter.unusedVariables false
set_option linter.unnecessarySimpa false
set_option maxRecDepth 20000
namespace Go.Proofs.Ytokpnjliikhecaa
open Go.RowKit Go.Fl

@[go_sem] theorem f64frombits_run (x : Nat) (w : World) : (callFunc 110 #[.int .u64 x]).run Try.prog w = .ok (.value (.float .f64 x)) w := by kernel_rfl
theorem absM_any (x : Nat) (w : World) (hx : Wf .f64 x) : Calls Try.prog 95 #[.float .f64 x] w (fun e w' => e = .returned (.float .f64 (size .f64 x)) ∧ w = w') := by
  have hb := andNot_sign hx
  go_enter Try.func95, Try.ntmps95
  go_wp2_with fail
  go_ret
  exact ⟨rfl, rfl⟩
theorem abs_any (x : Nat) (w : World) (hx : Wf .f32 x) : Calls Try.prog 56 #[.float .f32 x] w (RetF .f32 w (absF (can .f32 x))) := by
  rw [absF_can]
  have Hx := Lib.hid hx
  go_enter Try.func56, Try.ntmps56
  go_wp2_with (first | (refine upon_widen Try.underlying22 Try.underlying30 ?_; intro r n hr hw; go_simp) | (go_at_call 95; refine (absM_any _ _ (by assumption)).mono ?_; rintro e w' ⟨rfl, rfl⟩) | (refine upon_narrow Try.underlying30 Try.underlying22 (narrow_size Hx.out (by assumption) (by assumption)).2 ?_; intro r n hr hw; go_simp))
  go_ret
  refine retF_mk ?_ (by assumption)
  refine Eq.trans (by assumption) (narrow_size Hx.out (by assumption) (by assumption)).1
theorem sum_any (b off cap : Nat) (xs : List Nat) (w : World) (hc : FS w b off xs) (hx : WfAll xs) (hl : xs.length ≤ 1048576) : Calls Try.prog 57 #[.slice (some ⟨b, off, none⟩) xs.length cap] w (RetF .f32 w (sumF xs)) := by
  have Hc := Lib.hid hc
  have Hx := Lib.hid hx
  clear hc hx
  go_enter Try.func57, Try.ntmps57
  go_wp2_with fail
  go_loopw [3, 8] (fun s i wr => ∃ (k m r : Nat), k ≤ xs.length ∧ i = .int .i64 k ∧ s = .float .f32 r ∧ wr = w.drewN m ∧ can .f32 r = sumF (xs.take k) ∧ Wf .f32 r) (fun _ i _ => xs.length - (intOf i).toNat)
  case atStart => exact ⟨0, 0, 0, Nat.zero_le _, rfl, rfl, rfl, by rw [can_zero]; rfl, wf_zero _⟩
  case round =>
    obtain ⟨k, m, r, hk, rfl, rfl, rfl, hr, hw⟩ := hrel
    have Hr := Lib.hid hr
    clear hr
    by_cases hlt : k < xs.length
    · have hcell := Hc.out k hlt
      go_wp2_with (first | (refine upon_op rfl ?_; intro r n hr hw; go_simp) | (refine upon_widen Try.underlying22 Try.underlying30 ?_; intro r n hr hw; go_simp))
      go_roundw
      case rel => exact ⟨k + 1, _, _, by omega, by go_num, rfl, rfl, by rw [sum_succ hlt, ← Hr.out]; assumption, by assumption⟩
      case measure => simp [intOf]; omega
    · go_wp2_with (first | (refine upon_op rfl ?_; intro r n hr hw; go_simp) | (refine upon_widen Try.underlying22 Try.underlying30 ?_; intro r n hr hw; go_simp))
      go_ret
      have hk' : k = xs.length := by omega
      exact ⟨_, _, rfl, rfl, by have h := Hr.out; rwa [List.take_of_length_le (by omega)] at h, hw⟩
theorem isLight1_any (x : Nat) (w : World) (hx : Wf .f32 x) : Calls Try.prog 94 #[.float .f32 x] w (RetB w (!least (can .f32 x))) := by
  rw [← least_eq (wf_can hx)]
  go_enter Try.func94, Try.ntmps94
  go_wp2_with (first | (refine upon_op rfl ?_; intro r n hr hw; go_simp) | (refine upon_widen Try.underlying22 Try.underlying30 ?_; intro r n hr hw; go_simp) | (go_at_call 91; refine (isFinite_any _ _).mono ?_; rintro e w' ⟨n, rfl, rfl⟩))
  all_goals
    go_ret
    first | exact retB_mk (by simp_all) | exact retB_mk0 (by simp_all)
theorem isLight1_run (args : Array Value) (w : World) : (callFunc 94 args).run Try.prog w = .ok (.enter 94 args) w := by kernel_rfl
theorem isLight_any (b off cap : Nat) (xs : List Nat) (w : World) (hc : FS w b off xs) (hx : WfAll xs) (hl : xs.length ≤ 9223372036854775807) :
    Calls Try.prog 55 #[.slice (some ⟨b, off, none⟩) xs.length cap] w (RetB w (xs.all (fun x => least (can .f32 x)))) := by
  have H := Lib.hid (containsFunc_any 94 (fun x => !least x) isLight1_run (fun x w h => isLight1_any x w h) b off cap xs w hc hx hl)
  clear hc hx hl
  go_enter Try.func55, Try.ntmps55
  go_wp2_with (go_at_call 93; refine H.out.mono ?_; rintro e w' ⟨n, rfl, rfl⟩)
  go_ret
  exact retB_mk (not_any_not _ _)
theorem l02Least_any (x : Nat) (w : World) : Calls Try.prog 92 #[.float .f32 x] w (RetB w (least (can .f32 x))) := by
  unfold least
  go_enter Try.func92, Try.ntmps92
  go_wp2_with (first | (refine upon_op rfl ?_; intro r n hr hw; go_simp) | (refine upon_widen Try.underlying22 Try.underlying30 ?_; intro r n hr hw; go_simp) | (go_at_call 90; refine (l01Finite_any _ _).mono ?_; rintro e w' ⟨n, rfl, rfl⟩))
  all_goals
    go_ret
    first | exact retB_mk (by simp_all) | exact retB_mk0 (by simp_all)
theorem isKernelI_any (b off cap : Nat) (xs : List Nat) (w : World) (hc : FS w b off xs) (hx : WfAll xs) (hl : xs.length ≤ 1048576) :
    Calls Try.prog 19 #[.slice (some ⟨b, off, none⟩) xs.length cap] w (RetB w (kern xs)) := by
  have h1 := Lib.hid (isLight_any b off cap xs w hc hx (by omega))
  have h2 := Lib.hid (fun n => sum_any b off cap xs (w.drewN n) (hc.drewN n) hx hl)
  clear hc hx
  generalize hA : xs.all (fun x => least (can .f32 x)) = L at *
  generalize hS : sumF xs = S at *
  have HK : kern xs = (decide (xs.length % 2 = 1) && decide (xs.length ≤ 9) && L && le .f32 (absF (sub S (can .f32 1065353216))) (can .f32 981668463)) := by rw [← hA, ← hS]; rfl
  rw [HK]
  clear HK hA hS
  go_enter Try.func19, Try.ntmps19
  go_wp2_with (first | (refine upon_op rfl ?_; intro r n hr hw; go_simp) | (go_at_call 56; refine (abs_any _ _ (by assumption)).mono ?_; rintro e w' ⟨r, n, rfl, rfl, hr, hw⟩) | (go_at_call 55; refine h1.out.mono ?_; rintro e w' ⟨n, rfl, rfl⟩) | (go_at_call 57; refine (h2.out _).mono ?_; rintro e w' ⟨r, n, rfl, rfl, hr, hw⟩))
  all_goals
    go_ret
    first
      | (refine retB_mk ?_; (first | (simp_all; done) | (simp_all; omega)); done)
      | (refine retB_mk0 ?_; (first | (simp_all; done) | (simp_all; omega)); done)
theorem isKernelS_any (b off cap : Nat) (xs : List Nat) (w : World) (hc : FS w b off xs) (hx : WfAll xs) (hl : xs.length ≤ 1048576) :
    Calls Try.prog 54 #[.slice (some ⟨b, off, none⟩) xs.length cap] w (RetB w (kern xs)) := by
  have Hc := Lib.hid hc
  have Hx := Lib.hid hx
  clear hc hx
  by_cases hn : xs.length % 2 = 1 ∧ xs.length ≤ 9
  · have HK : kern xs = (xs.all (fun x => least (can .f32 x)) && le .f32 (absF (sub (sumF xs) (can .f32 1065353216))) (can .f32 981668463)) := by unfold kern; simp [hn.1, hn.2]
    rw [HK]
    have hm : (xs.length : Int).tmod 2 = 1 := by have := hn.1; rw [Int.tmod_eq_emod_of_nonneg (by omega)]; omega
    have hn9 : ¬ (9 : Int) < xs.length := by have := hn.2; omega
    clear HK hn
    go_enter Try.func54, Try.ntmps54
    go_wp2_with fail
    go_loopw [4, 17] (fun s i wr => ∃ (k m r : Nat), k ≤ xs.length ∧ i = .int .i64 k ∧ s = .float .f32 r ∧ wr = w.drewN m ∧ can .f32 r = sumF (xs.take k) ∧ Wf .f32 r ∧ (xs.take k).all (fun x => least (can .f32 x)) = true) (fun _ i _ => xs.length - (intOf i).toNat)
    case atStart => exact ⟨0, 0, 0, Nat.zero_le _, rfl, rfl, rfl, by rw [can_zero]; rfl, wf_zero _, by simp⟩
    case round =>
      obtain ⟨k, m, r, hk, rfl, rfl, rfl, hr, hw, ha⟩ := hrel
      have Hr := Lib.hid hr
      have Ha := Lib.hid ha
      clear hr ha
      by_cases hlt : k < xs.length
      · have hcell := Hc.out k hlt
        cases hlk : least (can .f32 xs[k])
        · have Hf := Lib.hid (all_false_of_take (p := fun x => least (can .f32 x)) hlt hlk)
          go_wp2_with (first | (refine upon_op rfl ?_; intro r n hr hw; go_simp) | (refine upon_widen Try.underlying22 Try.underlying30 ?_; intro r n hr hw; go_simp) | (go_at_call 92; refine (l02Least_any _ _).mono ?_; rintro e w' ⟨n, rfl, rfl⟩))
          go_ret
          exact retB_mk (by rw [Hf.out]; rfl)
        · have Hf := Lib.hid ((all_take_succ (p := fun x => least (can .f32 x)) hlt).trans (by rw [Ha.out, hlk]; first | done | rfl))
          go_wp2_with (first | (refine upon_op rfl ?_; intro r n hr hw; go_simp) | (refine upon_widen Try.underlying22 Try.underlying30 ?_; intro r n hr hw; go_simp) | (go_at_call 92; refine (l02Least_any _ _).mono ?_; rintro e w' ⟨n, rfl, rfl⟩))
          go_roundw
          case rel => exact ⟨k + 1, _, _, by omega, by go_num, rfl, rfl, by rw [sum_succ hlt, ← Hr.out]; assumption, by assumption, Hf.out⟩
          case measure => simp [intOf]; omega
      · have hk' : k = xs.length := by omega
        have Hs := Lib.hid (show sumF xs = can .f32 r by have h := Hr.out; rw [List.take_of_length_le (by omega)] at h; exact h.symm)
        have Hl := Lib.hid (show xs.all (fun x => least (can .f32 x)) = true by have h := Ha.out; rwa [List.take_of_length_le (by omega)] at h)
        go_wp2_with (first | (refine upon_op rfl ?_; intro r n hr hw; go_simp) | (refine upon_widen Try.underlying22 Try.underlying30 ?_; intro r n hr hw; go_simp))
        all_goals
          go_ret
          refine retB_mk ?_
          rw [Hl.out, Hs.out, abs_le (wf_op _ _ _ _) bad_milli.2.2.1 bad_milli.1 bad_milli.2.2.2 bad_milli.2.1 key_milli, can_op]
          simp_all
  · have HK : kern xs = false := by
      unfold kern
      by_cases h1 : xs.length % 2 = 1
      · have h2 : ¬ xs.length ≤ 9 := fun h => hn ⟨h1, h⟩
        simp [h1, h2]
      · simp [h1]
    rw [HK]
    clear HK
    go_enter Try.func54, Try.ntmps54
    go_wp2_with fail
    all_goals
      first
        | (go_ret; exact retB_mk0 rfl)
        | (exfalso; have h1 : ¬ ((xs.length : Int).tmod 2 = 0) := by assumption
           rw [Int.tmod_eq_emod_of_nonneg (by omega)] at h1; omega)
        | trace_state
end Go.Proofs.Ytokpnjliikhecaa
