/- THE NUMBERS: what each small function of the program and of the reference gives, up to the bits of a not-a-number. -/
import Derived.Test.YtcfdfabmcbjpgaaRows
import Derived.Test.YtcfdfabmcbjpgaaOrd
import Derived.Test.YtcfdfabmcbjpgaaLoose
import Derived.Lib.Hide
set_option linter.unusedSimpArgs false
set_option linter.unusedVariables false
namespace Go.Proofs.Ytcfdfabmcbjpgaa
open Go.RowKit Go.Fl

theorem isNaN_any (x : Nat) (w : World) : Calls Try.prog 46 #[.float .f32 x] w (RetB w (!eq .f32 (can .f32 x) (can .f32 x))) := by
  go_enter Try.func46, Try.ntmps46
  go_wp2_with fail
  go_ret
  exact retB_mk0 rfl

theorem isFinite_any (x : Nat) (w : World) : Calls Try.prog 44 #[.float .f32 x] w (RetB w (isFin .f32 (can .f32 x))) := by
  go_enter Try.func44, Try.ntmps44
  go_wp2_with (first | (refine upon_op rfl ?_; intro r n hr hw; go_simp) | (refine upon_widen Try.underlying22 Try.underlying40 ?_; intro r n hr hw; go_simp) | (go_at_call 46; refine (isNaN_any _ _).mono ?_; rintro e w' ⟨n, rfl, rfl⟩))
  go_ret
  exact retB_mk (eq_sub_self _ _)

theorem l01Finite_any (x : Nat) (w : World) : Calls Try.prog 48 #[.float .f32 x] w (RetB w (isFin .f32 (can .f32 x))) := by
  go_enter Try.func48, Try.ntmps48
  go_wp2_with (first | (refine upon_op rfl ?_; intro r n hr hw; go_simp) | (refine upon_widen Try.underlying22 Try.underlying40 ?_; intro r n hr hw; go_simp))
  go_ret
  exact retB_mk rfl

@[go_sem] theorem f64bits_run (x : Nat) (w : World) : (callFunc 52 #[.float .f64 x]).run Try.prog w = .ok (.value (.int .u64 x)) w := by kernel_rfl
@[go_sem] theorem f32bits_run (x : Nat) (w : World) : (callFunc 50 #[.float .f32 x]).run Try.prog w = .ok (.value (.int .u32 x)) w := by kernel_rfl
theorem signbit_any (x : Nat) (w : World) (hx : Wf .f64 x) : Calls Try.prog 51 #[.float .f64 x] w (fun e w' => e = .returned (.bool (sgn .f64 x)) ∧ w = w') := by
  go_enter Try.func51, Try.ntmps51
  go_wp2_with (first | (refine upon_op rfl ?_; intro r n hr hw; go_simp) | (refine upon_widen Try.underlying22 Try.underlying40 ?_; intro r n hr hw; go_simp))
  go_ret
  exact ⟨congrArg (fun b => Ending.returned (.bool b)) (wrap64_sgn hx), rfl⟩

theorem sign_any (x : Nat) (w : World) (hx : Wf .f32 x) (hn : bad .f32 x = false) : Calls Try.prog 47 #[.float .f32 x] w (RetB w (sgn .f32 x)) := by
  go_enter Try.func47, Try.ntmps47
  go_wp2_with (first | (refine upon_widen Try.underlying22 Try.underlying40 ?_; intro r n hr hw; go_simp) | (go_at_call 51; refine (signbit_any _ _ (by assumption)).mono ?_; rintro e w' ⟨rfl, rfl⟩))
  go_ret
  refine retB_mk ?_
  have h1 : bad .f64 r = false := by rw [← bad_can, hr, widen_can, bad_widen hx, hn]
  have h2 : can .f64 r = r := can_of_not h1
  rw [← h2, hr, widen_can, sgn_widen hx hn]

theorem sameNumber_any (x y : Nat) (w : World) (hx : Wf .f32 x) (hy : Wf .f32 y) : Calls Try.prog 28 #[.float .f32 x, .float .f32 y] w (RetB w (can .f32 x == can .f32 y)) := by
  rw [← same_iff .f32 hx hy]
  have e1 := eq_refl_bad (wf_can hx)
  have e2 := eq_refl_bad (wf_can hy)
  rw [bad_can] at e1 e2
  cases n1 : bad .f32 x <;> cases n2 : bad .f32 y <;> rw [n1] at e1 <;> rw [n2] at e2
  · cases n3 : eq .f32 (can .f32 x) (can .f32 y)
    · go_enter Try.func28, Try.ntmps28
      go_wp2_with (first | (refine upon_op rfl ?_; intro r n hr hw; go_simp) | (refine upon_widen Try.underlying22 Try.underlying40 ?_; intro r n hr hw; go_simp) | (go_at_call 46; refine (isNaN_any _ _).mono ?_; rintro e w' ⟨n, rfl, rfl⟩))
      go_ret
      exact retB_mk rfl
    · have H1 := Lib.hid n1
      have H2 := Lib.hid n2
      clear n1 n2
      go_enter Try.func28, Try.ntmps28
      go_wp2_with (first | (go_at_call 46; refine (isNaN_any _ _).mono ?_; rintro e w' ⟨n, rfl, rfl⟩) | (go_at_call 47; (first | (with_reducible refine (sign_any x _ hx H1.out).mono ?_) | (with_reducible refine (sign_any y _ hy H2.out).mono ?_)); rintro e w' ⟨n, rfl, rfl⟩))
      go_ret
      exact retB_mk rfl
  all_goals
    have n3 : eq .f32 (can .f32 x) (can .f32 y) = false := by first | exact eq_bad_left (by rw [bad_can]; assumption) | exact eq_bad_right (by rw [bad_can]; assumption)
    go_enter Try.func28, Try.ntmps28
    go_wp2_with (first | (refine upon_op rfl ?_; intro r n hr hw; go_simp) | (refine upon_widen Try.underlying22 Try.underlying40 ?_; intro r n hr hw; go_simp) | (go_at_call 46; refine (isNaN_any _ _).mono ?_; rintro e w' ⟨n, rfl, rfl⟩))
    go_ret
    exact retB_mk (by rw [n3]; rfl)

theorem l01Bits_any (x : Nat) (w : World) (hx : Wf .f32 x) : Calls Try.prog 45 #[.float .f32 x] w (fun e w' => e = .returned (.int .i64 (can .f32 x)) ∧ w = w') := by
  have e1 := eq_refl_bad (wf_can hx)
  rw [bad_can] at e1
  have hl : x < 4294967296 := by simpa [Wf, Lit.wf] using hx
  cases n1 : bad .f32 x <;> rw [n1] at e1
  · have h2 := Lib.hid (can_of_not n1)
    clear n1
    go_enter Try.func45, Try.ntmps45
    go_wp2_with (first | (refine upon_op rfl ?_; intro r n hr hw; go_simp) | (refine upon_widen Try.underlying22 Try.underlying40 ?_; intro r n hr hw; go_simp))
    go_ret
    exact ⟨by rw [h2.out]; rfl, rfl⟩
  · have h2 := Lib.hid (can_of_nan n1)
    clear n1
    go_enter Try.func45, Try.ntmps45
    go_wp2_with (first | (refine upon_op rfl ?_; intro r n hr hw; go_simp) | (refine upon_widen Try.underlying22 Try.underlying40 ?_; intro r n hr hw; go_simp))
    go_ret
    exact ⟨by rw [h2.out]; rfl, rfl⟩

theorem l01Same_any (x y : Nat) (w : World) (hx : Wf .f32 x) (hy : Wf .f32 y) : Calls Try.prog 27 #[.float .f32 x, .float .f32 y] w (fun e w' => e = .returned (.bool (can .f32 x == can .f32 y)) ∧ w = w') := by
  go_enter Try.func27, Try.ntmps27
  go_wp2_with (go_at_call 45; (first | (with_reducible refine (l01Bits_any x _ hx).mono ?_) | (with_reducible refine (l01Bits_any y _ hy).mono ?_)); rintro e w' ⟨rfl, rfl⟩)
  go_ret
  exact ⟨by rw [← cast_beq]; rfl, rfl⟩

-- THE LIBRARY's IndexFunc OVER NUMBERS: 'p' is what the function given tells of a number
theorem indexFunc_any (f : FuncId) (p : Nat → Bool) (hrun : ∀ (args : Array Value) (w : World), (callFunc f args).run Try.prog w = .ok (.enter f args) w)
    (hf : ∀ x w, Wf .f32 x → Calls Try.prog f #[.float .f32 x] w (RetB w (p (can .f32 x)))) (b off cap : Nat) (xs : List Nat) (w : World) (hc : FS w b off xs) (hx : WfAll xs) (hl : xs.length ≤ 9223372036854775807) :
    Calls Try.prog 49 #[.slice (some ⟨b, off, none⟩) xs.length cap, .func (.func f) #[] #[]] w (fun e w' => ∃ (i : Int) (n : Nat), e = .returned (.int .i64 i) ∧ w' = w.drewN n ∧ decide (0 ≤ i) = xs.any (fun x => p (can .f32 x))) := by
  have Hf := Lib.hid hf
  have Hc := Lib.hid hc
  have Hx := Lib.hid hx
  clear hf hc hx
  go_enter Try.func49, Try.ntmps49
  go_wp2_with fail
  go_loopw [8] (fun i wr => ∃ k m : Nat, k ≤ xs.length ∧ i = .int .i64 k ∧ wr = w.drewN m ∧ (xs.take k).any (fun x => p (can .f32 x)) = false) (fun i _ => xs.length - (intOf i).toNat)
  case atStart => exact ⟨0, 0, Nat.zero_le _, rfl, rfl, by simp⟩
  case round =>
    obtain ⟨k, m, hk, rfl, rfl, hno⟩ := hrel
    have Hno := Lib.hid hno
    clear hno
    by_cases hlt : k < xs.length
    · have hcell := Hc.out k hlt
      have hwf := Hx.out.at_ hlt
      go_wp2_with (first | ((with_reducible refine (Hf.out _ _ hwf).mono ?_); rintro e w' ⟨n, rfl, rfl⟩))
      · go_ret
        exact ⟨_, _, rfl, rfl, by rw [any_of_take (p := fun x => p (can .f32 x)) hlt (by assumption)]; simp⟩
      · go_roundw
        case rel => exact ⟨k + 1, _, by omega, by go_num, rfl, by rw [take_any_succ (p := fun x => p (can .f32 x)) hlt, Hno.out, Bool.false_or]; simp_all⟩
        case measure => simp [intOf]; omega
    · go_wp2
      go_ret
      have hk' : k = xs.length := by omega
      exact ⟨_, _, rfl, rfl, by have h := Hno.out; rw [List.take_of_length_le (by omega)] at h; rw [h]; decide⟩

theorem containsFunc_any (f : FuncId) (p : Nat → Bool) (hrun : ∀ (args : Array Value) (w : World), (callFunc f args).run Try.prog w = .ok (.enter f args) w)
    (hf : ∀ x w, Wf .f32 x → Calls Try.prog f #[.float .f32 x] w (RetB w (p (can .f32 x)))) (b off cap : Nat) (xs : List Nat) (w : World) (hc : FS w b off xs) (hx : WfAll xs) (hl : xs.length ≤ 9223372036854775807) :
    Calls Try.prog 42 #[.slice (some ⟨b, off, none⟩) xs.length cap, .func (.func f) #[] #[]] w (RetB w (xs.any (fun x => p (can .f32 x)))) := by
  have H := Lib.hid (indexFunc_any f p hrun hf b off cap xs w hc hx hl)
  clear hf hc hx hrun hl
  go_enter Try.func42, Try.ntmps42
  go_wp2_with (go_at_call 49; refine H.out.mono ?_; rintro e w' ⟨i, n, rfl, rfl, hi⟩)
  go_ret
  exact retB_mk rfl
end Go.Proofs.Ytcfdfabmcbjpgaa
