/- THE NUMBERS: what each small function of the program and of the reference gives, up to the bits of a not-a-number. -/
import Derived.Test.YtokpnjliikhecaaRows
import Derived.Test.YtokpnjliikhecaaOrd
import Derived.Test.YtokpnjliikhecaaLoose
import Derived.Lib.Hide
set_option linter.unusedSimpArgs false
set_option linter.unusedVariables false
set_option linter.unnecessarySimpa false
set_option maxRecDepth 20000
namespace Go.Proofs.Ytokpnjliikhecaa
open Go.RowKit Go.Fl

theorem isNaN_any (x : Nat) (w : World) : Calls Try.prog 103 #[.float .f32 x] w (RetB w (!eq .f32 (can .f32 x) (can .f32 x))) := by
  go_enter Try.func103, Try.ntmps103
  go_wp2_with fail
  go_ret
  exact retB_mk0 rfl

theorem isFinite_any (x : Nat) (w : World) : Calls Try.prog 91 #[.float .f32 x] w (RetB w (isFin .f32 (can .f32 x))) := by
  go_enter Try.func91, Try.ntmps91
  go_wp2_with (first | (refine upon_op rfl ?_; intro r n hr hw; go_simp) | (refine upon_widen Try.underlying22 Try.underlying30 ?_; intro r n hr hw; go_simp) | (go_at_call 103; refine (isNaN_any _ _).mono ?_; rintro e w' ⟨n, rfl, rfl⟩))
  go_ret
  exact retB_mk (eq_sub_self _ _)

theorem l01Finite_any (x : Nat) (w : World) : Calls Try.prog 90 #[.float .f32 x] w (RetB w (isFin .f32 (can .f32 x))) := by
  go_enter Try.func90, Try.ntmps90
  go_wp2_with (first | (refine upon_op rfl ?_; intro r n hr hw; go_simp) | (refine upon_widen Try.underlying22 Try.underlying30 ?_; intro r n hr hw; go_simp))
  go_ret
  exact retB_mk rfl

@[go_sem] theorem f64bits_run (x : Nat) (w : World) : (callFunc 111 #[.float .f64 x]).run Try.prog w = .ok (.value (.int .u64 x)) w := by kernel_rfl
theorem signbit_any (x : Nat) (w : World) (hx : Wf .f64 x) : Calls Try.prog 115 #[.float .f64 x] w (fun e w' => e = .returned (.bool (sgn .f64 x)) ∧ w = w') := by
  go_enter Try.func115, Try.ntmps115
  go_wp2_with (first | (refine upon_op rfl ?_; intro r n hr hw; go_simp) | (refine upon_widen Try.underlying22 Try.underlying30 ?_; intro r n hr hw; go_simp))
  go_ret
  exact ⟨congrArg (fun b => Ending.returned (.bool b)) (wrap64_sgn hx), rfl⟩

theorem sign_any (x : Nat) (w : World) (hx : Wf .f32 x) (hn : bad .f32 x = false) : Calls Try.prog 108 #[.float .f32 x] w (RetB w (sgn .f32 x)) := by
  go_enter Try.func108, Try.ntmps108
  go_wp2_with (first | (refine upon_widen Try.underlying22 Try.underlying30 ?_; intro r n hr hw; go_simp) | (go_at_call 115; refine (signbit_any _ _ (by assumption)).mono ?_; rintro e w' ⟨rfl, rfl⟩))
  go_ret
  refine retB_mk ?_
  have h1 : bad .f64 r = false := by rw [← bad_can, hr, widen_can, bad_widen hx, hn]
  have h2 : can .f64 r = r := can_of_not h1
  rw [← h2, hr, widen_can, sgn_widen hx hn]

theorem sameNumber_any (x y : Nat) (w : World) (hx : Wf .f32 x) (hy : Wf .f32 y) : Calls Try.prog 88 #[.float .f32 x, .float .f32 y] w (RetB w (can .f32 x == can .f32 y)) := by
  rw [← same_iff .f32 hx hy]
  have e1 := eq_refl_bad (wf_can hx)
  have e2 := eq_refl_bad (wf_can hy)
  rw [bad_can] at e1 e2
  cases n1 : bad .f32 x <;> cases n2 : bad .f32 y <;> rw [n1] at e1 <;> rw [n2] at e2
  · cases n3 : eq .f32 (can .f32 x) (can .f32 y)
    · go_enter Try.func88, Try.ntmps88
      go_wp2_with (first | (refine upon_op rfl ?_; intro r n hr hw; go_simp) | (refine upon_widen Try.underlying22 Try.underlying30 ?_; intro r n hr hw; go_simp) | (go_at_call 103; refine (isNaN_any _ _).mono ?_; rintro e w' ⟨n, rfl, rfl⟩))
      go_ret
      exact retB_mk rfl
    · have H1 := Lib.hid n1
      have H2 := Lib.hid n2
      clear n1 n2
      go_enter Try.func88, Try.ntmps88
      go_wp2_with (first | (go_at_call 103; refine (isNaN_any _ _).mono ?_; rintro e w' ⟨n, rfl, rfl⟩) | (go_at_call 108; (first | (with_reducible refine (sign_any x _ hx H1.out).mono ?_) | (with_reducible refine (sign_any y _ hy H2.out).mono ?_)); rintro e w' ⟨n, rfl, rfl⟩))
      go_ret
      exact retB_mk rfl
  all_goals
    have n3 : eq .f32 (can .f32 x) (can .f32 y) = false := by first | exact eq_bad_left (by rw [bad_can]; assumption) | exact eq_bad_right (by rw [bad_can]; assumption)
    go_enter Try.func88, Try.ntmps88
    go_wp2_with (first | (refine upon_op rfl ?_; intro r n hr hw; go_simp) | (refine upon_widen Try.underlying22 Try.underlying30 ?_; intro r n hr hw; go_simp) | (go_at_call 103; refine (isNaN_any _ _).mono ?_; rintro e w' ⟨n, rfl, rfl⟩))
    go_ret
    exact retB_mk (by rw [n3]; rfl)

-- THE LIBRARY's IndexFunc OVER NUMBERS: 'p' is what the function given tells of a number
theorem indexFunc_any (f : FuncId) (p : Nat → Bool) (hrun : ∀ (args : Array Value) (w : World), (callFunc f args).run Try.prog w = .ok (.enter f args) w)
    (hf : ∀ x w, Wf .f32 x → Calls Try.prog f #[.float .f32 x] w (RetB w (p (can .f32 x)))) (b off cap : Nat) (xs : List Nat) (w : World) (hc : FS w b off xs) (hx : WfAll xs) (hl : xs.length ≤ 9223372036854775807) :
    Calls Try.prog 109 #[.slice (some ⟨b, off, none⟩) xs.length cap, .func (.func f) #[] #[]] w (fun e w' => ∃ (i : Int) (n : Nat), e = .returned (.int .i64 i) ∧ w' = w.drewN n ∧ decide (0 ≤ i) = xs.any (fun x => p (can .f32 x))) := by
  have Hf := Lib.hid hf
  have Hc := Lib.hid hc
  have Hx := Lib.hid hx
  clear hf hc hx
  go_enter Try.func109, Try.ntmps109
  go_wp2_with fail
  go_loopw [8] (fun i wr => ∃ k m : Nat, k ≤ xs.length ∧ i = .int .i64 k ∧ wr = w.drewN m ∧ (xs.take k).any (fun x => p (can .f32 x)) = false) (fun i _ => xs.length - (intOf i).toNat)
  case atStart => exact ⟨0, 0, Nat.zero_le _, rfl, rfl, by simp⟩
  case round =>
    obtain ⟨k, m, hk, rfl, rfl, hno⟩ := hrel
    have Hno := Lib.hid hno
    clear hno
    by_cases hlt : k < xs.length
    · have hcell := Hc.out k hlt
      have hwf := Hx.out.at_ hlt
      go_wp2_with (first | ((with_reducible refine (Hf.out _ _ hwf).mono ?_); rintro e w' ⟨n, rfl, rfl⟩))
      · go_ret
        exact ⟨_, _, rfl, rfl, by rw [any_of_take (p := fun x => p (can .f32 x)) hlt (by assumption)]; simp⟩
      · go_roundw
        case rel => exact ⟨k + 1, _, by omega, by go_num, rfl, by rw [take_any_succ (p := fun x => p (can .f32 x)) hlt, Hno.out, Bool.false_or]; simp_all⟩
        case measure => simp [intOf]; omega
    · go_wp2
      go_ret
      have hk' : k = xs.length := by omega
      exact ⟨_, _, rfl, rfl, by have h := Hno.out; rw [List.take_of_length_le (by omega)] at h; rw [h]; decide⟩

theorem containsFunc_any (f : FuncId) (p : Nat → Bool) (hrun : ∀ (args : Array Value) (w : World), (callFunc f args).run Try.prog w = .ok (.enter f args) w)
    (hf : ∀ x w, Wf .f32 x → Calls Try.prog f #[.float .f32 x] w (RetB w (p (can .f32 x)))) (b off cap : Nat) (xs : List Nat) (w : World) (hc : FS w b off xs) (hx : WfAll xs) (hl : xs.length ≤ 9223372036854775807) :
    Calls Try.prog 93 #[.slice (some ⟨b, off, none⟩) xs.length cap, .func (.func f) #[] #[]] w (RetB w (xs.any (fun x => p (can .f32 x)))) := by
  have H := Lib.hid (indexFunc_any f p hrun hf b off cap xs w hc hx hl)
  clear hf hc hx hrun hl
  go_enter Try.func93, Try.ntmps93
  go_wp2_with (go_at_call 109; refine H.out.mono ?_; rintro e w' ⟨i, n, rfl, rfl, hi⟩)
  go_ret
  exact retB_mk rfl
end Go.Proofs.Ytokpnjliikhecaa
