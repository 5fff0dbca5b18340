/- THE NUMBERS: what each small function of the program and of the reference gives, up to the bits of a not-a-number. -/
import Derived.Test.YtommbbheanhkjaaRows
import Derived.Test.YtommbbheanhkjaaOrd
import Derived.Test.YtommbbheanhkjaaLoose
import Derived.Lib.Hide
set_option linter.unusedSimpArgs false
set_option linter.unusedVariables false
set_option linter.unnecessarySimpa false
set_option maxRecDepth 20000
namespace Go.Proofs.Ytommbbheanhkjaa
open Go.RowKit Go.Fl

theorem isNaN_any (x : Nat) (w : World) : Calls Try.prog 106 #[.float .f32 x] w (RetB w (!eq .f32 (can .f32 x) (can .f32 x))) := by
  go_enter Try.func106, Try.ntmps106
  go_wp2_with fail
  go_ret
  exact retB_mk0 rfl

theorem isFinite_any (x : Nat) (w : World) : Calls Try.prog 55 #[.float .f32 x] w (RetB w (isFin .f32 (can .f32 x))) := by
  go_enter Try.func55, Try.ntmps55
  go_wp2_with (first | (refine upon_op rfl ?_; intro r n hr hw; go_simp) | (refine upon_widen Try.underlying22 Try.underlying46 ?_; intro r n hr hw; go_simp) | (go_at_call 106; refine (isNaN_any _ _).mono ?_; rintro e w' ⟨n, rfl, rfl⟩))
  go_ret
  exact retB_mk (eq_sub_self _ _)

theorem l01Finite_any (x : Nat) (w : World) : Calls Try.prog 49 #[.float .f32 x] w (RetB w (isFin .f32 (can .f32 x))) := by
  go_enter Try.func49, Try.ntmps49
  go_wp2_with (first | (refine upon_op rfl ?_; intro r n hr hw; go_simp) | (refine upon_widen Try.underlying22 Try.underlying46 ?_; intro r n hr hw; go_simp))
  go_ret
  exact retB_mk rfl

@[go_sem] theorem f64bits_run (x : Nat) (w : World) : (callFunc 134 #[.float .f64 x]).run Try.prog w = .ok (.value (.int .u64 x)) w := by kernel_rfl
-- THE LIBRARY's IndexFunc OVER NUMBERS: 'p' is what the function given tells of a number
theorem indexFunc_any (f : FuncId) (p : Nat → Bool) (hrun : ∀ (args : Array Value) (w : World), (callFunc f args).run Try.prog w = .ok (.enter f args) w)
    (hf : ∀ x w, Wf .f32 x → Calls Try.prog f #[.float .f32 x] w (RetB w (p (can .f32 x)))) (b off cap : Nat) (xs : List Nat) (w : World) (hc : FS w b off xs) (hx : WfAll xs) (hl : xs.length ≤ 9223372036854775807) :
    Calls Try.prog 133 #[.slice (some ⟨b, off, none⟩) xs.length cap, .func (.func f) #[] #[]] w (fun e w' => ∃ (i : Int) (n : Nat), e = .returned (.int .i64 i) ∧ w' = w.drewN n ∧ decide (0 ≤ i) = xs.any (fun x => p (can .f32 x))) := by
  have Hf := Lib.hid hf
  have Hc := Lib.hid hc
  have Hx := Lib.hid hx
  clear hf hc hx
  go_enter Try.func133, Try.ntmps133
  go_wp2_with fail
  go_loopw [8] (fun i wr => ∃ k m : Nat, k ≤ xs.length ∧ i = .int .i64 k ∧ wr = w.drewN m ∧ (xs.take k).any (fun x => p (can .f32 x)) = false) (fun i _ => xs.length - (intOf i).toNat)
  case atStart => exact ⟨0, 0, Nat.zero_le _, rfl, rfl, by simp⟩
  case round =>
    obtain ⟨k, m, hk, rfl, rfl, hno⟩ := hrel
    have Hno := Lib.hid hno
    clear hno
    by_cases hlt : k < xs.length
    · have hcell := Hc.out k hlt
      have hwf := Hx.out.at_ hlt
      go_wp2_with (first | ((with_reducible refine (Hf.out _ _ hwf).mono ?_); rintro e w' ⟨n, rfl, rfl⟩))
      · go_ret
        exact ⟨_, _, rfl, rfl, by rw [any_of_take (p := fun x => p (can .f32 x)) hlt (by assumption)]; simp⟩
      · go_roundw
        case rel => exact ⟨k + 1, _, by omega, by go_num, rfl, by rw [take_any_succ (p := fun x => p (can .f32 x)) hlt, Hno.out, Bool.false_or]; simp_all⟩
        case measure => simp [intOf]; omega
    · go_wp2
      go_ret
      have hk' : k = xs.length := by omega
      exact ⟨_, _, rfl, rfl, by have h := Hno.out; rw [List.take_of_length_le (by omega)] at h; rw [h]; decide⟩

theorem containsFunc_any (f : FuncId) (p : Nat → Bool) (hrun : ∀ (args : Array Value) (w : World), (callFunc f args).run Try.prog w = .ok (.enter f args) w)
    (hf : ∀ x w, Wf .f32 x → Calls Try.prog f #[.float .f32 x] w (RetB w (p (can .f32 x)))) (b off cap : Nat) (xs : List Nat) (w : World) (hc : FS w b off xs) (hx : WfAll xs) (hl : xs.length ≤ 9223372036854775807) :
    Calls Try.prog 124 #[.slice (some ⟨b, off, none⟩) xs.length cap, .func (.func f) #[] #[]] w (RetB w (xs.any (fun x => p (can .f32 x)))) := by
  have H := Lib.hid (indexFunc_any f p hrun hf b off cap xs w hc hx hl)
  clear hf hc hx hrun hl
  go_enter Try.func124, Try.ntmps124
  go_wp2_with (go_at_call 133; refine H.out.mono ?_; rintro e w' ⟨i, n, rfl, rfl, hi⟩)
  go_ret
  exact retB_mk rfl
end Go.Proofs.Ytommbbheanhkjaa
