/- BANDS AND MATRICES: their parts. -/
import Derived.Test.YtommbbheanhkjaaW11
import Derived.Test.YtommbbheanhkjaaPure6
import Derived.Test.YtommbbheanhkjaaSeg
set_option linter.unusedSimpArgs false
set_option linter.unusedVariables false
set_option linter.unnecessarySimpa false
set_option maxRecDepth 20000
namespace Go.Proofs.Ytommbbheanhkjaa
open Go.RowKit Go.Fl

theorem l02Finite_any (b off cap : Nat) (xs : List Nat) (w : World) (hc : FS w b off xs) (hl : xs.length ≤ 1048576) :
    Calls Try.prog 107 #[.slice (some ⟨b, off, none⟩) xs.length cap] w (RetB w (allFin xs)) := by
  unfold allFin
  have Hc := Lib.hid hc
  clear hc
  go_enter Try.func107, Try.ntmps107
  go_wp2_with fail
  go_loopw [3] (fun i wr => ∃ (k m : Nat), k ≤ xs.length ∧ i = .int .i64 k ∧ wr = w.drewN m ∧ (xs.take k).all (fun x => isFin .f32 (can .f32 x)) = true) (fun i _ => xs.length - (intOf i).toNat)
  case atStart => exact ⟨0, 0, Nat.zero_le _, rfl, rfl, by simp⟩
  case round =>
    obtain ⟨k, m, hk, rfl, rfl, ha⟩ := hrel
    have Ha := Lib.hid ha
    clear ha
    by_cases hlt : k < xs.length
    · have hcell := Hc.out k hlt
      cases hlk : isFin .f32 (can .f32 xs[k])
      · have Hf := Lib.hid (all_false_of_take (p := fun x => isFin .f32 (can .f32 x)) hlt hlk)
        go_wp2_with (first | (refine upon_op rfl ?_; intro r n hr hw; go_simp) | (refine upon_widen Try.underlying22 Try.underlying46 ?_; intro r n hr hw; go_simp) | (go_at_call 49; refine (l01Finite_any _ _).mono ?_; rintro e w' ⟨n, rfl, rfl⟩))
        go_ret
        exact retB_mk (by rw [Hf.out])
      · have Hf := Lib.hid ((all_take_succ (p := fun x => isFin .f32 (can .f32 x)) hlt).trans (by rw [Ha.out, hlk]; first | done | rfl))
        go_wp2_with (first | (refine upon_op rfl ?_; intro r n hr hw; go_simp) | (refine upon_widen Try.underlying22 Try.underlying46 ?_; intro r n hr hw; go_simp) | (go_at_call 49; refine (l01Finite_any _ _).mono ?_; rintro e w' ⟨n, rfl, rfl⟩))
        go_roundw
        case rel => exact ⟨k + 1, _, by omega, by go_num, rfl, Hf.out⟩
        case measure => simp [intOf]; omega
    · have Hl := Lib.hid (show xs.all (fun x => isFin .f32 (can .f32 x)) = true by have h := Ha.out; rwa [List.take_of_length_le (by omega)] at h)
      go_wp2_with (first | (refine upon_op rfl ?_; intro r n hr hw; go_simp) | (refine upon_widen Try.underlying22 Try.underlying46 ?_; intro r n hr hw; go_simp))
      go_ret
      exact retB_mk (by rw [Hl.out])
theorem l06Bands_any (b off cap : Nat) (xs : List Nat) (w : World) (hc : FS w b off xs) (hl : xs.length ≤ 1048576) :
    Calls Try.prog 60 #[.slice (some ⟨b, off, none⟩) xs.length cap] w (RetB w (decide (xs.length = 9) && allFin xs)) := by
  have H := Lib.hid (l02Finite_any b off cap xs w hc hl)
  clear hc
  go_enter Try.func60, Try.ntmps60
  go_wp2_with (go_at_call 107; refine H.out.mono ?_; rintro e w' ⟨n, rfl, rfl⟩)
  all_goals
    go_ret
    first
      | (refine retB_mk ?_; (first | (simp_all; done) | (simp_all; omega)); done)
      | (refine retB_mk0 ?_; (first | (simp_all; done) | (simp_all; omega)); done)
theorem areBands_any (b off cap : Nat) (xs : List Nat) (w : World) (hc : FS w b off xs) (hx : WfAll xs) (hl : xs.length ≤ 1048576) :
    Calls Try.prog 63 #[.slice (some ⟨b, off, none⟩) xs.length cap] w (RetB w (decide (xs.length = 9) && allFin xs)) := by
  have H := Lib.hid (areFinite_any b off cap xs w hc hx (by omega))
  have e : xs.all (fun x => isFin .f32 (can .f32 x)) = allFin xs := rfl
  rw [e] at H
  clear hc hx e
  go_enter Try.func63, Try.ntmps63
  go_wp2_with (go_at_call 105; refine H.out.mono ?_; rintro e w' ⟨n, rfl, rfl⟩)
  all_goals
    go_ret
    first
      | (refine retB_mk ?_; (first | (simp_all; done) | (simp_all; omega)); done)
      | (refine retB_mk0 ?_; (first | (simp_all; done) | (simp_all; omega)); done)
theorem square_any (x : Nat) (w : World) : Calls Try.prog 99 #[.float .f32 x] w (RetF .f32 w (mul (can .f32 x) (can .f32 x))) := by
  go_enter Try.func99, Try.ntmps99
  go_wp2_with (first | (refine upon_op rfl ?_; intro r n hr hw; go_simp) | (refine upon_widen Try.underlying22 Try.underlying46 ?_; intro r n hr hw; go_simp))
  go_ret
  exact retF_mk (by assumption) (by assumption)
