/- BANDS: their powers. -/
import Derived.Test.YtommbbheanhkjaaW12
set_option linter.unusedSimpArgs false
set_option linter.unusedVariables false
set_option linter.unnecessarySimpa false
set_option maxRecDepth 20000
namespace Go.Proofs.Ytommbbheanhkjaa
open Go.RowKit Go.Fl

theorem l02List_any (g cap : Nat) (xs : List Nat) (w : World) (hc : FB w g xs) (hl : xs.length ≤ 1048576) :
    Calls Try.prog 62 #[.slice (some ⟨g, 0, none⟩) xs.length cap] w (fun e w' => ∃ n, w' = w.drewN n ∧ e = .returned (listOr (.slice (some ⟨g, 0, none⟩) xs.length cap) (allFin xs))) := by
  have H := Lib.hid (l02Finite_any g 0 cap xs w hc.fs hl)
  clear hc
  cases hB : allFin xs
  all_goals
    go_enter Try.func62, Try.ntmps62
    go_wp2_with (go_at_call 107; refine H.out.mono ?_; rintro e w' ⟨n, rfl, rfl⟩)
    go_ret2
    exact ⟨_, rfl, rfl⟩
theorem numbersOrFail_any (g cap : Nat) (xs : List Nat) (w : World) (hc : FB w g xs) (hx : WfAll xs) (hl : xs.length ≤ 1048576) :
    Calls Try.prog 68 #[.slice (some ⟨g, 0, none⟩) xs.length cap] w (fun e w' => ∃ n, w' = w.drewN n ∧ e = .returned (listOr (.slice (some ⟨g, 0, none⟩) xs.length cap) (allFin xs))) := by
  have H := Lib.hid (areFinite_any g 0 cap xs w hc.fs hx (by omega))
  have e : xs.all (fun x => isFin .f32 (can .f32 x)) = allFin xs := rfl
  rw [e] at H
  clear hc e
  cases hB : allFin xs
  all_goals
    go_enter Try.func68, Try.ntmps68
    go_wp2_with (go_at_call 105; refine H.out.mono ?_; rintro e w' ⟨n, rfl, rfl⟩)
    go_ret2
    exact ⟨_, rfl, rfl⟩
