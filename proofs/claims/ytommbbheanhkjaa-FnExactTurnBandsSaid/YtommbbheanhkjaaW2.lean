/- WAYS AND COLORS. -/
import Derived.Test.YtommbbheanhkjaaW1
import Derived.Test.YtommbbheanhkjaaPure
set_option linter.unusedSimpArgs false
set_option linter.unusedVariables false
set_option linter.unnecessarySimpa false
set_option maxRecDepth 20000
namespace Go.Proofs.Ytommbbheanhkjaa
open Go.RowKit Go.Fl

theorem areFinite1_any (x : Nat) (w : World) (_hx : Wf .f32 x) : Calls Try.prog 125 #[.float .f32 x] w (RetB w (!isFin .f32 (can .f32 x))) := by
  go_enter Try.func125, Try.ntmps125
  go_wp2_with (first | (refine upon_op rfl ?_; intro r n hr hw; go_simp) | (refine upon_widen Try.underlying22 Try.underlying46 ?_; intro r n hr hw; go_simp) | (go_at_call 55; refine (isFinite_any _ _).mono ?_; rintro e w' ⟨n, rfl, rfl⟩))
  go_ret
  exact retB_mk rfl
theorem areFinite1_run (args : Array Value) (w : World) : (callFunc 125 args).run Try.prog w = .ok (.enter 125 args) w := by kernel_rfl

theorem areFinite_any (b off cap : Nat) (xs : List Nat) (w : World) (hc : FS w b off xs) (hx : WfAll xs) (hl : xs.length ≤ 9223372036854775807) :
    Calls Try.prog 105 #[.slice (some ⟨b, off, none⟩) xs.length cap] w (RetB w (xs.all (fun x => isFin .f32 (can .f32 x)))) := by
  have H := Lib.hid (containsFunc_any 125 (fun x => !isFin .f32 x) areFinite1_run (fun x w h => areFinite1_any x w h) b off cap xs w hc hx hl)
  clear hc hx hl
  go_enter Try.func105, Try.ntmps105
  go_wp2_with (go_at_call 124; refine H.out.mono ?_; rintro e w' ⟨n, rfl, rfl⟩)
  go_ret
  exact retB_mk (not_any_not _ _)

theorem l06Finite_any (x y z : Nat) (w : World) : Calls Try.prog 102 #[.agg #[.float .f32 x, .float .f32 y, .float .f32 z]] w (GivesB w (fin3 (can .f32 x) (can .f32 y) (can .f32 z))) := by
  unfold fin3
  cases h1 : isFin .f32 (can .f32 x) <;> cases h2 : isFin .f32 (can .f32 y) <;> cases h3 : isFin .f32 (can .f32 z)
  all_goals
    go_enter Try.func102, Try.ntmps102
    go_wp2_with (first | (refine upon_op rfl ?_; intro r n hr hw; go_simp) | (refine upon_widen Try.underlying22 Try.underlying46 ?_; intro r n hr hw; go_simp) | (go_at_call 49; refine (l01Finite_any _ _).mono ?_; rintro e w' ⟨n, rfl, rfl⟩))
    go_ret
    exact ⟨rfl, (by repeat (with_reducible first | exact Below.refl _ _ | refine below_drewN ?_ _ | refine Below.drew ?_ | refine below_alloc ?_ _ | refine below_set0 ?_ _ _ | refine below_set1 ?_ _ _ | refine below_set2 ?_ _ _ | refine below_set3 ?_ _ _ | refine below_call (by assumption) ?_ | refine below_step (by assumption) (by assumption) ?_))⟩
theorem l06Is_any (x y z : Nat) (w : World) : Calls Try.prog 48 #[.agg #[.float .f32 x, .float .f32 y, .float .f32 z]] w (GivesB w (isWay (can .f32 x) (can .f32 y) (can .f32 z))) := by
  unfold isWay
  cases h1 : fin3 (can .f32 x) (can .f32 y) (can .f32 z) <;> cases h2 : eq .f32 (can .f32 x) 0 <;> cases h3 : eq .f32 (can .f32 y) 0 <;> cases h4 : eq .f32 (can .f32 z) 0
  all_goals
    go_enter Try.func48, Try.ntmps48
    go_wp2_with (first | (go_at_call 102; refine (l06Finite_any _ _ _ _).mono ?_; rintro e w' ⟨rfl, hb⟩; obtain ⟨hc, hf⟩ := below_cells hb; have hz := hb.size; (try simp at hz); (try have hz3 := Nat.lt_of_succ_le hz); (try have hz0 : w.heap.size < w'.heap.size := by omega); (try have hz1 : w.heap.size + 1 < w'.heap.size := by omega); (try have hz2 : w.heap.size + 1 + 1 < w'.heap.size := by omega)))
    go_ret
    exact ⟨rfl, (by repeat (with_reducible first | exact Below.refl _ _ | refine below_drewN ?_ _ | refine Below.drew ?_ | refine below_alloc ?_ _ | refine below_set0 ?_ _ _ | refine below_set1 ?_ _ _ | refine below_set2 ?_ _ _ | refine below_set3 ?_ _ _ | refine below_call (by assumption) ?_ | refine below_step (by assumption) (by assumption) ?_))⟩
theorem isWayI_any (x y z : Nat) (w : World) (hx : Wf .f32 x) (hy : Wf .f32 y) (hz : Wf .f32 z) : Calls Try.prog 54 #[.agg #[.float .f32 x, .float .f32 y, .float .f32 z]] w (GivesB w (isWay (can .f32 x) (can .f32 y) (can .f32 z))) := by
  unfold isWay fin3
  have ha := fun w c => areFinite_any (xs := [x, y, z]) (w := w) (cap := c) (off := 0) (hx := .three hx hy hz) (hl := by simp)
  rw [all3] at ha
  have Ha := Lib.hid ha
  clear ha hx hy hz
  generalize hB : (isFin .f32 (can .f32 x) && isFin .f32 (can .f32 y) && isFin .f32 (can .f32 z)) = B at *
  clear hB
  go_enter Try.func54, Try.ntmps54
  go_wp2_with (go_at_call 105; refine (Ha.out _ _ _ (FS.three ?_ ?_ ?_)).mono ?_; (· simp); (· simp); (· simp); rintro e w' ⟨n, rfl, rfl⟩)
  all_goals
    go_ret
    exact ⟨by simp_all, (by repeat (with_reducible first | exact Below.refl _ _ | refine below_drewN ?_ _ | refine Below.drew ?_ | refine below_alloc ?_ _ | refine below_set0 ?_ _ _ | refine below_set1 ?_ _ _ | refine below_set2 ?_ _ _ | refine below_set3 ?_ _ _ | refine below_call (by assumption) ?_ | refine below_step (by assumption) (by assumption) ?_))⟩
theorem toWay_any (x y z : Nat) (w : World) : Calls Try.prog 15 #[.agg #[.float .f32 x, .float .f32 y, .float .f32 z]] w (fun e w' => e = .returned (.agg #[.float .f32 x, .float .f32 y, .float .f32 z]) ∧ Below w.heap.size w w') := by
  go_enter Try.func15, Try.ntmps15
  go_wp2_with (first | (refine upon_op rfl ?_; intro r n hr hw; go_simp) | (refine upon_widen Try.underlying22 Try.underlying46 ?_; intro r n hr hw; go_simp))
  exact bodyPost_ret (v := .agg #[.float .f32 x, .float .f32 y, .float .f32 z]) (by simp [results, Try.results15, go_sem]) rfl ⟨rfl, (by repeat (with_reducible first | exact Below.refl _ _ | refine below_drewN ?_ _ | refine Below.drew ?_ | refine below_alloc ?_ _ | refine below_set0 ?_ _ _ | refine below_set1 ?_ _ _ | refine below_set2 ?_ _ _ | refine below_set3 ?_ _ _ | refine below_call (by assumption) ?_ | refine below_step (by assumption) (by assumption) ?_))⟩
