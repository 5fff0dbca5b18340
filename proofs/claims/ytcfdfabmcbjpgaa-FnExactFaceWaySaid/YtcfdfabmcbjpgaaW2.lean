/- WAYS AND COLORS. -/
import Derived.Test.YtcfdfabmcbjpgaaW1
import Derived.Test.YtcfdfabmcbjpgaaPure
set_option linter.unusedSimpArgs false
set_option linter.unusedVariables false
namespace Go.Proofs.Ytcfdfabmcbjpgaa
open Go.RowKit Go.Fl

theorem areFinite1_any (x : Nat) (w : World) (_hx : Wf .f32 x) : Calls Try.prog 43 #[.float .f32 x] w (RetB w (!isFin .f32 (can .f32 x))) := by
  go_enter Try.func43, Try.ntmps43
  go_wp2_with (first | (refine upon_op rfl ?_; intro r n hr hw; go_simp) | (refine upon_widen Try.underlying22 Try.underlying40 ?_; intro r n hr hw; go_simp) | (go_at_call 44; refine (isFinite_any _ _).mono ?_; rintro e w' ⟨n, rfl, rfl⟩))
  go_ret
  exact retB_mk rfl
theorem areFinite1_run (args : Array Value) (w : World) : (callFunc 43 args).run Try.prog w = .ok (.enter 43 args) w := by kernel_rfl

theorem areFinite_any (b off cap : Nat) (xs : List Nat) (w : World) (hc : FS w b off xs) (hx : WfAll xs) (hl : xs.length ≤ 9223372036854775807) :
    Calls Try.prog 26 #[.slice (some ⟨b, off, none⟩) xs.length cap] w (RetB w (xs.all (fun x => isFin .f32 (can .f32 x)))) := by
  have H := Lib.hid (containsFunc_any 43 (fun x => !isFin .f32 x) areFinite1_run (fun x w h => areFinite1_any x w h) b off cap xs w hc hx hl)
  clear hc hx hl
  go_enter Try.func26, Try.ntmps26
  go_wp2_with (go_at_call 42; refine H.out.mono ?_; rintro e w' ⟨n, rfl, rfl⟩)
  go_ret
  exact retB_mk (not_any_not _ _)

theorem l06Finite_any (x y z : Nat) (w : World) : Calls Try.prog 41 #[.agg #[.float .f32 x, .float .f32 y, .float .f32 z]] w (GivesB w (fin3 (can .f32 x) (can .f32 y) (can .f32 z))) := by
  unfold fin3
  cases h1 : isFin .f32 (can .f32 x) <;> cases h2 : isFin .f32 (can .f32 y) <;> cases h3 : isFin .f32 (can .f32 z)
  all_goals
    go_enter Try.func41, Try.ntmps41
    go_wp2_with (first | (refine upon_op rfl ?_; intro r n hr hw; go_simp) | (refine upon_widen Try.underlying22 Try.underlying40 ?_; intro r n hr hw; go_simp) | (go_at_call 48; refine (l01Finite_any _ _).mono ?_; rintro e w' ⟨n, rfl, rfl⟩))
    go_ret
    exact ⟨rfl, (by repeat (with_reducible first | exact Below.refl _ _ | refine below_drewN ?_ _ | refine Below.drew ?_ | refine below_alloc ?_ _ | refine below_set0 ?_ _ _ | refine below_set1 ?_ _ _ | refine below_set2 ?_ _ _ | refine below_set3 ?_ _ _ | refine below_call (by assumption) ?_))⟩
theorem l06Is_any (x y z : Nat) (w : World) : Calls Try.prog 25 #[.agg #[.float .f32 x, .float .f32 y, .float .f32 z]] w (GivesB w (isWay (can .f32 x) (can .f32 y) (can .f32 z))) := by
  unfold isWay
  cases h1 : fin3 (can .f32 x) (can .f32 y) (can .f32 z) <;> cases h2 : eq .f32 (can .f32 x) 0 <;> cases h3 : eq .f32 (can .f32 y) 0 <;> cases h4 : eq .f32 (can .f32 z) 0
  all_goals
    go_enter Try.func25, Try.ntmps25
    go_wp2_with (first | (go_at_call 41; refine (l06Finite_any _ _ _ _).mono ?_; rintro e w' ⟨rfl, hb⟩; obtain ⟨hc, hf⟩ := below_cells hb; have hz := hb.size; (try simp at hz); (try have hz0 : w.heap.size < w'.heap.size := by omega); (try have hz1 : w.heap.size + 1 < w'.heap.size := by omega); (try have hz2 : w.heap.size + 1 + 1 < w'.heap.size := by omega)))
    go_ret
    exact ⟨rfl, (by repeat (with_reducible first | exact Below.refl _ _ | refine below_drewN ?_ _ | refine Below.drew ?_ | refine below_alloc ?_ _ | refine below_set0 ?_ _ _ | refine below_set1 ?_ _ _ | refine below_set2 ?_ _ _ | refine below_set3 ?_ _ _ | refine below_call (by assumption) ?_))⟩
theorem isWayI_any (x y z : Nat) (w : World) (hx : Wf .f32 x) (hy : Wf .f32 y) (hz : Wf .f32 z) : Calls Try.prog 11 #[.agg #[.float .f32 x, .float .f32 y, .float .f32 z]] w (GivesB w (isWay (can .f32 x) (can .f32 y) (can .f32 z))) := by
  unfold isWay fin3
  have ha := fun w c => areFinite_any (xs := [x, y, z]) (w := w) (cap := c) (off := 0) (hx := .three hx hy hz) (hl := by simp)
  rw [all3] at ha
  have Ha := Lib.hid ha
  clear ha hx hy hz
  generalize hB : (isFin .f32 (can .f32 x) && isFin .f32 (can .f32 y) && isFin .f32 (can .f32 z)) = B at *
  clear hB
  go_enter Try.func11, Try.ntmps11
  go_wp2_with (go_at_call 26; refine (Ha.out _ _ _ (FS.three ?_ ?_ ?_)).mono ?_; (· simp); (· simp); (· simp); rintro e w' ⟨n, rfl, rfl⟩)
  all_goals
    go_ret
    exact ⟨by simp_all, (by repeat (with_reducible first | exact Below.refl _ _ | refine below_drewN ?_ _ | refine Below.drew ?_ | refine below_alloc ?_ _ | refine below_set0 ?_ _ _ | refine below_set1 ?_ _ _ | refine below_set2 ?_ _ _ | refine below_set3 ?_ _ _ | refine below_call (by assumption) ?_))⟩
theorem isWayS_any (x y z : Nat) (w : World) : Calls Try.prog 9 #[.agg #[.float .f32 x, .float .f32 y, .float .f32 z]] w (GivesB w (isWay (can .f32 x) (can .f32 y) (can .f32 z))) := by
  go_enter Try.func9, Try.ntmps9
  go_wp2_with (first | (refine upon_op rfl ?_; intro r n hr hw; go_simp) | (refine upon_widen Try.underlying22 Try.underlying40 ?_; intro r n hr hw; go_simp) | (go_at_call 25; refine (l06Is_any _ _ _ _).mono ?_; rintro e w' ⟨rfl, hb⟩; obtain ⟨hc, hf⟩ := below_cells hb; have hz := hb.size; (try simp at hz); (try have hz0 : w.heap.size < w'.heap.size := by omega); (try have hz1 : w.heap.size + 1 < w'.heap.size := by omega); (try have hz2 : w.heap.size + 1 + 1 < w'.heap.size := by omega)))
  go_ret
  exact ⟨rfl, (by repeat (with_reducible first | exact Below.refl _ _ | refine below_drewN ?_ _ | refine Below.drew ?_ | refine below_alloc ?_ _ | refine below_set0 ?_ _ _ | refine below_set1 ?_ _ _ | refine below_set2 ?_ _ _ | refine below_set3 ?_ _ _ | refine below_call (by assumption) ?_))⟩
theorem toWay_any (x y z : Nat) (w : World) : Calls Try.prog 10 #[.agg #[.float .f32 x, .float .f32 y, .float .f32 z]] w (fun e w' => e = .returned (.agg #[.float .f32 x, .float .f32 y, .float .f32 z]) ∧ Below w.heap.size w w') := by
  go_enter Try.func10, Try.ntmps10
  go_wp2_with (first | (refine upon_op rfl ?_; intro r n hr hw; go_simp) | (refine upon_widen Try.underlying22 Try.underlying40 ?_; intro r n hr hw; go_simp))
  exact bodyPost_ret (v := .agg #[.float .f32 x, .float .f32 y, .float .f32 z]) (by simp [results, Try.results10, go_sem]) rfl ⟨rfl, (by repeat (with_reducible first | exact Below.refl _ _ | refine below_drewN ?_ _ | refine Below.drew ?_ | refine below_alloc ?_ _ | refine below_set0 ?_ _ _ | refine below_set1 ?_ _ _ | refine below_set2 ?_ _ _ | refine below_set3 ?_ _ _ | refine below_call (by assumption) ?_))⟩
theorem law_IsWay (x y z : Nat) (w : World) (hx : Wf .f32 x) (hy : Wf .f32 y) (hz : Wf .f32 z) : Calls Try.prog 3 #[.agg #[.float .f32 x, .float .f32 y, .float .f32 z]] w (GivesB w true) := by
  go_enter Try.func3, Try.ntmps3
  go_wp2_with (first | (refine upon_op rfl ?_; intro r n hr hw; go_simp) | (refine upon_widen Try.underlying22 Try.underlying40 ?_; intro r n hr hw; go_simp) | (go_at_call 10; refine (toWay_any _ _ _ _).mono ?_; rintro e w' ⟨rfl, hb⟩; obtain ⟨hc, hf⟩ := below_cells hb; have hz := hb.size; (try simp at hz); (try have hz0 : w.heap.size < w'.heap.size := by omega); (try have hz1 : w.heap.size + 1 < w'.heap.size := by omega); (try have hz2 : w.heap.size + 1 + 1 < w'.heap.size := by omega)) | (go_at_call 11; refine (isWayI_any _ _ _ _ (by assumption) (by assumption) (by assumption)).mono ?_; rintro e w' ⟨rfl, hb⟩; obtain ⟨hc, hf⟩ := below_cells hb; have hz := hb.size; (try simp at hz); (try have hz0 : w.heap.size < w'.heap.size := by omega); (try have hz1 : w.heap.size + 1 < w'.heap.size := by omega); (try have hz2 : w.heap.size + 1 + 1 < w'.heap.size := by omega)) | (go_at_call 9; refine (isWayS_any _ _ _ _).mono ?_; rintro e w' ⟨rfl, hb⟩; obtain ⟨hc, hf⟩ := below_cells hb; have hz := hb.size; (try simp at hz); (try have hz0 : w.heap.size < w'.heap.size := by omega); (try have hz1 : w.heap.size + 1 < w'.heap.size := by omega); (try have hz2 : w.heap.size + 1 + 1 < w'.heap.size := by omega)))
  go_ret
  exact ⟨rfl, (by repeat (with_reducible first | exact Below.refl _ _ | refine below_drewN ?_ _ | refine Below.drew ?_ | refine below_alloc ?_ _ | refine below_set0 ?_ _ _ | refine below_set1 ?_ _ _ | refine below_set2 ?_ _ _ | refine below_set3 ?_ _ _ | refine below_call (by assumption) ?_))⟩
theorem toColor_any (x y z : Nat) (w : World) : Calls Try.prog 13 #[.agg #[.float .f32 x, .float .f32 y, .float .f32 z]] w (fun e w' => e = .returned (.agg #[.float .f32 x, .float .f32 y, .float .f32 z]) ∧ Below w.heap.size w w') := by
  go_enter Try.func13, Try.ntmps13
  go_wp2_with (first | (refine upon_op rfl ?_; intro r n hr hw; go_simp) | (refine upon_widen Try.underlying22 Try.underlying40 ?_; intro r n hr hw; go_simp))
  exact bodyPost_ret (v := .agg #[.float .f32 x, .float .f32 y, .float .f32 z]) (by simp [results, Try.results13, go_sem]) rfl ⟨rfl, (by repeat (with_reducible first | exact Below.refl _ _ | refine below_drewN ?_ _ | refine Below.drew ?_ | refine below_alloc ?_ _ | refine below_set0 ?_ _ _ | refine below_set1 ?_ _ _ | refine below_set2 ?_ _ _ | refine below_set3 ?_ _ _ | refine below_call (by assumption) ?_))⟩

end Go.Proofs.Ytcfdfabmcbjpgaa
