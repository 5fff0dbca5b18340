/- LISTS AND WAYS: the laws. -/
import Derived.Test.YtokpnjliikhecaaW9
import Derived.Test.YtokpnjliikhecaaW6
set_option linter.unusedSimpArgs false
set_option linter.unusedVariables false
set_option linter.unnecessarySimpa false
set_option maxRecDepth 20000
namespace Go.Proofs.Ytokpnjliikhecaa
open Go.RowKit Go.Fl

theorem isKernelSp_any (b off cap : Nat) (xs : List Nat) (w : World) (hc : FS w b off xs) (hx : WfAll xs) (hl : xs.length ≤ 1048576) :
    Calls Try.prog 17 #[.slice (some ⟨b, off, none⟩) xs.length cap] w (RetB w (kern xs)) := by
  have H := Lib.hid (isKernelS_any b off cap xs w hc hx hl)
  clear hc hx hl
  go_enter Try.func17, Try.ntmps17
  go_wp2_with (go_at_call 54; refine H.out.mono ?_; rintro e w' ⟨n, rfl, rfl⟩)
  go_ret
  exact retB_mk rfl
theorem law_IsKernel (A : Option Addr) (xs : List Nat) (cap : Nat) (w : World) (hs : RS w A xs) (wx : WfAll xs) (hm : xs.length ≤ maxLen) : Calls Try.prog 4 #[.slice A xs.length cap] w (GivesB w true) := by
  have Hs := Lib.hid hs
  clear hs
  by_cases hl : xs.length ≤ 1048576
  · go_enter Try.func4, Try.ntmps4
    go_wp2_with (first | (refine upon_op rfl ?_; intro r n hr hw; go_simp) | (refine upon_widen Try.underlying22 Try.underlying30 ?_; intro r n hr hw; go_simp) | (go_at_call 18; refine (toF_any _ _ _ _ (RS.up (by repeat (with_reducible first | exact Below.refl _ _ | refine below_drewN ?_ _ | refine Below.drew ?_ | refine below_alloc ?_ _ | refine below_set0 ?_ _ _ | refine below_set1 ?_ _ _ | refine below_set2 ?_ _ _ | refine below_set3 ?_ _ _ | refine below_call (by assumption) ?_ | refine below_step (by assumption) (by assumption) ?_)) Hs.out) (by assumption)).mono ?_; rintro e w' ⟨g, rfl, hg, hF, hb⟩; obtain ⟨hc, hf⟩ := below_cells hb; have hz := hb.size; (try simp at hz); (try have hz3 := Nat.lt_of_succ_le hz); (try have hz0 : w.heap.size < w'.heap.size := by omega); (try have hz1 : w.heap.size + 1 < w'.heap.size := by omega); (try have hz2 : w.heap.size + 1 + 1 < w'.heap.size := by omega)) | (go_at_call 19; refine (isKernelI_any _ _ _ _ _ (FB.fs (by repeat (first | assumption | with_reducible refine FB.drewN ?_ _ | with_reducible refine FB.drew ?_ | with_reducible refine FB.alloc ?_ _ | with_reducible refine FB.up (by assumption) ?_))) (by assumption) (by assumption)).mono ?_; rintro e w' ⟨n, rfl, rfl⟩) | (go_at_call 17; refine (isKernelSp_any _ _ _ _ _ (FB.fs (by repeat (first | assumption | with_reducible refine FB.drewN ?_ _ | with_reducible refine FB.drew ?_ | with_reducible refine FB.alloc ?_ _ | with_reducible refine FB.up (by assumption) ?_))) (by assumption) (by assumption)).mono ?_; rintro e w' ⟨n, rfl, rfl⟩) | (go_at_call 20; refine (eqF_any _ _ _ _ _ _ _ (FB.rs (by repeat (first | assumption | with_reducible refine FB.drewN ?_ _ | with_reducible refine FB.drew ?_ | with_reducible refine FB.alloc ?_ _ | with_reducible refine FB.up (by assumption) ?_))) (FB.rs (by repeat (first | assumption | with_reducible refine FB.drewN ?_ _ | with_reducible refine FB.drew ?_ | with_reducible refine FB.alloc ?_ _ | with_reducible refine FB.up (by assumption) ?_))) (by first | rfl | assumption) (by assumption)).mono ?_; rintro e w' ⟨rfl, hb⟩; obtain ⟨hc, hf⟩ := below_cells hb; have hz := hb.size; (try simp at hz); (try have hz3 := Nat.lt_of_succ_le hz); (try have hz0 : w.heap.size < w'.heap.size := by omega); (try have hz1 : w.heap.size + 1 < w'.heap.size := by omega); (try have hz2 : w.heap.size + 1 + 1 < w'.heap.size := by omega)))
    all_goals
      go_ret
      exact ⟨rfl, (by repeat (with_reducible first | exact Below.refl _ _ | refine below_drewN ?_ _ | refine Below.drew ?_ | refine below_alloc ?_ _ | refine below_set0 ?_ _ _ | refine below_set1 ?_ _ _ | refine below_set2 ?_ _ _ | refine below_set3 ?_ _ _ | refine below_call (by assumption) ?_ | refine below_step (by assumption) (by assumption) ?_))⟩
  · go_enter Try.func4, Try.ntmps4
    go_wp2_with (first | (refine upon_op rfl ?_; intro r n hr hw; go_simp) | (refine upon_widen Try.underlying22 Try.underlying30 ?_; intro r n hr hw; go_simp))
    all_goals
      go_ret
      exact ⟨rfl, (by repeat (with_reducible first | exact Below.refl _ _ | refine below_drewN ?_ _ | refine Below.drew ?_ | refine below_alloc ?_ _ | refine below_set0 ?_ _ _ | refine below_set1 ?_ _ _ | refine below_set2 ?_ _ _ | refine below_set3 ?_ _ _ | refine below_call (by assumption) ?_ | refine below_step (by assumption) (by assumption) ?_))⟩
end Go.Proofs.Ytokpnjliikhecaa
