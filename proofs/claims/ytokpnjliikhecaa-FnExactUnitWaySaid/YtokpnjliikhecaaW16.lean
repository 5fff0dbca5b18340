/- UNITS: the law. -/
import Derived.Test.YtokpnjliikhecaaW15
import Derived.Test.YtokpnjliikhecaaW11
import Derived.Test.YtokpnjliikhecaaW6
set_option linter.unusedSimpArgs false
set_option linter.unusedVariables false
set_option linter.unnecessarySimpa false
set_option maxRecDepth 20000
namespace Go.Proofs.Ytokpnjliikhecaa
open Go.RowKit Go.Fl

theorem unitWay_any (x y z : Nat) (w : World) (wx : Wf .f32 x) (wy : Wf .f32 y) (wz : Wf .f32 z) : Calls Try.prog 78 #[.agg #[.float .f32 x, .float .f32 y, .float .f32 z]] w
    (GivesV w (quo (can .f32 x) (unitBy (can .f32 x) (can .f32 y) (can .f32 z))) (quo (can .f32 y) (unitBy (can .f32 x) (can .f32 y) (can .f32 z))) (quo (can .f32 z) (unitBy (can .f32 x) (can .f32 y) (can .f32 z)))) := by
  generalize hU : unitBy (can .f32 x) (can .f32 y) (can .f32 z) = U
  have HU := Lib.hid hU
  clear hU
  go_enter Try.func78, Try.ntmps78
  go_wp2_with (first | (refine upon_op rfl ?_; intro r n hr hw; go_simp) | (go_at_call 53; refine (innerI_any _ _ _ _ _ _ _).mono ?_; rintro e w' ⟨i, rfl, hi, hwi, hb⟩; obtain ⟨hc, hf⟩ := below_cells hb; have hz := hb.size; (try simp at hz); (try have hz3 := Nat.lt_of_succ_le hz); (try have hz0 : w.heap.size < w'.heap.size := by omega); (try have hz1 : w.heap.size + 1 < w'.heap.size := by omega); (try have hz2 : w.heap.size + 1 + 1 < w'.heap.size := by omega)) | (go_at_call 99; refine (rootI_any _ _ (by assumption)).mono ?_; rintro e w' ⟨b, n, rfl, rfl, hrb, hwb⟩))
  have hUb : can .f32 b = U := by rw [← HU.out]; unfold unitBy; rw [hrb, hi]
  rename_i q1 n1 hq1 hw1 q2 n2 hq2 hw2
  exact bodyPost_ret (by simp [results, Try.results78, go_sem, *]) rfl ⟨q1, q2, r, rfl, ⟨by rw [hq1, hUb], by rw [hq2, hUb], by rw [hr, hUb]⟩, ⟨hw1, hw2, hw⟩, (by repeat (with_reducible first | exact Below.refl _ _ | refine below_drewN ?_ _ | refine Below.drew ?_ | refine below_alloc ?_ _ | refine below_set0 ?_ _ _ | refine below_set1 ?_ _ _ | refine below_set2 ?_ _ _ | refine below_set3 ?_ _ _ | refine below_call (by assumption) ?_ | refine below_step (by assumption) (by assumption) ?_))⟩
theorem unitI_any (x y z : Nat) (w : World) (wx : Wf .f32 x) (wy : Wf .f32 y) (wz : Wf .f32 z) : Calls Try.prog 36 #[.agg #[.float .f32 x, .float .f32 y, .float .f32 z]] w
    (GivesW w (unitR (can .f32 x) (can .f32 y) (can .f32 z) (can .f32 x)) (unitR (can .f32 x) (can .f32 y) (can .f32 z) (can .f32 y)) (unitR (can .f32 x) (can .f32 y) (can .f32 z) (can .f32 z)) (unitOk (can .f32 x) (can .f32 y) (can .f32 z))) := by
  have HV := Lib.hid (fun w => unitWay_any x y z w wx wy wz)
  unfold unitR unitOk
  generalize unitBy (can .f32 x) (can .f32 y) (can .f32 z) = U at *
  cases h1 : isWay (can .f32 x) (can .f32 y) (can .f32 z)
  · go_enter Try.func36, Try.ntmps36
    go_wp2_with (first | (refine upon_op rfl ?_; intro r n hr hw; go_simp) | (refine upon_widen Try.underlying22 Try.underlying30 ?_; intro r n hr hw; go_simp) | (go_at_call 51; refine (isWayI_any _ _ _ _ (by assumption) (by assumption) (by assumption)).mono ?_; rintro e w' ⟨rfl, hb⟩; obtain ⟨hc, hf⟩ := below_cells hb; have hz := hb.size; (try simp at hz); (try have hz3 := Nat.lt_of_succ_le hz); (try have hz0 : w.heap.size < w'.heap.size := by omega); (try have hz1 : w.heap.size + 1 < w'.heap.size := by omega); (try have hz2 : w.heap.size + 1 + 1 < w'.heap.size := by omega)))
    exact bodyPost_ret (by simp [results, Try.results36, go_sem, *]) rfl ⟨0, 0, 0, rfl, ⟨by simp [orZ, can_zero], by simp [orZ, can_zero], by simp [orZ, can_zero]⟩, wf_zero3, (by repeat (with_reducible first | exact Below.refl _ _ | refine below_drewN ?_ _ | refine Below.drew ?_ | refine below_alloc ?_ _ | refine below_set0 ?_ _ _ | refine below_set1 ?_ _ _ | refine below_set2 ?_ _ _ | refine below_set3 ?_ _ _ | refine below_call (by assumption) ?_ | refine below_step (by assumption) (by assumption) ?_))⟩
  · simp only [Bool.true_and]
    go_enter Try.func36, Try.ntmps36
    go_wp2_with (first | (go_at_call 51; refine (isWayI_any _ _ _ _ (by assumption) (by assumption) (by assumption)).mono ?_; rintro e w' ⟨rfl, hb⟩; obtain ⟨hc, hf⟩ := below_cells hb; have hz := hb.size; (try simp at hz); (try have hz3 := Nat.lt_of_succ_le hz); (try have hz0 : w.heap.size < w'.heap.size := by omega); (try have hz1 : w.heap.size + 1 < w'.heap.size := by omega); (try have hz2 : w.heap.size + 1 + 1 < w'.heap.size := by omega)) | (go_at_call 78; refine (HV.out _).mono ?_; rintro e w' ⟨p, q, r, rfl, ⟨hp, hq, hr⟩, ⟨wp, wq, wr⟩, hb⟩; obtain ⟨hc, hf⟩ := below_cells hb; have hz := hb.size; (try simp at hz); (try have hz3 := Nat.lt_of_succ_le hz); (try have hz0 : w.heap.size < w'.heap.size := by omega); (try have hz1 : w.heap.size + 1 < w'.heap.size := by omega); (try have hz2 : w.heap.size + 1 + 1 < w'.heap.size := by omega)) | (go_at_call 77; refine (wayOrFail_any _ _ _ _ (by assumption) (by assumption) (by assumption)).mono ?_; rintro e w' ⟨p2, q2, r2, rfl, ⟨hp2, hq2, hr2⟩, ⟨wp2, wq2, wr2⟩, hb⟩; obtain ⟨hc, hf⟩ := below_cells hb; have hz := hb.size; (try simp at hz); (try have hz3 := Nat.lt_of_succ_le hz); (try have hz0 : w.heap.size < w'.heap.size := by omega); (try have hz1 : w.heap.size + 1 < w'.heap.size := by omega); (try have hz2 : w.heap.size + 1 + 1 < w'.heap.size := by omega)))
    simp only [hp, hq, hr] at hp2 hq2 hr2
    exact bodyPost_ret (by simp [results, Try.results36, go_sem, *]) rfl ⟨p2, q2, r2, rfl, ⟨hp2, hq2, hr2⟩, ⟨wp2, wq2, wr2⟩, (by repeat (with_reducible first | exact Below.refl _ _ | refine below_drewN ?_ _ | refine Below.drew ?_ | refine below_alloc ?_ _ | refine below_set0 ?_ _ _ | refine below_set1 ?_ _ _ | refine below_set2 ?_ _ _ | refine below_set3 ?_ _ _ | refine below_call (by assumption) ?_ | refine below_step (by assumption) (by assumption) ?_))⟩
set_option maxHeartbeats 2000000 in
theorem unitS_any (x y z : Nat) (w : World) (wx : Wf .f32 x) (wy : Wf .f32 y) (wz : Wf .f32 z) : Calls Try.prog 76 #[.agg #[.float .f32 x, .float .f32 y, .float .f32 z]] w
    (GivesW w (unitR (can .f32 x) (can .f32 y) (can .f32 z) (can .f32 x)) (unitR (can .f32 x) (can .f32 y) (can .f32 z) (can .f32 y)) (unitR (can .f32 x) (can .f32 y) (can .f32 z) (can .f32 z)) (unitOk (can .f32 x) (can .f32 y) (can .f32 z))) := by
  cases h1 : isWay (can .f32 x) (can .f32 y) (can .f32 z)
  · have ho : unitOk (can .f32 x) (can .f32 y) (can .f32 z) = false := by unfold unitOk; rw [h1]; rfl
    have Ho := Lib.hid ho
    unfold unitR
    rw [ho]
    clear ho
    go_enter Try.func76, Try.ntmps76
    go_wp2_with (first | (refine upon_op rfl ?_; intro r n hr hw; go_simp) | (refine upon_widen Try.underlying22 Try.underlying30 ?_; intro r n hr hw; go_simp) | (go_at_call 50; refine (innerS_any _ _ _ _ _ _ _).mono ?_; rintro e w' ⟨r, rfl, hr, hw, hb⟩; obtain ⟨hc, hf⟩ := below_cells hb; have hz := hb.size; (try simp at hz); (try have hz3 := Nat.lt_of_succ_le hz); (try have hz0 : w.heap.size < w'.heap.size := by omega); (try have hz1 : w.heap.size + 1 < w'.heap.size := by omega); (try have hz2 : w.heap.size + 1 + 1 < w'.heap.size := by omega)) | (go_at_call 48; refine (l06Is_any _ _ _ _).mono ?_; rintro e w' ⟨rfl, hb⟩; obtain ⟨hc, hf⟩ := below_cells hb; have hz := hb.size; (try simp at hz); (try have hz3 := Nat.lt_of_succ_le hz); (try have hz0 : w.heap.size < w'.heap.size := by omega); (try have hz1 : w.heap.size + 1 < w'.heap.size := by omega); (try have hz2 : w.heap.size + 1 + 1 < w'.heap.size := by omega)))
    exact bodyPost_ret (by simp [results, Try.results76, go_sem, *]) rfl ⟨0, 0, 0, rfl, ⟨by simp [orZ, can_zero], by simp [orZ, can_zero], by simp [orZ, can_zero]⟩, wf_zero3, (by repeat (with_reducible first | exact Below.refl _ _ | refine below_drewN ?_ _ | refine Below.drew ?_ | refine below_alloc ?_ _ | refine below_set0 ?_ _ _ | refine below_set1 ?_ _ _ | refine below_set2 ?_ _ _ | refine below_set3 ?_ _ _ | refine below_call (by assumption) ?_ | refine below_step (by assumption) (by assumption) ?_))⟩
  · cases h2 : isFin .f32 (inner (can .f32 x) (can .f32 y) (can .f32 z) (can .f32 x) (can .f32 y) (can .f32 z))
    · have ho : unitOk (can .f32 x) (can .f32 y) (can .f32 z) = false := unitOk_fin wx wy wz h1 h2
      have Ho := Lib.hid ho
      unfold unitR
      rw [ho]
      clear ho
      go_enter Try.func76, Try.ntmps76
      go_wp2_with (first | (refine upon_op rfl ?_; intro r n hr hw; go_simp) | (refine upon_widen Try.underlying22 Try.underlying30 ?_; intro r n hr hw; go_simp) | (go_at_call 50; refine (innerS_any _ _ _ _ _ _ _).mono ?_; rintro e w' ⟨r, rfl, hr, hw, hb⟩; obtain ⟨hc, hf⟩ := below_cells hb; have hz := hb.size; (try simp at hz); (try have hz3 := Nat.lt_of_succ_le hz); (try have hz0 : w.heap.size < w'.heap.size := by omega); (try have hz1 : w.heap.size + 1 < w'.heap.size := by omega); (try have hz2 : w.heap.size + 1 + 1 < w'.heap.size := by omega)) | (go_at_call 48; refine (l06Is_any _ _ _ _).mono ?_; rintro e w' ⟨rfl, hb⟩; obtain ⟨hc, hf⟩ := below_cells hb; have hz := hb.size; (try simp at hz); (try have hz3 := Nat.lt_of_succ_le hz); (try have hz0 : w.heap.size < w'.heap.size := by omega); (try have hz1 : w.heap.size + 1 < w'.heap.size := by omega); (try have hz2 : w.heap.size + 1 + 1 < w'.heap.size := by omega)) | (go_at_call 90; refine (l01Finite_any _ _).mono ?_; rintro e w' ⟨n, rfl, rfl⟩))
      exact bodyPost_ret (by simp [results, Try.results76, go_sem, *]) rfl ⟨0, 0, 0, rfl, ⟨by simp [orZ, can_zero], by simp [orZ, can_zero], by simp [orZ, can_zero]⟩, wf_zero3, (by repeat (with_reducible first | exact Below.refl _ _ | refine below_drewN ?_ _ | refine Below.drew ?_ | refine below_alloc ?_ _ | refine below_set0 ?_ _ _ | refine below_set1 ?_ _ _ | refine below_set2 ?_ _ _ | refine below_set3 ?_ _ _ | refine below_call (by assumption) ?_ | refine below_step (by assumption) (by assumption) ?_))⟩
    · have ho : unitOk (can .f32 x) (can .f32 y) (can .f32 z) = isWay (quo (can .f32 x) (unitBy (can .f32 x) (can .f32 y) (can .f32 z))) (quo (can .f32 y) (unitBy (can .f32 x) (can .f32 y) (can .f32 z))) (quo (can .f32 z) (unitBy (can .f32 x) (can .f32 y) (can .f32 z))) := by unfold unitOk; rw [h1]; rfl
      unfold unitR
      rw [ho]
      clear ho
      generalize hU : unitBy (can .f32 x) (can .f32 y) (can .f32 z) = U
      have HU := Lib.hid hU
      clear hU
      go_enter Try.func76, Try.ntmps76
      go_wp2_with (first | (refine upon_op rfl ?_; intro r n hr hw; go_simp) | (go_at_call 48; refine (l06Is_any _ _ _ _).mono ?_; rintro e w' ⟨rfl, hb⟩; obtain ⟨hc, hf⟩ := below_cells hb; have hz := hb.size; (try simp at hz); (try have hz3 := Nat.lt_of_succ_le hz); (try have hz0 : w.heap.size < w'.heap.size := by omega); (try have hz1 : w.heap.size + 1 < w'.heap.size := by omega); (try have hz2 : w.heap.size + 1 + 1 < w'.heap.size := by omega)) | (go_at_call 90; refine (l01Finite_any _ _).mono ?_; rintro e w' ⟨n, rfl, rfl⟩) | (go_at_call 50; refine (innerS_any _ _ _ _ _ _ _).mono ?_; rintro e w' ⟨i, rfl, hi, hwi, hb⟩; obtain ⟨hc, hf⟩ := below_cells hb; have hz := hb.size; (try simp at hz); (try have hz3 := Nat.lt_of_succ_le hz); (try have hz0 : w.heap.size < w'.heap.size := by omega); (try have hz1 : w.heap.size + 1 < w'.heap.size := by omega); (try have hz2 : w.heap.size + 1 + 1 < w'.heap.size := by omega)) | (go_at_call 97; refine (rootS_any _ _ (by assumption)).mono ?_; rintro e w' ⟨b, n, rfl, rfl, hrb, hwb⟩) | (go_at_call 98; refine (l06Give_any _ _ _ _ (by assumption) (by assumption) (by assumption)).mono ?_; rintro e w' ⟨p2, q2, r2, rfl, ⟨hp2, hq2, hr2⟩, ⟨wp2, wq2, wr2⟩, hb⟩; replace hb := below_undrew hb; obtain ⟨hc, hf⟩ := below_cells hb; have hz := hb.size; (try simp at hz); (try have hz3 := Nat.lt_of_succ_le hz); (try have hz0 : w.heap.size < w'.heap.size := by omega); (try have hz1 : w.heap.size + 1 < w'.heap.size := by omega); (try have hz2 : w.heap.size + 1 + 1 < w'.heap.size := by omega)))
      have hUb : can .f32 b = U := by rw [← HU.out]; unfold unitBy; rw [hrb, hi]
      clear hrb hi
      simp only [*] at hp2 hq2 hr2
      have hUi : rootF (inner (can .f32 x) (can .f32 y) (can .f32 z) (can .f32 x) (can .f32 y) (can .f32 z)) = U := HU.out
      exact bodyPost_ret (by simp [results, Try.results76, go_sem, *]) rfl ⟨p2, q2, r2, rfl, ⟨hp2, hq2, hr2⟩, ⟨wp2, wq2, wr2⟩, (by repeat (with_reducible first | exact Below.refl _ _ | refine below_drewN ?_ _ | refine Below.drew ?_ | refine below_alloc ?_ _ | refine below_set0 ?_ _ _ | refine below_set1 ?_ _ _ | refine below_set2 ?_ _ _ | refine below_set3 ?_ _ _ | refine below_call (by assumption) ?_ | refine below_step (by assumption) (by assumption) ?_))⟩
theorem unitSp_any (x y z : Nat) (w : World) (wx : Wf .f32 x) (wy : Wf .f32 y) (wz : Wf .f32 z) : Calls Try.prog 35 #[.agg #[.float .f32 x, .float .f32 y, .float .f32 z]] w
    (GivesW w (unitR (can .f32 x) (can .f32 y) (can .f32 z) (can .f32 x)) (unitR (can .f32 x) (can .f32 y) (can .f32 z) (can .f32 y)) (unitR (can .f32 x) (can .f32 y) (can .f32 z) (can .f32 z)) (unitOk (can .f32 x) (can .f32 y) (can .f32 z))) := by
  have HV := Lib.hid (fun w => unitS_any x y z w wx wy wz)
  generalize unitR (can .f32 x) (can .f32 y) (can .f32 z) (can .f32 x) = P at *
  generalize unitR (can .f32 x) (can .f32 y) (can .f32 z) (can .f32 y) = Q at *
  generalize unitR (can .f32 x) (can .f32 y) (can .f32 z) (can .f32 z) = R at *
  generalize unitOk (can .f32 x) (can .f32 y) (can .f32 z) = B at *
  go_enter Try.func35, Try.ntmps35
  go_wp2_with (go_at_call 76; refine (HV.out _).mono ?_; rintro e w' ⟨p, q, r, rfl, ⟨hp, hq, hr⟩, ⟨wp, wq, wr⟩, hb⟩; obtain ⟨hc, hf⟩ := below_cells hb; have hz := hb.size; (try simp at hz); (try have hz3 := Nat.lt_of_succ_le hz); (try have hz0 : w.heap.size < w'.heap.size := by omega); (try have hz1 : w.heap.size + 1 < w'.heap.size := by omega); (try have hz2 : w.heap.size + 1 + 1 < w'.heap.size := by omega))
  exact bodyPost_ret (by simp [results, Try.results35, go_sem, *]) rfl ⟨p, q, r, rfl, ⟨hp, hq, hr⟩, ⟨wp, wq, wr⟩, (by repeat (with_reducible first | exact Below.refl _ _ | refine below_drewN ?_ _ | refine Below.drew ?_ | refine below_alloc ?_ _ | refine below_set0 ?_ _ _ | refine below_set1 ?_ _ _ | refine below_set2 ?_ _ _ | refine below_set3 ?_ _ _ | refine below_call (by assumption) ?_ | refine below_step (by assumption) (by assumption) ?_))⟩
theorem law_UnitWay (x y z : Nat) (w : World) (wx : Wf .f32 x) (wy : Wf .f32 y) (wz : Wf .f32 z) : Calls Try.prog 10 #[.agg #[.float .f32 x, .float .f32 y, .float .f32 z]] w (GivesB w true) := by
  have HI := fun w => unitI_any x y z w wx wy wz
  have HS := fun w => unitSp_any x y z w wx wy wz
  generalize unitR (can .f32 x) (can .f32 y) (can .f32 z) (can .f32 x) = P at *
  generalize unitR (can .f32 x) (can .f32 y) (can .f32 z) (can .f32 y) = Q at *
  generalize unitR (can .f32 x) (can .f32 y) (can .f32 z) (can .f32 z) = R at *
  generalize unitOk (can .f32 x) (can .f32 y) (can .f32 z) = B at *
  have HI' := Lib.hid HI
  have HS' := Lib.hid HS
  clear HI HS
  go_enter Try.func10, Try.ntmps10
  go_wp2_with fail
  go_at_call 14
  refine (toWay_any _ _ _ _).mono ?_
  rintro e w1 ⟨rfl, hb1⟩
  obtain ⟨hc1, hf1⟩ := below_cells hb1
  have hs1 : w.heap.size < w1.heap.size := by have := hb1.size; simp at this; omega
  go_wp2_with fail
  go_at_call 35
  refine (HS'.out _).mono ?_
  rintro e w2 ⟨p, q, r, rfl, ⟨hp, hq, hr⟩, ⟨wp, wq, wr⟩, hb2⟩
  obtain ⟨hc2, hf2⟩ := below_cells hb2
  have hs2 : w.heap.size < w2.heap.size := by have := hb2.size; omega
  go_wp2_with fail
  go_at_call 14
  refine (toWay_any _ _ _ _).mono ?_
  rintro e w3 ⟨rfl, hb3⟩
  obtain ⟨hc3, hf3⟩ := below_cells hb3
  have hs3 : w2.heap.size < w3.heap.size := by have := hb3.size; simp at this; omega
  have hs3' : w.heap.size < w3.heap.size := by omega
  go_wp2_with fail
  go_at_call 36
  refine (HI'.out _).mono ?_
  rintro e w4 ⟨p2, q2, r2, rfl, ⟨hp2, hq2, hr2⟩, ⟨wp2, wq2, wr2⟩, hb4⟩
  obtain ⟨hc4, hf4⟩ := below_cells hb4
  have hs4 : w2.heap.size < w4.heap.size := by have := hb4.size; omega
  have hs4' : w.heap.size < w4.heap.size := by omega
  go_wp2_with (first | (refine upon_op rfl ?_; intro r n hr hw; go_simp) | (refine upon_widen Try.underlying22 Try.underlying30 ?_; intro r n hr hw; go_simp) | (go_at_call 37; refine (eqWay_any _ _ _ _ _ _ _).mono ?_; rintro e w' ⟨rfl, hb⟩; obtain ⟨hc, hf⟩ := below_cells hb; have hz := hb.size; (try simp at hz); (try have hz3 := Nat.lt_of_succ_le hz); (try have hz0 : w.heap.size < w'.heap.size := by omega); (try have hz1 : w.heap.size + 1 < w'.heap.size := by omega); (try have hz2 : w.heap.size + 1 + 1 < w'.heap.size := by omega)))
  go_ret
  exact ⟨rfl, (by repeat (with_reducible first | exact Below.refl _ _ | refine below_drewN ?_ _ | refine Below.drew ?_ | refine below_alloc ?_ _ | refine below_set0 ?_ _ _ | refine below_set1 ?_ _ _ | refine below_set2 ?_ _ _ | refine below_set3 ?_ _ _ | refine below_call (by assumption) ?_ | refine below_step (by assumption) (by assumption) ?_))⟩
end Go.Proofs.Ytokpnjliikhecaa
