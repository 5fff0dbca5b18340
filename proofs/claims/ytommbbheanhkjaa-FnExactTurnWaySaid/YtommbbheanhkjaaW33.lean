/- WAYS, TURNED AND TILTED: the laws. -/
import Derived.Test.YtommbbheanhkjaaW32
import Derived.Test.YtommbbheanhkjaaW6
import Derived.Deep.RegionHeld3
set_option linter.unusedSimpArgs false
set_option linter.unusedVariables false
set_option linter.unnecessarySimpa false
set_option maxRecDepth 20000
namespace Go.Proofs.Ytommbbheanhkjaa
open Go.RowKit Go.Fl

set_option maxHeartbeats 2000000 in
theorem tiltWI_any (x y z t : Nat) (w : World) (wx : Wf .f32 x) (wy : Wf .f32 y) (wz : Wf .f32 z) (wt : Wf .f32 t) : Calls Try.prog 16 #[.agg #[.float .f32 x, .float .f32 y, .float .f32 z], .float .f32 t] w
    (GivesW w (orZ (tiltOk (can .f32 x) (can .f32 y) (can .f32 z) (can .f32 t)) (can .f32 x)) (orZ (tiltOk (can .f32 x) (can .f32 y) (can .f32 z) (can .f32 t)) (rotA (cosF (can .f32 t)) (sineF (can .f32 t)) (can .f32 y) (can .f32 z))) (orZ (tiltOk (can .f32 x) (can .f32 y) (can .f32 z) (can .f32 t)) (rotB (cosF (can .f32 t)) (sineF (can .f32 t)) (can .f32 y) (can .f32 z))) (tiltOk (can .f32 x) (can .f32 y) (can .f32 z) (can .f32 t))) := by
  unfold tiltOk
  have HT := Lib.hid (fun w => tilted_any x y z t w wx wt)
  cases h1 : isWay (can .f32 x) (can .f32 y) (can .f32 z)
  · go_enter Try.func16, Try.ntmps16
    go_wp2_with (first | (go_at_call 54; refine (isWayI_any _ _ _ _ (by assumption) (by assumption) (by assumption)).mono ?_; rintro e w' ⟨rfl, hb⟩; obtain ⟨hc, hf⟩ := below_cells hb; have hz := hb.size; (try simp at hz); (try have hz3 := Nat.lt_of_succ_le hz); (try have hz0 : w.heap.size < w'.heap.size := by omega); (try have hz1 : w.heap.size + 1 < w'.heap.size := by omega); (try have hz2 : w.heap.size + 1 + 1 < w'.heap.size := by omega)) | (go_at_call 55; refine (isFinite_any _ _).mono ?_; rintro e w' ⟨n, rfl, rfl⟩))
    refine bodyPost_ret (by simp [results, Try.results16, go_sem, *] <;> rfl) rfl ?_
    exact ⟨0, 0, 0, rfl, ⟨by simp [orZ, can_zero], by simp [orZ, can_zero], by simp [orZ, can_zero]⟩, wf_zero3, (by repeat (with_reducible first | exact Below.refl _ _ | refine below_drewN ?_ _ | refine Below.drew ?_ | refine below_alloc ?_ _ | refine below_set0 ?_ _ _ | refine below_set1 ?_ _ _ | refine below_set2 ?_ _ _ | refine below_set3 ?_ _ _ | refine below_call (by assumption) ?_ | refine below_step (by assumption) (by assumption) ?_))⟩
  · cases h2 : isFin .f32 (can .f32 t)
    · go_enter Try.func16, Try.ntmps16
      go_wp2_with (first | (go_at_call 54; refine (isWayI_any _ _ _ _ (by assumption) (by assumption) (by assumption)).mono ?_; rintro e w' ⟨rfl, hb⟩; obtain ⟨hc, hf⟩ := below_cells hb; have hz := hb.size; (try simp at hz); (try have hz3 := Nat.lt_of_succ_le hz); (try have hz0 : w.heap.size < w'.heap.size := by omega); (try have hz1 : w.heap.size + 1 < w'.heap.size := by omega); (try have hz2 : w.heap.size + 1 + 1 < w'.heap.size := by omega)) | (go_at_call 55; refine (isFinite_any _ _).mono ?_; rintro e w' ⟨n, rfl, rfl⟩))
      refine bodyPost_ret (by simp [results, Try.results16, go_sem, *] <;> rfl) rfl ?_
      exact ⟨0, 0, 0, rfl, ⟨by simp [orZ, can_zero], by simp [orZ, can_zero], by simp [orZ, can_zero]⟩, wf_zero3, (by repeat (with_reducible first | exact Below.refl _ _ | refine below_drewN ?_ _ | refine Below.drew ?_ | refine below_alloc ?_ _ | refine below_set0 ?_ _ _ | refine below_set1 ?_ _ _ | refine below_set2 ?_ _ _ | refine below_set3 ?_ _ _ | refine below_call (by assumption) ?_ | refine below_step (by assumption) (by assumption) ?_))⟩
    · simp only [Bool.true_and]
      generalize cosF (can .f32 t) = C at *
      generalize sineF (can .f32 t) = D at *
      go_enter Try.func16, Try.ntmps16
      go_wp2_with (first | (go_at_call 54; refine (isWayI_any _ _ _ _ (by assumption) (by assumption) (by assumption)).mono ?_; rintro e w' ⟨rfl, hb⟩; obtain ⟨hc, hf⟩ := below_cells hb; have hz := hb.size; (try simp at hz); (try have hz3 := Nat.lt_of_succ_le hz); (try have hz0 : w.heap.size < w'.heap.size := by omega); (try have hz1 : w.heap.size + 1 < w'.heap.size := by omega); (try have hz2 : w.heap.size + 1 + 1 < w'.heap.size := by omega)) | (go_at_call 55; refine (isFinite_any _ _).mono ?_; rintro e w' ⟨n, rfl, rfl⟩) | (go_at_call 57; refine (HT.out _).mono ?_; rintro e w' ⟨p, q, r, rfl, ⟨hp, hq, hr⟩, ⟨wp, wq, wr⟩, hb⟩; replace hb := below_undrew hb; obtain ⟨hc, hf⟩ := below_cells hb; have hz := hb.size; (try simp at hz); (try have hz3 := Nat.lt_of_succ_le hz); (try have hz0 : w.heap.size < w'.heap.size := by omega); (try have hz1 : w.heap.size + 1 < w'.heap.size := by omega); (try have hz2 : w.heap.size + 1 + 1 < w'.heap.size := by omega)) | (go_at_call 56; refine (wayOrFail_any _ _ _ _ (by assumption) (by assumption) (by assumption)).mono ?_; rintro e w' ⟨p2, q2, r2, rfl, ⟨hp2, hq2, hr2⟩, ⟨wp2, wq2, wr2⟩, hb⟩; obtain ⟨hc, hf⟩ := below_cells hb; have hz := hb.size; (try simp at hz); (try have hz3 := Nat.lt_of_succ_le hz); (try have hz0 : w.heap.size < w'.heap.size := by omega); (try have hz1 : w.heap.size + 1 < w'.heap.size := by omega); (try have hz2 : w.heap.size + 1 + 1 < w'.heap.size := by omega)))
      simp only [hp, hq, hr] at hp2 hq2 hr2
      refine bodyPost_ret (by simp [results, Try.results16, go_sem, *] <;> rfl) rfl ?_
      exact ⟨p2, q2, r2, by first | rfl | (simp only [hp, hq, hr]; done), ⟨hp2, hq2, hr2⟩, ⟨wp2, wq2, wr2⟩, (by repeat (with_reducible first | exact Below.refl _ _ | refine below_drewN ?_ _ | refine Below.drew ?_ | refine below_alloc ?_ _ | refine below_set0 ?_ _ _ | refine below_set1 ?_ _ _ | refine below_set2 ?_ _ _ | refine below_set3 ?_ _ _ | refine below_call (by assumption) ?_ | refine below_step (by assumption) (by assumption) ?_))⟩
set_option maxHeartbeats 2000000 in
theorem tiltWS_any (x y z t : Nat) (w : World) (wx : Wf .f32 x) (wy : Wf .f32 y) (wz : Wf .f32 z) (wt : Wf .f32 t) : Calls Try.prog 14 #[.agg #[.float .f32 x, .float .f32 y, .float .f32 z], .float .f32 t] w
    (GivesW w (orZ (tiltOk (can .f32 x) (can .f32 y) (can .f32 z) (can .f32 t)) (can .f32 x)) (orZ (tiltOk (can .f32 x) (can .f32 y) (can .f32 z) (can .f32 t)) (rotA (cosF (can .f32 t)) (sineF (can .f32 t)) (can .f32 y) (can .f32 z))) (orZ (tiltOk (can .f32 x) (can .f32 y) (can .f32 z) (can .f32 t)) (rotB (cosF (can .f32 t)) (sineF (can .f32 t)) (can .f32 y) (can .f32 z))) (tiltOk (can .f32 x) (can .f32 y) (can .f32 z) (can .f32 t))) := by
  unfold tiltOk
  cases h1 : isWay (can .f32 x) (can .f32 y) (can .f32 z)
  · go_enter Try.func14, Try.ntmps14
    go_wp2_with (first | (refine upon_op rfl ?_; intro r n hr hw; go_simp) | (refine upon_widen Try.underlying22 Try.underlying46 ?_; intro r n hr hw; go_simp) | (go_at_call 48; refine (l06Is_any _ _ _ _).mono ?_; rintro e w' ⟨rfl, hb⟩; obtain ⟨hc, hf⟩ := below_cells hb; have hz := hb.size; (try simp at hz); (try have hz3 := Nat.lt_of_succ_le hz); (try have hz0 : w.heap.size < w'.heap.size := by omega); (try have hz1 : w.heap.size + 1 < w'.heap.size := by omega); (try have hz2 : w.heap.size + 1 + 1 < w'.heap.size := by omega)) | (go_at_call 49; refine (l01Finite_any _ _).mono ?_; rintro e w' ⟨n, rfl, rfl⟩))
    refine bodyPost_ret (by simp [results, Try.results14, go_sem, *] <;> rfl) rfl ?_
    exact ⟨0, 0, 0, rfl, ⟨by simp [orZ, can_zero], by simp [orZ, can_zero], by simp [orZ, can_zero]⟩, wf_zero3, (by repeat (with_reducible first | exact Below.refl _ _ | refine below_drewN ?_ _ | refine Below.drew ?_ | refine below_alloc ?_ _ | refine below_set0 ?_ _ _ | refine below_set1 ?_ _ _ | refine below_set2 ?_ _ _ | refine below_set3 ?_ _ _ | refine below_call (by assumption) ?_ | refine below_step (by assumption) (by assumption) ?_))⟩
  · cases h2 : isFin .f32 (can .f32 t)
    · go_enter Try.func14, Try.ntmps14
      go_wp2_with (first | (refine upon_op rfl ?_; intro r n hr hw; go_simp) | (refine upon_widen Try.underlying22 Try.underlying46 ?_; intro r n hr hw; go_simp) | (go_at_call 48; refine (l06Is_any _ _ _ _).mono ?_; rintro e w' ⟨rfl, hb⟩; obtain ⟨hc, hf⟩ := below_cells hb; have hz := hb.size; (try simp at hz); (try have hz3 := Nat.lt_of_succ_le hz); (try have hz0 : w.heap.size < w'.heap.size := by omega); (try have hz1 : w.heap.size + 1 < w'.heap.size := by omega); (try have hz2 : w.heap.size + 1 + 1 < w'.heap.size := by omega)) | (go_at_call 49; refine (l01Finite_any _ _).mono ?_; rintro e w' ⟨n, rfl, rfl⟩))
      refine bodyPost_ret (by simp [results, Try.results14, go_sem, *] <;> rfl) rfl ?_
      exact ⟨0, 0, 0, rfl, ⟨by simp [orZ, can_zero], by simp [orZ, can_zero], by simp [orZ, can_zero]⟩, wf_zero3, (by repeat (with_reducible first | exact Below.refl _ _ | refine below_drewN ?_ _ | refine Below.drew ?_ | refine below_alloc ?_ _ | refine below_set0 ?_ _ _ | refine below_set1 ?_ _ _ | refine below_set2 ?_ _ _ | refine below_set3 ?_ _ _ | refine below_call (by assumption) ?_ | refine below_step (by assumption) (by assumption) ?_))⟩
    · simp only [Bool.true_and]
      have HT := fun c s w (hc : can .f32 c = cosF (can .f32 t)) (hs : can .f32 s = sineF (can .f32 t)) => tiltS_any x y z c s w wx
      have HCO := Lib.hid (fun w => cosS_any t w)
      have HSI := Lib.hid (fun w => l01Sine_any t w wt)
      generalize cosF (can .f32 t) = C at *
      generalize sineF (can .f32 t) = D at *
      have HT' : ∀ c s w, can .f32 c = C → can .f32 s = D → Calls Try.prog 51 #[.agg #[.float .f32 x, .float .f32 y, .float .f32 z], .float .f32 c, .float .f32 s] w (GivesV w (can .f32 x) (rotA C D (can .f32 y) (can .f32 z)) (rotB C D (can .f32 y) (can .f32 z))) := by
        intro c s w hc hs
        have := HT c s w hc hs
        rwa [hc, hs] at this
      have HTT := Lib.hid HT'
      clear HT HT'
      go_enter Try.func14, Try.ntmps14
      go_wp2_with (first | (go_at_call 48; refine (l06Is_any _ _ _ _).mono ?_; rintro e W ⟨rfl, hbW⟩; obtain ⟨hcW, hfW⟩ := below_cells hbW; have hsz : w.heap.size + 1 < W.heap.size := (by have hq := hbW.size; (try simp at hq); omega); have hsy : w.heap.size < W.heap.size := (by omega)) | (go_at_call 49; refine (l01Finite_any _ _).mono ?_; rintro e w' ⟨n, rfl, rfl⟩))
      obtain ⟨V, hV⟩ : ∃ V, V = W.drewN n := ⟨_, rfl⟩
      rw [← hV]
      have k0 : V.cell? ⟨w.heap.size, 0, none⟩ = some (.float .f32 x) := by rw [hV]; show W.cell? _ = _; rw [hcW _ _ (by simp <;> omega)]; go_simp
      have k1 : V.cell? ⟨w.heap.size, 1, none⟩ = some (.float .f32 y) := by rw [hV]; show W.cell? _ = _; rw [hcW _ _ (by simp <;> omega)]; go_simp
      have k2 : V.cell? ⟨w.heap.size, 2, none⟩ = some (.float .f32 z) := by rw [hV]; show W.cell? _ = _; rw [hcW _ _ (by simp <;> omega)]; go_simp
      have j0 : V.cell? ⟨w.heap.size + 1, 0, none⟩ = some (.float .f32 0) := by rw [hV]; show W.cell? _ = _; rw [hcW _ _ (by simp <;> omega)]; go_simp
      have j1 : V.cell? ⟨w.heap.size + 1, 1, none⟩ = some (.float .f32 0) := by rw [hV]; show W.cell? _ = _; rw [hcW _ _ (by simp <;> omega)]; go_simp
      have j2 : V.cell? ⟨w.heap.size + 1, 2, none⟩ = some (.float .f32 0) := by rw [hV]; show W.cell? _ = _; rw [hcW _ _ (by simp <;> omega)]; go_simp
      have z0 : V.frozen? ⟨w.heap.size + 1, 0, none⟩ = false := by rw [hV]; show W.frozen? _ = _; rw [hfW _ _ (by simp <;> omega)]; go_simp
      have z1 : V.frozen? ⟨w.heap.size + 1, 1, none⟩ = false := by rw [hV]; show W.frozen? _ = _; rw [hfW _ _ (by simp <;> omega)]; go_simp
      have z2 : V.frozen? ⟨w.heap.size + 1, 2, none⟩ = false := by rw [hV]; show W.frozen? _ = _; rw [hfW _ _ (by simp <;> omega)]; go_simp
      have hsV : w.heap.size + 1 < V.heap.size := by rw [hV]; exact hsz
      have hsU : w.heap.size < V.heap.size := by omega
      have hbV : Below w.heap.size w V := by rw [hV]; exact (by repeat (with_reducible first | exact Below.refl _ _ | refine below_drewN ?_ _ | refine Below.drew ?_ | refine below_alloc ?_ _ | refine below_set0 ?_ _ _ | refine below_set1 ?_ _ _ | refine below_set2 ?_ _ _ | refine below_set3 ?_ _ _ | refine below_call (by assumption) ?_ | refine below_step (by assumption) (by assumption) ?_))
      clear hV hbW hcW hfW hsz hsy
      refine wp_region_cut [9, 1] (by kernel_rfl) (by kernel_rfl) ?_
      simp only [cuts, List.take_succ_cons, List.take_zero, List.drop_succ_cons, List.drop_zero]
      refine seg_loose (fun f args v => if f = 52 then ∃ r, v = .float .f32 r ∧ can .f32 r = C ∧ Wf .f32 r else if f = 53 then ∃ r, v = .float .f32 r ∧ can .f32 r = D ∧ Wf .f32 r else if f = 51 then ∃ p q r, v = .agg #[.float .f32 p, .float .f32 q, .float .f32 r] ∧ (can .f32 p = can .f32 x ∧ can .f32 q = rotA C D (can .f32 y) (can .f32 z) ∧ can .f32 r = rotB C D (can .f32 y) (can .f32 z)) ∧ (Wf .f32 p ∧ Wf .f32 q ∧ Wf .f32 r) else ∃ p q r, v = .tuple #[.agg #[.float .f32 p, .float .f32 q, .float .f32 r], .bool (isWay (can .f32 x) (rotA C D (can .f32 y) (can .f32 z)) (rotB C D (can .f32 y) (can .f32 z)))] ∧ (can .f32 p = orZ (isWay (can .f32 x) (rotA C D (can .f32 y) (can .f32 z)) (rotB C D (can .f32 y) (can .f32 z))) (can .f32 x) ∧ can .f32 q = orZ (isWay (can .f32 x) (rotA C D (can .f32 y) (can .f32 z)) (rotB C D (can .f32 y) (can .f32 z))) (rotA C D (can .f32 y) (can .f32 z)) ∧ can .f32 r = orZ (isWay (can .f32 x) (rotA C D (can .f32 y) (can .f32 z)) (rotB C D (can .f32 y) (can .f32 z))) (rotB C D (can .f32 y) (can .f32 z))) ∧ (Wf .f32 p ∧ Wf .f32 q ∧ Wf .f32 r)) ?_
      (refine wpLoose_want rfl ?_; apply loose_val; (· (intro w2 hC2; obtain ⟨hc2, hf2⟩ := below_cells hC2; (try replace hc2 : ∀ b o, b < V.heap.size → w2.cell? ⟨b, o, none⟩ = V.cell? ⟨b, o, none⟩ := hc2); go_simp; try rfl)); simp only [Act.put, Act.eval, List.setIfInBounds_toArray, List.set_cons_succ, List.set_cons_zero, Array.getD_eq_getD_getElem?, List.getElem?_toArray, List.getElem?_cons_succ, List.getElem?_cons_zero, Option.getD_some])
      refine wpLoose_want rfl ?_; refine loose_move _ rfl ?_; simp only [Act.put, Act.eval, List.setIfInBounds_toArray, List.set_cons_succ, List.set_cons_zero, Array.getD_eq_getD_getElem?, List.getElem?_toArray, List.getElem?_cons_succ, List.getElem?_cons_zero, Option.getD_some]
      refine wpLoose_want rfl ?_
      refine loose_callB 52 _ (fun w2 => by go_simp) (fun w2 _ => (HCO.out w2).mono fun e w3 ⟨r, n, he, hb3, hr, hw⟩ => ⟨_, he, ⟨r, rfl, hr, hw⟩, by rw [hb3]; exact (by repeat (with_reducible first | exact Below.refl _ _ | refine below_drewN ?_ _ | refine Below.drew ?_ | refine below_alloc ?_ _ | refine below_set0 ?_ _ _ | refine below_set1 ?_ _ _ | refine below_set2 ?_ _ _ | refine below_set3 ?_ _ _ | refine below_call (by assumption) ?_ | refine below_step (by assumption) (by assumption) ?_))⟩) (fun v hv => ?_)
      obtain ⟨c, rfl, hc0, wc⟩ : ∃ r, v = .float .f32 r ∧ can .f32 r = C ∧ Wf .f32 r := hv
      (try clear hv)
      simp only [Act.put, Act.eval, List.setIfInBounds_toArray, List.set_cons_succ, List.set_cons_zero, Array.getD_eq_getD_getElem?, List.getElem?_toArray, List.getElem?_cons_succ, List.getElem?_cons_zero, Option.getD_some]
      refine wpLoose_want rfl ?_; refine loose_move _ rfl ?_; simp only [Act.put, Act.eval, List.setIfInBounds_toArray, List.set_cons_succ, List.set_cons_zero, Array.getD_eq_getD_getElem?, List.getElem?_toArray, List.getElem?_cons_succ, List.getElem?_cons_zero, Option.getD_some]
      refine wpLoose_want rfl ?_
      refine loose_callB 53 _ (fun w2 => by go_simp) (fun w2 _ => (HSI.out w2).mono fun e w3 ⟨r, n, he, hb3, hr, hw⟩ => ⟨_, he, ⟨r, rfl, hr, hw⟩, by rw [hb3]; exact (by repeat (with_reducible first | exact Below.refl _ _ | refine below_drewN ?_ _ | refine Below.drew ?_ | refine below_alloc ?_ _ | refine below_set0 ?_ _ _ | refine below_set1 ?_ _ _ | refine below_set2 ?_ _ _ | refine below_set3 ?_ _ _ | refine below_call (by assumption) ?_ | refine below_step (by assumption) (by assumption) ?_))⟩) (fun v hv => ?_)
      obtain ⟨s, rfl, hs0, ws⟩ : ∃ r, v = .float .f32 r ∧ can .f32 r = D ∧ Wf .f32 r := hv
      (try clear hv)
      simp only [Act.put, Act.eval, List.setIfInBounds_toArray, List.set_cons_succ, List.set_cons_zero, Array.getD_eq_getD_getElem?, List.getElem?_toArray, List.getElem?_cons_succ, List.getElem?_cons_zero, Option.getD_some]
      refine wpLoose_want rfl ?_
      refine loose_callB 51 _ (fun w2 => by go_simp) (fun w2 _ => (HTT.out c s w2 hc0 hs0).mono fun e w3 ⟨p, q, r, he, hr, hw, hb3⟩ => ⟨_, he, ⟨p, q, r, rfl, hr, hw⟩, hb3⟩) (fun v hv => ?_)
      obtain ⟨p, q, r, rfl, ⟨hp, hq, hr⟩, ⟨wp, wq, wr⟩⟩ : ∃ p q r, v = .agg #[.float .f32 p, .float .f32 q, .float .f32 r] ∧ (can .f32 p = can .f32 x ∧ can .f32 q = rotA C D (can .f32 y) (can .f32 z) ∧ can .f32 r = rotB C D (can .f32 y) (can .f32 z)) ∧ (Wf .f32 p ∧ Wf .f32 q ∧ Wf .f32 r) := hv
      (try clear hv)
      simp only [Act.put, Act.eval, List.setIfInBounds_toArray, List.set_cons_succ, List.set_cons_zero, Array.getD_eq_getD_getElem?, List.getElem?_toArray, List.getElem?_cons_succ, List.getElem?_cons_zero, Option.getD_some]
      have HG := fun w => l06Give_any p q r w wp wq wr
      rw [hp, hq, hr] at HG
      refine wpLoose_want rfl ?_
      refine loose_callB 50 _ (fun w2 => by go_simp) (fun w2 _ => (HG w2).mono fun e w3 ⟨p, q, r, he, hr, hw, hb3⟩ => ⟨_, he, ⟨p, q, r, rfl, hr, hw⟩, hb3⟩) (fun v hv => ?_)
      obtain ⟨p2, q2, r2, rfl, ⟨hp2, hq2, hr2⟩, ⟨wp2, wq2, wr2⟩⟩ : ∃ p q r, v = .tuple #[.agg #[.float .f32 p, .float .f32 q, .float .f32 r], .bool (isWay (can .f32 x) (rotA C D (can .f32 y) (can .f32 z)) (rotB C D (can .f32 y) (can .f32 z)))] ∧ (can .f32 p = orZ (isWay (can .f32 x) (rotA C D (can .f32 y) (can .f32 z)) (rotB C D (can .f32 y) (can .f32 z))) (can .f32 x) ∧ can .f32 q = orZ (isWay (can .f32 x) (rotA C D (can .f32 y) (can .f32 z)) (rotB C D (can .f32 y) (can .f32 z))) (rotA C D (can .f32 y) (can .f32 z)) ∧ can .f32 r = orZ (isWay (can .f32 x) (rotA C D (can .f32 y) (can .f32 z)) (rotB C D (can .f32 y) (can .f32 z))) (rotB C D (can .f32 y) (can .f32 z))) ∧ (Wf .f32 p ∧ Wf .f32 q ∧ Wf .f32 r) := hv
      (try clear hv)
      clear HG
      simp only [Act.put, Act.eval, List.setIfInBounds_toArray, List.set_cons_succ, List.set_cons_zero, Array.getD_eq_getD_getElem?, List.getElem?_toArray, List.getElem?_cons_succ, List.getElem?_cons_zero, Option.getD_some]
      (refine wpLoose_want rfl ?_; apply loose_val; (· (intro w2 hC2; obtain ⟨hc2, hf2⟩ := below_cells hC2; go_simp; try rfl)); simp only [Act.put, Act.eval, List.setIfInBounds_toArray, List.set_cons_succ, List.set_cons_zero, Array.getD_eq_getD_getElem?, List.getElem?_toArray, List.getElem?_cons_succ, List.getElem?_cons_zero, Option.getD_some])
      (refine wpLoose_want rfl ?_; apply loose_val; (· (intro w2 hC2; obtain ⟨hc2, hf2⟩ := below_cells hC2; go_simp; try rfl)); simp only [Act.put, Act.eval, List.setIfInBounds_toArray, List.set_cons_succ, List.set_cons_zero, Array.getD_eq_getD_getElem?, List.getElem?_toArray, List.getElem?_cons_succ, List.getElem?_cons_zero, Option.getD_some])
      refine wpLoose_nil fun W1 hb1 => ?_
      replace hb1 : Below V.heap.size V W1 := below_undrew (n := 1) hb1
      have hq1 := below_cells hb1
      have y0 := (hq1.1 _ 0 hsV).trans j0
      have y1 := (hq1.1 _ 1 hsV).trans j1
      have y2 := (hq1.1 _ 2 hsV).trans j2
      have x0 := (hq1.2 _ 0 hsV).trans z0
      have x1 := (hq1.2 _ 1 hsV).trans z1
      have x2 := (hq1.2 _ 2 hsV).trans z2
      have hbF : Below w.heap.size w W1 := hbV.trans (hb1.mono hbV.size)
      clear k0 k1 k2 j0 j1 j2 z0 z1 z2 hb1 hq1 hbV hsV hsU
      refine seg_one ?_
      go_wp2_with fail
      rw [atNormal_normal]
      refine seg_one ?_
      go_wp2_with fail
      rw [atNormal_normal]
      refine seg_done ?_
      go_wp2_with fail
      refine bodyPost_ret (by simp [results, Try.results14, go_sem, *] <;> rfl) rfl ?_
      exact ⟨p2, q2, r2, rfl, ⟨hp2, hq2, hr2⟩, ⟨wp2, wq2, wr2⟩, (by repeat (with_reducible first | exact Below.refl _ _ | refine below_drewN ?_ _ | refine Below.drew ?_ | refine below_alloc ?_ _ | refine below_set0 ?_ _ _ | refine below_set1 ?_ _ _ | refine below_set2 ?_ _ _ | refine below_set3 ?_ _ _ | refine below_call (by assumption) ?_ | refine below_step (by assumption) (by assumption) ?_))⟩
theorem law_TiltWay (x y z t : Nat) (w : World) (wx : Wf .f32 x) (wy : Wf .f32 y) (wz : Wf .f32 z) (wt : Wf .f32 t) : Calls Try.prog 3 #[.agg #[.float .f32 x, .float .f32 y, .float .f32 z], .float .f32 t] w (GivesB w true) := by
  have HI := fun w => tiltWI_any x y z t w wx wy wz wt
  have HS := fun w => tiltWS_any x y z t w wx wy wz wt
  generalize tiltOk (can .f32 x) (can .f32 y) (can .f32 z) (can .f32 t) = B at *
  generalize orZ B (can .f32 x) = P at *
  generalize orZ B (rotA (cosF (can .f32 t)) (sineF (can .f32 t)) (can .f32 y) (can .f32 z)) = Q at *
  generalize orZ B (rotB (cosF (can .f32 t)) (sineF (can .f32 t)) (can .f32 y) (can .f32 z)) = R at *
  have HI' := Lib.hid HI
  have HS' := Lib.hid HS
  clear HI HS
  go_enter Try.func3, Try.ntmps3
  go_wp2_with fail
  go_at_call 15
  refine (toWay_any _ _ _ _).mono ?_
  rintro e w1 ⟨rfl, hb1⟩
  obtain ⟨hc1, hf1⟩ := below_cells hb1
  have hs1 : w.heap.size < w1.heap.size := by have := hb1.size; simp at this; omega
  go_wp2_with fail
  go_at_call 14
  refine (HS'.out _).mono ?_
  rintro e w2 ⟨p, q, r, rfl, ⟨hp, hq, hr⟩, ⟨wp, wq, wr⟩, hb2⟩
  obtain ⟨hc2, hf2⟩ := below_cells hb2
  have hs2 : w.heap.size < w2.heap.size := by have := hb2.size; omega
  go_wp2_with fail
  go_at_call 15
  refine (toWay_any _ _ _ _).mono ?_
  rintro e w3 ⟨rfl, hb3⟩
  obtain ⟨hc3, hf3⟩ := below_cells hb3
  have hs3 : w2.heap.size < w3.heap.size := by have := hb3.size; simp at this; omega
  have hs3' : w.heap.size < w3.heap.size := by omega
  go_wp2_with fail
  go_at_call 16
  refine (HI'.out _).mono ?_
  rintro e w4 ⟨p2, q2, r2, rfl, ⟨hp2, hq2, hr2⟩, ⟨wp2, wq2, wr2⟩, hb4⟩
  obtain ⟨hc4, hf4⟩ := below_cells hb4
  have hs4 : w2.heap.size < w4.heap.size := by have := hb4.size; omega
  have hs4' : w.heap.size < w4.heap.size := by omega
  go_wp2_with (first | (refine upon_op rfl ?_; intro r n hr hw; go_simp) | (refine upon_widen Try.underlying22 Try.underlying46 ?_; intro r n hr hw; go_simp) | (go_at_call 17; refine (eqWay_any _ _ _ _ _ _ _).mono ?_; rintro e w' ⟨rfl, hb⟩; obtain ⟨hc, hf⟩ := below_cells hb; have hz := hb.size; (try simp at hz); (try have hz3 := Nat.lt_of_succ_le hz); (try have hz0 : w.heap.size < w'.heap.size := by omega); (try have hz1 : w.heap.size + 1 < w'.heap.size := by omega); (try have hz2 : w.heap.size + 1 + 1 < w'.heap.size := by omega)))
  go_ret
  exact ⟨rfl, (by repeat (with_reducible first | exact Below.refl _ _ | refine below_drewN ?_ _ | refine Below.drew ?_ | refine below_alloc ?_ _ | refine below_set0 ?_ _ _ | refine below_set1 ?_ _ _ | refine below_set2 ?_ _ _ | refine below_set3 ?_ _ _ | refine below_call (by assumption) ?_ | refine below_step (by assumption) (by assumption) ?_))⟩
set_option maxHeartbeats 2000000 in
theorem spinWI_any (x y z t : Nat) (w : World) (wx : Wf .f32 x) (wy : Wf .f32 y) (wz : Wf .f32 z) (wt : Wf .f32 t) : Calls Try.prog 19 #[.agg #[.float .f32 x, .float .f32 y, .float .f32 z], .float .f32 t] w
    (GivesW w (orZ (spinOk (can .f32 x) (can .f32 y) (can .f32 z) (can .f32 t)) (rotA (cosF (can .f32 t)) (sineF (can .f32 t)) (can .f32 x) (can .f32 y))) (orZ (spinOk (can .f32 x) (can .f32 y) (can .f32 z) (can .f32 t)) (rotB (cosF (can .f32 t)) (sineF (can .f32 t)) (can .f32 x) (can .f32 y))) (orZ (spinOk (can .f32 x) (can .f32 y) (can .f32 z) (can .f32 t)) (can .f32 z)) (spinOk (can .f32 x) (can .f32 y) (can .f32 z) (can .f32 t))) := by
  unfold spinOk
  have HT := Lib.hid (fun w => spun_any x y z t w wz wt)
  cases h1 : isWay (can .f32 x) (can .f32 y) (can .f32 z)
  · go_enter Try.func19, Try.ntmps19
    go_wp2_with (first | (go_at_call 54; refine (isWayI_any _ _ _ _ (by assumption) (by assumption) (by assumption)).mono ?_; rintro e w' ⟨rfl, hb⟩; obtain ⟨hc, hf⟩ := below_cells hb; have hz := hb.size; (try simp at hz); (try have hz3 := Nat.lt_of_succ_le hz); (try have hz0 : w.heap.size < w'.heap.size := by omega); (try have hz1 : w.heap.size + 1 < w'.heap.size := by omega); (try have hz2 : w.heap.size + 1 + 1 < w'.heap.size := by omega)) | (go_at_call 55; refine (isFinite_any _ _).mono ?_; rintro e w' ⟨n, rfl, rfl⟩))
    refine bodyPost_ret (by simp [results, Try.results19, go_sem, *] <;> rfl) rfl ?_
    exact ⟨0, 0, 0, rfl, ⟨by simp [orZ, can_zero], by simp [orZ, can_zero], by simp [orZ, can_zero]⟩, wf_zero3, (by repeat (with_reducible first | exact Below.refl _ _ | refine below_drewN ?_ _ | refine Below.drew ?_ | refine below_alloc ?_ _ | refine below_set0 ?_ _ _ | refine below_set1 ?_ _ _ | refine below_set2 ?_ _ _ | refine below_set3 ?_ _ _ | refine below_call (by assumption) ?_ | refine below_step (by assumption) (by assumption) ?_))⟩
  · cases h2 : isFin .f32 (can .f32 t)
    · go_enter Try.func19, Try.ntmps19
      go_wp2_with (first | (go_at_call 54; refine (isWayI_any _ _ _ _ (by assumption) (by assumption) (by assumption)).mono ?_; rintro e w' ⟨rfl, hb⟩; obtain ⟨hc, hf⟩ := below_cells hb; have hz := hb.size; (try simp at hz); (try have hz3 := Nat.lt_of_succ_le hz); (try have hz0 : w.heap.size < w'.heap.size := by omega); (try have hz1 : w.heap.size + 1 < w'.heap.size := by omega); (try have hz2 : w.heap.size + 1 + 1 < w'.heap.size := by omega)) | (go_at_call 55; refine (isFinite_any _ _).mono ?_; rintro e w' ⟨n, rfl, rfl⟩))
      refine bodyPost_ret (by simp [results, Try.results19, go_sem, *] <;> rfl) rfl ?_
      exact ⟨0, 0, 0, rfl, ⟨by simp [orZ, can_zero], by simp [orZ, can_zero], by simp [orZ, can_zero]⟩, wf_zero3, (by repeat (with_reducible first | exact Below.refl _ _ | refine below_drewN ?_ _ | refine Below.drew ?_ | refine below_alloc ?_ _ | refine below_set0 ?_ _ _ | refine below_set1 ?_ _ _ | refine below_set2 ?_ _ _ | refine below_set3 ?_ _ _ | refine below_call (by assumption) ?_ | refine below_step (by assumption) (by assumption) ?_))⟩
    · simp only [Bool.true_and]
      generalize cosF (can .f32 t) = C at *
      generalize sineF (can .f32 t) = D at *
      go_enter Try.func19, Try.ntmps19
      go_wp2_with (first | (go_at_call 54; refine (isWayI_any _ _ _ _ (by assumption) (by assumption) (by assumption)).mono ?_; rintro e w' ⟨rfl, hb⟩; obtain ⟨hc, hf⟩ := below_cells hb; have hz := hb.size; (try simp at hz); (try have hz3 := Nat.lt_of_succ_le hz); (try have hz0 : w.heap.size < w'.heap.size := by omega); (try have hz1 : w.heap.size + 1 < w'.heap.size := by omega); (try have hz2 : w.heap.size + 1 + 1 < w'.heap.size := by omega)) | (go_at_call 55; refine (isFinite_any _ _).mono ?_; rintro e w' ⟨n, rfl, rfl⟩) | (go_at_call 59; refine (HT.out _).mono ?_; rintro e w' ⟨p, q, r, rfl, ⟨hp, hq, hr⟩, ⟨wp, wq, wr⟩, hb⟩; replace hb := below_undrew hb; obtain ⟨hc, hf⟩ := below_cells hb; have hz := hb.size; (try simp at hz); (try have hz3 := Nat.lt_of_succ_le hz); (try have hz0 : w.heap.size < w'.heap.size := by omega); (try have hz1 : w.heap.size + 1 < w'.heap.size := by omega); (try have hz2 : w.heap.size + 1 + 1 < w'.heap.size := by omega)) | (go_at_call 56; refine (wayOrFail_any _ _ _ _ (by assumption) (by assumption) (by assumption)).mono ?_; rintro e w' ⟨p2, q2, r2, rfl, ⟨hp2, hq2, hr2⟩, ⟨wp2, wq2, wr2⟩, hb⟩; obtain ⟨hc, hf⟩ := below_cells hb; have hz := hb.size; (try simp at hz); (try have hz3 := Nat.lt_of_succ_le hz); (try have hz0 : w.heap.size < w'.heap.size := by omega); (try have hz1 : w.heap.size + 1 < w'.heap.size := by omega); (try have hz2 : w.heap.size + 1 + 1 < w'.heap.size := by omega)))
      simp only [hp, hq, hr] at hp2 hq2 hr2
      refine bodyPost_ret (by simp [results, Try.results19, go_sem, *] <;> rfl) rfl ?_
      exact ⟨p2, q2, r2, by first | rfl | (simp only [hp, hq, hr]; done), ⟨hp2, hq2, hr2⟩, ⟨wp2, wq2, wr2⟩, (by repeat (with_reducible first | exact Below.refl _ _ | refine below_drewN ?_ _ | refine Below.drew ?_ | refine below_alloc ?_ _ | refine below_set0 ?_ _ _ | refine below_set1 ?_ _ _ | refine below_set2 ?_ _ _ | refine below_set3 ?_ _ _ | refine below_call (by assumption) ?_ | refine below_step (by assumption) (by assumption) ?_))⟩
set_option maxHeartbeats 2000000 in
theorem spinWS_any (x y z t : Nat) (w : World) (wx : Wf .f32 x) (wy : Wf .f32 y) (wz : Wf .f32 z) (wt : Wf .f32 t) : Calls Try.prog 18 #[.agg #[.float .f32 x, .float .f32 y, .float .f32 z], .float .f32 t] w
    (GivesW w (orZ (spinOk (can .f32 x) (can .f32 y) (can .f32 z) (can .f32 t)) (rotA (cosF (can .f32 t)) (sineF (can .f32 t)) (can .f32 x) (can .f32 y))) (orZ (spinOk (can .f32 x) (can .f32 y) (can .f32 z) (can .f32 t)) (rotB (cosF (can .f32 t)) (sineF (can .f32 t)) (can .f32 x) (can .f32 y))) (orZ (spinOk (can .f32 x) (can .f32 y) (can .f32 z) (can .f32 t)) (can .f32 z)) (spinOk (can .f32 x) (can .f32 y) (can .f32 z) (can .f32 t))) := by
  unfold spinOk
  cases h1 : isWay (can .f32 x) (can .f32 y) (can .f32 z)
  · go_enter Try.func18, Try.ntmps18
    go_wp2_with (first | (refine upon_op rfl ?_; intro r n hr hw; go_simp) | (refine upon_widen Try.underlying22 Try.underlying46 ?_; intro r n hr hw; go_simp) | (go_at_call 48; refine (l06Is_any _ _ _ _).mono ?_; rintro e w' ⟨rfl, hb⟩; obtain ⟨hc, hf⟩ := below_cells hb; have hz := hb.size; (try simp at hz); (try have hz3 := Nat.lt_of_succ_le hz); (try have hz0 : w.heap.size < w'.heap.size := by omega); (try have hz1 : w.heap.size + 1 < w'.heap.size := by omega); (try have hz2 : w.heap.size + 1 + 1 < w'.heap.size := by omega)) | (go_at_call 49; refine (l01Finite_any _ _).mono ?_; rintro e w' ⟨n, rfl, rfl⟩))
    refine bodyPost_ret (by simp [results, Try.results18, go_sem, *] <;> rfl) rfl ?_
    exact ⟨0, 0, 0, rfl, ⟨by simp [orZ, can_zero], by simp [orZ, can_zero], by simp [orZ, can_zero]⟩, wf_zero3, (by repeat (with_reducible first | exact Below.refl _ _ | refine below_drewN ?_ _ | refine Below.drew ?_ | refine below_alloc ?_ _ | refine below_set0 ?_ _ _ | refine below_set1 ?_ _ _ | refine below_set2 ?_ _ _ | refine below_set3 ?_ _ _ | refine below_call (by assumption) ?_ | refine below_step (by assumption) (by assumption) ?_))⟩
  · cases h2 : isFin .f32 (can .f32 t)
    · go_enter Try.func18, Try.ntmps18
      go_wp2_with (first | (refine upon_op rfl ?_; intro r n hr hw; go_simp) | (refine upon_widen Try.underlying22 Try.underlying46 ?_; intro r n hr hw; go_simp) | (go_at_call 48; refine (l06Is_any _ _ _ _).mono ?_; rintro e w' ⟨rfl, hb⟩; obtain ⟨hc, hf⟩ := below_cells hb; have hz := hb.size; (try simp at hz); (try have hz3 := Nat.lt_of_succ_le hz); (try have hz0 : w.heap.size < w'.heap.size := by omega); (try have hz1 : w.heap.size + 1 < w'.heap.size := by omega); (try have hz2 : w.heap.size + 1 + 1 < w'.heap.size := by omega)) | (go_at_call 49; refine (l01Finite_any _ _).mono ?_; rintro e w' ⟨n, rfl, rfl⟩))
      refine bodyPost_ret (by simp [results, Try.results18, go_sem, *] <;> rfl) rfl ?_
      exact ⟨0, 0, 0, rfl, ⟨by simp [orZ, can_zero], by simp [orZ, can_zero], by simp [orZ, can_zero]⟩, wf_zero3, (by repeat (with_reducible first | exact Below.refl _ _ | refine below_drewN ?_ _ | refine Below.drew ?_ | refine below_alloc ?_ _ | refine below_set0 ?_ _ _ | refine below_set1 ?_ _ _ | refine below_set2 ?_ _ _ | refine below_set3 ?_ _ _ | refine below_call (by assumption) ?_ | refine below_step (by assumption) (by assumption) ?_))⟩
    · simp only [Bool.true_and]
      have HT := fun c s w (hc : can .f32 c = cosF (can .f32 t)) (hs : can .f32 s = sineF (can .f32 t)) => spinS_any x y z c s w wz
      have HCO := Lib.hid (fun w => cosS_any t w)
      have HSI := Lib.hid (fun w => l01Sine_any t w wt)
      generalize cosF (can .f32 t) = C at *
      generalize sineF (can .f32 t) = D at *
      have HT' : ∀ c s w, can .f32 c = C → can .f32 s = D → Calls Try.prog 58 #[.agg #[.float .f32 x, .float .f32 y, .float .f32 z], .float .f32 c, .float .f32 s] w (GivesV w (rotA C D (can .f32 x) (can .f32 y)) (rotB C D (can .f32 x) (can .f32 y)) (can .f32 z)) := by
        intro c s w hc hs
        have := HT c s w hc hs
        rwa [hc, hs] at this
      have HTT := Lib.hid HT'
      clear HT HT'
      go_enter Try.func18, Try.ntmps18
      go_wp2_with (first | (go_at_call 48; refine (l06Is_any _ _ _ _).mono ?_; rintro e W ⟨rfl, hbW⟩; obtain ⟨hcW, hfW⟩ := below_cells hbW; have hsz : w.heap.size + 1 < W.heap.size := (by have hq := hbW.size; (try simp at hq); omega); have hsy : w.heap.size < W.heap.size := (by omega)) | (go_at_call 49; refine (l01Finite_any _ _).mono ?_; rintro e w' ⟨n, rfl, rfl⟩))
      obtain ⟨V, hV⟩ : ∃ V, V = W.drewN n := ⟨_, rfl⟩
      rw [← hV]
      have k0 : V.cell? ⟨w.heap.size, 0, none⟩ = some (.float .f32 x) := by rw [hV]; show W.cell? _ = _; rw [hcW _ _ (by simp <;> omega)]; go_simp
      have k1 : V.cell? ⟨w.heap.size, 1, none⟩ = some (.float .f32 y) := by rw [hV]; show W.cell? _ = _; rw [hcW _ _ (by simp <;> omega)]; go_simp
      have k2 : V.cell? ⟨w.heap.size, 2, none⟩ = some (.float .f32 z) := by rw [hV]; show W.cell? _ = _; rw [hcW _ _ (by simp <;> omega)]; go_simp
      have j0 : V.cell? ⟨w.heap.size + 1, 0, none⟩ = some (.float .f32 0) := by rw [hV]; show W.cell? _ = _; rw [hcW _ _ (by simp <;> omega)]; go_simp
      have j1 : V.cell? ⟨w.heap.size + 1, 1, none⟩ = some (.float .f32 0) := by rw [hV]; show W.cell? _ = _; rw [hcW _ _ (by simp <;> omega)]; go_simp
      have j2 : V.cell? ⟨w.heap.size + 1, 2, none⟩ = some (.float .f32 0) := by rw [hV]; show W.cell? _ = _; rw [hcW _ _ (by simp <;> omega)]; go_simp
      have z0 : V.frozen? ⟨w.heap.size + 1, 0, none⟩ = false := by rw [hV]; show W.frozen? _ = _; rw [hfW _ _ (by simp <;> omega)]; go_simp
      have z1 : V.frozen? ⟨w.heap.size + 1, 1, none⟩ = false := by rw [hV]; show W.frozen? _ = _; rw [hfW _ _ (by simp <;> omega)]; go_simp
      have z2 : V.frozen? ⟨w.heap.size + 1, 2, none⟩ = false := by rw [hV]; show W.frozen? _ = _; rw [hfW _ _ (by simp <;> omega)]; go_simp
      have hsV : w.heap.size + 1 < V.heap.size := by rw [hV]; exact hsz
      have hsU : w.heap.size < V.heap.size := by omega
      have hbV : Below w.heap.size w V := by rw [hV]; exact (by repeat (with_reducible first | exact Below.refl _ _ | refine below_drewN ?_ _ | refine Below.drew ?_ | refine below_alloc ?_ _ | refine below_set0 ?_ _ _ | refine below_set1 ?_ _ _ | refine below_set2 ?_ _ _ | refine below_set3 ?_ _ _ | refine below_call (by assumption) ?_ | refine below_step (by assumption) (by assumption) ?_))
      clear hV hbW hcW hfW hsz hsy
      refine wp_region_cut [9, 1] (by kernel_rfl) (by kernel_rfl) ?_
      simp only [cuts, List.take_succ_cons, List.take_zero, List.drop_succ_cons, List.drop_zero]
      refine seg_loose (fun f args v => if f = 52 then ∃ r, v = .float .f32 r ∧ can .f32 r = C ∧ Wf .f32 r else if f = 53 then ∃ r, v = .float .f32 r ∧ can .f32 r = D ∧ Wf .f32 r else if f = 58 then ∃ p q r, v = .agg #[.float .f32 p, .float .f32 q, .float .f32 r] ∧ (can .f32 p = rotA C D (can .f32 x) (can .f32 y) ∧ can .f32 q = rotB C D (can .f32 x) (can .f32 y) ∧ can .f32 r = can .f32 z) ∧ (Wf .f32 p ∧ Wf .f32 q ∧ Wf .f32 r) else ∃ p q r, v = .tuple #[.agg #[.float .f32 p, .float .f32 q, .float .f32 r], .bool (isWay (rotA C D (can .f32 x) (can .f32 y)) (rotB C D (can .f32 x) (can .f32 y)) (can .f32 z))] ∧ (can .f32 p = orZ (isWay (rotA C D (can .f32 x) (can .f32 y)) (rotB C D (can .f32 x) (can .f32 y)) (can .f32 z)) (rotA C D (can .f32 x) (can .f32 y)) ∧ can .f32 q = orZ (isWay (rotA C D (can .f32 x) (can .f32 y)) (rotB C D (can .f32 x) (can .f32 y)) (can .f32 z)) (rotB C D (can .f32 x) (can .f32 y)) ∧ can .f32 r = orZ (isWay (rotA C D (can .f32 x) (can .f32 y)) (rotB C D (can .f32 x) (can .f32 y)) (can .f32 z)) (can .f32 z)) ∧ (Wf .f32 p ∧ Wf .f32 q ∧ Wf .f32 r)) ?_
      (refine wpLoose_want rfl ?_; apply loose_val; (· (intro w2 hC2; obtain ⟨hc2, hf2⟩ := below_cells hC2; (try replace hc2 : ∀ b o, b < V.heap.size → w2.cell? ⟨b, o, none⟩ = V.cell? ⟨b, o, none⟩ := hc2); go_simp; try rfl)); simp only [Act.put, Act.eval, List.setIfInBounds_toArray, List.set_cons_succ, List.set_cons_zero, Array.getD_eq_getD_getElem?, List.getElem?_toArray, List.getElem?_cons_succ, List.getElem?_cons_zero, Option.getD_some])
      refine wpLoose_want rfl ?_; refine loose_move _ rfl ?_; simp only [Act.put, Act.eval, List.setIfInBounds_toArray, List.set_cons_succ, List.set_cons_zero, Array.getD_eq_getD_getElem?, List.getElem?_toArray, List.getElem?_cons_succ, List.getElem?_cons_zero, Option.getD_some]
      refine wpLoose_want rfl ?_
      refine loose_callB 52 _ (fun w2 => by go_simp) (fun w2 _ => (HCO.out w2).mono fun e w3 ⟨r, n, he, hb3, hr, hw⟩ => ⟨_, he, ⟨r, rfl, hr, hw⟩, by rw [hb3]; exact (by repeat (with_reducible first | exact Below.refl _ _ | refine below_drewN ?_ _ | refine Below.drew ?_ | refine below_alloc ?_ _ | refine below_set0 ?_ _ _ | refine below_set1 ?_ _ _ | refine below_set2 ?_ _ _ | refine below_set3 ?_ _ _ | refine below_call (by assumption) ?_ | refine below_step (by assumption) (by assumption) ?_))⟩) (fun v hv => ?_)
      obtain ⟨c, rfl, hc0, wc⟩ : ∃ r, v = .float .f32 r ∧ can .f32 r = C ∧ Wf .f32 r := hv
      (try clear hv)
      simp only [Act.put, Act.eval, List.setIfInBounds_toArray, List.set_cons_succ, List.set_cons_zero, Array.getD_eq_getD_getElem?, List.getElem?_toArray, List.getElem?_cons_succ, List.getElem?_cons_zero, Option.getD_some]
      refine wpLoose_want rfl ?_; refine loose_move _ rfl ?_; simp only [Act.put, Act.eval, List.setIfInBounds_toArray, List.set_cons_succ, List.set_cons_zero, Array.getD_eq_getD_getElem?, List.getElem?_toArray, List.getElem?_cons_succ, List.getElem?_cons_zero, Option.getD_some]
      refine wpLoose_want rfl ?_
      refine loose_callB 53 _ (fun w2 => by go_simp) (fun w2 _ => (HSI.out w2).mono fun e w3 ⟨r, n, he, hb3, hr, hw⟩ => ⟨_, he, ⟨r, rfl, hr, hw⟩, by rw [hb3]; exact (by repeat (with_reducible first | exact Below.refl _ _ | refine below_drewN ?_ _ | refine Below.drew ?_ | refine below_alloc ?_ _ | refine below_set0 ?_ _ _ | refine below_set1 ?_ _ _ | refine below_set2 ?_ _ _ | refine below_set3 ?_ _ _ | refine below_call (by assumption) ?_ | refine below_step (by assumption) (by assumption) ?_))⟩) (fun v hv => ?_)
      obtain ⟨s, rfl, hs0, ws⟩ : ∃ r, v = .float .f32 r ∧ can .f32 r = D ∧ Wf .f32 r := hv
      (try clear hv)
      simp only [Act.put, Act.eval, List.setIfInBounds_toArray, List.set_cons_succ, List.set_cons_zero, Array.getD_eq_getD_getElem?, List.getElem?_toArray, List.getElem?_cons_succ, List.getElem?_cons_zero, Option.getD_some]
      refine wpLoose_want rfl ?_
      refine loose_callB 58 _ (fun w2 => by go_simp) (fun w2 _ => (HTT.out c s w2 hc0 hs0).mono fun e w3 ⟨p, q, r, he, hr, hw, hb3⟩ => ⟨_, he, ⟨p, q, r, rfl, hr, hw⟩, hb3⟩) (fun v hv => ?_)
      obtain ⟨p, q, r, rfl, ⟨hp, hq, hr⟩, ⟨wp, wq, wr⟩⟩ : ∃ p q r, v = .agg #[.float .f32 p, .float .f32 q, .float .f32 r] ∧ (can .f32 p = rotA C D (can .f32 x) (can .f32 y) ∧ can .f32 q = rotB C D (can .f32 x) (can .f32 y) ∧ can .f32 r = can .f32 z) ∧ (Wf .f32 p ∧ Wf .f32 q ∧ Wf .f32 r) := hv
      (try clear hv)
      simp only [Act.put, Act.eval, List.setIfInBounds_toArray, List.set_cons_succ, List.set_cons_zero, Array.getD_eq_getD_getElem?, List.getElem?_toArray, List.getElem?_cons_succ, List.getElem?_cons_zero, Option.getD_some]
      have HG := fun w => l06Give_any p q r w wp wq wr
      rw [hp, hq, hr] at HG
      refine wpLoose_want rfl ?_
      refine loose_callB 50 _ (fun w2 => by go_simp) (fun w2 _ => (HG w2).mono fun e w3 ⟨p, q, r, he, hr, hw, hb3⟩ => ⟨_, he, ⟨p, q, r, rfl, hr, hw⟩, hb3⟩) (fun v hv => ?_)
      obtain ⟨p2, q2, r2, rfl, ⟨hp2, hq2, hr2⟩, ⟨wp2, wq2, wr2⟩⟩ : ∃ p q r, v = .tuple #[.agg #[.float .f32 p, .float .f32 q, .float .f32 r], .bool (isWay (rotA C D (can .f32 x) (can .f32 y)) (rotB C D (can .f32 x) (can .f32 y)) (can .f32 z))] ∧ (can .f32 p = orZ (isWay (rotA C D (can .f32 x) (can .f32 y)) (rotB C D (can .f32 x) (can .f32 y)) (can .f32 z)) (rotA C D (can .f32 x) (can .f32 y)) ∧ can .f32 q = orZ (isWay (rotA C D (can .f32 x) (can .f32 y)) (rotB C D (can .f32 x) (can .f32 y)) (can .f32 z)) (rotB C D (can .f32 x) (can .f32 y)) ∧ can .f32 r = orZ (isWay (rotA C D (can .f32 x) (can .f32 y)) (rotB C D (can .f32 x) (can .f32 y)) (can .f32 z)) (can .f32 z)) ∧ (Wf .f32 p ∧ Wf .f32 q ∧ Wf .f32 r) := hv
      (try clear hv)
      clear HG
      simp only [Act.put, Act.eval, List.setIfInBounds_toArray, List.set_cons_succ, List.set_cons_zero, Array.getD_eq_getD_getElem?, List.getElem?_toArray, List.getElem?_cons_succ, List.getElem?_cons_zero, Option.getD_some]
      (refine wpLoose_want rfl ?_; apply loose_val; (· (intro w2 hC2; obtain ⟨hc2, hf2⟩ := below_cells hC2; go_simp; try rfl)); simp only [Act.put, Act.eval, List.setIfInBounds_toArray, List.set_cons_succ, List.set_cons_zero, Array.getD_eq_getD_getElem?, List.getElem?_toArray, List.getElem?_cons_succ, List.getElem?_cons_zero, Option.getD_some])
      (refine wpLoose_want rfl ?_; apply loose_val; (· (intro w2 hC2; obtain ⟨hc2, hf2⟩ := below_cells hC2; go_simp; try rfl)); simp only [Act.put, Act.eval, List.setIfInBounds_toArray, List.set_cons_succ, List.set_cons_zero, Array.getD_eq_getD_getElem?, List.getElem?_toArray, List.getElem?_cons_succ, List.getElem?_cons_zero, Option.getD_some])
      refine wpLoose_nil fun W1 hb1 => ?_
      replace hb1 : Below V.heap.size V W1 := below_undrew (n := 1) hb1
      have hq1 := below_cells hb1
      have y0 := (hq1.1 _ 0 hsV).trans j0
      have y1 := (hq1.1 _ 1 hsV).trans j1
      have y2 := (hq1.1 _ 2 hsV).trans j2
      have x0 := (hq1.2 _ 0 hsV).trans z0
      have x1 := (hq1.2 _ 1 hsV).trans z1
      have x2 := (hq1.2 _ 2 hsV).trans z2
      have hbF : Below w.heap.size w W1 := hbV.trans (hb1.mono hbV.size)
      clear k0 k1 k2 j0 j1 j2 z0 z1 z2 hb1 hq1 hbV hsV hsU
      refine seg_one ?_
      go_wp2_with fail
      rw [atNormal_normal]
      refine seg_one ?_
      go_wp2_with fail
      rw [atNormal_normal]
      refine seg_done ?_
      go_wp2_with fail
      refine bodyPost_ret (by simp [results, Try.results18, go_sem, *] <;> rfl) rfl ?_
      exact ⟨p2, q2, r2, rfl, ⟨hp2, hq2, hr2⟩, ⟨wp2, wq2, wr2⟩, (by repeat (with_reducible first | exact Below.refl _ _ | refine below_drewN ?_ _ | refine Below.drew ?_ | refine below_alloc ?_ _ | refine below_set0 ?_ _ _ | refine below_set1 ?_ _ _ | refine below_set2 ?_ _ _ | refine below_set3 ?_ _ _ | refine below_call (by assumption) ?_ | refine below_step (by assumption) (by assumption) ?_))⟩
theorem law_TurnWay (x y z t : Nat) (w : World) (wx : Wf .f32 x) (wy : Wf .f32 y) (wz : Wf .f32 z) (wt : Wf .f32 t) : Calls Try.prog 4 #[.agg #[.float .f32 x, .float .f32 y, .float .f32 z], .float .f32 t] w (GivesB w true) := by
  have HI := fun w => spinWI_any x y z t w wx wy wz wt
  have HS := fun w => spinWS_any x y z t w wx wy wz wt
  generalize spinOk (can .f32 x) (can .f32 y) (can .f32 z) (can .f32 t) = B at *
  generalize orZ B (rotA (cosF (can .f32 t)) (sineF (can .f32 t)) (can .f32 x) (can .f32 y)) = P at *
  generalize orZ B (rotB (cosF (can .f32 t)) (sineF (can .f32 t)) (can .f32 x) (can .f32 y)) = Q at *
  generalize orZ B (can .f32 z) = R at *
  have HI' := Lib.hid HI
  have HS' := Lib.hid HS
  clear HI HS
  go_enter Try.func4, Try.ntmps4
  go_wp2_with fail
  go_at_call 15
  refine (toWay_any _ _ _ _).mono ?_
  rintro e w1 ⟨rfl, hb1⟩
  obtain ⟨hc1, hf1⟩ := below_cells hb1
  have hs1 : w.heap.size < w1.heap.size := by have := hb1.size; simp at this; omega
  go_wp2_with fail
  go_at_call 18
  refine (HS'.out _).mono ?_
  rintro e w2 ⟨p, q, r, rfl, ⟨hp, hq, hr⟩, ⟨wp, wq, wr⟩, hb2⟩
  obtain ⟨hc2, hf2⟩ := below_cells hb2
  have hs2 : w.heap.size < w2.heap.size := by have := hb2.size; omega
  go_wp2_with fail
  go_at_call 15
  refine (toWay_any _ _ _ _).mono ?_
  rintro e w3 ⟨rfl, hb3⟩
  obtain ⟨hc3, hf3⟩ := below_cells hb3
  have hs3 : w2.heap.size < w3.heap.size := by have := hb3.size; simp at this; omega
  have hs3' : w.heap.size < w3.heap.size := by omega
  go_wp2_with fail
  go_at_call 19
  refine (HI'.out _).mono ?_
  rintro e w4 ⟨p2, q2, r2, rfl, ⟨hp2, hq2, hr2⟩, ⟨wp2, wq2, wr2⟩, hb4⟩
  obtain ⟨hc4, hf4⟩ := below_cells hb4
  have hs4 : w2.heap.size < w4.heap.size := by have := hb4.size; omega
  have hs4' : w.heap.size < w4.heap.size := by omega
  go_wp2_with (first | (refine upon_op rfl ?_; intro r n hr hw; go_simp) | (refine upon_widen Try.underlying22 Try.underlying46 ?_; intro r n hr hw; go_simp) | (go_at_call 17; refine (eqWay_any _ _ _ _ _ _ _).mono ?_; rintro e w' ⟨rfl, hb⟩; obtain ⟨hc, hf⟩ := below_cells hb; have hz := hb.size; (try simp at hz); (try have hz3 := Nat.lt_of_succ_le hz); (try have hz0 : w.heap.size < w'.heap.size := by omega); (try have hz1 : w.heap.size + 1 < w'.heap.size := by omega); (try have hz2 : w.heap.size + 1 + 1 < w'.heap.size := by omega)))
  go_ret
  exact ⟨rfl, (by repeat (with_reducible first | exact Below.refl _ _ | refine below_drewN ?_ _ | refine Below.drew ?_ | refine below_alloc ?_ _ | refine below_set0 ?_ _ _ | refine below_set1 ?_ _ _ | refine below_set2 ?_ _ _ | refine below_set3 ?_ _ _ | refine below_call (by assumption) ?_ | refine below_step (by assumption) (by assumption) ?_))⟩
end Go.Proofs.Ytommbbheanhkjaa
