/- ROOTS AND UNITS. -/
import Derived.Test.YtommbbheanhkjaaW12
import Derived.Test.YtommbbheanhkjaaPure7
set_option linter.unusedSimpArgs false
set_option linter.unusedVariables false
set_option linter.unnecessarySimpa false
set_option maxRecDepth 20000
namespace Go.Proofs.Ytommbbheanhkjaa
open Go.RowKit Go.Fl

theorem sqrt_entry (x : Nat) (w : World) : (callFunc 130 #[.float .f64 x]).run Try.prog w = (Sem.run Try.prog (Extern.MathSqrt.sqrt #[.float .f64 x]) w).andThen fun v w' => .ok (.value v) w' :=
  run_callFunc_extern Try.func130 (by kernel_rfl) (by kernel_rfl) (by kernel_rfl) (e := Extern.MathSqrt.sqrt) (by kernel_rfl) _ w
theorem sqrt_run (x : Nat) (w : World) : ∃ r n, (callFunc 130 #[.float .f64 x]).run Try.prog w = .ok (.value (.float .f64 r)) (w.drewN n) ∧ can .f64 r = sqrtW (can .f64 x) ∧ Wf .f64 r := by
  obtain ⟨r, n, h1, h2, h3⟩ := run_mathSqrt (P := Try.prog) x w
  exact ⟨r, n, by rw [sqrt_entry, h1]; rfl, h2, h3⟩
theorem upon_sqrt {o : Oper} {a : Act} {K : Act → World → Prop} {Q : Exit → Act → World → Prop} {w : World} {x : Nat} (h : ∀ r n, can .f64 r = sqrtW (can .f64 x) → Wf .f64 r → K (a.put o.dst (.float .f64 r)) (w.drewN n)) :
    Oper.upon Try.prog o a K Q (Sem.run Try.prog (callFunc 130 #[.float .f64 x]) w) := by
  obtain ⟨r, n, hr, hc, hw⟩ := sqrt_run x w
  rw [hr]
  exact h r n hc hw
theorem mathSqrt_any (x : Nat) (w : World) : Calls Try.prog 120 #[.float .f64 x] w (RetF .f64 w (sqrtW (can .f64 x))) := by
  go_enter Try.func120, Try.ntmps120
  go_wp2_with (refine upon_sqrt ?_; intro r n hr hw; go_simp)
  go_ret
  exact retF_mk (by assumption) (by assumption)
theorem rootI_any (x : Nat) (w : World) (hx : Wf .f32 x) : Calls Try.prog 101 #[.float .f32 x] w (RetF .f32 w (rootF (can .f32 x))) := by
  unfold rootF
  have hok := Lib.hid (sqrt_ok (wf_can hx))
  clear hx
  go_enter Try.func101, Try.ntmps101
  go_wp2_with (first | (refine upon_widen Try.underlying22 Try.underlying46 ?_; intro r n hr hw; go_simp) | (go_at_call 120; refine (mathSqrt_any _ _).mono ?_; rintro e w' ⟨q, n, rfl, rfl, hq, hwq⟩) | (refine upon_narrow Try.underlying46 Try.underlying22 (by rw [hq, hr]; exact hok.out) ?_; intro t n ht hwt; go_simp))
  go_ret
  exact retF_mk (by simp only [*]) (by assumption)
theorem l01Narrow_any (x : Nat) (w : World) (hok : narrowOk (can .f64 x) = true) : Calls Try.prog 103 #[.float .f64 x] w (RetF .f32 w (narrow (can .f64 x))) := by
  have Hok := Lib.hid hok
  clear hok
  go_enter Try.func103, Try.ntmps103
  go_wp2_with (refine upon_narrow Try.underlying46 Try.underlying22 Hok.out ?_; intro t n ht hwt; go_simp)
  go_ret
  exact retF_mk (by assumption) (by assumption)
theorem rootS_any (x : Nat) (w : World) (hx : Wf .f32 x) : Calls Try.prog 94 #[.float .f32 x] w (RetF .f32 w (rootF (can .f32 x))) := by
  unfold rootF
  have hok := Lib.hid (sqrt_ok (wf_can hx))
  clear hx
  go_enter Try.func94, Try.ntmps94
  go_wp2_with (first | (refine upon_widen Try.underlying22 Try.underlying46 ?_; intro r n hr hw; go_simp) | (go_at_call 120; refine (mathSqrt_any _ _).mono ?_; rintro e w' ⟨q, n, rfl, rfl, hq, hwq⟩) | (go_at_call 103; refine (l01Narrow_any _ _ (by rw [hq, hr]; exact hok.out)).mono ?_; rintro e w' ⟨t, n, rfl, rfl, ht, hwt⟩))
  go_ret
  exact retF_mk (by simp only [*]) (by assumption)
theorem wayOrFail_any (x y z : Nat) (w : World) (wx : Wf .f32 x) (wy : Wf .f32 y) (wz : Wf .f32 z) : Calls Try.prog 56 #[.agg #[.float .f32 x, .float .f32 y, .float .f32 z]] w
    (GivesW w (orZ (isWay (can .f32 x) (can .f32 y) (can .f32 z)) (can .f32 x)) (orZ (isWay (can .f32 x) (can .f32 y) (can .f32 z)) (can .f32 y)) (orZ (isWay (can .f32 x) (can .f32 y) (can .f32 z)) (can .f32 z)) (isWay (can .f32 x) (can .f32 y) (can .f32 z))) := by
  cases hB : isWay (can .f32 x) (can .f32 y) (can .f32 z)
  · go_enter Try.func56, Try.ntmps56
    go_wp2_with (first | (refine upon_op rfl ?_; intro r n hr hw; go_simp) | (refine upon_widen Try.underlying22 Try.underlying46 ?_; intro r n hr hw; go_simp) | (go_at_call 54; refine (isWayI_any _ _ _ _ (by assumption) (by assumption) (by assumption)).mono ?_; rintro e w' ⟨rfl, hb⟩; obtain ⟨hc, hf⟩ := below_cells hb; have hz := hb.size; (try simp at hz); (try have hz3 := Nat.lt_of_succ_le hz); (try have hz0 : w.heap.size < w'.heap.size := by omega); (try have hz1 : w.heap.size + 1 < w'.heap.size := by omega); (try have hz2 : w.heap.size + 1 + 1 < w'.heap.size := by omega)))
    exact bodyPost_ret (by simp [results, Try.results56, go_sem, *]) rfl ⟨0, 0, 0, rfl, ⟨by simp [orZ, can_zero], by simp [orZ, can_zero], by simp [orZ, can_zero]⟩, wf_zero3, (by repeat (with_reducible first | exact Below.refl _ _ | refine below_drewN ?_ _ | refine Below.drew ?_ | refine below_alloc ?_ _ | refine below_set0 ?_ _ _ | refine below_set1 ?_ _ _ | refine below_set2 ?_ _ _ | refine below_set3 ?_ _ _ | refine below_call (by assumption) ?_ | refine below_step (by assumption) (by assumption) ?_))⟩
  · go_enter Try.func56, Try.ntmps56
    go_wp2_with (first | (refine upon_op rfl ?_; intro r n hr hw; go_simp) | (refine upon_widen Try.underlying22 Try.underlying46 ?_; intro r n hr hw; go_simp) | (go_at_call 54; refine (isWayI_any _ _ _ _ (by assumption) (by assumption) (by assumption)).mono ?_; rintro e w' ⟨rfl, hb⟩; obtain ⟨hc, hf⟩ := below_cells hb; have hz := hb.size; (try simp at hz); (try have hz3 := Nat.lt_of_succ_le hz); (try have hz0 : w.heap.size < w'.heap.size := by omega); (try have hz1 : w.heap.size + 1 < w'.heap.size := by omega); (try have hz2 : w.heap.size + 1 + 1 < w'.heap.size := by omega)))
    exact bodyPost_ret (by simp [results, Try.results56, go_sem, *]) rfl ⟨x, y, z, rfl, ⟨rfl, rfl, rfl⟩, ⟨wx, wy, wz⟩, (by repeat (with_reducible first | exact Below.refl _ _ | refine below_drewN ?_ _ | refine Below.drew ?_ | refine below_alloc ?_ _ | refine below_set0 ?_ _ _ | refine below_set1 ?_ _ _ | refine below_set2 ?_ _ _ | refine below_set3 ?_ _ _ | refine below_call (by assumption) ?_ | refine below_step (by assumption) (by assumption) ?_))⟩
theorem l06Give_any (x y z : Nat) (w : World) (wx : Wf .f32 x) (wy : Wf .f32 y) (wz : Wf .f32 z) : Calls Try.prog 50 #[.agg #[.float .f32 x, .float .f32 y, .float .f32 z]] w
    (GivesW w (orZ (isWay (can .f32 x) (can .f32 y) (can .f32 z)) (can .f32 x)) (orZ (isWay (can .f32 x) (can .f32 y) (can .f32 z)) (can .f32 y)) (orZ (isWay (can .f32 x) (can .f32 y) (can .f32 z)) (can .f32 z)) (isWay (can .f32 x) (can .f32 y) (can .f32 z))) := by
  cases hB : isWay (can .f32 x) (can .f32 y) (can .f32 z)
  · go_enter Try.func50, Try.ntmps50
    go_wp2_with (first | (refine upon_op rfl ?_; intro r n hr hw; go_simp) | (refine upon_widen Try.underlying22 Try.underlying46 ?_; intro r n hr hw; go_simp) | (go_at_call 48; refine (l06Is_any _ _ _ _).mono ?_; rintro e w' ⟨rfl, hb⟩; obtain ⟨hc, hf⟩ := below_cells hb; have hz := hb.size; (try simp at hz); (try have hz3 := Nat.lt_of_succ_le hz); (try have hz0 : w.heap.size < w'.heap.size := by omega); (try have hz1 : w.heap.size + 1 < w'.heap.size := by omega); (try have hz2 : w.heap.size + 1 + 1 < w'.heap.size := by omega)))
    exact bodyPost_ret (by simp [results, Try.results50, go_sem, *]) rfl ⟨0, 0, 0, rfl, ⟨by simp [orZ, can_zero], by simp [orZ, can_zero], by simp [orZ, can_zero]⟩, wf_zero3, (by repeat (with_reducible first | exact Below.refl _ _ | refine below_drewN ?_ _ | refine Below.drew ?_ | refine below_alloc ?_ _ | refine below_set0 ?_ _ _ | refine below_set1 ?_ _ _ | refine below_set2 ?_ _ _ | refine below_set3 ?_ _ _ | refine below_call (by assumption) ?_ | refine below_step (by assumption) (by assumption) ?_))⟩
  · go_enter Try.func50, Try.ntmps50
    go_wp2_with (first | (refine upon_op rfl ?_; intro r n hr hw; go_simp) | (refine upon_widen Try.underlying22 Try.underlying46 ?_; intro r n hr hw; go_simp) | (go_at_call 48; refine (l06Is_any _ _ _ _).mono ?_; rintro e w' ⟨rfl, hb⟩; obtain ⟨hc, hf⟩ := below_cells hb; have hz := hb.size; (try simp at hz); (try have hz3 := Nat.lt_of_succ_le hz); (try have hz0 : w.heap.size < w'.heap.size := by omega); (try have hz1 : w.heap.size + 1 < w'.heap.size := by omega); (try have hz2 : w.heap.size + 1 + 1 < w'.heap.size := by omega)))
    exact bodyPost_ret (by simp [results, Try.results50, go_sem, *]) rfl ⟨x, y, z, rfl, ⟨rfl, rfl, rfl⟩, ⟨wx, wy, wz⟩, (by repeat (with_reducible first | exact Below.refl _ _ | refine below_drewN ?_ _ | refine Below.drew ?_ | refine below_alloc ?_ _ | refine below_set0 ?_ _ _ | refine below_set1 ?_ _ _ | refine below_set2 ?_ _ _ | refine below_set3 ?_ _ _ | refine below_call (by assumption) ?_ | refine below_step (by assumption) (by assumption) ?_))⟩
end Go.Proofs.Ytommbbheanhkjaa
