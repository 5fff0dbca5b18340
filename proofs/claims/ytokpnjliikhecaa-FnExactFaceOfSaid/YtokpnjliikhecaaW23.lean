/- FACES OF A WAY: the program. -/
import Derived.Test.YtokpnjliikhecaaW22
import Derived.Lib.SliceRun
set_option linter.unusedSimpArgs false
set_option linter.unusedVariables false
set_option linter.unnecessarySimpa false
set_option maxRecDepth 20000
namespace Go.Proofs.Ytokpnjliikhecaa
open Go.RowKit Go.Fl

theorem zero_f32 (w : World) : (zeroValue 22).run Try.prog w = .ok (.float .f32 0) w := by kernel_rfl
theorem delete_any (g i : Nat) (x y z : Nat) (w : World) (hc : FB w g [x, y, z]) (hi : i < 3) : Calls Try.prog 67 #[.slice (some ⟨g, 0, none⟩) 3 3, .int .i64 i, .int .i64 ((i : Int) + 1)] w
    (fun e w' => ∃ W, e = .returned (.slice (some ⟨g, 0, none⟩) 2 3) ∧ w' = W ∧ w.grownBy w' (some g) ∧ w'.cell? ⟨g, 0, none⟩ = some (.float .f32 (if i = 0 then y else x)) ∧ w'.cell? ⟨g, 1, none⟩ = some (.float .f32 (if i = 2 then y else z))) := by
  obtain rfl | rfl | rfl : i = 0 ∨ i = 1 ∨ i = 2 := by omega
  all_goals
    have h0 : w.cell? ⟨g, 0, none⟩ = some (.float .f32 x) := hc.cell 0 (by simp)
    have h1 : w.cell? ⟨g, 1, none⟩ = some (.float .f32 y) := hc.cell 1 (by simp)
    have h2 : w.cell? ⟨g, 2, none⟩ = some (.float .f32 z) := hc.cell 2 (by simp)
    have z0 := hc.frozen 0 (by simp)
    have z1 := hc.frozen 1 (by simp)
    have z2 := hc.frozen 2 (by simp)
    have hg := hc.lt
    clear hc
    go_enter Try.func67, Try.ntmps67
    go_wp2_with fail
    refine wp_region_cut [6, 1] (by kernel_rfl) (by kernel_rfl) ?_
    simp only [cuts, List.take_succ_cons, List.take_zero, List.drop_succ_cons, List.drop_zero]
    refine seg_loose (fun _ _ _ => True) ?_
    repeat first
      | (refine wpLoose_want rfl ?_; refine loose_move _ rfl ?_; simp only [Act.put, Act.eval, List.setIfInBounds_toArray, List.set_cons_succ, List.set_cons_zero, Array.getD_eq_getD_getElem?, List.getElem?_toArray, List.getElem?_cons_succ, List.getElem?_cons_zero, Option.getD_some])
      | (refine wpLoose_want rfl ?_; apply loose_val; (· (intro w2 hC2; obtain ⟨hc2, hf2⟩ := below_cells hC2; (try replace hc2 : ∀ b o, b < w.heap.size → w2.cell? ⟨b, o, none⟩ = w.cell? ⟨b, o, none⟩ := hc2); go_simp; try rfl)); simp only [Act.put, Act.eval, List.setIfInBounds_toArray, List.set_cons_succ, List.set_cons_zero, Array.getD_eq_getD_getElem?, List.getElem?_toArray, List.getElem?_cons_succ, List.getElem?_cons_zero, Option.getD_some])
    refine wpLoose_nil fun W hb => ?_
    have e0 := (hb.cell (p := ⟨g, 0, none⟩) hg).trans h0
    have e1 := (hb.cell (p := ⟨g, 1, none⟩) hg).trans h1
    have e2 := (hb.cell (p := ⟨g, 2, none⟩) hg).trans h2
    have y0 := (hb.frozen (p := ⟨g, 0, none⟩) hg).trans z0
    have y1 := (hb.frozen (p := ⟨g, 1, none⟩) hg).trans z1
    have y2 := (hb.frozen (p := ⟨g, 2, none⟩) hg).trans z2
    refine seg_one ?_
    go_wp2_with fail
    rw [atNormal_normal]
    refine seg_one ?_
    go_wp2_with fail
    rw [atNormal_normal]
    refine seg_done ?_
    have hclr : ∀ (W2 : World) ty, (W2.cell? ⟨g, 2, none⟩).isSome = true → W2.frozen? ⟨g, 2, none⟩ = false → (Builtin.clear_ #[32] ty #[.slice (some ⟨g, 2, none⟩) 1 1]).run Try.prog W2 = .ok (.tuple #[]) (W2.setCell ⟨g, 2, none⟩ (.float .f32 0)) := fun W2 ty h1 h2 =>
      Lib.run_clear_slice W2 32 22 ty (.float .f32 0) Try.underlying32 zero_f32 rfl rfl g 2 1 1 (by decide) (fun j hj => by rw [show j = 0 by omega]; exact h1) (fun j hj => by rw [show j = 0 by omega]; exact h2)
    have hgw : w.grownBy W (some g) := ⟨hb.os, hb.tape, hb.output, hb.size, fun k hk _ => hb.block k hk⟩
    have HGW := Lib.hid hgw
    clear hgw
    go_wp2_with fail
    go_ret
    refine ⟨rfl, ?_, by simp [go_sem, e0, e1, e2], by simp [go_sem, e0, e1, e2]⟩
    repeat first
      | exact HGW.out
      | refine grown_set ?_ _
end Go.Proofs.Ytokpnjliikhecaa
