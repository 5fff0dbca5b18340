/- Matrices: their inverses. -/
import Derived.Test.YtommbbheanhkjaaPure7
set_option linter.unusedSimpArgs false
set_option linter.unusedVariables false
set_option linter.unnecessarySimpa false
set_option maxRecDepth 20000
namespace Go.Fl
open Go.RowKit

def at' (xs : List Nat) (i : Nat) : Nat := can .f32 (xs.getD i 0)
def lessF (a b c d : Nat) : Nat := sub (mul a b) (mul c d)
def lessAt (xs : List Nat) (i j k l : Nat) : Nat := lessF (at' xs i) (at' xs j) (at' xs k) (at' xs l)
def detF (xs : List Nat) : Nat := add (add (mul (at' xs 0) (lessAt xs 4 8 5 7)) (mul (at' xs 1) (lessAt xs 5 6 3 8))) (mul (at' xs 2) (lessAt xs 3 7 4 6))
def adjF (xs : List Nat) : List Nat := [lessAt xs 4 8 5 7, lessAt xs 2 7 1 8, lessAt xs 1 5 2 4, lessAt xs 5 6 3 8, lessAt xs 0 8 2 6, lessAt xs 2 3 0 5, lessAt xs 3 7 4 6, lessAt xs 1 6 0 7, lessAt xs 0 4 1 3]
def backF (xs : List Nat) : List Nat := (adjF xs).map (fun x => quo x (detF xs))
def isMat (xs : List Nat) : Bool := decide (xs.length = 9) && allFin xs
def backOk (xs : List Nat) : Bool := isMat xs && !eq .f32 (detF xs) 0 && (backF xs).all (fun x => isFin .f32 x)
def backR (xs : List Nat) : List Nat := if backOk xs = true then backF xs else []
theorem backR_length (xs : List Nat) : (backR xs).length ≤ 1048576 := by unfold backR backF adjF; split <;> simp
theorem backOk_mat {xs : List Nat} (h : isMat xs = false) : backOk xs = false ∧ backR xs = [] := by
  have h1 : backOk xs = false := by unfold backOk; rw [h]; rfl
  exact ⟨h1, by unfold backR; rw [h1]; rfl⟩
theorem backOk_det {xs : List Nat} (h : eq .f32 (detF xs) 0 = true) : backOk xs = false ∧ backR xs = [] := by
  have h1 : backOk xs = false := by unfold backOk; rw [h]; simp
  exact ⟨h1, by unfold backR; rw [h1]; rfl⟩
theorem divs_step {zs ys : List Nat} {k r d : Nat} (hy : ys.length = zs.length) (hk : k < zs.length) (ht : (ys.take k).map (can .f32) = (zs.take k).map (fun x => quo (can .f32 x) d)) (hrest : ∀ j, k ≤ j → ys[j]? = zs[j]?) (hr : can .f32 r = quo (can .f32 zs[k]) d) :
    ((ys.set k r).take (k + 1)).map (can .f32) = (zs.take (k + 1)).map (fun x => quo (can .f32 x) d) ∧ ∀ j, k + 1 ≤ j → (ys.set k r)[j]? = zs[j]? := by
  refine ⟨?_, fun j hj => ?_⟩
  · rw [List.take_succ_eq_append_getElem (by simp; omega), List.take_succ_eq_append_getElem hk, List.take_set_of_le (Nat.le_refl k), List.map_append, List.map_append, ht]
    simp [hr]
  · rw [List.getElem?_set_ne (by omega)]; exact hrest j (by omega)
theorem divs_here {zs ys : List Nat} {k : Nat} (hy : k < ys.length) (hk : k < zs.length) (hrest : ∀ j, k ≤ j → ys[j]? = zs[j]?) : ys[k] = zs[k] := by
  have := hrest k (Nat.le_refl k)
  rw [List.getElem?_eq_getElem hy, List.getElem?_eq_getElem hk] at this
  exact Option.some.inj this
theorem WfAll.set_ {ys : List Nat} {k r : Nat} (h : WfAll ys) (hr : Wf .f32 r) : WfAll (ys.set k r) := fun x hx => by
  rcases List.mem_or_eq_of_mem_set hx with h1 | rfl
  · exact h x h1
  · exact hr
theorem back_of {xs zs ys : List Nat} {d : Nat} (hz : zs.map (can .f32) = adjF xs) (hd : d = detF xs) (h : ys.map (can .f32) = zs.map (fun x => quo (can .f32 x) d)) : ys.map (can .f32) = backF xs := by
  rw [h, hd]; unfold backF; rw [← hz, List.map_map]; rfl
theorem backOk_of {xs ys : List Nat} (hm : isMat xs = true) (hE : eq .f32 (detF xs) 0 = false) (h : ys.map (can .f32) = backF xs) : backOk xs = allFin ys := by
  unfold backOk; rw [hm, hE, allFin_map, h]; rfl
theorem cells9 {w : World} {g m0 m1 m2 m3 m4 m5 m6 m7 m8 : Nat} (h : FB w g [m0, m1, m2, m3, m4, m5, m6, m7, m8]) :
    w.cell? ⟨g, 0, none⟩ = some (.float .f32 m0) ∧ w.cell? ⟨g, 1, none⟩ = some (.float .f32 m1) ∧ w.cell? ⟨g, 2, none⟩ = some (.float .f32 m2) ∧ w.cell? ⟨g, 3, none⟩ = some (.float .f32 m3) ∧ w.cell? ⟨g, 4, none⟩ = some (.float .f32 m4) ∧
    w.cell? ⟨g, 5, none⟩ = some (.float .f32 m5) ∧ w.cell? ⟨g, 6, none⟩ = some (.float .f32 m6) ∧ w.cell? ⟨g, 7, none⟩ = some (.float .f32 m7) ∧ w.cell? ⟨g, 8, none⟩ = some (.float .f32 m8) :=
  ⟨h.cell 0 (by simp), h.cell 1 (by simp), h.cell 2 (by simp), h.cell 3 (by simp), h.cell 4 (by simp), h.cell 5 (by simp), h.cell 6 (by simp), h.cell 7 (by simp), h.cell 8 (by simp)⟩
theorem FB.new9 {w : World} (t : TypeId) (a b c d e f g h i : Nat) : FB (w.alloc (.cells #[.float .f32 a, .float .f32 b, .float .f32 c, .float .f32 d, .float .f32 e, .float .f32 f, .float .f32 g, .float .f32 h, .float .f32 i] t)) w.heap.size [a, b, c, d, e, f, g, h, i] := by
  refine ⟨by simp, fun k hk => ?_, fun k _ => World.frozen?_alloc_at _ _ _ _ rfl⟩
  rw [World.cell?_alloc_at _ _ _ _ rfl]
  match k, hk with
  | 0, _ => rfl
  | 1, _ => rfl
  | 2, _ => rfl
  | 3, _ => rfl
  | 4, _ => rfl
  | 5, _ => rfl
  | 6, _ => rfl
  | 7, _ => rfl
  | 8, _ => rfl
theorem WfAll.nine {a b c d e f g h i : Nat} (ha : Wf .f32 a) (hb : Wf .f32 b) (hc : Wf .f32 c) (hd : Wf .f32 d) (he : Wf .f32 e) (hf : Wf .f32 f) (hg : Wf .f32 g) (hh : Wf .f32 h) (hi : Wf .f32 i) : WfAll [a, b, c, d, e, f, g, h, i] := by
  intro x hx
  simp only [List.mem_cons, List.not_mem_nil, or_false] at hx
  rcases hx with rfl | rfl | rfl | rfl | rfl | rfl | rfl | rfl | rfl <;> assumption
end Go.Fl
