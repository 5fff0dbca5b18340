/- Bands, turned. -/
import Derived.Test.YtommbbheanhkjaaPure15
import Derived.Test.YtommbbheanhkjaaPure8
set_option linter.unusedSimpArgs false
set_option linter.unusedVariables false
set_option linter.unnecessarySimpa false
set_option maxRecDepth 20000
namespace Go.Fl
open Go.RowKit

def bAt (xs : List Nat) (i : Nat) : Nat := can .f32 (xs.getD i 0)
def pA (c s : Nat) (xs : List Nat) (i k : Nat) : Nat := rotA c s (bAt xs i) (bAt xs k)
def pB (c s : Nat) (xs : List Nat) (i k : Nat) : Nat := rotB c s (bAt xs i) (bAt xs k)
def twice (t : Nat) : Nat := Fl.mul 1073741824 t
def tbF (xs : List Nat) (t : Nat) : List Nat :=
  [bAt xs 0, pA (cosF t) (sineF t) xs 1 3, bAt xs 2, pB (cosF t) (sineF t) xs 1 3, pA (cosF (twice t)) (sineF (twice t)) xs 4 8,
   pA (cosF t) (sineF t) xs 5 7, bAt xs 6, pB (cosF t) (sineF t) xs 5 7, pB (cosF (twice t)) (sineF (twice t)) xs 4 8]
def tbOk (xs : List Nat) (t : Nat) : Bool := (decide (xs.length = 9) && allFin xs) && isFin .f32 t && (tbF xs t).all (fun x => isFin .f32 x)
def tbR (xs : List Nat) (t : Nat) : List Nat := if tbOk xs t = true then tbF xs t else []
theorem tbR_length (xs : List Nat) (t : Nat) : (tbR xs t).length ≤ 1048576 := by unfold tbR tbF; split <;> simp
theorem grown_drewN {w w' : World} {r : Option Nat} (h : w.grownBy w' r) (n : Nat) : w.grownBy (w'.drewN n) r := ⟨h.os, h.tape, h.output, h.size, h.block⟩
theorem grown_drew {w w' : World} {r : Option Nat} (h : w.grownBy w' r) : w.grownBy w'.drew r := ⟨h.os, h.tape, h.output, h.size, h.block⟩
theorem grown_refl (w : World) (r : Option Nat) : w.grownBy w r := ⟨rfl, rfl, rfl, Nat.le_refl _, fun _ _ _ => rfl⟩
theorem cells_of {w : World} {g : Nat} {xs : List Nat} (h : FB w g xs) : ∀ (j : Nat) (u : Value), (xs.map (Value.float .f32))[j]? = some u → w.cell? ((⟨g, 0, none⟩ : Addr).add j) = some u := by
  intro j u hj
  rw [List.getElem?_map] at hj
  cases hx : xs[j]? with
  | none => rw [hx] at hj; cases hj
  | some x =>
    rw [hx] at hj
    obtain rfl : Value.float .f32 x = u := by simpa using hj
    obtain ⟨hl, rfl⟩ := List.getElem?_eq_some_iff.1 hx
    have := h.cell j hl
    by_cases h0 : j = 0
    · subst h0; simpa [Addr.add] using this
    · simpa [Addr.add, h0] using this
theorem one_cells (xs : List Nat) : ∀ u ∈ xs.map (Value.float .f32), u.oneCell' = true := by
  intro u hu
  simp only [List.mem_map] at hu
  obtain ⟨x, _, rfl⟩ := hu
  rfl
theorem grown_cell {w w' : World} {g b o : Nat} (h : w.grownBy w' (some g)) (hb : b < w.heap.size) (hne : b ≠ g) : w'.cell? ⟨b, o, none⟩ = w.cell? ⟨b, o, none⟩ :=
  World.cell?_of_block (a := ⟨b, o, none⟩) (h.block b hb (by simpa using hne))
/-- What a pair's turn leaves. -/
def Paired (w : World) (g i k : Nat) (ys : List Nat) (C D : Nat) (e : Ending) (w' : World) : Prop :=
  ∃ p q, e = .returned (.tuple #[]) ∧ FB w' g ((ys.set i p).set k q) ∧ (can .f32 p = rotA C D (can .f32 (ys.getD i 0)) (can .f32 (ys.getD k 0)) ∧ can .f32 q = rotB C D (can .f32 (ys.getD i 0)) (can .f32 (ys.getD k 0))) ∧ (Wf .f32 p ∧ Wf .f32 q) ∧ w.grownBy w' (some g)
end Go.Fl
