/- Rows of floats in memory: what a slice reads, and blocks that a call has made. -/
import Derived.Test.YtommbbheanhkjaaPure3
import Derived.Deep.RegionHeld
import Derived.OwnWalk
import Derived.Laws.MakeOwn
set_option linter.unusedSimpArgs false
set_option linter.unusedVariables false
set_option linter.unnecessarySimpa false
set_option maxRecDepth 20000
namespace Go.Fl
open Go.RowKit

theorem block_add (a : Addr) (n : Nat) : (a.add n).block = a.block := by unfold Addr.add; split <;> rfl

/-- What a slice at A reads. -/
def RS (w : World) (A : Option Addr) (xs : List Nat) : Prop :=
  ∀ (k : Nat) (h : k < xs.length), ∃ ad, A = some ad ∧ ad.block < w.heap.size ∧ w.cell? (ad.add k) = some (.float .f32 xs[k])

theorem RS.nil (w : World) (A : Option Addr) : RS w A [] := fun k h => absurd h (by simp)
theorem RS.keep {w w' : World} {A : Option Addr} {xs : List Nat} (h : RS w A xs) (hs : w.heap.size ≤ w'.heap.size) (hk : ∀ p : Addr, p.block < w.heap.size → w'.cell? p = w.cell? p) : RS w' A xs := fun k hl => by
  obtain ⟨ad, e, hb, hc⟩ := h k hl
  exact ⟨ad, e, by omega, (hk _ (by rw [block_add]; exact hb)).trans hc⟩
theorem RS.drewN {w : World} {A : Option Addr} {xs : List Nat} (h : RS w A xs) (n : Nat) : RS (w.drewN n) A xs := h
theorem RS.drew {w : World} {A : Option Addr} {xs : List Nat} (h : RS w A xs) : RS w.drew A xs := h
theorem RS.up {w w' : World} {A : Option Addr} {xs : List Nat} (hb : Below w.heap.size w w') (h : RS w A xs) : RS w' A xs := h.keep hb.size fun _ hp => hb.cell hp
theorem RS.alloc {w : World} {A : Option Addr} {xs : List Nat} (h : RS w A xs) (o : Obj) : RS (w.alloc o) A xs := RS.up ((Below.refl _ _).alloc (Nat.le_refl _) o) h

/-- A block that a call has made: its first cells are the floats, none is frozen. -/
structure FB (w : World) (g : Nat) (xs : List Nat) : Prop where
  lt : g < w.heap.size
  cell : ∀ (k : Nat) (h : k < xs.length), w.cell? ⟨g, k, none⟩ = some (.float .f32 xs[k])
  frozen : ∀ k, k < xs.length → w.frozen? ⟨g, k, none⟩ = false

theorem FB.rs {w : World} {g : Nat} {xs : List Nat} (h : FB w g xs) : RS w (some ⟨g, 0, none⟩) xs := fun k hl =>
  ⟨_, rfl, h.lt, by rw [show (⟨g, 0, none⟩ : Addr).add k = ⟨g, k, none⟩ by unfold Addr.add; split <;> simp_all]; exact h.cell k hl⟩
theorem FB.fs {w : World} {g : Nat} {xs : List Nat} (h : FB w g xs) : FS w g 0 xs := fun k hl => by rw [Nat.zero_add]; exact h.cell k hl
theorem FB.drewN {w : World} {g : Nat} {xs : List Nat} (h : FB w g xs) (n : Nat) : FB (w.drewN n) g xs := ⟨h.lt, h.cell, h.frozen⟩
theorem FB.drew {w : World} {g : Nat} {xs : List Nat} (h : FB w g xs) : FB w.drew g xs := ⟨h.lt, h.cell, h.frozen⟩
theorem FB.keep {w w' : World} {g : Nat} {xs : List Nat} (h : FB w g xs) (hs : w.heap.size ≤ w'.heap.size) (hb : w'.heap[g]? = w.heap[g]?) : FB w' g xs :=
  ⟨Nat.lt_of_lt_of_le h.lt hs, fun k hl => (World.cell?_of_block (a := ⟨g, k, none⟩) hb).trans (h.cell k hl), fun k hl => (World.frozen?_of_block (a := ⟨g, k, none⟩) hb).trans (h.frozen k hl)⟩
theorem FB.up {w w' : World} {g : Nat} {xs : List Nat} (hb : Below w.heap.size w w') (h : FB w g xs) : FB w' g xs := h.keep hb.size (hb.block _ h.lt)
theorem FB.alloc {w : World} {g : Nat} {xs : List Nat} (h : FB w g xs) (o : Obj) : FB (w.alloc o) g xs := FB.up ((Below.refl _ _).alloc (Nat.le_refl _) o) h
theorem FB.far {w : World} {g : Nat} {xs : List Nat} (h : FB w g xs) {p : Addr} (hp : g ≠ p.block) (u : Value) : FB (w.setCell p u) g xs := h.keep (by simp) (Below.heap_setCell w p u g hp)
theorem FB.set_ {w : World} {g : Nat} {xs : List Nat} (h : FB w g xs) {k : Nat} (hk : k < xs.length) (x : Nat) : FB (w.setCell ⟨g, k, none⟩ (.float .f32 x)) g (xs.set k x) := by
  refine ⟨by simp [h.lt], fun j hj => ?_, fun j hj => ?_⟩
  · have hj' : j < xs.length := by simpa using hj
    by_cases e : k = j
    · subst e
      rw [World.cell?_setCell_same w ⟨g, k, none⟩ _ (h.cell k hk), List.getElem_set_self]
    · rw [World.cell?_setCell_other w _ _ _ (by simpa using e), h.cell j hj', List.getElem_set_ne e]
  · rw [World.frozen?_setCell]
    exact h.frozen j (by simpa using hj)
theorem FB.new {w : World} (t : TypeId) (n : Nat) : FB (w.alloc (.cells (madeCells #[.float .f32 0] n) t)) w.heap.size (List.replicate n 0) := by
  refine ⟨by simp, fun k hk => ?_, fun k _ => ?_⟩
  · have hk' : k < n := by simpa using hk
    rw [World.cell?_alloc_at _ _ _ _ rfl]
    simp [madeCells, hk', Nat.mod_one]
  · exact World.frozen?_alloc_at _ _ _ _ rfl

/-- A slice at A of the call's own: it reads the floats, and may be written. -/
def Own (w : World) (A : Option Addr) (xs : List Nat) : Prop := (A = none ∧ xs = []) ∨ ∃ g, A = some ⟨g, 0, none⟩ ∧ FB w g xs
theorem FB.own {w : World} {g : Nat} {xs : List Nat} (h : FB w g xs) : Own w (some ⟨g, 0, none⟩) xs := .inr ⟨g, rfl, h⟩
theorem Own.nil (w : World) : Own w none [] := .inl ⟨rfl, rfl⟩
theorem Own.rs {w : World} {A : Option Addr} {xs : List Nat} (h : Own w A xs) : RS w A xs := by
  rcases h with ⟨_, rfl⟩ | ⟨g, rfl, h⟩
  · exact RS.nil _ _
  · exact h.rs
theorem Own.up {w w' : World} {A : Option Addr} {xs : List Nat} (hb : Below w.heap.size w w') (h : Own w A xs) : Own w' A xs := by
  rcases h with h | ⟨g, e, h⟩
  · exact .inl h
  · exact .inr ⟨g, e, h.up hb⟩
theorem FB.grown {w w' : World} {g : Nat} {xs : List Nat} {row : Option Nat} (h : FB w g xs) (hg : w.grownBy w' row) (hn : some g ≠ row) : FB w' g xs := h.keep hg.size (hg.block g h.lt hn)
/-- The block of a slice. -/
def blk (A : Option Addr) : Option Nat := A.map (·.block)
theorem below_grown {B : Nat} {w0 w w' : World} {A : Option Addr} (h : Below B w0 w) (hg : w.grownBy w' (blk A)) (hB : B ≤ w.heap.size) (hr : ∀ k, blk A = some k → B ≤ k) : Below B w0 w' := h.grown hg hB hr
theorem grown_set {w w' : World} {g k : Nat} (h : w.grownBy w' (some g)) (u : Value) : w.grownBy (w'.setCell ⟨g, k, none⟩ u) (some g) :=
  ⟨h.os, h.tape, h.output, by simpa using h.size, fun j hj hn => (Below.heap_setCell w' ⟨g, k, none⟩ u j (fun e => hn (by rw [e]))).trans (h.block j hj hn)⟩
/-- The numbers from k on. -/
def marks (k : Int) (n : Nat) : List Nat := (List.range n).map fun (j : Nat) => floatOfInt .f32 (k + (j : Int))
theorem marks_length (k : Int) (n : Nat) : (marks k n).length = n := by simp [marks]
theorem marks_get (k : Int) {n j : Nat} (h : j < (marks k n).length) : (marks k n)[j] = floatOfInt .f32 (k + j) := by simp [marks]
theorem marks_succ (k : Int) (n : Nat) : marks k (n + 1) = marks k n ++ [floatOfInt .f32 (k + n)] := by simp [marks, List.range_succ]
theorem bad_ofInt (k : FloatKind) (n : Int) : bad k (floatOfInt k n) = false := bad_encode k _ _ _
theorem can_ofInt (k : FloatKind) (n : Int) : can k (floatOfInt k n) = floatOfInt k n := can_of_not (bad_ofInt k n)
theorem eq_ofInt (k : FloatKind) (n : Int) : eq k (floatOfInt k n) (floatOfInt k n) = true := by rw [eq_refl_bad (wf_ofInt k n), bad_ofInt]; rfl

theorem take_mark_succ {ys : List Nat} {k : Int} {j : Nat} (hj : j < ys.length) (h : ys.take j = marks k j) : (ys.set j (floatOfInt .f32 (k + j))).take (j + 1) = marks k (j + 1) := by
  rw [List.take_succ_eq_append_getElem (by simp; omega), List.take_set_of_le (Nat.le_refl j), h, List.getElem_set_self, marks_succ]
theorem take_set_succ {ys xs : List Nat} {k : Nat} (hl : ys.length = xs.length) (hk : k < xs.length) (h : ys.take k = xs.take k) : (ys.set k xs[k]).take (k + 1) = xs.take (k + 1) := by
  rw [List.take_succ_eq_append_getElem (by simp; omega), List.take_succ_eq_append_getElem hk, List.take_set_of_le (Nat.le_refl k), h, List.getElem_set_self]

/-- 'make([]float32, n)'. -/
theorem wpList_make_f {P : Program} (w : World) {ops : Array Oper} {rest : List Oper} {o : Oper} {a : Act} {Q : Exit → Act → World → Prop}
    (hg : o.guard = none) (l c : Operand) (t : TypeId) (hop : o.op = Op.makeSlice t l c)
    (e : TypeId) (i : TypeInfo) (h1 : P.underlying t = some (.slice e)) (h2 : P.info? e = some i) (h3 : i.zero = some (.float .f32 0)) (h4 : i.size = 1) (h5 : i.bytes = 4)
    (kl kc : IntKind) (L C : Int) (n : Nat) (hl : a.eval l = .int kl L) (hc : a.eval c = .int kc C) (hL : L = (n : Int)) (hC : C = (n : Int)) (b2 : n ≤ 1048576)
    (hK : ∀ w', FB w' w.heap.size (List.replicate n 0) → Below w.heap.size w w' → wpList P ops Q rest (a.put o.dst (.slice (some ⟨w.heap.size, 0, none⟩) n n)) w') :
    wpList P ops Q (o :: rest) a w := by
  refine wpList_plain hg fun K hK' => ?_
  have hrun := run_make (P := P) w t e i (.float .f32 0) h1 h2 h3 kl kc n n (by omega) (by omega) (by rw [h5]; omega) (by omega)
  subst hL
  subst hC
  simp only [Int.toNat_natCast, h4, Nat.mul_one] at hrun
  unfold Oper.wp
  simp only [execOp, hop, hl, hc, Sem.run_bind, Sem.run_pure, Result.andThen_ok, hrun]
  exact hK' _ _ (hK _ (FB.new e n) ((Below.refl _ _).alloc (Nat.le_refl _) _))
end Go.Fl
