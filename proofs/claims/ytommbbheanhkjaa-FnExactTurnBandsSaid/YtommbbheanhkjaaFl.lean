/- Floats up to the bits of a not-a-number: plain facts on the model's own operations, and the walk's laws for them. -/
import Derived.WalkKit
import Derived.WalkSpells
import Derived.WalkLawsBesides
import Derived.Deep.Draws
import Derived.Laws.EntriesVeiled
set_option linter.unusedSimpArgs false
set_option linter.unusedVariables false
set_option linter.unnecessarySimpa false
set_option maxRecDepth 20000
namespace Go.Fl
open Go.RowKit

/-- The word of the one not-a-number. -/
def qnan : FloatKind → Nat
  | .f32 => 2143289344
  | .f64 => 9221120237041090560

/-- A word with the bits of a not-a-number forgotten. -/
def can (k : FloatKind) (b : Nat) : Nat := if (k.decode b).isNaN then qnan k else b

/-- The word fits its kind. -/
def Wf (k : FloatKind) (r : Nat) : Prop := (Lit.float k r).wf = true

theorem decode_qnan (k : FloatKind) : (k.decode (qnan k)).isNaN = true := by cases k <;> decide +kernel

theorem can_can (k : FloatKind) (r : Nat) : can k (can k r) = can k r := by
  unfold can
  by_cases h : (k.decode r).isNaN = true
  · simp [h, decode_qnan]
  · simp [h]

theorem can_nan (k : FloatKind) (r : Nat) : (k.decode (can k r)).isNaN = (k.decode r).isNaN := by
  unfold can
  split
  · rename_i hn; rw [decode_qnan, hn]
  · rfl

theorem can_of_nan {k : FloatKind} {r : Nat} (h : (k.decode r).isNaN = true) : can k r = qnan k := by unfold can; rw [if_pos h]
theorem can_of_not {k : FloatKind} {r : Nat} (h : (k.decode r).isNaN = false) : can k r = r := by unfold can; rw [h]; rfl

/-- The pure operation. -/
def op (b : BinOp) (k : FloatKind) (x y : Nat) : Nat := can k ((floatBits b k x y).getD (qnan k))

theorem floatBits_nan_left {b : BinOp} {k : FloatKind} {x y : Nat} (h : (k.decode x).isNaN = true) : floatBits b k x y = none := by
  have h' : (k.format.read x).isNaN = true := h
  unfold floatBits
  cases hr : k.format.read x <;> simp [hr, Ieee.Datum.isNaN] at h'
  cases b <;> simp only [Ieee.Format.add, Ieee.Format.sub, Ieee.Format.mul, Ieee.Format.div, hr, Ieee.Datum.sum, Ieee.Datum.product, Ieee.Datum.quotient, Option.map_none]

theorem floatBits_nan_right {b : BinOp} {k : FloatKind} {x y : Nat} (h : (k.decode y).isNaN = true) : floatBits b k x y = none := by
  have h' : (k.format.read y).isNaN = true := h
  unfold floatBits
  cases hr : k.format.read y <;> simp [hr, Ieee.Datum.isNaN] at h'
  cases hx : k.format.read x <;> cases b <;> simp [Ieee.Format.add, Ieee.Format.sub, Ieee.Format.mul, Ieee.Format.div, hr, hx, Ieee.Datum.sum, Ieee.Datum.product, Ieee.Datum.quotient, Ieee.Datum.opposite]

theorem floatBits_can (b : BinOp) (k : FloatKind) (x y : Nat) : floatBits b k (can k x) (can k y) = floatBits b k x y := by
  cases nx : (k.decode x).isNaN
  · cases ny : (k.decode y).isNaN
    · rw [can_of_not nx, can_of_not ny]
    · rw [floatBits_nan_right ny, floatBits_nan_right (by rw [can_nan]; exact ny)]
  · rw [floatBits_nan_left nx, floatBits_nan_left (by rw [can_nan]; exact nx)]

theorem read_isNaN (k : FloatKind) (b : Nat) : (k.decode b).isNaN = decide (k.format.infRung < b % k.format.signWeight) := by
  have hb : k.format.binade ≤ k.format.infRung := by cases k <;> decide +kernel
  show (k.format.read b).isNaN = _
  unfold Ieee.Format.read
  dsimp only
  split
  · simp only [Ieee.Datum.isNaN]; symm; simp; omega
  · split
    · simp only [Ieee.Datum.isNaN]; symm; simp; omega
    · split
      · simp only [Ieee.Datum.isNaN]; symm; simp; omega
      · simp only [Ieee.Datum.isNaN]; symm; simp; omega

theorem f32_inf : FloatKind.f32.format.infRung = 2139095040 := by decide +kernel
theorem f32_sw : FloatKind.f32.format.signWeight = 2147483648 := by decide +kernel
theorem f64_inf : FloatKind.f64.format.infRung = 9218868437227405312 := by decide +kernel
theorem f64_sw : FloatKind.f64.format.signWeight = 9223372036854775808 := by decide +kernel

/-- A choice of a not-a-number's bits is a not-a-number, and fits. -/
theorem cut_nan (k : FloatKind) (x y t : Nat) : (k.decode ((Question.nanBits k x y).cut t)).isNaN = true ∧ Wf k ((Question.nanBits k x y).cut t) := by
  cases k
  · have h1 : (t / 2) % (2 ^ 23 - 1) < 2 ^ 23 - 1 := Nat.mod_lt _ (by decide)
    have h2 : t % 2 = 0 ∨ t % 2 = 1 := by omega
    refine ⟨?_, wf_of_lt .f32 _ ?_⟩
    · rw [read_isNaN, f32_inf, f32_sw]
      show decide (2139095040 < ((t % 2) * 2 ^ 31 + 0x7f800000 + 1 + (t / 2) % (2 ^ 23 - 1)) % 2147483648) = true
      generalize (t / 2) % (2 ^ 23 - 1) = u at *
      simp; omega
    · show ((t % 2) * 2 ^ 31 + 0x7f800000 + 1 + (t / 2) % (2 ^ 23 - 1)) < 2 ^ 32
      generalize (t / 2) % (2 ^ 23 - 1) = u at *
      omega
  · have h1 : (t / 2) % (2 ^ 52 - 1) < 2 ^ 52 - 1 := Nat.mod_lt _ (by decide)
    have h2 : t % 2 = 0 ∨ t % 2 = 1 := by omega
    refine ⟨?_, wf_of_lt .f64 _ ?_⟩
    · rw [read_isNaN, f64_inf, f64_sw]
      show decide (9218868437227405312 < ((t % 2) * 2 ^ 63 + 0x7ff0000000000000 + 1 + (t / 2) % (2 ^ 52 - 1)) % 9223372036854775808) = true
      generalize (t / 2) % (2 ^ 52 - 1) = u at *
      simp; omega
    · show ((t % 2) * 2 ^ 63 + 0x7ff0000000000000 + 1 + (t / 2) % (2 ^ 52 - 1)) < 2 ^ 64
      generalize (t / 2) % (2 ^ 52 - 1) = u at *
      omega

@[reducible] def arith : BinOp → Bool
  | .add | .sub | .mul | .quo => true
  | _ => false

/-- '+ - * /' on any floats: the pure value, but for the bits of a not-a-number; at most one draw. -/
theorem run_floatArith {P : Program} {b : BinOp} (hb : arith b = true) (k : FloatKind) (x y : Nat) (w : World) :
    ∃ r n, (Op.floatArith b k x y).run P w = .ok (.float k r) (w.drewN n) ∧ can k r = op b k (can k x) (can k y) ∧ Wf k r := by
  cases h : floatBits b k x y with
  | some r =>
    refine ⟨r, 0, ?_, ?_, floatBits_wf h⟩
    · have := Go.run_floatArith (P := P) w h; simpa [World.drewN_zero] using this
    · unfold op; rw [floatBits_can, h]; rfl
  | none =>
    obtain ⟨h1, h2⟩ := cut_nan k x y (w.tape w.drawn (.nanBits k x y))
    refine ⟨_, 1, ?_, ?_, h2⟩
    · unfold floatBits at h
      cases b <;> simp [arith] at hb <;> simp only at h <;> simp [Op.floatArith, h, choose, Sem.run, Question.forced, bind, Sem.bind, pure] <;> rfl
    · unfold op; rw [floatBits_can, h, can_of_nan h1, Option.getD_none, can_of_nan (decode_qnan k)]

theorem run_binOp {P : Program} {b : BinOp} (hb : arith b = true) (t : TypeId) (k : FloatKind) (x y : Nat) (w : World) :
    ∃ r n, (binOp b t (.float k x) (.float k y)).run P w = .ok (.float k r) (w.drewN n) ∧ can k r = op b k (can k x) (can k y) ∧ Wf k r := by
  have e : binOp b t (.float k x) (.float k y) = Op.floatArith b k x y := by
    cases b <;> simp [arith] at hb <;> simp [binOp]
  rw [e]; exact run_floatArith hb k x y w

section
variable {P : Program} {o : Oper} {a : Act} {K : Act → World → Prop} {Q : Exit → Act → World → Prop} {w : World}

theorem upon_op {b : BinOp} {t : TypeId} {k : FloatKind} {x y : Nat} (hb : arith b = true)
    (h : ∀ r n, can k r = op b k (can k x) (can k y) → Wf k r → K (a.put o.dst (.float k r)) (w.drewN n)) :
    Oper.upon P o a K Q ((Sem.run P (binOp b t (.float k x) (.float k y)) w).andThen fun v w' => .ok (.value v) w') := by
  obtain ⟨r, n, hr, hc, hw⟩ := run_binOp (P := P) hb t k x y w
  rw [hr]
  exact h r n hc hw
end

/-- How two words stand to each other. -/
def ord (k : FloatKind) (x y : Nat) : Option Ordering := k.format.order x y

theorem order_nan_left {k : FloatKind} {x y : Nat} (h : (k.decode x).isNaN = true) : k.format.order x y = none := by
  have h' : (k.format.read x).isNaN = true := h
  unfold Ieee.Format.order
  cases hr : k.format.read x <;> simp [hr, Ieee.Datum.isNaN] at h'
  simp [Ieee.Datum.order]
theorem order_nan_right {k : FloatKind} {x y : Nat} (h : (k.decode y).isNaN = true) : k.format.order x y = none := by
  have h' : (k.format.read y).isNaN = true := h
  unfold Ieee.Format.order
  cases hr : k.format.read y <;> simp [hr, Ieee.Datum.isNaN] at h'
  cases k.format.read x <;> simp [Ieee.Datum.order]

theorem order_can (k : FloatKind) (x y : Nat) : k.format.order (can k x) (can k y) = k.format.order x y := by
  cases nx : (k.decode x).isNaN
  · cases ny : (k.decode y).isNaN
    · rw [can_of_not nx, can_of_not ny]
    · rw [order_nan_right ny, order_nan_right (by rw [can_nan]; exact ny)]
  · rw [order_nan_left nx, order_nan_left (by rw [can_nan]; exact nx)]

def lt (k : FloatKind) (x y : Nat) : Bool := k.format.order x y == some .lt
def eq (k : FloatKind) (x y : Nat) : Bool := k.format.order x y == some .eq
def le (k : FloatKind) (x y : Nat) : Bool := k.format.order x y == some .lt || k.format.order x y == some .eq

theorem compare_swap (a b : Int) : compare b a = (compare a b).swap := by
  rcases Int.lt_trichotomy a b with h | h | h
  · have h2 : ¬ b < a := by omega
    have h3 : ¬ b = a := by omega
    simp [compare, compareOfLessAndEq, h, h2, h3]
  · subst h; simp [compare, compareOfLessAndEq]
  · have h2 : ¬ a < b := by omega
    have h3 : ¬ a = b := by omega
    simp [compare, compareOfLessAndEq, h, h2, h3]

theorem order_swap (k : FloatKind) (x y : Nat) : k.format.order y x = (k.format.order x y).map Ordering.swap := by
  unfold Ieee.Format.order
  cases k.format.read x <;> cases k.format.read y <;> simp [Ieee.Datum.order]
  · rename_i s m i t n j
    rw [Int.min_comm]; exact compare_swap _ _
  · rename_i s m i t; cases t <;> rfl
  · rename_i s t n j; cases s <;> rfl
  · rename_i s t; cases s <;> cases t <;> rfl

theorem cmp_lt (k : FloatKind) (x y : Nat) : (k.format.order x y == some .lt) = lt k (can k x) (can k y) := by unfold lt; rw [order_can]
theorem cmp_eq (k : FloatKind) (x y : Nat) : (k.format.order x y == some .eq) = eq k (can k x) (can k y) := by unfold eq; rw [order_can]
theorem cmp_ne (k : FloatKind) (x y : Nat) : (k.format.order x y != some .eq) = !eq k (can k x) (can k y) := by unfold eq; rw [order_can]; rfl
theorem cmp_gt (k : FloatKind) (x y : Nat) : (k.format.order x y == some .gt) = lt k (can k y) (can k x) := by
  unfold lt; rw [order_can, order_swap k x y]; cases k.format.order x y with
  | none => rfl
  | some o => cases o <;> rfl
theorem cmp_le (k : FloatKind) (x y : Nat) : (k.format.order x y == some .lt || k.format.order x y == some .eq) = le k (can k x) (can k y) := by unfold le; rw [order_can]
theorem cmp_ge (k : FloatKind) (x y : Nat) : (k.format.order x y == some .gt || k.format.order x y == some .eq) = le k (can k y) (can k x) := by
  unfold le; rw [order_can, order_swap k x y]; cases k.format.order x y with
  | none => rfl
  | some o => cases o <;> rfl

theorem can_zero (k : FloatKind) : can k 0 = 0 := by cases k <;> decide +kernel
theorem eq_symm (k : FloatKind) (x y : Nat) : eq k x y = eq k y x := by
  unfold eq; rw [order_swap k y x]; cases k.format.order y x with
  | none => rfl
  | some o => cases o <;> rfl
@[go_sem] theorem lt_or_eq (k : FloatKind) (x y : Nat) : (lt k x y || eq k x y) = le k x y := rfl
@[go_sem] theorem lt_or_eq' (k : FloatKind) (x y : Nat) : (lt k y x || eq k x y) = le k y x := by rw [eq_symm]; rfl
attribute [go_sem] can_zero cmp_ne cmp_gt cmp_lt cmp_eq

@[go_sem] theorem run_store_float {P : Program} {w : World} {a : Addr} {m : Mode} (k : FloatKind) (n : Nat) : (store a (.float k n) m).run P w = stored P w a (.float k n) m := run_store P w a _ m rfl
@[go_sem] theorem run_store_complex {P : Program} {w : World} {a : Addr} {m : Mode} (k : FloatKind) (x y : Nat) : (store a (.complex k x y) m).run P w = stored P w a (.complex k x y) m := run_store P w a _ m rfl

@[go_sem] theorem setCell_drewN (w : World) (n : Nat) (a : Addr) (v : Value) : (w.drewN n).setCell a v = (w.setCell a v).drewN n := rfl
@[go_sem] theorem alloc_drewN (w : World) (n : Nat) (o : Obj) : (w.drewN n).alloc o = (w.alloc o).drewN n := rfl

/-- A float result. -/
def RetF (k : FloatKind) (w : World) (X : Nat) (e : Ending) (w' : World) : Prop := ∃ r n, e = .returned (.float k r) ∧ w' = w.drewN n ∧ can k r = X ∧ Wf k r
/-- A bool result. -/
def RetB (w : World) (b : Bool) (e : Ending) (w' : World) : Prop := ∃ n, e = .returned (.bool b) ∧ w' = w.drewN n
/-- A float and a bool. -/
def RetFB (k : FloatKind) (w : World) (X : Nat) (b : Bool) (e : Ending) (w' : World) : Prop := ∃ r n, e = .returned (.tuple #[.float k r, .bool b]) ∧ w' = w.drewN n ∧ can k r = X ∧ Wf k r
theorem retFB_mk {k : FloatKind} {w : World} {n r X : Nat} {b b' : Bool} (hb : b = b') (h : can k r = X) (hw : Wf k r) : RetFB k w X b' (.returned (.tuple #[.float k r, .bool b])) (w.drewN n) := ⟨r, n, by rw [hb], rfl, h, hw⟩
theorem retB_mk {w : World} {n : Nat} {b b' : Bool} (h : b = b') : RetB w b' (.returned (.bool b)) (w.drewN n) := ⟨n, by rw [h], rfl⟩
theorem retB_mk0 {w : World} {b b' : Bool} (h : b = b') : RetB w b' (.returned (.bool b)) w := ⟨0, by rw [h], rfl⟩
theorem retF_mk {k : FloatKind} {w : World} {n r X : Nat} (h : can k r = X) (hw : Wf k r) : RetF k w X (.returned (.float k r)) (w.drewN n) := ⟨r, n, rfl, rfl, h, hw⟩
theorem retF_mk0 {k : FloatKind} {w : World} {r X : Nat} (h : can k r = X) (hw : Wf k r) : RetF k w X (.returned (.float k r)) w := ⟨r, 0, rfl, rfl, h, hw⟩

/-- A value, old memory left alone. -/
def Gives (w : World) (Q : Value → World → Prop) (e : Ending) (w' : World) : Prop := ∃ v, e = .returned v ∧ Below w.heap.size w w' ∧ Q v w'
/-- A bool, old memory left alone. -/
def GivesB (w : World) (b : Bool) (e : Ending) (w' : World) : Prop := e = .returned (.bool b) ∧ Below w.heap.size w w'
/-- A float, old memory left alone. -/
def GivesF (k : FloatKind) (w : World) (X : Nat) (e : Ending) (w' : World) : Prop := ∃ r, e = .returned (.float k r) ∧ can k r = X ∧ Wf k r ∧ Below w.heap.size w w'
/-- A float and a bool, old memory left alone. -/
def GivesFB (k : FloatKind) (w : World) (X : Nat) (b : Bool) (e : Ending) (w' : World) : Prop := ∃ r, e = .returned (.tuple #[.float k r, .bool b]) ∧ can k r = X ∧ Wf k r ∧ Below w.heap.size w w'

theorem below_cells {W w1 : World} (hb : Below W.heap.size W w1) : (∀ b o, b < W.heap.size → w1.cell? ⟨b, o, none⟩ = W.cell? ⟨b, o, none⟩) ∧ (∀ b o, b < W.heap.size → w1.frozen? ⟨b, o, none⟩ = W.frozen? ⟨b, o, none⟩) :=
  ⟨fun b o h => hb.cell (p := ⟨b, o, none⟩) h, fun b o h => hb.frozen (p := ⟨b, o, none⟩) h⟩

/-! ### What is taken from itself -/
theorem sub_self (k : FloatKind) (x : Nat) : floatBits .sub k x x = none ∨ floatBits .sub k x x = some 0 := by
  unfold floatBits
  simp only [Ieee.Format.sub]
  cases h : k.format.read x with
  | nan s f => simp [Ieee.Datum.sum]
  | infinity s => cases s <;> simp [Ieee.Datum.sum, Ieee.Datum.opposite]
  | number s m e =>
    right
    have hz : Ieee.signed s m (e - min e e).toNat + Ieee.signed (!s) m (e - min e e).toNat = 0 := by
      unfold Ieee.signed; cases s <;> simp <;> omega
    simp only [Ieee.Datum.opposite, Ieee.Datum.sum, hz]
    cases s <;> simp [Ieee.Format.write, Ieee.Format.nearest, Ieee.Format.word]


theorem op_sub_self (k : FloatKind) (x : Nat) : op .sub k x x = qnan k ∨ op .sub k x x = 0 := by
  unfold op
  rcases sub_self k x with h | h
  · left; rw [h, Option.getD_none, can_of_nan (decode_qnan k)]
  · right; rw [h, Option.getD_some, can_zero]

/-- Finite: what is taken from itself is nought. -/
def isFin (k : FloatKind) (x : Nat) : Bool := eq k (op .sub k x x) 0

theorem eq_sub_self (k : FloatKind) (x : Nat) : eq k (op .sub k x x) (op .sub k x x) = isFin k x := by
  unfold isFin
  rcases op_sub_self k x with h | h <;> rw [h] <;> cases k <;> decide +kernel

/-! ### From the narrow kind to the wide one -/
def widen (x : Nat) : Nat := if (FloatKind.f32.decode x).isNaN then qnan .f64 else FloatKind.f64.encode (FloatKind.f32.decode x)

theorem widen_can (x : Nat) : widen (can .f32 x) = widen x := by
  unfold widen
  cases h : (FloatKind.f32.decode x).isNaN
  · rw [can_of_not h, h]
  · rw [can_nan, h]; rfl

/-! A word of the narrow kind stands for a number of the wide kind: nothing is lost. -/
theorem f64_read_inf (s : Bool) : FloatKind.f64.decode (FloatKind.f64.encode (.infinity s)) = .infinity s := by cases s <;> decide +kernel

end Go.Fl
