/- What the functions give, on words up to the bits of a not-a-number. -/
import Derived.Test.YtommbbheanhkjaaOrd
set_option linter.unusedSimpArgs false
set_option linter.unusedVariables false
set_option linter.unnecessarySimpa false
set_option maxRecDepth 20000
namespace Go.Fl
open Go.RowKit

theorem below_call {w W w1 : World} (h : Below W.heap.size W w1) (h0 : Below w.heap.size w W) : Below w.heap.size w w1 := h0.trans (h.mono h0.size)

theorem below_alloc {w w' : World} (h : Below w.heap.size w w') (o : Obj) : Below w.heap.size w (w'.alloc o) := h.alloc h.size o

theorem below_set0 {w w' : World} (h : Below w.heap.size w w') (o : Nat) (u : Value) : Below w.heap.size w (w'.setCell ⟨w.heap.size, o, none⟩ u) := h.setCell (p := ⟨w.heap.size, o, none⟩) (Nat.le_refl _) u
theorem below_set1 {w w' : World} (h : Below w.heap.size w w') (o : Nat) (u : Value) : Below w.heap.size w (w'.setCell ⟨w.heap.size + 1, o, none⟩ u) := h.setCell (p := ⟨w.heap.size + 1, o, none⟩) (by simp) u
theorem below_set2 {w w' : World} (h : Below w.heap.size w w') (o : Nat) (u : Value) : Below w.heap.size w (w'.setCell ⟨w.heap.size + 1 + 1, o, none⟩ u) := h.setCell (p := ⟨w.heap.size + 1 + 1, o, none⟩) (by simp only; omega) u
theorem below_set3 {w w' : World} (h : Below w.heap.size w w') (o : Nat) (u : Value) : Below w.heap.size w (w'.setCell ⟨w.heap.size + 1 + 1 + 1, o, none⟩ u) := h.setCell (p := ⟨w.heap.size + 1 + 1 + 1, o, none⟩) (by simp only; omega) u

abbrev F32 := FloatKind.f32
abbrev F64 := FloatKind.f64
abbrev add (x y : Nat) : Nat := op .add .f32 x y
abbrev sub (x y : Nat) : Nat := op .sub .f32 x y
abbrev mul (x y : Nat) : Nat := op .mul .f32 x y
abbrev quo (x y : Nat) : Nat := op .quo .f32 x y

def fin3 (x y z : Nat) : Bool := isFin .f32 x && isFin .f32 y && isFin .f32 z
def isWay (x y z : Nat) : Bool := fin3 x y z && (!eq .f32 x 0 || !eq .f32 y 0 || !eq .f32 z 0)
def inner (a b c x y z : Nat) : Nat := add (add (mul a x) (mul b y)) (mul c z)
def grey (r g b : Nat) : Nat := add (add (mul (can .f32 1046066128) r) (mul (can .f32 1060575065) g)) (mul (can .f32 1033100696) b)

theorem all3 (p : Nat → Bool) (x y z : Nat) : [x, y, z].all p = (p x && p y && p z) := by simp [Bool.and_assoc]
theorem wf_zero (k : FloatKind) : Wf k 0 := by cases k <;> unfold Wf <;> decide +kernel

/-! ### What the laws' 'sameFloat' tells -/
theorem quo_zero : op .quo .f64 (can .f64 4607182418800017408) 0 = 9218868437227405312 := by decide +kernel
theorem quo_negzero : op .quo .f64 (can .f64 4607182418800017408) 9223372036854775808 = 18442240474082181120 := by decide +kernel

def sameF (a b : Nat) : Bool :=
  if eq .f64 (can .f64 a) (can .f64 a) = false ∨ eq .f64 (can .f64 b) (can .f64 b) = false then (!eq .f64 (can .f64 a) (can .f64 a)) && (!eq .f64 (can .f64 b) (can .f64 b))
  else if eq .f64 (can .f64 a) 0 = true ∧ eq .f64 (can .f64 b) 0 = true then lt .f64 0 (op .quo .f64 (can .f64 4607182418800017408) (can .f64 a)) == lt .f64 0 (op .quo .f64 (can .f64 4607182418800017408) (can .f64 b))
  else eq .f64 (can .f64 a) (can .f64 b)

theorem bad_zero (k : FloatKind) : bad k 0 = false := by cases k <;> decide +kernel
theorem key_of_zero (k : FloatKind) : key k 0 = 0 := by cases k <;> decide +kernel

theorem ofInt_one : floatOfInt .f32 1 = 1065353216 := by decide +kernel
theorem ofInt_neg_one : floatOfInt .f32 (-1) = 3212836864 := by decide +kernel

theorem sameF_iff {a b : Nat} (ha : Wf .f64 a) (hb : Wf .f64 b) : sameF a b = (can .f64 a == can .f64 b) := by
  have wa := wf_can ha
  have wb := wf_can hb
  have ea := eq_refl_bad wa
  have eb := eq_refl_bad wb
  rw [← same_iff .f64 ha hb]
  rw [bad_can] at ea eb
  unfold sameF
  rw [ea, eb]
  cases na : bad .f64 a <;> cases nb : bad .f64 b
  · have ca : can .f64 a = a := can_of_not na
    have cb : can .f64 b = b := can_of_not nb
    rw [ca, cb]
    simp only [Bool.not_false, Bool.not_true, or_self, if_false, Bool.and_self, Bool.false_or, Bool.true_eq_false]
    split
    · rename_i h
      obtain ⟨h1, h2⟩ := h
      rw [eq_key .f64 ha (wf_zero _) na (bad_zero _), key_of_zero] at h1
      rw [eq_key .f64 hb (wf_zero _) nb (bad_zero _), key_of_zero] at h2
      have h1 : key .f64 a = 0 := by simpa using h1
      have h2 : key .f64 b = 0 := by simpa using h2
      rw [eq_key .f64 ha hb na nb, h1, h2]
      rcases (key_zero .f64 ha na).1 h1 with rfl | rfl <;> rcases (key_zero .f64 hb nb).1 h2 with rfl | rfl
      all_goals (try rw [f64_sw]); (try rw [quo_zero]); (try rw [quo_negzero]); decide +kernel
    · rename_i h
      rw [eq_key .f64 ha (wf_zero _) na (bad_zero _), eq_key .f64 hb (wf_zero _) nb (bad_zero _), key_of_zero] at h
      have h : ¬ (key .f64 a = 0 ∧ key .f64 b = 0) := by simpa using h
      rw [eq_key .f64 ha hb na nb]
      by_cases he : key .f64 a = key .f64 b
      · have h0 : key .f64 a ≠ 0 := fun h0 => h ⟨h0, by omega⟩
        have : sgn .f64 a = sgn .f64 b := by rw [sgn_key .f64 ha na h0, sgn_key .f64 hb nb (by omega), he]
        simp [he, this]
      · simp [he]
  · simp only [Bool.not_false, Bool.not_true, or_true, if_true, Bool.and_true, Bool.and_false, Bool.false_or]
    rw [eq_bad_right (by rw [bad_can]; exact nb)]; rfl
  · simp only [Bool.not_false, Bool.not_true, true_or, if_true, Bool.and_true, Bool.and_false, Bool.false_or]
    rw [eq_bad_left (by rw [bad_can]; exact na)]; rfl
  · simp

/-- 'numberOrFail': a number if it is finite, else nought. -/
def numOr (k : FloatKind) (x : Nat) : Nat := if isFin k x then x else 0
def greyOr (r g b : Nat) : Nat := if fin3 r g b then numOr .f32 (grey r g b) else 0
def greyOk (r g b : Nat) : Bool := fin3 r g b && isFin .f32 (grey r g b)
/-- The way of a place of a face, as a value. -/
def faceV (f : Int) (x y : Nat) : Value :=
  if f = 0 then .agg #[.float .f32 1065353216, .float .f32 x, .float .f32 y] else if f = 1 then .agg #[.float .f32 3212836864, .float .f32 x, .float .f32 y]
  else if f = 2 then .agg #[.float .f32 x, .float .f32 1065353216, .float .f32 y] else if f = 3 then .agg #[.float .f32 x, .float .f32 3212836864, .float .f32 y]
  else if f = 4 then .agg #[.float .f32 x, .float .f32 y, .float .f32 1065353216] else .agg #[.float .f32 x, .float .f32 y, .float .f32 3212836864]
def inside (x : Nat) : Bool := le .f32 (can .f32 3212836864) x && le .f32 x (can .f32 1065353216)
def faceOk (f : Int) (x y : Nat) : Bool := decide (0 ≤ f ∧ f ≤ 5) && inside (can .f32 x) && inside (can .f32 y)
def faceR (f : Int) (x y : Nat) : Value := if faceOk f x y = true then faceV f x y else .agg #[.float .f32 0, .float .f32 0, .float .f32 0]
theorem faceV_form (f : Int) (x y : Nat) : ∃ p q r, faceV f x y = .agg #[.float .f32 p, .float .f32 q, .float .f32 r] := by
  unfold faceV
  split
  · exact ⟨_, _, _, rfl⟩
  split
  · exact ⟨_, _, _, rfl⟩
  split
  · exact ⟨_, _, _, rfl⟩
  split
  · exact ⟨_, _, _, rfl⟩
  split <;> exact ⟨_, _, _, rfl⟩
end Go.Fl
