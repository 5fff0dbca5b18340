/- What the functions give, on words up to the bits of a not-a-number. -/
import Derived.Test.YtcfdfabmcbjpgaaOrd
set_option linter.unusedSimpArgs false
set_option linter.unusedVariables false
namespace Go.Fl
open Go.RowKit

theorem below_call {w W w1 : World} (h : Below W.heap.size W w1) (h0 : Below w.heap.size w W) : Below w.heap.size w w1 := h0.trans (h.mono h0.size)

theorem below_alloc {w w' : World} (h : Below w.heap.size w w') (o : Obj) : Below w.heap.size w (w'.alloc o) := h.alloc h.size o

abbrev F32 := FloatKind.f32
abbrev F64 := FloatKind.f64
abbrev add (x y : Nat) : Nat := op .add .f32 x y
abbrev sub (x y : Nat) : Nat := op .sub .f32 x y
abbrev mul (x y : Nat) : Nat := op .mul .f32 x y
abbrev quo (x y : Nat) : Nat := op .quo .f32 x y

def fin3 (x y z : Nat) : Bool := isFin .f32 x && isFin .f32 y && isFin .f32 z
def isWay (x y z : Nat) : Bool := fin3 x y z && (!eq .f32 x 0 || !eq .f32 y 0 || !eq .f32 z 0)
def inner (a b c x y z : Nat) : Nat := add (add (mul a x) (mul b y)) (mul c z)
def grey (r g b : Nat) : Nat := add (add (mul (can .f32 1046066128) r) (mul (can .f32 1060575065) g)) (mul (can .f32 1033100696) b)

theorem all3 (p : Nat → Bool) (x y z : Nat) : [x, y, z].all p = (p x && p y && p z) := by simp [Bool.and_assoc]
theorem wf_zero (k : FloatKind) : Wf k 0 := by cases k <;> unfold Wf <;> decide +kernel
end Go.Fl
