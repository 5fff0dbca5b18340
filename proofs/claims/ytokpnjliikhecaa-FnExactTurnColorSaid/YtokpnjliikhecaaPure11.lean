/- A colour, turned by a matrix. -/
import Derived.Test.YtokpnjliikhecaaPure8
set_option linter.unusedSimpArgs false
set_option linter.unusedVariables false
set_option linter.unnecessarySimpa false
set_option maxRecDepth 20000
namespace Go.Fl
open Go.RowKit Ieee

def tRow (xs : List Nat) (x y z i : Nat) : Nat := add (add (mul (can .f32 (xs.getD i 0)) x) (mul (can .f32 (xs.getD (i + 1) 0)) y)) (mul (can .f32 (xs.getD (i + 2) 0)) z)
def turnOk (xs : List Nat) (x y z : Nat) : Bool := isMat xs && fin3 x y z && fin3 (tRow xs x y z 0) (tRow xs x y z 3) (tRow xs x y z 6)
def turnR (xs : List Nat) (x y z i : Nat) : Nat := orZ (turnOk xs x y z) (tRow xs x y z i)
theorem isMat_nine {xs : List Nat} (h : isMat xs = true) : xs.length = 9 := by
  unfold isMat at h
  simp only [Bool.and_eq_true, decide_eq_true_eq] at h
  exact h.1
end Go.Fl
