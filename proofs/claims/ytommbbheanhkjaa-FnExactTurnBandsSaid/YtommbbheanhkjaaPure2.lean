/- More of what the functions give. -/
import Derived.Test.YtommbbheanhkjaaPure
set_option linter.unusedSimpArgs false
set_option linter.unusedVariables false
set_option linter.unnecessarySimpa false
set_option maxRecDepth 20000
namespace Go.Fl
open Go.RowKit

def thrTab (s i : Int) : Int := if s = 4 then [0, 8, 2, 10, 12, 4, 14, 6, 3, 11, 1, 9, 15, 7, 13, 5].getD i.toNat 0 else [0, 2, 3, 1].getD i.toNat 0
/-- The threshold of a pixel. -/
def thr (s x y : Int) : Nat := quo (add (can .f32 (floatOfInt .f32 (thrTab s (y % s * s + x % s)))) (can .f32 1056964608)) (can .f32 (floatOfInt .f32 (s * s)))
theorem wf_ofInt (k : FloatKind) (n : Int) : Wf k (floatOfInt k n) := floatOfInt_wf k n
theorem mod_four (x : Int) : x % 4 = 0 ∨ x % 4 = 1 ∨ x % 4 = 2 ∨ x % 4 = 3 := by omega
theorem mod_two (x : Int) : x % 2 = 0 ∨ x % 2 = 1 := by omega
end Go.Fl
