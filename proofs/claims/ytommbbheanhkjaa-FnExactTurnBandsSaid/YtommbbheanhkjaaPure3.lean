/- More of what the functions give. -/
import Derived.Test.YtommbbheanhkjaaPure2
set_option linter.unusedSimpArgs false
set_option linter.unusedVariables false
set_option linter.unnecessarySimpa false
set_option maxRecDepth 20000
namespace Go.Fl
open Go.RowKit

def thrOk (s x y : Int) : Bool := decide (s = 2 ∨ s = 4) && decide (0 ≤ x ∧ x ≤ 1000000) && decide (0 ≤ y ∧ y ≤ 1000000)
end Go.Fl
