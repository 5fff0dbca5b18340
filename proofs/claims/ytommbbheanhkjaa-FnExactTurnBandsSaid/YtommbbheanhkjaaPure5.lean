/- Ways: inner products, units. -/
import Derived.Test.YtommbbheanhkjaaPure4
set_option linter.unusedSimpArgs false
set_option linter.unusedVariables false
set_option linter.unnecessarySimpa false
set_option maxRecDepth 20000
namespace Go.Fl
open Go.RowKit Ieee

def innerOr (a b c x y z : Nat) : Nat := if isWay a b c && isWay x y z then numOr .f32 (inner a b c x y z) else 0
def innerOk (a b c x y z : Nat) : Bool := isWay a b c && isWay x y z && isFin .f32 (inner a b c x y z)
end Go.Fl
