/- LISTS AND WAYS: the laws. -/
import Derived.Test.YtommbbheanhkjaaW9
import Derived.Test.YtommbbheanhkjaaW6
set_option linter.unusedSimpArgs false
set_option linter.unusedVariables false
set_option linter.unnecessarySimpa false
set_option maxRecDepth 20000
namespace Go.Proofs.Ytommbbheanhkjaa
open Go.RowKit Go.Fl

