/- LISTS OF NUMBERS, SUMS, KERNELS. -/
import Derived.Test.YtommbbheanhkjaaW8
import Derived.Test.YtommbbheanhkjaaPure4
set_option linter.unusedSimpArgs false
set_option linter.unusedVariables false
set_option linter.unnecessarySimpa false
set_option maxRecDepth 20000
namespace Go.Proofs.Ytommbbheanhkjaa
open Go.RowKit Go.Fl

@[go_sem] theorem f64frombits_run (x : Nat) (w : World) : (callFunc 132 #[.int .u64 x]).run Try.prog w = .ok (.value (.float .f64 x)) w := by kernel_rfl
theorem absM_any (x : Nat) (w : World) (hx : Wf .f64 x) : Calls Try.prog 126 #[.float .f64 x] w (fun e w' => e = .returned (.float .f64 (size .f64 x)) ∧ w = w') := by
  have hb := andNot_sign hx
  go_enter Try.func126, Try.ntmps126
  go_wp2_with fail
  go_ret
  exact ⟨rfl, rfl⟩
