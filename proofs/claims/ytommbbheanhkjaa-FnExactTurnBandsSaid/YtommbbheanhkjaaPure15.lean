/- The widened: finite or not; turns of ways. -/
import Derived.Test.YtommbbheanhkjaaPure14
import Derived.Test.YtommbbheanhkjaaPure7
set_option linter.unusedSimpArgs false
set_option linter.unusedVariables false
set_option linter.unnecessarySimpa false
set_option maxRecDepth 20000
namespace Go.Fl
open Go.RowKit Ieee

theorem wide_nan {x : Nat} (hx : Wf .f32 x) (h : isFin .f32 x = false) : isFin .f64 (widen x) = false := by
  rcases not_fin hx h with h1 | rfl | rfl
  · rw [← widen_can, h1]; decide +kernel
  · decide +kernel
  · decide +kernel
theorem wide_fin {x : Nat} (hx : Wf .f32 x) (h : isFin .f32 x = true) : isFin .f64 (widen x) = true := by
  obtain ⟨s, r, hr, rfl⟩ := fin_rung hx h
  obtain ⟨R, h1, h2⟩ := wide_rung (s := s) hr
  rw [h1]
  exact fin_word (by rw [f64_inf]; omega)
/-- What the cosine and the sine of some turns are. -/
def cosF (x : Nat) : Nat := sineF (Fl.add x 1048576000)
def rotA (c s x y : Nat) : Nat := Fl.sub (Fl.mul c x) (Fl.mul s y)
def rotB (c s x y : Nat) : Nat := Fl.add (Fl.mul s x) (Fl.mul c y)
def tiltOk (x y z t : Nat) : Bool := isWay x y z && isFin .f32 t && isWay x (rotA (cosF t) (sineF t) y z) (rotB (cosF t) (sineF t) y z)
def spinOk (x y z t : Nat) : Bool := isWay x y z && isFin .f32 t && isWay (rotA (cosF t) (sineF t) x y) (rotB (cosF t) (sineF t) x y) z
end Go.Fl
