/- Nought less a number; faces. -/
import Derived.Test.YtommbbheanhkjaaPure8
set_option linter.unusedSimpArgs false
set_option linter.unusedVariables false
set_option linter.unnecessarySimpa false
set_option maxRecDepth 20000
namespace Go.Fl
open Go.RowKit Ieee

/-- Nought less a number that is at most nought: its size. -/
theorem zero_sub {x : Nat} (hx : Wf .f32 x) (hf : isFin .f32 x = true) (hle : le .f32 x 0 = true) : sub 0 x = size .f32 x := by
  obtain ⟨s, r, hr, rfl⟩ := fin_rung hx hf
  obtain ⟨m, e, hd, h1, h2, he, hm⟩ := datum_val .f32 s hr
  have hr' := Nat.le_of_lt hr
  have hread : FloatKind.f32.format.read (FloatKind.f32.format.word s r) = .number s m e := (decode_word .f32 s hr').trans hd
  have h0 : FloatKind.f32.format.read 0 = .number false 0 (-149) := by decide +kernel
  rw [f32_least] at h1 h2 he
  rw [size_word .f32 s hr']
  have hbase : min (-149 : Int) e = -149 := by omega
  have key : ∀ t : Bool, (t = false ∨ m = 0) → FloatKind.f32.format.nearest false (m * 2 ^ (e - -149).toNat) (-149) = FloatKind.f32.format.word false r := fun t _ => by
    have hn : nearRung FloatKind.f32.format (m * 2 ^ (e - -149).toNat) (-149) = r := by
      have hv := vle_shift m e (e - -149).toNat
      rw [show e - ((e - -149).toNat : Int) = -149 by omega] at hv
      exact near_exact hr' (by rw [f32_least]; exact vle_trans h2 hv.1) (by rw [f32_least]; exact vle_trans hv.2 h1)
    rw [nearest_word, hn]
  unfold sub op floatBits
  simp only [Format.sub, h0, hread, Datum.opposite, Datum.sum, Option.map_some, Option.getD_some, hbase]
  cases s
  · have hz : r = 0 := by
      have hw := wf_word .f32 false hr'
      rw [le_key .f32 hw (wf_zero _) (bad_word .f32 false hr') (bad_zero _), key_word .f32 false hr', key_of_zero] at hle
      simp at hle; exact hle
    subst hz
    have hm0 : m = 0 := (vle_zero (f := FloatKind.f32.format) (r := 0) (by rw [f32_least]; exact h1) (by rw [f32_least]; exact h2)).2 rfl
    subst hm0
    have ht : signed false 0 (-149 - -149 : Int).toNat + signed (!false) 0 (e - -149).toNat = 0 := by simp [signed_eq]
    rw [ht]
    decide +kernel
  · have ht : signed false 0 (-149 - -149 : Int).toNat + signed (!true) m (e - -149).toNat = ((m * 2 ^ (e - -149).toNat : Nat) : Int) := by
      simp only [signed_eq, Bool.not_true, Bool.false_eq_true, if_false]; omega
    rw [ht]
    have hs : (if ((m * 2 ^ (e - -149).toNat : Nat) : Int) = 0 then false && !true else decide (((m * 2 ^ (e - -149).toNat : Nat) : Int) < 0)) = false := by
      split
      · rfl
      · exact decide_eq_false (Int.not_lt.2 (Int.natCast_nonneg _))
    rw [hs, Int.natAbs_natCast]
    show can .f32 (FloatKind.f32.format.nearest false (m * 2 ^ (e - -149).toNat) (-149)) = _
    rw [key false (.inl rfl)]
    exact can_of_not (bad_word .f32 false hr')
theorem size_pos {x : Nat} (hx : Wf .f32 x) (nx : bad .f32 x = false) (h : le .f32 x 0 = false) : size .f32 x = x := by
  obtain ⟨s, r, hr, rfl⟩ := word_of .f32 hx nx
  rw [le_key .f32 hx (wf_zero _) nx (bad_zero _), key_word .f32 s hr, key_of_zero] at h
  cases s
  · exact size_word .f32 false hr
  · simp at h
def fb1 (x y : Nat) : Bool := lt .f32 (size .f32 x) (size .f32 y)
def fs1 (x y : Nat) : Nat := if fb1 x y = true then size .f32 y else size .f32 x
def fb2 (x y z : Nat) : Bool := lt .f32 (fs1 x y) (size .f32 z)
def fPart (x y z : Nat) : Nat := if fb2 x y z = true then z else if fb1 x y = true then y else x
def fSize (x y z : Nat) : Nat := if fb2 x y z = true then size .f32 z else fs1 x y
def fA (x y z : Nat) : Nat := if fb2 x y z = true then x else if fb1 x y = true then x else y
def fB (x y z : Nat) : Nat := if fb2 x y z = true then y else z
def fN (x y z : Nat) : Int := (if fb2 x y z = true then 4 else if fb1 x y = true then 2 else 0) + (if lt .f32 0 (fPart x y z) = true then 0 else 1)
/-- A face and two places, old memory left alone. -/
def GivesFc (w : World) (n : Int) (P Q : Nat) (e : Ending) (w' : World) : Prop := ∃ p q, e = .returned (.tuple #[.int .i64 n, .float .f32 p, .float .f32 q]) ∧ (can .f32 p = P ∧ can .f32 q = Q) ∧ (Wf .f32 p ∧ Wf .f32 q) ∧ Below w.heap.size w w'
end Go.Fl
