/- Narrowing what was wide: no overflow below the narrow kind's greatest number; widened and narrowed again; sizes. -/
import Derived.Test.YtommbbheanhkjaaOrd
set_option linter.unusedSimpArgs false
set_option linter.unusedVariables false
set_option linter.unnecessarySimpa false
set_option maxRecDepth 20000
namespace Go.Fl
open Ieee

theorem maxRung_val : vle (rungVal FloatKind.f64.format 5183643170566569984) (-1074) (rungVal FloatKind.f32.format 2139095039) (-149) := by
  have h1 := rungVal_at FloatKind.f64.format 1149 4503599090499584 (by rw [f64_bin]; decide)
  have h2 := rungVal_at FloatKind.f32.format 253 8388607 (by rw [f32_bin]; decide)
  rw [f64_bin] at h1
  rw [f32_bin] at h2
  rw [show (1149 + 1) * 4503599627370496 + 4503599090499584 = 5183643170566569984 by decide] at h1
  rw [show (253 + 1) * 8388608 + 8388607 = 2139095039 by decide] at h2
  rw [h1, h2, vle_base (b := -1074) (by decide) (by decide)]
  decide +kernel

/-- Narrowing a finite word whose rung is at most that of the narrow kind's greatest number. -/
theorem narrow_word {s : Bool} {R : Nat} (h : R ≤ 5183643170566569984) : ∃ r, narrow (FloatKind.f64.format.word s R) = FloatKind.f32.format.word s r ∧ r ≤ 2139095039 ∧ narrowOk (FloatKind.f64.format.word s R) = true := by
  obtain ⟨m, e, hd, h1, h2, he, hm⟩ := datum_val .f64 s (r := R) (by rw [f64_inf]; omega)
  have hR : R ≤ FloatKind.f64.format.infRung := by rw [f64_inf]; omega
  have hdec := decode_word .f64 s hR
  rw [hd] at hdec
  rw [f64_least] at h1 h2
  have hv : vle m e (rungVal FloatKind.f32.format 2139095039) FloatKind.f32.format.leastPlace := by
    rw [f32_least]
    exact vle_trans h1 (vle_trans (vle_same.2 (rungVal_mono h)) maxRung_val)
  have hn := near_le hv
  have henc : FloatKind.f32.encode (.number s m e) = FloatKind.f32.format.word s (nearRung FloatKind.f32.format m e) := nearest_word _ _ _ _
  have hinf : nearRung FloatKind.f32.format m e < FloatKind.f32.format.infRung := by rw [f32_inf]; omega
  refine ⟨_, ?_, hn, ?_⟩
  · rw [narrow_of hdec rfl, henc]
  · unfold narrowOk
    rw [hdec]
    simp only
    rw [henc, decode_word .f32 s (Nat.le_of_lt hinf)]
    obtain ⟨m', e', hd', _⟩ := datum_val .f32 s hinf
    rw [hd']; rfl

/-- Widened and narrowed again. -/
theorem narrow_widen {x : Nat} (hx : Wf .f32 x) : narrow (widen x) = can .f32 x ∧ narrowOk (widen x) = true := by
  cases h : bad .f32 x
  · obtain ⟨s, r, hr, rfl⟩ := word_of .f32 hx h
    rw [can_of_not h]
    rcases Nat.lt_or_ge r FloatKind.f32.format.infRung with h2 | h2
    · obtain ⟨R, a1, a2, a3, a4⟩ := widen_word (s := s) h2
      have hlt : R < FloatKind.f64.format.infRung := by rw [f64_inf]; omega
      obtain ⟨m, e, hd, h3, h4, he, hm⟩ := datum_val .f64 s hlt
      have hdec := decode_word .f64 s (Nat.le_of_lt hlt)
      rw [hd] at hdec
      rw [f64_least] at h3 h4
      have hn : nearRung FloatKind.f32.format m e = r := near_exact (Nat.le_of_lt h2) (by rw [f32_least]; exact vle_trans a4 h4) (by rw [f32_least]; exact vle_trans h3 a3)
      have henc : FloatKind.f32.encode (.number s m e) = FloatKind.f32.format.word s r := by rw [← hn]; exact nearest_word _ _ _ _
      rw [a1]
      refine ⟨by rw [narrow_of hdec rfl, henc], ?_⟩
      unfold narrowOk
      rw [hdec]
      simp only
      rw [henc, decode_word .f32 s (Nat.le_of_lt h2)]
      obtain ⟨m', e', hd', _⟩ := datum_val .f32 s h2
      rw [hd']; rfl
    · obtain rfl : r = FloatKind.f32.format.infRung := by omega
      rw [widen_inf]
      cases s <;> decide +kernel
  · rw [can_of_nan h, widen_bad rfl h]
    decide +kernel

/-- A word without its sign. -/
def size (k : FloatKind) (x : Nat) : Nat := x % k.format.signWeight
theorem size_word (k : FloatKind) (s : Bool) {r : Nat} (h : r ≤ k.format.infRung) : size k (k.format.word s r) = k.format.word false r := by
  unfold size; rw [word_mod k s h]; unfold Format.word; simp
theorem wf_size {k : FloatKind} {x : Nat} (h : Wf k x) : Wf k (size k x) := by
  have h2 : size k x ≤ x := Nat.mod_le _ _
  cases k <;> simp only [Wf, Lit.wf, decide_eq_true_eq] at h ⊢ <;> omega
theorem bad_size (k : FloatKind) (x : Nat) : bad k (size k x) = bad k x := by
  unfold bad
  rw [read_isNaN, read_isNaN]
  unfold size
  rw [Nat.mod_mod]
/-- The size of a number, up to the bits of a not-a-number. -/
def absF (x : Nat) : Nat := can .f32 (size .f32 x)
theorem widen_size {x : Nat} (hx : Wf .f32 x) (hn : bad .f32 x = false) : size .f64 (widen x) = widen (size .f32 x) := by
  obtain ⟨s, r, hr, rfl⟩ := word_of .f32 hx hn
  rw [size_word .f32 s hr]
  rcases Nat.lt_or_ge r FloatKind.f32.format.infRung with h | h
  · obtain ⟨m, e, hd, _⟩ := datum_val .f32 s h
    have hd' : datumOf .f32 false r = .number false m e := by
      have hdt := hd
      unfold datumOf at hdt ⊢
      revert hdt
      repeat' split
      all_goals (intro hdt; simp_all)
    rw [widen_of (decode_word .f32 s hr) (by rw [hd]; rfl), widen_of (decode_word .f32 false hr) (by rw [hd']; rfl), hd, hd']
    have e1 : FloatKind.f64.encode (.number s m e) = FloatKind.f64.format.word s (nearRung FloatKind.f64.format m e) := nearest_word _ _ _ _
    have e2 : FloatKind.f64.encode (.number false m e) = FloatKind.f64.format.word false (nearRung FloatKind.f64.format m e) := nearest_word _ _ _ _
    rw [e1, e2, size_word .f64 s (nearRung_le_inf _ _ _)]
  · obtain rfl : r = FloatKind.f32.format.infRung := by omega
    rw [widen_inf, widen_inf, size_word .f64 s (Nat.le_refl _)]
end Go.Fl
