/- What is left of turns without whole ones. -/
import Derived.Test.YtommbbheanhkjaaPure12
set_option linter.unusedSimpArgs false
set_option linter.unusedVariables false
set_option linter.unnecessarySimpa false
set_option maxRecDepth 20000
namespace Go.Fl
open Go.RowKit Ieee

theorem diff_le {m m' M : Nat} {e e' : Int} (s : Bool) (h1 : vle M 0 m e) (h2 : vle m e (M + 1) 0) (h3 : vle m' e' M 0) (h4 : vle M 0 m' e') :
    vle (signed s m (e - min e e').toNat + signed (!s) m' (e' - min e e').toNat).natAbs (min e e') 1 0 := by
  rw [vle_base (b := min (min e e') 0) (by omega) (by omega)] at h1 h2 h3 h4
  rw [vle_base (b := min (min e e') 0) (by omega) (by omega)]
  rw [show (e - min (min e e') 0).toNat = (e - min e e').toNat + (min e e' - min (min e e') 0).toNat by omega] at h1 h2
  rw [show (e' - min (min e e') 0).toNat = (e' - min e e').toNat + (min e e' - min (min e e') 0).toNat by omega] at h3 h4
  rw [Nat.pow_add, ← Nat.mul_assoc] at h1 h2 h3 h4
  generalize 2 ^ (min e e' - min (min e e') 0).toNat = P at *
  generalize 2 ^ (0 - min (min e e') 0).toNat = Z at *
  have key : (signed s m (e - min e e').toNat + signed (!s) m' (e' - min e e').toNat).natAbs = (m * 2 ^ (e - min e e').toNat - m' * 2 ^ (e' - min e e').toNat) + (m' * 2 ^ (e' - min e e').toNat - m * 2 ^ (e - min e e').toNat) := by
    rw [signed_eq, signed_eq]
    generalize m * 2 ^ (e - min e e').toNat = A
    generalize m' * 2 ^ (e' - min e e').toNat = B
    cases s
    · simp only [Bool.false_eq_true, if_false, Bool.not_false, if_true]; omega
    · simp only [if_true, Bool.not_true, Bool.false_eq_true, if_false]; omega
  rw [key]
  generalize m * 2 ^ (e - min e e').toNat = A at *
  generalize m' * 2 ^ (e' - min e e').toNat = B at *
  rw [Nat.add_mul, Nat.sub_mul, Nat.sub_mul, Nat.one_mul]
  rw [Nat.succ_mul] at h2
  omega

def truncI (y : Nat) : Int := ((FloatKind.f64.decode y).toInt .zero).getD 0
def truncW (y : Nat) : Nat := FloatKind.f64.encode ((FloatKind.f64.decode y).integral .zero)
def fracW (y : Nat) : Nat := op .sub .f64 y (FloatKind.f64.nearest (truncI y))

theorem whole_facts {m : Nat} {e : Int} (hm : m < 9007199254740992) (h : vle m e 1 52) : vle ((m <<< e.toNat) / 2 ^ (-e).toNat) 0 m e ∧ vle m e ((m <<< e.toNat) / 2 ^ (-e).toNat + 1) 0 ∧ (m <<< e.toNat) / 2 ^ (-e).toNat < 9007199254740992 := by
  rw [Nat.shiftLeft_eq]
  rcases Int.lt_or_le e 0 with he | he
  · rw [show e.toNat = 0 by omega, Nat.pow_zero, Nat.mul_one]
    have h0 := two_pos (-e).toNat
    have hdm := Nat.div_add_mod m (2 ^ (-e).toNat)
    have hlt := Nat.mod_lt m h0
    refine ⟨?_, ?_, Nat.lt_of_le_of_lt (Nat.div_le_self _ _) hm⟩
    · rw [vle_base (b := e) (by omega) (by omega), Int.sub_self, show (0 - e).toNat = (-e).toNat by omega]
      rw [Int.toNat_zero, Nat.pow_zero, Nat.mul_one]
      exact Nat.div_mul_le_self _ _
    · rw [vle_base (b := e) (by omega) (by omega), Int.sub_self, show (0 - e).toNat = (-e).toNat by omega]
      rw [Int.toNat_zero, Nat.pow_zero, Nat.mul_one, Nat.succ_mul]
      rw [Nat.mul_comm] at hdm
      omega
  · rw [show (-e).toNat = 0 by omega, Nat.pow_zero, Nat.div_one]
    have hs := vle_shift m e e.toNat
    rw [show e - (e.toNat : Int) = 0 by omega] at hs
    refine ⟨hs.2, vle_trans hs.1 (vle_same.2 (Nat.le_succ _)), ?_⟩
    have := vle_trans hs.2 h
    rw [vle_base (b := 0) (by omega) (by omega)] at this
    rw [Int.sub_zero, Int.toNat_zero, Nat.pow_zero, Nat.mul_one] at this
    have e52 : 1 * 2 ^ ((52 : Int) - 0).toNat = 4503599627370496 := by decide +kernel
    omega
/-- A whole number of no more than 53 digits. -/
theorem whole_word {M : Nat} (hM : M < 9007199254740992) : ∃ R, nearRung FloatKind.f64.format M 0 = R ∧ R < FloatKind.f64.format.infRung ∧ vle (rungVal FloatKind.f64.format R) (-1074) M 0 ∧ vle M 0 (rungVal FloatKind.f64.format R) (-1074) := by
  have hv : vle M 0 1 53 := by
    rw [vle_base (b := 0) (by omega) (by omega)]
    have e53 : 1 * 2 ^ ((53 : Int) - 0).toNat = 9007199254740992 := by decide +kernel
    rw [e53, Int.sub_zero, Int.toNat_zero, Nat.pow_zero, Nat.mul_one]; omega
  have h := near_own (f := FloatKind.f64.format) (mag := M) (place := 0) (by rw [f64_bin]; omega) (by rw [f64_least]; omega) (c := (53 + 1023) * 4503599627370496) (by rw [f64_inf]; decide) (by rw [f64_least]; exact vle_trans hv (rung2 53).2)
  rw [f64_least] at h
  exact ⟨_, rfl, by have := h.1; rw [f64_inf]; omega, h.2.1, h.2.2⟩
theorem Bd.of_val {s : Bool} {r n : Nat} {m : Nat} {e : Int} (h1 : vle (rungVal FloatKind.f64.format r) (-1074) m e) (h2 : vle m e 1 n) : Bd (FloatKind.f64.format.word s r) n :=
  ⟨s, r, rfl, rung_le_of_val (f := FloatKind.f64.format) ((vle_same (e := -1074)).1 (vle_trans h1 (vle_trans h2 (rung2 n).2)))⟩

theorem frac_facts {y : Nat} (h : Bd y 52) : -9007199254740992 < truncI y ∧ truncI y < 9007199254740992 ∧ (FloatKind.f64.decode y).toInt .zero = some (truncI y) ∧ Bd (fracW y) 0 ∧ bad .f64 (truncW y) = false ∧ Wf .f64 (truncW y) ∧
    (if eq .f64 (truncW y) 0 = true then y = fracW y else op .sub .f64 y (truncW y) = fracW y) := by
  obtain ⟨s, r, rfl, hr⟩ := h
  have hlt := Bd.lt hr (by decide)
  have hle := Nat.le_of_lt hlt
  obtain ⟨m, e, hd, h1, h2, he, hm⟩ := datum_val .f64 s hlt
  rw [f64_least] at h1 h2 he
  rw [f64_bin] at hm
  have hread : FloatKind.f64.format.read (FloatKind.f64.format.word s r) = .number s m e := (decode_word .f64 s hle).trans hd
  have hdec : FloatKind.f64.decode (FloatKind.f64.format.word s r) = .number s m e := hread
  have hv : vle m e 1 52 := vle_trans h1 (vle_trans (vle_same.2 (rungVal_mono hr)) (rung2 52).1)
  obtain ⟨f1, f2, f3⟩ := whole_facts (by omega) hv
  have hint : (Datum.number s m e).integral .zero = .number s ((m <<< e.toNat) / 2 ^ (-e).toNat) 0 := by
    unfold Datum.integral
    dsimp only
    rw [cut_zero]
  generalize (m <<< e.toNat) / 2 ^ (-e).toNat = M at *
  have hI : (FloatKind.f64.decode (FloatKind.f64.format.word s r)).toInt .zero = some (signed s M 0) := by
    rw [hdec]; unfold Datum.toInt; rw [hint]
  have hN : truncI (FloatKind.f64.format.word s r) = signed s M 0 := by unfold truncI; rw [hI]; rfl
  have hsig : signed s M 0 = if s then -(M : Int) else (M : Int) := by rw [signed_eq, Nat.pow_zero, Nat.mul_one]
  obtain ⟨R, hR, hRi, hv1, hv2⟩ := whole_word f3
  have hW : truncW (FloatKind.f64.format.word s r) = FloatKind.f64.format.word s R := by
    unfold truncW; rw [hdec, hint]
    show FloatKind.f64.format.nearest s M 0 = _
    rw [nearest_word, hR]
  have hR0 : R = 0 ↔ M = 0 := by
    constructor
    · rintro rfl
      rw [rungVal_low _ 0 (Nat.zero_le _)] at hv2
      rw [vle_base (b := -1074) (by omega) (by omega)] at hv2
      rw [Nat.zero_mul] at hv2
      have := two_pos (0 - (-1074 : Int)).toNat
      rcases Nat.eq_zero_or_pos M with h0 | h0
      · exact h0
      · have := Nat.mul_pos h0 this; omega
    · rintro rfl
      rw [← hR]; unfold nearRung; rw [if_pos rfl]
  have heq : eq .f64 (FloatKind.f64.format.word s R) 0 = decide (R = 0) := by
    rw [eq_key .f64 (wf_word .f64 s (Nat.le_of_lt hRi)) (wf_zero _) (bad_word .f64 s (Nat.le_of_lt hRi)) (bad_zero _), key_word .f64 s (Nat.le_of_lt hRi), key_of_zero]
    cases s <;> simp
  have hfrac : fracW (FloatKind.f64.format.word s r) = if M = 0 then FloatKind.f64.format.word s r else op .sub .f64 (FloatKind.f64.format.word s r) (FloatKind.f64.format.word s R) := by
    unfold fracW
    rw [hN]
    split
    · rename_i h0
      subst h0
      rw [show FloatKind.f64.nearest (signed s 0 0) = 0 by rw [signed_eq]; cases s <;> decide +kernel]
      exact sub_zero64 rfl hlt
    · rename_i h0
      congr 1
      unfold FloatKind.nearest
      show FloatKind.f64.format.nearest _ _ _ = _
      rw [natAbs_signed, Nat.pow_zero, Nat.mul_one, nearest_word, hR]
      congr 1
      rw [hsig]
      cases s
      · simp
      · simp; omega
  rw [hN, hsig]
  refine ⟨by cases s <;> simp <;> omega, by cases s <;> simp <;> omega, by rw [hI, hsig], ?_, by rw [hW]; exact bad_word .f64 s (Nat.le_of_lt hRi), by rw [hW]; exact wf_word .f64 s (Nat.le_of_lt hRi), ?_⟩
  · rw [hfrac]
    split
    · rename_i h0
      subst h0
      exact Bd.of_val h2 f2
    · obtain ⟨m', e', hd', g1, g2, -, -⟩ := datum_val .f64 s hRi
      rw [f64_least] at g1 g2
      have hread' : FloatKind.f64.format.read (FloatKind.f64.format.word s R) = .number s m' e' := (decode_word .f64 s (Nat.le_of_lt hRi)).trans hd'
      unfold op floatBits
      simp only [Format.sub, hread, hread', Datum.opposite, Datum.sum, Option.map_some, Option.getD_some]
      exact Bd.of (diff_le s f1 f2 (vle_trans g1 hv1) (vle_trans hv2 g2))
  · rw [hW, heq, hfrac]
    by_cases h0 : M = 0
    · have := hR0.2 h0
      simp [this, h0]
    · have : ¬ R = 0 := fun h => h0 (hR0.1 h)
      simp [this, h0]
end Go.Fl
