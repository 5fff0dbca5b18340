/- Crude bounds by powers of two: what is computed from a turn's fraction does not overflow when narrowed. -/
import Derived.Test.YtommbbheanhkjaaPure9
set_option linter.unusedSimpArgs false
set_option linter.unusedVariables false
set_option linter.unnecessarySimpa false
set_option maxRecDepth 20000
namespace Go.Fl
open Go.RowKit Ieee

theorem vle_mul {m1 m2 n1 n2 : Nat} {e1 e2 f1 f2 : Int} (h1 : vle m1 e1 n1 f1) (h2 : vle m2 e2 n2 f2) : vle (m1 * m2) (e1 + e2) (n1 * n2) (f1 + f2) := by
  rw [vle_base (b := min e1 f1) (by omega) (by omega)] at h1
  rw [vle_base (b := min e2 f2) (by omega) (by omega)] at h2
  rw [vle_base (b := min e1 f1 + min e2 f2) (by omega) (by omega)]
  rw [show (e1 + e2 - (min e1 f1 + min e2 f2)).toNat = (e1 - min e1 f1).toNat + (e2 - min e2 f2).toNat by omega]
  rw [show (f1 + f2 - (min e1 f1 + min e2 f2)).toNat = (f1 - min e1 f1).toNat + (f2 - min e2 f2).toNat by omega]
  rw [Nat.pow_add, Nat.pow_add, Nat.mul_mul_mul_comm, Nat.mul_mul_mul_comm n1]
  exact Nat.mul_le_mul h1 h2

/-- A finite 64-bit word of a size of at most 2^n. -/
def Bd (x n : Nat) : Prop := ∃ s r, x = FloatKind.f64.format.word s r ∧ r ≤ (n + 1023) * 4503599627370496
theorem rung2 (n : Nat) : vle (rungVal FloatKind.f64.format ((n + 1023) * 4503599627370496)) (-1074) 1 n ∧ vle 1 n (rungVal FloatKind.f64.format ((n + 1023) * 4503599627370496)) (-1074) := by
  have h := rungVal_at FloatKind.f64.format (n + 1022) 0 (Nat.zero_le _)
  rw [f64_bin, Nat.add_zero, Nat.add_zero] at h
  rw [h]
  have e : 4503599627370496 * 2 ^ (n + 1022) = 1 * 2 ^ (n + 1074) := by
    rw [show n + 1074 = 52 + (n + 1022) by omega, Nat.pow_add 2 52, Nat.one_mul]
  rw [e]
  have hs := vle_shift 1 n (n + 1074)
  rw [show (n : Int) - ((n + 1074 : Nat) : Int) = -1074 by omega] at hs
  exact ⟨hs.2, hs.1⟩
theorem Bd.mono {x n k : Nat} (h : Bd x n) (hk : n ≤ k) : Bd x k := by
  obtain ⟨s, r, h1, h2⟩ := h
  exact ⟨s, r, h1, Nat.le_trans h2 (Nat.mul_le_mul_right _ (by omega))⟩
theorem Bd.lt {n r : Nat} (h : r ≤ (n + 1023) * 4503599627370496) (hn : n ≤ 1022) : r < FloatKind.f64.format.infRung := by
  rw [f64_inf]
  have : (n + 1023) * 4503599627370496 ≤ (1022 + 1023) * 4503599627370496 := Nat.mul_le_mul_right _ (by omega)
  omega
theorem Bd.val {x n : Nat} (h : Bd x n) (hn : n ≤ 1022) : ∃ s m e, FloatKind.f64.format.read x = .number s m e ∧ vle m e 1 n ∧ m < 9007199254740992 ∧ -1074 ≤ e := by
  obtain ⟨s, r, rfl, hr⟩ := h
  have hlt := Bd.lt hr hn
  obtain ⟨m, e, hd, h1, h2, he, hm⟩ := datum_val .f64 s hlt
  rw [f64_least] at h1 h2 he
  rw [f64_bin] at hm
  exact ⟨s, m, e, (decode_word .f64 s (Nat.le_of_lt hlt)).trans hd, vle_trans h1 (vle_trans (vle_same.2 (rungVal_mono hr)) (rung2 n).1), by omega, he⟩
theorem Bd.of {s : Bool} {m n : Nat} {e : Int} (h : vle m e 1 n) : Bd (can .f64 (FloatKind.f64.format.nearest s m e)) n := by
  rw [nearest_word, can_of_not (bad_word .f64 s (nearRung_le_inf _ _ _))]
  exact ⟨s, _, rfl, near_le (by rw [f64_least]; exact vle_trans h (rung2 n).2)⟩
theorem Bd.not_bad {x n : Nat} (h : Bd x n) (hn : n ≤ 1022) : bad .f64 x = false := by
  obtain ⟨s, r, rfl, hr⟩ := h
  exact bad_word .f64 s (Nat.le_of_lt (Bd.lt hr hn))
theorem Bd.wf {x n : Nat} (h : Bd x n) (hn : n ≤ 1022) : Wf .f64 x := by
  obtain ⟨s, r, rfl, hr⟩ := h
  exact wf_word .f64 s (Nat.le_of_lt (Bd.lt hr hn))
theorem Bd.mul {x y a b : Nat} (hx : Bd x a) (hy : Bd y b) (h : a + b ≤ 1022) : Bd (op .mul .f64 x y) (a + b) := by
  obtain ⟨s, m, e, hr1, hv1, -, -⟩ := hx.val (by omega)
  obtain ⟨t, n, j, hr2, hv2, -, -⟩ := hy.val (by omega)
  unfold op floatBits
  simp only [Format.mul, hr1, hr2, Datum.product, Option.map_some, Option.getD_some]
  exact Bd.of (by have := vle_mul hv1 hv2; simpa using this)
theorem natAbs_signed (s : Bool) (m u : Nat) : (signed s m u).natAbs = m * 2 ^ u := by
  rw [signed_eq]; generalize m * 2 ^ u = A; cases s <;> simp
theorem sum_le {m n c : Nat} {i j : Int} (s t : Bool) (h1 : vle m i 1 c) (h2 : vle n j 1 c) : vle (signed s m (i - min i j).toNat + signed t n (j - min i j).toNat).natAbs (min i j) 1 ((c + 1 : Nat) : Int) := by
  have ha := Int.natAbs_add_le (signed s m (i - min i j).toNat) (signed t n (j - min i j).toNat)
  rw [natAbs_signed, natAbs_signed] at ha
  refine vle_trans (vle_same.2 ha) ?_
  rw [vle_base (b := min (min i j) c) (by omega) (by omega)] at h1 h2
  rw [vle_base (b := min (min i j) c) (by omega) (by omega)]
  rw [Nat.add_mul, Nat.mul_assoc, Nat.mul_assoc, ← Nat.pow_add, ← Nat.pow_add]
  rw [show (i - min i j).toNat + (min i j - min (min i j) (c : Int)).toNat = (i - min (min i j) (c : Int)).toNat by omega]
  rw [show (j - min i j).toNat + (min i j - min (min i j) (c : Int)).toNat = (j - min (min i j) (c : Int)).toNat by omega]
  rw [show (((c + 1 : Nat) : Int) - min (min i j) (c : Int)).toNat = ((c : Int) - min (min i j) (c : Int)).toNat + 1 by omega]
  rw [Nat.pow_succ]
  omega
theorem Bd.add {x y c : Nat} (hx : Bd x c) (hy : Bd y c) (h : c ≤ 1021) : Bd (op .add .f64 x y) (c + 1) := by
  obtain ⟨s, m, e, hr1, hv1, -, -⟩ := hx.val (by omega)
  obtain ⟨t, n, j, hr2, hv2, -, -⟩ := hy.val (by omega)
  unfold op floatBits
  simp only [Format.add, hr1, hr2, Datum.sum, Option.map_some, Option.getD_some]
  exact Bd.of (sum_le s t hv1 hv2)
theorem Bd.sub {x y c : Nat} (hx : Bd x c) (hy : Bd y c) (h : c ≤ 1021) : Bd (op .sub .f64 x y) (c + 1) := by
  obtain ⟨s, m, e, hr1, hv1, -, -⟩ := hx.val (by omega)
  obtain ⟨t, n, j, hr2, hv2, -, -⟩ := hy.val (by omega)
  unfold op floatBits
  simp only [Format.sub, hr1, hr2, Datum.opposite, Datum.sum, Option.map_some, Option.getD_some]
  exact Bd.of (sum_le s (!t) hv1 hv2)
/-- The quotient by a number that is not less than 1. -/
theorem Bd.quo {x d a n : Nat} {t : Bool} {j : Int} (hx : Bd x a) (hd : FloatKind.f64.format.read d = .number t n j) (hn : vle 1 0 n j) (h : a ≤ 1021) : Bd (op .quo .f64 x d) (a + 1) := by
  obtain ⟨s, m, i, hr1, hv1, -, -⟩ := hx.val (by omega)
  have hn0 : n ≠ 0 := by
    rintro rfl
    unfold vle at hn
    have := two_pos (0 - min 0 j).toNat
    simp at hn
  unfold op floatBits
  simp only [Format.div, hr1, hd, Datum.quotient, hn0, if_false, Option.map_some, Option.getD_some]
  refine Bd.of ?_
  generalize hmo : FloatKind.f64.format.fractionBits + 2 + n.log2 - m.log2 = more
  have hQ : (2 * (m <<< more / n) + (m <<< more % n != 0).toNat) * n ≤ 4 * (m * 2 ^ more) := by
    rw [Nat.shiftLeft_eq]
    by_cases hm0 : m = 0
    · subst hm0; simp
    · have hD : n ≤ m * 2 ^ more := by
        have h1 : n < 2 ^ (n.log2 + 1) := Nat.lt_log2_self
        have h2 : 2 ^ m.log2 ≤ m := Nat.log2_self_le hm0
        have h3 : 2 ^ (n.log2 + 1) ≤ 2 ^ (m.log2 + more) := Nat.pow_le_pow_right (by decide) (by omega)
        have h4 : 2 ^ (m.log2 + more) ≤ m * 2 ^ more := by rw [Nat.pow_add]; exact Nat.mul_le_mul_right _ h2
        omega
      generalize m * 2 ^ more = D at *
      have hst : (D % n != 0).toNat ≤ 1 := by cases (D % n != 0) <;> simp
      generalize (D % n != 0).toNat = st at *
      have hdm : D / n * n ≤ D := Nat.div_mul_le_self D n
      have hsn : st * n ≤ 1 * n := Nat.mul_le_mul_right _ hst
      rw [Nat.add_mul, Nat.mul_assoc]
      omega
  generalize 2 * (m <<< more / n) + (m <<< more % n != 0).toNat = Q at *
  have s1 := vle_mul (vle_refl Q (i - j - more - 1)) hn
  rw [Nat.mul_one, Int.add_zero] at s1
  refine vle_trans s1 (vle_trans (vle_same.2 hQ) ?_)
  have s3 := (vle_shift m (i + 1) (more + 2)).2
  rw [show i + 1 - ((more + 2 : Nat) : Int) = i - j - more - 1 + j by omega] at s3
  have e4 : 4 * (m * 2 ^ more) = m * 2 ^ (more + 2) := by
    rw [Nat.pow_add, ← Nat.mul_assoc m]
    generalize m * 2 ^ more = D
    show 4 * D = D * 4
    omega
  rw [e4]
  refine vle_trans s3 ?_
  have s4 := vle_mul hv1 (vle_refl 1 1)
  rw [Nat.mul_one, Nat.mul_one] at s4
  exact s4

/-- A word that is nothing but a number's: what a turn keeps. -/
theorem cut_zero (neg : Bool) (n drop : Nat) : Toward.zero.cut neg n drop = n / 2 ^ drop := by
  unfold Toward.cut
  dsimp only
  rcases Nat.lt_or_ge (n.log2 + 2) drop with hd | hd
  · rw [Nat.min_eq_right (by omega), Nat.shiftLeft_eq, Nat.one_mul]
    have hn : n < 2 ^ (n.log2 + 1) := Nat.lt_log2_self
    have h1 : 2 ^ (n.log2 + 1) ≤ 2 ^ (n.log2 + 2) := Nat.pow_le_pow_right (by decide) (by omega)
    have h2 : 2 ^ (n.log2 + 1) ≤ 2 ^ drop := Nat.pow_le_pow_right (by decide) (by omega)
    rw [Nat.div_eq_of_lt (by omega), Nat.div_eq_of_lt (by omega)]; rfl
  · rw [Nat.min_eq_left hd, Nat.shiftLeft_eq, Nat.one_mul]; simp
/-- A number less nought. -/
theorem sub_zero64 {x : Nat} {s : Bool} {r : Nat} (hx : x = FloatKind.f64.format.word s r) (hr : r < FloatKind.f64.format.infRung) : op .sub .f64 x 0 = x := by
  subst hx
  have hr' := Nat.le_of_lt hr
  obtain ⟨m, e, hd, h1, h2, he, hm⟩ := datum_val .f64 s hr
  have hread : FloatKind.f64.format.read (FloatKind.f64.format.word s r) = .number s m e := (decode_word .f64 s hr').trans hd
  have h0 : FloatKind.f64.format.read 0 = .number false 0 (-1074) := by decide +kernel
  rw [f64_least] at h1 h2 he
  have hbase : min e (-1074 : Int) = -1074 := by omega
  have hn : nearRung FloatKind.f64.format (m * 2 ^ (e - -1074).toNat) (-1074) = r := by
    have hv := vle_shift m e (e - -1074).toNat
    rw [show e - ((e - -1074).toNat : Int) = -1074 by omega] at hv
    exact near_exact hr' (by rw [f64_least]; exact vle_trans h2 hv.1) (by rw [f64_least]; exact vle_trans hv.2 h1)
  unfold op floatBits
  simp only [Format.sub, h0, hread, Datum.opposite, Datum.sum, Option.map_some, Option.getD_some, hbase]
  have ht : (signed s m (e - -1074).toNat + signed (!false) 0 (-1074 - -1074 : Int).toNat) = signed s m (e - -1074).toNat := by simp [signed_eq]
  rw [ht]
  show can .f64 (FloatKind.f64.format.nearest _ _ _) = _
  rw [natAbs_signed, nearest_word, hn]
  have hsg : (if signed s m (e - -1074).toNat = 0 then s && !false else decide (signed s m (e - -1074).toNat < 0)) = s := by
    rw [signed_eq]
    generalize m * 2 ^ (e - -1074).toNat = A
    cases s
    · simp only [Bool.false_eq_true, if_false, Bool.false_and]
      split
      · rfl
      · exact decide_eq_false (by omega)
    · simp only [if_true, Bool.not_false, Bool.and_self]
      split
      · rfl
      · exact decide_eq_true (by omega)
  rw [hsg]
  exact can_of_not (bad_word .f64 s hr')
end Go.Fl
