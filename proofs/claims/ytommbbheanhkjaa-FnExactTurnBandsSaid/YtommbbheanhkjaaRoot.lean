/- Square roots: they do not overflow when narrowed; quotients by what is not finite. -/
import Derived.Test.YtommbbheanhkjaaPure6
set_option linter.unusedSimpArgs false
set_option linter.unusedVariables false
set_option linter.unnecessarySimpa false
set_option maxRecDepth 20000
namespace Go.Fl
open Go.RowKit Ieee

/-- The square root, up to the bits of a not-a-number. -/
def sqrtW (x : Nat) : Nat := can .f64 ((FloatKind.f64.format.sqrt x).getD (qnan .f64))
theorem rootFrom_lt (n : Nat) : ∀ (t r : Nat), Datum.rootFrom n t r < r + 2 ^ t
  | 0, r => by simp [Datum.rootFrom]
  | t + 1, r => by
    unfold Datum.rootFrom
    have h2 : 2 ^ (t + 1) = 2 ^ t + 2 ^ t := by rw [Nat.pow_succ]; omega
    have h3 : 1 <<< t = 2 ^ t := by rw [Nat.shiftLeft_eq, Nat.one_mul]
    have h4 := two_pos t
    simp only [h3]
    split
    · have := rootFrom_lt n t (r + 2 ^ t); omega
    · have := rootFrom_lt n t r; omega

theorem log2_lt {m k : Nat} (h : m < 2 ^ k) (hm : m ≠ 0) : m.log2 < k := (Nat.log2_lt hm).2 h
theorem log2_shift {m : Nat} (hm : m ≠ 0) (k : Nat) : (m * 2 ^ k).log2 = m.log2 + k := by
  have h0 : m * 2 ^ k ≠ 0 := Nat.mul_ne_zero hm (Nat.ne_of_gt (two_pos k))
  refine (Nat.log2_eq_iff h0).2 ⟨?_, ?_⟩
  · rw [Nat.pow_add]; exact Nat.mul_le_mul_right _ (Nat.log2_self_le hm)
  · rw [show m.log2 + k + 1 = (m.log2 + 1) + k by omega, Nat.pow_add]; exact Nat.mul_lt_mul_of_pos_right Nat.lt_log2_self (two_pos k)
theorem datum_small {s : Bool} {R : Nat} (h : R ≤ 5183643170566569984) : ∃ m i, datumOf .f64 s R = .number s m i ∧ (m ≠ 0 → (m.log2 : Int) + i ≤ 127) ∧ i ≤ 75 ∧ -1074 ≤ i ∧ m < 9007199254740992 := by
  unfold datumOf
  rw [f64_bin, f64_inf, f64_least]
  split
  · rename_i hlt
    refine ⟨R, _, rfl, fun hm => ?_, by omega, by omega, by omega⟩
    have := log2_lt (k := 52) (m := R) (by omega) hm
    omega
  · rw [if_pos (by omega)]
    have hd : R / 4503599627370496 ≤ 1150 := by omega
    have hmod := Nat.mod_lt R (show 0 < 4503599627370496 by decide)
    refine ⟨_, _, rfl, fun hm => ?_, by omega, by omega, by omega⟩
    have := log2_lt (k := 53) (m := 4503599627370496 + R % 4503599627370496) (by omega) hm
    omega

set_option exponentiation.threshold 2000 in
theorem root_rung : rungVal FloatKind.f64.format 4908923593833840640 = 4503599627370496 * 2 ^ 1089 := by
  have h1 := rungVal_at FloatKind.f64.format 1089 0 (Nat.zero_le _)
  rw [f64_bin] at h1
  rw [show (1089 + 1) * 4503599627370496 + 0 = 4908923593833840640 by decide] at h1
  exact h1

set_option exponentiation.threshold 2000 in
theorem sqrt_small {s : Bool} {R : Nat} (h : R ≤ 5183643170566569984) : FloatKind.f64.format.sqrt (FloatKind.f64.format.word s R) = none ∨ ∃ t r, FloatKind.f64.format.sqrt (FloatKind.f64.format.word s R) = some (FloatKind.f64.format.word t r) ∧ r ≤ 4908923593833840640 := by
  obtain ⟨m, i, hd, hl, hi, hi', hm⟩ := datum_small (s := s) h
  have hR : R ≤ FloatKind.f64.format.infRung := by rw [f64_inf]; omega
  have hread : FloatKind.f64.format.read (FloatKind.f64.format.word s R) = .number s m i := (decode_word .f64 s hR).trans hd
  unfold Format.sqrt
  rw [hread]
  unfold Datum.root
  dsimp only
  by_cases hm0 : m = 0
  · right
    rw [if_pos hm0]
    refine ⟨s, nearRung FloatKind.f64.format m i, by rw [Option.map_some]; exact congrArg some (nearest_word _ _ _ _), ?_⟩
    subst hm0
    exact near_le (by unfold vle; simp)
  · rw [if_neg hm0]
    cases s
    · right
      simp only [Bool.false_eq_true, if_false, Option.map_some]
      refine ⟨false, _, congrArg some (nearest_word _ _ _ _), near_le ?_⟩
      have hlog := hl hm0
      generalize hmo : 2 * (FloatKind.f64.format.fractionBits + 2) - m.log2 + ((i - ((2 * (FloatKind.f64.format.fractionBits + 2) - m.log2 : Nat) : Int)) % 2).toNat = more
      have hn0 : m <<< more ≠ 0 := by rw [Nat.shiftLeft_eq]; exact Nat.mul_ne_zero hm0 (Nat.ne_of_gt (two_pos _))
      have hlogn : (m <<< more).log2 = m.log2 + more := by rw [Nat.shiftLeft_eq, log2_shift hm0]
      have hw := rootFrom_lt (m <<< more) ((m <<< more).log2 / 2 + 1) 0
      rw [hlogn] at hw ⊢
      generalize Datum.rootFrom (m <<< more) ((m.log2 + more) / 2 + 1) 0 = W at *
      have hst : (W * W != m <<< more).toNat ≤ 1 := by cases (W * W != m <<< more) <;> simp
      generalize (W * W != m <<< more).toNat = st at *
      have hW2 : 2 * W + st ≤ 1 * 2 ^ ((m.log2 + more) / 2 + 2) := by rw [Nat.one_mul, Nat.pow_succ]; omega
      refine vle_trans (vle_same.2 hW2) ?_
      have hs := (vle_shift 1 (((m.log2 + more) / 2 + 2 : Nat) + ((i - more) / 2 - 1)) ((m.log2 + more) / 2 + 2)).2
      rw [show (((m.log2 + more) / 2 + 2 : Nat) : Int) + ((i - more) / 2 - 1) - ((m.log2 + more) / 2 + 2 : Nat) = (i - more) / 2 - 1 by omega] at hs
      refine vle_trans hs ?_
      rw [root_rung, f64_least]
      have hp : (((m.log2 + more) / 2 + 2 : Nat) : Int) + ((i - more) / 2 - 1) ≤ 66 := by omega
      generalize (((m.log2 + more) / 2 + 2 : Nat) : Int) + ((i - more) / 2 - 1) = p at *
      have h1 : vle 1 p 1 66 := by
        rcases Int.le_total p (-1074) with hq | hq
        · rw [vle_base (b := p) (Int.le_refl _) (by omega)]
          rw [Int.sub_self]; exact Nat.mul_le_mul_left 1 (Nat.pow_le_pow_right (by decide) (by simp))
        · rw [vle_base (b := -1074) hq (by decide)]
          exact Nat.mul_le_mul_left 1 (Nat.pow_le_pow_right (by decide) (by omega))
      refine vle_trans h1 ?_
      rw [vle_base (b := -1074) (by decide) (by decide)]
      decide +kernel
    · left
      simp

set_option exponentiation.threshold 2000 in
theorem wide_rung {s : Bool} {r : Nat} (h : r < FloatKind.f32.format.infRung) : ∃ R, widen (FloatKind.f32.format.word s r) = FloatKind.f64.format.word s R ∧ R ≤ 5183643170566569984 := by
  obtain ⟨R, h1, _, h3, _⟩ := widen_word (s := s) h
  refine ⟨R, h1, rung_le_of_val (f := FloatKind.f64.format) ((vle_same (e := -1074)).1 (vle_trans h3 (vle_trans (vle_same.2 (rungVal_mono (s := 2139095039) (by rw [f32_inf] at h; omega))) ?_)))⟩
  have h1 := rungVal_at FloatKind.f64.format 1149 4503599090499584 (by rw [f64_bin]; decide)
  have h2 := rungVal_at FloatKind.f32.format 253 8388607 (by rw [f32_bin]; decide)
  rw [f64_bin] at h1
  rw [f32_bin] at h2
  rw [show (1149 + 1) * 4503599627370496 + 4503599090499584 = 5183643170566569984 by decide] at h1
  rw [show (253 + 1) * 8388608 + 8388607 = 2139095039 by decide] at h2
  rw [h1, h2, vle_base (b := -1074) (by decide) (by decide)]
  decide +kernel

theorem sqrt_bad {x : Nat} (h : bad .f64 x = true) : FloatKind.f64.format.sqrt x = none := by
  have h' : (FloatKind.f64.format.read x).isNaN = true := h
  unfold Format.sqrt
  cases hr : FloatKind.f64.format.read x <;> simp [hr, Datum.isNaN] at h'
  simp [Datum.root]
theorem ok_qnan : narrowOk (qnan .f64) = true := by decide +kernel
theorem sqrt_can (x : Nat) : sqrtW (can .f64 x) = sqrtW x := by
  unfold sqrtW
  cases h : bad .f64 x
  · rw [can_of_not h]
  · rw [sqrt_bad h, sqrt_bad (by rw [bad_can]; exact h)]
theorem run_mathSqrt {P : Program} (x : Nat) (w : World) : ∃ r n, (Extern.MathSqrt.sqrt #[.float .f64 x]).run P w = .ok (.float .f64 r) (w.drewN n) ∧ can .f64 r = sqrtW (can .f64 x) ∧ Wf .f64 r := by
  have e : Extern.MathSqrt.sqrt #[.float .f64 x] = (match FloatKind.f64.format.sqrt x with
    | some r => pure (.float .f64 r)
    | none => do pure (.float .f64 (← choose (.nanBits .f64 x x)))) := rfl
  rw [e, sqrt_can]
  unfold sqrtW
  cases h : FloatKind.f64.format.sqrt x with
  | some r => exact ⟨r, 0, by simp [World.drewN_zero], rfl, wf_of_lt .f64 _ (Format.sqrt_lt _ h)⟩
  | none =>
    obtain ⟨h1, h2⟩ := cut_nan .f64 x x (w.tape w.drawn (.nanBits .f64 x x))
    exact ⟨_, 1, by simp [choose, Sem.run, Question.forced, bind, Sem.bind, pure]; rfl, by rw [can_of_nan h1, Option.getD_none, can_of_nan (decode_qnan _)], h2⟩
/-- A narrow number's root, narrowed, is no overflow. -/
theorem sqrt_ok {x : Nat} (hx : Wf .f32 x) : narrowOk (sqrtW (widen x)) = true := by
  cases hb : bad .f32 x
  · obtain ⟨s, r, hr, rfl⟩ := word_of .f32 hx hb
    rcases Nat.lt_or_ge r FloatKind.f32.format.infRung with h | h
    · obtain ⟨R, h1, h2⟩ := wide_rung (s := s) h
      rw [h1]
      unfold sqrtW
      rcases sqrt_small (s := s) h2 with hq | ⟨t, q, hq, hle⟩
      · rw [hq, Option.getD_none, can_of_nan (decode_qnan _)]; exact ok_qnan
      · rw [hq, Option.getD_some, narrowOk_can]
        obtain ⟨_, _, _, hok⟩ := narrow_word (s := t) (R := q) (by omega)
        exact hok
    · obtain rfl : r = FloatKind.f32.format.infRung := by omega
      rw [widen_inf]
      cases s <;> decide +kernel
  · unfold sqrtW
    rw [sqrt_bad (by rw [bad_widen hx]; exact hb), Option.getD_none, can_of_nan (decode_qnan _)]; exact ok_qnan

/-- 'RootNumber'. -/
def rootF (x : Nat) : Nat := narrow (sqrtW (widen x))

theorem fin_word {k : FloatKind} {s : Bool} {r : Nat} (h : r < k.format.infRung) : isFin k (k.format.word s r) = true := by
  unfold isFin op floatBits
  obtain ⟨m, e, hd, _⟩ := datum_val k s h
  have hr : k.format.read (k.format.word s r) = .number s m e := (decode_word k s (Nat.le_of_lt h)).trans hd
  rcases sub_self k (k.format.word s r) with h1 | h1
  · exfalso
    unfold floatBits at h1
    simp only [Format.sub, hr, Datum.opposite, Datum.sum, Option.map_some] at h1
    cases h1
  · unfold floatBits at h1
    rw [h1, Option.getD_some, can_zero]
    cases k <;> decide +kernel
/-- What is not finite. -/
theorem not_fin {x : Nat} (hx : Wf .f32 x) (h : isFin .f32 x = false) : can .f32 x = 2143289344 ∨ x = 2139095040 ∨ x = 4286578688 := by
  cases hb : bad .f32 x
  · obtain ⟨s, r, hr, rfl⟩ := word_of .f32 hx hb
    rcases Nat.lt_or_ge r FloatKind.f32.format.infRung with h2 | h2
    · rw [fin_word h2] at h; cases h
    · obtain rfl : r = FloatKind.f32.format.infRung := by omega
      right
      cases s
      · left; decide +kernel
      · right; decide +kernel
  · left; exact can_of_nan hb
theorem fin_rung {x : Nat} (hx : Wf .f32 x) (h : isFin .f32 x = true) : ∃ s r, r < FloatKind.f32.format.infRung ∧ x = FloatKind.f32.format.word s r := by
  obtain ⟨s, r, hr, rfl⟩ := word_of .f32 hx (fin_not_bad h)
  rcases Nat.lt_or_ge r FloatKind.f32.format.infRung with h2 | h2
  · exact ⟨s, r, h2, rfl⟩
  · obtain rfl : r = FloatKind.f32.format.infRung := by omega
    exfalso; revert h; cases s <;> decide +kernel
theorem quo_inf {x : Nat} (hx : Wf .f32 x) (h : isFin .f32 x = true) : eq .f32 (quo x 2139095040) 0 = true := by
  obtain ⟨s, r, hr, rfl⟩ := fin_rung hx h
  obtain ⟨m, e, hd, _⟩ := datum_val .f32 s hr
  have hread : FloatKind.f32.format.read (FloatKind.f32.format.word s r) = .number s m e := (decode_word .f32 s (Nat.le_of_lt hr)).trans hd
  have hinf : FloatKind.f32.format.read 2139095040 = .infinity false := by decide +kernel
  unfold quo op floatBits
  simp only [Format.div, hread, hinf, Datum.quotient, Option.map_some, Option.getD_some]
  cases s <;> decide +kernel
theorem quo_nan (x : Nat) : isFin .f32 (quo x 2143289344) = false := by
  unfold quo op
  rw [show floatBits .quo .f32 x 2143289344 = none from floatBits_nan_right (decode_qnan .f32), Option.getD_none, can_of_nan (decode_qnan .f32)]
  decide +kernel
/-- A way whose inner product with itself is not finite has no unit. -/
theorem no_unit {x y z i : Nat} (hx : Wf .f32 x) (hy : Wf .f32 y) (hz : Wf .f32 z) (hi : Wf .f32 i) (fx : isFin .f32 x = true) (fy : isFin .f32 y = true) (fz : isFin .f32 z = true) (h : isFin .f32 (can .f32 i) = false) :
    isWay (quo x (rootF (can .f32 i))) (quo y (rootF (can .f32 i))) (quo z (rootF (can .f32 i))) = false := by
  have hc : rootF (can .f32 i) = 2143289344 ∨ rootF (can .f32 i) = 2139095040 := by
    rcases not_fin (wf_can hi) h with h1 | h1 | h1
    · left; rw [can_can] at h1; rw [h1]; decide +kernel
    · right; rw [h1]; decide +kernel
    · left; rw [h1]; decide +kernel
  rcases hc with hc | hc
  · rw [hc]; unfold isWay fin3; rw [quo_nan]; rfl
  · rw [hc]; unfold isWay; rw [quo_inf hx fx, quo_inf hy fy, quo_inf hz fz]; simp
end Go.Fl
