/- Rounding is monotone: the one fact on the model's 'nearest' from which bounds and exactness follow. -/
import Derived.Test.YtommbbheanhkjaaFl
set_option linter.unusedSimpArgs false
set_option linter.unusedVariables false
set_option linter.unnecessarySimpa false
set_option maxRecDepth 20000
namespace Go.Fl
open Ieee

/-- The magnitude that a rung stands for, in units of the format's least place. -/
def rungVal (f : Format) (r : Nat) : Nat := if r < f.binade then r else (f.binade + r % f.binade) * 2 ^ (r / f.binade - 1)

/-- m1 * 2^e1 ≤ m2 * 2^e2 -/
def vle (m1 : Nat) (e1 : Int) (m2 : Nat) (e2 : Int) : Prop := m1 * 2 ^ (e1 - min e1 e2).toNat ≤ m2 * 2 ^ (e2 - min e1 e2).toNat

theorem two_pos (n : Nat) : 0 < 2 ^ n := Nat.two_pow_pos n

theorem vle_base {m1 m2 : Nat} {e1 e2 b : Int} (h1 : b ≤ e1) (h2 : b ≤ e2) : vle m1 e1 m2 e2 ↔ m1 * 2 ^ (e1 - b).toNat ≤ m2 * 2 ^ (e2 - b).toNat := by
  unfold vle
  have a1 : (e1 - b).toNat = (e1 - min e1 e2).toNat + (min e1 e2 - b).toNat := by omega
  have a2 : (e2 - b).toNat = (e2 - min e1 e2).toNat + (min e1 e2 - b).toNat := by omega
  rw [a1, a2, Nat.pow_add, Nat.pow_add, ← Nat.mul_assoc, ← Nat.mul_assoc]
  exact (Nat.mul_le_mul_right_iff (two_pos _)).symm

theorem vle_trans {m1 m2 m3 : Nat} {e1 e2 e3 : Int} (h1 : vle m1 e1 m2 e2) (h2 : vle m2 e2 m3 e3) : vle m1 e1 m3 e3 := by
  have b1 : min e1 (min e2 e3) ≤ e1 := by omega
  have b2 : min e1 (min e2 e3) ≤ e2 := by omega
  have b3 : min e1 (min e2 e3) ≤ e3 := by omega
  rw [vle_base b1 b2] at h1
  rw [vle_base b2 b3] at h2
  rw [vle_base b1 b3]
  exact Nat.le_trans h1 h2

theorem vle_refl (m : Nat) (e : Int) : vle m e m e := Nat.le_refl _
theorem vle_total (m1 : Nat) (e1 : Int) (m2 : Nat) (e2 : Int) : vle m1 e1 m2 e2 ∨ vle m2 e2 m1 e1 := by
  unfold vle; rw [Int.min_comm e2 e1]; exact Nat.le_total _ _
theorem vle_shift (m : Nat) (e : Int) (k : Nat) : vle m e (m * 2 ^ k) (e - k) ∧ vle (m * 2 ^ k) (e - k) m e := by
  have b1 : e - k ≤ e := by omega
  have b2 : e - k ≤ e - k := by omega
  rw [vle_base b1 b2, vle_base b2 b1]
  have : (e - (e - k)).toNat = k := by omega
  rw [this]; simp

/-- Rounding to an integer keeps to integer bounds. -/
theorem cut_le {neg : Bool} {n drop j : Nat} (h : n ≤ j * 2 ^ drop) : Toward.even.cut neg n drop ≤ j := by
  unfold Toward.cut
  dsimp only
  rcases Nat.lt_or_ge (n.log2 + 2) drop with hd | hd
  · rw [Nat.min_eq_right (by omega)]
    have hn : n < 2 ^ (n.log2 + 1) := Nat.lt_log2_self
    have e : 1 <<< (n.log2 + 2) = 2 * 2 ^ (n.log2 + 1) := by rw [Nat.shiftLeft_eq, Nat.pow_succ, Nat.one_mul, Nat.mul_comm]
    rw [e]
    have h1 : n / (2 * 2 ^ (n.log2 + 1)) = 0 := Nat.div_eq_of_lt (by omega)
    have h2 : n % (2 * 2 ^ (n.log2 + 1)) = n := Nat.mod_eq_of_lt (by omega)
    rw [h1, h2]
    have h3 : decide (2 * 2 ^ (n.log2 + 1) < 2 * n) = false := by simp; omega
    have h4 : (2 * 2 ^ (n.log2 + 1) == 2 * n) = false := by rw [beq_eq_false_iff_ne]; omega
    rw [h3, h4]; simp
  · rw [Nat.min_eq_left hd, Nat.shiftLeft_eq, Nat.one_mul]
    have hg := two_pos drop
    generalize hG : 2 ^ drop = g at *
    have hdm := Nat.div_add_mod n g
    have hlt := Nat.mod_lt n hg
    by_cases hlow : n / g < j
    · cases hb : (decide (g < 2 * (n % g)) || g == 2 * (n % g) && (n / g) % 2 == 1) <;> simp <;> omega
    · have : n / g = j := by
        have h1 : n / g ≤ j := Nat.div_le_of_le_mul (by rw [Nat.mul_comm]; exact h)
        omega
      have hr : n % g = 0 := by
        rw [this] at hdm
        have : g * j = j * g := Nat.mul_comm _ _
        omega
      have h3 : decide (g < 2 * (n % g)) = false := by rw [hr]; simp
      have h4 : (g == 2 * (n % g)) = false := by rw [hr, beq_eq_false_iff_ne]; omega
      rw [h3, h4, this]; simp

theorem cut_ge {neg : Bool} {n drop j : Nat} (h : j * 2 ^ drop ≤ n) : j ≤ Toward.even.cut neg n drop := by
  unfold Toward.cut
  dsimp only
  rcases Nat.lt_or_ge (n.log2 + 2) drop with hd | hd
  · have hn : n < 2 ^ (n.log2 + 1) := Nat.lt_log2_self
    have hp : 2 ^ (n.log2 + 1) ≤ 2 ^ drop := Nat.pow_le_pow_right (by omega) (by omega)
    have : j = 0 := by
      rcases Nat.eq_zero_or_pos j with h0 | h0
      · exact h0
      · have : 1 * 2 ^ drop ≤ j * 2 ^ drop := Nat.mul_le_mul_right _ h0
        omega
    rw [this]; exact Nat.zero_le _
  · rw [Nat.min_eq_left hd, Nat.shiftLeft_eq, Nat.one_mul]
    have : j ≤ n / 2 ^ drop := (Nat.le_div_iff_mul_le (two_pos drop)).2 h
    exact Nat.le_trans this (Nat.le_add_right _ _)

theorem binade_pos (f : Format) : 0 < f.binade := two_pos _

theorem rungVal_at (f : Format) (t u : Nat) (h : u ≤ f.binade) : rungVal f ((t + 1) * f.binade + u) = (f.binade + u) * 2 ^ t := by
  have hb := binade_pos f
  unfold rungVal
  have e1 : (t + 1) * f.binade = t * f.binade + f.binade := Nat.succ_mul _ _
  rw [if_neg (by rw [e1]; omega)]
  rcases Nat.lt_or_ge u f.binade with hu | hu
  · have d1 : ((t + 1) * f.binade + u) / f.binade = t + 1 := by
      rw [Nat.mul_comm, Nat.mul_add_div hb, Nat.div_eq_of_lt hu, Nat.add_zero]
    have d2 : ((t + 1) * f.binade + u) % f.binade = u := by
      rw [Nat.mul_comm, Nat.mul_add_mod, Nat.mod_eq_of_lt hu]
    rw [d1, d2]; rfl
  · obtain rfl : u = f.binade := by omega
    have e : (t + 1) * f.binade + f.binade = f.binade * (t + 2) := by rw [← Nat.succ_mul, Nat.mul_comm]
    rw [e, Nat.mul_mod_right, Nat.mul_div_cancel_left _ hb]
    show (f.binade + 0) * 2 ^ (t + 1) = _
    rw [Nat.pow_succ, Nat.add_zero, Nat.mul_comm (2 ^ t) 2, ← Nat.mul_assoc]
    congr 1; omega

theorem rungVal_low (f : Format) (r : Nat) (h : r ≤ 2 * f.binade) : rungVal f r = r := by
  rcases Nat.lt_or_ge r f.binade with hr | hr
  · unfold rungVal; rw [if_pos hr]
  · have := rungVal_at f 0 (r - f.binade) (by omega)
    rw [Nat.zero_add, Nat.one_mul, Nat.pow_zero, Nat.mul_one] at this
    rw [show f.binade + (r - f.binade) = r by omega] at this
    exact this

/-- Each rung from the first binade on stands written so. -/
theorem rung_form (f : Format) (r : Nat) (h : f.binade ≤ r) : ∃ t u, u < f.binade ∧ r = (t + 1) * f.binade + u := by
  have hb := binade_pos f
  refine ⟨r / f.binade - 1, r % f.binade, Nat.mod_lt _ hb, ?_⟩
  have : 1 ≤ r / f.binade := (Nat.le_div_iff_mul_le hb).2 (by omega)
  rw [show r / f.binade - 1 + 1 = r / f.binade by omega, Nat.mul_comm]
  exact (Nat.div_add_mod r f.binade).symm

theorem rungVal_succ (f : Format) (r : Nat) : rungVal f r < rungVal f (r + 1) := by
  have hb := binade_pos f
  rcases Nat.lt_or_ge r f.binade with hr | hr
  · rw [rungVal_low f r (by omega), rungVal_low f (r + 1) (by omega)]; omega
  · obtain ⟨t, u, hu, rfl⟩ := rung_form f r hr
    rw [rungVal_at f t u (by omega), Nat.add_assoc, rungVal_at f t (u + 1) (by omega)]
    exact Nat.mul_lt_mul_of_pos_right (by omega) (two_pos t)

theorem rungVal_mono {f : Format} {r s : Nat} (h : r ≤ s) : rungVal f r ≤ rungVal f s := by
  obtain ⟨d, rfl⟩ := Nat.le.dest h
  induction d with
  | zero => exact Nat.le_refl _
  | succ d ih => exact Nat.le_trans (ih (by omega)) (Nat.le_of_lt (rungVal_succ f _))

theorem rungVal_lt {f : Format} {r s : Nat} (h : r < s) : rungVal f r < rungVal f s :=
  Nat.lt_of_lt_of_le (rungVal_succ f r) (rungVal_mono h)

theorem rung_le_of_val {f : Format} {r s : Nat} (h : rungVal f r ≤ rungVal f s) : r ≤ s := by
  rcases Nat.lt_or_ge s r with h1 | h1
  · have := rungVal_lt (f := f) h1; omega
  · exact h1

/-- The rung of the word nearest to mag * 2^place. -/
def nearRung (f : Format) (mag : Nat) (place : Int) : Nat :=
  if mag = 0 then 0 else
  let last := max (place + mag.log2 - f.fractionBits) f.leastPlace
  let kept := Toward.even.cut false (mag <<< (place - last).toNat) (last - place).toNat
  min ((last - f.leastPlace).toNat * f.binade + kept) f.infRung

theorem cut_neg (neg : Bool) (n d : Nat) : Toward.even.cut neg n d = Toward.even.cut false n d := rfl

theorem nearest_word (f : Format) (neg : Bool) (mag : Nat) (place : Int) : f.nearest neg mag place = f.word neg (nearRung f mag place) := by
  unfold Format.nearest nearRung
  by_cases h : mag = 0
  · rw [if_pos h, if_pos h]
  · rw [if_neg h, if_neg h]; rfl

theorem nearRung_le_inf (f : Format) (mag : Nat) (place : Int) : nearRung f mag place ≤ f.infRung := by
  unfold nearRung
  split
  · exact Nat.zero_le _
  · exact Nat.min_le_right _ _

section
variable {f : Format} {mag : Nat} {place : Int}

/-- What the rounding rests on. -/
theorem near_facts (hm : mag ≠ 0) : ∃ (t : Nat) (last : Int) (kept : Nat), last = f.leastPlace + t ∧
    nearRung f mag place = min (t * f.binade + kept) f.infRung ∧
    (∀ j, vle mag place j last → kept ≤ j) ∧ (∀ j, vle j last mag place → j ≤ kept) ∧
    vle mag place (2 * f.binade) last ∧ ¬ vle (2 * f.binade) last mag place ∧ (0 < t → vle f.binade last mag place) ∧ last = max (place + mag.log2 - f.fractionBits) f.leastPlace := by
  have h1 : 2 ^ mag.log2 ≤ mag := Nat.log2_self_le hm
  have h2 : mag < 2 ^ (mag.log2 + 1) := Nat.lt_log2_self
  refine ⟨(max (place + mag.log2 - f.fractionBits) f.leastPlace - f.leastPlace).toNat, max (place + mag.log2 - f.fractionBits) f.leastPlace, Toward.even.cut false (mag <<< (place - max (place + mag.log2 - f.fractionBits) f.leastPlace).toNat) (max (place + mag.log2 - f.fractionBits) f.leastPlace - place).toNat, by omega, ?_, ?_, ?_, ?_, ?_, ?_, rfl⟩
  · unfold nearRung; rw [if_neg hm]
  · intro j hj
    generalize hl : max (place + mag.log2 - f.fractionBits) f.leastPlace = last at *
    refine cut_le ?_
    rw [Nat.shiftLeft_eq]
    unfold vle at hj
    have a1 : (place - min place last).toNat = (place - last).toNat := by omega
    have a2 : (last - min place last).toNat = (last - place).toNat := by omega
    rwa [a1, a2] at hj
  · intro j hj
    generalize hl : max (place + mag.log2 - f.fractionBits) f.leastPlace = last at *
    refine cut_ge ?_
    rw [Nat.shiftLeft_eq]
    unfold vle at hj
    have a1 : (place - min last place).toNat = (place - last).toNat := by omega
    have a2 : (last - min last place).toNat = (last - place).toNat := by omega
    rwa [a1, a2] at hj
  · generalize hl : max (place + mag.log2 - f.fractionBits) f.leastPlace = last at *
    have hge : place + mag.log2 - f.fractionBits ≤ last := by omega
    unfold vle
    have hb : 2 * f.binade = 2 ^ (f.fractionBits + 1) := by unfold Format.binade; rw [Nat.pow_succ, Nat.mul_comm]
    rw [hb]
    have e1 : 2 ^ (mag.log2 + 1) * 2 ^ (place - min place last).toNat ≤ 2 ^ (f.fractionBits + 1) * 2 ^ (last - min place last).toNat := by
      rw [← Nat.pow_add, ← Nat.pow_add]
      exact Nat.pow_le_pow_right (by omega) (by omega)
    exact Nat.le_trans (Nat.mul_le_mul_right _ (Nat.le_of_lt h2)) e1
  · generalize hl : max (place + mag.log2 - f.fractionBits) f.leastPlace = last at *
    have hge : place + mag.log2 - f.fractionBits ≤ last := by omega
    unfold vle
    have hb : 2 * f.binade = 2 ^ (f.fractionBits + 1) := by unfold Format.binade; rw [Nat.pow_succ, Nat.mul_comm]
    rw [hb, Int.min_comm]
    have e1 : 2 ^ (mag.log2 + 1) * 2 ^ (place - min place last).toNat ≤ 2 ^ (f.fractionBits + 1) * 2 ^ (last - min place last).toNat := by
      rw [← Nat.pow_add, ← Nat.pow_add]
      exact Nat.pow_le_pow_right (by omega) (by omega)
    have e2 := Nat.mul_lt_mul_of_pos_right h2 (two_pos (place - min place last).toNat)
    omega
  · intro ht
    generalize hl : max (place + mag.log2 - f.fractionBits) f.leastPlace = last at *
    have hge : place + mag.log2 - f.fractionBits = last := by omega
    unfold vle
    have e1 : 2 ^ f.fractionBits * 2 ^ (last - min last place).toNat ≤ 2 ^ mag.log2 * 2 ^ (place - min last place).toNat := by
      rw [← Nat.pow_add, ← Nat.pow_add]
      exact Nat.pow_le_pow_right (by omega) (by omega)
    exact Nat.le_trans e1 (Nat.mul_le_mul_right _ h1)

theorem vle_up (j : Nat) (f : Format) (t : Nat) : vle (j * 2 ^ t) f.leastPlace j (f.leastPlace + t) ∧ vle j (f.leastPlace + t) (j * 2 ^ t) f.leastPlace := by
  have := vle_shift j (f.leastPlace + t) t
  rw [show f.leastPlace + (t : Int) - (t : Int) = f.leastPlace by omega] at this
  exact ⟨this.2, this.1⟩

theorem vle_same {a b : Nat} {e : Int} : vle a e b e ↔ a ≤ b := by
  unfold vle; simp

/-- ROUNDING KEEPS TO AN UPPER BOUND OF THE FORMAT's OWN. -/
theorem near_le {c : Nat} (h : vle mag place (rungVal f c) f.leastPlace) : nearRung f mag place ≤ c := by
  by_cases hm : mag = 0
  · unfold nearRung; rw [if_pos hm]; exact Nat.zero_le _
  obtain ⟨t, last, kept, rfl, hr, hle, hge, hup, hnup, hlow, _⟩ := near_facts (f := f) (place := place) hm
  rw [hr]
  refine Nat.le_trans (Nat.min_le_left _ _) ?_
  have hb := binade_pos f
  have hk : kept ≤ 2 * f.binade := hle _ hup
  rcases Nat.eq_zero_or_pos t with rfl | ht
  · rw [Nat.zero_mul, Nat.zero_add]
    rcases Nat.lt_or_ge (2 * f.binade) c with hc | hc
    · omega
    · rw [rungVal_low f c hc] at h
      exact hle c (by simpa using h)
  · rcases Nat.lt_or_ge c ((t + 1) * f.binade) with hc | hc
    · exfalso
      have h1 := rungVal_lt (f := f) hc
      have h2 := rungVal_at f t 0 (by omega)
      rw [Nat.add_zero, Nat.add_zero] at h2
      rw [h2] at h1
      have h3 := vle_trans (vle_trans (vle_up f.binade f t).1 (hlow ht)) h
      exact absurd (vle_same.1 h3) (Nat.not_le.2 h1)
    · rcases Nat.lt_or_ge c ((t + 2) * f.binade) with hc2 | hc2
      · obtain ⟨u, rfl⟩ := Nat.le.dest hc
        have e2 : (t + 2) * f.binade = (t + 1) * f.binade + f.binade := Nat.succ_mul _ _
        have hu : u < f.binade := by omega
        rw [rungVal_at f t u (by omega)] at h
        have := hle (f.binade + u) (vle_trans h (vle_up _ f t).1)
        have e1 : (t + 1) * f.binade = t * f.binade + f.binade := Nat.succ_mul _ _
        omega
      · have e2 : (t + 2) * f.binade = t * f.binade + 2 * f.binade := Nat.add_mul _ _ _
        omega

/-- .. AND TO A LOWER ONE. -/
theorem near_ge {c : Nat} (hc : c ≤ f.infRung) (h : vle (rungVal f c) f.leastPlace mag place) : c ≤ nearRung f mag place := by
  by_cases hm : mag = 0
  · subst hm
    have : rungVal f c ≤ 0 := by
      unfold vle at h
      rw [Nat.zero_mul] at h
      rcases Nat.eq_zero_or_pos (rungVal f c) with h0 | h0
      · omega
      · have := Nat.mul_pos h0 (two_pos (f.leastPlace - min f.leastPlace place).toNat); omega
    rcases Nat.eq_zero_or_pos c with h0 | h0
    · omega
    · have h1 := rungVal_lt (f := f) h0
      omega
  obtain ⟨t, last, kept, rfl, hr, hle, hge, hup, hnup, hlow, _⟩ := near_facts (f := f) (place := place) hm
  rw [hr]
  refine Nat.le_min.2 ⟨?_, hc⟩
  have hb := binade_pos f
  rcases Nat.eq_zero_or_pos t with rfl | ht
  · rw [Nat.zero_mul, Nat.zero_add]
    rcases Nat.lt_or_ge (2 * f.binade) c with hc | hc
    · exfalso
      have h1 := rungVal_mono (f := f) (Nat.le_of_lt hc)
      rw [rungVal_low f _ (Nat.le_refl _)] at h1
      exact hnup (by simpa using vle_trans (vle_same.2 h1) h)
    · rw [rungVal_low f c hc] at h
      exact hge c (by simpa using h)
  · have e1 : (t + 1) * f.binade = t * f.binade + f.binade := Nat.succ_mul _ _
    have e2 : (t + 2) * f.binade = (t + 1) * f.binade + f.binade := Nat.succ_mul _ _
    rcases Nat.lt_or_ge c ((t + 1) * f.binade) with hc1 | hc1
    · have := hge f.binade (hlow ht)
      omega
    · rcases Nat.lt_or_ge c ((t + 2) * f.binade) with hc2 | hc2
      · obtain ⟨u, rfl⟩ := Nat.le.dest hc1
        have hu : u < f.binade := by omega
        rw [rungVal_at f t u (by omega)] at h
        have := hge (f.binade + u) (vle_trans (vle_up _ f t).2 h)
        omega
      · exfalso
        have h1 := rungVal_mono (f := f) hc2
        rw [e2, rungVal_at f t f.binade (Nat.le_refl _)] at h1
        have h3 : f.binade + f.binade = 2 * f.binade := by omega
        rw [h3] at h1
        exact hnup (vle_trans (vle_up _ f t).2 (vle_trans (vle_same.2 h1) h))

/-- What the format has is not rounded. -/
theorem near_exact {c : Nat} (hc : c ≤ f.infRung) (h1 : vle (rungVal f c) f.leastPlace mag place) (h2 : vle mag place (rungVal f c) f.leastPlace) : nearRung f mag place = c :=
  Nat.le_antisymm (near_le h2) (near_ge hc h1)

theorem rungVal_kept {t kept : Nat} (h : kept ≤ 2 * f.binade) (hl : 0 < t → f.binade ≤ kept) : rungVal f (t * f.binade + kept) = kept * 2 ^ t := by
  rcases Nat.eq_zero_or_pos t with rfl | ht
  · rw [Nat.zero_mul, Nat.zero_add, Nat.pow_zero, Nat.mul_one]; exact rungVal_low f _ h
  · have := hl ht
    have e := rungVal_at f t (kept - f.binade) (by omega)
    rw [show f.binade + (kept - f.binade) = kept by omega] at e
    rw [← e, Nat.succ_mul]
    congr 1; omega

/-- A number of no more digits than the format's own is not rounded, if it is not too great. -/
theorem near_own (hm : mag < 2 * f.binade) (he : f.leastPlace ≤ place) {c : Nat} (hc : c < f.infRung) (hfin : vle mag place (rungVal f c) f.leastPlace) :
    nearRung f mag place ≤ c ∧ vle (rungVal f (nearRung f mag place)) f.leastPlace mag place ∧ vle mag place (rungVal f (nearRung f mag place)) f.leastPlace := by
  refine ⟨near_le hfin, ?_⟩
  by_cases h0 : mag = 0
  · subst h0
    have : nearRung f 0 place = 0 := by unfold nearRung; rw [if_pos rfl]
    rw [this, rungVal_low f 0 (Nat.zero_le _)]
    unfold vle; simp
  obtain ⟨t, last, kept, hlast, hr, hle, hge, hup, hnup, hlow, hl⟩ := near_facts (f := f) (place := place) h0
  have hL : mag.log2 ≤ f.fractionBits := by
    have h1 : 2 ^ mag.log2 ≤ mag := Nat.log2_self_le h0
    have hb : 2 * f.binade = 2 ^ (f.fractionBits + 1) := by unfold Format.binade; rw [Nat.pow_succ, Nat.mul_comm]
    have : 2 ^ mag.log2 < 2 ^ (f.fractionBits + 1) := by omega
    have := (Nat.pow_lt_pow_iff_right (a := 2) (by omega)).1 this
    omega
  have hpl : last ≤ place := by omega
  have hk : kept = mag * 2 ^ (place - last).toNat := by
    have e1 : vle mag place (mag * 2 ^ (place - last).toNat) last := by
      have := (vle_shift mag place (place - last).toNat).1
      rwa [show place - ((place - last).toNat : Int) = last by omega] at this
    have e2 : vle (mag * 2 ^ (place - last).toNat) last mag place := by
      have := (vle_shift mag place (place - last).toNat).2
      rwa [show place - ((place - last).toNat : Int) = last by omega] at this
    exact Nat.le_antisymm (hle _ e1) (hge _ e2)
  have hk2 : kept ≤ 2 * f.binade := hle _ hup
  have hv := rungVal_kept (t := t) hk2 (fun ht => hge _ (hlow ht))
  have hfull : nearRung f mag place = t * f.binade + kept := by
    have := near_le (f := f) hfin
    rw [hr] at this ⊢
    omega
  rw [hfull, hv]
  subst hlast
  have e1 : vle mag place kept (f.leastPlace + t) := by
    rw [hk]
    have := (vle_shift mag place (place - (f.leastPlace + t)).toNat).1
    rwa [show place - ((place - (f.leastPlace + t)).toNat : Int) = f.leastPlace + t by omega] at this
  have e2 : vle kept (f.leastPlace + t) mag place := by
    rw [hk]
    have := (vle_shift mag place (place - (f.leastPlace + t)).toNat).2
    rwa [show place - ((place - (f.leastPlace + t)).toNat : Int) = f.leastPlace + t by omega] at this
  exact ⟨vle_trans (vle_up kept f t).1 e2, vle_trans e1 (vle_up kept f t).2⟩
end
end Go.Fl
