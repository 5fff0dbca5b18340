/- How words stand to each other: by their keys, the rungs with their signs. -/
import Derived.Test.YtommbbheanhkjaaCv
set_option linter.unusedSimpArgs false
set_option linter.unusedVariables false
set_option linter.unnecessarySimpa false
set_option maxRecDepth 20000
namespace Go.Fl
open Ieee

/-- A word's rung, with its sign. -/
def key (k : FloatKind) (x : Nat) : Int := if x < k.format.signWeight then (x : Int) else -((x : Int) - (k.format.signWeight : Int))

theorem key_word (k : FloatKind) (s : Bool) {r : Nat} (h : r ≤ k.format.infRung) : key k (k.format.word s r) = if s then -(r : Int) else (r : Int) := by
  have := inf_lt_sw k
  unfold key Format.word
  cases s
  · simp only [Bool.false_eq_true, if_false]; rw [if_pos (by omega)]
  · simp only [if_true]; rw [if_neg (by omega)]; omega

theorem signed_eq (s : Bool) (m u : Nat) : signed s m u = if s then -((m * 2 ^ u : Nat) : Int) else ((m * 2 ^ u : Nat) : Int) := by
  unfold signed; rw [Nat.shiftLeft_eq]

theorem compare_of_lt {a b : Int} (h : a < b) : compare a b = .lt := by simp [compare, compareOfLessAndEq, h]
theorem compare_of_eq {a b : Int} (h : a = b) : compare a b = .eq := by subst h; simp [compare, compareOfLessAndEq]
theorem compare_of_gt {a b : Int} (h : b < a) : compare a b = .gt := by
  have h1 : ¬ a < b := by omega
  have h2 : ¬ a = b := by omega
  simp [compare, compareOfLessAndEq, h1, h2]

theorem compare_signed {s t : Bool} {M N r q : Nat} (h1 : M ≤ N ↔ r ≤ q) (h2 : N ≤ M ↔ q ≤ r) (h0 : M = 0 ↔ r = 0) (h0' : N = 0 ↔ q = 0) :
    compare (if s then -(M : Int) else (M : Int)) (if t then -(N : Int) else (N : Int)) = compare (if s then -(r : Int) else (r : Int)) (if t then -(q : Int) else (q : Int)) := by
  rcases Int.lt_trichotomy (if s then -(r : Int) else (r : Int)) (if t then -(q : Int) else (q : Int)) with h | h | h
  · rw [compare_of_lt h]; refine compare_of_lt ?_
    cases s <;> cases t <;> simp only [Bool.false_eq_true, if_false, if_true] at h ⊢ <;> omega
  · rw [compare_of_eq h]; refine compare_of_eq ?_
    cases s <;> cases t <;> simp only [Bool.false_eq_true, if_false, if_true] at h ⊢ <;> omega
  · rw [compare_of_gt h]; refine compare_of_gt ?_
    cases s <;> cases t <;> simp only [Bool.false_eq_true, if_false, if_true] at h ⊢ <;> omega

theorem rungVal_zero (f : Format) {r : Nat} : rungVal f r = 0 ↔ r = 0 := by
  constructor
  · intro h
    rcases Nat.eq_zero_or_pos r with h0 | h0
    · exact h0
    · have := rungVal_lt (f := f) h0; omega
  · intro h; subst h; exact rungVal_low f 0 (Nat.zero_le _)

theorem vle_zero {m : Nat} {e : Int} {f : Format} {r : Nat} (h : vle m e (rungVal f r) f.leastPlace) (h' : vle (rungVal f r) f.leastPlace m e) : m = 0 ↔ r = 0 := by
  refine Iff.trans ?_ (rungVal_zero f)
  unfold vle at h h'
  constructor
  · intro hm; subst hm
    rw [Nat.zero_mul] at h'
    rcases Nat.eq_zero_or_pos (rungVal f r) with h0 | h0
    · exact h0
    · have := Nat.mul_pos h0 (two_pos (f.leastPlace - min f.leastPlace e).toNat); omega
  · intro hm; rw [hm, Nat.zero_mul] at h
    rcases Nat.eq_zero_or_pos m with h0 | h0
    · exact h0
    · have := Nat.mul_pos h0 (two_pos (e - min e f.leastPlace).toNat); omega

theorem order_word (k : FloatKind) (s t : Bool) {r q : Nat} (hr : r ≤ k.format.infRung) (hq : q ≤ k.format.infRung) :
    k.format.order (k.format.word s r) (k.format.word t q) = some (compare (if s then -(r : Int) else (r : Int)) (if t then -(q : Int) else (q : Int))) := by
  have d1 : k.format.read (k.format.word s r) = datumOf k s r := decode_word k s hr
  have d2 : k.format.read (k.format.word t q) = datumOf k t q := decode_word k t hq
  unfold Format.order
  rw [d1, d2]
  have hb := bin_le_inf k
  have hbp := binade_pos k.format
  rcases Nat.lt_or_ge r k.format.infRung with h1 | h1
  · obtain ⟨m, e, e1, v1, v1', _⟩ := datum_val k s h1
    rw [e1]
    rcases Nat.lt_or_ge q k.format.infRung with h2 | h2
    · obtain ⟨n, j, e2, v2, v2', _⟩ := datum_val k t h2
      rw [e2]
      simp only [Datum.order, signed_eq]
      congr 1
      have a1 : m * 2 ^ (e - min e j).toNat ≤ n * 2 ^ (j - min e j).toNat ↔ r ≤ q := by
        constructor
        · intro h; exact rung_le_of_val (vle_same.1 (vle_trans v1' (vle_trans h v2)))
        · intro h; exact vle_trans v1 (vle_trans (vle_same.2 (rungVal_mono h)) v2')
      have a2 : n * 2 ^ (j - min e j).toNat ≤ m * 2 ^ (e - min e j).toNat ↔ q ≤ r := by
        have c : vle n j m e ↔ n * 2 ^ (j - min e j).toNat ≤ m * 2 ^ (e - min e j).toNat := by unfold vle; rw [Int.min_comm j e]
        rw [← c]
        constructor
        · intro h; exact rung_le_of_val (vle_same.1 (vle_trans v2' (vle_trans h v1)))
        · intro h; exact vle_trans v2 (vle_trans (vle_same.2 (rungVal_mono h)) v1')
      refine compare_signed a1 a2 ?_ ?_
      · rw [← vle_zero v1 v1', Nat.mul_eq_zero]
        have := two_pos (e - min e j).toNat
        constructor
        · rintro (h | h)
          · exact h
          · omega
        · exact Or.inl
      · rw [← vle_zero v2 v2', Nat.mul_eq_zero]
        have := two_pos (j - min e j).toNat
        constructor
        · rintro (h | h)
          · exact h
          · omega
        · exact Or.inl
    · have e2 : datumOf k t q = .infinity t := by unfold datumOf; rw [if_neg (by omega), if_neg (by omega)]
      rw [e2]
      simp only [Datum.order]
      cases t <;> simp only [Bool.false_eq_true, if_false, if_true] <;> congr 1 <;> symm
      · refine compare_of_lt ?_; cases s <;> simp only [Bool.false_eq_true, if_false, if_true] <;> omega
      · refine compare_of_gt ?_; cases s <;> simp only [Bool.false_eq_true, if_false, if_true] <;> omega
  · have e1 : datumOf k s r = .infinity s := by unfold datumOf; rw [if_neg (by omega), if_neg (by omega)]
    obtain rfl : r = k.format.infRung := by omega
    rw [e1]
    rcases Nat.lt_or_ge q k.format.infRung with h2 | h2
    · obtain ⟨n, j, e2, _⟩ := datum_val k t h2
      rw [e2]
      simp only [Datum.order]
      cases s <;> simp only [Bool.false_eq_true, if_false, if_true] <;> congr 1 <;> symm
      · refine compare_of_gt ?_; cases t <;> simp only [Bool.false_eq_true, if_false, if_true] <;> omega
      · refine compare_of_lt ?_; cases t <;> simp only [Bool.false_eq_true, if_false, if_true] <;> omega
    · have e2 : datumOf k t q = .infinity t := by unfold datumOf; rw [if_neg (by omega), if_neg (by omega)]
      obtain rfl : q = k.format.infRung := by omega
      rw [e2]
      simp only [Datum.order]
      congr 1
      cases s <;> cases t <;> simp only [Bool.false_eq_true, if_false, if_true]
      · rw [compare_of_eq rfl]; rfl
      · symm; rw [compare_of_gt (by omega)]; rfl
      · symm; rw [compare_of_lt (by omega)]; rfl
      · rw [compare_of_eq rfl]; rfl

theorem order_key (k : FloatKind) {x y : Nat} (hx : Wf k x) (hy : Wf k y) (nx : bad k x = false) (ny : bad k y = false) : k.format.order x y = some (compare (key k x) (key k y)) := by
  obtain ⟨s, r, hr, rfl⟩ := word_of k hx nx
  obtain ⟨t, q, hq, rfl⟩ := word_of k hy ny
  rw [key_word k s hr, key_word k t hq]
  exact order_word k s t hr hq

theorem lt_key (k : FloatKind) {x y : Nat} (hx : Wf k x) (hy : Wf k y) (nx : bad k x = false) (ny : bad k y = false) : lt k x y = decide (key k x < key k y) := by
  unfold lt; rw [order_key k hx hy nx ny]
  rcases Int.lt_trichotomy (key k x) (key k y) with h | h | h
  · rw [compare_of_lt h]; simp [h]
  · rw [compare_of_eq h]; simp [h]
  · rw [compare_of_gt h]; simp; omega
theorem le_key (k : FloatKind) {x y : Nat} (hx : Wf k x) (hy : Wf k y) (nx : bad k x = false) (ny : bad k y = false) : le k x y = decide (key k x ≤ key k y) := by
  unfold le; rw [order_key k hx hy nx ny]
  rcases Int.lt_trichotomy (key k x) (key k y) with h | h | h
  · rw [compare_of_lt h]; simp; omega
  · rw [compare_of_eq h]; simp; omega
  · rw [compare_of_gt h]; simp; omega
theorem eq_key (k : FloatKind) {x y : Nat} (hx : Wf k x) (hy : Wf k y) (nx : bad k x = false) (ny : bad k y = false) : eq k x y = decide (key k x = key k y) := by
  unfold eq; rw [order_key k hx hy nx ny]
  rcases Int.lt_trichotomy (key k x) (key k y) with h | h | h
  · rw [compare_of_lt h]; simp; omega
  · rw [compare_of_eq h]; simp [h]
  · rw [compare_of_gt h]; simp; omega

theorem lt_bad_left {k : FloatKind} {x y : Nat} (h : bad k x = true) : lt k x y = false := by unfold lt; rw [order_nan_left h]; rfl
theorem lt_bad_right {k : FloatKind} {x y : Nat} (h : bad k y = true) : lt k x y = false := by unfold lt; rw [order_nan_right h]; rfl
theorem le_bad_left {k : FloatKind} {x y : Nat} (h : bad k x = true) : le k x y = false := by unfold le; rw [order_nan_left h]; rfl
theorem le_bad_right {k : FloatKind} {x y : Nat} (h : bad k y = true) : le k x y = false := by unfold le; rw [order_nan_right h]; rfl
theorem eq_bad_left {k : FloatKind} {x y : Nat} (h : bad k x = true) : eq k x y = false := by unfold eq; rw [order_nan_left h]; rfl
theorem eq_bad_right {k : FloatKind} {x y : Nat} (h : bad k y = true) : eq k x y = false := by unfold eq; rw [order_nan_right h]; rfl

theorem wf_qnan (k : FloatKind) : Wf k (qnan k) := by cases k <;> unfold Wf <;> decide +kernel
theorem wf_can {k : FloatKind} {x : Nat} (h : Wf k x) : Wf k (can k x) := by
  unfold can; split
  · exact wf_qnan k
  · exact h
theorem bad_can (k : FloatKind) (x : Nat) : bad k (can k x) = bad k x := can_nan k x
theorem bad_qnan (k : FloatKind) : bad k (qnan k) = true := decode_qnan k

theorem eq_refl_bad {k : FloatKind} {x : Nat} (hx : Wf k x) : eq k x x = !bad k x := by
  cases h : bad k x
  · rw [eq_key k hx hx h h]; simp
  · rw [eq_bad_left h]; rfl

/-- Words that are no not-a-numbers are one if they are equal and their signs are. -/
theorem key_inj (k : FloatKind) {x y : Nat} (hx : Wf k x) (hy : Wf k y) (nx : bad k x = false) (ny : bad k y = false) (h : key k x = key k y) (hs : sgn k x = sgn k y) : x = y := by
  obtain ⟨s, r, hr, rfl⟩ := word_of k hx nx
  obtain ⟨t, q, hq, rfl⟩ := word_of k hy ny
  rw [sgn_word k s hr, sgn_word k t hq] at hs
  subst hs
  rw [key_word k s hr, key_word k s hq] at h
  have : r = q := by cases s <;> simp only [Bool.false_eq_true, if_false, if_true] at h <;> omega
  rw [this]

theorem sgn_key (k : FloatKind) {x : Nat} (hx : Wf k x) (nx : bad k x = false) (h : key k x ≠ 0) : sgn k x = decide (key k x < 0) := by
  obtain ⟨s, r, hr, rfl⟩ := word_of k hx nx
  rw [sgn_word k s hr, key_word k s hr] at *
  cases s <;> simp only [Bool.false_eq_true, if_false, if_true] at h ⊢ <;> simp <;> omega

/-- The zeros. -/
theorem key_zero (k : FloatKind) {x : Nat} (hx : Wf k x) (nx : bad k x = false) : key k x = 0 ↔ x = 0 ∨ x = k.format.signWeight := by
  obtain ⟨s, r, hr, rfl⟩ := word_of k hx nx
  have := inf_lt_sw k
  rw [key_word k s hr]
  unfold Format.word
  cases s <;> simp only [Bool.false_eq_true, if_false, if_true] <;> omega

/-- 'the same number' -/
theorem same_iff (k : FloatKind) {x y : Nat} (hx : Wf k x) (hy : Wf k y) :
    (bad k x && bad k y || (eq k (can k x) (can k y) && sgn k x == sgn k y)) = (can k x == can k y) := by
  cases nx : bad k x
  · cases ny : bad k y
    · have cx : can k x = x := can_of_not nx
      have cy : can k y = y := can_of_not ny
      rw [cx, cy, eq_key k hx hy nx ny]
      by_cases h : x = y
      · subst h; simp
      · have h1 : (x == y) = false := by simpa using h
        rw [h1]
        by_cases h2 : key k x = key k y
        · by_cases h3 : sgn k x = sgn k y
          · exact absurd (key_inj k hx hy nx ny h2 h3) h
          · simp [h3]
        · simp [h2]
    · have h1 : (can k x == can k y) = false := by
        simp only [beq_eq_false_iff_ne, ne_eq]
        intro e
        have := bad_can k x
        rw [e, bad_can, nx, ny] at this
        cases this
      rw [h1, eq_bad_right (by rw [bad_can]; exact ny)]; rfl
  · cases ny : bad k y
    · have h1 : (can k x == can k y) = false := by
        simp only [beq_eq_false_iff_ne, ne_eq]
        intro e
        have := bad_can k x
        rw [e, bad_can, nx, ny] at this
        cases this
      rw [h1, eq_bad_left (by rw [bad_can]; exact nx)]; rfl
    · have h1 : can k x = can k y := by rw [can_of_nan nx, can_of_nan ny]
      rw [h1]; simp

theorem wrap64_sgn {x : Nat} (hx : Wf .f64 x) : decide (RowKit.wrap64 (x : Int) < 0) = sgn .f64 x := by
  simp only [Wf, Lit.wf, decide_eq_true_eq] at hx
  unfold sgn RowKit.wrap64
  rw [f64_sw]
  congr 1
  simp only [eq_iff_iff]
  omega

theorem bad_widen {x : Nat} (hx : Wf .f32 x) : bad .f64 (widen x) = bad .f32 x := by
  cases h : bad .f32 x
  · obtain ⟨s, r, hr, rfl⟩ := word_of .f32 hx h
    rcases Nat.lt_or_ge r FloatKind.f32.format.infRung with h1 | h1
    · obtain ⟨R, e1, e2, _⟩ := widen_word (s := s) h1
      rw [e1]; exact bad_word .f64 s (by rw [f64_inf]; omega)
    · obtain rfl : r = FloatKind.f32.format.infRung := by omega
      rw [widen_inf]; exact bad_word .f64 s (Nat.le_refl _)
  · have h' : (FloatKind.f32.decode x).isNaN = true := h
    rw [widen_bad rfl h']; exact bad_qnan .f64

theorem wf_widen (x : Nat) : Wf .f64 (widen x) := by
  unfold widen; split
  · exact wf_qnan .f64
  · exact encode_wf .f64 _

theorem can_widen (x : Nat) : can .f64 (widen x) = widen x := by
  cases h : (FloatKind.f32.decode x).isNaN
  · have h2 : bad .f64 (widen x) = false := by
      rw [widen_of rfl h]
      cases hd : FloatKind.f32.decode x with
      | number s m e => exact bad_encode .f64 s m e
      | infinity s => exact (can_nan .f64 _).symm.trans (by unfold FloatKind.encode; cases s <;> decide +kernel)
      | nan s f => rw [hd] at h; cases h
    exact can_of_not h2
  · rw [widen_bad rfl h]; exact can_of_nan (decode_qnan .f64)

/-- Widening is one to one. -/
theorem widen_inj {x y : Nat} (hx : Wf .f32 x) (hy : Wf .f32 y) : (widen x == widen y) = (can .f32 x == can .f32 y) := by
  rw [← widen_can x, ← widen_can y]
  have hx' := wf_can hx
  have hy' := wf_can hy
  have kx := can_can .f32 x
  have ky := can_can .f32 y
  generalize can .f32 x = X at *
  generalize can .f32 y = Y at *
  by_cases h : X = Y
  · subst h; simp
  · have h1 : (X == Y) = false := by simpa using h
    rw [h1, beq_eq_false_iff_ne]
    intro e
    apply h
    cases nx : bad .f32 X
    · have ny : bad .f32 Y = false := by rw [← bad_widen hy', ← e, bad_widen hx', nx]
      have hs : sgn .f32 X = sgn .f32 Y := by rw [← sgn_widen hx' nx, ← sgn_widen hy' ny, e]
      obtain ⟨s, r, hr, rfl⟩ := word_of .f32 hx' nx
      obtain ⟨t, q, hq, rfl⟩ := word_of .f32 hy' ny
      rw [sgn_word .f32 s hr, sgn_word .f32 t hq] at hs
      subst hs
      have key : ∀ R Q, R ≤ FloatKind.f64.format.infRung → Q ≤ FloatKind.f64.format.infRung → FloatKind.f64.format.word s R = FloatKind.f64.format.word s Q → R = Q := fun R Q hR hQ hh => by
        have := congrArg (· % FloatKind.f64.format.signWeight) hh
        simp only [word_mod .f64 s hR, word_mod .f64 s hQ] at this
        exact this
      rcases Nat.lt_or_ge r FloatKind.f32.format.infRung with h2 | h2 <;> rcases Nat.lt_or_ge q FloatKind.f32.format.infRung with h3 | h3
      · obtain ⟨R, a1, a2, a3, a4⟩ := widen_word (s := s) h2
        obtain ⟨Q, b1, b2, b3, b4⟩ := widen_word (s := s) h3
        rw [a1, b1] at e
        have := key R Q (by rw [f64_inf]; omega) (by rw [f64_inf]; omega) e
        subst this
        have l1 := rung_le_of_val (vle_same.1 (vle_trans a4 b3))
        have l2 := rung_le_of_val (vle_same.1 (vle_trans b4 a3))
        rw [Nat.le_antisymm l1 l2]
      · obtain ⟨R, a1, a2, a3, a4⟩ := widen_word (s := s) h2
        obtain rfl : q = FloatKind.f32.format.infRung := by omega
        rw [a1, widen_inf] at e
        have := key R _ (by rw [f64_inf]; omega) (Nat.le_refl _) e
        rw [f64_inf] at this; omega
      · obtain ⟨Q, b1, b2, b3, b4⟩ := widen_word (s := s) h3
        obtain rfl : r = FloatKind.f32.format.infRung := by omega
        rw [b1, widen_inf] at e
        have := key _ Q (Nat.le_refl _) (by rw [f64_inf]; omega) e
        rw [f64_inf] at this; omega
      · rw [show r = q by omega]
    · have ny : bad .f32 Y = true := by rw [← bad_widen hy', ← e, bad_widen hx', nx]
      rw [← kx, ← ky, can_of_nan nx, can_of_nan ny]

theorem cast_beq (a b : Nat) : ((a : Int) == (b : Int)) = (a == b) := by
  by_cases h : a = b
  · subst h; simp
  · have : ¬ (a : Int) = (b : Int) := by omega
    rw [beq_eq_false_iff_ne.2 h, beq_eq_false_iff_ne.2 this]

/-- The words xs lie in memory from an address on. -/
def FS (w : World) (b off : Nat) (xs : List Nat) : Prop := ∀ (k : Nat) (h : k < xs.length), w.cell? ⟨b, off + k, none⟩ = some (.float .f32 xs[k])
def WfAll (xs : List Nat) : Prop := ∀ x ∈ xs, Wf .f32 x

theorem FS.drewN {w : World} {b off : Nat} {xs : List Nat} (h : FS w b off xs) (n : Nat) : FS (w.drewN n) b off xs := h
theorem WfAll.at_ {xs : List Nat} (h : WfAll xs) {k : Nat} (hk : k < xs.length) : Wf .f32 xs[k] := h _ (List.getElem_mem hk)
theorem take_any_succ {p : Nat → Bool} {xs : List Nat} {k : Nat} (hk : k < xs.length) : (xs.take (k + 1)).any p = ((xs.take k).any p || p xs[k]) := by
  rw [List.take_succ_eq_append_getElem hk, List.any_append]; simp
theorem any_of_take {p : Nat → Bool} {xs : List Nat} {k : Nat} (hk : k < xs.length) (h : p xs[k] = true) : xs.any p = true := by
  rw [List.any_eq_true]; exact ⟨xs[k], List.getElem_mem hk, h⟩

theorem not_any_not (xs : List Nat) (p : Nat → Bool) : (!xs.any (fun x => !p x)) = xs.all p := by
  induction xs with
  | nil => rfl
  | cons x xs ih => simp [List.any_cons, List.all_cons, ← ih]
theorem FS.two {w : World} {b : Nat} {x y : Nat} (h0 : w.cell? ⟨b, 0, none⟩ = some (.float .f32 x)) (h1 : w.cell? ⟨b, 1, none⟩ = some (.float .f32 y)) : FS w b 0 [x, y] := by
  intro k hk
  match k, hk with
  | 0, _ => exact h0
  | 1, _ => exact h1
theorem FS.three {w : World} {b : Nat} {x y z : Nat} (h0 : w.cell? ⟨b, 0, none⟩ = some (.float .f32 x)) (h1 : w.cell? ⟨b, 1, none⟩ = some (.float .f32 y)) (h2 : w.cell? ⟨b, 2, none⟩ = some (.float .f32 z)) : FS w b 0 [x, y, z] := by
  intro k hk
  match k, hk with
  | 0, _ => exact h0
  | 1, _ => exact h1
  | 2, _ => exact h2
theorem WfAll.one {x : Nat} (hx : Wf .f32 x) : WfAll [x] := by intro u hu; simp at hu; subst hu; exact hx
theorem WfAll.two {x y : Nat} (hx : Wf .f32 x) (hy : Wf .f32 y) : WfAll [x, y] := by
  intro u hu; simp at hu; rcases hu with rfl | rfl <;> assumption
theorem WfAll.three {x y z : Nat} (hx : Wf .f32 x) (hy : Wf .f32 y) (hz : Wf .f32 z) : WfAll [x, y, z] := by
  intro u hu; simp at hu; rcases hu with rfl | rfl | rfl <;> assumption
end Go.Fl
