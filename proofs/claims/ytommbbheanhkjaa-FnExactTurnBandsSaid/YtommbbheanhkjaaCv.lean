/- Conversions between the kinds, and signs. -/
import Derived.Test.YtommbbheanhkjaaNum
set_option linter.unusedSimpArgs false
set_option linter.unusedVariables false
set_option linter.unnecessarySimpa false
set_option maxRecDepth 20000
namespace Go.Fl
open Ieee

def bad (k : FloatKind) (x : Nat) : Bool := (k.decode x).isNaN

theorem f32_bin : FloatKind.f32.format.binade = 8388608 := by decide +kernel
theorem f64_bin : FloatKind.f64.format.binade = 4503599627370496 := by decide +kernel
theorem f32_least : FloatKind.f32.format.leastPlace = -149 := by decide +kernel
theorem f64_least : FloatKind.f64.format.leastPlace = -1074 := by decide +kernel

theorem sw_pos (k : FloatKind) : 0 < k.format.signWeight := two_pos _
theorem inf_lt_sw (k : FloatKind) : k.format.infRung < k.format.signWeight := k.format.infRung_lt
theorem bin_le_inf (k : FloatKind) : k.format.binade ≤ k.format.infRung := by cases k <;> decide +kernel
theorem bin_dvd_inf (k : FloatKind) : k.format.infRung % k.format.binade = 0 := by cases k <;> decide +kernel

theorem word_mod (k : FloatKind) (s : Bool) {r : Nat} (h : r ≤ k.format.infRung) : k.format.word s r % k.format.signWeight = r := by
  have := inf_lt_sw k
  unfold Format.word
  split
  · rw [Nat.add_mod_left, Nat.mod_eq_of_lt (by omega)]
  · exact Nat.mod_eq_of_lt (by omega)

theorem word_div (k : FloatKind) (s : Bool) {r : Nat} (h : r ≤ k.format.infRung) : (k.format.word s r / k.format.signWeight % 2 == 1) = s := by
  have := inf_lt_sw k
  have hp := sw_pos k
  unfold Format.word
  cases s
  · rw [if_neg (by decide), Nat.div_eq_of_lt (by omega)]; rfl
  · rw [if_pos rfl, Nat.add_div_left _ hp, Nat.div_eq_of_lt (by omega)]; rfl

/-- What a word of sign s and rung r stands for. -/
def datumOf (k : FloatKind) (s : Bool) (r : Nat) : Datum :=
  if r < k.format.binade then .number s r k.format.leastPlace
  else if r < k.format.infRung then .number s (k.format.binade + r % k.format.binade) (k.format.leastPlace + (r / k.format.binade - 1 : Nat))
  else .infinity s

theorem decode_word (k : FloatKind) (s : Bool) {r : Nat} (h : r ≤ k.format.infRung) : k.decode (k.format.word s r) = datumOf k s r := by
  have hb := bin_le_inf k
  show k.format.read _ = _
  unfold Format.read datumOf
  dsimp only
  rw [word_mod k s h, word_div k s h]
  split
  · rfl
  · split
    · rfl
    · rw [if_pos (by omega)]

/-- Each word that is no not-a-number is the word of its sign and its rung. -/
theorem word_of (k : FloatKind) {x : Nat} (hx : Wf k x) (hn : bad k x = false) : ∃ s r, r ≤ k.format.infRung ∧ x = k.format.word s r := by
  have hl : x < 2 * k.format.signWeight := by
    cases k
    · simp only [Wf, Lit.wf, decide_eq_true_eq] at hx; rw [f32_sw]; omega
    · simp only [Wf, Lit.wf, decide_eq_true_eq] at hx; rw [f64_sw]; omega
  unfold bad at hn
  rw [read_isNaN] at hn
  have hn' : x % k.format.signWeight ≤ k.format.infRung := by simpa using hn
  refine ⟨decide (k.format.signWeight ≤ x), x % k.format.signWeight, hn', ?_⟩
  unfold Format.word
  have hp := sw_pos k
  rcases Nat.lt_or_ge x k.format.signWeight with h | h
  · rw [if_neg (by simp; omega), Nat.mod_eq_of_lt h]
  · rw [if_pos (by simpa using h), Nat.mod_eq_sub_mod h, Nat.mod_eq_of_lt (by omega)]; omega

theorem bad_word (k : FloatKind) (s : Bool) {r : Nat} (h : r ≤ k.format.infRung) : bad k (k.format.word s r) = false := by
  unfold bad; rw [read_isNaN, word_mod k s h]; simpa using h

theorem wf_word (k : FloatKind) (s : Bool) {r : Nat} (h : r ≤ k.format.infRung) : Wf k (k.format.word s r) := by
  refine wf_of_lt k _ (k.format.word_lt s ?_)
  have := inf_lt_sw k
  omega

theorem bad_encode (k : FloatKind) (s : Bool) (m : Nat) (e : Int) : bad k (k.encode (.number s m e)) = false := by
  show bad k (k.format.nearest s m e) = false
  rw [nearest_word]
  exact bad_word k s (nearRung_le_inf _ _ _)

/-- The finite words' magnitudes. -/
theorem datum_val (k : FloatKind) (s : Bool) {r : Nat} (h : r < k.format.infRung) : ∃ m e, datumOf k s r = .number s m e ∧ vle m e (rungVal k.format r) k.format.leastPlace ∧ vle (rungVal k.format r) k.format.leastPlace m e ∧ k.format.leastPlace ≤ e ∧ m < 2 * k.format.binade := by
  have hb := binade_pos k.format
  unfold datumOf
  rcases Nat.lt_or_ge r k.format.binade with hr | hr
  · rw [if_pos hr]
    refine ⟨r, k.format.leastPlace, rfl, ?_, ?_, Int.le_refl _, by omega⟩ <;> rw [rungVal_low _ r (by omega)] <;> exact vle_refl _ _
  · rw [if_neg (by omega), if_pos h]
    refine ⟨_, _, rfl, ?_, ?_, by omega, ?_⟩
    · unfold rungVal; rw [if_neg (by omega)]; exact (vle_up _ _ _).2
    · unfold rungVal; rw [if_neg (by omega)]; exact (vle_up _ _ _).1
    · have := Nat.mod_lt r hb; omega

theorem nearRung_fin (k : FloatKind) (s : Bool) {r : Nat} (h : r < k.format.infRung) {m : Nat} {e : Int} (hd : datumOf k s r = .number s m e) : nearRung k.format m e = r := by
  obtain ⟨m', e', h1, h2, h3, _⟩ := datum_val k s h
  rw [hd] at h1
  injection h1 with _ h4 h5
  subst h4; subst h5
  exact near_exact (by omega) h3 h2

/-! ### Wide -/
theorem infRung_f32_val : rungVal FloatKind.f32.format FloatKind.f32.format.infRung = 8388608 * 2 ^ 254 * 2 ^ 0 := by
  have := rungVal_at FloatKind.f32.format 254 0 (Nat.zero_le _)
  rw [f32_bin] at this
  rw [f32_inf]
  exact this.trans (by decide +kernel)

/-- A finite word of the narrow kind, as one of the wide kind: the same number. -/
theorem widen_small {s : Bool} {r : Nat} (h : r < FloatKind.f32.format.infRung) : ∃ R, FloatKind.f64.encode (datumOf .f32 s r) = FloatKind.f64.format.word s R ∧ R ≤ 5183643171103440896 ∧
    vle (rungVal FloatKind.f64.format R) (-1074) (rungVal FloatKind.f32.format r) (-149) ∧ vle (rungVal FloatKind.f32.format r) (-149) (rungVal FloatKind.f64.format R) (-1074) := by
  obtain ⟨m, e, hd, h1, h2, he, hm⟩ := datum_val .f32 s h
  rw [f32_least] at h1 h2 he
  rw [f32_bin] at hm
  have hfin : vle m e (rungVal FloatKind.f64.format 5183643171103440896) FloatKind.f64.format.leastPlace := by
    rw [f64_least]
    have hb := rungVal_at FloatKind.f64.format 1150 0 (Nat.zero_le _)
    rw [f64_bin] at hb
    have e0 : (1150 + 1) * 4503599627370496 + 0 = 5183643171103440896 := by decide
    rw [e0] at hb
    rw [hb]
    refine vle_trans h1 (vle_trans (vle_same.2 (rungVal_mono (Nat.le_of_lt h))) ?_)
    rw [infRung_f32_val]
    rw [vle_base (b := -1074) (by decide) (by decide)]
    decide +kernel
  have := near_own (f := FloatKind.f64.format) (mag := m) (place := e) (by rw [f64_bin]; omega) (by rw [f64_least]; omega) (c := 5183643171103440896) (by rw [f64_inf]; decide) hfin
  rw [f64_least] at this
  refine ⟨nearRung FloatKind.f64.format m e, ?_, this.1, vle_trans this.2.1 h1, vle_trans h2 this.2.2⟩
  rw [hd]
  exact nearest_word _ _ _ _

theorem widen_word {s : Bool} {r : Nat} (h : r < FloatKind.f32.format.infRung) : ∃ R, widen (FloatKind.f32.format.word s r) = FloatKind.f64.format.word s R ∧ R ≤ 5183643171103440896 ∧
    vle (rungVal FloatKind.f64.format R) (-1074) (rungVal FloatKind.f32.format r) (-149) ∧ vle (rungVal FloatKind.f32.format r) (-149) (rungVal FloatKind.f64.format R) (-1074) := by
  obtain ⟨R, h1, h2⟩ := widen_small (s := s) h
  refine ⟨R, ?_, h2⟩
  unfold widen
  have hb := bad_word .f32 s (Nat.le_of_lt h)
  unfold bad at hb
  rw [hb, decode_word .f32 s (Nat.le_of_lt h), if_neg (by decide)]
  exact h1

theorem widen_inf (s : Bool) : widen (FloatKind.f32.format.word s FloatKind.f32.format.infRung) = FloatKind.f64.format.word s FloatKind.f64.format.infRung := by
  cases s <;> decide +kernel

theorem cut_nan_conv (k : FloatKind) (x t : Nat) : (k.decode ((Question.nanConv k x).cut t)).isNaN = true ∧ Wf k ((Question.nanConv k x).cut t) := by
  have e : (Question.nanConv k x).cut t = (Question.nanBits k x x).cut t := by cases k <;> simp only [Question.cut]
  rw [e]; exact cut_nan k x x t

theorem conv_nan {P : Program} {src dst : FloatKind} (hne : src ≠ dst) {x : Nat} {s : Bool} {f : Nat} (hx : src.decode x = .nan s f) (w : World) :
    (Conv.floatToFloat src x dst).run P w = .ok (.float dst ((Question.nanConv dst x).cut (w.tape w.drawn (.nanConv dst x)))) (w.drewN 1) := by
  simp [Conv.floatToFloat, hne, hx, choose, Sem.run, Question.forced, bind, Sem.bind, pure]; rfl
theorem conv_inf {P : Program} {src dst : FloatKind} (hne : src ≠ dst) {x : Nat} {s : Bool} (hx : src.decode x = .infinity s) (w : World) :
    (Conv.floatToFloat src x dst).run P w = .ok (.float dst (dst.encode (.infinity s))) (w.drewN 0) := by
  simp [Conv.floatToFloat, hne, hx, World.drewN_zero]
theorem conv_num {P : Program} {src dst : FloatKind} (hne : src ≠ dst) {x : Nat} {s : Bool} {m : Nat} {e : Int} (hx : src.decode x = .number s m e) (hni : (dst.decode (dst.encode (.number s m e))).isInfinity = false) (w : World) :
    (Conv.floatToFloat src x dst).run P w = .ok (.float dst (dst.encode (.number s m e))) (w.drewN 0) := by
  simp [Conv.floatToFloat, hne, hx, hni, World.drewN_zero]
theorem can_inf (k : FloatKind) (s : Bool) : can k (k.encode (.infinity s)) = k.encode (.infinity s) := by
  apply can_of_not; cases k <;> cases s <;> decide +kernel

theorem widen_of {x : Nat} {d : Datum} (hx : FloatKind.f32.decode x = d) (hn : d.isNaN = false) : widen x = FloatKind.f64.encode d := by
  unfold widen; rw [hx, hn]; exact if_neg (by decide)
theorem widen_bad {x : Nat} {d : Datum} (hx : FloatKind.f32.decode x = d) (hn : d.isNaN = true) : widen x = qnan .f64 := by
  unfold widen; rw [hx, hn]; exact if_pos rfl

/-- 'float64(x)' of a float32. -/
theorem run_widen {P : Program} {src dst : TypeId} (hs : P.underlying src = some (.float .f32)) (hd : P.underlying dst = some (.float .f64)) (x : Nat) (w : World) :
    ∃ r n, (convert src dst (.float .f32 x)).run P w = .ok (.float .f64 r) (w.drewN n) ∧ can .f64 r = widen (can .f32 x) ∧ Wf .f64 r := by
  have conv : (convert src dst (.float .f32 x)).run P w = (Conv.floatToFloat .f32 x .f64).run P w := by
    simp [convert, run_underlying hs, run_underlying hd]
  rw [conv]
  cases hx : FloatKind.f32.decode x with
  | nan s f =>
    obtain ⟨h1, h2⟩ := cut_nan_conv .f64 x (w.tape w.drawn (.nanConv .f64 x))
    refine ⟨_, 1, conv_nan (by decide) hx w, ?_, h2⟩
    rw [widen_can, widen_bad hx rfl]; exact can_of_nan h1
  | infinity s =>
    refine ⟨_, 0, conv_inf (by decide) hx w, ?_, encode_wf .f64 (.infinity s)⟩
    rw [widen_can, widen_of hx rfl]; exact can_inf .f64 s
  | number s m e =>
    have hni : (FloatKind.f64.decode (FloatKind.f64.encode (.number s m e))).isInfinity = false := by
      have hb : bad .f32 x = false := by unfold bad; rw [hx]; rfl
      have key : ∀ r, r < FloatKind.f32.format.infRung → datumOf .f32 s r = .number s m e → (FloatKind.f64.decode (FloatKind.f64.encode (.number s m e))).isInfinity = false := by
        intro r hr hd
        obtain ⟨R, h1, h2, _⟩ := widen_small (s := s) hr
        rw [hd] at h1
        rw [h1, decode_word .f64 s (by rw [f64_inf]; omega)]
        unfold datumOf
        rw [f64_inf, f64_bin]
        split
        · rfl
        · rw [if_pos (by omega)]; rfl
      have hx' : FloatKind.f32.format.read x = .number s m e := hx
      unfold Format.read at hx'
      dsimp only at hx'
      refine key (x % FloatKind.f32.format.signWeight) ?_ ?_
      · split at hx'
        · have := bin_le_inf .f32; omega
        · split at hx'
          · assumption
          · split at hx' <;> cases hx'
      · unfold datumOf
        split at hx'
        · rename_i h; rw [if_pos h]; injection hx' with a b c; rw [b, c]
        · split at hx'
          · rename_i h h'; rw [if_neg h, if_pos h']; injection hx' with a b c; rw [b, c]
          · split at hx' <;> cases hx'
    refine ⟨_, 0, conv_num (by decide) hx hni w, ?_, encode_wf .f64 (.number s m e)⟩
    rw [widen_can, widen_of hx rfl]
    exact can_of_not (bad_encode .f64 s m e)

section
variable {P : Program} {o : Oper} {a : Act} {K : Act → World → Prop} {Q : Exit → Act → World → Prop} {w : World}
theorem upon_widen {src dst : TypeId} (hs : P.underlying src = some (.float .f32)) (hd : P.underlying dst = some (.float .f64)) {x : Nat}
    (h : ∀ r n, can .f64 r = widen (can .f32 x) → Wf .f64 r → K (a.put o.dst (.float .f64 r)) (w.drewN n)) :
    Oper.upon P o a K Q ((Sem.run P (convert src dst (.float .f32 x)) w).andThen fun v w' => .ok (.value v) w') := by
  obtain ⟨r, n, hr, hc, hw⟩ := run_widen (P := P) hs hd x w
  rw [hr]
  exact h r n hc hw
end

/-! ### Narrow -/
def narrow (x : Nat) : Nat := if (FloatKind.f64.decode x).isNaN then qnan .f32 else FloatKind.f32.encode (FloatKind.f64.decode x)
/-- The narrowed number is none that the narrow kind has not. -/
def narrowOk (x : Nat) : Bool := match FloatKind.f64.decode x with
  | .number s m e => !(FloatKind.f32.decode (FloatKind.f32.encode (.number s m e))).isInfinity
  | _ => true

theorem narrow_can (x : Nat) : narrow (can .f64 x) = narrow x := by
  unfold narrow
  cases h : (FloatKind.f64.decode x).isNaN
  · rw [can_of_not h, h]
  · rw [can_nan, h]; rfl
theorem narrowOk_can (x : Nat) : narrowOk (can .f64 x) = narrowOk x := by
  cases h : (FloatKind.f64.decode x).isNaN
  · rw [can_of_not h]
  · have h2 := can_nan .f64 x
    rw [h] at h2
    unfold narrowOk
    cases h3 : FloatKind.f64.decode x <;> rw [h3] at h <;> simp [Datum.isNaN] at h
    cases h4 : FloatKind.f64.decode (can .f64 x) <;> rw [h4] at h2 <;> simp [Datum.isNaN] at h2

theorem narrow_of {x : Nat} {d : Datum} (hx : FloatKind.f64.decode x = d) (hn : d.isNaN = false) : narrow x = FloatKind.f32.encode d := by
  unfold narrow; rw [hx, hn]; exact if_neg (by decide)
theorem narrow_bad {x : Nat} {d : Datum} (hx : FloatKind.f64.decode x = d) (hn : d.isNaN = true) : narrow x = qnan .f32 := by
  unfold narrow; rw [hx, hn]; exact if_pos rfl

theorem run_narrow {P : Program} {src dst : TypeId} (hs : P.underlying src = some (.float .f64)) (hd : P.underlying dst = some (.float .f32)) (x : Nat) (hok : narrowOk (can .f64 x) = true) (w : World) :
    ∃ r n, (convert src dst (.float .f64 x)).run P w = .ok (.float .f32 r) (w.drewN n) ∧ can .f32 r = narrow (can .f64 x) ∧ Wf .f32 r := by
  have conv : (convert src dst (.float .f64 x)).run P w = (Conv.floatToFloat .f64 x .f32).run P w := by
    simp [convert, run_underlying hs, run_underlying hd]
  rw [conv]
  rw [narrowOk_can] at hok
  cases hx : FloatKind.f64.decode x with
  | nan s f =>
    obtain ⟨h1, h2⟩ := cut_nan_conv .f32 x (w.tape w.drawn (.nanConv .f32 x))
    refine ⟨_, 1, conv_nan (by decide) hx w, ?_, h2⟩
    rw [narrow_can, narrow_bad hx rfl]; exact can_of_nan h1
  | infinity s =>
    refine ⟨_, 0, conv_inf (by decide) hx w, ?_, encode_wf .f32 (.infinity s)⟩
    rw [narrow_can, narrow_of hx rfl]; exact can_inf .f32 s
  | number s m e =>
    have hni : (FloatKind.f32.decode (FloatKind.f32.encode (.number s m e))).isInfinity = false := by
      unfold narrowOk at hok; rw [hx] at hok; simpa using hok
    refine ⟨_, 0, conv_num (by decide) hx hni w, ?_, encode_wf .f32 (.number s m e)⟩
    rw [narrow_can, narrow_of hx rfl]
    exact can_of_not (bad_encode .f32 s m e)

section
variable {P : Program} {o : Oper} {a : Act} {K : Act → World → Prop} {Q : Exit → Act → World → Prop} {w : World}
theorem upon_narrow {src dst : TypeId} (hs : P.underlying src = some (.float .f64)) (hd : P.underlying dst = some (.float .f32)) {x : Nat} (hok : narrowOk (can .f64 x) = true)
    (h : ∀ r n, can .f32 r = narrow (can .f64 x) → Wf .f32 r → K (a.put o.dst (.float .f32 r)) (w.drewN n)) :
    Oper.upon P o a K Q ((Sem.run P (convert src dst (.float .f64 x)) w).andThen fun v w' => .ok (.value v) w') := by
  obtain ⟨r, n, hr, hc, hw⟩ := run_narrow (P := P) hs hd x hok w
  rw [hr]
  exact h r n hc hw
end

/-! ### Signs -/
/-- Does the word bear a sign? -/
def sgn (k : FloatKind) (x : Nat) : Bool := decide (k.format.signWeight ≤ x)

theorem sgn_word (k : FloatKind) (s : Bool) {r : Nat} (h : r ≤ k.format.infRung) : sgn k (k.format.word s r) = s := by
  have := inf_lt_sw k
  unfold sgn Format.word
  cases s <;> simp <;> omega

theorem sgn_widen {x : Nat} (hx : Wf .f32 x) (hn : bad .f32 x = false) : sgn .f64 (widen x) = sgn .f32 x := by
  obtain ⟨s, r, hr, rfl⟩ := word_of .f32 hx hn
  rcases Nat.lt_or_ge r FloatKind.f32.format.infRung with h | h
  · obtain ⟨R, h1, h2, _⟩ := widen_word (s := s) h
    rw [h1, sgn_word .f32 s hr, sgn_word .f64 s (by rw [f64_inf]; omega)]
  · obtain rfl : r = FloatKind.f32.format.infRung := by omega
    rw [widen_inf, sgn_word .f32 s hr, sgn_word .f64 s (Nat.le_refl _)]
end Go.Fl
