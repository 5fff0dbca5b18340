/- The sine of turns, in words. -/
import Derived.Test.YtommbbheanhkjaaPure13
import Derived.Test.YtommbbheanhkjaaRoot
set_option linter.unusedSimpArgs false
set_option linter.unusedVariables false
set_option linter.unnecessarySimpa false
set_option maxRecDepth 20000
namespace Go.Fl
open Go.RowKit Ieee Go.Op

def half : Nat := 4602678819172646912
def quarter : Nat := 4598175219545276416
def one64 : Nat := 4607182418800017408
def twoPi : Nat := 4618760256179416344
def upW (f : Nat) : Nat := if lt .f64 f 0 = true then op .add .f64 f one64 else f
def halfW (f : Nat) : Nat := if le .f64 half f = true then op .sub .f64 f half else f
def quartW (f : Nat) : Nat := if lt .f64 quarter f = true then op .sub .f64 half f else f
def turnZ (y : Nat) : Nat := op .mul .f64 (quartW (halfW (upW (fracW y)))) twoPi
def stepW (u p d : Nat) : Nat := op .sub .f64 one64 (op .quo .f64 (op .mul .f64 u p) d)
def sinD (k : Nat) : Nat := FloatKind.f64.nearest (2 * (k : Int) * (2 * (k : Int) + 1))
/-- The sum, from the eighth place down to the k-th: 'n' of them done. -/
def sinP (u : Nat) : Nat → Nat
  | 0 => one64
  | n + 1 => stepW u (sinP u n) (sinD (8 - n))
def sineZ (y : Nat) : Nat := op .mul .f64 (turnZ y) (sinP (op .mul .f64 (turnZ y) (turnZ y)) 8)
def sineW (y : Nat) : Nat := if le .f64 half (upW (fracW y)) = true then negFloat .f64 (sineZ y) else sineZ y

theorem Bd.const {x n r : Nat} (s : Bool) (h : x = FloatKind.f64.format.word s r) (hr : r ≤ (n + 1023) * 4503599627370496) : Bd x n := ⟨s, r, h, hr⟩
theorem bd_half : Bd half 0 := Bd.const (r := 4602678819172646912) false (by decide +kernel) (by decide)
theorem bd_one : Bd one64 0 := Bd.const (r := 4607182418800017408) false (by decide +kernel) (by decide)
theorem bd_twoPi : Bd twoPi 3 := Bd.const (r := 4618760256179416344) false (by decide +kernel) (by decide)
theorem bd_up {f : Nat} (h : Bd f 0) : Bd (upW f) 1 := by
  unfold upW
  split
  · exact Bd.add h bd_one (by decide)
  · exact h.mono (by decide)
theorem bd_halfW {f : Nat} (h : Bd f 1) : Bd (halfW f) 2 := by
  unfold halfW
  split
  · exact Bd.sub h (bd_half.mono (by decide)) (by decide)
  · exact h.mono (by decide)
theorem bd_quartW {f : Nat} (h : Bd f 2) : Bd (quartW f) 3 := by
  unfold quartW
  split
  · exact Bd.sub (bd_half.mono (by decide)) h (by decide)
  · exact h.mono (by decide)
theorem bd_turnZ {y : Nat} (h : Bd y 52) : Bd (turnZ y) 6 :=
  (Bd.mul (bd_quartW (bd_halfW (bd_up (frac_facts h).2.2.2.1))) bd_twoPi (by omega)).mono (by omega)
theorem sinD_facts {k : Nat} (h1 : 1 ≤ k) (h8 : k ≤ 8) : ∃ n j, FloatKind.f64.format.read (sinD k) = .number false n j ∧ vle 1 0 n j := by
  obtain rfl | rfl | rfl | rfl | rfl | rfl | rfl | rfl : k = 1 ∨ k = 2 ∨ k = 3 ∨ k = 4 ∨ k = 5 ∨ k = 6 ∨ k = 7 ∨ k = 8 := by omega
  · exact ⟨6755399441055744, -50, by decide +kernel, by unfold vle; decide +kernel⟩
  · exact ⟨5629499534213120, -48, by decide +kernel, by unfold vle; decide +kernel⟩
  · exact ⟨5910974510923776, -47, by decide +kernel, by unfold vle; decide +kernel⟩
  · exact ⟨5066549580791808, -46, by decide +kernel, by unfold vle; decide +kernel⟩
  · exact ⟨7740561859543040, -46, by decide +kernel, by unfold vle; decide +kernel⟩
  · exact ⟨5488762045857792, -45, by decide +kernel, by unfold vle; decide +kernel⟩
  · exact ⟨7388718138654720, -45, by decide +kernel, by unfold vle; decide +kernel⟩
  · exact ⟨4785074604081152, -44, by decide +kernel, by unfold vle; decide +kernel⟩
theorem bd_step {u p k n : Nat} (hu : Bd u 12) (hp : Bd p n) (h1 : 1 ≤ k) (h8 : k ≤ 8) (hn : n ≤ 200) : Bd (stepW u p (sinD k)) (n + 14) := by
  obtain ⟨m, j, hd, hv⟩ := sinD_facts h1 h8
  have := Bd.quo (Bd.mul hu hp (by omega)) hd hv (by omega)
  exact (Bd.sub (bd_one.mono (Nat.zero_le _)) this (by omega)).mono (by omega)
theorem bd_sinP {u : Nat} (hu : Bd u 12) : ∀ n, n ≤ 8 → Bd (sinP u n) (14 * n)
  | 0, _ => bd_one
  | n + 1, h => (bd_step hu (bd_sinP hu n (by omega)) (by omega) (by omega) (by omega)).mono (by omega)
theorem bd_sineZ {y : Nat} (h : Bd y 52) : Bd (sineZ y) 118 :=
  (Bd.mul (bd_turnZ h) (bd_sinP ((Bd.mul (bd_turnZ h) (bd_turnZ h) (by omega)).mono (by omega)) 8 (by omega)) (by omega)).mono (by omega)
theorem neg_word (s : Bool) {r : Nat} (hr : r < 9223372036854775808) : negFloat .f64 (FloatKind.f64.format.word s r) = FloatKind.f64.format.word (!s) r := by
  unfold negFloat Format.word
  rw [f64_sw]
  have e : 2 ^ (FloatKind.f64.format.exponentBits + FloatKind.f64.format.fractionBits) = 2 ^ 63 := by decide +kernel
  rw [e]
  have h1 : r ^^^ 2 ^ 63 = r + 2 ^ 63 := by
    refine Nat.eq_of_testBit_eq fun i => ?_
    rw [Nat.testBit_xor, Nat.testBit_two_pow, Nat.add_comm r]
    rcases Nat.lt_trichotomy i 63 with h | h | h
    · rw [Nat.testBit_two_pow_add_gt h, show decide (63 = i) = false by simp; omega, Bool.xor_false]
    · subst h; rw [Nat.testBit_two_pow_add_eq, Nat.testBit_lt_two_pow (by omega)]; simp
    · rw [Nat.testBit_lt_two_pow (x := r) (Nat.lt_of_lt_of_le hr (Nat.pow_le_pow_right (show 2 > 0 by decide) (show 63 ≤ i by omega))), Nat.testBit_lt_two_pow (x := 2 ^ 63 + r)]
      · simp; omega
      · exact Nat.lt_of_lt_of_le (show 2 ^ 63 + r < 2 ^ 64 by omega) (Nat.pow_le_pow_right (show 2 > 0 by decide) (by omega))
  cases s
  · simp only [Bool.not_false]; simpa [Nat.add_comm] using h1
  · have h2 : (r + 2 ^ 63) ^^^ 2 ^ 63 = r := by rw [← h1, Nat.xor_assoc, Nat.xor_self, Nat.xor_zero]
    simp only [Bool.not_true]
    simpa [Nat.add_comm] using h2
theorem Bd.neg {x n : Nat} (h : Bd x n) (hn : n ≤ 1022) : Bd (negFloat .f64 x) n := by
  obtain ⟨s, r, rfl, hr⟩ := h
  have := Bd.lt hr hn
  rw [f64_inf] at this
  exact ⟨!s, r, neg_word s (by omega), hr⟩
theorem bd_sineW {y : Nat} (h : Bd y 52) : Bd (sineW y) 118 := by
  unfold sineW
  split
  · exact (bd_sineZ h).neg (by decide)
  · exact bd_sineZ h
theorem Bd.can_ {x n : Nat} (h : Bd x n) (hn : n ≤ 1022) : can .f64 x = x := can_of_not (h.not_bad hn)
theorem Bd.ok {x n : Nat} (h : Bd x n) (hn : n ≤ 118) : narrowOk x = true := by
  obtain ⟨s, r, rfl, hr⟩ := h
  obtain ⟨_, _, _, hok⟩ := narrow_word (s := s) (R := r) (by have : (n + 1023) * 4503599627370496 ≤ (118 + 1023) * 4503599627370496 := Nat.mul_le_mul_right _ (by omega); omega)
  exact hok
/-- Where a number has no part of a turn left. -/
def bigW (y : Nat) : Bool := le .f64 4841369599423283200 (size .f64 y)
/-- The sine of some turns, narrowed. -/
def sineF (x : Nat) : Nat := if isFin .f32 x = true then (if bigW (widen x) = true then 0 else narrow (sineW (widen x))) else qnan .f32
theorem not_big {x : Nat} (hx : Wf .f32 x) (hf : isFin .f32 x = true) (h : bigW (widen x) = false) : Bd (widen x) 52 := by
  obtain ⟨s, r, hr, rfl⟩ := fin_rung hx hf
  obtain ⟨R, h1, h2⟩ := wide_rung (s := s) hr
  have hR : R ≤ FloatKind.f64.format.infRung := by rw [f64_inf]; omega
  rw [h1] at h ⊢
  unfold bigW at h
  rw [size_word .f64 s hR] at h
  have e : (4841369599423283200 : Nat) = FloatKind.f64.format.word false 4841369599423283200 := by decide +kernel
  rw [e, le_key .f64 (wf_word .f64 _ (by rw [f64_inf]; decide)) (wf_word .f64 _ hR) (bad_word .f64 _ (by rw [f64_inf]; decide)) (bad_word .f64 _ hR), key_word .f64 _ (by rw [f64_inf]; decide), key_word .f64 _ hR] at h
  refine ⟨s, R, rfl, ?_⟩
  simp at h
  omega
/-- The reference's two comparisons. -/
theorem big_two {x : Nat} (hx : Wf .f32 x) (hf : isFin .f32 x = true) : bigW (widen x) = (le .f64 4841369599423283200 (widen x) || le .f64 (widen x) 14064741636278059008) := by
  obtain ⟨s, r, hr, rfl⟩ := fin_rung hx hf
  obtain ⟨R, h1, h2⟩ := wide_rung (s := s) hr
  have hR : R ≤ FloatKind.f64.format.infRung := by rw [f64_inf]; omega
  have hc : (4841369599423283200 : Nat) ≤ FloatKind.f64.format.infRung := by rw [f64_inf]; decide
  rw [h1]
  unfold bigW
  rw [size_word .f64 s hR]
  have e : (4841369599423283200 : Nat) = FloatKind.f64.format.word false 4841369599423283200 := by decide +kernel
  have e' : (14064741636278059008 : Nat) = FloatKind.f64.format.word true 4841369599423283200 := by decide +kernel
  rw [e, e', le_key .f64 (wf_word .f64 _ hc) (wf_word .f64 _ hR) (bad_word .f64 _ hc) (bad_word .f64 _ hR), le_key .f64 (wf_word .f64 _ hc) (wf_word .f64 _ hR) (bad_word .f64 _ hc) (bad_word .f64 _ hR), le_key .f64 (wf_word .f64 _ hR) (wf_word .f64 _ hc) (bad_word .f64 _ hR) (bad_word .f64 _ hc), key_word .f64 _ hc, key_word .f64 _ hR, key_word .f64 _ hR, key_word .f64 _ hc]
  cases s
  · simp; omega
  · simp; omega
theorem run_trunc {P : Program} (x : Nat) (w : World) (h : bad .f64 x = false) : (Extern.MathFloor.toIntegral "math.archTrunc" .zero #[.float .f64 x]).run P w = .ok (.float .f64 (truncW x)) w := by
  have e : Extern.MathFloor.toIntegral "math.archTrunc" .zero #[.float .f64 x] = (match FloatKind.f64.decode x with
    | .nan s t =>
      if FloatKind.f64.format.quiet t = t then pure (.float .f64 x) else do
      let kept ← choose (.extern "math.Floor,Ceil,Trunc,RoundToEven.signallingNaN kept" 2)
      pure (.float .f64 (if kept == 1 then x else FloatKind.f64.encode (.nan s (FloatKind.f64.format.quiet t))))
    | d => pure (.float .f64 (FloatKind.f64.encode (d.integral .zero)))) := rfl
  have h' : (FloatKind.f64.decode x).isNaN = false := h
  rw [e]
  unfold truncW
  cases hd : FloatKind.f64.decode x with
  | nan s t => rw [hd] at h'; cases h'
  | infinity s => rfl
  | number s m i => rfl
theorem can_nearest (n : Int) : can .f64 (FloatKind.f64.nearest n) = FloatKind.f64.nearest n := by
  unfold FloatKind.nearest
  exact can_of_not (bad_encode .f64 _ _ _)
theorem run_toInt {P : Program} {src dst : TypeId} (hs : P.underlying src = some (.float .f64)) (hd : P.underlying dst = some (.int .i64)) (x : Nat) (w : World) {N : Int} (hI : (FloatKind.f64.decode x).toInt .zero = some N) (lo : -9223372036854775808 ≤ N) (hi : N ≤ 9223372036854775807) :
    (convert src dst (.float .f64 x)).run P w = .ok (.int .i64 N) w := by
  have conv : (convert src dst (.float .f64 x)).run P w = (Conv.floatToInt .f64 x .i64).run P w := by
    simp [convert, run_underlying hs, run_underlying hd]
  rw [conv]
  unfold Conv.floatToInt
  simp only [hI]
  have h : IntKind.i64.min ≤ N ∧ N ≤ IntKind.i64.max := ⟨lo, hi⟩
  rw [if_pos h]; rfl
theorem upon_toInt {P : Program} {o : Oper} {a : Act} {K : Act → World → Prop} {Q : Exit → Act → World → Prop} {w : World} {src dst : TypeId} (hs : P.underlying src = some (.float .f64)) (hd : P.underlying dst = some (.int .i64)) {x : Nat} {N : Int} (hI : (FloatKind.f64.decode x).toInt .zero = some N) (lo : -9223372036854775808 ≤ N) (hi : N ≤ 9223372036854775807)
    (h : K (a.put o.dst (.int .i64 N)) w) :
    Oper.upon P o a K Q ((Sem.run P (convert src dst (.float .f64 x)) w).andThen fun v w' => .ok (.value v) w') := by
  rw [run_toInt hs hd x w hI lo hi]
  exact h
theorem eq_of_can {r X : Nat} (h : can .f64 r = X) (hb : bad .f64 X = false) : r = X := by
  rw [← h] at hb
  rw [bad_can] at hb
  rw [← h, can_of_not hb]
end Go.Fl
