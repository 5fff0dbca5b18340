/- Sums, sizes, kernels. -/
import Derived.Test.YtommbbheanhkjaaMem
import Derived.Test.YtommbbheanhkjaaNar
import Derived.Laws.BitsAllLaws
set_option linter.unusedSimpArgs false
set_option linter.unusedVariables false
set_option linter.unnecessarySimpa false
set_option maxRecDepth 20000
namespace Go.Fl
open Go.RowKit Ieee

def sumF (xs : List Nat) : Nat := xs.foldl (fun s x => add s (can .f32 x)) 0
theorem sum_nil : sumF [] = 0 := rfl
theorem sum_succ {xs : List Nat} {k : Nat} (hk : k < xs.length) : sumF (xs.take (k + 1)) = add (sumF (xs.take k)) (can .f32 xs[k]) := by
  unfold sumF; rw [List.take_succ_eq_append_getElem hk, List.foldl_append]; rfl
def least (x : Nat) : Bool := isFin .f32 x && le .f32 0 x
def kern (xs : List Nat) : Bool := decide (xs.length % 2 = 1) && decide (xs.length ≤ 9) && xs.all (fun x => least (can .f32 x)) && le .f32 (absF (sub (sumF xs) (can .f32 1065353216))) (can .f32 981668463)

theorem fin_not_bad {k : FloatKind} {x : Nat} (h : isFin k x = true) : bad k x = false := by
  cases hb : bad k x
  · rfl
  · unfold isFin op at h
    rw [floatBits_nan_left hb, Option.getD_none, can_of_nan (decode_qnan k), eq_bad_left (bad_qnan k)] at h
    cases h
theorem can_op (b : BinOp) (k : FloatKind) (x y : Nat) : can k (op b k x y) = op b k x y := can_can k _
theorem not_lt_le {k : FloatKind} {x y : Nat} (hx : Wf k x) (hy : Wf k y) (nx : bad k x = false) (ny : bad k y = false) : (!lt k x y) = le k y x := by
  rw [lt_key k hx hy nx ny, le_key k hy hx ny nx]
  by_cases h : key k x < key k y
  · have : ¬ key k y ≤ key k x := by omega
    simp [h, this]
  · have : key k y ≤ key k x := by omega
    simp [h, this]
theorem least_eq {x : Nat} (hx : Wf .f32 x) : (isFin .f32 x && !lt .f32 x 0) = least x := by
  unfold least
  cases h : isFin .f32 x
  · rfl
  · rw [not_lt_le hx (wf_zero _) (fin_not_bad h) (bad_zero _)]
theorem wf_op (b : BinOp) (k : FloatKind) (x y : Nat) : Wf k (op b k x y) := by
  unfold op
  cases h : floatBits b k x y with
  | none => rw [Option.getD_none]; exact wf_can (wf_qnan k)
  | some r => rw [Option.getD_some]; exact wf_can (floatBits_wf h)
theorem key_size (k : FloatKind) {x : Nat} (hx : Wf k x) (nx : bad k x = false) : key k (size k x) = if 0 ≤ key k x then key k x else - key k x := by
  obtain ⟨s, r, hr, rfl⟩ := word_of k hx nx
  rw [size_word k s hr, key_word k false hr, key_word k s hr]
  cases s <;> simp <;> omega
/-- The size is at most c: the number lies between -c and c. -/
theorem abs_le {x c d : Nat} (hx : Wf .f32 x) (hc : Wf .f32 c) (nc : bad .f32 c = false) (hd : Wf .f32 d) (nd : bad .f32 d = false) (hk : key .f32 d = - key .f32 c) : le .f32 (absF x) c = (le .f32 (can .f32 x) c && le .f32 d (can .f32 x)) := by
  cases nx : bad .f32 x
  · have nx' : bad .f32 (size .f32 x) = false := by rw [bad_size, nx]
    unfold absF
    rw [can_of_not nx, can_of_not nx', le_key .f32 (wf_size hx) hc nx' nc, le_key .f32 hx hc nx nc, le_key .f32 hd hx nd nx, key_size .f32 hx nx, hk]
    by_cases h : 0 ≤ key .f32 x
    · rw [if_pos h]
      rw [← Bool.decide_and]
      congr 1
      simp only [eq_iff_iff]
      omega
    · rw [if_neg h]
      rw [← Bool.decide_and]
      congr 1
      simp only [eq_iff_iff]
      omega
  · rw [le_bad_left (by unfold absF; rw [bad_can, bad_size, nx]), le_bad_left (by rw [bad_can, nx])]; rfl
theorem key_milli : key .f32 (can .f32 3129152111) = - key .f32 (can .f32 981668463) := by decide +kernel
theorem bad_milli : bad .f32 (can .f32 981668463) = false ∧ bad .f32 (can .f32 3129152111) = false ∧ Wf .f32 (can .f32 981668463) ∧ Wf .f32 (can .f32 3129152111) := by unfold Wf; decide +kernel
theorem all_take_succ {p : Nat → Bool} {xs : List Nat} {k : Nat} (hk : k < xs.length) : (xs.take (k + 1)).all p = ((xs.take k).all p && p xs[k]) := by
  rw [List.take_succ_eq_append_getElem hk, List.all_append]; simp
theorem all_false_of_take {p : Nat → Bool} {xs : List Nat} {k : Nat} (hk : k < xs.length) (h : p xs[k] = false) : xs.all p = false := by
  rw [List.all_eq_false]; exact ⟨_, List.getElem_mem hk, by simp [h]⟩
theorem andNot_sign {x : Nat} (h : Wf .f64 x) : bits .andNot .u64 (x : Int) 9223372036854775808 = ((size .f64 x : Nat) : Int) := by
  have hl : x < 18446744073709551616 := by simpa [Wf, Lit.wf] using h
  have := u64_andNot_nat x 9223372036854775808 hl (by decide)
  refine Eq.trans this ?_
  unfold size
  rw [f64_sw]
  congr 1
  exact Nat.and_two_pow_sub_one_eq_mod x 63
theorem narrow_size {x r : Nat} (hx : Wf .f32 x) (hr : can .f64 r = widen (can .f32 x)) (hw : Wf .f64 r) : narrow (can .f64 (size .f64 r)) = absF x ∧ narrowOk (can .f64 (size .f64 r)) = true := by
  rw [narrow_can, narrowOk_can]
  cases nx : bad .f32 x
  · have nr : bad .f64 r = false := by rw [← bad_can, hr, widen_can, bad_widen hx, nx]
    rw [can_of_not nr, widen_can] at hr
    rw [hr, widen_size hx nx]
    have := narrow_widen (wf_size hx)
    exact ⟨this.1, this.2⟩
  · have nr : bad .f64 r = true := by rw [← bad_can, hr, widen_can, bad_widen hx, nx]
    have ns : bad .f64 (size .f64 r) = true := by rw [bad_size, nr]
    have e : absF x = qnan .f32 := by unfold absF; exact can_of_nan (by rw [← nx]; exact bad_size _ _)
    refine ⟨by rw [narrow_bad rfl ns, e], ?_⟩
    unfold narrowOk
    have ns' : (FloatKind.f64.decode (size .f64 r)).isNaN = true := ns
    cases hd : FloatKind.f64.decode (size .f64 r) <;> rw [hd] at ns' <;> simp [Datum.isNaN] at ns' ⊢
theorem absF_can (x : Nat) : absF (can .f32 x) = absF x := by
  cases nx : bad .f32 x
  · rw [can_of_not nx]
  · unfold absF
    rw [can_of_nan nx, can_of_nan (k := .f32) (r := size .f32 x) (by rw [← nx]; exact bad_size _ _)]
    decide +kernel
end Go.Fl
