/- Faces: the greatest part of a way is not nought. -/
import Derived.Test.YtokpnjliikhecaaPure9
set_option linter.unusedSimpArgs false
set_option linter.unusedVariables false
set_option linter.unnecessarySimpa false
set_option maxRecDepth 20000
namespace Go.Fl
open Go.RowKit Ieee

theorem rung_of {x : Nat} (hx : Wf .f32 x) (hf : isFin .f32 x = true) : ∃ s r, r ≤ FloatKind.f32.format.infRung ∧ x = FloatKind.f32.format.word s r := by
  obtain ⟨s, r, hr, h⟩ := word_of .f32 hx (fin_not_bad hf)
  exact ⟨s, r, hr, h⟩
theorem eq0_word (s : Bool) {r : Nat} (h : r ≤ FloatKind.f32.format.infRung) : eq .f32 (FloatKind.f32.format.word s r) 0 = decide (r = 0) := by
  rw [eq_key .f32 (wf_word .f32 s h) (wf_zero _) (bad_word .f32 s h) (bad_zero _), key_word .f32 s h, key_of_zero]
  cases s <;> simp
theorem ltS_word (s t : Bool) {r q : Nat} (h : r ≤ FloatKind.f32.format.infRung) (h' : q ≤ FloatKind.f32.format.infRung) : lt .f32 (size .f32 (FloatKind.f32.format.word s r)) (size .f32 (FloatKind.f32.format.word t q)) = decide (r < q) := by
  rw [size_word .f32 s h, size_word .f32 t h', lt_key .f32 (wf_word .f32 _ h) (wf_word .f32 _ h') (bad_word .f32 _ h) (bad_word .f32 _ h'), key_word .f32 _ h, key_word .f32 _ h']
  simp
theorem lt_swap0 {x : Nat} (hx : Wf .f32 x) (hf : isFin .f32 x = true) (h : eq .f32 x 0 = false) : lt .f32 x 0 = !lt .f32 0 x := by
  obtain ⟨s, r, hr, rfl⟩ := rung_of hx hf
  have nb := bad_word .f32 s hr
  have wx := wf_word .f32 s hr
  rw [eq0_word s hr] at h
  rw [lt_key .f32 wx (wf_zero _) nb (bad_zero _), lt_key .f32 (wf_zero _) wx (bad_zero _) nb, key_word .f32 s hr, key_of_zero]
  have hr0 : r ≠ 0 := by simpa using h
  cases s <;> rw [Bool.eq_iff_iff] <;> simp <;> omega
theorem fPart_cases (x y z : Nat) : fPart x y z = x ∨ fPart x y z = y ∨ fPart x y z = z := by
  unfold fPart
  split
  · exact .inr (.inr rfl)
  · split
    · exact .inr (.inl rfl)
    · exact .inl rfl
theorem fPart_ne {x y z : Nat} (wx : Wf .f32 x) (wy : Wf .f32 y) (wz : Wf .f32 z) (h : isWay x y z = true) : eq .f32 (fPart x y z) 0 = false := by
  unfold isWay fin3 at h
  simp only [Bool.and_eq_true, Bool.or_eq_true] at h
  obtain ⟨⟨⟨fx, fy⟩, fz⟩, hn⟩ := h
  obtain ⟨s, r, hr, rfl⟩ := rung_of wx fx
  obtain ⟨t, q, hq, rfl⟩ := rung_of wy fy
  obtain ⟨u, p, hp, rfl⟩ := rung_of wz fz
  clear fx fy fz wx wy wz
  rw [eq0_word s hr, eq0_word t hq, eq0_word u hp] at hn
  simp only [Bool.not_eq_true', decide_eq_false_iff_not] at hn
  unfold fPart fb2 fs1 fb1
  rw [ltS_word s t hr hq]
  by_cases h1 : r < q
  · simp only [h1, decide_true, if_true]
    rw [ltS_word t u hq hp]
    by_cases h2 : q < p
    · simp only [h2, decide_true, if_true]; rw [eq0_word u hp]; simp; omega
    · simp only [h2, decide_false, if_false, Bool.false_eq_true]; rw [eq0_word t hq]; simp; omega
  · simp only [h1, decide_false, if_false, Bool.false_eq_true]
    rw [ltS_word s u hr hp]
    by_cases h2 : r < p
    · simp only [h2, decide_true, if_true]; rw [eq0_word u hp]; simp; omega
    · simp only [h2, decide_false, if_false, Bool.false_eq_true]; rw [eq0_word s hr]; simp; omega
theorem absF_fin {x : Nat} (hf : isFin .f32 x = true) : absF x = size .f32 x := by
  unfold absF
  exact can_of_not (by show bad .f32 (size .f32 x) = false; rw [bad_size]; exact fin_not_bad hf)
theorem lt_irr {x : Nat} (hx : Wf .f32 x) (hf : isFin .f32 x = true) : lt .f32 (size .f32 x) (size .f32 x) = false := by
  obtain ⟨s, r, hr, rfl⟩ := rung_of hx hf
  rw [ltS_word s s hr hr]; simp
/-- The greatest of the first k parts. -/
def bst (M : Nat → Nat) : Nat → Nat
  | 0 => 0
  | k + 1 => if lt .f32 (size .f32 (M (bst M k))) (size .f32 (M k)) = true then k else bst M k
theorem bst_lt (M : Nat → Nat) (k : Nat) (h : k ≤ 3) : bst M k < 3 := by
  induction k with
  | zero => show 0 < 3; decide
  | succ k ih =>
    unfold bst
    split
    · omega
    · exact ih (by omega)
theorem bst_three {M : Nat → Nat} {x y z : Nat} (h0 : M 0 = x) (h1 : M 1 = y) (h2 : M 2 = z) (hx : Wf .f32 x) (hf : isFin .f32 x = true) : bst M 3 = if fb2 x y z = true then 2 else if fb1 x y = true then 1 else 0 := by
  have e1 : bst M 1 = 0 := by
    show (if lt .f32 (size .f32 (M 0)) (size .f32 (M 0)) = true then 0 else 0) = 0
    split <;> rfl
  have e2 : bst M 2 = if fb1 x y = true then 1 else 0 := by
    show (if lt .f32 (size .f32 (M (bst M 1))) (size .f32 (M 1)) = true then 1 else bst M 1) = _
    rw [e1, h0, h1]; rfl
  show (if lt .f32 (size .f32 (M (bst M 2))) (size .f32 (M 2)) = true then 2 else bst M 2) = _
  rw [e2, h2]
  unfold fb2 fs1
  cases h : fb1 x y
  · simp [h0]
  · simp [h1]
end Go.Fl
