/- A region that draws its order, in segments: at a cut all that stands ahead of it has been done; behind it the class of worlds is chosen anew. (After the library's Derived/StillTail.lean, over Loose.) -/
import Derived.Test.YtommbbheanhkjaaLoose
import Derived.StillTail
set_option linter.unusedSimpArgs false
set_option linter.unusedVariables false
set_option linter.unnecessarySimpa false
set_option maxRecDepth 20000
namespace Go.Fl
open Go

section
variable {P : Program} {ops : Array Oper} {md : Region.Mode}

/-- Each operation behind the cut waits for one at or behind it. -/
def afterB (md : Region.Mode) (ops : Array Oper) (n : Nat) : Bool :=
  (List.range ops.size).all fun t => decide (t ≤ n) || (List.range t).any fun j => decide (n ≤ j) && Region.waitsFor md ops t j

theorem tail_waits' {n : Nat} {listed : Array Bool} (hs : Region.sinkB md ops n = true) (hc : afterB md ops n = true) (_hn : n < ops.size) (inv : HeadInv md ops n listed) :
    ∀ (d i : Nat), n - i = d → i < n → listed.getD i true = false → ∀ t, n ≤ t → t ∉ Region.ready md ops listed := by
  intro d
  induction d using Nat.strongRecOn with
  | _ d ih =>
    intro i hd hi hun t ht hr
    obtain ⟨_, ot, hot, hall⟩ := mem_ready.1 hr
    have htlt : t < ops.size := (Array.getElem?_eq_some_iff.1 hot).1
    by_cases htn : t = n
    · subst htn
      have h1 := List.all_eq_true.1 hs i (List.mem_range.2 hi)
      obtain ⟨j, hj, hj2⟩ := List.any_eq_true.1 h1
      simp only [Bool.and_eq_true, decide_eq_true_eq] at hj2
      obtain ⟨oj, hoj, e, he, hb, hon⟩ := Region.waitsFor_spec hj2.2
      have hjle : j ≤ t := by have := List.mem_range.1 hj; omega
      by_cases hjt : j = t
      · subst hjt
        have : oj = ot := Option.some.inj (hoj.symm.trans hot)
        subst this
        have h2 := hall e he hb
        rw [hon, getD_both hun] at h2
        cases h2
      · cases hl : listed.getD j false with
        | true =>
          have h2 := inv.closed j oj hoj hl e he hb
          rw [hon, getD_both hun] at h2
          cases h2
        | false =>
          have hjs : j < listed.size := by rw [inv.size]; omega
          exact ih (t - j) (by omega) j rfl (by omega) (getD_in hjs hl) t (Nat.le_refl _) hr
    · have h1 := List.all_eq_true.1 hc t (List.mem_range.2 htlt)
      simp only [Bool.or_eq_true, decide_eq_true_eq] at h1
      rcases h1 with h1 | h1
      · omega
      · obtain ⟨j, hj, hj2⟩ := List.any_eq_true.1 h1
        simp only [Bool.and_eq_true, decide_eq_true_eq] at hj2
        obtain ⟨o', ho', e, he, hb, hon⟩ := Region.waitsFor_spec hj2.2
        have : o' = ot := Option.some.inj (ho'.symm.trans hot)
        subst this
        have h2 := hall e he hb
        have hjt := List.mem_range.1 hj
        rw [hon, getD_both (inv.tail j hj2.1 (by omega))] at h2
        cases h2

/-- The cut stands at the end, or all behind it waits. -/
def cutB (md : Region.Mode) (ops : Array Oper) (n : Nat) : Bool := decide (n = ops.size) || (decide (n < ops.size) && Region.sinkB md ops n && afterB md ops n)

theorem cut_waits {n i : Nat} {listed : Array Bool} (hc : cutB md ops n = true) (inv : HeadInv md ops n listed) (hi : i < n) (hun : listed.getD i true = false) : ∀ t ∈ Region.ready md ops listed, t < n := by
  intro t ht
  rcases Nat.lt_or_ge t n with h | h
  · exact h
  · simp only [cutB, Bool.or_eq_true, Bool.and_eq_true, decide_eq_true_eq] at hc
    rcases hc with hc | ⟨⟨h1, h2⟩, h3⟩
    · obtain ⟨_, ot, hot, _⟩ := mem_ready.1 ht
      have := (Array.getElem?_eq_some_iff.1 hot).1
      omega
    · exact absurd ht (tail_waits' h2 h3 h1 inv _ i rfl hi hun t h)

section
variable {C : World → Prop} {S : FuncId → Array Value → Value → Prop} {n : Nat} {L : Array Bool → Act → Prop}

def wpHead (P : Program) (md : Region.Mode) (ops : Array Oper) (C : World → Prop) (S : FuncId → Array Value → Value → Prop) (n : Nat) (L : Array Bool → Act → Prop) : Nat → Array Bool → Act → Prop
  | 0, listed, a => L listed a
  | f + 1, listed, a =>
    Region.ready md ops listed ≠ [] ∧ ∀ i ∈ Region.ready md ops listed, i < n ∧ lOp P ops C S i (wpHead P md ops C S n L f (listed.setIfInBounds i true)) a

theorem wpAny_of_wpHead {g : Nat} {Q' : Exit → Act → World → Prop} (hL : ∀ listed a w, C w → L listed a → wpAny P md ops Q' g listed a w) :
    ∀ (f : Nat) (listed : Array Bool) (a : Act) (w : World), C w → wpHead P md ops C S n L f listed a → wpAny P md ops Q' (f + g) listed a w
  | 0, listed, a, w, hw, h => by rw [Nat.zero_add]; exact hL _ _ _ hw h
  | f + 1, listed, a, w, hw, h => by
    rw [show f + 1 + g = (f + g) + 1 by omega]
    exact ⟨fun h0 => absurd h0 h.1, fun i hi => wpOp_of_lOp hw (fun a' w' hw' h' => wpAny_of_wpHead hL f _ a' w' hw' h') (h.2 i hi).2⟩

theorem wpHead_first {w : World} (hC : C w) {i : Nat} {oi : Oper} {R : Value → Prop} (hi : ops[i]? = some oi) (hsel : ∀ (j : Nat) (o : Oper) cs b, ops[j]? = some o → o.op ≠ .select cs b)
    (hcut : cutB md ops n = true) (hin : i < n)
    (hdone : ∀ listed a, L listed a → ∀ j ∈ Region.ready md ops listed, n ≤ j) :
    ∀ (f : Nat) (listed : Array Bool) (a : Act), HeadInv md ops n listed →
      (∀ j oj, ops[j]? = some oj → j ≠ i → listed.getD j true = false → (∀ e ∈ oj.after, Region.binds md e = true → e.on ≠ i) → oi.apart ops oj = true) →
      i ∈ Region.ready md ops listed → YieldsL P ops C S oi R a →
      (∀ v, R v → wpHead P md ops C S n L f (listed.setIfInBounds i true) (a.put oi.dst v)) → wpHead P md ops C S n L (f + 1) listed a := by
  intro f
  induction f with
  | zero =>
    intro listed a inv _ hr hy H
    have hun := (mem_ready.1 hr).1
    obtain ⟨v0, hv0⟩ := hy.some hC
    refine ⟨fun h => (by rw [h] at hr; cases hr), fun j hj => ?_⟩
    have hjn : j < n := cut_waits hcut inv hin hun j hj
    refine ⟨hjn, ?_⟩
    by_cases hji : j = i
    · subst hji; exact hy.lOp hi H
    · have := hdone _ _ (H v0 hv0) j (ready_mono hj hji)
      omega
  | succ f ih =>
    intro listed a inv hfree hr hy H
    have hun := (mem_ready.1 hr).1
    refine ⟨fun h => (by rw [h] at hr; cases hr), fun j hj => ?_⟩
    have hjn : j < n := cut_waits hcut inv hin hun j hj
    refine ⟨hjn, ?_⟩
    by_cases hji : j = i
    · subst hji; exact hy.lOp hi H
    · have h1 : ∀ v, R v → lOp P ops C S j (wpHead P md ops C S n L f ((listed.setIfInBounds i true).setIfInBounds j true)) (a.put oi.dst v) := fun v hv => ((H v hv).2 j (ready_mono hj hji)).2
      obtain ⟨hjun, oj, hoj, hall⟩ := mem_ready.1 hj
      have hnot : ∀ e ∈ oj.after, Region.binds md e = true → e.on ≠ i := fun e he hb heq => by
        have h1 := hall e he hb
        rw [heq, getD_both hun] at h1
        cases h1
      have h2 := lOp_put hC hoj (hfree j oj hoj hji hjun hnot) (fun cs b => hsel i oi cs b hi) (fun cs b => hsel j oj cs b hoj) hy h1
      have hfree' : ∀ k ok, ops[k]? = some ok → k ≠ i → (listed.setIfInBounds j true).getD k true = false →
          (∀ e ∈ ok.after, Region.binds md e = true → e.on ≠ i) → oi.apart ops ok = true := fun k ok hk hki hun hno => by
        refine hfree k ok hk hki ?_ hno
        by_cases hjk : j = k
        · subst hjk; exact hjun
        · rw [getD_set_ne true hjk] at hun; exact hun
      refine lOp_mono (fun a' h3 => ih (listed.setIfInBounds j true) a' (inv.set hj hjn) hfree' (ready_mono hr (Ne.symm hji)) h3.1 ?_) h2
      rw [Array.setIfInBounds_comm _ _ hji]
      exact h3.2
end

/-- The list of what is done, behind a segment. -/
def lexRun (md : Region.Mode) (ops : Array Oper) : Nat → Nat → Array Bool → Option (Array Bool)
  | 0, _, listed => some listed
  | f + 1, k, listed => if (Region.ready md ops listed).contains k && Region.free md ops listed k then lexRun md ops f (k + 1) (listed.setIfInBounds k true) else none

def segB (md : Region.Mode) (ops : Array Oper) : List Nat → Nat → Array Bool → Bool
  | [], _, listed => (Region.ready md ops listed).isEmpty
  | m :: ms, k, listed => cutB md ops (k + m) && match lexRun md ops m k listed with
    | some l => ((Region.ready md ops l).all fun j => decide (k + m ≤ j)) && segB md ops ms (k + m) l
    | none => false

theorem wpHead_lex {C : World → Prop} {S : FuncId → Array Value → Value → Prop} {n : Nat} {w : World} (hC : C w) {Lq : Act → Prop} (hsel : Region.noSelect ops = true) (hcut : cutB md ops n = true)
    {done : Array Bool} (hdone : ∀ j ∈ Region.ready md ops done, n ≤ j) :
    ∀ (l : List Oper) (k : Nat) (listed : Array Bool) (a : Act), (∀ j, j < l.length → l[j]? = ops[k + j]?) → k + l.length = n → HeadInv md ops n listed →
    lexRun md ops l.length k listed = some done → wpLoose P ops C S Lq l a →
    wpHead P md ops C S n (fun listed' a' => (listed' = done ∧ HeadInv md ops n listed') ∧ Lq a') l.length listed a
  | [], k, listed, a, _, hk, inv, hB, h => ⟨⟨Option.some.inj hB, inv⟩, h⟩
  | o :: l, k, listed, a, hl, hk, inv, hB, h => by
    have h0 : ops[k]? = some o := by simpa using (hl 0 (by simp)).symm
    simp only [List.length_cons, lexRun] at hB
    split at hB
    · rename_i hrf
      simp only [Bool.and_eq_true] at hrf
      obtain ⟨hr, hf⟩ := hrf
      have hkn : k < n := by simp only [List.length_cons] at hk; omega
      have hr' : k ∈ Region.ready md ops listed := by simpa using hr
      have hst : lOp P ops C S k (wpLoose P ops C S Lq l) a := by unfold lOp; simp only [h0]; exact h
      obtain ⟨R, hy, hK⟩ := yieldsL_of_lOp h0 hst
      exact wpHead_first hC h0 (Region.noSelect_spec hsel) hcut hkn (fun listed' a' hL => by rw [hL.1.1]; exact hdone) l.length listed a inv (Region.free_spec h0 hf) hr' hy
        fun v hv => wpHead_lex hC hsel hcut hdone l (k + 1) _ _ (fun j hj => by have := hl (j + 1) (by simp; omega); simpa [Nat.add_assoc, Nat.add_comm 1 j] using this) (by simp only [List.length_cons] at hk; omega) (inv.set hr' hkn) hB (hK v hv)
    · cases hB

/-- What follows where the region goes on; elsewhere what it is. -/
def atNormal (K : Act → World → Prop) (Q : Exit → Act → World → Prop) : Exit → Act → World → Prop
  | .normal, a, w => K a w
  | e, a, w => Q e a w
theorem atNormal_normal (K : Act → World → Prop) (Q : Exit → Act → World → Prop) (a : Act) (w : World) : atNormal K Q .normal a w = K a w := rfl
theorem wp_atNormal {o : Oper} {a : Act} {w : World} {next K : Act → World → Prop} {Q : Exit → Act → World → Prop} (h : o.wp P a w next (atNormal K Q)) : o.wp P a w next Q := by
  unfold Oper.wp at *
  generalize (execOp a.eval o).run P w = r at *
  cases r with
  | ok n w' => cases n <;> exact h
  | halt x w' => cases x <;> exact h

/-- The walk in segments: each loosely, or, where it is one operation, plainly. -/
def wpSeg (P : Program) (ops : Array Oper) (Q : Exit → Act → World → Prop) : List (List Oper) → Act → World → Prop
  | [], a, w => Q .normal a w
  | l :: ls, a, w => (∃ (C : World → Prop) (S : FuncId → Array Value → Value → Prop), C w ∧ wpLoose P ops C S (fun a' => ∀ w', C w' → wpSeg P ops Q ls a' w') l a) ∨
      (∃ o, l = [o] ∧ wpList P ops (atNormal (wpSeg P ops Q ls) Q) [o] a w)

theorem HeadInv.more {n n' : Nat} {listed : Array Bool} (h : HeadInv md ops n listed) (hn : n ≤ n') : HeadInv md ops n' listed := ⟨h.size, h.closed, fun t ht ht' => h.tail t (by omega) ht'⟩

theorem wpAny_of_seg {Q : Exit → Act → World → Prop} (hsel : Region.noSelect ops = true) : ∀ (ls : List (List Oper)) (k : Nat) (listed : Array Bool) (a : Act) (w : World),
    (∀ j, ls.flatten[j]? = ops[k + j]?) → HeadInv md ops k listed → (∀ j ∈ Region.ready md ops listed, k ≤ j) → segB md ops (ls.map List.length) k listed = true → wpSeg P ops Q ls a w → wpAny P md ops Q ls.flatten.length listed a w
  | [], k, listed, a, w, _, _, _, hB, h => ⟨by simpa [segB] using hB, h⟩
  | l :: ls, k, listed, a, w, hl, inv, hge, hB, h => by
    simp only [List.map_cons, segB, Bool.and_eq_true] at hB
    obtain ⟨hcut, hB⟩ := hB
    split at hB
    · rename_i done hd
      simp only [Bool.and_eq_true] at hB
      obtain ⟨hrd, hB'⟩ := hB
      have hdone : ∀ j ∈ Region.ready md ops done, k + l.length ≤ j := fun j hj => by
        have := List.all_eq_true.1 hrd j hj
        simpa using this
      have hrest : ∀ j, ls.flatten[j]? = ops[k + l.length + j]? := fun j => by
        have := hl (l.length + j)
        rw [List.flatten_cons, List.getElem?_append_right (by omega), Nat.add_sub_cancel_left] at this
        rw [this]; congr 1; omega
      rcases h with ⟨C, S, hC, hW⟩ | ⟨o, rfl, hW⟩
      · have H := wpHead_lex (P := P) hC (done := done) hsel hcut hdone l k listed a (fun j hj => by
          have := hl j
          rw [List.flatten_cons, List.getElem?_append_left hj] at this
          exact this) rfl (Fl.HeadInv.more inv (by omega)) hd hW
        rw [List.flatten_cons, List.length_append]
        refine wpAny_of_wpHead (fun listed' a' w' hw' hL => ?_) _ _ _ _ hC H
        obtain ⟨⟨rfl, inv'⟩, hq⟩ := hL
        exact wpAny_of_seg hsel ls (k + l.length) _ a' w' hrest inv' hdone hB' (hq w' hw')
      · simp only [List.length_singleton, lexRun] at hd
        split at hd
        · rename_i hrf
          obtain rfl := Option.some.inj hd
          simp only [Bool.and_eq_true] at hrf
          have hr' : k ∈ Region.ready md ops listed := by simpa using hrf.1
          have h0 : ops[k]? = some o := by simpa using (hl 0).symm
          have hun := (mem_ready.1 hr').1
          have inv1 : HeadInv md ops (k + 1) listed := Fl.HeadInv.more inv (by omega)
          rw [List.flatten_cons, List.singleton_append, List.length_cons]
          refine ⟨fun h1 => (by rw [h1] at hr'; cases hr'), fun i hi => ?_⟩
          obtain rfl : i = k := by
            have h1 := cut_waits (n := k + 1) hcut inv1 (Nat.lt_succ_self k) hun i hi
            have h2 := hge i hi
            omega
          have hw : wpOp P ops Q i (wpSeg P ops Q ls) a w := by
            unfold wpOp
            simp only [h0]
            unfold wpList at hW
            split
            · rename_i hwant
              simp only [hwant, if_true] at hW
              rcases hW with hW | ⟨h1, h2⟩
              · exact .inl (wp_atNormal hW)
              · exact .inr ⟨h1, h2⟩
            · rename_i hwant
              simp only [hwant] at hW
              exact hW
          exact wpOp_mono (fun a' w' h' => wpAny_of_seg hsel ls (i + 1) _ a' w' hrest (inv1.set hr' (Nat.lt_succ_self i)) hdone hB' h') hw
        · cases hd
    · cases hB

/-- A list, cut behind so and so many each. -/
def cuts : List Nat → List Oper → List (List Oper)
  | [], l => [l]
  | m :: ms, l => l.take m :: cuts ms (l.drop m)
theorem cuts_flatten : ∀ (ms : List Nat) (l : List Oper), (cuts ms l).flatten = l
  | [], l => by simp [cuts]
  | m :: ms, l => by simp [cuts, cuts_flatten ms]

theorem wp_region_seg (ls : List (List Oper)) {id : Nat} {Q : Exit → Act → World → Prop} {a : Act} {w : World} {l : List Oper} (hls : ls.flatten = l) (hm : P.follows .mixedOrders = true)
    (hB : (Region.noSelect l.toArray && segB .any l.toArray (ls.map List.length) 0 (Array.replicate l.toArray.size false)) = true)
    (h : wpSeg P l.toArray Q ls a w.drew) : (Code.region id l.toArray true).wp P Q a w := by
  subst hls
  simp only [Bool.and_eq_true] at hB
  have inv0 : HeadInv .any ls.flatten.toArray 0 (Array.replicate ls.flatten.toArray.size false) :=
    ⟨by simp, fun j oj _ hl => (by rw [getD_replicate_false] at hl; cases hl), fun t _ ht => getD_in (by simpa using ht) (getD_replicate_false _ _)⟩
  refine wp_region_any hm ?_
  have := wpAny_of_seg (md := .any) (P := P) hB.1 ls 0 _ a w.drew (fun j => by simp) inv0 (fun j _ => Nat.zero_le j) hB.2 h
  simpa using this
theorem wp_region_cut (ms : List Nat) {id : Nat} {Q : Exit → Act → World → Prop} {a : Act} {w : World} {l : List Oper} (hm : P.follows .mixedOrders = true)
    (hB : (Region.noSelect l.toArray && segB .any l.toArray ((cuts ms l).map List.length) 0 (Array.replicate l.toArray.size false)) = true)
    (h : wpSeg P l.toArray Q (cuts ms l) a w.drew) : (Code.region id l.toArray true).wp P Q a w := wp_region_seg (cuts ms l) (cuts_flatten ms l) hm hB h
theorem seg_done {Q : Exit → Act → World → Prop} {a : Act} {w : World} (h : Q .normal a w) : wpSeg P ops Q [] a w := h
theorem seg_one {Q : Exit → Act → World → Prop} {a : Act} {w : World} {o : Oper} {ls : List (List Oper)} (h : wpList P ops (atNormal (wpSeg P ops Q ls) Q) [o] a w) : wpSeg P ops Q ([o] :: ls) a w := .inr ⟨o, rfl, h⟩
open RowKit in
theorem seg_loose (S : FuncId → Array Value → Value → Prop) {Q : Exit → Act → World → Prop} {a : Act} {w : World} {l : List Oper} {ls : List (List Oper)}
    (h : wpLoose P ops (fun w2 => Below w.heap.size w w2) S (fun a' => ∀ w', Below w.heap.size w w' → wpSeg P ops Q ls a' w') l a) : wpSeg P ops Q (l :: ls) a w := .inl ⟨_, S, Below.refl _ _, h⟩
end
end Go.Fl
