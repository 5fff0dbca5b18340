/- A region that draws its order, whose operations keep a class of worlds and yield, each, some value out of a set that hangs on its operands alone: one walk in the order of the text serves every order. (After the library's Derived/Deep/Quiet.lean, whose operations yield one value.) -/
import Derived.Test.YtommbbheanhkjaaCv
import Derived.Deep.Quiet
set_option linter.unusedSimpArgs false
set_option linter.unusedVariables false
set_option linter.unnecessarySimpa false
set_option maxRecDepth 20000
namespace Go.Fl
open Go

section
variable {P : Program} {ops : Array Oper} {md : Region.Mode} {C : World → Prop} {S : FuncId → Array Value → Value → Prop}

/-- What an operation may leave: 's' is its run. -/
def Leaves (P : Program) (C : World → Prop) (S : FuncId → Array Value → Value → Prop) (s : Sem Next) (u : Value) : Prop :=
  ∃ w, C w ∧ match s.run P w with
    | .ok (.value v) _ => u = v
    | .ok .skip _ => u = undef
    | .ok (.enter f args) _ => S f args u
    | _ => False

/-- It runs in every world of the class, and leaves one of the class. -/
def Safe (P : Program) (C : World → Prop) (S : FuncId → Array Value → Value → Prop) (s : Sem Next) : Prop :=
  ∀ w, C w → match s.run P w with
    | .ok (.value _) w' => C w'
    | .ok .skip w' => C w'
    | .ok (.enter f args) w' => Calls P f args w' fun e w'' => ∃ v, e = .returned v ∧ S f args v ∧ C w''
    | _ => False

def Loose (P : Program) (C : World → Prop) (S : FuncId → Array Value → Value → Prop) (o : Oper) (a : Act) (K : Act → Prop) : Prop :=
  Safe P C S (execOp a.eval o) ∧ ∀ u, Leaves P C S (execOp a.eval o) u → K (a.put o.dst u)

def wpLoose (P : Program) (ops : Array Oper) (C : World → Prop) (S : FuncId → Array Value → Value → Prop) (Q : Act → Prop) : List Oper → Act → Prop
  | [], a => Q a
  | o :: rest, a => if Region.wanted o (yielded ops a.tmps) then Loose P C S o a (wpLoose P ops C S Q rest) else wpLoose P ops C S Q rest (a.put o.dst undef)

def lOp (P : Program) (ops : Array Oper) (C : World → Prop) (S : FuncId → Array Value → Value → Prop) (i : Nat) (K : Act → Prop) (a : Act) : Prop :=
  match ops[i]? with
  | none => K a
  | some o => if Region.wanted o (yielded ops a.tmps) then Loose P C S o a K else K (a.put o.dst undef)

theorem Loose.mono {o : Oper} {a : Act} {K K' : Act → Prop} (h : ∀ a, K a → K' a) (hh : Loose P C S o a K) : Loose P C S o a K' :=
  ⟨hh.1, fun u hu => h _ (hh.2 u hu)⟩

theorem lOp_mono {i : Nat} {a : Act} {K K' : Act → Prop} (h : ∀ a, K a → K' a) (hh : lOp P ops C S i K a) : lOp P ops C S i K' a := by
  unfold lOp at *
  split
  · exact h _ (by simpa [*] using hh)
  · rename_i o ho
    simp only [ho] at hh
    split
    · rename_i hw; simp only [hw, if_true] at hh; exact Loose.mono h hh
    · rename_i hw; simp only [hw] at hh; exact h _ hh

def wpAnyL (P : Program) (md : Region.Mode) (ops : Array Oper) (C : World → Prop) (S : FuncId → Array Value → Value → Prop) (Q : Act → Prop) : Nat → Array Bool → Act → Prop
  | 0, listed, a => Region.ready md ops listed = [] ∧ Q a
  | fuel + 1, listed, a =>
    (Region.ready md ops listed = [] → Q a) ∧
    ∀ i ∈ Region.ready md ops listed, lOp P ops C S i (wpAnyL P md ops C S Q fuel (listed.setIfInBounds i true)) a

theorem Oper.wp_of_loose {o : Oper} {a : Act} {K : Act → Prop} {K' : Act → World → Prop} {Q' : Exit → Act → World → Prop} {w : World} (hw : C w) (h : ∀ a w', C w' → K a → K' a w') (hh : Loose P C S o a K) : o.wp P a w K' Q' := by
  obtain ⟨h1, h2⟩ := hh
  have h3 := h1 w hw
  have h4 : ∀ u, (match (execOp a.eval o).run P w with
    | .ok (.value v) _ => u = v
    | .ok .skip _ => u = undef
    | .ok (.enter f args) _ => S f args u
    | _ => False) → K (a.put o.dst u) := fun u hu => h2 u ⟨w, hw, hu⟩
  unfold Oper.wp
  generalize (execOp a.eval o).run P w = r at *
  cases r with
  | ok n w' =>
    cases n <;> simp only at h3 h4 <;> simp only [Oper.upon]
    case value u => exact h _ _ h3 (h4 _ rfl)
    case skip => exact h _ _ h3 (h4 _ rfl)
    case enter f args =>
      exact h3.mono fun e w'' ⟨v, he, hs, hc⟩ => by subst he; exact h _ _ hc (h4 v hs)
  | halt x w' => simp only at h3

theorem wpOp_of_lOp {i : Nat} {a : Act} {K : Act → Prop} {K' : Act → World → Prop} {Q' : Exit → Act → World → Prop} {w : World} (hC : C w) (h : ∀ a w', C w' → K a → K' a w') (hh : lOp P ops C S i K a) : wpOp P ops Q' i K' a w := by
  unfold lOp at hh
  unfold wpOp
  split
  · rename_i ho; simp only [ho] at hh; exact h _ _ hC hh
  · rename_i o ho
    simp only [ho] at hh
    split
    · rename_i hw; simp only [hw, if_true] at hh; exact .inl (Oper.wp_of_loose hC h hh)
    · rename_i hw; simp only [hw] at hh; exact h _ _ hC hh

theorem wpAny_of_loose {Q : Act → Prop} {Q' : Exit → Act → World → Prop} (hQ : ∀ a w, C w → Q a → Q' .normal a w) : ∀ (fuel : Nat) (listed : Array Bool) (a : Act) (w : World), C w →
    wpAnyL P md ops C S Q fuel listed a → wpAny P md ops Q' fuel listed a w
  | 0, _, _, _, hw, h => ⟨h.1, hQ _ _ hw h.2⟩
  | fuel + 1, _, _, _, hw, h => ⟨fun h0 => hQ _ _ hw (h.1 h0), fun i hi => wpOp_of_lOp hw (fun a' w' hw' => wpAny_of_loose hQ fuel _ a' w' hw') (h.2 i hi)⟩

/-- In state 'a' operation 'o' may leave just the values of 'R' in its temporary. -/
def YieldsL (P : Program) (ops : Array Oper) (C : World → Prop) (S : FuncId → Array Value → Value → Prop) (o : Oper) (R : Value → Prop) (a : Act) : Prop :=
  (Region.wanted o (yielded ops a.tmps) = true ∧ Safe P C S (execOp a.eval o) ∧ R = Leaves P C S (execOp a.eval o)) ∨
  (Region.wanted o (yielded ops a.tmps) = false ∧ R = (· = undef))

theorem YieldsL.lOp {i : Nat} {o : Oper} {R : Value → Prop} {a : Act} (hi : ops[i]? = some o) (hy : YieldsL P ops C S o R a) {K : Act → Prop} (h : ∀ v, R v → K (a.put o.dst v)) : lOp P ops C S i K a := by
  unfold Fl.lOp
  simp only [hi]
  rcases hy with ⟨hw, hv, rfl⟩ | ⟨hw, rfl⟩
  · simp only [hw, if_true]; exact ⟨hv, h⟩
  · simp only [hw, Bool.false_eq_true, if_false]; exact h _ rfl

theorem YieldsL.of_same {o : Oper} {R : Value → Prop} {a a' : Act} (hy : YieldsL P ops C S o R a) (he : execOp a'.eval o = execOp a.eval o)
    (hw : Region.wanted o (yielded ops a'.tmps) = Region.wanted o (yielded ops a.tmps)) : YieldsL P ops C S o R a' := by
  unfold YieldsL at *
  rw [he, hw]
  exact hy

theorem yieldsL_of_lOp {i : Nat} {o : Oper} {a : Act} {K : Act → Prop} (hi : ops[i]? = some o) (h : lOp P ops C S i K a) : ∃ R, YieldsL P ops C S o R a ∧ ∀ v, R v → K (a.put o.dst v) := by
  unfold lOp at h
  simp only [hi] at h
  by_cases hw : Region.wanted o (yielded ops a.tmps) = true
  · simp only [hw, if_true] at h
    exact ⟨_, .inl ⟨hw, h.1, rfl⟩, h.2⟩
  · simp only [hw] at h
    exact ⟨_, .inr ⟨by simpa using hw, rfl⟩, fun v hv => by subst hv; exact h⟩

/-- Whatever yields may yield something. -/
theorem YieldsL.some {o : Oper} {R : Value → Prop} {a : Act} {w : World} (hC : C w) (hy : YieldsL P ops C S o R a) : ∃ v, R v := by
  rcases hy with ⟨_, hs, rfl⟩ | ⟨_, rfl⟩
  · have h := hs w hC
    unfold Leaves
    cases hr : (execOp a.eval o).run P w with
    | ok n w' =>
      rw [hr] at h
      cases n <;> simp only at h
      case value u => exact ⟨u, w, hC, by rw [hr]⟩
      case skip => exact ⟨undef, w, hC, by rw [hr]⟩
      case enter f args =>
        obtain ⟨e, w'', fr, ⟨v, _, hv, _⟩, _⟩ := h []
        exact ⟨v, w, hC, by rw [hr]; exact hv⟩
    | halt x w' => rw [hr] at h; exact h.elim
  · exact ⟨undef, rfl⟩

theorem lOp_put {w : World} (hC : C w) {j : Nat} {oi oj : Oper} {R : Value → Prop} (hj : ops[j]? = some oj) (hap : oi.apart ops oj = true)
    (hsi : ∀ cs b, oi.op ≠ .select cs b) (hsj : ∀ cs b, oj.op ≠ .select cs b) {K : Act → Prop} {a : Act}
    (hy : YieldsL P ops C S oi R a) (h : ∀ v, R v → lOp P ops C S j K (a.put oi.dst v)) :
    lOp P ops C S j (fun a' => YieldsL P ops C S oi R a' ∧ ∀ v, R v → K (a'.put oi.dst v)) a := by
  obtain ⟨h1, h2, h3⟩ := Oper.apart_spec hap
  have keep : ∀ (a : Act), YieldsL P ops C S oi R a → ∀ u, YieldsL P ops C S oi R (a.put oj.dst u) := fun a hy u =>
    hy.of_same (execOp_put oi hsi a oj.dst u h3) (wanted_put oi a oj.dst u h3)
  unfold lOp at *
  simp only [hj] at *
  obtain ⟨v0, hv0⟩ := hy.some hC
  split
  · rename_i hw
    have each : ∀ v, R v → Loose P C S oj (a.put oi.dst v) K := fun v hv => by
      have := h v hv
      rw [wanted_put oj a oi.dst v h1] at this
      simpa only [hw, if_true] using this
    refine ⟨?_, fun u hu => ⟨keep a hy u, fun v hv => ?_⟩⟩
    · have := (each v0 hv0).1
      rwa [execOp_put oj hsj a oi.dst v0 h1] at this
    · have := (each v hv).2 u (by rw [execOp_put oj hsj a oi.dst v h1]; exact hu)
      rwa [← Act.put_comm a v u h2]
  · rename_i hw
    refine ⟨keep a hy _, fun v hv => ?_⟩
    have := h v hv
    rw [wanted_put oj a oi.dst v h1] at this
    simp only [hw] at this
    rw [← Act.put_comm a v undef h2]; exact this

theorem wpAnyL_first {w : World} (hC : C w) {Q : Act → Prop} {i : Nat} {oi : Oper} {R : Value → Prop} (hi : ops[i]? = some oi) (hsel : ∀ (j : Nat) (o : Oper) cs b, ops[j]? = some o → o.op ≠ .select cs b) :
    ∀ (fuel : Nat) (listed : Array Bool) (a : Act),
      (∀ j oj, ops[j]? = some oj → j ≠ i → listed.getD j true = false → (∀ e ∈ oj.after, Region.binds md e = true → e.on ≠ i) → oi.apart ops oj = true) →
      i ∈ Region.ready md ops listed → YieldsL P ops C S oi R a →
      (∀ v, R v → wpAnyL P md ops C S Q fuel (listed.setIfInBounds i true) (a.put oi.dst v)) → wpAnyL P md ops C S Q (fuel + 1) listed a := by
  intro fuel
  induction fuel with
  | zero =>
    intro listed a _ hr hy H
    obtain ⟨v0, hv0⟩ := hy.some hC
    refine ⟨fun h => (by rw [h] at hr; cases hr), fun j hj => ?_⟩
    by_cases hji : j = i
    · subst hji; exact hy.lOp hi H
    · have := ready_mono hj hji
      rw [(H v0 hv0).1] at this
      cases this
  | succ fuel ih =>
    intro listed a hfree hr hy H
    refine ⟨fun h => (by rw [h] at hr; cases hr), fun j hj => ?_⟩
    by_cases hji : j = i
    · subst hji; exact hy.lOp hi H
    · have h1 : ∀ v, R v → lOp P ops C S j (wpAnyL P md ops C S Q fuel ((listed.setIfInBounds i true).setIfInBounds j true)) (a.put oi.dst v) := fun v hv => (H v hv).2 j (ready_mono hj hji)
      obtain ⟨hjun, oj, hoj, hall⟩ := mem_ready.1 hj
      have hnot : ∀ e ∈ oj.after, Region.binds md e = true → e.on ≠ i := fun e he hb heq => by
        have h1 := hall e he hb
        have h0 := (mem_ready.1 hr).1
        rw [heq] at h1
        rcases Nat.lt_or_ge i listed.size with h' | h'
        · simp [h'] at h0 h1; rw [h0] at h1; cases h1
        · simp [Array.getElem?_eq_none h'] at h1
      have h2 := lOp_put hC hoj (hfree j oj hoj hji hjun hnot) (fun cs b => hsel i oi cs b hi) (fun cs b => hsel j oj cs b hoj) hy h1
      have hfree' : ∀ k ok, ops[k]? = some ok → k ≠ i → (listed.setIfInBounds j true).getD k true = false →
          (∀ e ∈ ok.after, Region.binds md e = true → e.on ≠ i) → oi.apart ops ok = true := fun k ok hk hki hun hno => by
        refine hfree k ok hk hki ?_ hno
        by_cases hjk : j = k
        · subst hjk; exact hjun
        · rw [getD_set_ne true hjk] at hun; exact hun
      refine lOp_mono (fun a' h3 => ih (listed.setIfInBounds j true) a' hfree' (ready_mono hr (Ne.symm hji)) h3.1 ?_) h2
      rw [Array.setIfInBounds_comm _ _ hji]
      exact h3.2

theorem wpAnyL_lex {w : World} (hC : C w) {Q : Act → Prop} (hs : Region.noSelect ops = true) : ∀ (l : List Oper) (k : Nat) (listed : Array Bool) (a : Act), (∀ j, l[j]? = ops[k + j]?) →
    Region.lexFrom md ops l.length k listed = true → wpLoose P ops C S Q l a → wpAnyL P md ops C S Q l.length listed a
  | [], _, _, _, _, hB, h => ⟨by simpa [Region.lexFrom] using hB, h⟩
  | o :: l, k, listed, a, hl, hB, h => by
    have h0 : ops[k]? = some o := by simpa using (hl 0).symm
    simp only [List.length_cons, Region.lexFrom, Bool.and_eq_true] at hB
    obtain ⟨⟨hr, hf⟩, hB'⟩ := hB
    have hst : lOp P ops C S k (wpLoose P ops C S Q l) a := by unfold lOp; simp only [h0]; exact h
    obtain ⟨R, hy, hK⟩ := yieldsL_of_lOp h0 hst
    exact wpAnyL_first hC h0 (Region.noSelect_spec hs) l.length listed a (Region.free_spec h0 hf) (by simpa using hr) hy
      fun v hv => wpAnyL_lex hC hs l (k + 1) _ _ (fun j => by have := hl (j + 1); simpa [Nat.add_assoc, Nat.add_comm 1 j] using this) hB' (hK v hv)

/-- ONE WALK IN THE ORDER OF THE TEXT. -/
theorem wp_region_loose (C : World → Prop) (S : FuncId → Array Value → Value → Prop) {id : Nat} {Q : Exit → Act → World → Prop} {a : Act} {w : World} {l : List Oper} (hm : P.follows .mixedOrders = true) (hB : Region.lexB .any l.toArray = true) (hC : C w.drew)
    (h : wpLoose P l.toArray C S (fun a' => ∀ w', C w' → Q .normal a' w') l a) : (Code.region id l.toArray true).wp P Q a w := by
  simp only [Region.lexB, Bool.and_eq_true] at hB
  refine wp_region_any hm (wpAny_of_loose (S := S) (Q := fun a' => ∀ w', C w' → Q .normal a' w') (fun _ w' hw' h => h w' hw') _ _ _ _ hC ?_)
  have := wpAnyL_lex (C := C) hC (md := .any) hB.1 l 0 (Array.replicate l.toArray.size false) a (by simp) (by simpa using hB.2) h
  simpa using this

/-! ### One operation of the walk -/
section
variable {Q : Act → Prop} {a : Act} {o : Oper} {rest : List Oper} {K : Act → Prop}
theorem wpLoose_nil (h : Q a) : wpLoose P ops C S Q [] a := h
theorem wpLoose_want (hw : Region.wanted o (yielded ops a.tmps) = true) (h : Loose P C S o a (wpLoose P ops C S Q rest)) : wpLoose P ops C S Q (o :: rest) a := by
  unfold wpLoose; rw [if_pos hw]; exact h
theorem wpLoose_skip (hw : Region.wanted o (yielded ops a.tmps) = false) (h : wpLoose P ops C S Q rest (a.put o.dst undef)) : wpLoose P ops C S Q (o :: rest) a := by
  unfold wpLoose; rw [if_neg (by rw [hw]; exact Bool.false_ne_true)]; exact h

theorem loose_val (v : Value) (hrun : ∀ w, C w → (execOp a.eval o).run P w = .ok (.value v) w) (hk : K (a.put o.dst v)) : Loose P C S o a K := by
  refine ⟨fun w hw => ?_, fun u ⟨w, hw, hu⟩ => ?_⟩
  · rw [hrun w hw]; exact hw
  · rw [hrun w hw] at hu; simp only at hu; rw [hu]; exact hk
theorem loose_move (x : Operand) (h : o.op = .move x) (hk : K (a.put o.dst (a.eval x))) : Loose P C S o a K :=
  loose_val _ (fun w _ => BigFrame.run_move x h w) hk
theorem loose_assign (x : Operand) (h : o.op = .assign x) (hk : K (a.put o.dst (a.eval x))) : Loose P C S o a K :=
  loose_val _ (fun w _ => BigFrame.run_assign x h w) hk
/-- An operation that may draw a not-a-number's bits. -/
theorem loose_rel (R : Value → Prop) (hrun : ∀ w, C w → ∃ v n, (execOp a.eval o).run P w = .ok (.value v) (w.drewN n) ∧ R v) (hC : ∀ w n, C w → C (w.drewN n)) (hk : ∀ v, R v → K (a.put o.dst v)) : Loose P C S o a K := by
  refine ⟨fun w hw => ?_, fun u ⟨w, hw, hu⟩ => ?_⟩
  · obtain ⟨v, n, h1, _⟩ := hrun w hw
    rw [h1]; exact hC w n hw
  · obtain ⟨v, n, h1, h2⟩ := hrun w hw
    rw [h1] at hu; simp only at hu; rw [hu]; exact hk v h2
theorem loose_arith (b : BinOp) (t t' : TypeId) (x y : Operand) (h : o.op = .binOp b t x y t') (hb : arith b = true) (k : FloatKind) (xv yv : Nat) (hx : a.eval x = .float k xv) (hy : a.eval y = .float k yv) (hC : ∀ w n, C w → C (w.drewN n))
    (hk : ∀ r, can k r = op b k (can k xv) (can k yv) → Wf k r → K (a.put o.dst (.float k r))) : Loose P C S o a K := by
  refine loose_rel (fun v => ∃ r, v = .float k r ∧ can k r = op b k (can k xv) (can k yv) ∧ Wf k r) (fun w _ => ?_) hC (fun v ⟨r, e, h1, h2⟩ => by rw [e]; exact hk r h1 h2)
  obtain ⟨r, n, h1, h2, h3⟩ := run_binOp (P := P) hb t k xv yv w
  refine ⟨_, n, ?_, r, rfl, h2, h3⟩
  unfold execOp
  rw [h]
  simp only [hx, hy]
  have hg : eqGuard b t x y (.float k xv) (.float k yv) = pure () := by cases b <;> simp [arith] at hb <;> rfl
  rw [hg]
  simp only [Sem.run_bind, Sem.run_pure, Result.andThen_ok, h1]
theorem loose_widen (s d : TypeId) (x : Operand) (h : o.op = .convert s d x) (hs : P.underlying s = some (.float .f32)) (hd : P.underlying d = some (.float .f64)) (xv : Nat) (hx : a.eval x = .float .f32 xv) (hC : ∀ w n, C w → C (w.drewN n))
    (hk : ∀ r, can .f64 r = widen (can .f32 xv) → Wf .f64 r → K (a.put o.dst (.float .f64 r))) : Loose P C S o a K := by
  refine loose_rel (fun v => ∃ r, v = .float .f64 r ∧ can .f64 r = widen (can .f32 xv) ∧ Wf .f64 r) (fun w _ => ?_) hC (fun v ⟨r, e, h1, h2⟩ => by rw [e]; exact hk r h1 h2)
  obtain ⟨r, n, h1, h2, h3⟩ := run_widen (P := P) hs hd xv w
  refine ⟨_, n, ?_, r, rfl, h2, h3⟩
  unfold execOp
  rw [h]
  simp only [hx, Sem.run_bind, Sem.run_pure, Result.andThen_ok, h1]
theorem loose_narrow (s d : TypeId) (x : Operand) (h : o.op = .convert s d x) (hs : P.underlying s = some (.float .f64)) (hd : P.underlying d = some (.float .f32)) (xv : Nat) (hx : a.eval x = .float .f64 xv) (hok : narrowOk (can .f64 xv) = true) (hC : ∀ w n, C w → C (w.drewN n))
    (hk : ∀ r, can .f32 r = narrow (can .f64 xv) → Wf .f32 r → K (a.put o.dst (.float .f32 r))) : Loose P C S o a K := by
  refine loose_rel (fun v => ∃ r, v = .float .f32 r ∧ can .f32 r = narrow (can .f64 xv) ∧ Wf .f32 r) (fun w _ => ?_) hC (fun v ⟨r, e, h1, h2⟩ => by rw [e]; exact hk r h1 h2)
  obtain ⟨r, n, h1, h2, h3⟩ := run_narrow (P := P) hs hd xv hok w
  refine ⟨_, n, ?_, r, rfl, h2, h3⟩
  unfold execOp
  rw [h]
  simp only [hx, Sem.run_bind, Sem.run_pure, Result.andThen_ok, h1]
theorem loose_call (f : FuncId) (args : Array Value) (hrun : ∀ w, (execOp a.eval o).run P w = .ok (.enter f args) w) (hcall : ∀ w, C w → Calls P f args w fun e w'' => ∃ v, e = .returned v ∧ S f args v ∧ C w'')
    (hk : ∀ v, S f args v → K (a.put o.dst v)) : Loose P C S o a K := by
  refine ⟨fun w hw => ?_, fun u ⟨w, hw, hu⟩ => ?_⟩
  · rw [hrun w]; exact hcall w hw
  · rw [hrun w] at hu; exact hk u hu

open RowKit in
/-- The class of the worlds in which what was there at the region's head is as it was. -/
theorem wp_region_below (S : FuncId → Array Value → Value → Prop) {id : Nat} {Q : Exit → Act → World → Prop} {a : Act} {w : World} {l : List Oper} (hm : P.follows .mixedOrders = true) (hB : Region.lexB .any l.toArray = true)
    (h : wpLoose P l.toArray (fun w2 => Below w.heap.size w w2) S (fun a' => ∀ w', Below w.heap.size w w' → Q .normal a' w') l a) : (Code.region id l.toArray true).wp P Q a w :=
  wp_region_loose _ S hm hB ((Below.refl _ _).drew) h
open RowKit in
theorem loose_callB {W : World} (f : FuncId) (args : Array Value) (hrun : ∀ w, (execOp a.eval o).run P w = .ok (.enter f args) w)
    (hcall : ∀ w2, Below W.heap.size W w2 → Calls P f args w2 fun e w3 => ∃ v, e = .returned v ∧ S f args v ∧ Below w2.heap.size w2 w3)
    (hk : ∀ v, S f args v → K (a.put o.dst v)) : Loose P (fun w2 => Below W.heap.size W w2) S o a K :=
  loose_call f args hrun (fun w2 hC => (hcall w2 hC).mono fun _ _ ⟨v, h1, h2, h3⟩ => ⟨v, h1, h2, hC.trans (h3.mono hC.size)⟩) hk
open RowKit in
theorem below_drawn (W : World) : ∀ w n, Below W.heap.size W w → Below W.heap.size W (w.drewN n) := fun _ n h => h.trans ⟨rfl, rfl, rfl, Nat.le_refl _, fun _ _ => rfl⟩
end
end
end Go.Fl
