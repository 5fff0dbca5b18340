/- What every law here shares: from 'the call returns true and leaves old memory alone' to the row's own form. -/
import Derived.WalkKit
import Derived.ProofKit
import Derived.OpenShut
import Derived.Deep.Slices
import Derived.Lib.SmallJoins
import Derived.Test.YtommbbheanhkjaaOrd
import Derived.Test.YtommbbheanhkjaaMem
set_option linter.unusedSimpArgs false
set_option linter.unusedVariables false
set_option linter.unnecessarySimpa false
set_option maxRecDepth 20000
namespace Go.Fl
open Go.ChangeShapes Go.WideShapes Go.ChangeAt Go.RowKit Go.Deep

section
variable {H : Type} {enc : TypeId × Value → H} {P : Program}

theorem trodAll_below (hl : laidOutB P = true) {W W' : World} (hb : Below W.heap.size W W') :
    ∀ (ts : List TypeId) (vs : List Value) (ds : List (DataW H)) (ps : List MemPlace), (∀ t ∈ ts, P.readableRec t = true ∧ t < P.types.size) →
      DataW.TrodAll enc P W 0 (fun _ => true) true ts vs ds ps → (∀ x ∈ ps, x.block < W.heap.size) →
      DataW.TrodAll enc P W' 0 (fun b => decide (b < W.heap.size)) true ts vs ds ps
  | [], [], [], ps, _, h, _ => h
  | t :: ts, v :: vs, d :: ds, ps, ht, h, hp => by
    obtain ⟨p, q, h1, h2, rfl⟩ := h
    exact ⟨p, q, h1 |> fun h1 => Below.trod hl (ht t (by simp)).1 (ht t (by simp)).2 h1 hb (fun x hx => hp x (by simp [hx])),
      trodAll_below hl hb ts vs ds q (fun t' ht' => ht t' (by simp [ht'])) h2 (fun x hx => hp x (by simp [hx])), rfl⟩
  | [], [], _ :: _, _, _, h, _ => by simp [DataW.TrodAll] at h
  | [], _ :: _, _, _, _, h, _ => by simp [DataW.TrodAll] at h
  | _ :: _, [], _, _, _, h, _ => by simp [DataW.TrodAll] at h
  | _ :: _, _ :: _, [], _, _, h, _ => by simp [DataW.TrodAll] at h

theorem law_post {f : Func} {s : ChangeSpec} {W W' : World} {args : Array Value} {ds : List (DataW H)} {before : List MemPlace} {tb : TypeId}
    (hl : laidOutB P = true) (hts' : (f.params.toList.all fun t => P.readableRec t && decide (t < P.types.size)) = true)
    (hr : f.resultTypes = #[tb]) (htb : P.underlying tb = some .bool) (hsv : s.vars = [])
    (hs : s.fn H ds = { results := [.lit (.bool true)], args := ds })
    (hW : DataW.Whole enc P f.params.toList s.vars false W args.toList ds [] before) (hb : Below W.heap.size W W') :
    s.post enc P f false true false false W args (.bool true) W' := by
  have hts : ∀ t ∈ f.params.toList, P.readableRec t = true ∧ t < P.types.size := fun t ht => by
    have := List.all_eq_true.1 hts' t ht
    simpa using this
  have hW' := hW
  obtain ⟨p, q, hA, hV, rfl, hfz, hnd⟩ := hW
  rw [hsv] at hV
  obtain rfl : q = [] := hV
  refine ⟨ds, [], p ++ [], [], p, [], hW', ?_, ?_, ?_, hb.frame _, fun h => by cases h⟩
  · rw [List.append_nil, hs, hr]
    exact trodAll_cons_mk (shut_bool htb _) trodAll_mk0
  · rw [List.append_nil, hs]
    exact trodAll_below hl hb _ _ _ _ hts hA (fun x hx => hW'.lt x (by simp [hx]))
  · rw [hsv, List.append_nil, hs]
    rfl

theorem trod_float {k : FloatKind} {t : TypeId} {w : World} {base : Nat} {spare : Nat → Bool} {held : Bool} {fuel : Nat} {cs : List Value} {x : DataW H × List MemPlace}
    (ht : P.underlying t = some (.float k)) (h : DataW.trod enc P w base spare held fuel t cs = some x) : ∃ b, cs = [.float k b] ∧ Wf k b := by
  cases fuel with
  | zero => simp [DataW.trod] at h
  | succ n =>
    unfold DataW.trod at h
    rw [ht] at h
    split at h <;> simp_all [Wf]

section
variable {w : World} {base : Nat} {spare : Nat → Bool} {held : Bool} {r : Reach} {b0 : Nat} {t : TypeId} {v : Value} {d : DataW H} {p : List MemPlace}
theorem shape_f32 (ht : P.underlying t = some (.float .f32)) (hv : Value.okWide P w r b0 t v) (h : DataW.Trod enc P w base spare held t v d p) : ∃ x, v = .float .f32 x ∧ Wf .f32 x := by
  obtain ⟨b, rfl, _, _, hw⟩ := open_float ht hv h
  exact ⟨b, rfl, hw⟩
theorem shape_i64 (ht : P.underlying t = some (.int .i64)) (hv : Value.okWide P w r b0 t v) (h : DataW.Trod enc P w base spare held t v d p) : ∃ n : Int, v = .int .i64 n ∧ -9223372036854775808 ≤ n ∧ n ≤ 9223372036854775807 := by
  obtain ⟨n, rfl, _, _, hw⟩ := open_int ht hv h
  refine ⟨n, rfl, ?_⟩
  simp [Lit.wf, IntKind.min, IntKind.max, IntKind.signed, IntKind.bits] at hw
  omega
/-- A slice of floats, nil let in. -/
theorem shape_f32s {e : TypeId} (ht : P.underlying t = some (.slice e)) (he : P.underlying e = some (.float .f32)) (hc : P.cellsOf e = 1) (hval : Value.okWide P w r b0 t v) (h : DataW.Trod enc P w base spare held t v d p) :
    ∃ (A : Option Addr) (xs : List Nat) (cap : Nat), v = .slice A xs.length cap ∧ RS w A xs ∧ WfAll xs ∧ xs.length ≤ maxLen := by
  obtain ⟨A, ln, cp, rfl⟩ := okWide_slice ht hval
  obtain ⟨fuel, h⟩ := h
  rcases open_slice1 ht hc h with ⟨h1, _⟩ | ⟨a, len, cap, m, n, V, D, Pl, h1, hb, hl, hm, hmm, _, hx⟩
  · have e : Value.slice A ln cp = .slice none 0 0 := by simpa [Value.cells] using h1
    refine ⟨none, [], 0, e, RS.nil _ _, fun u hu => by simp at hu, by simp⟩
  · have hle : len ≤ m := by rw [hmm]; split <;> omega
    have hv : ∀ i, i < len → ∃ b, V i = .float .f32 b ∧ Wf .f32 b := fun i hi => by
      obtain ⟨b, e, hw⟩ := trod_float he (hx i (by omega)).2
      exact ⟨b, by simpa using e, hw⟩
    obtain ⟨F, hF⟩ := choose_lt (α := Nat) (p := fun i b => V i = .float .f32 b ∧ Wf .f32 b) hv
    refine ⟨some a, (List.range len).map F, cap, ?_, fun k hk => ?_, fun u hu => ?_, by simp; omega⟩
    · have e : Value.slice A ln cp = .slice (some a) len cap := by simpa [Value.cells] using h1
      rw [e]; simp
    · have hk' : k < len := by simpa using hk
      have hcell := (hx k (by omega)).1
      refine ⟨a, rfl, ?_, ?_⟩
      · have := World.block_lt_of_cell? w _ hcell
        rwa [block_add] at this
      · rw [hcell, (hF k hk').1]; simp
    · simp only [List.mem_map, List.mem_range] at hu
      obtain ⟨i, hi, rfl⟩ := hu
      exact (hF i hi).2
theorem shape_three {f0 f1 f2 : Field} (hs : P.underlying t = some (.struct #[f0, f1, f2])) (hone : oneCellFields P #[f0, f1, f2] = true) (hC : P.cellsOf t = 3)
    (h0 : P.underlying f0.type = some (.float .f32)) (h1 : P.underlying f1.type = some (.float .f32)) (h2 : P.underlying f2.type = some (.float .f32))
    (hv : Value.okWide P w r b0 t v) (h : DataW.Trod enc P w base spare held t v d p) :
    ∃ x y z, v = .agg #[.float .f32 x, .float .f32 y, .float .f32 z] ∧ Wf .f32 x ∧ Wf .f32 y ∧ Wf .f32 z := by
  obtain ⟨c0, c1, c2, y0, y1, y2, n, rfl, _, _, t0, t1, t2⟩ := Joins.open_agg3 hs hone hC hv h
  obtain ⟨x, hx, wx⟩ := trod_float h0 t0
  obtain ⟨y, hy, wy⟩ := trod_float h1 t1
  obtain ⟨z, hz, wz⟩ := trod_float h2 t2
  simp only [List.cons.injEq, and_true] at hx hy hz
  subst hx; subst hy; subst hz
  exact ⟨x, y, z, rfl, wx, wy, wz⟩
end
end
end Go.Fl
