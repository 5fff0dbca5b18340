/- Lists that functions give. -/
import Derived.Test.YtommbbheanhkjaaPure5
set_option linter.unusedSimpArgs false
set_option linter.unusedVariables false
set_option linter.unnecessarySimpa false
set_option maxRecDepth 20000
namespace Go.Fl
open Go.RowKit

def allFin (xs : List Nat) : Bool := xs.all (fun x => isFin .f32 (can .f32 x))
def powF (xs : List Nat) : Nat := xs.foldl (fun s x => add s (mul (can .f32 x) (can .f32 x))) 0
theorem pow_succ {xs : List Nat} {k : Nat} (hk : k < xs.length) : powF (xs.take (k + 1)) = add (powF (xs.take k)) (mul (can .f32 xs[k]) (can .f32 xs[k])) := by
  unfold powF; rw [List.take_succ_eq_append_getElem hk, List.foldl_append]; rfl
theorem sum_of_squares_from (s : Nat) : ∀ (xs ys : List Nat), ys.map (can .f32) = xs.map (fun x => mul (can .f32 x) (can .f32 x)) → ys.foldl (fun s x => add s (can .f32 x)) s = xs.foldl (fun s x => add s (mul (can .f32 x) (can .f32 x))) s
  | [], [], _ => rfl
  | [], _ :: _, h => by simp at h
  | _ :: _, [], h => by simp at h
  | x :: xs, y :: ys, h => by
    simp only [List.map_cons, List.cons.injEq] at h
    simp only [List.foldl_cons]
    rw [h.1]
    exact sum_of_squares_from _ xs ys h.2
theorem sum_of_squares {xs ys : List Nat} (h : ys.map (can .f32) = xs.map (fun x => mul (can .f32 x) (can .f32 x))) : sumF ys = powF xs := sum_of_squares_from 0 xs ys h
/-- A slice and a bool: the slice's floats, up to the bits of a not-a-number, are F; it lies in new memory of its own. -/
def GivesL (w : World) (F : List Nat) (ok : Bool) (e : Ending) (w' : World) : Prop :=
  ∃ A zs cap, e = .returned (.tuple #[.slice A zs.length cap, .bool ok]) ∧ Own w' A zs ∧ (∀ g, blk A = some g → w.heap.size ≤ g) ∧ zs.map (can .f32) = F ∧ WfAll zs ∧ Below w.heap.size w w'
theorem FS.sub {w : World} {b off i n : Nat} {xs : List Nat} (h : FS w b off xs) : FS w b (off + i) ((xs.drop i).take n) := fun k hk => by
  have h1 : i + k < xs.length := by simp at hk; omega
  rw [Nat.add_assoc, h (i + k) h1]
  simp
theorem FS.drop {w : World} {b off i : Nat} {xs : List Nat} (h : FS w b off xs) : FS w b (off + i) (xs.drop i) := fun k hk => by
  have h1 : i + k < xs.length := by simp at hk; omega
  rw [Nat.add_assoc, h (i + k) h1]
  simp
theorem WfAll.sub {xs : List Nat} {i n : Nat} (h : WfAll xs) : WfAll ((xs.drop i).take n) := fun x hx => h x (List.mem_of_mem_drop (List.mem_of_mem_take hx))
theorem WfAll.drop {xs : List Nat} {i : Nat} (h : WfAll xs) : WfAll (xs.drop i) := fun x hx => h x (List.mem_of_mem_drop hx)
theorem WorldLt.of_cell {w : World} {b o : Nat} {v : Value} (h : w.cell? ⟨b, o, none⟩ = some v) : b < w.heap.size := World.block_lt_of_cell? w _ h
/-- A list if it is good, else none. -/
def listOr (v : Value) (b : Bool) : Value := if b = true then .tuple #[v, .bool true] else .tuple #[.slice none 0 0, .bool false]
def bandsF (xs : List Nat) : List Nat := [mul (can .f32 (xs.getD 0 0)) (can .f32 (xs.getD 0 0)), powF ((xs.drop 1).take 3), powF (xs.drop 4)]
def bandsOk (xs : List Nat) : Bool := decide (xs.length = 9) && allFin xs && (bandsF xs).all (fun x => isFin .f32 x)
theorem allFin_map (zs : List Nat) : allFin zs = (zs.map (can .f32)).all (fun x => isFin .f32 x) := by unfold allFin; rw [List.all_map]; rfl
theorem FB.new3 {w : World} (t : TypeId) (a b c : Nat) : FB (w.alloc (.cells #[.float .f32 a, .float .f32 b, .float .f32 c] t)) w.heap.size [a, b, c] := by
  refine ⟨by simp, fun k hk => ?_, fun k _ => World.frozen?_alloc_at _ _ _ _ rfl⟩
  rw [World.cell?_alloc_at _ _ _ _ rfl]
  match k, hk with
  | 0, _ => rfl
  | 1, _ => rfl
  | 2, _ => rfl
/-- A made list or none, given back. -/
theorem givesL_some {w w' : World} {g : Nat} {zs : List Nat} {F : List Nat} {cap : Nat} {ok : Bool} (hok : ok = true) (h : FB w' g zs) (hg : w.heap.size ≤ g) (hF : zs.map (can .f32) = F) (hw : WfAll zs) (hb : Below w.heap.size w w') :
    GivesL w F ok (.returned (.tuple #[.slice (some ⟨g, 0, none⟩) zs.length cap, .bool true])) w' := ⟨_, zs, cap, by rw [hok], h.own, fun k hk => by simp [blk] at hk; omega, hF, hw, hb⟩
theorem givesL_none {w w' : World} {F : List Nat} {ok : Bool} (hok : ok = false) (hF : F = []) (hb : Below w.heap.size w w') : GivesL w F ok (.returned (.tuple #[.slice none 0 0, .bool false])) w' :=
  ⟨none, [], 0, by rw [hok]; rfl, Own.nil _, fun k hk => by simp [blk] at hk, by rw [hF]; rfl, fun x hx => by simp at hx, hb⟩
/-- A row that a call has gathered by append. -/
theorem own_fb {w : World} {base : Nat} {e : TypeId} {v : Value} {ys : List Nat} (h : w.ownsRow base e 1 v ys.length (ys.map (Value.float .f32))) (h0 : 0 < ys.length) :
    ∃ g cap, v = .slice (some ⟨g, 0, none⟩) ys.length cap ∧ ys.length ≤ cap ∧ cap ≤ maxLen ∧ base ≤ g ∧ FB w g ys := by
  obtain ⟨hl, hn | ⟨g, cap, cur, rfl, hb, hg, hnc, hcm, hsz, htk⟩⟩ := h
  · omega
  refine ⟨g, cap, rfl, hnc, hcm, hb, (Array.getElem?_eq_some_iff.1 hg).1, fun k hk => ?_, fun k _ => ?_⟩
  · rw [cell_of_row w g k cur e (0, 0) hg]
    have h1 : (cur.toList.take (ys.length * 1))[k]? = (ys.map (Value.float .f32))[k]? := by rw [htk]
    rw [List.getElem?_take, if_pos (by omega)] at h1
    simpa [hk] using h1
  · simp [World.frozen?, hg]
theorem owns_empty {w : World} (base : Nat) (e : TypeId) (hb : base ≤ w.heap.size) : (w.alloc (.cells #[] e)).ownsRow base e 1 (.slice (some ⟨w.heap.size, 0, none⟩) 0 0) 0 [] :=
  World.ownsRow_made w #[] 0 hb (by simp [maxLen]) rfl
theorem squares_succ {xs ys : List Nat} {k r : Nat} (hk : k < xs.length) (h : ys.map (can .f32) = (xs.take k).map (fun x => mul (can .f32 x) (can .f32 x))) (hr : can .f32 r = mul (can .f32 xs[k]) (can .f32 xs[k])) :
    (ys ++ [r]).map (can .f32) = (xs.take (k + 1)).map (fun x => mul (can .f32 x) (can .f32 x)) := by
  rw [List.take_succ_eq_append_getElem hk, List.map_append, List.map_append, h]; simp [hr]
theorem WfAll.snoc {ys : List Nat} {r : Nat} (h : WfAll ys) (hr : Wf .f32 r) : WfAll (ys ++ [r]) := fun x hx => by
  simp only [List.mem_append, List.mem_singleton] at hx
  rcases hx with hx | rfl
  · exact h x hx
  · exact hr
theorem owns_drewN {w : World} {base : Nat} {e : TypeId} {size : Nat} {v : Value} {n : Nat} {xs : List Value} (h : w.ownsRow base e size v n xs) (m : Nat) : (w.drewN m).ownsRow base e size v n xs := h
theorem cell_new1 {w : World} {n : Nat} {t : TypeId} {r : Nat} : ∀ (j : Nat) (u : Value), [Value.float .f32 r][j]? = some u → ((w.alloc (.cells #[.float .f32 r] t)).drewN n).cell? ((⟨w.heap.size, 0, none⟩ : Addr).add j) = some u := by
  intro j u hj
  match j, hj with
  | 0, hj =>
    simp only [List.getElem?_cons_zero, Option.some.injEq] at hj
    subst hj
    exact World.cell?_alloc_at _ _ _ _ rfl
theorem one_cell (r : Nat) : ∀ u ∈ [Value.float .f32 r], u.oneCell' = true := by intro u hu; simp at hu; subst hu; rfl
theorem below_append {w wr w1 : World} {e : TypeId} {v : Value} {k n : Nat} {cs : List Value} {o : Obj} (hb : Below w.heap.size w wr) (ho : wr.ownsRow w.heap.size e 1 v k cs) (hg : ((wr.alloc o).drewN n).grownBy w1 v.ownBlock) : Below w.heap.size w w1 :=
  Below.grown (below_drewN (below_alloc hb o) n) hg (by have := hb.size; simp; omega) (fun g hg => (ho.lt g hg).1)
theorem bands_of_squares {xs : List Nat} {b0 b1 b2 b3 b4 b5 b6 b7 b8 r1 r2 : Nat} (h9 : xs.length = 9) (h : [b0, b1, b2, b3, b4, b5, b6, b7, b8].map (can .f32) = xs.map (fun x => mul (can .f32 x) (can .f32 x)))
    (hr1 : can .f32 r1 = sumF ((List.drop 1 [b0, b1, b2, b3, b4, b5, b6, b7, b8]).take 3)) (hr2 : can .f32 r2 = sumF ((List.drop 4 [b0, b1, b2, b3, b4, b5, b6, b7, b8]).take 5)) : [b0, r1, r2].map (can .f32) = bandsF xs := by
  match xs, h9 with
  | [a0, a1, a2, a3, a4, a5, a6, a7, a8], _ =>
  have e1 : sumF ((List.drop 1 [b0, b1, b2, b3, b4, b5, b6, b7, b8]).take 3) = powF ((List.drop 1 [a0, a1, a2, a3, a4, a5, a6, a7, a8]).take 3) := sum_of_squares (by
    have := congrArg (fun l => (List.drop 1 l).take 3) h; simpa using this)
  have e2 : sumF ((List.drop 4 [b0, b1, b2, b3, b4, b5, b6, b7, b8]).take 5) = powF (List.drop 4 [a0, a1, a2, a3, a4, a5, a6, a7, a8]) := sum_of_squares (by
    have := congrArg (fun l => List.drop 4 l) h; simpa using this)
  have e0 : can .f32 b0 = mul (can .f32 a0) (can .f32 a0) := by have := congrArg (fun l => l[0]?) h; simpa using this
  simp only [List.map_cons, List.map_nil, hr1, hr2, e1, e2, e0]; rfl
theorem Own.drewN {w : World} {A : Option Addr} {xs : List Nat} (h : Own w A xs) (n : Nat) : Own (w.drewN n) A xs := h.up (below_drewN (Below.refl _ _) n)
theorem Own.alloc {w : World} {A : Option Addr} {xs : List Nat} (h : Own w A xs) (o : Obj) : Own (w.alloc o) A xs := h.up ((Below.refl _ _).alloc (Nat.le_refl _) o)
theorem Own.grown {w w' : World} {A : Option Addr} {xs : List Nat} {row : Option Nat} (hg : w.grownBy w' row) (hd : blk A = none ∨ blk A ≠ row) (h : Own w A xs) : Own w' A xs := by
  rcases h with ⟨rfl, rfl⟩ | ⟨g, rfl, h⟩
  · exact .inl ⟨rfl, rfl⟩
  · exact .inr ⟨g, rfl, h.grown hg (hd.resolve_left (by simp [blk]))⟩
theorem Own.lt {w : World} {A : Option Addr} {xs : List Nat} (h : Own w A xs) : ∀ k, blk A = some k → k < w.heap.size := fun k hk => by
  rcases h with ⟨rfl, rfl⟩ | ⟨g, rfl, h⟩
  · simp [blk] at hk
  · simp [blk] at hk; rw [← hk]; exact h.lt
/-- What was there, and what has come since, lie apart. -/
theorem Own.apart {w : World} {A A' : Option Addr} {xs : List Nat} (h : Own w A xs) (hf : ∀ k, blk A' = some k → w.heap.size ≤ k) : (blk A = none ∨ blk A ≠ blk A') ∧ (blk A' = none ∨ blk A' ≠ blk A) := by
  cases hA : blk A with
  | none => exact ⟨.inl rfl, by cases blk A' <;> simp⟩
  | some k =>
    cases hA' : blk A' with
    | none => exact ⟨.inr (by simp), .inl rfl⟩
    | some k' =>
      have h1 := h.lt k hA
      have h2 := hf k' hA'
      have : k ≠ k' := by omega
      exact ⟨.inr (by simpa using this), .inr (by simpa using this.symm)⟩
theorem below_step {w W w1 : World} {row : Option Nat} (hg : W.grownBy w1 row) (hr : ∀ k, row = some k → w.heap.size ≤ k) (h : Below w.heap.size w W) : Below w.heap.size w w1 := h.grown hg h.size hr
theorem fresh_up {w W : World} {A : Option Addr} (hb : Below w.heap.size w W) (h : ∀ k, blk A = some k → W.heap.size ≤ k) : ∀ k, blk A = some k → w.heap.size ≤ k := fun k hk => Nat.le_trans hb.size (h k hk)
theorem fresh_some {w : World} {g : Nat} (h : w.heap.size ≤ g) : ∀ k, blk (some ⟨g, 0, none⟩) = some k → w.heap.size ≤ k := fun k hk => by simp [blk] at hk; omega
theorem len_of_map {zs F : List Nat} {n : Nat} (h : zs.map (can .f32) = F) (hF : F.length ≤ n) : zs.length ≤ n := by rw [← h] at hF; simpa using hF
def bandsR (xs : List Nat) : List Nat := if bandsOk xs = true then bandsF xs else []
end Go.Fl
