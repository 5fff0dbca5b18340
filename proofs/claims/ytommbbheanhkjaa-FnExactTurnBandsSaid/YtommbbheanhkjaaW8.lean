/- ROWS OF FLOATS: the laws' own helpers. -/
import Derived.Test.YtommbbheanhkjaaW4
import Derived.Test.YtommbbheanhkjaaMem
set_option linter.unusedSimpArgs false
set_option linter.unusedVariables false
set_option linter.unnecessarySimpa false
set_option maxRecDepth 20000
namespace Go.Proofs.Ytommbbheanhkjaa
open Go.RowKit Go.Fl

theorem info_f32 : (Try.prog.info? 22).map (fun i => (i.zero, i.size, i.bytes)) = some (some (.float .f32 0), 1, 4) := by kernel_rfl
theorem toF_any (A : Option Addr) (xs : List Nat) (cap : Nat) (w : World) (hs : RS w A xs) (hl : xs.length ≤ 1048576) : Calls Try.prog 21 #[.slice A xs.length cap] w
    (fun e w' => ∃ g, e = .returned (.slice (some ⟨g, 0, none⟩) xs.length xs.length) ∧ w.heap.size ≤ g ∧ FB w' g xs ∧ Below w.heap.size w w') := by
  obtain ⟨i0, hi, hz0, hz1, hz2⟩ := info_parts info_f32
  have Hs := Lib.hid hs
  clear hs
  go_enter Try.func21, Try.ntmps21
  go_wp2_with (at_make; refine wpList_make_f _ rfl _ _ 31 rfl 22 i0 Try.underlying31 hi hz0 hz1 hz2 .i64 .i64 _ _ xs.length rfl rfl rfl rfl hl ?_; intro w1 hF hb)
  go_loopw [4] (fun i wr => ∃ (k : Nat) (ys : List Nat), k ≤ xs.length ∧ i = .int .i64 k ∧ ys.length = xs.length ∧ ys.take k = xs.take k ∧ FB wr w.heap.size ys ∧ Below w.heap.size w wr) (fun i _ => xs.length - (intOf i).toNat)
  case atStart => exact ⟨0, _, Nat.zero_le _, rfl, by simp, by simp, hF, hb⟩
  case round =>
    obtain ⟨k, ys, hk, rfl, hy, ht, hFr, hbr⟩ := hrel
    have HF := Lib.hid hFr
    have HB := Lib.hid hbr
    have Ht := Lib.hid ht
    clear hFr hbr ht hF hb
    by_cases hlt : k < xs.length
    · obtain ⟨ad, rfl, hab, hac⟩ := (RS.up HB.out Hs.out) k hlt
      have hg := HF.out.cell k (by omega)
      have hz := HF.out.frozen k (by omega)
      go_wp2
      go_roundw
      case rel => exact ⟨k + 1, _, by omega, by go_num, by simp [hy], take_set_succ hy hlt Ht.out, HF.out.set_ (by omega) _, HB.out.setCell (p := ⟨w.heap.size, k, none⟩) (Nat.le_refl _) _⟩
      case measure => simp [intOf]; omega
    · go_wp2
      go_ret
      have hk' : k = xs.length := by omega
      refine ⟨_, rfl, Nat.le_refl _, ?_, HB.out⟩
      have e : ys = xs := by have := Ht.out; rwa [List.take_of_length_le (by omega), List.take_of_length_le (by omega)] at this
      rw [← e]; exact HF.out
theorem markF_any (A : Option Addr) (ys : List Nat) (cap : Nat) (k0 : Int) (w : World) (ho : Own w A ys) (hl : ys.length ≤ 1048576) (h0 : 0 ≤ k0) (h1 : k0 ≤ 4194304) : Calls Try.prog 24 #[.slice A ys.length cap, .int .i64 k0] w
    (fun e w' => e = .returned (.int .i64 (k0 + ys.length)) ∧ Own w' A (marks k0 ys.length) ∧ w.grownBy w' (blk A)) := by
  have Ho := Lib.hid ho
  clear ho
  go_enter Try.func24, Try.ntmps24
  go_wp2_with fail
  go_loopw [1, 5] (fun q i wr => ∃ (k : Nat) (zs : List Nat), k ≤ ys.length ∧ i = .int .i64 k ∧ q = .int .i64 (k0 + k) ∧ zs.length = ys.length ∧ zs.take k = marks k0 k ∧ Own wr A zs ∧ w.grownBy wr (blk A)) (fun _ i _ => ys.length - (intOf i).toNat)
  case atStart => exact ⟨0, ys, Nat.zero_le _, rfl, by simp, rfl, by simp [marks], Ho.out, World.grownBy.refl w _⟩
  case round =>
    obtain ⟨k, zs, hk, rfl, rfl, hy, ht, hFr, hbr⟩ := hrel
    have HF := Lib.hid hFr
    have HB := Lib.hid hbr
    have Ht := Lib.hid ht
    clear hFr hbr ht
    by_cases hlt : k < ys.length
    · rcases HF.out with ⟨_, e⟩ | ⟨g, rfl, hB⟩
      · subst e; simp at hy; omega
      have HZ := Lib.hid hB
      have hg := hB.cell k (by omega)
      have hz := hB.frozen k (by omega)
      clear hB
      go_wp2
      go_roundw
      case rel => exact ⟨k + 1, _, by omega, by go_num, by go_num, by simp [hy], take_mark_succ (by omega) Ht.out, (HZ.out.set_ (by omega) _).own, grown_set HB.out _⟩
      case measure => simp [intOf]; omega
    · go_wp2
      go_ret
      obtain rfl : k = ys.length := by omega
      have e : zs = marks k0 ys.length := by have := Ht.out; rwa [List.take_of_length_le (by omega)] at this
      refine ⟨rfl, ?_, HB.out⟩
      rw [← e]; exact HF.out
theorem heldF_any (A : Option Addr) (n cap : Nat) (k0 : Int) (w : World) (ho : RS w A (marks k0 n)) (hl : n ≤ 1048576) (h0 : 0 ≤ k0) (h1 : k0 ≤ 4194304) : Calls Try.prog 25 #[.slice A n cap, .int .i64 k0] w
    (fun e w' => e = .returned (.int .i64 (k0 + n)) ∧ w' = w) := by
  have Ho := Lib.hid ho
  clear ho
  go_enter Try.func25, Try.ntmps25
  go_wp2_with fail
  go_loopw [1, 5] (fun q i wr => ∃ (k : Nat), k ≤ n ∧ i = .int .i64 k ∧ q = .int .i64 (k0 + k) ∧ wr = w) (fun _ i _ => n - (intOf i).toNat)
  case atStart => exact ⟨0, Nat.zero_le _, rfl, by simp, rfl⟩
  case round =>
    obtain ⟨k, hk, rfl, rfl, rfl⟩ := hrel
    by_cases hlt : k < n
    · obtain ⟨ad, rfl, hab, hac⟩ := Ho.out k (by rw [marks_length]; exact hlt)
      rw [marks_get] at hac
      have he := eq_ofInt .f32 (k0 + k)
      have hca := can_ofInt .f32 (k0 + k)
      go_wp2
      go_roundw
      case rel => exact ⟨k + 1, by omega, by go_num, by go_num, by trivial⟩
      case measure => simp [intOf]; omega
    · go_wp2
      go_ret
      obtain rfl : k = n := by omega
      exact ⟨rfl, rfl⟩
theorem eqF_any (A : Option Addr) (B : Option Addr) (xs ys : List Nat) (cap cap' : Nat) (w : World) (hA : RS w A xs) (hB : RS w B ys) (he : xs.map (can .f32) = ys.map (can .f32)) (hl : xs.length ≤ 1048576) : Calls Try.prog 23 #[.slice A xs.length cap, .slice B ys.length cap'] w (GivesB w true) := by
  have hlen : ys.length = xs.length := by have := congrArg List.length he; simpa using this.symm
  have hk : ∀ (k : Nat) (h : k < xs.length) (h' : k < ys.length), can .f32 xs[k] = can .f32 ys[k] := fun k h h' => by
    have := congrArg (fun l => l[k]?) he
    simpa [h, h'] using this
  rw [hlen]
  have HA := Lib.hid hA
  have HB := Lib.hid hB
  have HK := Lib.hid hk
  have Hl := Lib.hid hlen
  clear hA hB he hlen hk
  go_enter Try.func23, Try.ntmps23
  go_wp2_with fail
  go_loopw [5] (fun i wr => ∃ (k : Nat), k ≤ xs.length ∧ i = .int .i64 k ∧ Below w.heap.size w wr) (fun i _ => xs.length - (intOf i).toNat)
  case atStart => exact ⟨0, Nat.zero_le _, rfl, Below.refl _ _⟩
  case round =>
    obtain ⟨k, hk, rfl, hb⟩ := hrel
    have Hb := Lib.hid hb
    clear hb
    by_cases hlt : k < xs.length
    · obtain ⟨ad, rfl, hab, hac⟩ := HA.out k hlt
      obtain ⟨bd, rfl, hbb, hbc⟩ := HB.out k (by have := Hl.out; omega)
      have hkk := HK.out k hlt (by have := Hl.out; omega)
      have ha1 := (Hb.out.cell (p := ad.add k) (by rw [block_add]; exact hab)).trans hac
      have hb1 := (Hb.out.cell (p := bd.add k) (by rw [block_add]; exact hbb)).trans hbc
      generalize xs[k] = x at *
      generalize ys[k]'(by have := Hl.out; omega) = y at *
      go_wp2_with fail
      refine wp_region_below (fun f _ v => f = 30 ∧ v = .bool true) (by kernel_rfl) (by kernel_rfl) ?_
      repeat first
        | (refine wpLoose_want rfl ?_; refine loose_move _ rfl ?_; simp only [Act.put, Act.eval, List.setIfInBounds_toArray, List.set_cons_succ, List.set_cons_zero, Array.getD_eq_getD_getElem?, List.getElem?_toArray, List.getElem?_cons_succ, List.getElem?_cons_zero, Option.getD_some])
        | (refine wpLoose_want rfl ?_; refine loose_assign _ rfl ?_; simp only [Act.put, Act.eval, List.setIfInBounds_toArray, List.set_cons_succ, List.set_cons_zero, Array.getD_eq_getD_getElem?, List.getElem?_toArray, List.getElem?_cons_succ, List.getElem?_cons_zero, Option.getD_some])
        | (refine wpLoose_want rfl ?_; refine loose_widen _ _ _ rfl Try.underlying22 Try.underlying46 _ rfl (below_drawn _) (fun r hr hw => ?_); simp only [Act.put, Act.eval, List.setIfInBounds_toArray, List.set_cons_succ, List.set_cons_zero, Array.getD_eq_getD_getElem?, List.getElem?_toArray, List.getElem?_cons_succ, List.getElem?_cons_zero, Option.getD_some])
        | (refine wpLoose_want rfl ?_; apply loose_val; (· (intro w2 hC2; obtain ⟨hc2, hf2⟩ := below_cells hC2; (try have ha2 := (hC2.cell (p := ad.add k) (by rw [block_add]; have := Hb.out.size; omega)).trans ha1); (try have hb2 := (hC2.cell (p := bd.add k) (by rw [block_add]; have := Hb.out.size; omega)).trans hb1); go_simp; try rfl)); simp only [Act.put, Act.eval, List.setIfInBounds_toArray, List.set_cons_succ, List.set_cons_zero, Array.getD_eq_getD_getElem?, List.getElem?_toArray, List.getElem?_cons_succ, List.getElem?_cons_zero, Option.getD_some])
      rename_i q hq hwq
      refine wpLoose_want rfl ?_; refine loose_callB 30 #[.float .f64 q, .float .f64 r] (fun w2 => by go_simp) (fun w2 _ => (sameFloat_any q r w2 hwq hw).mono fun e w3 he => he.elim fun n he => ⟨_, he.1, ⟨rfl, by simp [*]⟩, by rw [he.2]; exact (by repeat (with_reducible first | exact Below.refl _ _ | refine below_drewN ?_ _ | refine Below.drew ?_ | refine below_alloc ?_ _ | refine below_set0 ?_ _ _ | refine below_set1 ?_ _ _ | refine below_set2 ?_ _ _ | refine below_set3 ?_ _ _ | refine below_call (by assumption) ?_ | refine below_step (by assumption) (by assumption) ?_))⟩) (fun v hv => ?_); obtain ⟨_, rfl⟩ := hv; simp only [Act.put, Act.eval, List.setIfInBounds_toArray, List.set_cons_succ, List.set_cons_zero, Array.getD_eq_getD_getElem?, List.getElem?_toArray, List.getElem?_cons_succ, List.getElem?_cons_zero, Option.getD_some]
      (refine wpLoose_want rfl ?_; apply loose_val; (· (intro w2 hC2; obtain ⟨hc2, hf2⟩ := below_cells hC2; go_simp; try rfl)); simp only [Act.put, Act.eval, List.setIfInBounds_toArray, List.set_cons_succ, List.set_cons_zero, Array.getD_eq_getD_getElem?, List.getElem?_toArray, List.getElem?_cons_succ, List.getElem?_cons_zero, Option.getD_some])
      refine wpLoose_nil fun w' hb => ?_
      go_wp2_with fail
      go_roundw
      case rel => exact ⟨k + 1, by omega, by go_num, Hb.out.trans (hb.mono Hb.out.size)⟩
      case measure => simp [intOf]; omega
    · go_wp2
      go_ret
      exact ⟨rfl, Hb.out⟩
end Go.Proofs.Ytommbbheanhkjaa
