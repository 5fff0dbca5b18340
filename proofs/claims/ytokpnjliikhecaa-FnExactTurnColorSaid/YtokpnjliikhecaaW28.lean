/- A COLOUR, TURNED: the law. -/
import Derived.Test.YtokpnjliikhecaaW27
import Derived.Test.YtokpnjliikhecaaW10
import Derived.Deep.RegionHeld3
set_option linter.unusedSimpArgs false
set_option linter.unusedVariables false
set_option linter.unnecessarySimpa false
set_option maxRecDepth 20000
namespace Go.Proofs.Ytokpnjliikhecaa
open Go.RowKit Go.Fl

set_option maxHeartbeats 4000000 in
theorem law_TurnColor (A : Option Addr) (xs : List Nat) (cap : Nat) (x y z : Nat) (w : World) (hs : RS w A xs) (wX : WfAll xs) (hm : xs.length ≤ maxLen) (wx : Wf .f32 x) (wy : Wf .f32 y) (wz : Wf .f32 z) : Calls Try.prog 6 #[.slice A xs.length cap, .agg #[.float .f32 x, .float .f32 y, .float .f32 z]] w (GivesB w true) := by
  have Hs := Lib.hid hs
  clear hs
  by_cases hl : xs.length ≤ 1048576
  · have HS := fun g w (h : FB w g xs) => turnSp_any g x y z xs w h wX hl wx wy wz
    have HI := fun g w (h : FB w g xs) => turnI_any g x y z xs w h wX hl wx wy wz
    generalize turnR xs (can .f32 x) (can .f32 y) (can .f32 z) 0 = P at *
    generalize turnR xs (can .f32 x) (can .f32 y) (can .f32 z) 3 = Q at *
    generalize turnR xs (can .f32 x) (can .f32 y) (can .f32 z) 6 = R at *
    generalize turnOk xs (can .f32 x) (can .f32 y) (can .f32 z) = B at *
    have HS' := Lib.hid HS
    have HI' := Lib.hid HI
    clear HS HI
    go_enter Try.func6, Try.ntmps6
    go_wp2_with fail
    obtain ⟨W, hW⟩ : ∃ W, W = w.alloc (.cells #[.float .f32 x, .float .f32 y, .float .f32 z] 40) := ⟨_, rfl⟩
    rw [← hW]
    have hbW : Below w.heap.size w W := by rw [hW]; exact (by repeat (with_reducible first | exact Below.refl _ _ | refine below_drewN ?_ _ | refine Below.drew ?_ | refine below_alloc ?_ _ | refine below_set0 ?_ _ _ | refine below_set1 ?_ _ _ | refine below_set2 ?_ _ _ | refine below_set3 ?_ _ _ | refine below_call (by assumption) ?_ | refine below_step (by assumption) (by assumption) ?_))
    have hsW : w.heap.size < W.heap.size := by rw [hW]; simp
    have k0 : W.cell? ⟨w.heap.size, 0, none⟩ = some (.float .f32 x) := by rw [hW]; go_simp
    have k1 : W.cell? ⟨w.heap.size, 1, none⟩ = some (.float .f32 y) := by rw [hW]; go_simp
    have k2 : W.cell? ⟨w.heap.size, 2, none⟩ = some (.float .f32 z) := by rw [hW]; go_simp
    clear hW
    have hn0 : ¬ w.heap.size = W.heap.size := (by omega)
    have hm0 : ¬ W.heap.size = w.heap.size := (by omega)
    have hy0 : w.heap.size < W.heap.size + 1 := Nat.lt_succ_of_lt hsW
    have hd1 : W.drew.heap.size = W.heap.size := rfl
    have hd2 : ∀ p, W.drew.cell? p = W.cell? p := fun _ => rfl
    go_region_held3 (fun w' => w'.cell? ⟨w.heap.size, 0, none⟩ = some (.float .f32 x) ∧ w'.cell? ⟨w.heap.size, 1, none⟩ = some (.float .f32 y) ∧ w'.cell? ⟨w.heap.size, 2, none⟩ = some (.float .f32 z)) (go_keep)
      (first
        | (go_at_call 18; refine (toF_any A xs cap _ (RS.up (by repeat (with_reducible first | exact Below.refl _ _ | refine below_drewN ?_ _ | refine Below.drew ?_ | refine below_alloc ?_ _ | refine below_set0 ?_ _ _ | refine below_set1 ?_ _ _ | refine below_set2 ?_ _ _ | refine below_set3 ?_ _ _ | refine below_call (by assumption) ?_ | refine below_step (by assumption) (by assumption) ?_)) Hs.out) hl).mono ?_; rintro e w1 ⟨g1, rfl, hg1, hF1, hb1⟩; obtain ⟨hc1, hf1⟩ := below_cells hb1; have hz1 : w.heap.size < w1.heap.size := (by have hq := hb1.size; (try simp at hq); omega); have hy1 : w.heap.size < w1.heap.size + 1 := Nat.lt_succ_of_lt hz1; have hn1 : ¬ w.heap.size = w1.heap.size := (by omega); have hm1 : ¬ w1.heap.size = w.heap.size := (by omega); (try have ha1 : W.heap.size < w1.heap.size := (by have hq := hb1.size; (try simp at hq); have hg := hF1.lt; omega)))
        | (go_at_call 26; refine (toColor_any _ _ _ _).mono ?_; rintro e w2 ⟨rfl, hb2⟩; obtain ⟨hc2, hf2⟩ := below_cells hb2; have hz2 : w.heap.size < w2.heap.size := (by have hq := hb2.size; (try simp at hq); omega); have hy2 : w.heap.size < w2.heap.size + 1 := Nat.lt_succ_of_lt hz2; have hn2 : ¬ w.heap.size = w2.heap.size := (by omega); have hm2 : ¬ w2.heap.size = w.heap.size := (by omega); (try have ha2 : W.heap.size < w2.heap.size := (by have hq := hb2.size; (try simp at hq); omega)); (try have ha3 : w1.heap.size < w2.heap.size := (by have hq := hb2.size; (try simp at hq); omega)))
        | (go_at_call 25; refine (HS'.out _ _ (by repeat (first | assumption | with_reducible refine FB.drewN ?_ _ | with_reducible refine FB.drew ?_ | with_reducible refine FB.alloc ?_ _ | with_reducible refine FB.up (by assumption) ?_))).mono ?_; rintro e w3 ⟨p, q, r, rfl, ⟨hp, hq, hr⟩, ⟨wp, wq, wr⟩, hb3⟩; obtain ⟨hc3, hf3⟩ := below_cells hb3; have hz3 : w.heap.size < w3.heap.size := (by have hq := hb3.size; (try simp at hq); omega); have hy3 : w.heap.size < w3.heap.size + 1 := Nat.lt_succ_of_lt hz3; have hn3 : ¬ w.heap.size = w3.heap.size := (by omega); have hm3 : ¬ w3.heap.size = w.heap.size := (by omega); (try have ha4 : W.heap.size < w3.heap.size := (by have hq := hb3.size; (try simp at hq); omega)); (try have ha5 : w1.heap.size < w3.heap.size := (by have hq := hb3.size; (try simp at hq); omega)); (try have ha6 : w2.heap.size < w3.heap.size := (by have hq := hb3.size; (try simp at hq); omega))))
    · rename_i hHeld
      have bW3 : Below w.heap.size w w3 := (by repeat (with_reducible first | exact Below.refl _ _ | refine below_drewN ?_ _ | refine Below.drew ?_ | refine below_alloc ?_ _ | refine below_set0 ?_ _ _ | refine below_set1 ?_ _ _ | refine below_set2 ?_ _ _ | refine below_set3 ?_ _ _ | refine below_call (by assumption) ?_ | refine below_step (by assumption) (by assumption) ?_))
      obtain ⟨W5, hW5⟩ : ∃ W5, W5 = w3.alloc (.cells #[.float .f32 p, .float .f32 q, .float .f32 r] 41) := ⟨_, rfl⟩
      rw [← hW5]
      rw [← hW5] at hHeld
      have j0 : W5.cell? ⟨w3.heap.size, 0, none⟩ = some (.float .f32 p) := by rw [hW5]; go_simp
      have j1 : W5.cell? ⟨w3.heap.size, 1, none⟩ = some (.float .f32 q) := by rw [hW5]; go_simp
      have j2 : W5.cell? ⟨w3.heap.size, 2, none⟩ = some (.float .f32 r) := by rw [hW5]; go_simp
      have BLE : w.heap.size ≤ w3.heap.size := by omega
      clear hd1 hd2 hc1 hf1 hc2 hf2 hc3 hf3 hn0 hm0 hn1 hn2 hn3 hm1 hm2 hm3 hz1 hz2 hz3 hy0 hy1 hy2 hy3 hb1 hb2 hb3 hg1 hF1 k0 k1 k2
      (try clear ha1); (try clear ha2); (try clear ha3); (try clear ha4); (try clear ha5); (try clear ha6)
      obtain ⟨b, BB⟩ : ∃ b, b = w3.heap.size := ⟨_, rfl⟩
      rw [← BB]
      (try rw [← BB] at hW5); rw [← BB] at j0 j1 j2 BLE
      have bW5 : Below w.heap.size w W5 := by rw [hW5]; exact below_alloc bW3 _
      have hbl : w.heap.size < W5.heap.size := WorldLt.of_cell hHeld.1
      have hbl2 : b < W5.heap.size := WorldLt.of_cell j0
      obtain ⟨k0, k1, k2⟩ := hHeld
      clear hW5 bW3 BLE BB
      go_wp2_with (go_at_call 18; refine (toF_any A xs cap _ (RS.up (by repeat (with_reducible first | exact Below.refl _ _ | refine below_drewN ?_ _ | refine Below.drew ?_ | refine below_alloc ?_ _ | refine below_set0 ?_ _ _ | refine below_set1 ?_ _ _ | refine below_set2 ?_ _ _ | refine below_set3 ?_ _ _ | refine below_call (by assumption) ?_ | refine below_step (by assumption) (by assumption) ?_)) Hs.out) hl).mono ?_; rintro e W6 ⟨gx, rfl, hgx, hFx, hb6⟩; obtain ⟨hc6, hf6⟩ := below_cells hb6)
      have hbl6 := Nat.lt_of_lt_of_le hbl hb6.size
      have hbl7 := Nat.lt_of_lt_of_le hbl2 hb6.size
      replace k0 := (hc6 _ _ hbl).trans k0
      replace k1 := (hc6 _ _ hbl).trans k1
      replace k2 := (hc6 _ _ hbl).trans k2
      replace j0 := (hc6 _ _ hbl2).trans j0
      replace j1 := (hc6 _ _ hbl2).trans j1
      replace j2 := (hc6 _ _ hbl2).trans j2
      have bW6 : Below w.heap.size w W6 := bW5.trans (hb6.mono bW5.size)
      clear hc6 hf6 hb6 hbl hbl2 bW5
      go_wp2_with (go_at_call 26; refine (toColor_any _ _ _ _).mono ?_; rintro e W7 ⟨rfl, hb7⟩; obtain ⟨hc7, hf7⟩ := below_cells hb7)
      have hbl8 := Nat.lt_of_lt_of_le hbl6 hb7.size
      have hbl9 := Nat.lt_of_lt_of_le hbl7 hb7.size
      replace k0 := (hc7 _ _ hbl6).trans k0
      replace k1 := (hc7 _ _ hbl6).trans k1
      replace k2 := (hc7 _ _ hbl6).trans k2
      replace j0 := (hc7 _ _ hbl7).trans j0
      replace j1 := (hc7 _ _ hbl7).trans j1
      replace j2 := (hc7 _ _ hbl7).trans j2
      replace hFx := FB.up hb7 hFx
      have bW7 : Below w.heap.size w W7 := bW6.trans (hb7.mono bW6.size)
      clear hc7 hf7 hb7 hbl6 hbl7 bW6
      refine (HI'.out _ _ hFx).mono ?_
      rintro e W8 ⟨p2, q2, r2, rfl, ⟨hp2, hq2, hr2⟩, ⟨wp2, wq2, wr2⟩, hb8⟩
      obtain ⟨hc8, hf8⟩ := below_cells hb8
      have hbA := Nat.lt_of_lt_of_le hbl9 hb8.size
      replace j0 := (hc8 _ _ hbl9).trans j0
      replace j1 := (hc8 _ _ hbl9).trans j1
      replace j2 := (hc8 _ _ hbl9).trans j2
      have l0 : ∀ o, (W8.alloc o).cell? ⟨b, 0, none⟩ = some (.float .f32 p) := (fun o => (World.cell?_alloc_lt _ _ _ hbA).trans j0)
      have l1 : ∀ o, (W8.alloc o).cell? ⟨b, 1, none⟩ = some (.float .f32 q) := (fun o => (World.cell?_alloc_lt _ _ _ hbA).trans j1)
      have l2 : ∀ o, (W8.alloc o).cell? ⟨b, 2, none⟩ = some (.float .f32 r) := (fun o => (World.cell?_alloc_lt _ _ _ hbA).trans j2)
      replace hFx := FB.up hb8 hFx
      have bW8 := bW7.trans (hb8.mono bW7.size)
      clear hc8 hf8 hb8 hbl8 hbl9 bW7 j0 j1 j2 k0 k1 k2
      go_wp2_with (go_at_call 28; refine (eqColor_any _ _ _ _ _ _ _).mono ?_; rintro e W9 ⟨rfl, hb9⟩)
      (try simp only [hp, hq, hr, hp2, hq2, hr2])
      have bW9 : Below w.heap.size w W9 := (below_alloc bW8 _).trans (hb9.mono (below_alloc bW8 _).size)
      replace hFx := FB.up hb9 (FB.alloc hFx _)
      go_wp2_with (first
        | (go_at_call 18; refine (toF_any A xs cap _ (RS.up bW9 Hs.out) hl).mono ?_; rintro e WA ⟨gy, rfl, hgy, hFy, hbA⟩)
        | (go_at_call 20; refine (eqF_any _ _ _ _ _ _ _ (FB.rs (FB.up hbA hFx)) (FB.rs hFy) rfl hl).mono ?_; rintro e WB ⟨rfl, hbB⟩))
      go_ret
      exact ⟨rfl, (by repeat (with_reducible first | exact Below.refl _ _ | refine below_drewN ?_ _ | refine Below.drew ?_ | refine below_alloc ?_ _ | refine below_set0 ?_ _ _ | refine below_set1 ?_ _ _ | refine below_set2 ?_ _ _ | refine below_set3 ?_ _ _ | refine below_call (by assumption) ?_ | refine below_step (by assumption) (by assumption) ?_))⟩
    · rename_i hHeld
      have bW3 : Below w.heap.size w w3 := (by repeat (with_reducible first | exact Below.refl _ _ | refine below_drewN ?_ _ | refine Below.drew ?_ | refine below_alloc ?_ _ | refine below_set0 ?_ _ _ | refine below_set1 ?_ _ _ | refine below_set2 ?_ _ _ | refine below_set3 ?_ _ _ | refine below_call (by assumption) ?_ | refine below_step (by assumption) (by assumption) ?_))
      obtain ⟨W5, hW5⟩ : ∃ W5, W5 = ((w3.setCell ⟨w2.heap.size, 0, none⟩ (.float .f32 p)).setCell ⟨w2.heap.size, 1, none⟩ (.float .f32 q)).setCell ⟨w2.heap.size, 2, none⟩ (.float .f32 r) := ⟨_, rfl⟩
      rw [← hW5]
      rw [← hW5] at hHeld
      have j0 : W5.cell? ⟨w2.heap.size, 0, none⟩ = some (.float .f32 p) := by rw [hW5]; go_simp
      have j1 : W5.cell? ⟨w2.heap.size, 1, none⟩ = some (.float .f32 q) := by rw [hW5]; go_simp
      have j2 : W5.cell? ⟨w2.heap.size, 2, none⟩ = some (.float .f32 r) := by rw [hW5]; go_simp
      have BLE : w.heap.size ≤ w2.heap.size := by omega
      clear hd1 hd2 hc1 hf1 hc2 hf2 hc3 hf3 hn0 hm0 hn1 hn2 hn3 hm1 hm2 hm3 hz1 hz2 hz3 hy0 hy1 hy2 hy3 hb1 hb2 hb3 hg1 hF1 k0 k1 k2
      (try clear ha1); (try clear ha2); (try clear ha3); (try clear ha4); (try clear ha5); (try clear ha6)
      obtain ⟨b, BB⟩ : ∃ b, b = w2.heap.size := ⟨_, rfl⟩
      rw [← BB]
      (try rw [← BB] at hW5); rw [← BB] at j0 j1 j2 BLE
      have bW5 : Below w.heap.size w W5 := by rw [hW5]; exact ((bW3.setCell (p := ⟨b, 0, none⟩) BLE _).setCell (p := ⟨b, 1, none⟩) BLE _).setCell (p := ⟨b, 2, none⟩) BLE _
      have hbl : w.heap.size < W5.heap.size := WorldLt.of_cell hHeld.1
      have hbl2 : b < W5.heap.size := WorldLt.of_cell j0
      obtain ⟨k0, k1, k2⟩ := hHeld
      clear hW5 bW3 BLE BB
      go_wp2_with (go_at_call 18; refine (toF_any A xs cap _ (RS.up (by repeat (with_reducible first | exact Below.refl _ _ | refine below_drewN ?_ _ | refine Below.drew ?_ | refine below_alloc ?_ _ | refine below_set0 ?_ _ _ | refine below_set1 ?_ _ _ | refine below_set2 ?_ _ _ | refine below_set3 ?_ _ _ | refine below_call (by assumption) ?_ | refine below_step (by assumption) (by assumption) ?_)) Hs.out) hl).mono ?_; rintro e W6 ⟨gx, rfl, hgx, hFx, hb6⟩; obtain ⟨hc6, hf6⟩ := below_cells hb6)
      have hbl6 := Nat.lt_of_lt_of_le hbl hb6.size
      have hbl7 := Nat.lt_of_lt_of_le hbl2 hb6.size
      replace k0 := (hc6 _ _ hbl).trans k0
      replace k1 := (hc6 _ _ hbl).trans k1
      replace k2 := (hc6 _ _ hbl).trans k2
      replace j0 := (hc6 _ _ hbl2).trans j0
      replace j1 := (hc6 _ _ hbl2).trans j1
      replace j2 := (hc6 _ _ hbl2).trans j2
      have bW6 : Below w.heap.size w W6 := bW5.trans (hb6.mono bW5.size)
      clear hc6 hf6 hb6 hbl hbl2 bW5
      go_wp2_with (go_at_call 26; refine (toColor_any _ _ _ _).mono ?_; rintro e W7 ⟨rfl, hb7⟩; obtain ⟨hc7, hf7⟩ := below_cells hb7)
      have hbl8 := Nat.lt_of_lt_of_le hbl6 hb7.size
      have hbl9 := Nat.lt_of_lt_of_le hbl7 hb7.size
      replace k0 := (hc7 _ _ hbl6).trans k0
      replace k1 := (hc7 _ _ hbl6).trans k1
      replace k2 := (hc7 _ _ hbl6).trans k2
      replace j0 := (hc7 _ _ hbl7).trans j0
      replace j1 := (hc7 _ _ hbl7).trans j1
      replace j2 := (hc7 _ _ hbl7).trans j2
      replace hFx := FB.up hb7 hFx
      have bW7 : Below w.heap.size w W7 := bW6.trans (hb7.mono bW6.size)
      clear hc7 hf7 hb7 hbl6 hbl7 bW6
      refine (HI'.out _ _ hFx).mono ?_
      rintro e W8 ⟨p2, q2, r2, rfl, ⟨hp2, hq2, hr2⟩, ⟨wp2, wq2, wr2⟩, hb8⟩
      obtain ⟨hc8, hf8⟩ := below_cells hb8
      have hbA := Nat.lt_of_lt_of_le hbl9 hb8.size
      replace j0 := (hc8 _ _ hbl9).trans j0
      replace j1 := (hc8 _ _ hbl9).trans j1
      replace j2 := (hc8 _ _ hbl9).trans j2
      have l0 : ∀ o, (W8.alloc o).cell? ⟨b, 0, none⟩ = some (.float .f32 p) := (fun o => (World.cell?_alloc_lt _ _ _ hbA).trans j0)
      have l1 : ∀ o, (W8.alloc o).cell? ⟨b, 1, none⟩ = some (.float .f32 q) := (fun o => (World.cell?_alloc_lt _ _ _ hbA).trans j1)
      have l2 : ∀ o, (W8.alloc o).cell? ⟨b, 2, none⟩ = some (.float .f32 r) := (fun o => (World.cell?_alloc_lt _ _ _ hbA).trans j2)
      replace hFx := FB.up hb8 hFx
      have bW8 := bW7.trans (hb8.mono bW7.size)
      clear hc8 hf8 hb8 hbl8 hbl9 bW7 j0 j1 j2 k0 k1 k2
      go_wp2_with (go_at_call 28; refine (eqColor_any _ _ _ _ _ _ _).mono ?_; rintro e W9 ⟨rfl, hb9⟩)
      (try simp only [hp, hq, hr, hp2, hq2, hr2])
      have bW9 : Below w.heap.size w W9 := (below_alloc bW8 _).trans (hb9.mono (below_alloc bW8 _).size)
      replace hFx := FB.up hb9 (FB.alloc hFx _)
      go_wp2_with (first
        | (go_at_call 18; refine (toF_any A xs cap _ (RS.up bW9 Hs.out) hl).mono ?_; rintro e WA ⟨gy, rfl, hgy, hFy, hbA⟩)
        | (go_at_call 20; refine (eqF_any _ _ _ _ _ _ _ (FB.rs (FB.up hbA hFx)) (FB.rs hFy) rfl hl).mono ?_; rintro e WB ⟨rfl, hbB⟩))
      go_ret
      exact ⟨rfl, (by repeat (with_reducible first | exact Below.refl _ _ | refine below_drewN ?_ _ | refine Below.drew ?_ | refine below_alloc ?_ _ | refine below_set0 ?_ _ _ | refine below_set1 ?_ _ _ | refine below_set2 ?_ _ _ | refine below_set3 ?_ _ _ | refine below_call (by assumption) ?_ | refine below_step (by assumption) (by assumption) ?_))⟩
    · rename_i hHeld
      have bW3 : Below w.heap.size w w3 := (by repeat (with_reducible first | exact Below.refl _ _ | refine below_drewN ?_ _ | refine Below.drew ?_ | refine below_alloc ?_ _ | refine below_set0 ?_ _ _ | refine below_set1 ?_ _ _ | refine below_set2 ?_ _ _ | refine below_set3 ?_ _ _ | refine below_call (by assumption) ?_ | refine below_step (by assumption) (by assumption) ?_))
      obtain ⟨W5, hW5⟩ : ∃ W5, W5 = ((w3.setCell ⟨w1.heap.size, 0, none⟩ (.float .f32 p)).setCell ⟨w1.heap.size, 1, none⟩ (.float .f32 q)).setCell ⟨w1.heap.size, 2, none⟩ (.float .f32 r) := ⟨_, rfl⟩
      rw [← hW5]
      rw [← hW5] at hHeld
      have j0 : W5.cell? ⟨w1.heap.size, 0, none⟩ = some (.float .f32 p) := by rw [hW5]; go_simp
      have j1 : W5.cell? ⟨w1.heap.size, 1, none⟩ = some (.float .f32 q) := by rw [hW5]; go_simp
      have j2 : W5.cell? ⟨w1.heap.size, 2, none⟩ = some (.float .f32 r) := by rw [hW5]; go_simp
      have BLE : w.heap.size ≤ w1.heap.size := by omega
      clear hd1 hd2 hc1 hf1 hc2 hf2 hc3 hf3 hn0 hm0 hn1 hn2 hn3 hm1 hm2 hm3 hz1 hz2 hz3 hy0 hy1 hy2 hy3 hb1 hb2 hb3 hg1 hF1 k0 k1 k2
      (try clear ha1); (try clear ha2); (try clear ha3); (try clear ha4); (try clear ha5); (try clear ha6)
      obtain ⟨b, BB⟩ : ∃ b, b = w1.heap.size := ⟨_, rfl⟩
      rw [← BB]
      (try rw [← BB] at hW5); rw [← BB] at j0 j1 j2 BLE
      have bW5 : Below w.heap.size w W5 := by rw [hW5]; exact ((bW3.setCell (p := ⟨b, 0, none⟩) BLE _).setCell (p := ⟨b, 1, none⟩) BLE _).setCell (p := ⟨b, 2, none⟩) BLE _
      have hbl : w.heap.size < W5.heap.size := WorldLt.of_cell hHeld.1
      have hbl2 : b < W5.heap.size := WorldLt.of_cell j0
      obtain ⟨k0, k1, k2⟩ := hHeld
      clear hW5 bW3 BLE BB
      go_wp2_with (go_at_call 18; refine (toF_any A xs cap _ (RS.up (by repeat (with_reducible first | exact Below.refl _ _ | refine below_drewN ?_ _ | refine Below.drew ?_ | refine below_alloc ?_ _ | refine below_set0 ?_ _ _ | refine below_set1 ?_ _ _ | refine below_set2 ?_ _ _ | refine below_set3 ?_ _ _ | refine below_call (by assumption) ?_ | refine below_step (by assumption) (by assumption) ?_)) Hs.out) hl).mono ?_; rintro e W6 ⟨gx, rfl, hgx, hFx, hb6⟩; obtain ⟨hc6, hf6⟩ := below_cells hb6)
      have hbl6 := Nat.lt_of_lt_of_le hbl hb6.size
      have hbl7 := Nat.lt_of_lt_of_le hbl2 hb6.size
      replace k0 := (hc6 _ _ hbl).trans k0
      replace k1 := (hc6 _ _ hbl).trans k1
      replace k2 := (hc6 _ _ hbl).trans k2
      replace j0 := (hc6 _ _ hbl2).trans j0
      replace j1 := (hc6 _ _ hbl2).trans j1
      replace j2 := (hc6 _ _ hbl2).trans j2
      have bW6 : Below w.heap.size w W6 := bW5.trans (hb6.mono bW5.size)
      clear hc6 hf6 hb6 hbl hbl2 bW5
      go_wp2_with (go_at_call 26; refine (toColor_any _ _ _ _).mono ?_; rintro e W7 ⟨rfl, hb7⟩; obtain ⟨hc7, hf7⟩ := below_cells hb7)
      have hbl8 := Nat.lt_of_lt_of_le hbl6 hb7.size
      have hbl9 := Nat.lt_of_lt_of_le hbl7 hb7.size
      replace k0 := (hc7 _ _ hbl6).trans k0
      replace k1 := (hc7 _ _ hbl6).trans k1
      replace k2 := (hc7 _ _ hbl6).trans k2
      replace j0 := (hc7 _ _ hbl7).trans j0
      replace j1 := (hc7 _ _ hbl7).trans j1
      replace j2 := (hc7 _ _ hbl7).trans j2
      replace hFx := FB.up hb7 hFx
      have bW7 : Below w.heap.size w W7 := bW6.trans (hb7.mono bW6.size)
      clear hc7 hf7 hb7 hbl6 hbl7 bW6
      refine (HI'.out _ _ hFx).mono ?_
      rintro e W8 ⟨p2, q2, r2, rfl, ⟨hp2, hq2, hr2⟩, ⟨wp2, wq2, wr2⟩, hb8⟩
      obtain ⟨hc8, hf8⟩ := below_cells hb8
      have hbA := Nat.lt_of_lt_of_le hbl9 hb8.size
      replace j0 := (hc8 _ _ hbl9).trans j0
      replace j1 := (hc8 _ _ hbl9).trans j1
      replace j2 := (hc8 _ _ hbl9).trans j2
      have l0 : ∀ o, (W8.alloc o).cell? ⟨b, 0, none⟩ = some (.float .f32 p) := (fun o => (World.cell?_alloc_lt _ _ _ hbA).trans j0)
      have l1 : ∀ o, (W8.alloc o).cell? ⟨b, 1, none⟩ = some (.float .f32 q) := (fun o => (World.cell?_alloc_lt _ _ _ hbA).trans j1)
      have l2 : ∀ o, (W8.alloc o).cell? ⟨b, 2, none⟩ = some (.float .f32 r) := (fun o => (World.cell?_alloc_lt _ _ _ hbA).trans j2)
      replace hFx := FB.up hb8 hFx
      have bW8 := bW7.trans (hb8.mono bW7.size)
      clear hc8 hf8 hb8 hbl8 hbl9 bW7 j0 j1 j2 k0 k1 k2
      go_wp2_with (go_at_call 28; refine (eqColor_any _ _ _ _ _ _ _).mono ?_; rintro e W9 ⟨rfl, hb9⟩)
      (try simp only [hp, hq, hr, hp2, hq2, hr2])
      have bW9 : Below w.heap.size w W9 := (below_alloc bW8 _).trans (hb9.mono (below_alloc bW8 _).size)
      replace hFx := FB.up hb9 (FB.alloc hFx _)
      go_wp2_with (first
        | (go_at_call 18; refine (toF_any A xs cap _ (RS.up bW9 Hs.out) hl).mono ?_; rintro e WA ⟨gy, rfl, hgy, hFy, hbA⟩)
        | (go_at_call 20; refine (eqF_any _ _ _ _ _ _ _ (FB.rs (FB.up hbA hFx)) (FB.rs hFy) rfl hl).mono ?_; rintro e WB ⟨rfl, hbB⟩))
      go_ret
      exact ⟨rfl, (by repeat (with_reducible first | exact Below.refl _ _ | refine below_drewN ?_ _ | refine Below.drew ?_ | refine below_alloc ?_ _ | refine below_set0 ?_ _ _ | refine below_set1 ?_ _ _ | refine below_set2 ?_ _ _ | refine below_set3 ?_ _ _ | refine below_call (by assumption) ?_ | refine below_step (by assumption) (by assumption) ?_))⟩
    · rename_i hHeld
      have bW3 : Below w.heap.size w w3 := (by repeat (with_reducible first | exact Below.refl _ _ | refine below_drewN ?_ _ | refine Below.drew ?_ | refine below_alloc ?_ _ | refine below_set0 ?_ _ _ | refine below_set1 ?_ _ _ | refine below_set2 ?_ _ _ | refine below_set3 ?_ _ _ | refine below_call (by assumption) ?_ | refine below_step (by assumption) (by assumption) ?_))
      obtain ⟨W5, hW5⟩ : ∃ W5, W5 = ((w3.setCell ⟨W.heap.size, 0, none⟩ (.float .f32 p)).setCell ⟨W.heap.size, 1, none⟩ (.float .f32 q)).setCell ⟨W.heap.size, 2, none⟩ (.float .f32 r) := ⟨_, rfl⟩
      rw [← hW5]
      rw [← hW5] at hHeld
      have j0 : W5.cell? ⟨W.heap.size, 0, none⟩ = some (.float .f32 p) := by rw [hW5]; go_simp
      have j1 : W5.cell? ⟨W.heap.size, 1, none⟩ = some (.float .f32 q) := by rw [hW5]; go_simp
      have j2 : W5.cell? ⟨W.heap.size, 2, none⟩ = some (.float .f32 r) := by rw [hW5]; go_simp
      have BLE : w.heap.size ≤ W.heap.size := by omega
      clear hd1 hd2 hc1 hf1 hc2 hf2 hc3 hf3 hn0 hm0 hn1 hn2 hn3 hm1 hm2 hm3 hz1 hz2 hz3 hy0 hy1 hy2 hy3 hb1 hb2 hb3 hg1 hF1 k0 k1 k2
      (try clear ha1); (try clear ha2); (try clear ha3); (try clear ha4); (try clear ha5); (try clear ha6)
      obtain ⟨b, BB⟩ : ∃ b, b = W.heap.size := ⟨_, rfl⟩
      rw [← BB]
      (try rw [← BB] at hW5); rw [← BB] at j0 j1 j2 BLE
      have bW5 : Below w.heap.size w W5 := by rw [hW5]; exact ((bW3.setCell (p := ⟨b, 0, none⟩) BLE _).setCell (p := ⟨b, 1, none⟩) BLE _).setCell (p := ⟨b, 2, none⟩) BLE _
      have hbl : w.heap.size < W5.heap.size := WorldLt.of_cell hHeld.1
      have hbl2 : b < W5.heap.size := WorldLt.of_cell j0
      obtain ⟨k0, k1, k2⟩ := hHeld
      clear hW5 bW3 BLE BB
      go_wp2_with (go_at_call 18; refine (toF_any A xs cap _ (RS.up (by repeat (with_reducible first | exact Below.refl _ _ | refine below_drewN ?_ _ | refine Below.drew ?_ | refine below_alloc ?_ _ | refine below_set0 ?_ _ _ | refine below_set1 ?_ _ _ | refine below_set2 ?_ _ _ | refine below_set3 ?_ _ _ | refine below_call (by assumption) ?_ | refine below_step (by assumption) (by assumption) ?_)) Hs.out) hl).mono ?_; rintro e W6 ⟨gx, rfl, hgx, hFx, hb6⟩; obtain ⟨hc6, hf6⟩ := below_cells hb6)
      have hbl6 := Nat.lt_of_lt_of_le hbl hb6.size
      have hbl7 := Nat.lt_of_lt_of_le hbl2 hb6.size
      replace k0 := (hc6 _ _ hbl).trans k0
      replace k1 := (hc6 _ _ hbl).trans k1
      replace k2 := (hc6 _ _ hbl).trans k2
      replace j0 := (hc6 _ _ hbl2).trans j0
      replace j1 := (hc6 _ _ hbl2).trans j1
      replace j2 := (hc6 _ _ hbl2).trans j2
      have bW6 : Below w.heap.size w W6 := bW5.trans (hb6.mono bW5.size)
      clear hc6 hf6 hb6 hbl hbl2 bW5
      go_wp2_with (go_at_call 26; refine (toColor_any _ _ _ _).mono ?_; rintro e W7 ⟨rfl, hb7⟩; obtain ⟨hc7, hf7⟩ := below_cells hb7)
      have hbl8 := Nat.lt_of_lt_of_le hbl6 hb7.size
      have hbl9 := Nat.lt_of_lt_of_le hbl7 hb7.size
      replace k0 := (hc7 _ _ hbl6).trans k0
      replace k1 := (hc7 _ _ hbl6).trans k1
      replace k2 := (hc7 _ _ hbl6).trans k2
      replace j0 := (hc7 _ _ hbl7).trans j0
      replace j1 := (hc7 _ _ hbl7).trans j1
      replace j2 := (hc7 _ _ hbl7).trans j2
      replace hFx := FB.up hb7 hFx
      have bW7 : Below w.heap.size w W7 := bW6.trans (hb7.mono bW6.size)
      clear hc7 hf7 hb7 hbl6 hbl7 bW6
      refine (HI'.out _ _ hFx).mono ?_
      rintro e W8 ⟨p2, q2, r2, rfl, ⟨hp2, hq2, hr2⟩, ⟨wp2, wq2, wr2⟩, hb8⟩
      obtain ⟨hc8, hf8⟩ := below_cells hb8
      have hbA := Nat.lt_of_lt_of_le hbl9 hb8.size
      replace j0 := (hc8 _ _ hbl9).trans j0
      replace j1 := (hc8 _ _ hbl9).trans j1
      replace j2 := (hc8 _ _ hbl9).trans j2
      have l0 : ∀ o, (W8.alloc o).cell? ⟨b, 0, none⟩ = some (.float .f32 p) := (fun o => (World.cell?_alloc_lt _ _ _ hbA).trans j0)
      have l1 : ∀ o, (W8.alloc o).cell? ⟨b, 1, none⟩ = some (.float .f32 q) := (fun o => (World.cell?_alloc_lt _ _ _ hbA).trans j1)
      have l2 : ∀ o, (W8.alloc o).cell? ⟨b, 2, none⟩ = some (.float .f32 r) := (fun o => (World.cell?_alloc_lt _ _ _ hbA).trans j2)
      replace hFx := FB.up hb8 hFx
      have bW8 := bW7.trans (hb8.mono bW7.size)
      clear hc8 hf8 hb8 hbl8 hbl9 bW7 j0 j1 j2 k0 k1 k2
      go_wp2_with (go_at_call 28; refine (eqColor_any _ _ _ _ _ _ _).mono ?_; rintro e W9 ⟨rfl, hb9⟩)
      (try simp only [hp, hq, hr, hp2, hq2, hr2])
      have bW9 : Below w.heap.size w W9 := (below_alloc bW8 _).trans (hb9.mono (below_alloc bW8 _).size)
      replace hFx := FB.up hb9 (FB.alloc hFx _)
      go_wp2_with (first
        | (go_at_call 18; refine (toF_any A xs cap _ (RS.up bW9 Hs.out) hl).mono ?_; rintro e WA ⟨gy, rfl, hgy, hFy, hbA⟩)
        | (go_at_call 20; refine (eqF_any _ _ _ _ _ _ _ (FB.rs (FB.up hbA hFx)) (FB.rs hFy) rfl hl).mono ?_; rintro e WB ⟨rfl, hbB⟩))
      go_ret
      exact ⟨rfl, (by repeat (with_reducible first | exact Below.refl _ _ | refine below_drewN ?_ _ | refine Below.drew ?_ | refine below_alloc ?_ _ | refine below_set0 ?_ _ _ | refine below_set1 ?_ _ _ | refine below_set2 ?_ _ _ | refine below_set3 ?_ _ _ | refine below_call (by assumption) ?_ | refine below_step (by assumption) (by assumption) ?_))⟩
  · go_enter Try.func6, Try.ntmps6
    go_wp2_with (first | (refine upon_op rfl ?_; intro r n hr hw; go_simp) | (refine upon_widen Try.underlying22 Try.underlying30 ?_; intro r n hr hw; go_simp))
    go_ret
    exact ⟨rfl, (by repeat (with_reducible first | exact Below.refl _ _ | refine below_drewN ?_ _ | refine Below.drew ?_ | refine below_alloc ?_ _ | refine below_set0 ?_ _ _ | refine below_set1 ?_ _ _ | refine below_set2 ?_ _ _ | refine below_set3 ?_ _ _ | refine below_call (by assumption) ?_ | refine below_step (by assumption) (by assumption) ?_))⟩
end Go.Proofs.Ytokpnjliikhecaa
