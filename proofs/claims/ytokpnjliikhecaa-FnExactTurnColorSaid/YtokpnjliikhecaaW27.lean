/- A COLOUR, TURNED: both. -/
import Derived.Test.YtokpnjliikhecaaW26
import Derived.Test.YtokpnjliikhecaaPure7
set_option linter.unusedSimpArgs false
set_option linter.unusedVariables false
set_option linter.unnecessarySimpa false
set_option maxRecDepth 20000
namespace Go.Proofs.Ytokpnjliikhecaa
open Go.RowKit Go.Fl

set_option maxHeartbeats 2000000 in
theorem turnSp_any (g : Nat) (x y z : Nat) (xs : List Nat) (w : World) (hc : FB w g xs) (hx : WfAll xs) (hl : xs.length ≤ 1048576) (wx : Wf .f32 x) (wy : Wf .f32 y) (wz : Wf .f32 z) :
    Calls Try.prog 25 #[.slice (some ⟨g, 0, none⟩) xs.length xs.length, .agg #[.float .f32 x, .float .f32 y, .float .f32 z]] w (GivesW w (turnR xs (can .f32 x) (can .f32 y) (can .f32 z) 0) (turnR xs (can .f32 x) (can .f32 y) (can .f32 z) 3) (turnR xs (can .f32 x) (can .f32 y) (can .f32 z) 6) (turnOk xs (can .f32 x) (can .f32 y) (can .f32 z))) := by
  have HC := Lib.hid hc
  unfold turnR turnOk
  cases h1 : isMat xs
  · clear hc hx
    go_enter Try.func25, Try.ntmps25
    go_wp2_with (go_at_call 58; refine (l05Matrix_any g 0 _ xs _ (FB.fs (FB.up (by repeat (with_reducible first | exact Below.refl _ _ | refine below_drewN ?_ _ | refine Below.drew ?_ | refine below_alloc ?_ _ | refine below_set0 ?_ _ _ | refine below_set1 ?_ _ _ | refine below_set2 ?_ _ _ | refine below_set3 ?_ _ _ | refine below_call (by assumption) ?_ | refine below_step (by assumption) (by assumption) ?_)) HC.out)) hl).mono ?_; rintro e w' ⟨n, rfl, rfl⟩)
    refine bodyPost_ret (by simp [results, Try.results25, go_sem, *] <;> rfl) rfl ?_
    exact ⟨0, 0, 0, rfl, ⟨by simp [orZ, can_zero], by simp [orZ, can_zero], by simp [orZ, can_zero]⟩, wf_zero3, (by repeat (with_reducible first | exact Below.refl _ _ | refine below_drewN ?_ _ | refine Below.drew ?_ | refine below_alloc ?_ _ | refine below_set0 ?_ _ _ | refine below_set1 ?_ _ _ | refine below_set2 ?_ _ _ | refine below_set3 ?_ _ _ | refine below_call (by assumption) ?_ | refine below_step (by assumption) (by assumption) ?_))⟩
  · cases h2 : fin3 (can .f32 x) (can .f32 y) (can .f32 z)
    · clear hc hx
      go_enter Try.func25, Try.ntmps25
      go_wp2_with (first | (go_at_call 58; refine (l05Matrix_any g 0 _ xs _ (FB.fs (FB.up (by repeat (with_reducible first | exact Below.refl _ _ | refine below_drewN ?_ _ | refine Below.drew ?_ | refine below_alloc ?_ _ | refine below_set0 ?_ _ _ | refine below_set1 ?_ _ _ | refine below_set2 ?_ _ _ | refine below_set3 ?_ _ _ | refine below_call (by assumption) ?_ | refine below_step (by assumption) (by assumption) ?_)) HC.out)) hl).mono ?_; rintro e w' ⟨n, rfl, rfl⟩) | (go_at_call 62; refine (l05Color_any _ x y z _ ?_ ?_ ?_).mono ?_; (· go_simp); (· go_simp); (· go_simp); rintro e w' ⟨n, rfl, rfl⟩))
      refine bodyPost_ret (by simp [results, Try.results25, go_sem, *] <;> rfl) rfl ?_
      exact ⟨0, 0, 0, rfl, ⟨by simp [orZ, can_zero], by simp [orZ, can_zero], by simp [orZ, can_zero]⟩, wf_zero3, (by repeat (with_reducible first | exact Below.refl _ _ | refine below_drewN ?_ _ | refine Below.drew ?_ | refine below_alloc ?_ _ | refine below_set0 ?_ _ _ | refine below_set1 ?_ _ _ | refine below_set2 ?_ _ _ | refine below_set3 ?_ _ _ | refine below_call (by assumption) ?_ | refine below_step (by assumption) (by assumption) ?_))⟩
    · simp only [Bool.true_and]
      have h9 := isMat_nine h1
      have HV := Lib.hid (fun w (h : FB w g xs) => turnS_any g x y z xs w h h9)
      clear hc hx h9
      generalize tRow xs (can .f32 x) (can .f32 y) (can .f32 z) 0 = P at *
      generalize tRow xs (can .f32 x) (can .f32 y) (can .f32 z) 3 = Q at *
      generalize tRow xs (can .f32 x) (can .f32 y) (can .f32 z) 6 = R at *
      cases h3 : fin3 P Q R
      all_goals
        go_enter Try.func25, Try.ntmps25
        go_wp2_with (first | (go_at_call 58; refine (l05Matrix_any g 0 _ xs _ (FB.fs (FB.up (by repeat (with_reducible first | exact Below.refl _ _ | refine below_drewN ?_ _ | refine Below.drew ?_ | refine below_alloc ?_ _ | refine below_set0 ?_ _ _ | refine below_set1 ?_ _ _ | refine below_set2 ?_ _ _ | refine below_set3 ?_ _ _ | refine below_call (by assumption) ?_ | refine below_step (by assumption) (by assumption) ?_)) HC.out)) hl).mono ?_; rintro e w' ⟨n, rfl, rfl⟩) | (go_at_call 62; refine (l05Color_any _ x y z _ ?_ ?_ ?_).mono ?_; (· go_simp); (· go_simp); (· go_simp); rintro e w' ⟨n, rfl, rfl⟩))
        refine (HV.out _ (FB.up (by repeat (with_reducible first | exact Below.refl _ _ | refine below_drewN ?_ _ | refine Below.drew ?_ | refine below_alloc ?_ _ | refine below_set0 ?_ _ _ | refine below_set1 ?_ _ _ | refine below_set2 ?_ _ _ | refine below_set3 ?_ _ _ | refine below_call (by assumption) ?_ | refine below_step (by assumption) (by assumption) ?_)) HC.out)).mono ?_
        rintro e w' ⟨p, q, r, rfl, ⟨hp, hq, hr⟩, ⟨wp, wq, wr⟩, hb⟩
        replace hb := below_undrew hb
        obtain ⟨hc, hf⟩ := below_cells hb; have hz := hb.size; (try simp at hz); (try have hz3 := Nat.lt_of_succ_le hz); (try have hz0 : w.heap.size < w'.heap.size := by omega); (try have hz1 : w.heap.size + 1 < w'.heap.size := by omega); (try have hz2 : w.heap.size + 1 + 1 < w'.heap.size := by omega)
        go_wp2_with (go_at_call 62; refine (l05Color_any _ p q r _ ?_ ?_ ?_).mono ?_; (· go_simp); (· go_simp); (· go_simp); rintro e w2 ⟨n, rfl, rfl⟩)
        refine bodyPost_ret (by simp [results, Try.results25, go_sem, *] <;> rfl) rfl ?_
        refine ⟨_, _, _, rfl, ?_⟩
        exact ⟨⟨by simp [orZ, can_zero, hp], by simp [orZ, can_zero, hq], by simp [orZ, can_zero, hr]⟩, by first | exact wf_zero3 | exact ⟨wp, wq, wr⟩, (by repeat (with_reducible first | exact Below.refl _ _ | refine below_drewN ?_ _ | refine Below.drew ?_ | refine below_alloc ?_ _ | refine below_set0 ?_ _ _ | refine below_set1 ?_ _ _ | refine below_set2 ?_ _ _ | refine below_set3 ?_ _ _ | refine below_call (by assumption) ?_ | refine below_step (by assumption) (by assumption) ?_))⟩
set_option maxHeartbeats 2000000 in
theorem turnI_any (g : Nat) (x y z : Nat) (xs : List Nat) (w : World) (hc : FB w g xs) (hx : WfAll xs) (hl : xs.length ≤ 1048576) (wx : Wf .f32 x) (wy : Wf .f32 y) (wz : Wf .f32 z) :
    Calls Try.prog 27 #[.slice (some ⟨g, 0, none⟩) xs.length xs.length, .agg #[.float .f32 x, .float .f32 y, .float .f32 z]] w (GivesW w (turnR xs (can .f32 x) (can .f32 y) (can .f32 z) 0) (turnR xs (can .f32 x) (can .f32 y) (can .f32 z) 3) (turnR xs (can .f32 x) (can .f32 y) (can .f32 z) 6) (turnOk xs (can .f32 x) (can .f32 y) (can .f32 z))) := by
  have HC := Lib.hid hc
  have HX := Lib.hid hx
  unfold turnR turnOk
  cases h1 : isMat xs
  · clear hc hx
    go_enter Try.func27, Try.ntmps27
    go_wp2_with (go_at_call 60; refine (isMatrix_any g 0 _ xs _ (FB.fs (FB.up (by repeat (with_reducible first | exact Below.refl _ _ | refine below_drewN ?_ _ | refine Below.drew ?_ | refine below_alloc ?_ _ | refine below_set0 ?_ _ _ | refine below_set1 ?_ _ _ | refine below_set2 ?_ _ _ | refine below_set3 ?_ _ _ | refine below_call (by assumption) ?_ | refine below_step (by assumption) (by assumption) ?_)) HC.out)) HX.out hl).mono ?_; rintro e w' ⟨n, rfl, rfl⟩)
    refine bodyPost_ret (by simp [results, Try.results27, go_sem, *] <;> rfl) rfl ?_
    exact ⟨0, 0, 0, rfl, ⟨by simp [orZ, can_zero], by simp [orZ, can_zero], by simp [orZ, can_zero]⟩, wf_zero3, (by repeat (with_reducible first | exact Below.refl _ _ | refine below_drewN ?_ _ | refine Below.drew ?_ | refine below_alloc ?_ _ | refine below_set0 ?_ _ _ | refine below_set1 ?_ _ _ | refine below_set2 ?_ _ _ | refine below_set3 ?_ _ _ | refine below_call (by assumption) ?_ | refine below_step (by assumption) (by assumption) ?_))⟩
  · cases h2 : fin3 (can .f32 x) (can .f32 y) (can .f32 z)
    · clear hc hx
      go_enter Try.func27, Try.ntmps27
      go_wp2_with (first | (go_at_call 60; refine (isMatrix_any g 0 _ xs _ (FB.fs (FB.up (by repeat (with_reducible first | exact Below.refl _ _ | refine below_drewN ?_ _ | refine Below.drew ?_ | refine below_alloc ?_ _ | refine below_set0 ?_ _ _ | refine below_set1 ?_ _ _ | refine below_set2 ?_ _ _ | refine below_set3 ?_ _ _ | refine below_call (by assumption) ?_ | refine below_step (by assumption) (by assumption) ?_)) HC.out)) HX.out hl).mono ?_; rintro e w' ⟨n, rfl, rfl⟩) | (go_at_call 64; refine (isColor_any _ _ _ _ (by assumption) (by assumption) (by assumption)).mono ?_; rintro e w' ⟨rfl, hb⟩; replace hb := below_undrew hb; obtain ⟨hc, hf⟩ := below_cells hb; have hz := hb.size; (try simp at hz); (try have hz3 := Nat.lt_of_succ_le hz); (try have hz0 : w.heap.size < w'.heap.size := by omega); (try have hz1 : w.heap.size + 1 < w'.heap.size := by omega); (try have hz2 : w.heap.size + 1 + 1 < w'.heap.size := by omega)))
      refine bodyPost_ret (by simp [results, Try.results27, go_sem, *] <;> rfl) rfl ?_
      exact ⟨0, 0, 0, rfl, ⟨by simp [orZ, can_zero], by simp [orZ, can_zero], by simp [orZ, can_zero]⟩, wf_zero3, (by repeat (with_reducible first | exact Below.refl _ _ | refine below_drewN ?_ _ | refine Below.drew ?_ | refine below_alloc ?_ _ | refine below_set0 ?_ _ _ | refine below_set1 ?_ _ _ | refine below_set2 ?_ _ _ | refine below_set3 ?_ _ _ | refine below_call (by assumption) ?_ | refine below_step (by assumption) (by assumption) ?_))⟩
    · simp only [Bool.true_and]
      have h9 := isMat_nine h1
      have HV := Lib.hid (fun i bm bc w hm h c0 c1 c2 hi => turnRow_any i bm bc g x y z xs w hm h c0 c1 c2 h9 hi)
      clear hc hx h9
      generalize hP : tRow xs (can .f32 x) (can .f32 y) (can .f32 z) 0 = P at *
      generalize hQ : tRow xs (can .f32 x) (can .f32 y) (can .f32 z) 3 = Q at *
      generalize hR : tRow xs (can .f32 x) (can .f32 y) (can .f32 z) 6 = R at *
      have HP := Lib.hid hP
      have HQ := Lib.hid hQ
      have HR := Lib.hid hR
      clear hP hQ hR
      cases h3 : fin3 P Q R
      all_goals
        go_enter Try.func27, Try.ntmps27
        go_wp2_with (first | (go_at_call 60; refine (isMatrix_any g 0 _ xs _ (FB.fs (FB.up (by repeat (with_reducible first | exact Below.refl _ _ | refine below_drewN ?_ _ | refine Below.drew ?_ | refine below_alloc ?_ _ | refine below_set0 ?_ _ _ | refine below_set1 ?_ _ _ | refine below_set2 ?_ _ _ | refine below_set3 ?_ _ _ | refine below_call (by assumption) ?_ | refine below_step (by assumption) (by assumption) ?_)) HC.out)) HX.out hl).mono ?_; rintro e w' ⟨n, rfl, rfl⟩) | (go_at_call 64; refine (isColor_any _ _ _ _ (by assumption) (by assumption) (by assumption)).mono ?_; rintro e w' ⟨rfl, hb⟩; replace hb := below_undrew hb; obtain ⟨hc, hf⟩ := below_cells hb; have hz := hb.size; (try simp at hz); (try have hz3 := Nat.lt_of_succ_le hz); (try have hz0 : w.heap.size < w'.heap.size := by omega); (try have hz1 : w.heap.size + 1 < w'.heap.size := by omega); (try have hz2 : w.heap.size + 1 + 1 < w'.heap.size := by omega)))
        obtain ⟨G, hG⟩ : ∃ G : World → Prop, G = fun W => Below w.heap.size w W ∧ w.heap.size + 1 + 1 < W.heap.size ∧ W.cell? ⟨w.heap.size, 0, none⟩ = some (.slice (some ⟨g, 0, none⟩) xs.length xs.length) ∧ (W.cell? ⟨w.heap.size + 1, 0, none⟩ = some (.float .f32 x) ∧ W.cell? ⟨w.heap.size + 1, 1, none⟩ = some (.float .f32 y) ∧ W.cell? ⟨w.heap.size + 1, 2, none⟩ = some (.float .f32 z)) ∧ (W.cell? ⟨w.heap.size + 1 + 1, 0, none⟩ = some (.float .f32 0) ∧ W.cell? ⟨w.heap.size + 1 + 1, 1, none⟩ = some (.float .f32 0) ∧ W.cell? ⟨w.heap.size + 1 + 1, 2, none⟩ = some (.float .f32 0)) ∧ (W.frozen? ⟨w.heap.size + 1 + 1, 0, none⟩ = false ∧ W.frozen? ⟨w.heap.size + 1 + 1, 1, none⟩ = false ∧ W.frozen? ⟨w.heap.size + 1 + 1, 2, none⟩ = false) := ⟨_, rfl⟩
        have hS : ∀ W W', G W → Below W.heap.size W W' → G W' := by
          rw [hG]
          rintro W W' ⟨a1, a2, a3, ⟨a4, a5, a6⟩, ⟨a7, a8, a9⟩, ⟨b1, b2, b3⟩⟩ hbb
          have q := below_cells hbb
          exact ⟨a1.trans (hbb.mono a1.size), by have := hbb.size; omega, (q.1 _ _ (by omega)).trans a3, ⟨(q.1 _ _ (by omega)).trans a4, (q.1 _ _ (by omega)).trans a5, (q.1 _ _ (by omega)).trans a6⟩, ⟨(q.1 _ _ (by omega)).trans a7, (q.1 _ _ (by omega)).trans a8, (q.1 _ _ (by omega)).trans a9⟩, ⟨(q.2 _ _ (by omega)).trans b1, (q.2 _ _ (by omega)).trans b2, (q.2 _ _ (by omega)).trans b3⟩⟩
        have hT : ∀ (i : Nat) W, G W → (i = 0 ∨ i = 3 ∨ i = 6) → Calls Try.prog 65 #[.int .i64 i, .pointer (some ⟨w.heap.size, 0, none⟩), .pointer (some ⟨w.heap.size + 1, 0, none⟩)] W (fun e w' => ∃ r, e = .returned (.float .f32 r) ∧ can .f32 r = tRow xs (can .f32 x) (can .f32 y) (can .f32 z) i ∧ Wf .f32 r ∧ G w') := by
          intro i W hg hi
          have hg' := hg
          rw [hG] at hg'
          obtain ⟨a1, a2, a3, ⟨a4, a5, a6⟩, _, _⟩ := hg'
          exact (HV.out i _ _ W a3 (FB.up a1 HC.out) a4 a5 a6 hi).mono fun e w' ⟨r, h1, h2, h3, h4⟩ => ⟨r, h1, h2, h3, hS _ _ hg h4⟩
        have g0 : G w' := by
          rw [hG]
          refine ⟨(by repeat (with_reducible first | exact Below.refl _ _ | refine below_drewN ?_ _ | refine Below.drew ?_ | refine below_alloc ?_ _ | refine below_set0 ?_ _ _ | refine below_set1 ?_ _ _ | refine below_set2 ?_ _ _ | refine below_set3 ?_ _ _ | refine below_call (by assumption) ?_ | refine below_step (by assumption) (by assumption) ?_)), by have := hb.size; simp at this; omega, ?_, ⟨?_, ?_, ?_⟩, ⟨?_, ?_, ?_⟩, ⟨?_, ?_, ?_⟩⟩
          all_goals (first | (rw [hc _ _ (by simp <;> omega)]; go_simp; done) | (rw [hf _ _ (by simp <;> omega)]; go_simp; done))
        have HS := Lib.hid hS
        have HT := Lib.hid hT
        have HG := Lib.hid hG
        clear hS hT hG hb hc hf
        go_wp2_with fail
        refine (HT.out 0 _ g0 (.inl rfl)).mono ?_
        rintro e W1 ⟨p, rfl, hp, wp, g1⟩
        go_wp2_with fail
        refine (HT.out 3 _ g1 (.inr (.inl rfl))).mono ?_
        rintro e W2 ⟨q, rfl, hq, wq, g2⟩
        go_wp2_with fail
        refine (HT.out 6 _ g2 (.inr (.inr rfl))).mono ?_
        rintro e W3 ⟨r, rfl, hr, wr, g3⟩
        replace hp := hp.trans HP.out
        replace hq := hq.trans HQ.out
        replace hr := hr.trans HR.out
        rw [HG.out] at g3
        obtain ⟨a1, a2, -, -, ⟨a7, a8, a9⟩, ⟨b1, b2, b3⟩⟩ := g3
        clear g0 g1 g2
        have a2' : w.heap.size + 1 + 1 < W3.heap.size + 1 := by omega
        go_wp2_with (go_at_call 64; refine (isColor_any _ _ _ _ (by assumption) (by assumption) (by assumption)).mono ?_; rintro e w' ⟨rfl, hb⟩; obtain ⟨hc, hf⟩ := below_cells hb; have hz := hb.size; (try simp at hz); (try have hz3 := Nat.lt_of_succ_le hz); (try have hz0 : w.heap.size < w'.heap.size := by omega); (try have hz1 : w.heap.size + 1 < w'.heap.size := by omega); (try have hz2 : w.heap.size + 1 + 1 < w'.heap.size := by omega))
        refine bodyPost_ret (by simp [results, Try.results27, go_sem, *] <;> rfl) rfl ?_
        refine ⟨_, _, _, rfl, ?_⟩
        exact ⟨⟨by simp [orZ, can_zero, hp], by simp [orZ, can_zero, hq], by simp [orZ, can_zero, hr]⟩, by first | exact wf_zero3 | exact ⟨wp, wq, wr⟩, (by repeat (with_reducible first | exact Below.refl _ _ | refine below_drewN ?_ _ | refine Below.drew ?_ | refine below_alloc ?_ _ | refine below_set0 ?_ _ _ | refine below_set1 ?_ _ _ | refine below_set2 ?_ _ _ | refine below_set3 ?_ _ _ | refine below_call (by assumption) ?_ | refine below_step (by assumption) (by assumption) ?_))⟩
end Go.Proofs.Ytokpnjliikhecaa
