/- BANDS, TURNED: the law. -/
import Derived.Test.YtommbbheanhkjaaW37
import Derived.Test.YtommbbheanhkjaaW14
set_option linter.unusedSimpArgs false
set_option linter.unusedVariables false
set_option linter.unnecessarySimpa false
set_option maxRecDepth 20000
namespace Go.Proofs.Ytommbbheanhkjaa
open Go.RowKit Go.Fl

set_option maxHeartbeats 4000000 in
theorem law_TurnBands (A : Option Addr) (xs : List Nat) (cap t : Nat) (w : World) (hs : RS w A xs) (wX : WfAll xs) (hm : xs.length ≤ maxLen) (wt : Wf .f32 t) : Calls Try.prog 5 #[.slice A xs.length cap, .float .f32 t] w (GivesB w true) := by
  have Hs := Lib.hid hs
  clear hs
  by_cases hl : xs.length ≤ 1048576
  · have HS := fun g w (h : FB w g xs) => turnBS_any g xs t w h wX hl wt
    have HI := fun g w (h : FB w g xs) => turnBI_any g xs t w h wX hl wt
    have hFl : (tbR xs (can .f32 t)).length ≤ 1048576 := tbR_length xs (can .f32 t)
    generalize tbR xs (can .f32 t) = F at *
    generalize tbOk xs (can .f32 t) = B at *
    have HS' := Lib.hid HS
    have HI' := Lib.hid HI
    clear HS HI
    go_enter Try.func5, Try.ntmps5
    go_wp2_with fail
    go_at_call 21
    refine (toF_any A xs cap _ (RS.up (by repeat (with_reducible first | exact Below.refl _ _ | refine below_drewN ?_ _ | refine Below.drew ?_ | refine below_alloc ?_ _ | refine below_set0 ?_ _ _ | refine below_set1 ?_ _ _ | refine below_set2 ?_ _ _ | refine below_set3 ?_ _ _ | refine below_call (by assumption) ?_ | refine below_step (by assumption) (by assumption) ?_)) Hs.out) hl).mono ?_
    rintro e w1 ⟨g1, rfl, hg1, hF1, hb1⟩
    go_wp2_with fail
    go_at_call 20
    refine (HS'.out _ _ (by repeat (first | assumption | with_reducible refine FB.drewN ?_ _ | with_reducible refine FB.drew ?_ | with_reducible refine FB.alloc ?_ _ | with_reducible refine FB.up (by assumption) ?_))).mono ?_
    rintro e w2 ⟨A0, zs0, c0, rfl, hO0, hfr0, hz0, hw0, hb2⟩
    go_wp2_with fail
    go_at_call 21
    refine (toF_any A xs cap _ (RS.up (by repeat (with_reducible first | exact Below.refl _ _ | refine below_drewN ?_ _ | refine Below.drew ?_ | refine below_alloc ?_ _ | refine below_set0 ?_ _ _ | refine below_set1 ?_ _ _ | refine below_set2 ?_ _ _ | refine below_set3 ?_ _ _ | refine below_call (by assumption) ?_ | refine below_step (by assumption) (by assumption) ?_)) Hs.out) hl).mono ?_
    rintro e w3 ⟨gx, rfl, hgx, hFx, hb3⟩
    have hOx := hFx.own
    have hdx := (Own.apart hO0 (fresh_some hgx)).1
    have hbx : Below w.heap.size w w2 := (by repeat (with_reducible first | exact Below.refl _ _ | refine below_drewN ?_ _ | refine Below.drew ?_ | refine below_alloc ?_ _ | refine below_set0 ?_ _ _ | refine below_set1 ?_ _ _ | refine below_set2 ?_ _ _ | refine below_set3 ?_ _ _ | refine below_call (by assumption) ?_ | refine below_step (by assumption) (by assumption) ?_))
    have hfx := fresh_up hbx (fresh_some hgx)
    clear hbx
    go_wp2_with fail
    go_at_call 22
    refine (HI'.out _ _ (by repeat (first | assumption | with_reducible refine FB.drewN ?_ _ | with_reducible refine FB.drew ?_ | with_reducible refine FB.alloc ?_ _ | with_reducible refine FB.up (by assumption) ?_))).mono ?_
    rintro e w4 ⟨A1, zs1, c1, rfl, hO1, hfr1, hz1, hw1, hb4⟩
    have hd1 := (Own.apart hOx hfr1).2
    have hd2 := (Own.apart (Own.up hb3 hO0) hfr1).1
    have hbx1 : Below w.heap.size w w3 := (by repeat (with_reducible first | exact Below.refl _ _ | refine below_drewN ?_ _ | refine Below.drew ?_ | refine below_alloc ?_ _ | refine below_set0 ?_ _ _ | refine below_set1 ?_ _ _ | refine below_set2 ?_ _ _ | refine below_set3 ?_ _ _ | refine below_call (by assumption) ?_ | refine below_step (by assumption) (by assumption) ?_))
    have hf1 := fresh_up hbx1 hfr1
    clear hbx1
    have hl0 := len_of_map hz0 hFl
    have hl1 := len_of_map hz1 hFl
    have he01 : zs1.map (can .f32) = zs0.map (can .f32) := hz1.trans hz0.symm
    go_wp2_with fail
    go_at_call 23
    refine (eqF_any _ _ _ _ _ _ _ (Own.rs (by repeat (first | assumption | with_reducible refine Own.drewN ?_ _ | with_reducible refine Own.alloc ?_ _ | with_reducible refine Own.up (by assumption) ?_ | with_reducible refine Own.grown (by assumption) (by assumption) ?_))) (Own.rs (by repeat (first | assumption | with_reducible refine Own.drewN ?_ _ | with_reducible refine Own.alloc ?_ _ | with_reducible refine Own.up (by assumption) ?_ | with_reducible refine Own.grown (by assumption) (by assumption) ?_))) he01 hl1).mono ?_
    rintro e w5 ⟨rfl, hb5⟩
    go_wp2_with fail
    go_at_call 21
    refine (toF_any A xs cap _ (RS.up (by repeat (with_reducible first | exact Below.refl _ _ | refine below_drewN ?_ _ | refine Below.drew ?_ | refine below_alloc ?_ _ | refine below_set0 ?_ _ _ | refine below_set1 ?_ _ _ | refine below_set2 ?_ _ _ | refine below_set3 ?_ _ _ | refine below_call (by assumption) ?_ | refine below_step (by assumption) (by assumption) ?_)) Hs.out) hl).mono ?_
    rintro e w6 ⟨g3, rfl, hg3, hF3, hb6⟩
    go_wp2_with fail
    go_at_call 23
    refine (eqF_any _ _ _ _ _ _ _ (Own.rs (by repeat (first | assumption | with_reducible refine Own.drewN ?_ _ | with_reducible refine Own.alloc ?_ _ | with_reducible refine Own.up (by assumption) ?_ | with_reducible refine Own.grown (by assumption) (by assumption) ?_))) (FB.rs (by repeat (first | assumption | with_reducible refine FB.drewN ?_ _ | with_reducible refine FB.drew ?_ | with_reducible refine FB.alloc ?_ _ | with_reducible refine FB.up (by assumption) ?_))) rfl hl).mono ?_
    rintro e w7 ⟨rfl, hb7⟩
    go_wp2_with fail
    go_at_call 24
    refine (markF_any _ xs _ _ _ (by repeat (first | assumption | with_reducible refine Own.drewN ?_ _ | with_reducible refine Own.alloc ?_ _ | with_reducible refine Own.up (by assumption) ?_ | with_reducible refine Own.grown (by assumption) (by assumption) ?_)) hl (by decide) (by decide)).mono ?_
    rintro e w8 ⟨rfl, hO8, hg8⟩
    go_wp2_with fail
    go_at_call 23
    refine (eqF_any _ _ _ _ _ _ _ (Own.rs (by repeat (first | assumption | with_reducible refine Own.drewN ?_ _ | with_reducible refine Own.alloc ?_ _ | with_reducible refine Own.up (by assumption) ?_ | with_reducible refine Own.grown (by assumption) (by assumption) ?_))) (Own.rs (by repeat (first | assumption | with_reducible refine Own.drewN ?_ _ | with_reducible refine Own.alloc ?_ _ | with_reducible refine Own.up (by assumption) ?_ | with_reducible refine Own.grown (by assumption) (by assumption) ?_))) he01 hl1).mono ?_
    rintro e w9 ⟨rfl, hb9⟩
    go_wp2_with fail
    go_at_call 24
    refine (markF_any _ zs1 _ _ _ (by repeat (first | assumption | with_reducible refine Own.drewN ?_ _ | with_reducible refine Own.alloc ?_ _ | with_reducible refine Own.up (by assumption) ?_ | with_reducible refine Own.grown (by assumption) (by assumption) ?_)) hl1 (by decide) (by decide)).mono ?_
    rintro e w10 ⟨rfl, hO10, hg10⟩
    go_wp2_with fail
    go_at_call 25
    refine (heldF_any _ _ _ _ _ (Own.rs (by repeat (first | assumption | with_reducible refine Own.drewN ?_ _ | with_reducible refine Own.alloc ?_ _ | with_reducible refine Own.up (by assumption) ?_ | with_reducible refine Own.grown (by assumption) (by assumption) ?_))) hl1 (by decide) (by decide)).mono ?_
    rintro e w11 ⟨rfl, rfl⟩
    go_wp2_with fail
    go_at_call 21
    refine (toF_any A xs cap _ (RS.up (by repeat (with_reducible first | exact Below.refl _ _ | refine below_drewN ?_ _ | refine Below.drew ?_ | refine below_alloc ?_ _ | refine below_set0 ?_ _ _ | refine below_set1 ?_ _ _ | refine below_set2 ?_ _ _ | refine below_set3 ?_ _ _ | refine below_call (by assumption) ?_ | refine below_step (by assumption) (by assumption) ?_)) Hs.out) hl).mono ?_
    rintro e w12 ⟨g4, rfl, hg4, hF4, hb12⟩
    go_wp2_with fail
    go_at_call 22
    refine (HI'.out _ _ (by repeat (first | assumption | with_reducible refine FB.drewN ?_ _ | with_reducible refine FB.drew ?_ | with_reducible refine FB.alloc ?_ _ | with_reducible refine FB.up (by assumption) ?_))).mono ?_
    rintro e w13 ⟨A2, zs2, c2, rfl, hO2, hfr2, hz2, hw2, hb13⟩
    have hl2 := len_of_map hz2 hFl
    have he02 : zs2.map (can .f32) = zs0.map (can .f32) := hz2.trans hz0.symm
    go_wp2_with fail
    go_at_call 23
    refine (eqF_any _ _ _ _ _ _ _ (Own.rs (by repeat (first | assumption | with_reducible refine Own.drewN ?_ _ | with_reducible refine Own.alloc ?_ _ | with_reducible refine Own.up (by assumption) ?_ | with_reducible refine Own.grown (by assumption) (by assumption) ?_))) (Own.rs (by repeat (first | assumption | with_reducible refine Own.drewN ?_ _ | with_reducible refine Own.alloc ?_ _ | with_reducible refine Own.up (by assumption) ?_ | with_reducible refine Own.grown (by assumption) (by assumption) ?_))) he02 hl2).mono ?_
    rintro e w14 ⟨rfl, hb14⟩
    go_wp2_with fail
    go_at_call 25
    refine (heldF_any _ _ _ _ _ (Own.rs (by repeat (first | assumption | with_reducible refine Own.drewN ?_ _ | with_reducible refine Own.alloc ?_ _ | with_reducible refine Own.up (by assumption) ?_ | with_reducible refine Own.grown (by assumption) (by assumption) ?_))) hl1 (by decide) (by decide)).mono ?_
    rintro e w15 ⟨rfl, rfl⟩
    go_wp2_with fail
    go_ret
    exact ⟨rfl, (by repeat (with_reducible first | exact Below.refl _ _ | refine below_drewN ?_ _ | refine Below.drew ?_ | refine below_alloc ?_ _ | refine below_set0 ?_ _ _ | refine below_set1 ?_ _ _ | refine below_set2 ?_ _ _ | refine below_set3 ?_ _ _ | refine below_call (by assumption) ?_ | refine below_step (by assumption) (by assumption) ?_))⟩
  · go_enter Try.func5, Try.ntmps5
    go_wp2_with (first | (refine upon_op rfl ?_; intro r n hr hw; go_simp) | (refine upon_widen Try.underlying22 Try.underlying46 ?_; intro r n hr hw; go_simp))
    go_ret
    exact ⟨rfl, (by repeat (with_reducible first | exact Below.refl _ _ | refine below_drewN ?_ _ | refine Below.drew ?_ | refine below_alloc ?_ _ | refine below_set0 ?_ _ _ | refine below_set1 ?_ _ _ | refine below_set2 ?_ _ _ | refine below_set3 ?_ _ _ | refine below_call (by assumption) ?_ | refine below_step (by assumption) (by assumption) ?_))⟩
end Go.Proofs.Ytommbbheanhkjaa
