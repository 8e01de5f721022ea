-- PRINTED by print.py (a twelfth state) out of the translation. Not trusted: Lean checks it.
import Derived.Test.YtfoponahdidddaaD
import Derived.Test.YtfoponahdidddaaDSwapDoes
import Derived.Test.YtfoponahdidddaaZ
import Derived.Test.YtfoponahdidddaaP0
import Derived.Test.YtfoponahdidddaaP5
import Derived.Test.YtfoponahdidddaaP6
import Derived.Test.YtfoponahdidddaaP8
import Derived.Test.YtfoponahdidddaaP13
namespace Go.Proofs.Ytfoponahdidddaa.P
open Go.RowKit Go.Proofs.YtfoponahdidddaaW.PrintWords Go.Proofs.YtfoponahdidddaaW.PrintLast Go.Proofs.YtfoponahdidddaaW.PrintMore
-- squeezed
open Go.Proofs.YtfoponahdidddaaW.PrintWords.Aside0 renaming mk → aM
open Option renaming bind_eq_some_iff → bS
-- short
attribute [local go_sem] max2_int min2_int max_two min_two max_three min_three max_four min_four   -- for this text's walks alone
set_option linter.unusedVariables false
set_option linter.unusedSimpArgs false

/-! ### patchworklaw15_SwapDoes: function 4 -/

set_option maxHeartbeats 8000000 in
set_option maxRecDepth 100000 in
theorem patchworklaw15_SwapDoes.calls (k : Nat) (A0 : Option Addr) (c0 : Nat) (l0 : List (Op)) (A1 : Option Addr) (c1 : Nat) (l1 : List (Op)) (A2 : Option Addr) (c2 : Nat) (l2 : List ByteArray) (r : Bool) (w : World) (hr0 : Kd.C kOp w A0 l0.length l0) (hc0 : l0.length ≤ c0) (hr1 : Kd.C kOp w A1 l1.length l1) (hc1 : l1.length ≤ c1) (hr2 : Kd.C Kd.string w A2 l2.length l2) (hc2 : l2.length ≤ c2) (h : patchworklaw15_SwapDoes.f k l0 l1 l2 = some r) :
  Calls Try.prog 4 #[.slice A0 l0.length c0, .slice A1 l1.length c1, .slice A2 l2.length c2] w fun e w' => e = .returned (.bool r) ∧ Below w.heap.size w w' := by
 have HR0 := aM hr0
 have HC0 := aM hc0
 clear hr0 hc0
 have HR1 := aM hr1
 have HC1 := aM hc1
 clear hr1 hc1
 have HR2 := aM hr2
 have HC2 := aM hc2
 clear hr2 hc2
 have HB := aM (Below.refl w.heap.size w)
 have H : ((patchworklaw15_alive.f k).bind fun t415 => (if t415 = true then ((patchworklaw8_Few.f k l0).bind fun t416 => (if t416 = true then ((patchworklaw8_Few.f k l1).bind fun t417 => (if t417 = true then ((patchworklaw9_Short.f k l2).bind fun t418 => (patchworklaw15_SwapDoes.j0 k l0 l1 l2 t415 (!t418))) else (patchworklaw15_SwapDoes.j0 k l0 l1 l2 t415 true))) else (patchworklaw15_SwapDoes.j0 k l0 l1 l2 t415 true))) else (patchworklaw15_SwapDoes.j0 k l0 l1 l2 t415 true))) = some r := h
 clear h
 obtain ⟨t415, A4, H⟩ := oB H
 have HC5 := aM H
 clear H
 go_enter Try.func4, Try.ntmps4
 go_upto_region 2 with (first | ((with_reducible refine gate_callee (f := 14) rfl ?_); refine goesL_ (some 19) rfl rfl Try.func14 yK rfl #[] rfl yG ?_; (with_reducible refine (patchworklaw15_alive.calls k  t415 _ A4.out).mono ?_); rintro e w6 ⟨rfl, hb⟩; refine ⟨_, rfl, ?_⟩; replace HB := aM (below_step yB hb); clear hb))
 (try simp only [Act.put, List.setIfInBounds_toArray, List.set_cons_zero, List.set_cons_succ])
 go_cut [36] (fun v36 wc => ∃ (kq : Nat) (x36_4 : Bool), v36 = .bool x36_4 ∧ Aside0 (patchworklaw15_SwapDoes.j0 kq l0 l1 l2 t415 x36_4 = some r) ∧ Aside0 (kq ≤ k) ∧ Aside0 (Below w.heap.size w wc))
 case first =>
  have H := HC5.out; clear HC5
  by_cases c7 : t415 = true
  ·subst c7
   replace H := iT H; obtain ⟨t416, A8, H⟩ := oB H
   by_cases c9 : t416 = true
   ·subst c9
    replace H := iT H; obtain ⟨t417, A10, H⟩ := oB H
    by_cases c11 : t417 = true
    ·subst c11
     replace H := iT H; obtain ⟨t418, A12, H⟩ := oB H; have H' := aM H; clear H
     go_wp2_with (first | (go_at_call 15; (with_reducible refine (patchworklaw8_Few.calls k _ _ l0 true _ (yC (Kd.C_below HR0.out HB.out)) HC0.out A8.out).mono ?_); rintro e w' ⟨rfl, ⟨nd, rfl⟩⟩) | (go_at_call 15; (with_reducible refine (patchworklaw8_Few.calls k _ _ l1 true _ (yC (Kd.C_below HR1.out yB)) HC1.out A10.out).mono ?_); rintro e w' ⟨rfl, ⟨nd, rfl⟩⟩) | (go_at_call 20; (with_reducible refine (patchworklaw9_Short.calls k _ _ l2 t418 _ (yC (Kd.C_below HR2.out yB)) HC2.out A12.out).mono ?_); rintro e w13 ⟨rfl, hb⟩; replace HB := aM (below_step yB hb); clear hb))
     go_meet
     case rel => exact ⟨_, (!t418), yE, H', ⟨by first | omega | exact Nat.le_refl _⟩, ⟨yB⟩⟩
    ·replace c11 := Bool.eq_false_iff.mpr c11
     subst c11; have H' := aM (iF H); clear H
     go_wp2_with (first | (go_at_call 15; (with_reducible refine (patchworklaw8_Few.calls k _ _ l0 true _ (yC (Kd.C_below HR0.out HB.out)) HC0.out A8.out).mono ?_); rintro e w' ⟨rfl, ⟨nd, rfl⟩⟩) | (go_at_call 15; (with_reducible refine (patchworklaw8_Few.calls k _ _ l1 false _ (yC (Kd.C_below HR1.out yB)) HC1.out A10.out).mono ?_); rintro e w' ⟨rfl, ⟨nd, rfl⟩⟩))
     go_meet
     case rel => exact ⟨_, (true), yE, H', ⟨by first | omega | exact Nat.le_refl _⟩, ⟨yB⟩⟩
   ·replace c9 := Bool.eq_false_iff.mpr c9
    subst c9; have H' := aM (iF H); clear H
    go_wp2_with (first | (go_at_call 15; (with_reducible refine (patchworklaw8_Few.calls k _ _ l0 false _ (yC (Kd.C_below HR0.out HB.out)) HC0.out A8.out).mono ?_); rintro e w' ⟨rfl, ⟨nd, rfl⟩⟩))
    go_meet
    case rel => exact ⟨_, (true), yE, H', ⟨by first | omega | exact Nat.le_refl _⟩, ⟨yB⟩⟩
  ·replace c7 := Bool.eq_false_iff.mpr c7
   subst c7; have H' := aM (iF H); clear H
   go_wp2
   go_meet
   case rel => exact ⟨_, (true), yE, H', ⟨by first | omega | exact Nat.le_refl _⟩, ⟨yB⟩⟩
 case rest =>
  clear HC5; (try clear c1); (try clear c2); (try clear p2); (try clear c4); (try clear c7); (try clear c9); (try clear c11); obtain ⟨kq, x36_4, rfl, HA, HJ4, HB⟩ := hcut; cases kq with
  | zero => exact absurd HA.out (by simp [patchworklaw15_SwapDoes.j0])
  | succ kj4 =>
   have H := HA.out; clear HA; simp only [patchworklaw15_SwapDoes.j0] at H
   by_cases c14 : x36_4 = true
   ·subst c14
    replace H := iT H; obtain rfl := Option.some.inj H
    go_wp2
    go_ret
    exact ⟨yE2, yB⟩
   ·replace c14 := Bool.eq_false_iff.mpr c14
    subst c14; replace H := iF H; replace H := bS.mp H; obtain ⟨⟨t419, t420⟩, A150, H⟩ := H; replace H : ((patchworkref8_Do.f kj4 l1 t419).bind fun bt423 => ((swap_Ops.f kj4 l0 l1).bind fun bt427 => (if t420 = true then (if bt423.2 = true then ((patchworklaw15_num.f bt427.2.2).bind fun t434 => (patchworklaw15_SwapDoes.j1 kj4 l2 t420 bt423.1 bt423.2 bt427.1 bt427.2.1 bt427.2.2 (t434 != 0))) else (patchworklaw15_SwapDoes.j1 kj4 l2 t420 bt423.1 bt423.2 bt427.1 bt427.2.1 bt427.2.2 true)) else (patchworklaw15_SwapDoes.j1 kj4 l2 t420 bt423.1 bt423.2 bt427.1 bt427.2.1 bt427.2.2 true)))) = some r := H; have A15 := aM A150; clear A150; replace H := bS.mp H; obtain ⟨⟨t423, t424⟩, A160, H⟩ := H; replace H : ((swap_Ops.f kj4 l0 l1).bind fun bt427 => (if t420 = true then (if t424 = true then ((patchworklaw15_num.f bt427.2.2).bind fun t434 => (patchworklaw15_SwapDoes.j1 kj4 l2 t420 t423 t424 bt427.1 bt427.2.1 bt427.2.2 (t434 != 0))) else (patchworklaw15_SwapDoes.j1 kj4 l2 t420 t423 t424 bt427.1 bt427.2.1 bt427.2.2 true)) else (patchworklaw15_SwapDoes.j1 kj4 l2 t420 t423 t424 bt427.1 bt427.2.1 bt427.2.2 true))) = some r := H; have A16 := aM A160; clear A160; replace H := bS.mp H; obtain ⟨⟨t427, t428, t429⟩, A170, H⟩ := H; replace H : (if t420 = true then (if t424 = true then ((patchworklaw15_num.f t429).bind fun t434 => (patchworklaw15_SwapDoes.j1 kj4 l2 t420 t423 t424 t427 t428 t429 (t434 != 0))) else (patchworklaw15_SwapDoes.j1 kj4 l2 t420 t423 t424 t427 t428 t429 true)) else (patchworklaw15_SwapDoes.j1 kj4 l2 t420 t423 t424 t427 t428 t429 true)) = some r := H; have A17 := aM A170; clear A170; have HC18 := aM H; clear H
    go_upto_region 7 with (first | ((with_reducible refine gate_callee (f := 21) rfl ?_); refine goesL_ (some 41) rfl rfl Try.func21 yK rfl #[.slice A0 l0.length c0, .slice A2 l2.length c2] rfl yG ?_; (with_reducible refine (patchworkref8_Do.calls kj4 _ _ l0 _ _ l2 t419 t420 _ (yC (Kd.C_below HR0.out HB.out)) HC0.out (yC (Kd.C_below HR2.out HB.out)) HC2.out A15.out).mono ?_); rintro e w19 ⟨v421, rfl, ho0, hb⟩; refine ⟨_, rfl, ?_⟩; have HO422 := aM (Kd.R_lower ho0 yW); replace HB := aM (below_step yB hb); clear hb ho0; obtain ⟨Ao20, co20, eo20⟩ := Kd.R_slice HO422.out; subst eo20) | ((with_reducible refine gate_callee (f := 21) rfl ?_); refine goesL_ (some 47) rfl rfl Try.func21 yK rfl #[.slice A1 l1.length c1, .slice Ao20 t419.length co20] rfl yG ?_; (with_reducible refine (patchworkref8_Do.calls kj4 _ _ l1 _ _ t419 t423 t424 _ (yC (Kd.C_below HR1.out HB.out)) HC1.out (yC (Kd.R_reads' HO422.out).2.2) ((Kd.R_reads' HO422.out).2.1) A16.out).mono ?_); rintro e w21 ⟨v425, rfl, ho0, hb⟩; refine ⟨_, rfl, ?_⟩; have HO426 := aM (Kd.R_lower (Kd.R_new' ho0 (Kd.R_lt (yH HO422.out))) yW); replace HO422 := aM (Kd.R_elder' (yH HO422.out) (Kd.R_base ho0) hb); replace HB := aM (below_step yB hb); clear hb ho0) | ((with_reducible refine gate_callee (f := 16) rfl ?_); refine goesL_ (some 53) rfl rfl Try.func16 yK rfl #[.slice A0 l0.length c0, .slice A1 l1.length c1] rfl yG ?_; (with_reducible refine (swap_Ops.calls kj4 _ _ l0 _ _ l1 t427 t428 t429 _ (yC (Kd.C_below HR0.out HB.out)) HC0.out (yC (Kd.C_below HR1.out HB.out)) HC1.out A17.out).mono ?_); rintro e w22 ⟨v430, v432, rfl, ho0, ho1, hb⟩; refine ⟨_, rfl, ?_⟩; replace HO422 := aM (Kd.R_below (yH HO422.out) hb); replace HO426 := aM (Kd.R_below (yH HO426.out) hb); have HO431 := aM (Kd.R_lower ho0 yW); have HO433 := aM (Kd.R_lower ho1 yW); replace HB := aM (below_step yB hb); clear hb ho0 ho1))
    (try simp only [Act.put, List.setIfInBounds_toArray, List.set_cons_zero, List.set_cons_succ])
    go_cut [67] (fun v67 wc => ∃ (kq : Nat) (x67_17 : Bool), v67 = .bool x67_17 ∧ Aside0 (patchworklaw15_SwapDoes.j1 kq l2 t420 t423 t424 t427 t428 t429 x67_17 = some r) ∧ Aside0 (kq ≤ kj4) ∧ Aside0 (Kd.R Kd.string 9 wc w.heap.size (fun _ => True) v425 t423) ∧ Aside0 (Kd.R kOp 41 wc w.heap.size (fun k_ => some k_ ≠ (v432 : Value).ownBlock) v430 t427) ∧ Aside0 (Kd.R kOp 41 wc w.heap.size (fun k_ => some k_ ≠ (v430 : Value).ownBlock) v432 t428) ∧ Aside0 (Below w.heap.size w wc))
    case first =>
     have H := HC18.out; clear HC18
     by_cases c23 : t420 = true
     ·subst c23
      replace H := iT H
      by_cases c24 : t424 = true
      ·subst c24
       replace H := iT H; obtain ⟨t434, A25, H⟩ := oB H; have H' := aM H; clear H
       go_wp2_with (first | (go_at_call 19; (with_reducible refine (patchworklaw15_num.calls t429 t434 _ A25.out).mono ?_); rintro e w' ⟨rfl, ⟨nd, rfl⟩⟩))
       go_meet
       case rel => exact ⟨_, ((t434 != 0)), yE, H', ⟨by have := HJ4.out; first | omega | exact Nat.le_refl _⟩, ⟨by (with_reducible repeat (first | apply Kd.R_alloc | apply Kd.R_drewN | apply Kd.R_drew)); exact Kd.R_mono HO426.out (fun _ hk => trivial)⟩, ⟨yH HO431.out⟩, ⟨yH HO433.out⟩, ⟨yB⟩⟩
      ·replace c24 := Bool.eq_false_iff.mpr c24
       subst c24; have H' := aM (iF H); clear H
       go_wp2
       go_meet
       case rel => exact ⟨_, (true), yE, H', ⟨by have := HJ4.out; first | omega | exact Nat.le_refl _⟩, ⟨by (with_reducible repeat (first | apply Kd.R_alloc | apply Kd.R_drewN | apply Kd.R_drew)); exact Kd.R_mono HO426.out (fun _ hk => trivial)⟩, ⟨yH HO431.out⟩, ⟨yH HO433.out⟩, ⟨yB⟩⟩
     ·replace c23 := Bool.eq_false_iff.mpr c23
      subst c23; have H' := aM (iF H); clear H
      go_wp2
      go_meet
      case rel => exact ⟨_, (true), yE, H', ⟨by have := HJ4.out; first | omega | exact Nat.le_refl _⟩, ⟨by (with_reducible repeat (first | apply Kd.R_alloc | apply Kd.R_drewN | apply Kd.R_drew)); exact Kd.R_mono HO426.out (fun _ hk => trivial)⟩, ⟨yH HO431.out⟩, ⟨yH HO433.out⟩, ⟨yB⟩⟩
    case rest =>
     clear HC18; (try clear c1); (try clear c2); (try clear p2); (try clear c4); (try clear c7); (try clear c9); (try clear c11); (try clear c14); (try clear c16); (try clear c21); (try clear c23); (try clear c24); (try clear p2); obtain ⟨kq, x67_17, rfl, HA, HJ17, HO_10, HO_12, HO_13, HB⟩ := hcut; cases kq with
     | zero => exact absurd HA.out (by simp [patchworklaw15_SwapDoes.j1])
     | succ kj17 =>
      have H := HA.out; clear HA; simp only [patchworklaw15_SwapDoes.j1] at H
      by_cases c26 : x67_17 = true
      ·subst c26
       replace H := iT H
       by_cases c27 : t420 = true
       ·subst c27
        replace H := iT H
        by_cases c28 : t424 = true
        ·subst c28
         replace H := iT H; obtain ⟨t435, A29, H⟩ := oB H; obtain rfl := Option.some.inj H
         go_wp2_with (first | (go_at_call 19; (with_reducible refine (patchworklaw15_num.calls t429 t435 _ A29.out).mono ?_); rintro e w' ⟨rfl, ⟨nd, rfl⟩⟩))
         go_ret
         exact ⟨yE2, yB⟩
        ·replace c28 := Bool.eq_false_iff.mpr c28
         subst c28; replace H := iF H; obtain rfl := Option.some.inj H
         go_wp2
         go_ret
         exact ⟨yE2, yB⟩
       ·replace c27 := Bool.eq_false_iff.mpr c27
        subst c27; replace H := iF H; obtain rfl := Option.some.inj H
        go_wp2
        go_ret
        exact ⟨yE2, yB⟩
      ·replace c26 := Bool.eq_false_iff.mpr c26
       subst c26; replace H := iF H; replace H := bS.mp H; obtain ⟨⟨t436, t437⟩, A300, H⟩ := H; replace H : ((patchworkref8_Do.f kj17 t428 t436).bind fun bt440 => (if t437 = true then (if bt440.2 = true then ((patchworkref1_SameTexts.f kj17 t423 bt440.1).bind fun t444 => (some t444)) else (some false)) else (some false))) = some r := H; have A30 := aM A300; clear A300; replace H := bS.mp H; obtain ⟨⟨t440, t441⟩, A310, H⟩ := H; replace H : (if t437 = true then (if t441 = true then ((patchworkref1_SameTexts.f kj17 t423 t440).bind fun t444 => (some t444)) else (some false)) else (some false)) = some r := H; have A31 := aM A310; clear A310
       by_cases c32 : t437 = true
       ·subst c32
        replace H := iT H
        by_cases c33 : t441 = true
        ·subst c33
         replace H := iT H; obtain ⟨t444, A34, H⟩ := oB H; obtain rfl := Option.some.inj H; obtain ⟨Ao35, co35, eo35⟩ := Kd.R_slice HO_12.out; subst eo35
         go_wp2_with (first | ((with_reducible refine gate_callee (f := 21) rfl ?_); refine goesL_ (some 82) rfl rfl Try.func21 yK rfl #[.slice Ao35 t427.length co35, .slice A2 l2.length c2] rfl yG ?_; (with_reducible refine (patchworkref8_Do.calls kj17 _ _ t427 _ _ l2 t436 true _ (yC (Kd.R_reads' HO_12.out).2.2) ((Kd.R_reads' HO_12.out).2.1) (yC (Kd.C_below HR2.out HB.out)) HC2.out A30.out).mono ?_); rintro e w36 ⟨v438, rfl, ho0, hb⟩; refine ⟨_, rfl, ?_⟩; replace HO_12 := aM (Kd.R_below (yH HO_12.out) hb); replace HO_13 := aM (Kd.R_below (yH HO_13.out) hb); have HO439 := aM (Kd.R_lower (Kd.R_new' ho0 (Kd.R_lt (yH HO_10.out))) yW); replace HO_10 := aM (Kd.R_elder' (yH HO_10.out) (Kd.R_base ho0) hb); replace HB := aM (below_step yB hb); clear hb ho0; obtain ⟨Ao37, co37, eo37⟩ := Kd.R_slice HO_13.out; subst eo37; obtain ⟨Ao38, co38, eo38⟩ := Kd.R_slice HO439.out; subst eo38) | ((with_reducible refine gate_callee (f := 21) rfl ?_); refine goesL_ (some 88) rfl rfl Try.func21 yK rfl #[.slice Ao37 t428.length co37, .slice Ao38 t436.length co38] rfl yG ?_; (with_reducible refine (patchworkref8_Do.calls kj17 _ _ t428 _ _ t436 t440 true _ (yC (Kd.R_reads' HO_13.out).2.2) ((Kd.R_reads' HO_13.out).2.1) (yC (Kd.R_reads' HO439.out).2.2) ((Kd.R_reads' HO439.out).2.1) A31.out).mono ?_); rintro e w39 ⟨v442, rfl, ho0, hb⟩; refine ⟨_, rfl, ?_⟩; replace HO_12 := aM (Kd.R_below (yH HO_12.out) hb); replace HO_13 := aM (Kd.R_below (yH HO_13.out) hb); have HO443 := aM (Kd.R_lower (Kd.R_new' (Kd.R_new' ho0 (Kd.R_lt (yH HO_10.out))) (Kd.R_lt (yH HO439.out))) yW); replace HO_10 := aM (Kd.R_elder' (yH HO_10.out) (Kd.R_base ho0) hb); replace HO439 := aM (Kd.R_elder' (yH HO439.out) (Kd.R_base ho0) hb); replace HB := aM (below_step yB hb); clear hb ho0; obtain ⟨Ao40, co40, eo40⟩ := Kd.R_slice HO_10.out; subst eo40; obtain ⟨Ao41, co41, eo41⟩ := Kd.R_slice HO443.out; subst eo41) | (go_at_call 22; (with_reducible refine (patchworkref1_SameTexts.calls kj17 _ _ t423 _ _ t440 t444 _ (yC (Kd.R_reads' HO_10.out).2.2) ((Kd.R_reads' HO_10.out).2.1) (yC (Kd.R_reads' HO443.out).2.2) ((Kd.R_reads' HO443.out).2.1) A34.out).mono ?_); rintro e w' ⟨rfl, ⟨nd, rfl⟩⟩))
         go_ret
         exact ⟨yE2, yB⟩
        ·replace c33 := Bool.eq_false_iff.mpr c33
         subst c33; replace H := iF H; obtain rfl := Option.some.inj H; obtain ⟨Ao42, co42, eo42⟩ := Kd.R_slice HO_12.out; subst eo42
         go_wp2_with (first | ((with_reducible refine gate_callee (f := 21) rfl ?_); refine goesL_ (some 82) rfl rfl Try.func21 yK rfl #[.slice Ao42 t427.length co42, .slice A2 l2.length c2] rfl yG ?_; (with_reducible refine (patchworkref8_Do.calls kj17 _ _ t427 _ _ l2 t436 true _ (yC (Kd.R_reads' HO_12.out).2.2) ((Kd.R_reads' HO_12.out).2.1) (yC (Kd.C_below HR2.out HB.out)) HC2.out A30.out).mono ?_); rintro e w43 ⟨v438, rfl, ho0, hb⟩; refine ⟨_, rfl, ?_⟩; replace HO_12 := aM (Kd.R_below (yH HO_12.out) hb); replace HO_13 := aM (Kd.R_below (yH HO_13.out) hb); have HO439 := aM (Kd.R_lower (Kd.R_new' ho0 (Kd.R_lt (yH HO_10.out))) yW); replace HO_10 := aM (Kd.R_elder' (yH HO_10.out) (Kd.R_base ho0) hb); replace HB := aM (below_step yB hb); clear hb ho0; obtain ⟨Ao44, co44, eo44⟩ := Kd.R_slice HO_13.out; subst eo44; obtain ⟨Ao45, co45, eo45⟩ := Kd.R_slice HO439.out; subst eo45) | ((with_reducible refine gate_callee (f := 21) rfl ?_); refine goesL_ (some 88) rfl rfl Try.func21 yK rfl #[.slice Ao44 t428.length co44, .slice Ao45 t436.length co45] rfl yG ?_; (with_reducible refine (patchworkref8_Do.calls kj17 _ _ t428 _ _ t436 t440 false _ (yC (Kd.R_reads' HO_13.out).2.2) ((Kd.R_reads' HO_13.out).2.1) (yC (Kd.R_reads' HO439.out).2.2) ((Kd.R_reads' HO439.out).2.1) A31.out).mono ?_); rintro e w46 ⟨v442, rfl, ho0, hb⟩; refine ⟨_, rfl, ?_⟩; replace HO_12 := aM (Kd.R_below (yH HO_12.out) hb); replace HO_13 := aM (Kd.R_below (yH HO_13.out) hb); have HO443 := aM (Kd.R_lower (Kd.R_new' (Kd.R_new' ho0 (Kd.R_lt (yH HO_10.out))) (Kd.R_lt (yH HO439.out))) yW); replace HO_10 := aM (Kd.R_elder' (yH HO_10.out) (Kd.R_base ho0) hb); replace HO439 := aM (Kd.R_elder' (yH HO439.out) (Kd.R_base ho0) hb); replace HB := aM (below_step yB hb); clear hb ho0))
         go_ret
         exact ⟨yE2, yB⟩
       ·replace c32 := Bool.eq_false_iff.mpr c32
        subst c32; replace H := iF H; obtain rfl := Option.some.inj H; obtain ⟨Ao47, co47, eo47⟩ := Kd.R_slice HO_12.out; subst eo47
        go_wp2_with (first | ((with_reducible refine gate_callee (f := 21) rfl ?_); refine goesL_ (some 82) rfl rfl Try.func21 yK rfl #[.slice Ao47 t427.length co47, .slice A2 l2.length c2] rfl yG ?_; (with_reducible refine (patchworkref8_Do.calls kj17 _ _ t427 _ _ l2 t436 false _ (yC (Kd.R_reads' HO_12.out).2.2) ((Kd.R_reads' HO_12.out).2.1) (yC (Kd.C_below HR2.out HB.out)) HC2.out A30.out).mono ?_); rintro e w48 ⟨v438, rfl, ho0, hb⟩; refine ⟨_, rfl, ?_⟩; replace HO_12 := aM (Kd.R_below (yH HO_12.out) hb); replace HO_13 := aM (Kd.R_below (yH HO_13.out) hb); have HO439 := aM (Kd.R_lower (Kd.R_new' ho0 (Kd.R_lt (yH HO_10.out))) yW); replace HO_10 := aM (Kd.R_elder' (yH HO_10.out) (Kd.R_base ho0) hb); replace HB := aM (below_step yB hb); clear hb ho0; obtain ⟨Ao49, co49, eo49⟩ := Kd.R_slice HO_13.out; subst eo49; obtain ⟨Ao50, co50, eo50⟩ := Kd.R_slice HO439.out; subst eo50) | ((with_reducible refine gate_callee (f := 21) rfl ?_); refine goesL_ (some 88) rfl rfl Try.func21 yK rfl #[.slice Ao49 t428.length co49, .slice Ao50 t436.length co50] rfl yG ?_; (with_reducible refine (patchworkref8_Do.calls kj17 _ _ t428 _ _ t436 t440 t441 _ (yC (Kd.R_reads' HO_13.out).2.2) ((Kd.R_reads' HO_13.out).2.1) (yC (Kd.R_reads' HO439.out).2.2) ((Kd.R_reads' HO439.out).2.1) A31.out).mono ?_); rintro e w51 ⟨v442, rfl, ho0, hb⟩; refine ⟨_, rfl, ?_⟩; replace HO_12 := aM (Kd.R_below (yH HO_12.out) hb); replace HO_13 := aM (Kd.R_below (yH HO_13.out) hb); have HO443 := aM (Kd.R_lower (Kd.R_new' (Kd.R_new' ho0 (Kd.R_lt (yH HO_10.out))) (Kd.R_lt (yH HO439.out))) yW); replace HO_10 := aM (Kd.R_elder' (yH HO_10.out) (Kd.R_base ho0) hb); replace HO439 := aM (Kd.R_elder' (yH HO439.out) (Kd.R_base ho0) hb); replace HB := aM (below_step yB hb); clear hb ho0))
        go_ret
        exact ⟨yE2, yB⟩

end Go.Proofs.Ytfoponahdidddaa.P
