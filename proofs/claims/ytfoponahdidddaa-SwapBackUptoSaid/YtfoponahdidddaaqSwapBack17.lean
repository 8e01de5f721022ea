/- The law SwapBack answers true, for all arguments that hold together at most 1048576 values and letters, and leaves them as they were. -/
import Derived.Test.YtfoponahdidddaaqSwapBack4
import Derived.Test.YtfoponahdidddaaqSwapBack5
import Derived.Test.YtfoponahdidddaaqSwapBack3
import Derived.Test.YtfoponahdidddaaqSwapBack6
import Derived.Test.YtfoponahdidddaaqSwapBack16
import Derived.Test.YtfoponahdidddaaqSwapBack14
import Derived.Test.YtfoponahdidddaaqSwapBack9
import Derived.WalkKit
import Derived.ProofKit
import Derived.OpenShut
import Derived.ShutString
import Derived.ChangeOld
import Derived.Below
import Derived.SizedLaws
import Derived.JoinedCond
set_option linter.unusedVariables false
set_option linter.unusedSimpArgs false
namespace Go.Proofs.Ytfoponahdidddaa.P
open Go.RowKit Go.Proofs.YtfoponahdidddaaW.PrintWords Go.Proofs.YtfoponahdidddaaW.PrintLast Go.Proofs.YtfoponahdidddaaW.PrintMore
open Go.Proofs.YtfoponahdidddaaW.PrintWords.Aside0 renaming mk → aM
attribute [local go_sem] max2_int min2_int max_two min_two max_three min_three max_four min_four
attribute [local go_sem high] eqAOp
set_option maxHeartbeats 8000000 in
set_option maxRecDepth 100000 in
theorem patchworklaw15_SwapBack.calls (k : Nat) (A0 : Option Addr) (c0 : Nat) (l0 : List (Op)) (A1 : Option Addr) (c1 : Nat) (l1 : List (Op)) (r : Bool) (w : World) (hr0 : Kd.C kOp w A0 l0.length l0) (hc0 : l0.length ≤ c0) (hr1 : Kd.C kOp w A1 l1.length l1) (hc1 : l1.length ≤ c1) (h : patchworklaw15_SwapBack.f k l0 l1 = some r) :
  Calls Try.prog 6 #[.slice A0 l0.length c0, .slice A1 l1.length c1] w fun e w' => e = .returned (.bool r) ∧ Below w.heap.size w w' := by
 have HR0 := aM hr0
 have HC0 := aM hc0
 clear hr0 hc0
 have HR1 := aM hr1
 have HC1 := aM hc1
 clear hr1 hc1
 have HB := aM (Below.refl w.heap.size w)
 have H : ((patchworklaw15_alive.f k).bind fun t536 => (if t536 = true then ((patchworklaw8_Few.f k l0).bind fun t537 => (if t537 = true then ((patchworklaw8_Few.f k l1).bind fun t538 => (patchworklaw15_SwapBack.j0 k l0 l1 t536 (!t538))) else (patchworklaw15_SwapBack.j0 k l0 l1 t536 true))) else (patchworklaw15_SwapBack.j0 k l0 l1 t536 true))) = some r := h
 clear h
 obtain ⟨t536, A3, H⟩ := oB H
 have HC4 := aM H
 clear H
 go_enter Try.func6, Try.ntmps6
 go_upto_region 2 with (first | ((with_reducible refine gate_callee (f := 14) rfl ?_); refine goesL_ (some 12) rfl rfl Try.func14 yK rfl #[] rfl yG ?_; (with_reducible refine (patchworklaw15_alive.calls k  t536 _ A3.out).mono ?_); rintro e w5 ⟨rfl, hb⟩; refine ⟨_, rfl, ?_⟩; replace HB := aM (below_step yB hb); clear hb))
 (try simp only [Act.put, List.setIfInBounds_toArray, List.set_cons_zero, List.set_cons_succ])
 go_cut [24] (fun v24 wc => ∃ (kq : Nat) (x24_3 : Bool), v24 = .bool x24_3 ∧ Aside0 (patchworklaw15_SwapBack.j0 kq l0 l1 t536 x24_3 = some r) ∧ Aside0 (kq ≤ k) ∧ Aside0 (Below w.heap.size w wc))
 case first =>
  have H := HC4.out; clear HC4
  by_cases c6 : t536 = true
  ·subst c6
   replace H := iT H; obtain ⟨t537, A7, H⟩ := oB H
   by_cases c8 : t537 = true
   ·subst c8
    replace H := iT H; obtain ⟨t538, A9, H⟩ := oB H; have H' := aM H; clear H
    go_wp2_with (first | (go_at_call 15; (with_reducible refine (patchworklaw8_Few.calls k _ _ l0 true _ (yC (Kd.C_below HR0.out HB.out)) HC0.out A7.out).mono ?_); rintro e w' ⟨rfl, ⟨nd, rfl⟩⟩) | (go_at_call 15; (with_reducible refine (patchworklaw8_Few.calls k _ _ l1 t538 _ (yC (Kd.C_below HR1.out yB)) HC1.out A9.out).mono ?_); rintro e w' ⟨rfl, ⟨nd, rfl⟩⟩))
    go_meet
    case rel => exact ⟨_, (!t538), yE, H', ⟨by first | omega | exact Nat.le_refl _⟩, ⟨yB⟩⟩
   ·replace c8 := Bool.eq_false_iff.mpr c8
    subst c8; have H' := aM (iF H); clear H
    go_wp2_with (first | (go_at_call 15; (with_reducible refine (patchworklaw8_Few.calls k _ _ l0 false _ (yC (Kd.C_below HR0.out HB.out)) HC0.out A7.out).mono ?_); rintro e w' ⟨rfl, ⟨nd, rfl⟩⟩))
    go_meet
    case rel => exact ⟨_, (true), yE, H', ⟨by first | omega | exact Nat.le_refl _⟩, ⟨yB⟩⟩
  ·replace c6 := Bool.eq_false_iff.mpr c6
   subst c6; have H' := aM (iF H); clear H
   go_wp2
   go_meet
   case rel => exact ⟨_, (true), yE, H', ⟨by first | omega | exact Nat.le_refl _⟩, ⟨yB⟩⟩
 case rest =>
  clear HC4; (try clear c1); (try clear p2); (try clear c6); (try clear c8); obtain ⟨kq, x24_3, rfl, HA, HJ3, HB⟩ := hcut; cases kq with
  | zero => exact absurd HA.out (by simp [patchworklaw15_SwapBack.j0])
  | succ kj3 =>
   have H := HA.out; clear HA; simp only [patchworklaw15_SwapBack.j0] at H
   by_cases c10 : x24_3 = true
   ·subst c10
    replace H := iT H; obtain rfl := Option.some.inj H
    go_wp2
    go_ret
    exact ⟨yE2, yB⟩
   ·replace c10 := Bool.eq_false_iff.mpr c10
    subst c10; replace H := iF H; replace H := Option.bind_eq_some_iff.mp H; obtain ⟨⟨t539, t540, t541⟩, A110, H⟩ := H; replace H : ((patchworklaw15_num.f t541).bind fun t546 => (if t546 = 0 then ((swap_Ops.f kj3 t539 t540).bind fun bt547 => ((patchworklaw15_num.f bt547.2.2).bind fun t554 => (if t554 = 0 then ((patchworkref8_Trim.f kj3 bt547.1 0).bind fun t555 => ((patchworkref8_Trim.f kj3 l0 0).bind fun t558 => ((patchworkref8_Same.f kj3 t555 t558).bind fun t561 => (if t561 = true then ((patchworkref8_Trim.f kj3 bt547.2.1 0).bind fun t562 => ((patchworkref8_Trim.f kj3 l1 0).bind fun t565 => ((patchworkref8_Same.f kj3 t562 t565).bind fun t568 => (some t568)))) else (some false))))) else (some false)))) else (some true))) = some r := H; have A11 := aM A110; clear A110; obtain ⟨t546, A12, H⟩ := oB H
    by_cases c13 : t546 = 0
    ·rw [if_pos c13] at H
     have c13b0 := beq_iff_eq.mpr c13; have c13b1 := bne_eq_false_iff_eq.mpr c13; clear c13; replace H := Option.bind_eq_some_iff.mp H; obtain ⟨⟨t547, t548, t549⟩, A140, H⟩ := H; replace H : ((patchworklaw15_num.f t549).bind fun t554 => (if t554 = 0 then ((patchworkref8_Trim.f kj3 t547 0).bind fun t555 => ((patchworkref8_Trim.f kj3 l0 0).bind fun t558 => ((patchworkref8_Same.f kj3 t555 t558).bind fun t561 => (if t561 = true then ((patchworkref8_Trim.f kj3 t548 0).bind fun t562 => ((patchworkref8_Trim.f kj3 l1 0).bind fun t565 => ((patchworkref8_Same.f kj3 t562 t565).bind fun t568 => (some t568)))) else (some false))))) else (some false))) = some r := H; have A14 := aM A140; clear A140; obtain ⟨t554, A15, H⟩ := oB H
     by_cases c16 : t554 = 0
     ·rw [if_pos c16] at H
      have c16b0 := beq_iff_eq.mpr c16; have c16b1 := bne_eq_false_iff_eq.mpr c16; clear c16; obtain ⟨t555, A17, H⟩ := oB H; obtain ⟨t558, A18, H⟩ := oB H; obtain ⟨t561, A19, H⟩ := oB H
      by_cases c20 : t561 = true
      ·subst c20
       replace H := iT H; obtain ⟨t562, A21, H⟩ := oB H; obtain ⟨t565, A22, H⟩ := oB H; obtain ⟨t568, A23, H⟩ := oB H; obtain rfl := Option.some.inj H
       go_wp2_with (first | ((with_reducible refine gate_callee (f := 16) rfl ?_); refine goesL_ (some 29) rfl rfl Try.func16 yK rfl #[.slice A0 l0.length c0, .slice A1 l1.length c1] rfl yG ?_; (with_reducible refine (swap_Ops.calls kj3 _ _ l0 _ _ l1 t539 t540 t541 _ (yC (Kd.C_below HR0.out HB.out)) HC0.out (yC (Kd.C_below HR1.out HB.out)) HC1.out A11.out).mono ?_); rintro e w24 ⟨v542, v544, rfl, ho0, ho1, hb⟩; refine ⟨_, rfl, ?_⟩; have HO543 := aM (Kd.R_lower ho0 yW); have HO545 := aM (Kd.R_lower ho1 yW); replace HB := aM (below_step yB hb); clear hb ho0 ho1) | ((with_reducible refine gate_callee (f := 19) rfl ?_); refine goesL_ (some 34) rfl rfl Try.func19 yK rfl #[.int .i64 t541] rfl yG ?_; (with_reducible refine (patchworklaw15_num.calls t541 t546 _ A12.out).mono ?_); rintro e w' ⟨rfl, ⟨nd, rfl⟩⟩; refine ⟨_, rfl, ?_⟩; obtain ⟨Ao25, co25, eo25⟩ := Kd.R_slice HO543.out; subst eo25; obtain ⟨Ao26, co26, eo26⟩ := Kd.R_slice HO545.out; subst eo26) | ((with_reducible refine gate_callee (f := 16) rfl ?_); refine goesL_ (some 39) rfl rfl Try.func16 yK rfl #[.slice Ao25 t539.length co25, .slice Ao26 t540.length co26] rfl yG ?_; (with_reducible refine (swap_Ops.calls kj3 _ _ t539 _ _ t540 t547 t548 t549 _ (yC (Kd.R_reads' HO543.out).2.2) ((Kd.R_reads' HO543.out).2.1) (yC (Kd.R_reads' HO545.out).2.2) ((Kd.R_reads' HO545.out).2.1) A14.out).mono ?_); rintro e w27 ⟨v550, v552, rfl, ho0, ho1, hb⟩; refine ⟨_, rfl, ?_⟩; have HO551 := aM (Kd.R_lower (Kd.R_new' (Kd.R_new' ho0 (Kd.R_lt (yH HO543.out))) (Kd.R_lt (yH HO545.out))) yW); have HO553 := aM (Kd.R_lower (Kd.R_new' (Kd.R_new' ho1 (Kd.R_lt (yH HO543.out))) (Kd.R_lt (yH HO545.out))) yW); replace HO543 := aM (Kd.R_mono (Kd.R_told (Kd.R_told (Kd.R_old (yH HO543.out) hb) (Kd.R_base ho0)) (Kd.R_base ho1)) (fun _ h_ => h_.1)); replace HO545 := aM (Kd.R_mono (Kd.R_told (Kd.R_told (Kd.R_old (yH HO545.out) hb) (Kd.R_base ho0)) (Kd.R_base ho1)) (fun _ h_ => h_.1)); replace HB := aM (below_step yB hb); clear hb ho0 ho1) | ((with_reducible refine gate_callee (f := 19) rfl ?_); refine goesL_ (some 44) rfl rfl Try.func19 yK rfl #[.int .i64 t549] rfl yG ?_; (with_reducible refine (patchworklaw15_num.calls t549 t554 _ A15.out).mono ?_); rintro e w' ⟨rfl, ⟨nd, rfl⟩⟩; refine ⟨_, rfl, ?_⟩; obtain ⟨Ao28, co28, eo28⟩ := Kd.R_slice HO551.out; subst eo28) | (go_at_call 25; (with_reducible refine (patchworkref8_Trim.calls kj3 _ _ t547 0 t555 _ (yC (Kd.R_reads' HO551.out).2.2) ((Kd.R_reads' HO551.out).2.1) A17.out).mono ?_); rintro e w29 ⟨v556, rfl, ho0, hb⟩; have HO557 := aM (Kd.R_lower (Kd.R_new' (Kd.R_new' (Kd.R_new' (Kd.R_new' ho0 (Kd.R_lt (yH HO543.out))) (Kd.R_lt (yH HO545.out))) (Kd.R_lt (yH HO551.out))) (Kd.R_lt (yH HO553.out))) yW); replace HO543 := aM (Kd.R_elder' (yH HO543.out) (Kd.R_base ho0) hb); replace HO545 := aM (Kd.R_elder' (yH HO545.out) (Kd.R_base ho0) hb); replace HO551 := aM (Kd.R_elder' (yH HO551.out) (Kd.R_base ho0) hb); replace HO553 := aM (Kd.R_elder' (yH HO553.out) (Kd.R_base ho0) hb); replace HB := aM (below_step yB hb); clear hb ho0) | (go_at_call 25; (with_reducible refine (patchworkref8_Trim.calls kj3 _ _ l0 0 t558 _ (yC (Kd.C_below HR0.out HB.out)) HC0.out A18.out).mono ?_); rintro e w30 ⟨v559, rfl, ho0, hb⟩; have HO560 := aM (Kd.R_lower (Kd.R_new' (Kd.R_new' (Kd.R_new' (Kd.R_new' (Kd.R_new' ho0 (Kd.R_lt (yH HO543.out))) (Kd.R_lt (yH HO545.out))) (Kd.R_lt (yH HO551.out))) (Kd.R_lt (yH HO553.out))) (Kd.R_lt (yH HO557.out))) yW); replace HO543 := aM (Kd.R_elder' (yH HO543.out) (Kd.R_base ho0) hb); replace HO545 := aM (Kd.R_elder' (yH HO545.out) (Kd.R_base ho0) hb); replace HO551 := aM (Kd.R_elder' (yH HO551.out) (Kd.R_base ho0) hb); replace HO553 := aM (Kd.R_elder' (yH HO553.out) (Kd.R_base ho0) hb); replace HO557 := aM (Kd.R_elder' (yH HO557.out) (Kd.R_base ho0) hb); replace HB := aM (below_step yB hb); clear hb ho0; obtain ⟨Ao31, co31, eo31⟩ := Kd.R_slice HO557.out; subst eo31; obtain ⟨Ao32, co32, eo32⟩ := Kd.R_slice HO560.out; subst eo32) | (go_at_call 18; (with_reducible refine (patchworkref8_Same.calls kj3 _ _ t555 _ _ t558 true _ (yC (Kd.R_reads' HO557.out).2.2) ((Kd.R_reads' HO557.out).2.1) (yC (Kd.R_reads' HO560.out).2.2) ((Kd.R_reads' HO560.out).2.1) A19.out).mono ?_); rintro e w' ⟨rfl, ⟨nd, rfl⟩⟩; obtain ⟨Ao33, co33, eo33⟩ := Kd.R_slice HO553.out; subst eo33) | (go_at_call 25; (with_reducible refine (patchworkref8_Trim.calls kj3 _ _ t548 0 t562 _ (yC (Kd.R_reads' HO553.out).2.2) ((Kd.R_reads' HO553.out).2.1) A21.out).mono ?_); rintro e w34 ⟨v563, rfl, ho0, hb⟩; have HO564 := aM (Kd.R_lower (Kd.R_new' (Kd.R_new' (Kd.R_new' (Kd.R_new' (Kd.R_new' (Kd.R_new' ho0 (Kd.R_lt (yH HO543.out))) (Kd.R_lt (yH HO545.out))) (Kd.R_lt (yH HO551.out))) (Kd.R_lt (yH HO553.out))) (Kd.R_lt (yH HO557.out))) (Kd.R_lt (yH HO560.out))) yW); replace HO543 := aM (Kd.R_elder' (yH HO543.out) (Kd.R_base ho0) hb); replace HO545 := aM (Kd.R_elder' (yH HO545.out) (Kd.R_base ho0) hb); replace HO551 := aM (Kd.R_elder' (yH HO551.out) (Kd.R_base ho0) hb); replace HO553 := aM (Kd.R_elder' (yH HO553.out) (Kd.R_base ho0) hb); replace HO557 := aM (Kd.R_elder' (yH HO557.out) (Kd.R_base ho0) hb); replace HO560 := aM (Kd.R_elder' (yH HO560.out) (Kd.R_base ho0) hb); replace HB := aM (below_step yB hb); clear hb ho0) | (go_at_call 25; (with_reducible refine (patchworkref8_Trim.calls kj3 _ _ l1 0 t565 _ (yC (Kd.C_below HR1.out HB.out)) HC1.out A22.out).mono ?_); rintro e w35 ⟨v566, rfl, ho0, hb⟩; have HO567 := aM (Kd.R_lower (Kd.R_new' (Kd.R_new' (Kd.R_new' (Kd.R_new' (Kd.R_new' (Kd.R_new' (Kd.R_new' ho0 (Kd.R_lt (yH HO543.out))) (Kd.R_lt (yH HO545.out))) (Kd.R_lt (yH HO551.out))) (Kd.R_lt (yH HO553.out))) (Kd.R_lt (yH HO557.out))) (Kd.R_lt (yH HO560.out))) (Kd.R_lt (yH HO564.out))) yW); replace HO543 := aM (Kd.R_elder' (yH HO543.out) (Kd.R_base ho0) hb); replace HO545 := aM (Kd.R_elder' (yH HO545.out) (Kd.R_base ho0) hb); replace HO551 := aM (Kd.R_elder' (yH HO551.out) (Kd.R_base ho0) hb); replace HO553 := aM (Kd.R_elder' (yH HO553.out) (Kd.R_base ho0) hb); replace HO557 := aM (Kd.R_elder' (yH HO557.out) (Kd.R_base ho0) hb); replace HO560 := aM (Kd.R_elder' (yH HO560.out) (Kd.R_base ho0) hb); replace HO564 := aM (Kd.R_elder' (yH HO564.out) (Kd.R_base ho0) hb); replace HB := aM (below_step yB hb); clear hb ho0; obtain ⟨Ao36, co36, eo36⟩ := Kd.R_slice HO564.out; subst eo36; obtain ⟨Ao37, co37, eo37⟩ := Kd.R_slice HO567.out; subst eo37) | (go_at_call 18; (with_reducible refine (patchworkref8_Same.calls kj3 _ _ t562 _ _ t565 t568 _ (yC (Kd.R_reads' HO564.out).2.2) ((Kd.R_reads' HO564.out).2.1) (yC (Kd.R_reads' HO567.out).2.2) ((Kd.R_reads' HO567.out).2.1) A23.out).mono ?_); rintro e w' ⟨rfl, ⟨nd, rfl⟩⟩))
       go_ret
       exact ⟨yE2, yB⟩
      ·replace c20 := Bool.eq_false_iff.mpr c20
       subst c20; replace H := iF H; obtain rfl := Option.some.inj H
       go_wp2_with (first | ((with_reducible refine gate_callee (f := 16) rfl ?_); refine goesL_ (some 29) rfl rfl Try.func16 yK rfl #[.slice A0 l0.length c0, .slice A1 l1.length c1] rfl yG ?_; (with_reducible refine (swap_Ops.calls kj3 _ _ l0 _ _ l1 t539 t540 t541 _ (yC (Kd.C_below HR0.out HB.out)) HC0.out (yC (Kd.C_below HR1.out HB.out)) HC1.out A11.out).mono ?_); rintro e w38 ⟨v542, v544, rfl, ho0, ho1, hb⟩; refine ⟨_, rfl, ?_⟩; have HO543 := aM (Kd.R_lower ho0 yW); have HO545 := aM (Kd.R_lower ho1 yW); replace HB := aM (below_step yB hb); clear hb ho0 ho1) | ((with_reducible refine gate_callee (f := 19) rfl ?_); refine goesL_ (some 34) rfl rfl Try.func19 yK rfl #[.int .i64 t541] rfl yG ?_; (with_reducible refine (patchworklaw15_num.calls t541 t546 _ A12.out).mono ?_); rintro e w' ⟨rfl, ⟨nd, rfl⟩⟩; refine ⟨_, rfl, ?_⟩; obtain ⟨Ao39, co39, eo39⟩ := Kd.R_slice HO543.out; subst eo39; obtain ⟨Ao40, co40, eo40⟩ := Kd.R_slice HO545.out; subst eo40) | ((with_reducible refine gate_callee (f := 16) rfl ?_); refine goesL_ (some 39) rfl rfl Try.func16 yK rfl #[.slice Ao39 t539.length co39, .slice Ao40 t540.length co40] rfl yG ?_; (with_reducible refine (swap_Ops.calls kj3 _ _ t539 _ _ t540 t547 t548 t549 _ (yC (Kd.R_reads' HO543.out).2.2) ((Kd.R_reads' HO543.out).2.1) (yC (Kd.R_reads' HO545.out).2.2) ((Kd.R_reads' HO545.out).2.1) A14.out).mono ?_); rintro e w41 ⟨v550, v552, rfl, ho0, ho1, hb⟩; refine ⟨_, rfl, ?_⟩; have HO551 := aM (Kd.R_lower (Kd.R_new' (Kd.R_new' ho0 (Kd.R_lt (yH HO543.out))) (Kd.R_lt (yH HO545.out))) yW); have HO553 := aM (Kd.R_lower (Kd.R_new' (Kd.R_new' ho1 (Kd.R_lt (yH HO543.out))) (Kd.R_lt (yH HO545.out))) yW); replace HO543 := aM (Kd.R_mono (Kd.R_told (Kd.R_told (Kd.R_old (yH HO543.out) hb) (Kd.R_base ho0)) (Kd.R_base ho1)) (fun _ h_ => h_.1)); replace HO545 := aM (Kd.R_mono (Kd.R_told (Kd.R_told (Kd.R_old (yH HO545.out) hb) (Kd.R_base ho0)) (Kd.R_base ho1)) (fun _ h_ => h_.1)); replace HB := aM (below_step yB hb); clear hb ho0 ho1) | ((with_reducible refine gate_callee (f := 19) rfl ?_); refine goesL_ (some 44) rfl rfl Try.func19 yK rfl #[.int .i64 t549] rfl yG ?_; (with_reducible refine (patchworklaw15_num.calls t549 t554 _ A15.out).mono ?_); rintro e w' ⟨rfl, ⟨nd, rfl⟩⟩; refine ⟨_, rfl, ?_⟩; obtain ⟨Ao42, co42, eo42⟩ := Kd.R_slice HO551.out; subst eo42) | (go_at_call 25; (with_reducible refine (patchworkref8_Trim.calls kj3 _ _ t547 0 t555 _ (yC (Kd.R_reads' HO551.out).2.2) ((Kd.R_reads' HO551.out).2.1) A17.out).mono ?_); rintro e w43 ⟨v556, rfl, ho0, hb⟩; have HO557 := aM (Kd.R_lower (Kd.R_new' (Kd.R_new' (Kd.R_new' (Kd.R_new' ho0 (Kd.R_lt (yH HO543.out))) (Kd.R_lt (yH HO545.out))) (Kd.R_lt (yH HO551.out))) (Kd.R_lt (yH HO553.out))) yW); replace HO543 := aM (Kd.R_elder' (yH HO543.out) (Kd.R_base ho0) hb); replace HO545 := aM (Kd.R_elder' (yH HO545.out) (Kd.R_base ho0) hb); replace HO551 := aM (Kd.R_elder' (yH HO551.out) (Kd.R_base ho0) hb); replace HO553 := aM (Kd.R_elder' (yH HO553.out) (Kd.R_base ho0) hb); replace HB := aM (below_step yB hb); clear hb ho0) | (go_at_call 25; (with_reducible refine (patchworkref8_Trim.calls kj3 _ _ l0 0 t558 _ (yC (Kd.C_below HR0.out HB.out)) HC0.out A18.out).mono ?_); rintro e w44 ⟨v559, rfl, ho0, hb⟩; have HO560 := aM (Kd.R_lower (Kd.R_new' (Kd.R_new' (Kd.R_new' (Kd.R_new' (Kd.R_new' ho0 (Kd.R_lt (yH HO543.out))) (Kd.R_lt (yH HO545.out))) (Kd.R_lt (yH HO551.out))) (Kd.R_lt (yH HO553.out))) (Kd.R_lt (yH HO557.out))) yW); replace HO543 := aM (Kd.R_elder' (yH HO543.out) (Kd.R_base ho0) hb); replace HO545 := aM (Kd.R_elder' (yH HO545.out) (Kd.R_base ho0) hb); replace HO551 := aM (Kd.R_elder' (yH HO551.out) (Kd.R_base ho0) hb); replace HO553 := aM (Kd.R_elder' (yH HO553.out) (Kd.R_base ho0) hb); replace HO557 := aM (Kd.R_elder' (yH HO557.out) (Kd.R_base ho0) hb); replace HB := aM (below_step yB hb); clear hb ho0; obtain ⟨Ao45, co45, eo45⟩ := Kd.R_slice HO557.out; subst eo45; obtain ⟨Ao46, co46, eo46⟩ := Kd.R_slice HO560.out; subst eo46) | (go_at_call 18; (with_reducible refine (patchworkref8_Same.calls kj3 _ _ t555 _ _ t558 false _ (yC (Kd.R_reads' HO557.out).2.2) ((Kd.R_reads' HO557.out).2.1) (yC (Kd.R_reads' HO560.out).2.2) ((Kd.R_reads' HO560.out).2.1) A19.out).mono ?_); rintro e w' ⟨rfl, ⟨nd, rfl⟩⟩))
       go_ret
       exact ⟨yE2, yB⟩
     ·rw [if_neg c16] at H
      have c16b0 := beq_eq_false_iff_ne.mpr c16; have c16b1 := bne_iff_ne.mpr c16; obtain rfl := Option.some.inj H
      go_wp2_with (first | ((with_reducible refine gate_callee (f := 16) rfl ?_); refine goesL_ (some 29) rfl rfl Try.func16 yK rfl #[.slice A0 l0.length c0, .slice A1 l1.length c1] rfl yG ?_; (with_reducible refine (swap_Ops.calls kj3 _ _ l0 _ _ l1 t539 t540 t541 _ (yC (Kd.C_below HR0.out HB.out)) HC0.out (yC (Kd.C_below HR1.out HB.out)) HC1.out A11.out).mono ?_); rintro e w47 ⟨v542, v544, rfl, ho0, ho1, hb⟩; refine ⟨_, rfl, ?_⟩; have HO543 := aM (Kd.R_lower ho0 yW); have HO545 := aM (Kd.R_lower ho1 yW); replace HB := aM (below_step yB hb); clear hb ho0 ho1) | ((with_reducible refine gate_callee (f := 19) rfl ?_); refine goesL_ (some 34) rfl rfl Try.func19 yK rfl #[.int .i64 t541] rfl yG ?_; (with_reducible refine (patchworklaw15_num.calls t541 t546 _ A12.out).mono ?_); rintro e w' ⟨rfl, ⟨nd, rfl⟩⟩; refine ⟨_, rfl, ?_⟩; obtain ⟨Ao48, co48, eo48⟩ := Kd.R_slice HO543.out; subst eo48; obtain ⟨Ao49, co49, eo49⟩ := Kd.R_slice HO545.out; subst eo49) | ((with_reducible refine gate_callee (f := 16) rfl ?_); refine goesL_ (some 39) rfl rfl Try.func16 yK rfl #[.slice Ao48 t539.length co48, .slice Ao49 t540.length co49] rfl yG ?_; (with_reducible refine (swap_Ops.calls kj3 _ _ t539 _ _ t540 t547 t548 t549 _ (yC (Kd.R_reads' HO543.out).2.2) ((Kd.R_reads' HO543.out).2.1) (yC (Kd.R_reads' HO545.out).2.2) ((Kd.R_reads' HO545.out).2.1) A14.out).mono ?_); rintro e w50 ⟨v550, v552, rfl, ho0, ho1, hb⟩; refine ⟨_, rfl, ?_⟩; have HO551 := aM (Kd.R_lower (Kd.R_new' (Kd.R_new' ho0 (Kd.R_lt (yH HO543.out))) (Kd.R_lt (yH HO545.out))) yW); have HO553 := aM (Kd.R_lower (Kd.R_new' (Kd.R_new' ho1 (Kd.R_lt (yH HO543.out))) (Kd.R_lt (yH HO545.out))) yW); replace HO543 := aM (Kd.R_mono (Kd.R_told (Kd.R_told (Kd.R_old (yH HO543.out) hb) (Kd.R_base ho0)) (Kd.R_base ho1)) (fun _ h_ => h_.1)); replace HO545 := aM (Kd.R_mono (Kd.R_told (Kd.R_told (Kd.R_old (yH HO545.out) hb) (Kd.R_base ho0)) (Kd.R_base ho1)) (fun _ h_ => h_.1)); replace HB := aM (below_step yB hb); clear hb ho0 ho1) | ((with_reducible refine gate_callee (f := 19) rfl ?_); refine goesL_ (some 44) rfl rfl Try.func19 yK rfl #[.int .i64 t549] rfl yG ?_; (with_reducible refine (patchworklaw15_num.calls t549 t554 _ A15.out).mono ?_); rintro e w' ⟨rfl, ⟨nd, rfl⟩⟩; refine ⟨_, rfl, ?_⟩))
      go_ret
      exact ⟨yE2, yB⟩
    ·rw [if_neg c13] at H
     have c13b0 := beq_eq_false_iff_ne.mpr c13; have c13b1 := bne_iff_ne.mpr c13; obtain rfl := Option.some.inj H
     go_wp2_with (first | ((with_reducible refine gate_callee (f := 16) rfl ?_); refine goesL_ (some 29) rfl rfl Try.func16 yK rfl #[.slice A0 l0.length c0, .slice A1 l1.length c1] rfl yG ?_; (with_reducible refine (swap_Ops.calls kj3 _ _ l0 _ _ l1 t539 t540 t541 _ (yC (Kd.C_below HR0.out HB.out)) HC0.out (yC (Kd.C_below HR1.out HB.out)) HC1.out A11.out).mono ?_); rintro e w51 ⟨v542, v544, rfl, ho0, ho1, hb⟩; refine ⟨_, rfl, ?_⟩; have HO543 := aM (Kd.R_lower ho0 yW); have HO545 := aM (Kd.R_lower ho1 yW); replace HB := aM (below_step yB hb); clear hb ho0 ho1) | ((with_reducible refine gate_callee (f := 19) rfl ?_); refine goesL_ (some 34) rfl rfl Try.func19 yK rfl #[.int .i64 t541] rfl yG ?_; (with_reducible refine (patchworklaw15_num.calls t541 t546 _ A12.out).mono ?_); rintro e w' ⟨rfl, ⟨nd, rfl⟩⟩; refine ⟨_, rfl, ?_⟩))
     go_ret
     exact ⟨yE2, yB⟩
end Go.Proofs.Ytfoponahdidddaa.P
namespace Go.Proofs.Ytfoponahdidddaa.P
open Go.RowKit Go.Proofs.YtfoponahdidddaaW.PrintWords Go.Proofs.YtfoponahdidddaaW.PrintLast Go.Proofs.YtfoponahdidddaaW.PrintMore
def SwapBack.Pure : Prop := ∀ (l0 : List (Op)) (l1 : List (Op)), ((fun xs => ∀ y ∈ xs, okOp y) l0) → ((fun xs => ∀ y ∈ xs, okOp y) l1) → (fun xs => (xs.map wtOp).sum + 1) l0 + (fun xs => (xs.map wtOp).sum + 1) l1 ≤ 1048576 → ∃ k, patchworklaw15_SwapBack.f k l0 l1 = some true
end Go.Proofs.Ytfoponahdidddaa.P
namespace Go.Proofs.Ytfoponahdidddaa.P
open Go.RowKit Go.Proofs.YtfoponahdidddaaW.PrintWords Go.Proofs.YtfoponahdidddaaW.PrintLast Go.Proofs.YtfoponahdidddaaW.PrintMore
theorem SwapBack.out (a b : List Op) : Ev (fun k => patchworklaw15_SwapBack.j0 k a b true true) true := by
  refine Ev.step (fun k => rfl) ?_
  simp only [patchworklaw15_SwapBack.j0, if_true]
  exact Ev.now true
theorem SwapBack.proved : SwapBack.Pure := by
  intro p q _ _ hw
  simp only at hw
  have fp := fewN_le p
  have fq := fewN_le q
  refine Ev.rounds ?_
  simp only [patchworklaw15_SwapBack.f]
  refine Ev.bind' alive15 ?_
  simp only [if_true]
  refine Ev.bind' (few_ev (by omega)) ?_
  by_cases h : fewN p ≤ 600
  · simp only [h, decide_true, if_true]
    refine Ev.bind' (few_ev (by omega)) ?_
    by_cases h2 : fewN q ≤ 600
    · simp only [h2, decide_true, Bool.not_true]
      have hp := Sx.of_few h
      have hq := Sx.of_few h2
      have lp := fewN_len p
      have lq := fewN_len q
      obtain ⟨sx, sy⟩ := hp.swap hq (by omega)
      have l1 := (swap_len hp hq).1.1
      have l2 := (swap_len hp hq).2.1
      obtain ⟨sa, sb⟩ := sx.swap sy (by omega)
      have l3 := (swap_len sx sy).1.1
      have l4 := (swap_len sx sy).2.1
      have n1 := trim_le (l := (swapL (swapL p q).1 (swapL p q).2.1).1) 0
      have n2 := trim_le (l := (swapL (swapL p q).1 (swapL p q).2.1).2.1) 0
      refine Ev.step (fun k => rfl) ?_
      simp only [patchworklaw15_SwapBack.j0, Bool.false_eq_true, if_false]
      refine Ev.bind' (pswap_ev hp hq) ?_
      simp only [num_val, Option.bind_some]
      by_cases h0 : (swapL p q).2.2 = 0
      · obtain ⟨k0, k1, k2⟩ := swap_back hp hq (by omega) h0
        simp only [if_pos h0]
        refine Ev.bind' (pswap_ev sx sy) ?_
        simp only [if_pos k0]
        refine Ev.bind' (reftrim_ev sa.sm 0) ?_
        refine Ev.bind' (reftrim_ev hp.sm 0) ?_
        refine Ev.bind' (same_ev _ _ (by omega)) ?_
        rw [k1]
        simp only [decide_true, if_true]
        refine Ev.bind' (reftrim_ev sb.sm 0) ?_
        refine Ev.bind' (reftrim_ev hq.sm 0) ?_
        refine Ev.bind' (same_ev _ _ (by omega)) ?_
        rw [k2]
        simp only [decide_true]
        exact Ev.now true
      · simp only [if_neg h0]
        exact Ev.now true
    · simp only [h2, decide_false, Bool.not_false]
      exact SwapBack.out p q
  · simp only [h, decide_false, Bool.false_eq_true, if_false]
    exact SwapBack.out p q
end Go.Proofs.Ytfoponahdidddaa.P
namespace Go.Proofs.Ytfoponahdidddaa.P.swapBack
open Go.ChangeShapes Go.WideShapes Go.ChangeAt Go.RowKit Go.Proofs.Ytfoponahdidddaa.P Go.Proofs.YtfoponahdidddaaW.PrintWords
open Go.ChangeMaps (open_string shut_string)
theorem own : ownKnob Try.prog.godebug = none := by kernel_rfl
theorem laidOut : laidOutB Try.prog = true := by kernel_rfl
theorem opens0 : Opens Try.prog 41 kOp okOp wtOp := (opens_struct3 (d0 := (Kd.int .i64)) (d1 := (Kd.int .i64)) (d2 := Kd.string) Try.underlying41 (by kernel_rfl) rfl rfl rfl rfl rfl rfl (opens_int Try.underlying3 (by kernel_rfl)) (opens_int Try.underlying3 (by kernel_rfl)) (opens_string Try.underlying9 (by kernel_rfl)) (fun x : Op => (x.f0, x.f1, x.f2)) (fun a b c => ⟨a, b, c⟩) (fun _ _ _ => rfl))
theorem opens1 : Opens Try.prog 41 kOp okOp wtOp := (opens_struct3 (d0 := (Kd.int .i64)) (d1 := (Kd.int .i64)) (d2 := Kd.string) Try.underlying41 (by kernel_rfl) rfl rfl rfl rfl rfl rfl (opens_int Try.underlying3 (by kernel_rfl)) (opens_int Try.underlying3 (by kernel_rfl)) (opens_string Try.underlying9 (by kernel_rfl)) (fun x : Op => (x.f0, x.f1, x.f2)) (fun a b c => ⟨a, b, c⟩) (fun _ _ _ => rfl))
set_option maxRecDepth 100000 in
theorem contract (H : Type) (enc : TypeId × Value → H) (W : World) (base : Nat) (args : Array Value) (ds gs : List (DataW H)) (before : List MemPlace)
    (hval : ∀ (j : Nat) t v, Try.f6.params[j]? = some t → args[j]? = some v → Value.okWide Try.prog W .any base t v)
    (hW : DataW.Whole enc Try.prog Try.f6.params.toList Rows.swapBackSpec.vars false W args.toList ds gs before) (hk : Rows.uptoSmall H (ds ++ gs) = true) :
    Calls Try.prog 6 args W fun e W' => ∃ v, e = .returned v ∧ Rows.swapBackSpec.post enc Try.prog Try.f6 false true false false W args v W' := by
  have hW' := hW
  obtain ⟨p, q, hA0, hV, rfl, hfz, hnd⟩ := hW
  have hA : DataW.TrodAll enc Try.prog W 0 (fun _ => true) true Try.f6.params.toList args.toList ds p := hA0
  rw [Try.params6] at hA hval
  obtain ⟨v0, vs0, d0, ds0, p0, q0, hargs, rfl, rfl, h0, r0⟩ := trodAll_cons hA
  obtain ⟨v1, vs1, d1, ds1, p1, q1, rfl, rfl, rfl, h1, r1⟩ := trodAll_cons r0
  obtain ⟨rfl, rfl, rfl⟩ := trodAll_nil r1
  obtain rfl : args = #[v0, v1] := by cases args; simp_all
  obtain ⟨rfl, rfl⟩ := trodVars_none hV
  have hb := small_all hk
  simp only [List.append_nil, Rows.uptoBulkAll] at hb
  obtain ⟨A0, len0, c0, rfl⟩ := okWide_slice Try.underlying22 (hval 0 22 v0 rfl rfl)
  have k0 := h0
  have lt0 : ∀ x ∈ p0, x.block < W.heap.size := by obtain ⟨m, hm⟩ := k0; exact DataW.trod_lt m _ _ _ hm
  obtain ⟨fuel0, hf0⟩ := h0
  obtain ⟨A0', c0', l0, hcs0, hc0, hr0, ok0, wt0⟩ := open_row Try.underlying22 opens0 hf0
  simp only [Value.cells, List.cons.injEq, Value.slice.injEq, and_true] at hcs0
  obtain ⟨rfl, rfl, rfl⟩ := hcs0
  obtain ⟨A1, len1, c1, rfl⟩ := okWide_slice Try.underlying22 (hval 1 22 v1 rfl rfl)
  have k1 := h1
  have lt1 : ∀ x ∈ p1, x.block < W.heap.size := by obtain ⟨m, hm⟩ := k1; exact DataW.trod_lt m _ _ _ hm
  obtain ⟨fuel1, hf1⟩ := h1
  obtain ⟨A1', c1', l1, hcs1, hc1, hr1, ok1, wt1⟩ := open_row Try.underlying22 opens1 hf1
  simp only [Value.cells, List.cons.injEq, Value.slice.injEq, and_true] at hcs1
  obtain ⟨rfl, rfl, rfl⟩ := hcs1
  clear hA0 hval
  obtain ⟨k, hp⟩ := SwapBack.proved l0 l1 ok0 ok1 (by simp only [] at *; omega)
  refine (patchworklaw15_SwapBack.calls k _ _ l0 _ _ l1 true W hr0 hc0 hr1 hc1 hp).mono fun e W' ⟨he, bel0⟩ => ?_
  have bel : Below W.heap.size W W' := bel0
  subst he
  exact ⟨_, rfl, _, _, _, [], _, [], hW', trodAll_mk1 (shut_bool Try.underlying4 _), (trodAll_cons_mk (Below.trod laidOut (by kernel_rfl) (of_decide_eq_true (by kernel_rfl)) k0 bel lt0) (trodAll_cons_mk (Below.trod laidOut (by kernel_rfl) (of_decide_eq_true (by kernel_rfl)) k1 bel lt1) trodAll_mk0)), rfl, bel.frame _, fun h => by cases h⟩
set_option maxRecDepth 100000 in
theorem lifted (os : Os) (started : os.Started) (H : Type) (enc : TypeId × Value → H) (F : Stop.Interp) :
    ReturnsInHanded {} Try.checked os 6 .any ((Rows.OpenSpec.upto Rows.swapBackSpec).pre6 enc Try.prog Try.f6 Rows.swapBackUptoRow.domain false) (((Rows.OpenSpec.upto Rows.swapBackSpec).at F).post enc Try.prog Try.f6 false true false false) := by
  refine returnsInHanded_of_cond (C := Try.checked) (s := Rows.OpenSpec.upto Rows.swapBackSpec) (k := Rows.uptoSmall) rfl own started (by kernel_rfl) Try.func6
    (OpenSpec.witness (enc := enc) (C := Try.checked) (s := Rows.OpenSpec.upto Rows.swapBackSpec) (k := Rows.uptoSmall) rfl false ⟨#[], #[.slice none 0 0, .slice none 0 0], []⟩ 8 (by kernel_rfl) (by kernel_rfl) (by kernel_rfl)
      (x := ([.nil, .nil], [], [])) (by kernel_rfl) rfl (by kernel_rfl)) ?_
  intro W base args ds gs before hval hW _ hk _
  exact contract H enc W base args ds gs before hval hW hk
theorem over : Rows.swapBackUptoRow.holds Try.pinned (Rows.OpenSpec.upto Rows.swapBackSpec) :=
  OpenClaim.holds_of_cond 6 Try.f6 rfl rfl rfl rfl rfl rfl rfl ⟨rfl, rfl, rfl, rfl, rfl⟩ rfl rfl rfl rfl rfl (by kernel_rfl) Try.func6 (by kernel_rfl)
    (of_decide_eq_true (by kernel_rfl)) (by unfold Func.isWrapper; first | (rw [if_pos (by decide +kernel)]; kernel_rfl) | (rw [if_neg (by decide +kernel)]; exact ⟨rfl, rfl⟩))
    (fun os started H enc _ F => lifted os started H enc F)
theorem proved : Rows.SwapBackUptoSaid := over
end Go.Proofs.Ytfoponahdidddaa.P.swapBack
namespace Go.Proofs.Ytfoponahdidddaa
theorem swapBack_holds : Rows.SwapBackUptoSaid := P.swapBack.proved
#print axioms swapBack_holds
end Go.Proofs.Ytfoponahdidddaa
