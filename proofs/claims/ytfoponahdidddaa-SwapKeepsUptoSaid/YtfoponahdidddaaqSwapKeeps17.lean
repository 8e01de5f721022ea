/- The law SwapKeeps answers true, for all arguments that hold together at most 1048576 values and letters, and leaves them as they were. -/
import Derived.Test.YtfoponahdidddaaqSwapKeeps4
import Derived.Test.YtfoponahdidddaaqSwapKeeps5
import Derived.Test.YtfoponahdidddaaqSwapKeeps3
import Derived.Test.YtfoponahdidddaaqSwapKeeps6
import Derived.Test.YtfoponahdidddaaqSwapKeeps16
import Derived.Test.YtfoponahdidddaaqSwapKeeps13
import Derived.Test.YtfoponahdidddaaqSwapKeeps9
import Derived.WalkKit
import Derived.ProofKit
import Derived.OpenShut
import Derived.ShutString
import Derived.ChangeOld
import Derived.Below
import Derived.SizedLaws
import Derived.JoinedCond
set_option linter.unusedVariables false
set_option linter.unusedSimpArgs false
namespace Go.Proofs.Ytfoponahdidddaa.P
open Go.RowKit Go.Proofs.YtfoponahdidddaaW.PrintWords Go.Proofs.YtfoponahdidddaaW.PrintLast Go.Proofs.YtfoponahdidddaaW.PrintMore
open Go.Proofs.YtfoponahdidddaaW.PrintWords.Aside0 renaming mk → aM
attribute [local go_sem] max2_int min2_int max_two min_two max_three min_three max_four min_four
attribute [local go_sem high] eqAOp
set_option maxHeartbeats 8000000 in
set_option maxRecDepth 100000 in
theorem patchworklaw15_SwapKeeps.calls (k : Nat) (A0 : Option Addr) (c0 : Nat) (l0 : List (Op)) (A1 : Option Addr) (c1 : Nat) (l1 : List (Op)) (r : Bool) (w : World) (hr0 : Kd.C kOp w A0 l0.length l0) (hc0 : l0.length ≤ c0) (hr1 : Kd.C kOp w A1 l1.length l1) (hc1 : l1.length ≤ c1) (h : patchworklaw15_SwapKeeps.f k l0 l1 = some r) :
  Calls Try.prog 5 #[.slice A0 l0.length c0, .slice A1 l1.length c1] w fun e w' => e = .returned (.bool r) ∧ Below w.heap.size w w' := by
 have HR0 := aM hr0
 have HC0 := aM hc0
 clear hr0 hc0
 have HR1 := aM hr1
 have HC1 := aM hc1
 clear hr1 hc1
 have HB := aM (Below.refl w.heap.size w)
 have H : ((patchworklaw15_alive.f k).bind fun t459 => (if t459 = true then ((patchworklaw8_Few.f k l0).bind fun t460 => (if t460 = true then ((patchworklaw8_Few.f k l1).bind fun t461 => (patchworklaw15_SwapKeeps.j0 k l0 l1 t459 (!t461))) else (patchworklaw15_SwapKeeps.j0 k l0 l1 t459 true))) else (patchworklaw15_SwapKeeps.j0 k l0 l1 t459 true))) = some r := h
 clear h
 obtain ⟨t459, A3, H⟩ := oB H
 have HC4 := aM H
 clear H
 go_enter Try.func5, Try.ntmps5
 go_upto_region 2 with (first | ((with_reducible refine gate_callee (f := 14) rfl ?_); refine goesL_ (some 9) rfl rfl Try.func14 yK rfl #[] rfl yG ?_; (with_reducible refine (patchworklaw15_alive.calls k  t459 _ A3.out).mono ?_); rintro e w5 ⟨rfl, hb⟩; refine ⟨_, rfl, ?_⟩; replace HB := aM (below_step yB hb); clear hb))
 (try simp only [Act.put, List.setIfInBounds_toArray, List.set_cons_zero, List.set_cons_succ])
 go_cut [21] (fun v21 wc => ∃ (kq : Nat) (x21_3 : Bool), v21 = .bool x21_3 ∧ Aside0 (patchworklaw15_SwapKeeps.j0 kq l0 l1 t459 x21_3 = some r) ∧ Aside0 (kq ≤ k) ∧ Aside0 (Below w.heap.size w wc))
 case first =>
  have H := HC4.out; clear HC4
  by_cases c6 : t459 = true
  ·subst c6
   replace H := iT H; obtain ⟨t460, A7, H⟩ := oB H
   by_cases c8 : t460 = true
   ·subst c8
    replace H := iT H; obtain ⟨t461, A9, H⟩ := oB H; have H' := aM H; clear H
    go_wp2_with (first | (go_at_call 15; (with_reducible refine (patchworklaw8_Few.calls k _ _ l0 true _ (yC (Kd.C_below HR0.out HB.out)) HC0.out A7.out).mono ?_); rintro e w' ⟨rfl, ⟨nd, rfl⟩⟩) | (go_at_call 15; (with_reducible refine (patchworklaw8_Few.calls k _ _ l1 t461 _ (yC (Kd.C_below HR1.out yB)) HC1.out A9.out).mono ?_); rintro e w' ⟨rfl, ⟨nd, rfl⟩⟩))
    go_meet
    case rel => exact ⟨_, (!t461), yE, H', ⟨by first | omega | exact Nat.le_refl _⟩, ⟨yB⟩⟩
   ·replace c8 := Bool.eq_false_iff.mpr c8
    subst c8; have H' := aM (iF H); clear H
    go_wp2_with (first | (go_at_call 15; (with_reducible refine (patchworklaw8_Few.calls k _ _ l0 false _ (yC (Kd.C_below HR0.out HB.out)) HC0.out A7.out).mono ?_); rintro e w' ⟨rfl, ⟨nd, rfl⟩⟩))
    go_meet
    case rel => exact ⟨_, (true), yE, H', ⟨by first | omega | exact Nat.le_refl _⟩, ⟨yB⟩⟩
  ·replace c6 := Bool.eq_false_iff.mpr c6
   subst c6; have H' := aM (iF H); clear H
   go_wp2
   go_meet
   case rel => exact ⟨_, (true), yE, H', ⟨by first | omega | exact Nat.le_refl _⟩, ⟨yB⟩⟩
 case rest =>
  clear HC4; (try clear c1); (try clear p2); (try clear c5); (try clear c6); (try clear c8); obtain ⟨kq, x21_3, rfl, HA, HJ3, HB⟩ := hcut; cases kq with
  | zero => exact absurd HA.out (by simp [patchworklaw15_SwapKeeps.j0])
  | succ kj3 =>
   have H := HA.out; clear HA; simp only [patchworklaw15_SwapKeeps.j0] at H
   by_cases c10 : x21_3 = true
   ·subst c10
    replace H := iT H; obtain rfl := Option.some.inj H
    go_wp2
    go_ret
    exact ⟨yE2, yB⟩
   ·replace c10 := Bool.eq_false_iff.mpr c10
    subst c10; replace H := iF H; replace H := Option.bind_eq_some_iff.mp H; obtain ⟨⟨t462, t463, t464⟩, A110, H⟩ := H; replace H : ((patchworklaw15_num.f t464).bind fun t469 => (if t469 = 0 then ((patchworklaw15_changes.f kj3 t462).bind fun t470 => ((patchworkref8_Norm.f kj3 l1).bind fun t473 => ((patchworklaw15_changes.f kj3 t473).bind fun t476 => ((patchworkref8_Same.f kj3 t470 t476).bind fun t479 => (if t479 = true then ((patchworklaw15_changes.f kj3 t463).bind fun t480 => ((patchworkref8_Norm.f kj3 l0).bind fun t483 => ((patchworklaw15_changes.f kj3 t483).bind fun t486 => ((patchworkref8_Same.f kj3 t480 t486).bind fun t489 => (some t489))))) else (some false)))))) else (if (t462.length : Int) = 0 then (some ((t463.length : Int) == 0)) else (some false)))) = some r := H; have A11 := aM A110; clear A110; obtain ⟨t469, A12, H⟩ := oB H
    by_cases c13 : t469 = 0
    ·rw [if_pos c13] at H
     have c13b0 := beq_iff_eq.mpr c13; have c13b1 := bne_eq_false_iff_eq.mpr c13; clear c13; obtain ⟨t470, A14, H⟩ := oB H; obtain ⟨t473, A15, H⟩ := oB H; obtain ⟨t476, A16, H⟩ := oB H; obtain ⟨t479, A17, H⟩ := oB H
     by_cases c18 : t479 = true
     ·subst c18
      replace H := iT H; obtain ⟨t480, A19, H⟩ := oB H; obtain ⟨t483, A20, H⟩ := oB H; obtain ⟨t486, A21, H⟩ := oB H; obtain ⟨t489, A22, H⟩ := oB H; obtain rfl := Option.some.inj H
      go_wp2_with (first | ((with_reducible refine gate_callee (f := 16) rfl ?_); refine goesL_ (some 26) rfl rfl Try.func16 yK rfl #[.slice A0 l0.length c0, .slice A1 l1.length c1] rfl yG ?_; (with_reducible refine (swap_Ops.calls kj3 _ _ l0 _ _ l1 t462 t463 t464 _ (yC (Kd.C_below HR0.out HB.out)) HC0.out (yC (Kd.C_below HR1.out HB.out)) HC1.out A11.out).mono ?_); rintro e w23 ⟨v465, v467, rfl, ho0, ho1, hb⟩; refine ⟨_, rfl, ?_⟩; have HO466 := aM (Kd.R_lower ho0 yW); have HO468 := aM (Kd.R_lower ho1 yW); replace HB := aM (below_step yB hb); clear hb ho0 ho1) | ((with_reducible refine gate_callee (f := 19) rfl ?_); refine goesL_ (some 31) rfl rfl Try.func19 yK rfl #[.int .i64 t464] rfl yG ?_; (with_reducible refine (patchworklaw15_num.calls t464 t469 _ A12.out).mono ?_); rintro e w' ⟨rfl, ⟨nd, rfl⟩⟩; refine ⟨_, rfl, ?_⟩; obtain ⟨Ao24, co24, eo24⟩ := Kd.R_slice HO466.out; subst eo24) | ((with_reducible refine gate_callee (f := 23) rfl ?_); refine goesL_ (some 42) rfl rfl Try.func23 yK rfl #[.slice Ao24 t462.length co24] rfl yG ?_; (with_reducible refine (patchworklaw15_changes.calls kj3 _ _ t462 t470 _ (yC (Kd.R_reads' HO466.out).2.2) ((Kd.R_reads' HO466.out).2.1) A14.out).mono ?_); rintro e w25 ⟨v471, rfl, ho0, hb⟩; refine ⟨_, rfl, ?_⟩; have HO472 := aM (Kd.R_lower (Kd.R_new' (Kd.R_new' ho0 (Kd.R_lt (yH HO466.out))) (Kd.R_lt (yH HO468.out))) yW); replace HO466 := aM (Kd.R_elder' (yH HO466.out) (Kd.R_base ho0) hb); replace HO468 := aM (Kd.R_elder' (yH HO468.out) (Kd.R_base ho0) hb); replace HB := aM (below_step yB hb); clear hb ho0) | ((with_reducible refine gate_callee (f := 24) rfl ?_); refine goesL_ (some 44) rfl rfl Try.func24 yK rfl #[.slice A1 l1.length c1] rfl yG ?_; (with_reducible refine (patchworkref8_Norm.calls kj3 _ _ l1 t473 _ (yC (Kd.C_below HR1.out HB.out)) HC1.out A15.out).mono ?_); rintro e w26 ⟨v474, rfl, ho0, hb⟩; refine ⟨_, rfl, ?_⟩; have HO475 := aM (Kd.R_lower (Kd.R_new' (Kd.R_new' (Kd.R_new' ho0 (Kd.R_lt (yH HO466.out))) (Kd.R_lt (yH HO468.out))) (Kd.R_lt (yH HO472.out))) yW); replace HO466 := aM (Kd.R_elder' (yH HO466.out) (Kd.R_base ho0) hb); replace HO468 := aM (Kd.R_elder' (yH HO468.out) (Kd.R_base ho0) hb); replace HO472 := aM (Kd.R_elder' (yH HO472.out) (Kd.R_base ho0) hb); replace HB := aM (below_step yB hb); clear hb ho0; obtain ⟨Ao27, co27, eo27⟩ := Kd.R_slice HO475.out; subst eo27) | ((with_reducible refine gate_callee (f := 23) rfl ?_); refine goesL_ (some 45) rfl rfl Try.func23 yK rfl #[.slice Ao27 t473.length co27] rfl yG ?_; (with_reducible refine (patchworklaw15_changes.calls kj3 _ _ t473 t476 _ (yC (Kd.R_reads' HO475.out).2.2) ((Kd.R_reads' HO475.out).2.1) A16.out).mono ?_); rintro e w28 ⟨v477, rfl, ho0, hb⟩; refine ⟨_, rfl, ?_⟩; have HO478 := aM (Kd.R_lower (Kd.R_new' (Kd.R_new' (Kd.R_new' (Kd.R_new' ho0 (Kd.R_lt (yH HO466.out))) (Kd.R_lt (yH HO468.out))) (Kd.R_lt (yH HO472.out))) (Kd.R_lt (yH HO475.out))) yW); replace HO466 := aM (Kd.R_elder' (yH HO466.out) (Kd.R_base ho0) hb); replace HO468 := aM (Kd.R_elder' (yH HO468.out) (Kd.R_base ho0) hb); replace HO472 := aM (Kd.R_elder' (yH HO472.out) (Kd.R_base ho0) hb); replace HO475 := aM (Kd.R_elder' (yH HO475.out) (Kd.R_base ho0) hb); replace HB := aM (below_step yB hb); clear hb ho0; obtain ⟨Ao29, co29, eo29⟩ := Kd.R_slice HO472.out; subst eo29; obtain ⟨Ao30, co30, eo30⟩ := Kd.R_slice HO478.out; subst eo30) | ((with_reducible refine gate_callee (f := 18) rfl ?_); refine goesL_ (some 46) rfl rfl Try.func18 yK rfl #[.slice Ao29 t470.length co29, .slice Ao30 t476.length co30] rfl yG ?_; (with_reducible refine (patchworkref8_Same.calls kj3 _ _ t470 _ _ t476 true _ (yC (Kd.R_reads' HO472.out).2.2) ((Kd.R_reads' HO472.out).2.1) (yC (Kd.R_reads' HO478.out).2.2) ((Kd.R_reads' HO478.out).2.1) A17.out).mono ?_); rintro e w' ⟨rfl, ⟨nd, rfl⟩⟩; refine ⟨_, rfl, ?_⟩; obtain ⟨Ao31, co31, eo31⟩ := Kd.R_slice HO468.out; subst eo31) | (go_at_call 23; (with_reducible refine (patchworklaw15_changes.calls kj3 _ _ t463 t480 _ (yC (Kd.R_reads' HO468.out).2.2) ((Kd.R_reads' HO468.out).2.1) A19.out).mono ?_); rintro e w32 ⟨v481, rfl, ho0, hb⟩; have HO482 := aM (Kd.R_lower (Kd.R_new' (Kd.R_new' (Kd.R_new' (Kd.R_new' (Kd.R_new' ho0 (Kd.R_lt (yH HO466.out))) (Kd.R_lt (yH HO468.out))) (Kd.R_lt (yH HO472.out))) (Kd.R_lt (yH HO475.out))) (Kd.R_lt (yH HO478.out))) yW); replace HO466 := aM (Kd.R_elder' (yH HO466.out) (Kd.R_base ho0) hb); replace HO468 := aM (Kd.R_elder' (yH HO468.out) (Kd.R_base ho0) hb); replace HO472 := aM (Kd.R_elder' (yH HO472.out) (Kd.R_base ho0) hb); replace HO475 := aM (Kd.R_elder' (yH HO475.out) (Kd.R_base ho0) hb); replace HO478 := aM (Kd.R_elder' (yH HO478.out) (Kd.R_base ho0) hb); replace HB := aM (below_step yB hb); clear hb ho0) | (go_at_call 24; (with_reducible refine (patchworkref8_Norm.calls kj3 _ _ l0 t483 _ (yC (Kd.C_below HR0.out HB.out)) HC0.out A20.out).mono ?_); rintro e w33 ⟨v484, rfl, ho0, hb⟩; have HO485 := aM (Kd.R_lower (Kd.R_new' (Kd.R_new' (Kd.R_new' (Kd.R_new' (Kd.R_new' (Kd.R_new' ho0 (Kd.R_lt (yH HO466.out))) (Kd.R_lt (yH HO468.out))) (Kd.R_lt (yH HO472.out))) (Kd.R_lt (yH HO475.out))) (Kd.R_lt (yH HO478.out))) (Kd.R_lt (yH HO482.out))) yW); replace HO466 := aM (Kd.R_elder' (yH HO466.out) (Kd.R_base ho0) hb); replace HO468 := aM (Kd.R_elder' (yH HO468.out) (Kd.R_base ho0) hb); replace HO472 := aM (Kd.R_elder' (yH HO472.out) (Kd.R_base ho0) hb); replace HO475 := aM (Kd.R_elder' (yH HO475.out) (Kd.R_base ho0) hb); replace HO478 := aM (Kd.R_elder' (yH HO478.out) (Kd.R_base ho0) hb); replace HO482 := aM (Kd.R_elder' (yH HO482.out) (Kd.R_base ho0) hb); replace HB := aM (below_step yB hb); clear hb ho0; obtain ⟨Ao34, co34, eo34⟩ := Kd.R_slice HO485.out; subst eo34) | (go_at_call 23; (with_reducible refine (patchworklaw15_changes.calls kj3 _ _ t483 t486 _ (yC (Kd.R_reads' HO485.out).2.2) ((Kd.R_reads' HO485.out).2.1) A21.out).mono ?_); rintro e w35 ⟨v487, rfl, ho0, hb⟩; have HO488 := aM (Kd.R_lower (Kd.R_new' (Kd.R_new' (Kd.R_new' (Kd.R_new' (Kd.R_new' (Kd.R_new' (Kd.R_new' ho0 (Kd.R_lt (yH HO466.out))) (Kd.R_lt (yH HO468.out))) (Kd.R_lt (yH HO472.out))) (Kd.R_lt (yH HO475.out))) (Kd.R_lt (yH HO478.out))) (Kd.R_lt (yH HO482.out))) (Kd.R_lt (yH HO485.out))) yW); replace HO466 := aM (Kd.R_elder' (yH HO466.out) (Kd.R_base ho0) hb); replace HO468 := aM (Kd.R_elder' (yH HO468.out) (Kd.R_base ho0) hb); replace HO472 := aM (Kd.R_elder' (yH HO472.out) (Kd.R_base ho0) hb); replace HO475 := aM (Kd.R_elder' (yH HO475.out) (Kd.R_base ho0) hb); replace HO478 := aM (Kd.R_elder' (yH HO478.out) (Kd.R_base ho0) hb); replace HO482 := aM (Kd.R_elder' (yH HO482.out) (Kd.R_base ho0) hb); replace HO485 := aM (Kd.R_elder' (yH HO485.out) (Kd.R_base ho0) hb); replace HB := aM (below_step yB hb); clear hb ho0; obtain ⟨Ao36, co36, eo36⟩ := Kd.R_slice HO482.out; subst eo36; obtain ⟨Ao37, co37, eo37⟩ := Kd.R_slice HO488.out; subst eo37) | (go_at_call 18; (with_reducible refine (patchworkref8_Same.calls kj3 _ _ t480 _ _ t486 t489 _ (yC (Kd.R_reads' HO482.out).2.2) ((Kd.R_reads' HO482.out).2.1) (yC (Kd.R_reads' HO488.out).2.2) ((Kd.R_reads' HO488.out).2.1) A22.out).mono ?_); rintro e w' ⟨rfl, ⟨nd, rfl⟩⟩))
      go_ret
      exact ⟨yE2, yB⟩
     ·replace c18 := Bool.eq_false_iff.mpr c18
      subst c18; replace H := iF H; obtain rfl := Option.some.inj H
      go_wp2_with (first | ((with_reducible refine gate_callee (f := 16) rfl ?_); refine goesL_ (some 26) rfl rfl Try.func16 yK rfl #[.slice A0 l0.length c0, .slice A1 l1.length c1] rfl yG ?_; (with_reducible refine (swap_Ops.calls kj3 _ _ l0 _ _ l1 t462 t463 t464 _ (yC (Kd.C_below HR0.out HB.out)) HC0.out (yC (Kd.C_below HR1.out HB.out)) HC1.out A11.out).mono ?_); rintro e w38 ⟨v465, v467, rfl, ho0, ho1, hb⟩; refine ⟨_, rfl, ?_⟩; have HO466 := aM (Kd.R_lower ho0 yW); have HO468 := aM (Kd.R_lower ho1 yW); replace HB := aM (below_step yB hb); clear hb ho0 ho1) | ((with_reducible refine gate_callee (f := 19) rfl ?_); refine goesL_ (some 31) rfl rfl Try.func19 yK rfl #[.int .i64 t464] rfl yG ?_; (with_reducible refine (patchworklaw15_num.calls t464 t469 _ A12.out).mono ?_); rintro e w' ⟨rfl, ⟨nd, rfl⟩⟩; refine ⟨_, rfl, ?_⟩; obtain ⟨Ao39, co39, eo39⟩ := Kd.R_slice HO466.out; subst eo39) | ((with_reducible refine gate_callee (f := 23) rfl ?_); refine goesL_ (some 42) rfl rfl Try.func23 yK rfl #[.slice Ao39 t462.length co39] rfl yG ?_; (with_reducible refine (patchworklaw15_changes.calls kj3 _ _ t462 t470 _ (yC (Kd.R_reads' HO466.out).2.2) ((Kd.R_reads' HO466.out).2.1) A14.out).mono ?_); rintro e w40 ⟨v471, rfl, ho0, hb⟩; refine ⟨_, rfl, ?_⟩; have HO472 := aM (Kd.R_lower (Kd.R_new' (Kd.R_new' ho0 (Kd.R_lt (yH HO466.out))) (Kd.R_lt (yH HO468.out))) yW); replace HO466 := aM (Kd.R_elder' (yH HO466.out) (Kd.R_base ho0) hb); replace HO468 := aM (Kd.R_elder' (yH HO468.out) (Kd.R_base ho0) hb); replace HB := aM (below_step yB hb); clear hb ho0) | ((with_reducible refine gate_callee (f := 24) rfl ?_); refine goesL_ (some 44) rfl rfl Try.func24 yK rfl #[.slice A1 l1.length c1] rfl yG ?_; (with_reducible refine (patchworkref8_Norm.calls kj3 _ _ l1 t473 _ (yC (Kd.C_below HR1.out HB.out)) HC1.out A15.out).mono ?_); rintro e w41 ⟨v474, rfl, ho0, hb⟩; refine ⟨_, rfl, ?_⟩; have HO475 := aM (Kd.R_lower (Kd.R_new' (Kd.R_new' (Kd.R_new' ho0 (Kd.R_lt (yH HO466.out))) (Kd.R_lt (yH HO468.out))) (Kd.R_lt (yH HO472.out))) yW); replace HO466 := aM (Kd.R_elder' (yH HO466.out) (Kd.R_base ho0) hb); replace HO468 := aM (Kd.R_elder' (yH HO468.out) (Kd.R_base ho0) hb); replace HO472 := aM (Kd.R_elder' (yH HO472.out) (Kd.R_base ho0) hb); replace HB := aM (below_step yB hb); clear hb ho0; obtain ⟨Ao42, co42, eo42⟩ := Kd.R_slice HO475.out; subst eo42) | ((with_reducible refine gate_callee (f := 23) rfl ?_); refine goesL_ (some 45) rfl rfl Try.func23 yK rfl #[.slice Ao42 t473.length co42] rfl yG ?_; (with_reducible refine (patchworklaw15_changes.calls kj3 _ _ t473 t476 _ (yC (Kd.R_reads' HO475.out).2.2) ((Kd.R_reads' HO475.out).2.1) A16.out).mono ?_); rintro e w43 ⟨v477, rfl, ho0, hb⟩; refine ⟨_, rfl, ?_⟩; have HO478 := aM (Kd.R_lower (Kd.R_new' (Kd.R_new' (Kd.R_new' (Kd.R_new' ho0 (Kd.R_lt (yH HO466.out))) (Kd.R_lt (yH HO468.out))) (Kd.R_lt (yH HO472.out))) (Kd.R_lt (yH HO475.out))) yW); replace HO466 := aM (Kd.R_elder' (yH HO466.out) (Kd.R_base ho0) hb); replace HO468 := aM (Kd.R_elder' (yH HO468.out) (Kd.R_base ho0) hb); replace HO472 := aM (Kd.R_elder' (yH HO472.out) (Kd.R_base ho0) hb); replace HO475 := aM (Kd.R_elder' (yH HO475.out) (Kd.R_base ho0) hb); replace HB := aM (below_step yB hb); clear hb ho0; obtain ⟨Ao44, co44, eo44⟩ := Kd.R_slice HO472.out; subst eo44; obtain ⟨Ao45, co45, eo45⟩ := Kd.R_slice HO478.out; subst eo45) | ((with_reducible refine gate_callee (f := 18) rfl ?_); refine goesL_ (some 46) rfl rfl Try.func18 yK rfl #[.slice Ao44 t470.length co44, .slice Ao45 t476.length co45] rfl yG ?_; (with_reducible refine (patchworkref8_Same.calls kj3 _ _ t470 _ _ t476 false _ (yC (Kd.R_reads' HO472.out).2.2) ((Kd.R_reads' HO472.out).2.1) (yC (Kd.R_reads' HO478.out).2.2) ((Kd.R_reads' HO478.out).2.1) A17.out).mono ?_); rintro e w' ⟨rfl, ⟨nd, rfl⟩⟩; refine ⟨_, rfl, ?_⟩))
      go_ret
      exact ⟨yE2, yB⟩
    ·rw [if_neg c13] at H
     have c13b0 := beq_eq_false_iff_ne.mpr c13; have c13b1 := bne_iff_ne.mpr c13
     by_cases c46 : (t462.length : Int) = 0
     ·rw [if_pos c46] at H
      have c46b0 := beq_iff_eq.mpr c46; have c46b1 := bne_eq_false_iff_eq.mpr c46; clear c46; obtain rfl := Option.some.inj H
      go_wp2_with (first | ((with_reducible refine gate_callee (f := 16) rfl ?_); refine goesL_ (some 26) rfl rfl Try.func16 yK rfl #[.slice A0 l0.length c0, .slice A1 l1.length c1] rfl yG ?_; (with_reducible refine (swap_Ops.calls kj3 _ _ l0 _ _ l1 t462 t463 t464 _ (yC (Kd.C_below HR0.out HB.out)) HC0.out (yC (Kd.C_below HR1.out HB.out)) HC1.out A11.out).mono ?_); rintro e w47 ⟨v465, v467, rfl, ho0, ho1, hb⟩; refine ⟨_, rfl, ?_⟩; have HO466 := aM (Kd.R_lower ho0 yW); have HO468 := aM (Kd.R_lower ho1 yW); replace HB := aM (below_step yB hb); clear hb ho0 ho1) | ((with_reducible refine gate_callee (f := 19) rfl ?_); refine goesL_ (some 31) rfl rfl Try.func19 yK rfl #[.int .i64 t464] rfl yG ?_; (with_reducible refine (patchworklaw15_num.calls t464 t469 _ A12.out).mono ?_); rintro e w' ⟨rfl, ⟨nd, rfl⟩⟩; refine ⟨_, rfl, ?_⟩; obtain ⟨Ao48, co48, eo48⟩ := Kd.R_slice HO466.out; subst eo48; obtain ⟨Ao49, co49, eo49⟩ := Kd.R_slice HO468.out; subst eo49))
      go_ret
      exact ⟨yE2, yB⟩
     ·rw [if_neg c46] at H
      have c46b0 := beq_eq_false_iff_ne.mpr c46; have c46b1 := bne_iff_ne.mpr c46; have c46b2 : ¬ (t462 = []) := fun h_ => c46 (by rw [h_]; rfl); obtain rfl := Option.some.inj H
      go_wp2_with (first | ((with_reducible refine gate_callee (f := 16) rfl ?_); refine goesL_ (some 26) rfl rfl Try.func16 yK rfl #[.slice A0 l0.length c0, .slice A1 l1.length c1] rfl yG ?_; (with_reducible refine (swap_Ops.calls kj3 _ _ l0 _ _ l1 t462 t463 t464 _ (yC (Kd.C_below HR0.out HB.out)) HC0.out (yC (Kd.C_below HR1.out HB.out)) HC1.out A11.out).mono ?_); rintro e w50 ⟨v465, v467, rfl, ho0, ho1, hb⟩; refine ⟨_, rfl, ?_⟩; have HO466 := aM (Kd.R_lower ho0 yW); have HO468 := aM (Kd.R_lower ho1 yW); replace HB := aM (below_step yB hb); clear hb ho0 ho1) | ((with_reducible refine gate_callee (f := 19) rfl ?_); refine goesL_ (some 31) rfl rfl Try.func19 yK rfl #[.int .i64 t464] rfl yG ?_; (with_reducible refine (patchworklaw15_num.calls t464 t469 _ A12.out).mono ?_); rintro e w' ⟨rfl, ⟨nd, rfl⟩⟩; refine ⟨_, rfl, ?_⟩; obtain ⟨Ao51, co51, eo51⟩ := Kd.R_slice HO466.out; subst eo51))
      go_ret
      exact ⟨yE2, yB⟩
end Go.Proofs.Ytfoponahdidddaa.P
namespace Go.Proofs.Ytfoponahdidddaa.P
open Go.RowKit Go.Proofs.YtfoponahdidddaaW.PrintWords Go.Proofs.YtfoponahdidddaaW.PrintLast Go.Proofs.YtfoponahdidddaaW.PrintMore
def SwapKeeps.Pure : Prop := ∀ (l0 : List (Op)) (l1 : List (Op)), ((fun xs => ∀ y ∈ xs, okOp y) l0) → ((fun xs => ∀ y ∈ xs, okOp y) l1) → (fun xs => (xs.map wtOp).sum + 1) l0 + (fun xs => (xs.map wtOp).sum + 1) l1 ≤ 1048576 → ∃ k, patchworklaw15_SwapKeeps.f k l0 l1 = some true
end Go.Proofs.Ytfoponahdidddaa.P
namespace Go.Proofs.Ytfoponahdidddaa.P
open Go.RowKit Go.Proofs.YtfoponahdidddaaW.PrintWords Go.Proofs.YtfoponahdidddaaW.PrintLast Go.Proofs.YtfoponahdidddaaW.PrintMore
theorem SwapKeeps.out (a b : List Op) : Ev (fun k => patchworklaw15_SwapKeeps.j0 k a b true true) true := by
  refine Ev.step (fun k => rfl) ?_
  simp only [patchworklaw15_SwapKeeps.j0, if_true]
  exact Ev.now true
theorem SwapKeeps.proved : SwapKeeps.Pure := by
  intro p q _ _ hw
  simp only at hw
  have fp := fewN_le p
  have fq := fewN_le q
  refine Ev.rounds ?_
  simp only [patchworklaw15_SwapKeeps.f]
  refine Ev.bind' alive15 ?_
  simp only [if_true]
  refine Ev.bind' (few_ev (by omega)) ?_
  by_cases h : fewN p ≤ 600
  · simp only [h, decide_true, if_true]
    refine Ev.bind' (few_ev (by omega)) ?_
    by_cases h2 : fewN q ≤ 600
    · simp only [h2, decide_true, Bool.not_true]
      have hp := Sx.of_few h
      have hq := Sx.of_few h2
      have lp := fewN_len p
      have lq := fewN_len q
      obtain ⟨sx, sy⟩ := hp.swap hq (by omega)
      have l1 := (swap_len hp hq).1.1
      have l2 := (swap_len hp hq).2.1
      refine Ev.step (fun k => rfl) ?_
      simp only [patchworklaw15_SwapKeeps.j0, Bool.false_eq_true, if_false]
      refine Ev.bind' (pswap_ev hp hq) ?_
      simp only [num_val, Option.bind_some]
      by_cases h0 : (swapL p q).2.2 = 0
      · obtain ⟨rp, rq, k1, k2⟩ := swap_keeps hp hq h0
        have f1 : ((swapL p q).1.filter chO).length ≤ (swapL p q).1.length := List.length_filter_le ..
        have f2 : ((swapL p q).2.1.filter chO).length ≤ (swapL p q).2.1.length := List.length_filter_le ..
        simp only [if_pos h0]
        refine Ev.bind' (chs_ev sx.sm) ?_
        refine Ev.bind' (refNorm_ev hq) ?_
        rw [rq, if_pos rfl]
        refine Ev.bind' (chs_ev (hq.sm.norm (rightL_form rq))) ?_
        refine Ev.bind' (same_ev _ _ (by omega)) ?_
        rw [k1]
        simp only [decide_true, if_true]
        refine Ev.bind' (chs_ev sy.sm) ?_
        refine Ev.bind' (refNorm_ev hp) ?_
        rw [rp, if_pos rfl]
        refine Ev.bind' (chs_ev (hp.sm.norm (rightL_form rp))) ?_
        refine Ev.bind' (same_ev _ _ (by omega)) ?_
        rw [k2]
        simp only [decide_true]
        exact Ev.now true
      · obtain ⟨a, b⟩ := swap_not h0
        simp only [if_neg h0, a, b]
        exact Ev.now true
    · simp only [h2, decide_false, Bool.not_false]
      exact SwapKeeps.out p q
  · simp only [h, decide_false, Bool.false_eq_true, if_false]
    exact SwapKeeps.out p q
end Go.Proofs.Ytfoponahdidddaa.P
namespace Go.Proofs.Ytfoponahdidddaa.P.swapKeeps
open Go.ChangeShapes Go.WideShapes Go.ChangeAt Go.RowKit Go.Proofs.Ytfoponahdidddaa.P Go.Proofs.YtfoponahdidddaaW.PrintWords
open Go.ChangeMaps (open_string shut_string)
theorem own : ownKnob Try.prog.godebug = none := by kernel_rfl
theorem laidOut : laidOutB Try.prog = true := by kernel_rfl
theorem opens0 : Opens Try.prog 41 kOp okOp wtOp := (opens_struct3 (d0 := (Kd.int .i64)) (d1 := (Kd.int .i64)) (d2 := Kd.string) Try.underlying41 (by kernel_rfl) rfl rfl rfl rfl rfl rfl (opens_int Try.underlying3 (by kernel_rfl)) (opens_int Try.underlying3 (by kernel_rfl)) (opens_string Try.underlying9 (by kernel_rfl)) (fun x : Op => (x.f0, x.f1, x.f2)) (fun a b c => ⟨a, b, c⟩) (fun _ _ _ => rfl))
theorem opens1 : Opens Try.prog 41 kOp okOp wtOp := (opens_struct3 (d0 := (Kd.int .i64)) (d1 := (Kd.int .i64)) (d2 := Kd.string) Try.underlying41 (by kernel_rfl) rfl rfl rfl rfl rfl rfl (opens_int Try.underlying3 (by kernel_rfl)) (opens_int Try.underlying3 (by kernel_rfl)) (opens_string Try.underlying9 (by kernel_rfl)) (fun x : Op => (x.f0, x.f1, x.f2)) (fun a b c => ⟨a, b, c⟩) (fun _ _ _ => rfl))
set_option maxRecDepth 100000 in
theorem contract (H : Type) (enc : TypeId × Value → H) (W : World) (base : Nat) (args : Array Value) (ds gs : List (DataW H)) (before : List MemPlace)
    (hval : ∀ (j : Nat) t v, Try.f5.params[j]? = some t → args[j]? = some v → Value.okWide Try.prog W .any base t v)
    (hW : DataW.Whole enc Try.prog Try.f5.params.toList Rows.swapKeepsSpec.vars false W args.toList ds gs before) (hk : Rows.uptoSmall H (ds ++ gs) = true) :
    Calls Try.prog 5 args W fun e W' => ∃ v, e = .returned v ∧ Rows.swapKeepsSpec.post enc Try.prog Try.f5 false true false false W args v W' := by
  have hW' := hW
  obtain ⟨p, q, hA0, hV, rfl, hfz, hnd⟩ := hW
  have hA : DataW.TrodAll enc Try.prog W 0 (fun _ => true) true Try.f5.params.toList args.toList ds p := hA0
  rw [Try.params5] at hA hval
  obtain ⟨v0, vs0, d0, ds0, p0, q0, hargs, rfl, rfl, h0, r0⟩ := trodAll_cons hA
  obtain ⟨v1, vs1, d1, ds1, p1, q1, rfl, rfl, rfl, h1, r1⟩ := trodAll_cons r0
  obtain ⟨rfl, rfl, rfl⟩ := trodAll_nil r1
  obtain rfl : args = #[v0, v1] := by cases args; simp_all
  obtain ⟨rfl, rfl⟩ := trodVars_none hV
  have hb := small_all hk
  simp only [List.append_nil, Rows.uptoBulkAll] at hb
  obtain ⟨A0, len0, c0, rfl⟩ := okWide_slice Try.underlying22 (hval 0 22 v0 rfl rfl)
  have k0 := h0
  have lt0 : ∀ x ∈ p0, x.block < W.heap.size := by obtain ⟨m, hm⟩ := k0; exact DataW.trod_lt m _ _ _ hm
  obtain ⟨fuel0, hf0⟩ := h0
  obtain ⟨A0', c0', l0, hcs0, hc0, hr0, ok0, wt0⟩ := open_row Try.underlying22 opens0 hf0
  simp only [Value.cells, List.cons.injEq, Value.slice.injEq, and_true] at hcs0
  obtain ⟨rfl, rfl, rfl⟩ := hcs0
  obtain ⟨A1, len1, c1, rfl⟩ := okWide_slice Try.underlying22 (hval 1 22 v1 rfl rfl)
  have k1 := h1
  have lt1 : ∀ x ∈ p1, x.block < W.heap.size := by obtain ⟨m, hm⟩ := k1; exact DataW.trod_lt m _ _ _ hm
  obtain ⟨fuel1, hf1⟩ := h1
  obtain ⟨A1', c1', l1, hcs1, hc1, hr1, ok1, wt1⟩ := open_row Try.underlying22 opens1 hf1
  simp only [Value.cells, List.cons.injEq, Value.slice.injEq, and_true] at hcs1
  obtain ⟨rfl, rfl, rfl⟩ := hcs1
  clear hA0 hval
  obtain ⟨k, hp⟩ := SwapKeeps.proved l0 l1 ok0 ok1 (by simp only [] at *; omega)
  refine (patchworklaw15_SwapKeeps.calls k _ _ l0 _ _ l1 true W hr0 hc0 hr1 hc1 hp).mono fun e W' ⟨he, bel0⟩ => ?_
  have bel : Below W.heap.size W W' := bel0
  subst he
  exact ⟨_, rfl, _, _, _, [], _, [], hW', trodAll_mk1 (shut_bool Try.underlying4 _), (trodAll_cons_mk (Below.trod laidOut (by kernel_rfl) (of_decide_eq_true (by kernel_rfl)) k0 bel lt0) (trodAll_cons_mk (Below.trod laidOut (by kernel_rfl) (of_decide_eq_true (by kernel_rfl)) k1 bel lt1) trodAll_mk0)), rfl, bel.frame _, fun h => by cases h⟩
set_option maxRecDepth 100000 in
theorem lifted (os : Os) (started : os.Started) (H : Type) (enc : TypeId × Value → H) (F : Stop.Interp) :
    ReturnsInHanded {} Try.checked os 5 .any ((Rows.OpenSpec.upto Rows.swapKeepsSpec).pre6 enc Try.prog Try.f5 Rows.swapKeepsUptoRow.domain false) (((Rows.OpenSpec.upto Rows.swapKeepsSpec).at F).post enc Try.prog Try.f5 false true false false) := by
  refine returnsInHanded_of_cond (C := Try.checked) (s := Rows.OpenSpec.upto Rows.swapKeepsSpec) (k := Rows.uptoSmall) rfl own started (by kernel_rfl) Try.func5
    (OpenSpec.witness (enc := enc) (C := Try.checked) (s := Rows.OpenSpec.upto Rows.swapKeepsSpec) (k := Rows.uptoSmall) rfl false ⟨#[], #[.slice none 0 0, .slice none 0 0], []⟩ 8 (by kernel_rfl) (by kernel_rfl) (by kernel_rfl)
      (x := ([.nil, .nil], [], [])) (by kernel_rfl) rfl (by kernel_rfl)) ?_
  intro W base args ds gs before hval hW _ hk _
  exact contract H enc W base args ds gs before hval hW hk
theorem over : Rows.swapKeepsUptoRow.holds Try.pinned (Rows.OpenSpec.upto Rows.swapKeepsSpec) :=
  OpenClaim.holds_of_cond 5 Try.f5 rfl rfl rfl rfl rfl rfl rfl ⟨rfl, rfl, rfl, rfl, rfl⟩ rfl rfl rfl rfl rfl (by kernel_rfl) Try.func5 (by kernel_rfl)
    (of_decide_eq_true (by kernel_rfl)) (by unfold Func.isWrapper; first | (rw [if_pos (by decide +kernel)]; kernel_rfl) | (rw [if_neg (by decide +kernel)]; exact ⟨rfl, rfl⟩))
    (fun os started H enc _ F => lifted os started H enc F)
theorem proved : Rows.SwapKeepsUptoSaid := over
end Go.Proofs.Ytfoponahdidddaa.P.swapKeeps
namespace Go.Proofs.Ytfoponahdidddaa
theorem swapKeeps_holds : Rows.SwapKeepsUptoSaid := P.swapKeeps.proved
#print axioms swapKeeps_holds
end Go.Proofs.Ytfoponahdidddaa
