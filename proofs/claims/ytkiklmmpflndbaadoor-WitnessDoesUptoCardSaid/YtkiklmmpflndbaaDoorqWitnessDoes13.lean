/- The law WitnessDoes answers true, for all arguments that hold together at most 1048576 values and letters, and leaves them as they were. -/
import Derived.Test.YtkiklmmpflndbaaDoorqWitnessDoes4
import Derived.Test.YtkiklmmpflndbaaDoorqWitnessDoes5
import Derived.Test.YtkiklmmpflndbaaDoorqWitnessDoes3
import Derived.Test.YtkiklmmpflndbaaDoorqWitnessDoes11
import Derived.Test.YtkiklmmpflndbaaDoorqWitnessDoes9
import Derived.Test.YtkiklmmpflndbaaDoorqWitnessDoes12
import Derived.Test.YtkiklmmpflndbaaDoorqWitnessDoes7
import Derived.Test.YtkiklmmpflndbaaDoorCards
import Derived.Test.YtkiklmmpflndbaaDoorTie
import Derived.Deep.DeepHandedRow
import Derived.Lib.LaidTab
import Derived.LaidSub
import Derived.LaidLaws
import Derived.WalkKit
import Derived.ProofKit
import Derived.OpenShut
import Derived.ShutString
import Derived.ChangeOld
import Derived.Below
import Derived.SizedLaws
import Derived.JoinedCond
set_option linter.unusedVariables false
set_option linter.unusedSimpArgs false
namespace Go.Proofs.YtkiklmmpflndbaaDoor.P
open Go.RowKit Go.Proofs.YtkiklmmpflndbaaDoorW.PrintWords Go.Proofs.YtkiklmmpflndbaaDoorW.PrintLast Go.Proofs.YtkiklmmpflndbaaDoorW.PrintMore
open Go.Proofs.YtkiklmmpflndbaaDoorW.PrintWords.Aside0 renaming mk → aM
attribute [local go_sem] max2_int min2_int max_two min_two max_three min_three max_four min_four
set_option maxHeartbeats 8000000 in
set_option maxRecDepth 100000 in
theorem patchworklaw18_WitnessDoes.calls (k : Nat) (A0 : Option Addr) (c0 : Nat) (l0 : List (Op)) (r : Bool) (w : World) (htab : TabOk w) (hr0 : Kd.C kOp w A0 l0.length l0) (hc0 : l0.length ≤ c0) (h : patchworklaw18_WitnessDoes.f k l0 = some r) :
  Calls Tryd.prog 6 #[.slice A0 l0.length c0] w fun e w' => e = .returned (.bool r) ∧ Below w.heap.size w w' := by
 have HR0 := aM hr0
 have HC0 := aM hc0
 clear hr0 hc0
 have HB := aM (Below.refl w.heap.size w)
 have HTAB := aM htab
 clear htab
 have H : ((patchworklaw18_alive.f k).bind fun t457 => (if t457 = true then ((patchworklaw8_Few.f k l0).bind fun t458 => (if t458 = true then ((patchworkref8_Right.f k l0).bind fun t459 => (if t459 = true then ((patchworkref8_Olds.f k l0).bind fun t460 => (patchworklaw18_WitnessDoes.j0 k l0 t457 (decide (t460 > 5000)))) else (patchworklaw18_WitnessDoes.j0 k l0 t457 true))) else (patchworklaw18_WitnessDoes.j0 k l0 t457 true))) else (patchworklaw18_WitnessDoes.j0 k l0 t457 true))) = some r := h
 clear h
 replace H := oB H; obtain ⟨t457, A2, H⟩ := H
 have HC3 := aM H
 clear H
 go_enter Tryd.func6, Tryd.ntmps6
 go_upto_region 2 with (first | ((with_reducible refine gate_callee (f := 8) rfl ?_); refine goesL_ (some 7) rfl rfl Tryd.func8 yK rfl #[] rfl yG ?_; (with_reducible refine (patchworklaw18_alive.calls k  t457 _ (tabY HTAB.out) A2.out).mono ?_); rintro e w4 ⟨rfl, hb⟩; refine ⟨_, rfl, ?_⟩; replace HB := aM (below_step yB hb); clear hb))
 (try simp only [Act.put, List.setIfInBounds_toArray, List.set_cons_zero, List.set_cons_succ])
 go_cut [24] (fun v24 wc => ∃ (kq : Nat) (x24_2 : Bool), v24 = .bool x24_2 ∧ Aside0 (patchworklaw18_WitnessDoes.j0 kq l0 t457 x24_2 = some r) ∧ Aside0 (kq ≤ k) ∧ Aside0 (Below w.heap.size w wc))
 case first =>
  have H := HC3.out; clear HC3
  by_cases c5 : t457 = true
  ·subst c5
   replace H := iT H; replace H := oB H; obtain ⟨t458, A6, H⟩ := H
   by_cases c7 : t458 = true
   ·subst c7
    replace H := iT H; replace H := oB H; obtain ⟨t459, A8, H⟩ := H
    by_cases c9 : t459 = true
    ·subst c9
     replace H := iT H; replace H := oB H; obtain ⟨t460, A10, H⟩ := H; have H' := aM H; clear H
     go_wp2_with (first | (go_at_call 9; (with_reducible refine (patchworklaw8_Few.calls k _ _ l0 true _ (yC (Kd.C_below HR0.out HB.out)) HC0.out A6.out).mono ?_); rintro e w' ⟨rfl, ⟨nd, rfl⟩⟩) | (go_at_call 10; (with_reducible refine (patchworkref8_Right.calls k _ _ l0 true _ (yC (Kd.C_below HR0.out yB)) HC0.out A8.out).mono ?_); rintro e w11 ⟨rfl, hb⟩; replace HB := aM (below_step yB hb); clear hb) | (go_at_call 12; (with_reducible refine (patchworkref8_Olds.calls k _ _ l0 t460 _ (yC (Kd.C_below HR0.out HB.out)) HC0.out A10.out).mono ?_); rintro e w12 ⟨rfl, hb⟩; replace HB := aM (below_step yB hb); clear hb))
     go_meet
     case rel => exact ⟨_, (decide (t460 > 5000)), yE, H', ⟨by first | omega | exact Nat.le_refl _⟩, ⟨yB⟩⟩
    ·replace c9 := Bool.eq_false_iff.mpr c9
     subst c9; have H' := aM (iF H); clear H
     go_wp2_with (first | (go_at_call 9; (with_reducible refine (patchworklaw8_Few.calls k _ _ l0 true _ (yC (Kd.C_below HR0.out HB.out)) HC0.out A6.out).mono ?_); rintro e w' ⟨rfl, ⟨nd, rfl⟩⟩) | (go_at_call 10; (with_reducible refine (patchworkref8_Right.calls k _ _ l0 false _ (yC (Kd.C_below HR0.out yB)) HC0.out A8.out).mono ?_); rintro e w13 ⟨rfl, hb⟩; replace HB := aM (below_step yB hb); clear hb))
     go_meet
     case rel => exact ⟨_, (true), yE, H', ⟨by first | omega | exact Nat.le_refl _⟩, ⟨yB⟩⟩
   ·replace c7 := Bool.eq_false_iff.mpr c7
    subst c7; have H' := aM (iF H); clear H
    go_wp2_with (first | (go_at_call 9; (with_reducible refine (patchworklaw8_Few.calls k _ _ l0 false _ (yC (Kd.C_below HR0.out HB.out)) HC0.out A6.out).mono ?_); rintro e w' ⟨rfl, ⟨nd, rfl⟩⟩))
    go_meet
    case rel => exact ⟨_, (true), yE, H', ⟨by first | omega | exact Nat.le_refl _⟩, ⟨yB⟩⟩
  ·replace c5 := Bool.eq_false_iff.mpr c5
   subst c5; have H' := aM (iF H); clear H
   go_wp2
   go_meet
   case rel => exact ⟨_, (true), yE, H', ⟨by first | omega | exact Nat.le_refl _⟩, ⟨yB⟩⟩
 case rest =>
  clear HC3; (try clear p2); (try clear c5); (try clear c6); (try clear c7); (try clear c8); (try clear c9); obtain ⟨kq, x24_2, rfl, HA, HJ2, HB⟩ := hcut; cases kq with
  | zero => exact absurd HA.out (by simp [patchworklaw18_WitnessDoes.j0])
  | succ kj2 =>
   have H := HA.out; clear HA; simp only [patchworklaw18_WitnessDoes.j0] at H
   by_cases c14 : x24_2 = true
   ·subst c14
    replace H := iT H; obtain rfl := Option.some.inj H
    go_wp2
    go_ret
    exact ⟨yE2, yB⟩
   ·replace c14 := Bool.eq_false_iff.mpr c14
    subst c14; replace H := iF H; replace H := oB H; obtain ⟨t461, A15, H⟩ := H; replace H := Option.bind_eq_some_iff.mp H; obtain ⟨⟨t464, t465⟩, A160, H⟩ := H; replace H : (if t465 = true then ((patchworkref8_Olds.f kj2 l0).bind fun t468 => (if (t461.length : Int) = t468 then ((patchworkref8_News.f kj2 l0).bind fun t469 => (some ((t464.length : Int) == t469))) else (some false))) else (some false)) = some r := H; have A16 := aM A160; clear A160
    by_cases c17 : t465 = true
    ·subst c17
     replace H := iT H; replace H := oB H; obtain ⟨t468, A18, H⟩ := H
     by_cases c19 : (t461.length : Int) = t468
     ·rw [if_pos c19] at H
      have c19b0 := beq_iff_eq.mpr c19; have c19b1 := bne_eq_false_iff_eq.mpr c19; clear c19; replace H := oB H; obtain ⟨t469, A20, H⟩ := H; obtain rfl := Option.some.inj H
      go_wp2_with (first | ((with_reducible refine gate_callee (f := 13) rfl ?_); refine goesL_ (some 27) rfl rfl Tryd.func13 yK rfl #[.slice A0 l0.length c0] rfl yG ?_; (with_reducible refine (witness_Lines.calls kj2 _ _ l0 t461 _ (tabY HTAB.out) (yC (Kd.C_below HR0.out HB.out)) HC0.out A15.out).mono ?_); rintro e w21 ⟨v462, rfl, ho0, hb⟩; refine ⟨_, rfl, ?_⟩; have HO463 := aM (Kd.R_lower ho0 yW); replace HB := aM (below_step yB hb); clear hb ho0; obtain ⟨Ao22, co22, eo22⟩ := Kd.R_slice HO463.out; subst eo22) | ((with_reducible refine gate_callee (f := 14) rfl ?_); refine goesL_ (some 31) rfl rfl Tryd.func14 yK rfl #[.slice A0 l0.length c0, .slice Ao22 t461.length co22] rfl yG ?_; (with_reducible refine (patchworkref8_Do.calls kj2 _ _ l0 _ _ t461 t464 true _ (yC (Kd.C_below HR0.out HB.out)) HC0.out (yC (Kd.R_reads' HO463.out).2.2) ((Kd.R_reads' HO463.out).2.1) A16.out).mono ?_); rintro e w23 ⟨v466, rfl, ho0, hb⟩; refine ⟨_, rfl, ?_⟩; have HO467 := aM (Kd.R_lower (Kd.R_new' ho0 (Kd.R_lt (yH HO463.out))) yW); replace HO463 := aM (Kd.R_elder' (yH HO463.out) (Kd.R_base ho0) hb); replace HB := aM (below_step yB hb); clear hb ho0) | (go_at_call 12; (with_reducible refine (patchworkref8_Olds.calls kj2 _ _ l0 t468 _ (yC (Kd.C_below HR0.out HB.out)) HC0.out A18.out).mono ?_); rintro e w24 ⟨rfl, hb⟩; replace HO463 := aM (Kd.R_below (yH HO463.out) hb); replace HO467 := aM (Kd.R_below (yH HO467.out) hb); replace HB := aM (below_step yB hb); clear hb; obtain ⟨Ao25, co25, eo25⟩ := Kd.R_slice HO467.out; subst eo25) | (go_at_call 22; (with_reducible refine (patchworkref8_News.calls kj2 _ _ l0 t469 _ (yC (Kd.C_below HR0.out HB.out)) HC0.out A20.out).mono ?_); rintro e w26 ⟨rfl, hb⟩; replace HO463 := aM (Kd.R_below (yH HO463.out) hb); replace HO467 := aM (Kd.R_below (yH HO467.out) hb); replace HB := aM (below_step yB hb); clear hb))
      go_ret
      exact ⟨yE2, yB⟩
     ·rw [if_neg c19] at H
      have c19b0 := beq_eq_false_iff_ne.mpr c19; have c19b1 := bne_iff_ne.mpr c19; obtain rfl := Option.some.inj H
      go_wp2_with (first | ((with_reducible refine gate_callee (f := 13) rfl ?_); refine goesL_ (some 27) rfl rfl Tryd.func13 yK rfl #[.slice A0 l0.length c0] rfl yG ?_; (with_reducible refine (witness_Lines.calls kj2 _ _ l0 t461 _ (tabY HTAB.out) (yC (Kd.C_below HR0.out HB.out)) HC0.out A15.out).mono ?_); rintro e w27 ⟨v462, rfl, ho0, hb⟩; refine ⟨_, rfl, ?_⟩; have HO463 := aM (Kd.R_lower ho0 yW); replace HB := aM (below_step yB hb); clear hb ho0; obtain ⟨Ao28, co28, eo28⟩ := Kd.R_slice HO463.out; subst eo28) | ((with_reducible refine gate_callee (f := 14) rfl ?_); refine goesL_ (some 31) rfl rfl Tryd.func14 yK rfl #[.slice A0 l0.length c0, .slice Ao28 t461.length co28] rfl yG ?_; (with_reducible refine (patchworkref8_Do.calls kj2 _ _ l0 _ _ t461 t464 true _ (yC (Kd.C_below HR0.out HB.out)) HC0.out (yC (Kd.R_reads' HO463.out).2.2) ((Kd.R_reads' HO463.out).2.1) A16.out).mono ?_); rintro e w29 ⟨v466, rfl, ho0, hb⟩; refine ⟨_, rfl, ?_⟩; have HO467 := aM (Kd.R_lower (Kd.R_new' ho0 (Kd.R_lt (yH HO463.out))) yW); replace HO463 := aM (Kd.R_elder' (yH HO463.out) (Kd.R_base ho0) hb); replace HB := aM (below_step yB hb); clear hb ho0) | (go_at_call 12; (with_reducible refine (patchworkref8_Olds.calls kj2 _ _ l0 t468 _ (yC (Kd.C_below HR0.out HB.out)) HC0.out A18.out).mono ?_); rintro e w30 ⟨rfl, hb⟩; replace HO463 := aM (Kd.R_below (yH HO463.out) hb); replace HO467 := aM (Kd.R_below (yH HO467.out) hb); replace HB := aM (below_step yB hb); clear hb))
      go_ret
      exact ⟨yE2, yB⟩
    ·replace c17 := Bool.eq_false_iff.mpr c17
     subst c17; replace H := iF H; obtain rfl := Option.some.inj H
     go_wp2_with (first | ((with_reducible refine gate_callee (f := 13) rfl ?_); refine goesL_ (some 27) rfl rfl Tryd.func13 yK rfl #[.slice A0 l0.length c0] rfl yG ?_; (with_reducible refine (witness_Lines.calls kj2 _ _ l0 t461 _ (tabY HTAB.out) (yC (Kd.C_below HR0.out HB.out)) HC0.out A15.out).mono ?_); rintro e w31 ⟨v462, rfl, ho0, hb⟩; refine ⟨_, rfl, ?_⟩; have HO463 := aM (Kd.R_lower ho0 yW); replace HB := aM (below_step yB hb); clear hb ho0; obtain ⟨Ao32, co32, eo32⟩ := Kd.R_slice HO463.out; subst eo32) | ((with_reducible refine gate_callee (f := 14) rfl ?_); refine goesL_ (some 31) rfl rfl Tryd.func14 yK rfl #[.slice A0 l0.length c0, .slice Ao32 t461.length co32] rfl yG ?_; (with_reducible refine (patchworkref8_Do.calls kj2 _ _ l0 _ _ t461 t464 false _ (yC (Kd.C_below HR0.out HB.out)) HC0.out (yC (Kd.R_reads' HO463.out).2.2) ((Kd.R_reads' HO463.out).2.1) A16.out).mono ?_); rintro e w33 ⟨v466, rfl, ho0, hb⟩; refine ⟨_, rfl, ?_⟩; have HO467 := aM (Kd.R_lower (Kd.R_new' ho0 (Kd.R_lt (yH HO463.out))) yW); replace HO463 := aM (Kd.R_elder' (yH HO463.out) (Kd.R_base ho0) hb); replace HB := aM (below_step yB hb); clear hb ho0))
     go_ret
     exact ⟨yE2, yB⟩
end Go.Proofs.YtkiklmmpflndbaaDoor.P
namespace Go.Proofs.YtkiklmmpflndbaaDoor.P
open Go.RowKit Go.Proofs.YtkiklmmpflndbaaDoorW.PrintWords Go.Proofs.YtkiklmmpflndbaaDoorW.PrintLast Go.Proofs.YtkiklmmpflndbaaDoorW.PrintMore
def WitnessDoes.Pure : Prop := ∀ (l0 : List (Op)), ((fun xs => ∀ y ∈ xs, okOp y) l0) → (fun xs => (xs.map wtOp).sum + 1) l0 ≤ 1048576 → ∃ k, patchworklaw18_WitnessDoes.f k l0 = some true
end Go.Proofs.YtkiklmmpflndbaaDoor.P
namespace Go.Proofs.YtkiklmmpflndbaaDoor.P
open Go.RowKit Go.Proofs.YtkiklmmpflndbaaDoorW.PrintWords Go.Proofs.YtkiklmmpflndbaaDoorW.PrintLast Go.Proofs.YtkiklmmpflndbaaDoorW.PrintMore
theorem WitnessDoes.out (a : List Op) : Ev (fun k => patchworklaw18_WitnessDoes.j0 k a true true) true := by
 refine Ev.step (fun k => rfl) ?_
 simp only [patchworklaw18_WitnessDoes.j0, if_true]
 exact Ev.now true
theorem WitnessDoes.proved : WitnessDoes.Pure := by
 intro p _ hw
 simp only at hw
 have fp := fewN_le p
 have lp := fewN_len p
 refine Ev.rounds ?_
 simp only [patchworklaw18_WitnessDoes.f]
 refine Ev.bind' alive18 ?_
 simp only [if_true]
 refine Ev.bind' (few_ev (by omega)) ?_
 by_cases h : fewN p ≤ 600
 ·simp only [h, decide_true, if_true]
  have hp := Sx.of_few h
  refine Ev.bind' (refright_ev hp.sm) ?_
  cases hr : rightL p
  ·simp only [Bool.false_eq_true, if_false]; exact WitnessDoes.out p
  simp only [if_true]
  refine Ev.bind' (refolds_ev hp.sm) ?_
  by_cases hc : capd 3 p ≤ 5000
  ·have c : ¬ capd 3 p > 5000 := by omega
   simp only [c, decide_false]
   obtain ⟨_, e2, e3, e4, _⟩ := wit_do hr hc
   obtain ⟨c3, c4, _, _⟩ := capd_right hr
   have sw := wit_SmT hp.sm
   refine Ev.step (fun k => rfl) ?_
   simp only [patchworklaw18_WitnessDoes.j0, Bool.false_eq_true, if_false]
   refine Ev.bind' (pwit_ev hp.sm) ?_
   refine Ev.bind' (refdo_ev hp.sm sw) ?_
   rw [e2]
   simp only [if_true]
   refine Ev.bind' (refolds_ev hp.sm) ?_
   have k3 : ((witL p).length : Int) = capd 3 p := by rw [c3, e3]
   simp only [if_pos k3]
   refine Ev.bind' (refnews_ev hp.sm) ?_
   have k4 : (((putS (news (ex p)) (skl 0 (ex p))).length : Int) == capd 4 p) = true := by rw [c4, e4]; exact beq_self_eq_true _
   simp only [k4]
   exact Ev.now _
  ·have c : capd 3 p > 5000 := by omega
   simp only [c, decide_true]; exact WitnessDoes.out p
 ·simp only [h, decide_false, Bool.false_eq_true, if_false]; exact WitnessDoes.out p
end Go.Proofs.YtkiklmmpflndbaaDoor.P
namespace Go.Proofs.YtkiklmmpflndbaaDoor.P.witnessDoes
open Go.ChangeShapes Go.WideShapes Go.ChangeAt Go.RowKit Go.Proofs.YtkiklmmpflndbaaDoor.P Go.Proofs.YtkiklmmpflndbaaDoorW.PrintWords
open Go.ChangeMaps (open_string shut_string)
theorem own : ownKnob Tryd.prog.godebug = none := by kernel_rfl
theorem laidOut : laidOutB Tryd.prog = true := by kernel_rfl
theorem opens0 : Opens Tryd.prog 32 kOp okOp wtOp := (opens_struct3 (d0 := (Kd.int .i64)) (d1 := (Kd.int .i64)) (d2 := Kd.string) Tryd.underlying32 (by kernel_rfl) rfl rfl rfl rfl rfl rfl (opens_int Tryd.underlying3 (by kernel_rfl)) (opens_int Tryd.underlying3 (by kernel_rfl)) (opens_string Tryd.underlying9 (by kernel_rfl)) (fun x : Op => (x.f0, x.f1, x.f2)) (fun a b c => ⟨a, b, c⟩) (fun _ _ _ => rfl))
set_option maxRecDepth 100000 in
theorem table {W : World} (h : laidMetH Tryd.prog Rows.witnessDoesUptoRow.laid W) : TabOk W :=
 Lib.tabIs_of_head (P := Tryd.prog) (name := "internal/strconv.uint64pow10") (k := .u64) (zs := Lib.pow10Tab) (rest := []) (g := 0) (t := 83) (e := 76) (n := 20) (by kernel_rfl) (by kernel_rfl) Tryd.underlying83 Tryd.underlying76 (by kernel_rfl) (by kernel_rfl)
  (show laidMetH Tryd.prog (Rows.witnessDoesUptoRow.laid.filter fun x => x.1 == "internal/strconv.uint64pow10") W from h.filter _)
set_option maxRecDepth 100000 in
theorem contract (H : Type) (enc : TypeId × Value → H) (W : World) (base : Nat) (args : Array Value) (ds gs : List (DataW H)) (before : List MemPlace)
  (hval : ∀ (j : Nat) t v, Tryd.f6.params[j]? = some t → args[j]? = some v → Value.okWide Tryd.prog W .any base t v)
  (hW : DataW.Whole enc Tryd.prog Tryd.f6.params.toList Rows.witnessDoesSpec.vars false W args.toList ds gs before) (hk : Rows.uptoSmall H (ds ++ gs) = true) (hL : laidMetH Tryd.prog Rows.witnessDoesUptoRow.laid W) :
  Calls Tryd.prog 6 args W fun e W' => ∃ v, e = .returned v ∧ Rows.witnessDoesSpec.post enc Tryd.prog Tryd.f6 false true false false W args v W' := by
 have hW' := hW
 obtain ⟨p, q, hA0, hV, rfl, hfz, hnd⟩ := hW
 have hA : DataW.TrodAll enc Tryd.prog W 0 (fun _ => true) true Tryd.f6.params.toList args.toList ds p := hA0
 rw [Tryd.params6] at hA hval
 obtain ⟨v0, vs0, d0, ds0, p0, q0, hargs, rfl, rfl, h0, r0⟩ := trodAll_cons hA
 obtain ⟨rfl, rfl, rfl⟩ := trodAll_nil r0
 obtain rfl : args = #[v0] := by cases args; simp_all
 obtain ⟨rfl, rfl⟩ := trodVars_none hV
 have hb := small_all hk
 simp only [List.append_nil, Rows.uptoBulkAll] at hb
 obtain ⟨A0, len0, c0, rfl⟩ := okWide_slice Tryd.underlying22 (hval 0 22 v0 rfl rfl)
 have k0 := h0
 have lt0 : ∀ x ∈ p0, x.block < W.heap.size := by obtain ⟨m, hm⟩ := k0; exact DataW.trod_lt m _ _ _ hm
 obtain ⟨fuel0, hf0⟩ := h0
 obtain ⟨A0', c0', l0, hcs0, hc0, hr0, ok0, wt0⟩ := open_row Tryd.underlying22 opens0 hf0
 simp only [Value.cells, List.cons.injEq, Value.slice.injEq, and_true] at hcs0
 obtain ⟨rfl, rfl, rfl⟩ := hcs0
 clear hA0 hval
 obtain ⟨k, hp⟩ := WitnessDoes.proved l0 ok0 (by simp only [] at *; omega)
 refine (patchworklaw18_WitnessDoes.calls k _ _ l0 true W (table hL) hr0 hc0 hp).mono fun e W' ⟨he, bel0⟩ => ?_
 have bel : Below W.heap.size W W' := bel0
 subst he
 exact ⟨_, rfl, _, _, _, [], _, [], hW', trodAll_mk1 (shut_bool Tryd.underlying4 _), (trodAll_cons_mk (Below.trod laidOut (by kernel_rfl) (of_decide_eq_true (by kernel_rfl)) k0 bel lt0) trodAll_mk0), rfl, bel.frame _, fun h => by cases h⟩
noncomputable def laidWorld (os : Os) : World := { World.holding Tryd.prog os ⟨#[], #[], []⟩ with heap := ((((World.holding Tryd.prog os ⟨#[], #[], []⟩).heap).modify 2 (fun o => match o with | .cells _ t frozen => .cells #[.int .u8 0, .int .u8 1, .int .u8 28, .int .u8 2, .int .u8 29, .int .u8 14, .int .u8 24, .int .u8 3, .int .u8 30, .int .u8 22, .int .u8 20, .int .u8 15, .int .u8 25, .int .u8 17, .int .u8 4, .int .u8 8, .int .u8 31, .int .u8 27, .int .u8 13, .int .u8 23, .int .u8 21, .int .u8 19, .int .u8 16, .int .u8 7, .int .u8 26, .int .u8 12, .int .u8 18, .int .u8 6, .int .u8 11, .int .u8 5, .int .u8 10, .int .u8 9] t frozen | o => o)).modify 3 (fun o => match o with | .cells _ t frozen => .cells #[.int .u8 0, .int .u8 1, .int .u8 56, .int .u8 2, .int .u8 57, .int .u8 49, .int .u8 28, .int .u8 3, .int .u8 61, .int .u8 58, .int .u8 42, .int .u8 50, .int .u8 38, .int .u8 29, .int .u8 17, .int .u8 4, .int .u8 62, .int .u8 47, .int .u8 59, .int .u8 36, .int .u8 45, .int .u8 43, .int .u8 51, .int .u8 22, .int .u8 53, .int .u8 39, .int .u8 33, .int .u8 30, .int .u8 24, .int .u8 18, .int .u8 12, .int .u8 5, .int .u8 63, .int .u8 55, .int .u8 48, .int .u8 27, .int .u8 60, .int .u8 41, .int .u8 37, .int .u8 16, .int .u8 46, .int .u8 35, .int .u8 44, .int .u8 21, .int .u8 52, .int .u8 32, .int .u8 23, .int .u8 11, .int .u8 54, .int .u8 26, .int .u8 40, .int .u8 15, .int .u8 34, .int .u8 20, .int .u8 31, .int .u8 10, .int .u8 25, .int .u8 14, .int .u8 19, .int .u8 9, .int .u8 13, .int .u8 8, .int .u8 7, .int .u8 6] t frozen | o => o)).modify 0 (fun o => match o with | .cells _ t frozen => .cells #[.int .u64 1, .int .u64 10, .int .u64 100, .int .u64 1000, .int .u64 10000, .int .u64 100000, .int .u64 1000000, .int .u64 10000000, .int .u64 100000000, .int .u64 1000000000, .int .u64 10000000000, .int .u64 100000000000, .int .u64 1000000000000, .int .u64 10000000000000, .int .u64 100000000000000, .int .u64 1000000000000000, .int .u64 10000000000000000, .int .u64 100000000000000000, .int .u64 1000000000000000000, .int .u64 10000000000000000000] t frozen | o => o) }
set_option maxRecDepth 100000 in
theorem laid_met (os : Os) : laidMet Tryd.prog Rows.witnessDoesUptoRow.laid ((laidWorld os).forCall (fun _ _ => 0) ⟨#[], #[.slice none 0 0], []⟩).memory :=
 laidMet_of_run' 8 (by kernel_rfl) (by kernel_rfl)
set_option maxRecDepth 100000 in
theorem reads (os : Os) {H : Type} (enc : TypeId × Value → H) : ∃ places, DataW.whole enc Tryd.prog ((laidWorld os).forCall (fun _ _ => 0) ⟨#[], #[.slice none 0 0], []⟩).memory Tryd.f6.params.toList Rows.witnessDoesSpec.vars false (#[.slice none 0 0] : Array Value).toList 8 = some ([.nil], [], places) :=
 ⟨[], by kernel_rfl⟩
set_option maxRecDepth 100000 in
theorem lifted (os : Os) (started : os.Started) (H : Type) (enc : TypeId × Value → H) (F : Stop.Interp) :
  ReturnsInHanded {} Tryd.checked os 6 .any ((Rows.OpenSpec.upto Rows.witnessDoesSpec).preRow enc Tryd.prog Tryd.f6 Rows.witnessDoesUptoRow.domain false Rows.witnessDoesUptoRow.laid) (((Rows.OpenSpec.upto Rows.witnessDoesSpec).at F).post enc Tryd.prog Tryd.f6 false true false false) := by
 obtain ⟨places, hx⟩ := reads os enc
 refine returnsInHanded_of_row (C := Tryd.checked) (s := Rows.OpenSpec.upto Rows.witnessDoesSpec) own started (by kernel_rfl) Tryd.func6
  (witness_row_at (enc := enc) (C := Tryd.checked) false (laidWorld os) #[.slice none 0 0] rfl (by kernel_rfl) (by kernel_rfl) (by kernel_rfl)
   (OpenSpec.preRow_of_cond 8 hx (by kernel_rfl) (fun k hk => by cases hk; kernel_rfl) (by kernel_rfl) (laid_met os))) ?_
 intro W base args ds gs before hval hW _ hcond _ hL _ _
 exact contract H enc W base args ds gs before hval hW (hcond _ rfl) hL
theorem over : Rows.WitnessDoesUptoSaid :=
 OpenClaim.holds_of_cond 6 Tryd.f6 rfl rfl rfl rfl rfl rfl rfl ⟨rfl, rfl, rfl, rfl, rfl⟩ rfl rfl rfl rfl rfl (by kernel_rfl) Tryd.func6 (by kernel_rfl)
  (of_decide_eq_true (by kernel_rfl)) (by unfold Func.isWrapper; first | (rw [if_pos (by decide +kernel)]; kernel_rfl) | (rw [if_neg (by decide +kernel)]; exact ⟨rfl, rfl⟩))
  (fun os started H enc _ F => by rw [OpenClaim.pre_eq_preRow]; exact lifted os started H enc F)
theorem plain (f : FuncId) (fn : Func) (hf : Tryd.pinned.checked.prog.funcNamed "patchwork/patchworklaw18.WitnessDoes" = some f) (hfn : Tryd.pinned.checked.prog.funcs[f]? = some fn) :
  false = Tryd.pinned.checked.prog.looks [] ∧ ∀ (j : Nat) t, fn.params[j]? = some t → Tryd.pinned.checked.prog.wantsStandIn t = false := by
 obtain rfl : f = 6 := Option.some.inj ((show Tryd.prog.funcNamed "patchwork/patchworklaw18.WitnessDoes" = some 6 by kernel_rfl).symm.trans hf) |>.symm
 obtain rfl : fn = Tryd.f6 := (Option.some.inj (Tryd.func6.symm.trans hfn)).symm
 refine ⟨by kernel_rfl, fun j t ht => ?_⟩
 rw [Tryd.params6] at ht
 have hm := Array.mem_of_getElem? ht
 have all : ∀ x ∈ #[22], Tryd.prog.wantsStandIn x = false := by
  intro x hx
  simp only [List.mem_toArray, List.mem_cons, List.not_mem_nil, or_false] at hx
  rcases hx with rfl <;> kernel_rfl
 exact all t hm
theorem proved : Rows.WitnessDoesUptoCardSaid :=
 Claim7.holds_tied_plain_at .later [] _ _ _ _ over (fun _ h => by cases h) (by kernel_rfl) (fun _ h => by cases h) witnessDoesUpto_row_tie rfl ⟨rfl, rfl⟩ (by kernel_rfl) rfl plain (by kernel_rfl)
end Go.Proofs.YtkiklmmpflndbaaDoor.P.witnessDoes
namespace Go.Proofs.YtkiklmmpflndbaaDoor
theorem witnessDoes_holds : Rows.WitnessDoesUptoCardSaid := P.witnessDoes.proved
#print axioms witnessDoes_holds
end Go.Proofs.YtkiklmmpflndbaaDoor
