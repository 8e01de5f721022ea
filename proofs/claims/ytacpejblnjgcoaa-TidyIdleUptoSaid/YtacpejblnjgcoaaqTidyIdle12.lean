/- The law TidyIdle answers true, for all arguments that hold together at most 1048576 values and letters, and leaves them as they were. -/
import Derived.Test.YtacpejblnjgcoaaqTidyIdle4
import Derived.Test.YtacpejblnjgcoaaqTidyIdle5
import Derived.Test.YtacpejblnjgcoaaqTidyIdle3
import Derived.Test.YtacpejblnjgcoaaqTidyIdle8
import Derived.Test.YtacpejblnjgcoaaqTidyIdle9
import Derived.Test.YtacpejblnjgcoaaqTidyIdle11
import Derived.Test.YtacpejblnjgcoaaqTidyIdle10
import Derived.Test.YtacpejblnjgcoaaqTidyIdle7
import Derived.WalkKit
import Derived.ProofKit
import Derived.OpenShut
import Derived.ShutString
import Derived.ChangeOld
import Derived.Below
import Derived.SizedLaws
import Derived.JoinedCond
set_option linter.unusedVariables false
set_option linter.unusedSimpArgs false
namespace Go.Proofs.Ytacpejblnjgcoaa.P
open Go.RowKit Go.Proofs.YtacpejblnjgcoaaW.PrintWords Go.Proofs.YtacpejblnjgcoaaW.PrintLast Go.Proofs.YtacpejblnjgcoaaW.PrintMore
open Go.Proofs.YtacpejblnjgcoaaW.PrintWords.Aside0 renaming mk → aM
open Go.World renaming block_lt_of_cell? → bL
attribute [local go_sem] max2_int min2_int max_two min_two max_three min_three max_four min_four
set_option maxHeartbeats 8000000 in
set_option maxRecDepth 100000 in
theorem patchworklaw13_TidyIdle.calls (k : Nat) (A0 : Option Addr) (c0 : Nat) (l0 : List (Op)) (r : Bool) (w : World) (hr0 : Kd.C kOp w A0 l0.length l0) (hc0 : l0.length ≤ c0) (h : patchworklaw13_TidyIdle.f k l0 = some r) :
  Calls Try.prog 5 #[.slice A0 l0.length c0] w fun e w' => e = .returned (.bool r) ∧ Below w.heap.size w w' := by
 have HR0 := aM hr0
 have HC0 := aM hc0
 clear hr0 hc0
 have HB := aM (Below.refl w.heap.size w)
 have H : ((patchworklaw13_alive.f k).bind fun t443 => ((patchworkref8_Witness.f k l0).bind fun t444 => (if t443 = true then ((patchworklaw8_Few.f k l0).bind fun t447 => (if t447 = true then ((patchworkref8_Right.f k l0).bind fun t448 => (if t448 = true then ((patchworkref8_Olds.f k l0).bind fun t449 => (patchworklaw13_TidyIdle.j0 k l0 t443 t444 (decide (t449 > 300)))) else (patchworklaw13_TidyIdle.j0 k l0 t443 t444 true))) else (patchworklaw13_TidyIdle.j0 k l0 t443 t444 true))) else (patchworklaw13_TidyIdle.j0 k l0 t443 t444 true)))) = some r := h
 clear h
 replace H := oB H; obtain ⟨t443, A2, H⟩ := H
 replace H := oB H; obtain ⟨t444, A3, H⟩ := H
 have HC4 := aM H
 clear H
 go_enter Try.func5, Try.ntmps5
 go_upto_region 3 with (first | ((with_reducible refine gate_callee (f := 13) rfl ?_); refine goesL_ (some 8) rfl rfl Try.func13 yK rfl #[] rfl yG ?_; (with_reducible refine (patchworklaw13_alive.calls k  t443 _ A2.out).mono ?_); rintro e w5 ⟨rfl, hb⟩; refine ⟨_, rfl, ?_⟩; replace HB := aM (below_step yB hb); clear hb) | ((with_reducible refine gate_callee (f := 25) rfl ?_); refine goesL_ (some 10) rfl rfl Try.func25 yK rfl #[.slice A0 l0.length c0] rfl yG ?_; (with_reducible refine (patchworkref8_Witness.calls k _ _ l0 t444 _ (yC (Kd.C_below HR0.out HB.out)) HC0.out A3.out).mono ?_); rintro e w6 ⟨v445, rfl, ho0, hb⟩; refine ⟨_, rfl, ?_⟩; have HO446 := aM (Kd.R_lower ho0 yW); replace HB := aM (below_step yB hb); clear hb ho0))
 (try simp only [Act.put, List.setIfInBounds_toArray, List.set_cons_zero, List.set_cons_succ])
 go_cut [27] (fun v27 wc => ∃ (kq : Nat) (x27_3 : Bool), v27 = .bool x27_3 ∧ Aside0 (patchworklaw13_TidyIdle.j0 kq l0 t443 t444 x27_3 = some r) ∧ Aside0 (kq ≤ k) ∧ Aside0 (Kd.R Kd.string 9 wc w.heap.size (fun _ => True) v445 t444) ∧ Aside0 (Below w.heap.size w wc))
 case first =>
  have H := HC4.out; clear HC4
  by_cases c7 : t443 = true
  ·subst c7
   replace H := iT H; replace H := oB H; obtain ⟨t447, A8, H⟩ := H
   by_cases c9 : t447 = true
   ·subst c9
    replace H := iT H; replace H := oB H; obtain ⟨t448, A10, H⟩ := H
    by_cases c11 : t448 = true
    ·subst c11
     replace H := iT H; replace H := oB H; obtain ⟨t449, A12, H⟩ := H; have H' := aM H; clear H
     go_wp2_with (first | (go_at_call 14; (with_reducible refine (patchworklaw8_Few.calls k _ _ l0 true _ (yC (Kd.C_below HR0.out HB.out)) HC0.out A8.out).mono ?_); rintro e w' ⟨rfl, ⟨nd, rfl⟩⟩) | (go_at_call 21; (with_reducible refine (patchworkref8_Right.calls k _ _ l0 true _ (yC (Kd.C_below HR0.out yB)) HC0.out A10.out).mono ?_); rintro e w13 ⟨rfl, hb⟩; replace HO446 := aM (Kd.R_below (yH HO446.out) hb); replace HB := aM (below_step yB hb); clear hb) | (go_at_call 26; (with_reducible refine (patchworkref8_Olds.calls k _ _ l0 t449 _ (yC (Kd.C_below HR0.out HB.out)) HC0.out A12.out).mono ?_); rintro e w14 ⟨rfl, hb⟩; replace HO446 := aM (Kd.R_below (yH HO446.out) hb); replace HB := aM (below_step yB hb); clear hb))
     go_meet
     case rel => exact ⟨_, (decide (t449 > 300)), yE, H', ⟨by first | omega | exact Nat.le_refl _⟩, ⟨yH HO446.out⟩, ⟨yB⟩⟩
    ·replace c11 := Bool.eq_false_iff.mpr c11
     subst c11; have H' := aM (iF H); clear H
     go_wp2_with (first | (go_at_call 14; (with_reducible refine (patchworklaw8_Few.calls k _ _ l0 true _ (yC (Kd.C_below HR0.out HB.out)) HC0.out A8.out).mono ?_); rintro e w' ⟨rfl, ⟨nd, rfl⟩⟩) | (go_at_call 21; (with_reducible refine (patchworkref8_Right.calls k _ _ l0 false _ (yC (Kd.C_below HR0.out yB)) HC0.out A10.out).mono ?_); rintro e w15 ⟨rfl, hb⟩; replace HO446 := aM (Kd.R_below (yH HO446.out) hb); replace HB := aM (below_step yB hb); clear hb))
     go_meet
     case rel => exact ⟨_, (true), yE, H', ⟨by first | omega | exact Nat.le_refl _⟩, ⟨yH HO446.out⟩, ⟨yB⟩⟩
   ·replace c9 := Bool.eq_false_iff.mpr c9
    subst c9; have H' := aM (iF H); clear H
    go_wp2_with (first | (go_at_call 14; (with_reducible refine (patchworklaw8_Few.calls k _ _ l0 false _ (yC (Kd.C_below HR0.out HB.out)) HC0.out A8.out).mono ?_); rintro e w' ⟨rfl, ⟨nd, rfl⟩⟩))
    go_meet
    case rel => exact ⟨_, (true), yE, H', ⟨by first | omega | exact Nat.le_refl _⟩, ⟨yH HO446.out⟩, ⟨yB⟩⟩
  ·replace c7 := Bool.eq_false_iff.mpr c7
   subst c7; have H' := aM (iF H); clear H
   go_wp2
   go_meet
   case rel => exact ⟨_, (true), yE, H', ⟨by first | omega | exact Nat.le_refl _⟩, ⟨yH HO446.out⟩, ⟨yB⟩⟩
 case rest =>
  clear HC4; (try clear c1); (try clear c2); (try clear p2); (try clear c5); (try clear c7); (try clear c9); (try clear c11); (try clear c13); obtain ⟨kq, x27_3, rfl, HA, HJ3, HO_4, HB⟩ := hcut; cases kq with
  | zero => exact absurd HA.out (by simp [patchworklaw13_TidyIdle.j0])
  | succ kj3 =>
   have H := HA.out; clear HA; simp only [patchworklaw13_TidyIdle.j0] at H
   by_cases c16 : x27_3 = true
   ·subst c16
    replace H := iT H; obtain rfl := Option.some.inj H
    go_wp2
    go_ret
    exact ⟨yE2, yB⟩
   ·replace c16 := Bool.eq_false_iff.mpr c16
    subst c16; have H' := aM (iF H); clear H
    go_wp2
    go_loopg [5] kj3 (fun kq v5 w' => ∃ (x5_2 : Int), v5 = .int .i64 x5_2 ∧ Aside0 (patchworklaw13_TidyIdle.l0 kq l0 t444 x5_2 = some r) ∧ Aside0 (kq ≤ kj3) ∧ Aside0 (Kd.R Kd.string 9 w' w.heap.size (fun _ => True) v445 t444) ∧ Aside0 (Below w.heap.size w w'))
    case atStart => exact ⟨(0), yE, H', ⟨Nat.le_refl _⟩, ⟨yH HO_4.out⟩, ⟨yB⟩⟩
    case round =>
     clear H'; (try clear c1); (try clear c2); (try clear p2); (try clear c5); (try clear c7); (try clear c9); (try clear c11); (try clear c13); (try clear c16); (try clear p2); obtain ⟨x5_2, rfl, HA, HK2, HO_4, HB⟩ := hrel; cases gk with
     | zero => exact absurd HA.out (by simp [patchworklaw13_TidyIdle.l0])
     | succ k2 =>
      have H := HA.out; clear HA; simp only [patchworklaw13_TidyIdle.l0] at H
      by_cases c17 : x5_2 < (l0.length : Int)
      ·rw [if_pos c17] at H
       have c17b0 := decide_eq_true c17; clear c17
       by_cases c18 : 0 ≤ x5_2
       ·rw [if_pos c18] at H
        have c18b0 := decide_eq_true c18; clear c18
        by_cases c19 : (((rd_Op l0 x5_2).f2).size : Int) > 0
        ·rw [if_pos c19] at H
         have c19b0 := decide_eq_true c19; have c19b1 : decide (0 < ((rd_Op l0 x5_2).f2).size) = true := decide_eq_true (by omega); clear c19
         by_cases c20 : 0 < (((rd_Op l0 x5_2).f2).size : Int)
         ·rw [if_pos c20] at H
          have c20b0 := decide_eq_true c20; have c20b1 : decide (0 < ((rd_Op l0 x5_2).f2).size) = true := decide_eq_true (by omega); clear c20
          by_cases c22 : (bt ((rd_Op l0 x5_2).f2) 0) = 63
          ·rw [if_pos c22] at H
           have c22b0 := beq_iff_eq.mpr c22; have c22b1 := bne_eq_false_iff_eq.mpr c22; clear c22; obtain rfl := Option.some.inj H; have p450 : 0 ≤ (x5_2 : Int) := yO; have q450 : x5_2 < (l0.length : Int) := yO; obtain ⟨ad450, e450, hx450_0, hx450_1, hx450_2⟩ := at_OpB HB.out HR0.out x5_2 p450 q450; cases e450; replace p450 := eq_true p450; replace q450 := eq_true q450; have p451 : 0 ≤ (x5_2 : Int) := yO; have q451 : x5_2 < (l0.length : Int) := yO; obtain ⟨ad451, e451, hx451_0, hx451_1, hx451_2⟩ := at_Op HR0.out x5_2 p451 q451; obtain rfl : ad450 = ad451 := (by injection e451); replace hx451_0 := (HB.out.cell (bL w _ hx451_0)).trans hx451_0; replace hx451_1 := (HB.out.cell (bL w _ hx451_1)).trans hx451_1; replace hx451_2 := (HB.out.cell (bL w _ hx451_2)).trans hx451_2; replace p451 := eq_true p451; replace q451 := eq_true q451; have p21 : 0 ≤ (0 : Int) := (by omega); have q21 : 0 < ((rd_Op l0 x5_2).f2).size := (by have : (0 : Int) < (((rd_Op l0 x5_2).f2).size : Int) := yO; omega); have hx21 : ∀ h : 0 < ((rd_Op l0 x5_2).f2).size, ((((rd_Op l0 x5_2).f2)[0]'h).toNat : Int) = bt ((rd_Op l0 x5_2).f2) 0 := bt_at ((rd_Op l0 x5_2).f2) 0; clear p21; have qi21 : (0 < (((rd_Op l0 x5_2).f2).size : Int)) = True := eq_true (yO); replace q21 := eq_true q21
           go_wp2
           go_ret
           exact ⟨yE2, yB⟩
          ·rw [if_neg c22] at H
           have c22b0 := beq_eq_false_iff_ne.mpr c22; have c22b1 := bne_iff_ne.mpr c22; have H' := aM H; clear H; have p450 : 0 ≤ (x5_2 : Int) := yO; have q450 : x5_2 < (l0.length : Int) := yO; obtain ⟨ad450, e450, hx450_0, hx450_1, hx450_2⟩ := at_OpB HB.out HR0.out x5_2 p450 q450; cases e450; replace p450 := eq_true p450; replace q450 := eq_true q450; have p451 : 0 ≤ (x5_2 : Int) := yO; have q451 : x5_2 < (l0.length : Int) := yO; obtain ⟨ad451, e451, hx451_0, hx451_1, hx451_2⟩ := at_Op HR0.out x5_2 p451 q451; obtain rfl : ad450 = ad451 := (by injection e451); replace hx451_0 := (HB.out.cell (bL w _ hx451_0)).trans hx451_0; replace hx451_1 := (HB.out.cell (bL w _ hx451_1)).trans hx451_1; replace hx451_2 := (HB.out.cell (bL w _ hx451_2)).trans hx451_2; replace p451 := eq_true p451; replace q451 := eq_true q451; have p21 : 0 ≤ (0 : Int) := (by omega); have q21 : 0 < ((rd_Op l0 x5_2).f2).size := (by have : (0 : Int) < (((rd_Op l0 x5_2).f2).size : Int) := yO; omega); have hx21 : ∀ h : 0 < ((rd_Op l0 x5_2).f2).size, ((((rd_Op l0 x5_2).f2)[0]'h).toNat : Int) = bt ((rd_Op l0 x5_2).f2) 0 := bt_at ((rd_Op l0 x5_2).f2) 0; clear p21; have qi21 : (0 < (((rd_Op l0 x5_2).f2).size : Int)) = True := eq_true (yO); replace q21 := eq_true q21
           go_wp2
           go_roundg k2
           case measure => have := HJ3.out; have := HK2.out; omega
           case rel => exact ⟨(wrap64 (x5_2 + 1)), yE, H', ⟨by have := HJ3.out; have := HK2.out; omega⟩, ⟨yH HO_4.out⟩, ⟨yB⟩⟩
         ·rw [if_neg c20] at H
          exact absurd H (by simp)
        ·rw [if_neg c19] at H
         have c19b0 := decide_eq_false c19; have c19b1 : decide (0 < ((rd_Op l0 x5_2).f2).size) = false := decide_eq_false (by omega); clear c19; have H' := aM H; clear H; have p450 : 0 ≤ (x5_2 : Int) := yO; have q450 : x5_2 < (l0.length : Int) := yO; obtain ⟨ad450, e450, hx450_0, hx450_1, hx450_2⟩ := at_OpB HB.out HR0.out x5_2 p450 q450; cases e450; replace p450 := eq_true p450; replace q450 := eq_true q450
         go_wp2
         go_roundg k2
         case measure => have := HJ3.out; have := HK2.out; omega
         case rel => exact ⟨(wrap64 (x5_2 + 1)), yE, H', ⟨by have := HJ3.out; have := HK2.out; omega⟩, ⟨yH HO_4.out⟩, ⟨yB⟩⟩
       ·rw [if_neg c18] at H
        exact absurd H (by simp)
      ·rw [if_neg c17] at H
       have c17b0 := decide_eq_false c17; clear c17; replace H := Option.bind_eq_some_iff.mp H; obtain ⟨⟨t452, t453⟩, A230, H⟩ := H; replace H : (if t453 = true then ((patchworkref1_SameTexts.f k2 t452 t444).bind fun t456 => ((tidy_Idle.f k2 l0).bind fun t457 => (some (t456 == t457)))) else (some false)) = some r := H; have A23 := aM A230; clear A230
       by_cases c24 : t453 = true
       ·subst c24
        replace H := iT H; replace H := oB H; obtain ⟨t456, A25, H⟩ := H; replace H := oB H; obtain ⟨t457, A26, H⟩ := H; obtain rfl := Option.some.inj H; obtain ⟨Ao27, co27, eo27⟩ := Kd.R_slice HO_4.out; subst eo27
        go_wp2_with (first | ((with_reducible refine gate_callee (f := 22) rfl ?_); refine goesL_ (some 54) rfl rfl Try.func22 yK rfl #[.slice A0 l0.length c0, .slice Ao27 t444.length co27] rfl yG ?_; (with_reducible refine (patchworkref8_Do.calls k2 _ _ l0 _ _ t444 t452 true _ (yC (Kd.C_below HR0.out HB.out)) HC0.out (yC (Kd.R_reads' HO_4.out).2.2) ((Kd.R_reads' HO_4.out).2.1) A23.out).mono ?_); rintro e w28 ⟨v454, rfl, ho0, hb⟩; refine ⟨_, rfl, ?_⟩; have HO455 := aM (Kd.R_lower (Kd.R_new' ho0 (Kd.R_lt (yH HO_4.out))) yW); replace HO_4 := aM (Kd.R_elder' (yH HO_4.out) (Kd.R_base ho0) hb); replace HB := aM (below_step yB hb); clear hb ho0; obtain ⟨Ao29, co29, eo29⟩ := Kd.R_slice HO455.out; subst eo29) | (go_at_call 23; (with_reducible refine (patchworkref1_SameTexts.calls k2 _ _ t452 _ _ t444 t456 _ (yC (Kd.R_reads' HO455.out).2.2) ((Kd.R_reads' HO455.out).2.1) (yC (Kd.R_reads' HO_4.out).2.2) ((Kd.R_reads' HO_4.out).2.1) A25.out).mono ?_); rintro e w' ⟨rfl, ⟨nd, rfl⟩⟩) | (go_at_call 18; (with_reducible refine (tidy_Idle.calls k2 _ _ l0 t457 _ (yC (Kd.C_below HR0.out yB)) HC0.out A26.out).mono ?_); rintro e w30 ⟨rfl, hb⟩; replace HO_4 := aM (Kd.R_below (yH HO_4.out) hb); replace HO455 := aM (Kd.R_below (yH HO455.out) hb); replace HB := aM (below_step yB hb); clear hb))
        go_ret
        exact ⟨yE2, yB⟩
       ·replace c24 := Bool.eq_false_iff.mpr c24
        subst c24; replace H := iF H; obtain rfl := Option.some.inj H; obtain ⟨Ao31, co31, eo31⟩ := Kd.R_slice HO_4.out; subst eo31
        go_wp2_with (first | ((with_reducible refine gate_callee (f := 22) rfl ?_); refine goesL_ (some 54) rfl rfl Try.func22 yK rfl #[.slice A0 l0.length c0, .slice Ao31 t444.length co31] rfl yG ?_; (with_reducible refine (patchworkref8_Do.calls k2 _ _ l0 _ _ t444 t452 false _ (yC (Kd.C_below HR0.out HB.out)) HC0.out (yC (Kd.R_reads' HO_4.out).2.2) ((Kd.R_reads' HO_4.out).2.1) A23.out).mono ?_); rintro e w32 ⟨v454, rfl, ho0, hb⟩; refine ⟨_, rfl, ?_⟩; have HO455 := aM (Kd.R_lower (Kd.R_new' ho0 (Kd.R_lt (yH HO_4.out))) yW); replace HO_4 := aM (Kd.R_elder' (yH HO_4.out) (Kd.R_base ho0) hb); replace HB := aM (below_step yB hb); clear hb ho0))
        go_ret
        exact ⟨yE2, yB⟩
end Go.Proofs.Ytacpejblnjgcoaa.P
namespace Go.Proofs.Ytacpejblnjgcoaa.P
open Go.RowKit Go.Proofs.YtacpejblnjgcoaaW.PrintWords Go.Proofs.YtacpejblnjgcoaaW.PrintLast Go.Proofs.YtacpejblnjgcoaaW.PrintMore
def TidyIdle.Pure : Prop := ∀ (l0 : List (Op)), ((fun xs => ∀ y ∈ xs, okOp y) l0) → (fun xs => (xs.map wtOp).sum + 1) l0 ≤ 1048576 → ∃ k, patchworklaw13_TidyIdle.f k l0 = some true
end Go.Proofs.Ytacpejblnjgcoaa.P
namespace Go.Proofs.Ytacpejblnjgcoaa.P
open Go.RowKit Go.Proofs.YtacpejblnjgcoaaW.PrintWords Go.Proofs.YtacpejblnjgcoaaW.PrintLast Go.Proofs.YtacpejblnjgcoaaW.PrintMore
def skl : Nat → List U → List ByteArray
 | _, [] => []
 | n, .skip :: u => lineN n :: skl (n + 1) u
 | n, .keep _ :: u => skl (n + 1) u
 | n, .del _ :: u => skl (n + 1) u
 | n, .ins _ :: u => skl n u
theorem nones_none (o : List (Option ByteArray)) : nones (none :: o) = nones o + 1 := by simp [nones]
theorem nones_some (t : ByteArray) (o : List (Option ByteArray)) : nones (some t :: o) = nones o := by simp [nones]
theorem wit_put : ∀ (u : List U) (n : Nat), witU n u = putS (olds u) (skl n u) ∧ (skl n u).length = nones (olds u)
 | [], n => ⟨rfl, rfl⟩
 | x :: u, n => by
  cases x with
  | ins t => obtain ⟨a, b⟩ := wit_put u n; exact ⟨by simp only [witU, olds, skl]; exact a, by simp only [olds, skl]; exact b⟩
  | skip => obtain ⟨a, b⟩ := wit_put u (n + 1); exact ⟨by simp only [witU, olds, skl, putS, a], by simp only [olds, skl, nones_none, List.length_cons, b]⟩
  | keep t => obtain ⟨a, b⟩ := wit_put u (n + 1); exact ⟨by simp only [witU, olds, skl, putS, a], by simp only [olds, skl, nones_some, b]⟩
  | del t => obtain ⟨a, b⟩ := wit_put u (n + 1); exact ⟨by simp only [witU, olds, skl, putS, a], by simp only [olds, skl, nones_some, b]⟩
theorem line_data (n : Nat) : (lineN n).data.toList = 63 :: ((numF 4 n).data.toList ++ [10]) := by
 unfold lineN
 rw [ByteArray.data_append, Array.toList_append, ByteArray.data_append, Array.toList_append]; rfl
theorem line_ok (n : Nat) : rightT (lineN n) = true ∧ openT (lineN n) = false ∧ askB (lineN n) = true := by
 have d := line_data n
 have m := (num_facts 4 n).2
 refine ⟨?_, ?_, ?_⟩
 ·unfold rightT
  rw [d]
  have e : (63 :: ((numF 4 n).data.toList ++ [10]) : List UInt8).dropLast = 63 :: (numF 4 n).data.toList := by
   rw [← List.cons_append, List.dropLast_concat]
  rw [e]
  have : (10 : UInt8) ∉ (63 : UInt8) :: (numF 4 n).data.toList := by
   intro h
   rcases List.mem_cons.mp h with h | h
   ·exact absurd h (by decide)
   ·exact m h
  simp [this]
 ·unfold openT
  rw [d, ← List.cons_append, List.getLast?_concat]; simp
 ·unfold askB
  rw [d]; rfl
theorem skl_all : ∀ (u : List U) (n : Nat), ∀ x ∈ skl n u, ∃ m, x = lineN m
 | [], n, x, h => by simp [skl] at h
 | y :: u, n, x, h => by
  cases y with
  | ins t => exact skl_all u n x h
  | skip =>
   rcases List.mem_cons.mp h with h | h
   ·exact ⟨n, h⟩
   ·exact skl_all u (n + 1) x h
  | keep t => exact skl_all u (n + 1) x h
  | del t => exact skl_all u (n + 1) x h
theorem not_asked : ∀ (l : List Op), (∀ o ∈ l, askB o.f2 = false) → (∀ t, some t ∈ olds (ex l) → askB t = false) ∧ (∀ t, some t ∈ news (ex l) → askB t = false)
 | [], _ => ⟨fun t h => by simp [ex, olds] at h, fun t h => by simp [ex, news] at h⟩
 | o :: l, h => by
  obtain ⟨i1, i2⟩ := not_asked l fun x hx => h x (List.mem_cons_of_mem _ hx)
  have ho := h o (List.mem_cons_self ..)
  have key : (∀ t, some t ∈ olds (exO o) → askB t = false) ∧ (∀ t, some t ∈ news (exO o) → askB t = false) := by
   unfold exO
   split
   ·rw [olds_skips, news_skips]
    exact ⟨fun t h => by have := List.eq_of_mem_replicate h; simp at this, fun t h => by have := List.eq_of_mem_replicate h; simp at this⟩
   ·split
    ·exact ⟨fun t h => by simp [olds] at h; rw [h]; exact ho, fun t h => by simp [news] at h; rw [h]; exact ho⟩
    ·split
     ·exact ⟨fun t h => by simp [olds] at h; rw [h]; exact ho, fun t h => by simp [news] at h⟩
     ·exact ⟨fun t h => by simp [olds] at h, fun t h => by simp [news] at h; rw [h]; exact ho⟩
  rw [ex_cons, olds_app, news_app]
  refine ⟨fun t h => ?_, fun t h => ?_⟩
  ·rcases List.mem_append.mp h with h | h
   ·exact key.1 t h
   ·exact i1 t h
  ·rcases List.mem_append.mp h with h | h
   ·exact key.2 t h
   ·exact i2 t h
theorem ask_val {t : ByteArray} (h : 0 < t.size) : (bt t 0 = 63) ↔ askB t = true := by
 have e := bt_getD t 0
 have z : bt t 0 = bt t ((0 : Nat) : Int) := rfl
 rw [z, e]
 unfold askB
 cases hd : t.data.toList with
 | nil =>
  have : t.data.toList.length = t.size := by rw [Array.length_toList]; rfl
  rw [hd] at this
  simp at this
  omega
 | cons x r =>
  simp only [List.getD_cons_zero, List.head?_cons, decide_eq_true_eq, Option.some.injEq]
  constructor
  ·intro h
   have : x.toNat = 63 := by omega
   exact UInt8.toNat_inj.mp (by rw [this]; rfl)
  ·rintro rfl; rfl
theorem idle_loop {ls : List ByteArray} {l : List Op} (last : (∀ o ∈ l, askB o.f2 = false) → Ev (fun k => (patchworkref8_Do.f k l ls).bind fun bt452 => (if bt452.2 = true then ((patchworkref1_SameTexts.f k bt452.1 ls).bind fun t456 => ((tidy_Idle.f k l).bind fun t457 => (some (t456 == t457)))) else (some false))) true) :
  ∀ (s p : List Op), p ++ s = l → Sm l → (∀ o ∈ p, askB o.f2 = false) → Ev (fun k => patchworklaw13_TidyIdle.l0 k l ls (p.length : Int)) true := by
 intro s
 induction s with
 | nil =>
  intro p e hb hp
  subst e
  have hl := last (by simpa using hp)
  refine Ev.step (fun k => rfl) ?_
  simp only [patchworklaw13_TidyIdle.l0, lt_end, if_false]
  exact hl
 | cons o s ih =>
  intro p e hb hp
  subst e
  have w := wrap_len p o (by have := hb.len; omega)
  have i := fun h => ih (p ++ [o]) (by simp) hb h
  refine Ev.step (fun k => rfl) ?_
  simp only [patchworklaw13_TidyIdle.l0, lt_mid, nn_nat, if_true, rdOp_mid, w]
  have fin : askB o.f2 = false → Ev (fun k => patchworklaw13_TidyIdle.l0 k (p ++ o :: s) ls ((p ++ [o]).length : Int)) true := by
   intro ha
   refine i fun x hx => ?_
   rcases List.mem_append.mp hx with h | h
   ·exact hp x h
   ·rw [List.mem_singleton.mp h]; exact ha
  by_cases hz : (o.f2.size : Int) > 0
  ·have hz2 : (0 : Int) < (o.f2.size : Int) := hz
   simp only [if_pos hz, if_pos hz2]
   by_cases hq : bt o.f2 0 = 63
   ·simp only [if_pos hq]; exact Ev.now _
   ·simp only [if_neg hq]
    refine fin ?_
    cases ha : askB o.f2
    ·rfl
    ·exact absurd ((ask_val (by omega)).mpr ha) hq
  ·simp only [if_neg hz]
   refine fin ?_
   have e0 : o.f2.data.toList = [] := by
    have : o.f2.data.toList.length = o.f2.size := by rw [Array.length_toList]; rfl
    exact List.length_eq_zero_iff.mp (by omega)
   unfold askB
   rw [e0]; rfl
theorem TidyIdle.out (l : List Op) (ls : List ByteArray) : Ev (fun k => patchworklaw13_TidyIdle.j0 k l true ls true) true := by
 refine Ev.step (fun k => rfl) ?_
 simp only [patchworklaw13_TidyIdle.j0, if_true]
 exact Ev.now true
theorem putS_len : ∀ (o : List (Option ByteArray)) (s : List ByteArray), (putS o s).length ≤ o.length
 | [], s => by cases s <;> simp [putS]
 | none :: o, [] => by simp [putS]
 | none :: o, x :: s => by have := putS_len o s; simp only [putS, List.length_cons]; omega
 | some t :: o, s => by have := putS_len o s; simp only [putS, List.length_cons]; omega
theorem putS_mem : ∀ (o : List (Option ByteArray)) (s : List ByteArray), ∀ y ∈ putS o s, some y ∈ o ∨ y ∈ s
 | [], s, y, h => by cases s <;> simp [putS] at h
 | none :: o, [], y, h => by simp [putS] at h
 | none :: o, x :: s, y, h => by
  simp only [putS] at h
  rcases List.mem_cons.mp h with rfl | h
  ·exact .inr (List.mem_cons_self ..)
  ·rcases putS_mem o s y h with h | h
   ·exact .inl (List.mem_cons_of_mem _ h)
   ·exact .inr (List.mem_cons_of_mem _ h)
 | some t :: o, s, y, h => by
  simp only [putS] at h
  rcases List.mem_cons.mp h with rfl | h
  ·exact .inl (List.mem_cons_self ..)
  ·rcases putS_mem o s y h with h | h
   ·exact .inl (List.mem_cons_of_mem _ h)
   ·exact .inr h
theorem TidyIdle.proved : TidyIdle.Pure := by
 intro l _ hw
 simp only at hw
 have fl := fewN_le l
 have ll := fewN_len l
 have hs : Sm l := Sm.of_wt (by omega)
 refine Ev.rounds ?_
 simp only [patchworklaw13_TidyIdle.f]
 refine Ev.bind' alive13 ?_
 refine Ev.bind' (refwit_ev hs) ?_
 simp only [if_true]
 refine Ev.bind' (few_ev (by omega)) ?_
 by_cases h : fewN l ≤ 600
 ·simp only [h, decide_true, if_true]
  refine Ev.bind' (refright_ev hs) ?_
  cases hr : rightL l
  ·exact TidyIdle.out ..
  simp only [if_true]
  refine Ev.bind' (refolds_ev hs) ?_
  by_cases hc : capd 3 l > 300
  ·simp only [hc, decide_true]; exact TidyIdle.out ..
  simp only [hc, decide_false]
  have hc2 : capd 3 l ≤ 5000 := by omega
  have wl : witL l = putS (olds (ex l)) (skl 0 (ex l)) := by
   unfold witL
   rw [if_pos ⟨hr, hc2⟩, (wit_put (ex l) 0).1]
  have sl := (wit_put (ex l) 0).2
  have ru := rightL_U hr
  have ok : okS (olds (ex l)) = true ∧ okS (news (ex l)) = true := by
   unfold rightU at ru
   simpa using ru
  have all3 : ∀ x ∈ skl 0 (ex l), rightT x = true ∧ openT x = false := by
   intro x hx
   obtain ⟨m, rfl⟩ := skl_all _ _ x hx
   exact ⟨(line_ok m).1, (line_ok m).2.1⟩
  have allq : ∀ x ∈ skl 0 (ex l), askB x = true := by
   intro x hx
   obtain ⟨m, rfl⟩ := skl_all _ _ x hx
   exact (line_ok m).2.2
  have d1 : doU (ex l) (putS (olds (ex l)) (skl 0 (ex l))) = some (putS (news (ex l)) (skl 0 (ex l))) := putS_do _ _ sl.symm
  have dl : doL l (witL l) = (putS (news (ex l)) (skl 0 (ex l)), true) := by
   rw [wl]
   exact doL_of hr (putS_wholeL ok.1 all3) d1 (putS_wholeL ok.2 all3)
  have lo : (olds (ex l)).length ≤ 300 := by
   have := olds_capd hr
   omega
  have ln : (putS (news (ex l)) (skl 0 (ex l))).length < 4611686018427387904 := by
   have := putS_len (news (ex l)) (skl 0 (ex l))
   have n := ok.2
   unfold okS at n
   simp only [Bool.and_eq_true, decide_eq_true_eq] at n
   omega
  have st : SmT (witL l) := by
   rw [wl]
   refine ⟨by have := putS_len (olds (ex l)) (skl 0 (ex l)); omega, fun y hy => ?_⟩
   rcases putS_mem _ _ y hy with h1 | h1
   ·have he : ByteArray.empty.size = 0 := rfl
    have : ∀ u : List U, some y ∈ olds u → ∃ x ∈ u, y = txU x := by
     intro u
     induction u with
     | nil => intro h; simp [olds] at h
     | cons x u ih =>
      intro h
      have lift : (∃ z ∈ u, y = txU z) → ∃ z ∈ x :: u, y = txU z := fun ⟨z, hz, e⟩ => ⟨z, List.mem_cons_of_mem _ hz, e⟩
      cases x with
      | ins t => exact lift (ih h)
      | skip =>
       rcases List.mem_cons.mp h with h | h
       ·simp at h
       ·exact lift (ih h)
      | keep t =>
       rcases List.mem_cons.mp h with h | h
       ·exact ⟨_, List.mem_cons_self .., Option.some.inj h⟩
       ·exact lift (ih h)
      | del t =>
       rcases List.mem_cons.mp h with h | h
       ·exact ⟨_, List.mem_cons_self .., Option.some.inj h⟩
       ·exact lift (ih h)
    obtain ⟨x, hx, rfl⟩ := this _ h1
    rcases tx_ex hx with e | ⟨o, ho, e⟩
    ·rw [e, he]; omega
    ·rw [e]; exact hs.2 o ho
   ·obtain ⟨m, rfl⟩ := skl_all _ _ y h1
    have := (line_size m).2.2
    omega
  refine Ev.step (fun k => rfl) ?_
  simp only [patchworklaw13_TidyIdle.j0, Bool.false_eq_true, if_false]
  refine idle_loop (fun hq => ?_) l [] rfl hs (fun o ho => by simp at ho)
  refine Ev.bind' (refdo_ev hs st) ?_
  rw [dl]
  simp only [if_true]
  refine Ev.bind' (texts_ev _ _ ln) ?_
  refine Ev.bind' (pidle_ev hs (by omega)) ?_
  obtain ⟨q1, q2⟩ := not_asked l hq
  have key : decide (putS (news (ex l)) (skl 0 (ex l)) = witL l) = idleL l := by
   rw [idle_iff hr, wl, decide_eq_decide]
   constructor
   ·intro e
    exact (putS_inj _ _ _ sl.symm (by rw [nones_eq]; exact sl.symm) allq q1 q2 e).symm
   ·intro e
    rw [e]
  rw [key]
  simp only [beq_self_eq_true]
  exact Ev.now true
 ·simp only [h, decide_false, Bool.false_eq_true, if_false]
  exact TidyIdle.out ..
end Go.Proofs.Ytacpejblnjgcoaa.P
namespace Go.Proofs.Ytacpejblnjgcoaa.P.tidyIdle
open Go.ChangeShapes Go.WideShapes Go.ChangeAt Go.RowKit Go.Proofs.Ytacpejblnjgcoaa.P Go.Proofs.YtacpejblnjgcoaaW.PrintWords
open Go.ChangeMaps (open_string shut_string)
theorem own : ownKnob Try.prog.godebug = none := by kernel_rfl
theorem laidOut : laidOutB Try.prog = true := by kernel_rfl
theorem opens0 : Opens Try.prog 36 kOp okOp wtOp := (opens_struct3 (d0 := (Kd.int .i64)) (d1 := (Kd.int .i64)) (d2 := Kd.string) Try.underlying36 (by kernel_rfl) rfl rfl rfl rfl rfl rfl (opens_int Try.underlying3 (by kernel_rfl)) (opens_int Try.underlying3 (by kernel_rfl)) (opens_string Try.underlying9 (by kernel_rfl)) (fun x : Op => (x.f0, x.f1, x.f2)) (fun a b c => ⟨a, b, c⟩) (fun _ _ _ => rfl))
set_option maxRecDepth 100000 in
theorem contract (H : Type) (enc : TypeId × Value → H) (W : World) (base : Nat) (args : Array Value) (ds gs : List (DataW H)) (before : List MemPlace)
  (hval : ∀ (j : Nat) t v, Try.f5.params[j]? = some t → args[j]? = some v → Value.okWide Try.prog W .any base t v)
  (hW : DataW.Whole enc Try.prog Try.f5.params.toList Rows.tidyIdleSpec.vars false W args.toList ds gs before) (hk : Rows.uptoSmall H (ds ++ gs) = true) :
  Calls Try.prog 5 args W fun e W' => ∃ v, e = .returned v ∧ Rows.tidyIdleSpec.post enc Try.prog Try.f5 false true false false W args v W' := by
 have hW' := hW
 obtain ⟨p, q, hA0, hV, rfl, hfz, hnd⟩ := hW
 have hA : DataW.TrodAll enc Try.prog W 0 (fun _ => true) true Try.f5.params.toList args.toList ds p := hA0
 rw [Try.params5] at hA hval
 obtain ⟨v0, vs0, d0, ds0, p0, q0, hargs, rfl, rfl, h0, r0⟩ := trodAll_cons hA
 obtain ⟨rfl, rfl, rfl⟩ := trodAll_nil r0
 obtain rfl : args = #[v0] := by cases args; simp_all
 obtain ⟨rfl, rfl⟩ := trodVars_none hV
 have hb := small_all hk
 simp only [List.append_nil, Rows.uptoBulkAll] at hb
 obtain ⟨A0, len0, c0, rfl⟩ := okWide_slice Try.underlying22 (hval 0 22 v0 rfl rfl)
 have k0 := h0
 have lt0 : ∀ x ∈ p0, x.block < W.heap.size := by obtain ⟨m, hm⟩ := k0; exact DataW.trod_lt m _ _ _ hm
 obtain ⟨fuel0, hf0⟩ := h0
 obtain ⟨A0', c0', l0, hcs0, hc0, hr0, ok0, wt0⟩ := open_row Try.underlying22 opens0 hf0
 simp only [Value.cells, List.cons.injEq, Value.slice.injEq, and_true] at hcs0
 obtain ⟨rfl, rfl, rfl⟩ := hcs0
 clear hA0 hval
 obtain ⟨k, hp⟩ := TidyIdle.proved l0 ok0 (by simp only [] at *; omega)
 refine (patchworklaw13_TidyIdle.calls k _ _ l0 true W hr0 hc0 hp).mono fun e W' ⟨he, bel0⟩ => ?_
 have bel : Below W.heap.size W W' := bel0
 subst he
 exact ⟨_, rfl, _, _, _, [], _, [], hW', trodAll_mk1 (shut_bool Try.underlying4 _), (trodAll_cons_mk (Below.trod laidOut (by kernel_rfl) (of_decide_eq_true (by kernel_rfl)) k0 bel lt0) trodAll_mk0), rfl, bel.frame _, fun h => by cases h⟩
set_option maxRecDepth 100000 in
theorem lifted (os : Os) (started : os.Started) (H : Type) (enc : TypeId × Value → H) (F : Stop.Interp) :
  ReturnsInHanded {} Try.checked os 5 .any ((Rows.OpenSpec.upto Rows.tidyIdleSpec).pre6 enc Try.prog Try.f5 Rows.tidyIdleUptoRow.domain false) (((Rows.OpenSpec.upto Rows.tidyIdleSpec).at F).post enc Try.prog Try.f5 false true false false) := by
 refine returnsInHanded_of_cond (C := Try.checked) (s := Rows.OpenSpec.upto Rows.tidyIdleSpec) (k := Rows.uptoSmall) rfl own started (by kernel_rfl) Try.func5
  (OpenSpec.witness (enc := enc) (C := Try.checked) (s := Rows.OpenSpec.upto Rows.tidyIdleSpec) (k := Rows.uptoSmall) rfl false ⟨#[], #[.slice none 0 0], []⟩ 8 (by kernel_rfl) (by kernel_rfl) (by kernel_rfl)
   (x := ([.nil], [], [])) (by kernel_rfl) rfl (by kernel_rfl)) ?_
 intro W base args ds gs before hval hW _ hk _
 exact contract H enc W base args ds gs before hval hW hk
theorem over : Rows.tidyIdleUptoRow.holds Try.pinned (Rows.OpenSpec.upto Rows.tidyIdleSpec) :=
 OpenClaim.holds_of_cond 5 Try.f5 rfl rfl rfl rfl rfl rfl rfl ⟨rfl, rfl, rfl, rfl, rfl⟩ rfl rfl rfl rfl rfl (by kernel_rfl) Try.func5 (by kernel_rfl)
  (of_decide_eq_true (by kernel_rfl)) (by unfold Func.isWrapper; first | (rw [if_pos (by decide +kernel)]; kernel_rfl) | (rw [if_neg (by decide +kernel)]; exact ⟨rfl, rfl⟩))
  (fun os started H enc _ F => lifted os started H enc F)
theorem proved : Rows.TidyIdleUptoSaid := over
end Go.Proofs.Ytacpejblnjgcoaa.P.tidyIdle
namespace Go.Proofs.Ytacpejblnjgcoaa
theorem tidyIdle_holds : Rows.TidyIdleUptoSaid := P.tidyIdle.proved
#print axioms tidyIdle_holds
end Go.Proofs.Ytacpejblnjgcoaa
