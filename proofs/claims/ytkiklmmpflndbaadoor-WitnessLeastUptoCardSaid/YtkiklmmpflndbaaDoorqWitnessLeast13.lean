/- The law WitnessLeast answers true, for all arguments that hold together at most 1048576 values and letters, and leaves them as they were. -/
import Derived.Test.YtkiklmmpflndbaaDoorqWitnessLeast4
import Derived.Test.YtkiklmmpflndbaaDoorqWitnessLeast5
import Derived.Test.YtkiklmmpflndbaaDoorqWitnessLeast3
import Derived.Test.YtkiklmmpflndbaaDoorqWitnessLeast11
import Derived.Test.YtkiklmmpflndbaaDoorqWitnessLeast9
import Derived.Test.YtkiklmmpflndbaaDoorqWitnessLeast12
import Derived.Test.YtkiklmmpflndbaaDoorqWitnessLeast7
import Derived.Test.YtkiklmmpflndbaaDoorCards
import Derived.Test.YtkiklmmpflndbaaDoorTie
import Derived.Deep.DeepHandedRow
import Derived.Lib.LaidTab
import Derived.LaidSub
import Derived.LaidLaws
import Derived.WalkKit
import Derived.ProofKit
import Derived.OpenShut
import Derived.ShutString
import Derived.ChangeOld
import Derived.Below
import Derived.SizedLaws
import Derived.JoinedCond
set_option linter.unusedVariables false
set_option linter.unusedSimpArgs false
namespace Go.Proofs.YtkiklmmpflndbaaDoor.P
open Go.RowKit Go.Proofs.YtkiklmmpflndbaaDoorW.PrintWords Go.Proofs.YtkiklmmpflndbaaDoorW.PrintLast Go.Proofs.YtkiklmmpflndbaaDoorW.PrintMore
open Go.Proofs.YtkiklmmpflndbaaDoorW.PrintWords.Aside0 renaming mk → aM
open Go.World renaming block_lt_of_cell? → bL
attribute [local go_sem] max2_int min2_int max_two min_two max_three min_three max_four min_four
set_option maxHeartbeats 8000000 in
set_option maxRecDepth 100000 in
theorem patchworklaw18_WitnessLeast.calls (k : Nat) (A0 : Option Addr) (c0 : Nat) (l0 : List (Op)) (A1 : Option Addr) (c1 : Nat) (l1 : List ByteArray) (r : Bool) (w : World) (htab : TabOk w) (hr0 : Kd.C kOp w A0 l0.length l0) (hc0 : l0.length ≤ c0) (hr1 : Kd.C Kd.string w A1 l1.length l1) (hc1 : l1.length ≤ c1) (h : patchworklaw18_WitnessLeast.f k l0 l1 = some r) :
  Calls Tryd.prog 3 #[.slice A0 l0.length c0, .slice A1 l1.length c1] w fun e w' => e = .returned (.bool r) ∧ Below w.heap.size w w' := by
 have HR0 := aM hr0
 have HC0 := aM hc0
 clear hr0 hc0
 have HR1 := aM hr1
 have HC1 := aM hc1
 clear hr1 hc1
 have HB := aM (Below.refl w.heap.size w)
 have HTAB := aM htab
 clear htab
 have H : ((patchworklaw18_alive.f k).bind fun t276 => (if t276 = true then ((patchworklaw8_Few.f k l0).bind fun t277 => (if t277 = true then ((patchworkref8_Right.f k l0).bind fun t278 => (if t278 = true then (if (l1.length : Int) > 300 then (patchworklaw18_WitnessLeast.j0 k l0 l1 t276 true) else ((patchworkref1_Join.f k l1).bind fun t279 => (if (t279.size : Int) > 2000 then (patchworklaw18_WitnessLeast.j0 k l0 l1 t276 true) else ((patchworkref8_Olds.f k l0).bind fun t280 => (patchworklaw18_WitnessLeast.j0 k l0 l1 t276 (decide (t280 > 300))))))) else (patchworklaw18_WitnessLeast.j0 k l0 l1 t276 true))) else (patchworklaw18_WitnessLeast.j0 k l0 l1 t276 true))) else (patchworklaw18_WitnessLeast.j0 k l0 l1 t276 true))) = some r := h
 clear h
 replace H := oB H; obtain ⟨t276, A3, H⟩ := H
 have HC4 := aM H
 clear H
 go_enter Tryd.func3, Tryd.ntmps3
 go_upto_region 2 with (first | ((with_reducible refine gate_callee (f := 8) rfl ?_); refine goesL_ (some 12) rfl rfl Tryd.func8 yK rfl #[] rfl yG ?_; (with_reducible refine (patchworklaw18_alive.calls k  t276 _ (tabY HTAB.out) A3.out).mono ?_); rintro e w5 ⟨rfl, hb⟩; refine ⟨_, rfl, ?_⟩; replace HB := aM (below_step yB hb); clear hb))
 (try simp only [Act.put, List.setIfInBounds_toArray, List.set_cons_zero, List.set_cons_succ])
 go_cut [40] (fun v40 wc => ∃ (kq : Nat) (x40_3 : Bool), v40 = .bool x40_3 ∧ Aside0 (patchworklaw18_WitnessLeast.j0 kq l0 l1 t276 x40_3 = some r) ∧ Aside0 (kq ≤ k) ∧ Aside0 (Below w.heap.size w wc))
 case first =>
  have H := HC4.out; clear HC4
  by_cases c6 : t276 = true
  ·subst c6
   replace H := iT H; replace H := oB H; obtain ⟨t277, A7, H⟩ := H
   by_cases c8 : t277 = true
   ·subst c8
    replace H := iT H; replace H := oB H; obtain ⟨t278, A9, H⟩ := H
    by_cases c10 : t278 = true
    ·subst c10
     replace H := iT H
     by_cases c11 : (l1.length : Int) > 300
     ·rw [if_pos c11] at H
      have c11b0 := decide_eq_true c11; have c11b1 : decide (300 < l1.length) = true := decide_eq_true (by omega); clear c11
      (first | rw [c11b0] | (simp only [i64_w, i32_w]; rw [c11b0]) | skip)
      have H' := aM H; clear H
      go_wp2_with (first | (go_at_call 9; (with_reducible refine (patchworklaw8_Few.calls k _ _ l0 true _ (yC (Kd.C_below HR0.out HB.out)) HC0.out A7.out).mono ?_); rintro e w' ⟨rfl, ⟨nd, rfl⟩⟩) | (go_at_call 10; (with_reducible refine (patchworkref8_Right.calls k _ _ l0 true _ (yC (Kd.C_below HR0.out yB)) HC0.out A9.out).mono ?_); rintro e w12 ⟨rfl, hb⟩; replace HB := aM (below_step yB hb); clear hb))
      go_meet
      case rel => exact ⟨_, (true), yE, H', ⟨by first | omega | exact Nat.le_refl _⟩, ⟨yB⟩⟩
     ·rw [if_neg c11] at H
      have c11b0 := decide_eq_false c11; have c11b1 : decide (300 < l1.length) = false := decide_eq_false (by omega); clear c11
      (first | rw [c11b0] | (simp only [i64_w, i32_w]; rw [c11b0]) | skip)
      replace H := oB H; obtain ⟨t279, A13, H⟩ := H
      by_cases c14 : (t279.size : Int) > 2000
      ·rw [if_pos c14] at H
       have c14b0 := decide_eq_true c14; have c14b1 : decide (2000 < t279.size) = true := decide_eq_true (by omega); clear c14; have H' := aM H; clear H
       go_wp2_with (first | (go_at_call 9; (with_reducible refine (patchworklaw8_Few.calls k _ _ l0 true _ (yC (Kd.C_below HR0.out HB.out)) HC0.out A7.out).mono ?_); rintro e w' ⟨rfl, ⟨nd, rfl⟩⟩) | (go_at_call 10; (with_reducible refine (patchworkref8_Right.calls k _ _ l0 true _ (yC (Kd.C_below HR0.out yB)) HC0.out A9.out).mono ?_); rintro e w15 ⟨rfl, hb⟩; replace HB := aM (below_step yB hb); clear hb) | (go_at_call 11; (with_reducible refine (patchworkref1_Join.calls k _ _ l1 t279 _ (yC (Kd.C_below HR1.out HB.out)) HC1.out A13.out).mono ?_); rintro e w16 ⟨rfl, hb⟩; replace HB := aM (below_step yB hb); clear hb))
       go_meet
       case rel => exact ⟨_, (true), yE, H', ⟨by first | omega | exact Nat.le_refl _⟩, ⟨yB⟩⟩
      ·rw [if_neg c14] at H
       have c14b0 := decide_eq_false c14; have c14b1 : decide (2000 < t279.size) = false := decide_eq_false (by omega); clear c14; replace H := oB H; obtain ⟨t280, A17, H⟩ := H; have H' := aM H; clear H
       go_wp2_with (first | (go_at_call 9; (with_reducible refine (patchworklaw8_Few.calls k _ _ l0 true _ (yC (Kd.C_below HR0.out HB.out)) HC0.out A7.out).mono ?_); rintro e w' ⟨rfl, ⟨nd, rfl⟩⟩) | (go_at_call 10; (with_reducible refine (patchworkref8_Right.calls k _ _ l0 true _ (yC (Kd.C_below HR0.out yB)) HC0.out A9.out).mono ?_); rintro e w18 ⟨rfl, hb⟩; replace HB := aM (below_step yB hb); clear hb) | (go_at_call 11; (with_reducible refine (patchworkref1_Join.calls k _ _ l1 t279 _ (yC (Kd.C_below HR1.out HB.out)) HC1.out A13.out).mono ?_); rintro e w19 ⟨rfl, hb⟩; replace HB := aM (below_step yB hb); clear hb) | (go_at_call 12; (with_reducible refine (patchworkref8_Olds.calls k _ _ l0 t280 _ (yC (Kd.C_below HR0.out HB.out)) HC0.out A17.out).mono ?_); rintro e w20 ⟨rfl, hb⟩; replace HB := aM (below_step yB hb); clear hb))
       go_meet
       case rel => exact ⟨_, (decide (t280 > 300)), yE, H', ⟨by first | omega | exact Nat.le_refl _⟩, ⟨yB⟩⟩
    ·replace c10 := Bool.eq_false_iff.mpr c10
     subst c10; have H' := aM (iF H); clear H
     go_wp2_with (first | (go_at_call 9; (with_reducible refine (patchworklaw8_Few.calls k _ _ l0 true _ (yC (Kd.C_below HR0.out HB.out)) HC0.out A7.out).mono ?_); rintro e w' ⟨rfl, ⟨nd, rfl⟩⟩) | (go_at_call 10; (with_reducible refine (patchworkref8_Right.calls k _ _ l0 false _ (yC (Kd.C_below HR0.out yB)) HC0.out A9.out).mono ?_); rintro e w21 ⟨rfl, hb⟩; replace HB := aM (below_step yB hb); clear hb))
     go_meet
     case rel => exact ⟨_, (true), yE, H', ⟨by first | omega | exact Nat.le_refl _⟩, ⟨yB⟩⟩
   ·replace c8 := Bool.eq_false_iff.mpr c8
    subst c8; have H' := aM (iF H); clear H
    go_wp2_with (first | (go_at_call 9; (with_reducible refine (patchworklaw8_Few.calls k _ _ l0 false _ (yC (Kd.C_below HR0.out HB.out)) HC0.out A7.out).mono ?_); rintro e w' ⟨rfl, ⟨nd, rfl⟩⟩))
    go_meet
    case rel => exact ⟨_, (true), yE, H', ⟨by first | omega | exact Nat.le_refl _⟩, ⟨yB⟩⟩
  ·replace c6 := Bool.eq_false_iff.mpr c6
   subst c6; have H' := aM (iF H); clear H
   go_wp2
   go_meet
   case rel => exact ⟨_, (true), yE, H', ⟨by first | omega | exact Nat.le_refl _⟩, ⟨yB⟩⟩
 case rest =>
  clear HC4; (try clear c1); (try clear p2); (try clear c3); (try clear c6); (try clear c8); (try clear c10); (try clear c11); (try clear c11b0); (try clear c11b1); (try clear c14); (try clear c14b0); (try clear c14b1); obtain ⟨kq, x40_3, rfl, HA, HJ3, HB⟩ := hcut; cases kq with
  | zero => exact absurd HA.out (by simp [patchworklaw18_WitnessLeast.j0])
  | succ kj3 =>
   have H := HA.out; clear HA; simp only [patchworklaw18_WitnessLeast.j0] at H
   by_cases c22 : x40_3 = true
   ·subst c22
    replace H := iT H; obtain rfl := Option.some.inj H
    go_wp2
    go_ret
    exact ⟨yE2, yB⟩
   ·replace c22 := Bool.eq_false_iff.mpr c22
    subst c22; replace H := iF H; replace H := oB H; obtain ⟨t281, A23, H⟩ := H; replace H := Option.bind_eq_some_iff.mp H; obtain ⟨⟨t284, t285⟩, A240, H⟩ := H; replace H : (if t285 = true then (patchworklaw18_WitnessLeast.j1 kj3 l0 t281 (decide ((l1.length : Int) < (t281.length : Int)))) else (patchworklaw18_WitnessLeast.j1 kj3 l0 t281 false)) = some r := H; have A24 := aM A240; clear A240; have HC25 := aM H; clear H
    go_upto_region 6 with (first | ((with_reducible refine gate_callee (f := 13) rfl ?_); refine goesL_ (some 43) rfl rfl Tryd.func13 yK rfl #[.slice A0 l0.length c0] rfl yG ?_; (with_reducible refine (witness_Lines.calls kj3 _ _ l0 t281 _ (tabY HTAB.out) (yC (Kd.C_below HR0.out HB.out)) HC0.out A23.out).mono ?_); rintro e w26 ⟨v282, rfl, ho0, hb⟩; refine ⟨_, rfl, ?_⟩; have HO283 := aM (Kd.R_lower ho0 yW); replace HB := aM (below_step yB hb); clear hb ho0) | ((with_reducible refine gate_callee (f := 14) rfl ?_); refine goesL_ (some 47) rfl rfl Tryd.func14 yK rfl #[.slice A0 l0.length c0, .slice A1 l1.length c1] rfl yG ?_; (with_reducible refine (patchworkref8_Do.calls kj3 _ _ l0 _ _ l1 t284 t285 _ (yC (Kd.C_below HR0.out HB.out)) HC0.out (yC (Kd.C_below HR1.out HB.out)) HC1.out A24.out).mono ?_); rintro e w27 ⟨v286, rfl, ho0, hb⟩; refine ⟨_, rfl, ?_⟩; have HO287 := aM (Kd.R_lower (Kd.R_new' ho0 (Kd.R_lt (yH HO283.out))) yW); replace HO283 := aM (Kd.R_elder' (yH HO283.out) (Kd.R_base ho0) hb); replace HB := aM (below_step yB hb); clear hb ho0))
    (try simp only [Act.put, List.setIfInBounds_toArray, List.set_cons_zero, List.set_cons_succ])
    go_cut [57] (fun v57 wc => ∃ (kq : Nat) (x57_24 : Bool), v57 = .bool x57_24 ∧ Aside0 (patchworklaw18_WitnessLeast.j1 kq l0 t281 x57_24 = some r) ∧ Aside0 (kq ≤ kj3) ∧ Aside0 (Kd.R Kd.string 9 wc w.heap.size (fun _ => True) v282 t281) ∧ Aside0 (Below w.heap.size w wc))
    case first =>
     have H := HC25.out; clear HC25
     by_cases c28 : t285 = true
     ·subst c28
      have H' := aM (iT H); clear H; obtain ⟨Ao29, co29, eo29⟩ := Kd.R_slice HO283.out; subst eo29
      go_wp2
      go_meet
      case rel => exact ⟨_, (decide ((l1.length : Int) < (t281.length : Int))), yE, H', ⟨by have := HJ3.out; first | omega | exact Nat.le_refl _⟩, ⟨by (with_reducible repeat (first | apply Kd.R_alloc | apply Kd.R_drewN | apply Kd.R_drew)); exact Kd.R_mono HO283.out (fun _ hk => trivial)⟩, ⟨yB⟩⟩
     ·replace c28 := Bool.eq_false_iff.mpr c28
      subst c28; have H' := aM (iF H); clear H
      go_wp2
      go_meet
      case rel => exact ⟨_, (false), yE, H', ⟨by have := HJ3.out; first | omega | exact Nat.le_refl _⟩, ⟨by (with_reducible repeat (first | apply Kd.R_alloc | apply Kd.R_drewN | apply Kd.R_drew)); exact Kd.R_mono HO283.out (fun _ hk => trivial)⟩, ⟨yB⟩⟩
    case rest =>
     clear HC25; (try clear c1); (try clear c2); (try clear p2); (try clear c3); (try clear c6); (try clear c8); (try clear c10); (try clear c11); (try clear c11b0); (try clear c11b1); (try clear c13); (try clear c14); (try clear c14b0); (try clear c14b1); (try clear c22); (try clear c28); (try clear p2); obtain ⟨kq, x57_24, rfl, HA, HJ24, HO_6, HB⟩ := hcut; cases kq with
     | zero => exact absurd HA.out (by simp [patchworklaw18_WitnessLeast.j1])
     | succ kj24 =>
      have H := HA.out; clear HA; simp only [patchworklaw18_WitnessLeast.j1] at H
      by_cases c30 : x57_24 = true
      ·subst c30
       replace H := iT H; obtain rfl := Option.some.inj H
       go_wp2
       go_ret
       exact ⟨yE2, yB⟩
      ·replace c30 := Bool.eq_false_iff.mpr c30
       subst c30; have H' := aM (iF H); clear H
       go_wp2
       go_loopg [9] kj24 (fun kq v9 w' => ∃ (x9_3 : Int), v9 = .int .i64 x9_3 ∧ Aside0 (patchworklaw18_WitnessLeast.l0 kq l0 t281 x9_3 = some r) ∧ Aside0 (kq ≤ kj24) ∧ Aside0 (Kd.R Kd.string 9 w' w.heap.size (fun _ => True) v282 t281) ∧ Aside0 (Below w.heap.size w w'))
       case atStart => exact ⟨(0), yE, H', ⟨Nat.le_refl _⟩, ⟨yH HO_6.out⟩, ⟨yB⟩⟩
       case round =>
        clear H'; (try clear c1); (try clear c2); (try clear p2); (try clear c3); (try clear c6); (try clear c8); (try clear c10); (try clear c11); (try clear c11b0); (try clear c11b1); (try clear c13); (try clear c14); (try clear c14b0); (try clear c14b1); (try clear c22); (try clear c28); (try clear c30); (try clear p2); obtain ⟨x9_3, rfl, HA, HK3, HO_6, HB⟩ := hrel; cases gk with
        | zero => exact absurd HA.out (by simp [patchworklaw18_WitnessLeast.l0])
        | succ k3 =>
         have H := HA.out; clear HA; simp only [patchworklaw18_WitnessLeast.l0] at H
         by_cases c31 : x9_3 < (l0.length : Int)
         ·rw [if_pos c31] at H
          have c31b0 := decide_eq_true c31; clear c31
          by_cases c32 : 0 ≤ x9_3
          ·rw [if_pos c32] at H
           have c32b0 := decide_eq_true c32; clear c32
           by_cases c33 : ((rd_Op l0 x9_3).f0) = 1
           ·rw [if_pos c33] at H
            have c33b0 := beq_iff_eq.mpr c33; have c33b1 := bne_eq_false_iff_eq.mpr c33; clear c33; have H' := aM H; clear H; have p288 : 0 ≤ (x9_3 : Int) := yO; have q288 : x9_3 < (l0.length : Int) := yO; obtain ⟨ad288, e288, hx288_0, hx288_1, hx288_2⟩ := at_OpB HB.out HR0.out x9_3 p288 q288; cases e288; replace p288 := eq_true p288; replace q288 := eq_true q288
            go_wp2
            go_roundg k3
            case measure => have := HJ3.out; have := HJ24.out; have := HK3.out; omega
            case rel => exact ⟨(wrap64 (x9_3 + 1)), yE, H', ⟨by have := HJ3.out; have := HJ24.out; have := HK3.out; omega⟩, ⟨yH HO_6.out⟩, ⟨yB⟩⟩
           ·rw [if_neg c33] at H
            have c33b0 := beq_eq_false_iff_ne.mpr c33; have c33b1 := bne_iff_ne.mpr c33; replace H := oB H; obtain ⟨t290, A34, H⟩ := H
            by_cases c35 : t290 = true
            ·subst c35
             replace H := iT H; obtain rfl := Option.some.inj H; have p288 : 0 ≤ (x9_3 : Int) := yO; have q288 : x9_3 < (l0.length : Int) := yO; obtain ⟨ad288, e288, hx288_0, hx288_1, hx288_2⟩ := at_OpB HB.out HR0.out x9_3 p288 q288; cases e288; replace p288 := eq_true p288; replace q288 := eq_true q288; have p289 : 0 ≤ (x9_3 : Int) := yO; have q289 : x9_3 < (l0.length : Int) := yO; obtain ⟨ad289, e289, hx289_0, hx289_1, hx289_2⟩ := at_Op HR0.out x9_3 p289 q289; obtain rfl : ad288 = ad289 := (by injection e289); replace hx289_0 := (HB.out.cell (bL w _ hx289_0)).trans hx289_0; replace hx289_1 := (HB.out.cell (bL w _ hx289_1)).trans hx289_1; replace hx289_2 := (HB.out.cell (bL w _ hx289_2)).trans hx289_2; replace p289 := eq_true p289; replace q289 := eq_true q289
             go_wp2_with (first | (go_at_call 15; (with_reducible refine (patchworkref1_Open.calls ((rd_Op l0 x9_3).f2) true _ A34.out).mono ?_); rintro e w' ⟨rfl, ⟨nd, rfl⟩⟩))
             go_ret
             exact ⟨yE2, yB⟩
            ·replace c35 := Bool.eq_false_iff.mpr c35
             subst c35; have H' := aM (iF H); clear H; have p288 : 0 ≤ (x9_3 : Int) := yO; have q288 : x9_3 < (l0.length : Int) := yO; obtain ⟨ad288, e288, hx288_0, hx288_1, hx288_2⟩ := at_OpB HB.out HR0.out x9_3 p288 q288; cases e288; replace p288 := eq_true p288; replace q288 := eq_true q288; have p289 : 0 ≤ (x9_3 : Int) := yO; have q289 : x9_3 < (l0.length : Int) := yO; obtain ⟨ad289, e289, hx289_0, hx289_1, hx289_2⟩ := at_Op HR0.out x9_3 p289 q289; obtain rfl : ad288 = ad289 := (by injection e289); replace hx289_0 := (HB.out.cell (bL w _ hx289_0)).trans hx289_0; replace hx289_1 := (HB.out.cell (bL w _ hx289_1)).trans hx289_1; replace hx289_2 := (HB.out.cell (bL w _ hx289_2)).trans hx289_2; replace p289 := eq_true p289; replace q289 := eq_true q289
             go_wp2_with (first | (go_at_call 15; (with_reducible refine (patchworkref1_Open.calls ((rd_Op l0 x9_3).f2) false _ A34.out).mono ?_); rintro e w' ⟨rfl, ⟨nd, rfl⟩⟩))
             go_roundg k3
             case measure => have := HJ3.out; have := HJ24.out; have := HK3.out; omega
             case rel => exact ⟨(wrap64 (x9_3 + 1)), yE, H', ⟨by have := HJ3.out; have := HJ24.out; have := HK3.out; omega⟩, ⟨yH HO_6.out⟩, ⟨yB⟩⟩
          ·rw [if_neg c32] at H
           exact absurd H (by simp)
         ·rw [if_neg c31] at H
          have c31b0 := decide_eq_false c31; clear c31
          by_cases c36 : ([] : List ByteArray).length + t281.length < 8796093022208
          ·rw [if_pos c36] at H
           have LMc36 := aM c36; clear c36; obtain ⟨y291, hy291⟩ : ∃ y_ : List ByteArray, y_ = (([] : List ByteArray) ++ t281) := ⟨_, rfl⟩; replace H : ((some (([(⟨#[109, 111, 114, 101, 10]⟩ : ByteArray), (⟨#[108, 97, 115, 116]⟩ : ByteArray)] : List ByteArray) : List ByteArray)).bind fun y294 => (if y291.length + y294.length < 8796093022208 then ((patchworkref8_Do.f k3 l0 (y291 ++ y294)).bind fun bt300 => (some bt300.2)) else (none))) = some r := yN hy291 H
           have Ny291 := aM hy291; clear hy291; replace H := oS H; obtain ⟨y294, Ny294, H⟩ := H
           by_cases c37 : y291.length + y294.length < 8796093022208
           ·rw [if_pos c37] at H
            have LMc37 := aM c37; clear c37; obtain ⟨y297, hy297⟩ : ∃ y_ : List ByteArray, y_ = (y291 ++ y294) := ⟨_, rfl⟩; replace H : ((patchworkref8_Do.f k3 l0 y297).bind fun bt300 => (some bt300.2)) = some r := yN hy297 H
            have Ny297 := aM hy297; clear hy297; replace H := Option.bind_eq_some_iff.mp H; obtain ⟨⟨t300, t301⟩, A380, H⟩ := H; replace H : (some t301) = some r := H; have A38 := aM A380; clear A380; obtain rfl := Option.some.inj H; obtain ⟨Ao40, co40, eo40⟩ := Kd.R_slice HO_6.out; subst eo40
            go_wp2_with (first | ((with_reducible refine gate_builtin (b := .append) (xs := #[.const (.slice none 0 0), .tmp 80]) rfl ?_); (try (refine gate_guard (by rfl) ?_; dsimp only)); at_builtin; refine Kd.R_append_rows Kd.string (w0 := w) w.heap.size rfl (.const (.slice none 0 0)) (.tmp 80) 23 9 (.string ⟨#[]⟩) 16 rfl Tryd.underlying23 info9 rfl (by decide) (by omega) (.slice none 0 0) ([] : List ByteArray) t281 _ _ _ (fun k_ => some k_ ≠ (.slice Ao40 t281.length co40 : Value).ownBlock) (fun _ => False) rfl rfl ?aO ?aR (fun _ _ h => h) (fun _ h => h.elim) ?aF ?aB ?aS ?aL ?_; (case aR => repeat (first | exact (Kd.R_reads' HO_6.out).2.2 | (with_reducible first | refine Kd.C_alloc ?_ _ | refine Kd.C_drewN ?_ _ | refine Kd.C_drew ?_))); (case aB => exact yB); (case aF => exact (fun k_ hk => Kd.fresh' (Kd.R_lt (yH HO_6.out)) k_ hk)); (case aO => exact ((Kd.R_nil _ _ _ _ (fun k_ => some k_ ≠ (.slice Ao40 t281.length co40 : Value).ownBlock)))); (case aS => exact yW); (case aL => have := LMc36.out; omega); intro v292 w39 ho hb hg hat; rw [← Ny291.out] at ho; replace HO_6 := aM (Kd.R_after (Kd.R_apart_nil (yH HO_6.out)) hg hat); replace HB := aM (hb); have HO293 := aM (ho); clear ho hb hg hat) | ((with_reducible refine gate_dst (N := 82) rfl ?_); (try (refine gate_guard (by rfl) ?_; dsimp only)); refine Kd.R_lit Kd.string _ 9 ?hg (N := 82) ?hd (xs := ([(⟨#[109, 111, 114, 101, 10]⟩ : ByteArray), (⟨#[108, 97, 115, 116]⟩ : ByteArray)] : List ByteArray)) (inner := [.string (⟨#[109, 111, 114, 101, 10]⟩ : ByteArray), .string (⟨#[108, 97, 115, 116]⟩ : ByteArray)]) (ok := fun _ => True) (okp := fun _ => True) ?hr ?hp (fun _ hk => hk) trivial (Below.refl _ _) (Nat.le_refl _) (by simp) ?_; (case hd => rfl); (case hg => rfl); (case hr => first | (go_simp; done) | (go_simp; rfl)); (case hp => exact (Reps.one (show Kd.M Kd.string _ _ _ (⟨#[109, 111, 114, 101, 10]⟩ : ByteArray) [.string (⟨#[109, 111, 114, 101, 10]⟩ : ByteArray)] from rfl) (Reps.one (show Kd.M Kd.string _ _ _ (⟨#[108, 97, 115, 116]⟩ : ByteArray) [.string (⟨#[108, 97, 115, 116]⟩ : ByteArray)] from rfl) (Reps.none _ _)))); intro v295 w41 ho42 hb hg_ hnew_; clear hg_ hnew_; (first | rw [← Ny294.out] at ho42 | (simp only [Int.reduceToNat] at ho42; rw [← Ny294.out] at ho42)); have HO296 := aM (Kd.R_lower (Kd.R_new' (Kd.R_new' ho42 (Kd.R_lt (yH HO_6.out))) (Kd.R_lt (yH HO293.out))) yW); replace HO_6 := aM (Kd.R_elder' (yH HO_6.out) (Kd.R_base ho42) hb); replace HO293 := aM (Kd.R_elder' (yH HO293.out) (Kd.R_base ho42) hb); replace HB := aM (below_step yB hb); clear hb ho42; obtain ⟨Ao44, co44, eo44⟩ := Kd.R_slice HO296.out; subst eo44) | ((with_reducible refine gate_builtin (b := .append) (xs := #[.tmp 81, .tmp 82]) rfl ?_); (try (refine gate_guard (by rfl) ?_; dsimp only)); at_builtin; refine Kd.R_append_rows Kd.string (w0 := w) w.heap.size rfl (.tmp 81) (.tmp 82) 23 9 (.string ⟨#[]⟩) 16 rfl Tryd.underlying23 info9 rfl (by decide) (by omega) v292 y291 y294 _ _ _ (fun k_ => some k_ ≠ (.slice Ao40 t281.length co40 : Value).ownBlock ∧ some k_ ≠ (.slice Ao44 y294.length co44 : Value).ownBlock) (fun _ => False) rfl rfl ?aO ?aR (fun _ _ h => h) (fun _ h => h.elim) ?aF ?aB ?aS ?aL ?_; (case aR => repeat (first | exact (Kd.R_reads' HO296.out).2.2 | (with_reducible first | refine Kd.C_alloc ?_ _ | refine Kd.C_drewN ?_ _ | refine Kd.C_drew ?_))); (case aB => exact yB); (case aF => exact (fun k_ hk => ⟨Kd.fresh' (Kd.R_lt (yH HO_6.out)) k_ hk, Kd.fresh' (Kd.R_lt (yH HO296.out)) k_ hk⟩)); (case aO => exact (yH HO293.out)); (case aS => exact yW); (case aL => have := LMc37.out; omega); intro v298 w43 ho hb hg hat; rw [← Ny297.out] at ho; have n0_ := aM (Kd.R_after (ok := (fun k_ => some k_ ≠ (.slice Ao44 y294.length co44 : Value).ownBlock)) (by (with_reducible repeat (first | apply Kd.R_alloc | apply Kd.R_drewN | apply Kd.R_drew)); exact Kd.R_mono HO_6.out (fun _ hk => ⟨hk.2, hk.1.2⟩)) hg hat); have n1_ := aM (Kd.R_after (ok := (fun k_ => some k_ ≠ (.slice Ao40 t281.length co40 : Value).ownBlock)) (by (with_reducible repeat (first | apply Kd.R_alloc | apply Kd.R_drewN | apply Kd.R_drew)); exact Kd.R_mono HO296.out (fun _ hk => ⟨hk.1.2, hk.2⟩)) hg hat); have n2_ := aM (hb); have n3_ := aM (ho); clear HO_6; clear HO296; clear HB; clear HO293; have HO_6 := n0_; have HO296 := n1_; have HB := n2_; have HO299 := n3_; clear n0_ n1_ n2_ n3_; clear ho hb hg hat; obtain ⟨Ao45, co45, eo45⟩ := Kd.R_slice HO299.out; subst eo45) | ((with_reducible refine gate_callee (f := 14) rfl ?_); refine goesL_ (some 84) rfl rfl Tryd.func14 yK rfl #[.slice A0 l0.length c0, .slice Ao45 y297.length co45] rfl yG ?_; (with_reducible refine (patchworkref8_Do.calls k3 _ _ l0 _ _ y297 t300 t301 _ (yC (Kd.C_below HR0.out HB.out)) HC0.out (yC (Kd.R_reads' HO299.out).2.2) ((Kd.R_reads' HO299.out).2.1) A38.out).mono ?_); rintro e w46 ⟨v302, rfl, ho0, hb⟩; refine ⟨_, rfl, ?_⟩; have HO303 := aM (Kd.R_lower (Kd.R_new' (Kd.R_new' (Kd.R_new' ho0 (Kd.R_lt (yH HO_6.out))) (Kd.R_lt (yH HO296.out))) (Kd.R_lt (yH HO299.out))) yW); replace HO_6 := aM (Kd.R_elder' (yH HO_6.out) (Kd.R_base ho0) hb); replace HO296 := aM (Kd.R_elder' (yH HO296.out) (Kd.R_base ho0) hb); replace HO299 := aM (Kd.R_elder' (yH HO299.out) (Kd.R_base ho0) hb); replace HB := aM (below_step yB hb); clear hb ho0))
            go_ret
            exact ⟨yE2, yB⟩
           ·rw [if_neg c37] at H
            exact absurd H (by simp)
          ·rw [if_neg c36] at H
           exact absurd H (by simp)
end Go.Proofs.YtkiklmmpflndbaaDoor.P
namespace Go.Proofs.YtkiklmmpflndbaaDoor.P
open Go.RowKit Go.Proofs.YtkiklmmpflndbaaDoorW.PrintWords Go.Proofs.YtkiklmmpflndbaaDoorW.PrintLast Go.Proofs.YtkiklmmpflndbaaDoorW.PrintMore
def WitnessLeast.Pure : Prop := ∀ (l0 : List (Op)) (l1 : List ByteArray), ((fun xs => ∀ y ∈ xs, okOp y) l0) → ((fun xs => ∀ y ∈ xs, (fun _ => True) y) l1) → (fun xs => (xs.map wtOp).sum + 1) l0 + (fun xs => (xs.map (fun s => s.size + 1)).sum + 1) l1 ≤ 1048576 → ∃ k, patchworklaw18_WitnessLeast.f k l0 l1 = some true
end Go.Proofs.YtkiklmmpflndbaaDoor.P
namespace Go.Proofs.YtkiklmmpflndbaaDoor.P
open Go.RowKit Go.Proofs.YtkiklmmpflndbaaDoorW.PrintWords Go.Proofs.YtkiklmmpflndbaaDoorW.PrintLast Go.Proofs.YtkiklmmpflndbaaDoorW.PrintMore
theorem doU_more : ∀ (u : List U) (ls r x : List ByteArray), doU u ls = some r → doU u (ls ++ x) = some (r ++ x)
 | [], ls, r, x, h => by
  rw [doU] at h ⊢
  rw [Option.some.inj h]
 | .ins t :: u, ls, r, x, h => by
  rw [doU] at h ⊢
  obtain ⟨r', h', rfl⟩ := Option.map_eq_some_iff.mp h
  rw [doU_more u ls r' x h']; rfl
 | .del t :: u, [], r, x, h => by rw [doU] at h; simp at h
 | .del t :: u, y :: ls, r, x, h => by
  rw [List.cons_append]
  rw [doU] at h ⊢
  split at h
  ·rename_i e
   rw [if_pos e]; exact doU_more u ls r x h
  ·simp at h
 | .keep t :: u, [], r, x, h => by rw [doU] at h; simp at h
 | .keep t :: u, y :: ls, r, x, h => by
  rw [List.cons_append]
  rw [doU] at h ⊢
  split at h
  ·rename_i e
   obtain ⟨r', h', rfl⟩ := Option.map_eq_some_iff.mp h
   rw [if_pos e, doU_more u ls r' x h']; rfl
  ·simp at h
 | .skip :: u, [], r, x, h => by rw [doU] at h; simp at h
 | .skip :: u, y :: ls, r, x, h => by
  rw [List.cons_append]
  rw [doU] at h ⊢
  obtain ⟨r', h', rfl⟩ := Option.map_eq_some_iff.mp h
  rw [doU_more u ls r' x h']; rfl
theorem not_open : ∀ (l : List Op), (∀ o ∈ l, o.f0 = 1 ∨ openT o.f2 = false) → (∀ t, some t ∈ olds (ex l) → openT t = false) ∧ (∀ t, some t ∈ news (ex l) → openT t = false)
 | [], _ => ⟨fun t h => by simp [ex, olds] at h, fun t h => by simp [ex, news] at h⟩
 | o :: l, h => by
  obtain ⟨i1, i2⟩ := not_open l fun x hx => h x (List.mem_cons_of_mem _ hx)
  have ho := h o (List.mem_cons_self ..)
  have key : (∀ t, some t ∈ olds (exO o) → openT t = false) ∧ (∀ t, some t ∈ news (exO o) → openT t = false) := by
   unfold exO
   split
   ·rw [olds_skips, news_skips]
    exact ⟨fun t h => by have := List.eq_of_mem_replicate h; simp at this, fun t h => by have := List.eq_of_mem_replicate h; simp at this⟩
   ·rename_i n1
    have ho := ho.resolve_left n1
    split
    ·exact ⟨fun t h => by simp [olds] at h; rw [h]; exact ho, fun t h => by simp [news] at h; rw [h]; exact ho⟩
    ·split
     ·exact ⟨fun t h => by simp [olds] at h; rw [h]; exact ho, fun t h => by simp [news] at h⟩
     ·exact ⟨fun t h => by simp [olds] at h, fun t h => by simp [news] at h; rw [h]; exact ho⟩
  rw [ex_cons, olds_app, news_app]
  refine ⟨fun t h => ?_, fun t h => ?_⟩
  ·rcases List.mem_append.mp h with h | h
   ·exact key.1 t h
   ·exact i1 t h
  ·rcases List.mem_append.mp h with h | h
   ·exact key.2 t h
   ·exact i2 t h
theorem whole_all : ∀ (l : List ByteArray), wholeL l = true → ∀ x ∈ l, rightT x = true
 | [], _, x, hx => by simp at hx
 | y :: l, hw, x, hx => by
  obtain ⟨a, b, _⟩ := wholeL_cons hw
  rcases List.mem_cons.mp hx with rfl | hx
  ·exact a
  ·exact whole_all l b x hx
theorem whole_more : ∀ (a b : List ByteArray), (∀ x ∈ a, rightT x = true ∧ openT x = false) → wholeL b = true → wholeL (a ++ b) = true
 | [], b, _, h => h
 | x :: a, b, h, hb => by
  obtain ⟨h1, h2⟩ := h x (List.mem_cons_self ..)
  rw [List.cons_append]
  exact wholeL_mk h1 (whole_more a b (fun y hy => h y (List.mem_cons_of_mem _ hy)) hb) fun o => by rw [h2] at o; simp at o
def moreL : List ByteArray := [⟨#[109, 111, 114, 101, 10]⟩, ⟨#[108, 97, 115, 116]⟩]
theorem more_do {l : List Op} (hr : rightL l = true) (hc : capd 3 l ≤ 5000) (ho : ∀ o ∈ l, o.f0 = 1 ∨ openT o.f2 = false) : (doL l (witL l ++ moreL)).2 = true := by
 obtain ⟨e1, e2, e3, _, _⟩ := wit_do hr hc
 obtain ⟨r, h1, h2, h3, h4, h5⟩ := doL_true (l := l) (ls := witL l) (by rw [e2])
 obtain ⟨n1, n2⟩ := not_open l ho
 have er : r = putS (news (ex l)) (skl 0 (ex l)) := by rw [e2] at h5; exact (congrArg Prod.fst h5).symm
 have all3 : ∀ x ∈ skl 0 (ex l), openT x = false := by
  intro x hx
  obtain ⟨m, rfl⟩ := skl_all _ _ x hx
  exact (line_ok m).2.1
 have wm : wholeL moreL = true := by decide +kernel
 have c1 : ∀ x ∈ witL l, rightT x = true ∧ openT x = false := by
  intro x hx
  refine ⟨whole_all _ h2 x hx, ?_⟩
  rw [e1] at hx
  rcases putS_mem _ _ x hx with h | h
  ·exact n1 x h
  ·exact all3 x h
 have c2 : ∀ x ∈ r, rightT x = true ∧ openT x = false := by
  intro x hx
  refine ⟨whole_all _ h4 x hx, ?_⟩
  rw [er] at hx
  rcases putS_mem _ _ x hx with h | h
  ·exact n2 x h
  ·exact all3 x h
 rw [doL_of hr (whole_more _ _ c1 wm) (doU_more _ _ _ moreL h3) (whole_more _ _ c2 wm)]
theorem WitnessLeast.loop {ls : List ByteArray} {l : List Op} (hll : ls.length ≤ 5000) (hsl : SmT (ls ++ moreL)) (last : (∀ o ∈ l, o.f0 = 1 ∨ openT o.f2 = false) → (doL l (ls ++ moreL)).2 = true) :
  ∀ (s p : List Op), p ++ s = l → Sm l → (∀ o ∈ p, o.f0 = 1 ∨ openT o.f2 = false) → Ev (fun k => patchworklaw18_WitnessLeast.l0 k l ls (p.length : Int)) true := by
 intro s
 induction s with
 | nil =>
  intro p e hb hp
  subst e
  have hl := last (by simpa using hp)
  have k1 : ([] : List ByteArray).length + ls.length < 8796093022208 := by simp only [List.length_nil]; omega
  have k2 : ([] ++ ls).length + ([(⟨#[109, 111, 114, 101, 10]⟩ : ByteArray), (⟨#[108, 97, 115, 116]⟩ : ByteArray)] : List ByteArray).length < 8796093022208 := by
   simp only [List.nil_append, List.length_cons, List.length_nil]; omega
  refine Ev.step (fun k => rfl) ?_
  simp only [patchworklaw18_WitnessLeast.l0, lt_end, if_false, if_pos k1, Option.bind_some, if_pos k2]
  refine Ev.bind' (refdo_ev hb hsl) ?_
  show Ev (fun n => some (doL (p ++ []) (ls ++ moreL)).2) true
  rw [hl]
  exact Ev.now _
 | cons o s ih =>
  intro p e hb hp
  subst e
  have w := wrap_len p o (by have := hb.len; omega)
  have i := fun h => ih (p ++ [o]) (by simp) hb h
  have fin : (o.f0 = 1 ∨ openT o.f2 = false) → Ev (fun k => patchworklaw18_WitnessLeast.l0 k (p ++ o :: s) ls ((p ++ [o]).length : Int)) true := by
   intro ha
   refine i fun x hx => ?_
   rcases List.mem_append.mp hx with h | h
   ·exact hp x h
   ·rw [List.mem_singleton.mp h]; exact ha
  refine Ev.step (fun k => rfl) ?_
  simp only [patchworklaw18_WitnessLeast.l0, lt_mid, nn_nat, if_true, rdOp_mid, w]
  by_cases h1 : o.f0 = 1
  ·simp only [if_pos h1]; exact fin (.inl h1)
  ·simp only [if_neg h1]
   refine Ev.bindN (open_val (hb.2 o (by simp))) ?_
   cases ho : openT o.f2
   ·simp only [Bool.false_eq_true, if_false]; exact fin (.inr ho)
   ·simp only [if_true]; exact Ev.now _
theorem WitnessLeast.out (l : List Op) (ls : List ByteArray) : Ev (fun k => patchworklaw18_WitnessLeast.j0 k l ls true true) true := by
 refine Ev.step (fun k => rfl) ?_
 simp only [patchworklaw18_WitnessLeast.j0, if_true]
 exact Ev.now true
theorem WitnessLeast.proved : WitnessLeast.Pure := by
 intro l ls _ _ hw
 simp only at hw
 have fl := fewN_le l
 have ll := fewN_len l
 have hs : Sm l := Sm.of_wt (by omega)
 have w1 := wt_len ls
 have t1 := textSum_le ls
 have hls : SmT ls := SmT.of_wt (by omega)
 refine Ev.rounds ?_
 simp only [patchworklaw18_WitnessLeast.f]
 refine Ev.bind' alive18 ?_
 simp only [if_true]
 refine Ev.bind' (few_ev (by omega)) ?_
 by_cases h : fewN l ≤ 600
 ·simp only [h, decide_true, if_true]
  refine Ev.bind' (refright_ev hs) ?_
  cases hr : rightL l
  ·simp only [Bool.false_eq_true, if_false]; exact WitnessLeast.out ..
  simp only [if_true]
  by_cases h3 : (ls.length : Int) > 300
  ·simp only [if_pos h3]; exact WitnessLeast.out ..
  simp only [if_neg h3]
  refine Ev.bind' (join_ev ls (by omega) (by omega)) ?_
  by_cases h4 : ((strOfNums (ls.flatMap bytesOf)).size : Int) > 2000
  ·simp only [if_pos h4]; exact WitnessLeast.out ..
  simp only [if_neg h4]
  refine Ev.bind' (refolds_ev hs) ?_
  by_cases hc : capd 3 l > 300
  ·simp only [hc, decide_true]; exact WitnessLeast.out ..
  simp only [hc, decide_false]
  have hc2 : capd 3 l ≤ 5000 := by omega
  obtain ⟨e1, e2, e3, _, _⟩ := wit_do hr hc2
  have le := wit_le l
  have sw := wit_SmT hs
  have swm : SmT (witL l ++ moreL) := by
   refine ⟨by rw [List.length_append]; have : moreL.length = 2 := rfl; omega, fun x hx => ?_⟩
   rcases List.mem_append.mp hx with h | h
   ·exact sw.2 x h
   ·have hm : SmT moreL := SmT.of_wt (by decide)
    exact hm.2 x h
  have body : Ev (fun k => patchworklaw18_WitnessLeast.j1 k l (witL l) false) true := by
   refine Ev.step (fun k => rfl) ?_
   simp only [patchworklaw18_WitnessLeast.j1, Bool.false_eq_true, if_false]
   exact WitnessLeast.loop le swm (more_do hr hc2) l [] rfl hs (by simp)
  refine Ev.step (fun k => rfl) ?_
  simp only [patchworklaw18_WitnessLeast.j0, Bool.false_eq_true, if_false]
  refine Ev.bind' (pwit_ev hs) ?_
  refine Ev.bind' (refdo_ev hs hls) ?_
  cases hd : (doL l ls).2
  ·simp only [Bool.false_eq_true, if_false]; exact body
  ·obtain ⟨r, _, _, d3, _, _⟩ := doL_true hd
   have bal := (doU_bal _ _ _ d3).2
   have c : ¬ (ls.length : Int) < ((witL l).length : Int) := by omega
   simp only [if_true, c, decide_false]
   exact body
 ·simp only [h, decide_false, Bool.false_eq_true, if_false]; exact WitnessLeast.out ..
end Go.Proofs.YtkiklmmpflndbaaDoor.P
namespace Go.Proofs.YtkiklmmpflndbaaDoor.P.witnessLeast
open Go.ChangeShapes Go.WideShapes Go.ChangeAt Go.RowKit Go.Proofs.YtkiklmmpflndbaaDoor.P Go.Proofs.YtkiklmmpflndbaaDoorW.PrintWords
open Go.ChangeMaps (open_string shut_string)
theorem own : ownKnob Tryd.prog.godebug = none := by kernel_rfl
theorem laidOut : laidOutB Tryd.prog = true := by kernel_rfl
theorem opens0 : Opens Tryd.prog 32 kOp okOp wtOp := (opens_struct3 (d0 := (Kd.int .i64)) (d1 := (Kd.int .i64)) (d2 := Kd.string) Tryd.underlying32 (by kernel_rfl) rfl rfl rfl rfl rfl rfl (opens_int Tryd.underlying3 (by kernel_rfl)) (opens_int Tryd.underlying3 (by kernel_rfl)) (opens_string Tryd.underlying9 (by kernel_rfl)) (fun x : Op => (x.f0, x.f1, x.f2)) (fun a b c => ⟨a, b, c⟩) (fun _ _ _ => rfl))
theorem opens1 : Opens Tryd.prog 9 Kd.string (fun _ => True) (fun s => s.size + 1) := (opens_string Tryd.underlying9 (by kernel_rfl))
set_option maxRecDepth 100000 in
theorem table {W : World} (h : laidMetH Tryd.prog Rows.witnessLeastUptoRow.laid W) : TabOk W :=
 Lib.tabIs_of_head (P := Tryd.prog) (name := "internal/strconv.uint64pow10") (k := .u64) (zs := Lib.pow10Tab) (rest := []) (g := 0) (t := 83) (e := 76) (n := 20) (by kernel_rfl) (by kernel_rfl) Tryd.underlying83 Tryd.underlying76 (by kernel_rfl) (by kernel_rfl)
  (show laidMetH Tryd.prog (Rows.witnessLeastUptoRow.laid.filter fun x => x.1 == "internal/strconv.uint64pow10") W from h.filter _)
set_option maxRecDepth 100000 in
theorem contract (H : Type) (enc : TypeId × Value → H) (W : World) (base : Nat) (args : Array Value) (ds gs : List (DataW H)) (before : List MemPlace)
  (hval : ∀ (j : Nat) t v, Tryd.f3.params[j]? = some t → args[j]? = some v → Value.okWide Tryd.prog W .any base t v)
  (hW : DataW.Whole enc Tryd.prog Tryd.f3.params.toList Rows.witnessLeastSpec.vars false W args.toList ds gs before) (hk : Rows.uptoSmall H (ds ++ gs) = true) (hL : laidMetH Tryd.prog Rows.witnessLeastUptoRow.laid W) :
  Calls Tryd.prog 3 args W fun e W' => ∃ v, e = .returned v ∧ Rows.witnessLeastSpec.post enc Tryd.prog Tryd.f3 false true false false W args v W' := by
 have hW' := hW
 obtain ⟨p, q, hA0, hV, rfl, hfz, hnd⟩ := hW
 have hA : DataW.TrodAll enc Tryd.prog W 0 (fun _ => true) true Tryd.f3.params.toList args.toList ds p := hA0
 rw [Tryd.params3] at hA hval
 obtain ⟨v0, vs0, d0, ds0, p0, q0, hargs, rfl, rfl, h0, r0⟩ := trodAll_cons hA
 obtain ⟨v1, vs1, d1, ds1, p1, q1, rfl, rfl, rfl, h1, r1⟩ := trodAll_cons r0
 obtain ⟨rfl, rfl, rfl⟩ := trodAll_nil r1
 obtain rfl : args = #[v0, v1] := by cases args; simp_all
 obtain ⟨rfl, rfl⟩ := trodVars_none hV
 have hb := small_all hk
 simp only [List.append_nil, Rows.uptoBulkAll] at hb
 obtain ⟨A0, len0, c0, rfl⟩ := okWide_slice Tryd.underlying22 (hval 0 22 v0 rfl rfl)
 have k0 := h0
 have lt0 : ∀ x ∈ p0, x.block < W.heap.size := by obtain ⟨m, hm⟩ := k0; exact DataW.trod_lt m _ _ _ hm
 obtain ⟨fuel0, hf0⟩ := h0
 obtain ⟨A0', c0', l0, hcs0, hc0, hr0, ok0, wt0⟩ := open_row Tryd.underlying22 opens0 hf0
 simp only [Value.cells, List.cons.injEq, Value.slice.injEq, and_true] at hcs0
 obtain ⟨rfl, rfl, rfl⟩ := hcs0
 obtain ⟨A1, len1, c1, rfl⟩ := okWide_slice Tryd.underlying23 (hval 1 23 v1 rfl rfl)
 have k1 := h1
 have lt1 : ∀ x ∈ p1, x.block < W.heap.size := by obtain ⟨m, hm⟩ := k1; exact DataW.trod_lt m _ _ _ hm
 obtain ⟨fuel1, hf1⟩ := h1
 obtain ⟨A1', c1', l1, hcs1, hc1, hr1, ok1, wt1⟩ := open_row Tryd.underlying23 opens1 hf1
 simp only [Value.cells, List.cons.injEq, Value.slice.injEq, and_true] at hcs1
 obtain ⟨rfl, rfl, rfl⟩ := hcs1
 clear hA0 hval
 obtain ⟨k, hp⟩ := WitnessLeast.proved l0 l1 ok0 ok1 (by simp only [] at *; omega)
 refine (patchworklaw18_WitnessLeast.calls k _ _ l0 _ _ l1 true W (table hL) hr0 hc0 hr1 hc1 hp).mono fun e W' ⟨he, bel0⟩ => ?_
 have bel : Below W.heap.size W W' := bel0
 subst he
 exact ⟨_, rfl, _, _, _, [], _, [], hW', trodAll_mk1 (shut_bool Tryd.underlying4 _), (trodAll_cons_mk (Below.trod laidOut (by kernel_rfl) (of_decide_eq_true (by kernel_rfl)) k0 bel lt0) (trodAll_cons_mk (Below.trod laidOut (by kernel_rfl) (of_decide_eq_true (by kernel_rfl)) k1 bel lt1) trodAll_mk0)), rfl, bel.frame _, fun h => by cases h⟩
noncomputable def laidWorld (os : Os) : World := { World.holding Tryd.prog os ⟨#[], #[], []⟩ with heap := ((((World.holding Tryd.prog os ⟨#[], #[], []⟩).heap).modify 2 (fun o => match o with | .cells _ t frozen => .cells #[.int .u8 0, .int .u8 1, .int .u8 28, .int .u8 2, .int .u8 29, .int .u8 14, .int .u8 24, .int .u8 3, .int .u8 30, .int .u8 22, .int .u8 20, .int .u8 15, .int .u8 25, .int .u8 17, .int .u8 4, .int .u8 8, .int .u8 31, .int .u8 27, .int .u8 13, .int .u8 23, .int .u8 21, .int .u8 19, .int .u8 16, .int .u8 7, .int .u8 26, .int .u8 12, .int .u8 18, .int .u8 6, .int .u8 11, .int .u8 5, .int .u8 10, .int .u8 9] t frozen | o => o)).modify 3 (fun o => match o with | .cells _ t frozen => .cells #[.int .u8 0, .int .u8 1, .int .u8 56, .int .u8 2, .int .u8 57, .int .u8 49, .int .u8 28, .int .u8 3, .int .u8 61, .int .u8 58, .int .u8 42, .int .u8 50, .int .u8 38, .int .u8 29, .int .u8 17, .int .u8 4, .int .u8 62, .int .u8 47, .int .u8 59, .int .u8 36, .int .u8 45, .int .u8 43, .int .u8 51, .int .u8 22, .int .u8 53, .int .u8 39, .int .u8 33, .int .u8 30, .int .u8 24, .int .u8 18, .int .u8 12, .int .u8 5, .int .u8 63, .int .u8 55, .int .u8 48, .int .u8 27, .int .u8 60, .int .u8 41, .int .u8 37, .int .u8 16, .int .u8 46, .int .u8 35, .int .u8 44, .int .u8 21, .int .u8 52, .int .u8 32, .int .u8 23, .int .u8 11, .int .u8 54, .int .u8 26, .int .u8 40, .int .u8 15, .int .u8 34, .int .u8 20, .int .u8 31, .int .u8 10, .int .u8 25, .int .u8 14, .int .u8 19, .int .u8 9, .int .u8 13, .int .u8 8, .int .u8 7, .int .u8 6] t frozen | o => o)).modify 0 (fun o => match o with | .cells _ t frozen => .cells #[.int .u64 1, .int .u64 10, .int .u64 100, .int .u64 1000, .int .u64 10000, .int .u64 100000, .int .u64 1000000, .int .u64 10000000, .int .u64 100000000, .int .u64 1000000000, .int .u64 10000000000, .int .u64 100000000000, .int .u64 1000000000000, .int .u64 10000000000000, .int .u64 100000000000000, .int .u64 1000000000000000, .int .u64 10000000000000000, .int .u64 100000000000000000, .int .u64 1000000000000000000, .int .u64 10000000000000000000] t frozen | o => o) }
set_option maxRecDepth 100000 in
theorem laid_met (os : Os) : laidMet Tryd.prog Rows.witnessLeastUptoRow.laid ((laidWorld os).forCall (fun _ _ => 0) ⟨#[], #[.slice none 0 0, .slice none 0 0], []⟩).memory :=
 laidMet_of_run' 8 (by kernel_rfl) (by kernel_rfl)
set_option maxRecDepth 100000 in
theorem reads (os : Os) {H : Type} (enc : TypeId × Value → H) : ∃ places, DataW.whole enc Tryd.prog ((laidWorld os).forCall (fun _ _ => 0) ⟨#[], #[.slice none 0 0, .slice none 0 0], []⟩).memory Tryd.f3.params.toList Rows.witnessLeastSpec.vars false (#[.slice none 0 0, .slice none 0 0] : Array Value).toList 8 = some ([.nil, .nil], [], places) :=
 ⟨[], by kernel_rfl⟩
set_option maxRecDepth 100000 in
theorem lifted (os : Os) (started : os.Started) (H : Type) (enc : TypeId × Value → H) (F : Stop.Interp) :
  ReturnsInHanded {} Tryd.checked os 3 .any ((Rows.OpenSpec.upto Rows.witnessLeastSpec).preRow enc Tryd.prog Tryd.f3 Rows.witnessLeastUptoRow.domain false Rows.witnessLeastUptoRow.laid) (((Rows.OpenSpec.upto Rows.witnessLeastSpec).at F).post enc Tryd.prog Tryd.f3 false true false false) := by
 obtain ⟨places, hx⟩ := reads os enc
 refine returnsInHanded_of_row (C := Tryd.checked) (s := Rows.OpenSpec.upto Rows.witnessLeastSpec) own started (by kernel_rfl) Tryd.func3
  (witness_row_at (enc := enc) (C := Tryd.checked) false (laidWorld os) #[.slice none 0 0, .slice none 0 0] rfl (by kernel_rfl) (by kernel_rfl) (by kernel_rfl)
   (OpenSpec.preRow_of_cond 8 hx (by kernel_rfl) (fun k hk => by cases hk; kernel_rfl) (by kernel_rfl) (laid_met os))) ?_
 intro W base args ds gs before hval hW _ hcond _ hL _ _
 exact contract H enc W base args ds gs before hval hW (hcond _ rfl) hL
theorem over : Rows.WitnessLeastUptoSaid :=
 OpenClaim.holds_of_cond 3 Tryd.f3 rfl rfl rfl rfl rfl rfl rfl ⟨rfl, rfl, rfl, rfl, rfl⟩ rfl rfl rfl rfl rfl (by kernel_rfl) Tryd.func3 (by kernel_rfl)
  (of_decide_eq_true (by kernel_rfl)) (by unfold Func.isWrapper; first | (rw [if_pos (by decide +kernel)]; kernel_rfl) | (rw [if_neg (by decide +kernel)]; exact ⟨rfl, rfl⟩))
  (fun os started H enc _ F => by rw [OpenClaim.pre_eq_preRow]; exact lifted os started H enc F)
theorem plain (f : FuncId) (fn : Func) (hf : Tryd.pinned.checked.prog.funcNamed "patchwork/patchworklaw18.WitnessLeast" = some f) (hfn : Tryd.pinned.checked.prog.funcs[f]? = some fn) :
  false = Tryd.pinned.checked.prog.looks [] ∧ ∀ (j : Nat) t, fn.params[j]? = some t → Tryd.pinned.checked.prog.wantsStandIn t = false := by
 obtain rfl : f = 3 := Option.some.inj ((show Tryd.prog.funcNamed "patchwork/patchworklaw18.WitnessLeast" = some 3 by kernel_rfl).symm.trans hf) |>.symm
 obtain rfl : fn = Tryd.f3 := (Option.some.inj (Tryd.func3.symm.trans hfn)).symm
 refine ⟨by kernel_rfl, fun j t ht => ?_⟩
 rw [Tryd.params3] at ht
 have hm := Array.mem_of_getElem? ht
 have all : ∀ x ∈ #[22, 23], Tryd.prog.wantsStandIn x = false := by
  intro x hx
  simp only [List.mem_toArray, List.mem_cons, List.not_mem_nil, or_false] at hx
  rcases hx with rfl | rfl <;> kernel_rfl
 exact all t hm
theorem proved : Rows.WitnessLeastUptoCardSaid :=
 Claim7.holds_tied_plain_at .later [] _ _ _ _ over (fun _ h => by cases h) (by kernel_rfl) (fun _ h => by cases h) witnessLeastUpto_row_tie rfl ⟨rfl, rfl⟩ (by kernel_rfl) rfl plain (by kernel_rfl)
end Go.Proofs.YtkiklmmpflndbaaDoor.P.witnessLeast
namespace Go.Proofs.YtkiklmmpflndbaaDoor
theorem witnessLeast_holds : Rows.WitnessLeastUptoCardSaid := P.witnessLeast.proved
#print axioms witnessLeast_holds
end Go.Proofs.YtkiklmmpflndbaaDoor
