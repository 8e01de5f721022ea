/- The law ApplyNeeds answers true, for all arguments that hold together at most 1048576 values and letters, and leaves them as they were. -/
import Derived.Test.YtkalkickknjdhaaqApplyNeeds4
import Derived.Test.YtkalkickknjdhaaqApplyNeeds3
import Derived.Test.YtkalkickknjdhaaqApplyNeeds7
import Derived.Test.YtkalkickknjdhaaqApplyNeeds5
import Derived.WalkKit
import Derived.ProofKit
import Derived.OpenShut
import Derived.ShutString
import Derived.ChangeOld
import Derived.Below
import Derived.SizedLaws
import Derived.JoinedCond
set_option linter.unusedVariables false
set_option linter.unusedSimpArgs false
namespace Go.Proofs.Ytkalkickknjdhaa.P
open Go.RowKit Go.Proofs.YtkalkickknjdhaaW.PrintWords Go.Proofs.YtkalkickknjdhaaW.PrintLast Go.Proofs.YtkalkickknjdhaaW.PrintMore
attribute [local go_sem] max2_int min2_int max_two min_two max_three min_three max_four min_four
set_option maxHeartbeats 8000000 in
set_option maxRecDepth 100000 in
theorem patchworklaw9_Short.calls (k : Nat) (A0 : Option Addr) (c0 : Nat) (l0 : List ByteArray) (r : Bool) (w : World) (hr0 : Kd.C Kd.string w A0 l0.length l0) (hc0 : l0.length ≤ c0) (h : patchworklaw9_Short.f k l0 = some r) :
  Calls Try.prog 16 #[.slice A0 l0.length c0] w fun e w' => e = .returned (.bool r) ∧ Below w.heap.size w w' := by
 have HR0 := Aside0.mk hr0
 have HC0 := Aside0.mk hc0
 clear hr0 hc0
 have HB := Aside0.mk (Below.refl w.heap.size w)
 have H : (if (l0.length : Int) ≤ 300 then ((patchworkref1_Join.f k l0).bind fun t194 => (some (decide ((t194.size : Int) ≤ 2000)))) else (some false)) = some r := h
 clear h
 by_cases c2 : (l0.length : Int) ≤ 300
 ·rw [if_pos c2] at H
  have c2b0 := decide_eq_true c2; have c2b1 : decide (l0.length ≤ 300) = true := decide_eq_true (by omega); clear c2; replace H := oB H; obtain ⟨t194, A3, H⟩ := H; obtain rfl := Option.some.inj H
  go_enter Try.func16, Try.ntmps16
  go_wp2_with (first | (go_at_call 26; (with_reducible refine (patchworkref1_Join.calls k _ _ l0 t194 _ (yC HR0.out) HC0.out A3.out).mono ?_); rintro e w4 ⟨rfl, hb⟩; replace HB := Aside0.mk (below_step yB hb); clear hb))
  go_ret
  exact ⟨yE2, yB⟩
 ·rw [if_neg c2] at H
  have c2b0 := decide_eq_false c2; have c2b1 : decide (l0.length ≤ 300) = false := decide_eq_false (by omega); clear c2; obtain rfl := Option.some.inj H
  go_enter Try.func16, Try.ntmps16
  go_wp2
  go_ret
  exact ⟨yE2, yB⟩
end Go.Proofs.Ytkalkickknjdhaa.P
namespace Go.Proofs.Ytkalkickknjdhaa.P
open Go.RowKit Go.Proofs.YtkalkickknjdhaaW.PrintWords Go.Proofs.YtkalkickknjdhaaW.PrintLast Go.Proofs.YtkalkickknjdhaaW.PrintMore
open Go.Proofs.YtkalkickknjdhaaW.PrintWords.Aside0 renaming mk → aM
open Go.World renaming block_lt_of_cell? → bL
attribute [local go_sem] max2_int min2_int max_two min_two max_three min_three max_four min_four
set_option maxHeartbeats 8000000 in
set_option maxRecDepth 100000 in
theorem patchworklaw9_ApplyNeeds.calls (k : Nat) (A0 : Option Addr) (c0 : Nat) (l0 : List (Op)) (A1 : Option Addr) (c1 : Nat) (l1 : List ByteArray) (a2 : Int) (a3 : ByteArray) (r : Bool) (w : World) (hr0 : Kd.C kOp w A0 l0.length l0) (hc0 : l0.length ≤ c0) (hr1 : Kd.C Kd.string w A1 l1.length l1) (hc1 : l1.length ≤ c1) (h : patchworklaw9_ApplyNeeds.f k l0 l1 a2 a3 = some r) :
  Calls Try.prog 6 #[.slice A0 l0.length c0, .slice A1 l1.length c1, .int .i64 a2, .string a3] w fun e w' => e = .returned (.bool r) ∧ Below w.heap.size w w' := by
 have HR0 := aM hr0
 have HC0 := aM hc0
 clear hr0 hc0
 have HR1 := aM hr1
 have HC1 := aM hc1
 clear hr1 hc1
 have HB := aM (Below.refl w.heap.size w)
 have H : ((patchworklaw9_alive.f k).bind fun t320 => (if t320 = true then ((patchworklaw8_Few.f k l0).bind fun t321 => (if t321 = true then ((patchworklaw9_Short.f k l1).bind fun t322 => (if t322 = true then (if a2 < 0 then (patchworklaw9_ApplyNeeds.j0 k l0 l1 a2 a3 t320 true) else ((apply_Fits.f k l0 l1).bind fun t323 => (patchworklaw9_ApplyNeeds.j0 k l0 l1 a2 a3 t320 (!t323)))) else (patchworklaw9_ApplyNeeds.j0 k l0 l1 a2 a3 t320 true))) else (patchworklaw9_ApplyNeeds.j0 k l0 l1 a2 a3 t320 true))) else (patchworklaw9_ApplyNeeds.j0 k l0 l1 a2 a3 t320 true))) = some r := h
 clear h
 replace H := oB H; obtain ⟨t320, A5, H⟩ := H
 have HC6 := aM H
 clear H
 go_enter Try.func6, Try.ntmps6
 go_upto_region 2 with (first | ((with_reducible refine gate_callee (f := 14) rfl ?_); refine goesL_ (some 14) rfl rfl Try.func14 yK rfl #[] rfl yG ?_; (with_reducible refine (patchworklaw9_alive.calls k  t320 _ A5.out).mono ?_); rintro e w7 ⟨rfl, hb⟩; refine ⟨_, rfl, ?_⟩; replace HB := aM (below_step yB hb); clear hb))
 (try simp only [Act.put, List.setIfInBounds_toArray, List.set_cons_zero, List.set_cons_succ])
 go_cut [36] (fun v36 wc => ∃ (kq : Nat) (x36_5 : Bool), v36 = .bool x36_5 ∧ Aside0 (patchworklaw9_ApplyNeeds.j0 kq l0 l1 a2 a3 t320 x36_5 = some r) ∧ Aside0 (kq ≤ k) ∧ Aside0 (Below w.heap.size w wc))
 case first =>
  have H := HC6.out; clear HC6
  by_cases c8 : t320 = true
  ·subst c8
   replace H := iT H; replace H := oB H; obtain ⟨t321, A9, H⟩ := H
   by_cases c10 : t321 = true
   ·subst c10
    replace H := iT H; replace H := oB H; obtain ⟨t322, A11, H⟩ := H
    by_cases c12 : t322 = true
    ·subst c12
     replace H := iT H
     by_cases c13 : a2 < 0
     ·rw [if_pos c13] at H
      have c13b0 := decide_eq_true c13; clear c13
      (first | rw [c13b0] | (simp only [i64_w, i32_w]; rw [c13b0]) | skip)
      have H' := aM H; clear H
      go_wp2_with (first | (go_at_call 15; (with_reducible refine (patchworklaw8_Few.calls k _ _ l0 true _ (yC (Kd.C_below HR0.out HB.out)) HC0.out A9.out).mono ?_); rintro e w' ⟨rfl, ⟨nd, rfl⟩⟩) | (go_at_call 16; (with_reducible refine (patchworklaw9_Short.calls k _ _ l1 true _ (yC (Kd.C_below HR1.out yB)) HC1.out A11.out).mono ?_); rintro e w14 ⟨rfl, hb⟩; replace HB := aM (below_step yB hb); clear hb))
      go_meet
      case rel => exact ⟨_, (true), yE, H', ⟨by first | omega | exact Nat.le_refl _⟩, ⟨yB⟩⟩
     ·rw [if_neg c13] at H
      have c13b0 := decide_eq_false c13; clear c13
      (first | rw [c13b0] | (simp only [i64_w, i32_w]; rw [c13b0]) | skip)
      replace H := oB H; obtain ⟨t323, A15, H⟩ := H; have H' := aM H; clear H
      go_wp2_with (first | (go_at_call 15; (with_reducible refine (patchworklaw8_Few.calls k _ _ l0 true _ (yC (Kd.C_below HR0.out HB.out)) HC0.out A9.out).mono ?_); rintro e w' ⟨rfl, ⟨nd, rfl⟩⟩) | (go_at_call 16; (with_reducible refine (patchworklaw9_Short.calls k _ _ l1 true _ (yC (Kd.C_below HR1.out yB)) HC1.out A11.out).mono ?_); rintro e w16 ⟨rfl, hb⟩; replace HB := aM (below_step yB hb); clear hb) | (go_at_call 20; (with_reducible refine (apply_Fits.calls k _ _ l0 _ _ l1 t323 _ (yC (Kd.C_below HR0.out HB.out)) HC0.out (yC (Kd.C_below HR1.out HB.out)) HC1.out A15.out).mono ?_); rintro e w17 ⟨rfl, hb⟩; replace HB := aM (below_step yB hb); clear hb))
      go_meet
      case rel => exact ⟨_, (!t323), yE, H', ⟨by first | omega | exact Nat.le_refl _⟩, ⟨yB⟩⟩
    ·replace c12 := Bool.eq_false_iff.mpr c12
     subst c12; have H' := aM (iF H); clear H
     go_wp2_with (first | (go_at_call 15; (with_reducible refine (patchworklaw8_Few.calls k _ _ l0 true _ (yC (Kd.C_below HR0.out HB.out)) HC0.out A9.out).mono ?_); rintro e w' ⟨rfl, ⟨nd, rfl⟩⟩) | (go_at_call 16; (with_reducible refine (patchworklaw9_Short.calls k _ _ l1 false _ (yC (Kd.C_below HR1.out yB)) HC1.out A11.out).mono ?_); rintro e w18 ⟨rfl, hb⟩; replace HB := aM (below_step yB hb); clear hb))
     go_meet
     case rel => exact ⟨_, (true), yE, H', ⟨by first | omega | exact Nat.le_refl _⟩, ⟨yB⟩⟩
   ·replace c10 := Bool.eq_false_iff.mpr c10
    subst c10; have H' := aM (iF H); clear H
    go_wp2_with (first | (go_at_call 15; (with_reducible refine (patchworklaw8_Few.calls k _ _ l0 false _ (yC (Kd.C_below HR0.out HB.out)) HC0.out A9.out).mono ?_); rintro e w' ⟨rfl, ⟨nd, rfl⟩⟩))
    go_meet
    case rel => exact ⟨_, (true), yE, H', ⟨by first | omega | exact Nat.le_refl _⟩, ⟨yB⟩⟩
  ·replace c8 := Bool.eq_false_iff.mpr c8
   subst c8; have H' := aM (iF H); clear H
   go_wp2
   go_meet
   case rel => exact ⟨_, (true), yE, H', ⟨by first | omega | exact Nat.le_refl _⟩, ⟨yB⟩⟩
 case rest =>
  clear HC6; (try clear c1); (try clear p2); (try clear c6); (try clear c8); (try clear c10); (try clear c12); (try clear c13); (try clear c13b0); (try clear c14); obtain ⟨kq, x36_5, rfl, HA, HJ5, HB⟩ := hcut; cases kq with
  | zero => exact absurd HA.out (by simp [patchworklaw9_ApplyNeeds.j0])
  | succ kj5 =>
   have H := HA.out; clear HA; simp only [patchworklaw9_ApplyNeeds.j0] at H
   by_cases c19 : x36_5 = true
   ·subst c19
    replace H := iT H; obtain rfl := Option.some.inj H
    go_wp2
    go_ret
    exact ⟨yE2, yB⟩
   ·replace c19 := Bool.eq_false_iff.mpr c19
    subst c19; have H' := aM (iF H); clear H
    go_wp2
    go_loopg [10, 11] kj5 (fun kq v10 v11 w' => ∃ (x10_2 : Int) (x11_2 : Int), v10 = .int .i64 x10_2 ∧ v11 = .int .i64 x11_2 ∧ Aside0 (patchworklaw9_ApplyNeeds.l0 kq l0 l1 a2 a3 x10_2 x11_2 = some r) ∧ Aside0 (kq ≤ kj5) ∧ Aside0 (Below w.heap.size w w'))
    case atStart => exact ⟨(0), (0), yE, yE, H', ⟨Nat.le_refl _⟩, ⟨yB⟩⟩
    case round =>
     clear H'; (try clear c1); (try clear p2); (try clear c6); (try clear c8); (try clear c10); (try clear c12); (try clear c13); (try clear c13b0); (try clear c14); (try clear c19); (try clear p2); obtain ⟨x10_2, x11_2, rfl, rfl, HA, HK2, HB⟩ := hrel; cases gk with
     | zero => exact absurd HA.out (by simp [patchworklaw9_ApplyNeeds.l0])
     | succ k2 =>
      have H := HA.out; clear HA; simp only [patchworklaw9_ApplyNeeds.l0] at H
      by_cases c20 : x11_2 < (l0.length : Int)
      ·rw [if_pos c20] at H
       have c20b0 := decide_eq_true c20; clear c20
       by_cases c21 : 0 ≤ x11_2
       ·rw [if_pos c21] at H
        have c21b0 := decide_eq_true c21; clear c21; have HC22 := aM H; clear H; have p324 : 0 ≤ (x11_2 : Int) := yO; have q324 : x11_2 < (l0.length : Int) := yO; obtain ⟨ad324, e324, hx324_0, hx324_1, hx324_2⟩ := at_OpB HB.out HR0.out x11_2 p324 q324; cases e324; replace p324 := eq_true p324; replace q324 := eq_true q324; have p325 : 0 ≤ (x11_2 : Int) := yO; have q325 : x11_2 < (l0.length : Int) := yO; obtain ⟨ad325, e325, hx325_0, hx325_1, hx325_2⟩ := at_Op HR0.out x11_2 p325 q325; obtain rfl : ad324 = ad325 := (by injection e325); replace hx325_0 := (HB.out.cell (bL w _ hx325_0)).trans hx325_0; replace hx325_1 := (HB.out.cell (bL w _ hx325_1)).trans hx325_1; replace hx325_2 := (HB.out.cell (bL w _ hx325_2)).trans hx325_2; replace p325 := eq_true p325; replace q325 := eq_true q325
        go_upto_if 54 with (fail)
        go_cut [12] (fun v12 wc => ∃ (kq : Nat) (x12_21 : Int), v12 = .int .i64 x12_21 ∧ Aside0 (patchworklaw9_ApplyNeeds.j2 kq l0 l1 a2 a3 x10_2 x11_2 x12_21 = some r) ∧ Aside0 (kq ≤ k2) ∧ Aside0 (Below w.heap.size w wc))
        case first =>
         have H := HC22.out; clear HC22
         by_cases c23 : ((rd_Op l0 x11_2).f0) = 1
         ·rw [if_pos c23] at H
          have c23b0 := beq_iff_eq.mpr c23; have c23b1 := bne_eq_false_iff_eq.mpr c23; clear c23
          (first | rw [c23b0] | (simp only [i64_w, i32_w]; rw [c23b0]) | skip)
          have H' := aM H; clear H
          go_wp2
          go_meet
          case rel => exact ⟨_, ((rd_Op l0 x11_2).f1), yE, H', ⟨by have := HJ5.out; have := HK2.out; first | omega | exact Nat.le_refl _⟩, ⟨yB⟩⟩
         ·rw [if_neg c23] at H
          have c23b0 := beq_eq_false_iff_ne.mpr c23; have c23b1 := bne_iff_ne.mpr c23
          (first | rw [c23b0] | (simp only [i64_w, i32_w]; rw [c23b0]) | skip)
          have H' := aM H; clear H
          go_wp2
          go_meet
          case rel => exact ⟨_, (1), yE, H', ⟨by have := HJ5.out; have := HK2.out; first | omega | exact Nat.le_refl _⟩, ⟨yB⟩⟩
        case rest =>
         clear HC22; (try clear c1); (try clear c2); (try clear p2); (try clear p3); (try clear q3); (try clear hx3); (try clear c6); (try clear c8); (try clear c10); (try clear c12); (try clear c13); (try clear c13b0); (try clear c14); (try clear c19); (try clear c20); (try clear c20b0); (try clear c21); (try clear c21b0); (try clear c23); (try clear c23b0); (try clear c23b1); (try clear hx324_0); (try clear hx324_1); (try clear hx324_2); (try clear hx325_0); (try clear hx325_1); (try clear hx325_2); (try clear p2); (try clear p324); (try clear p325); (try clear q324); (try clear q325); obtain ⟨kq, x12_21, rfl, HA, HJ21, HB⟩ := hcut; cases kq with
         | zero => exact absurd HA.out (by simp [patchworklaw9_ApplyNeeds.j2])
         | succ kj21 =>
          have H := HA.out; clear HA; simp only [patchworklaw9_ApplyNeeds.j2] at H
          by_cases c24 : 0 ≤ x11_2
          ·rw [if_pos c24] at H
           have c24b0 := decide_eq_true c24; clear c24
           by_cases c25 : x11_2 < (l0.length : Int)
           ·rw [if_pos c25] at H
            have c25b0 := decide_eq_true c25; clear c25
            by_cases c26 : ((rd_Op l0 x11_2).f0) = 4
            ·rw [if_pos c26] at H
             have c26b0 := beq_iff_eq.mpr c26; have c26b1 := bne_eq_false_iff_eq.mpr c26; clear c26; have H' := aM H; clear H; have p326 : 0 ≤ (x11_2 : Int) := yO; have q326 : x11_2 < (l0.length : Int) := yO; obtain ⟨ad326, e326, hx326_0, hx326_1, hx326_2⟩ := at_Op HR0.out x11_2 p326 q326; obtain rfl : ad324 = ad326 := (by injection e326); replace hx326_0 := (HB.out.cell (bL w _ hx326_0)).trans hx326_0; replace hx326_1 := (HB.out.cell (bL w _ hx326_1)).trans hx326_1; replace hx326_2 := (HB.out.cell (bL w _ hx326_2)).trans hx326_2; replace p326 := eq_true p326; replace q326 := eq_true q326
             go_wp2
             go_roundg kj21
             case measure => have := HJ5.out; have := HK2.out; have := HJ21.out; omega
             case rel => exact ⟨(x10_2), (wrap64 (x11_2 + 1)), yE, yE, H', ⟨by have := HJ5.out; have := HK2.out; have := HJ21.out; omega⟩, ⟨yB⟩⟩
            ·rw [if_neg c26] at H
             have c26b0 := beq_eq_false_iff_ne.mpr c26; have c26b1 := bne_iff_ne.mpr c26; have HC27 := aM H; clear H; have p326 : 0 ≤ (x11_2 : Int) := yO; have q326 : x11_2 < (l0.length : Int) := yO; obtain ⟨ad326, e326, hx326_0, hx326_1, hx326_2⟩ := at_Op HR0.out x11_2 p326 q326; obtain rfl : ad324 = ad326 := (by injection e326); replace hx326_0 := (HB.out.cell (bL w _ hx326_0)).trans hx326_0; replace hx326_1 := (HB.out.cell (bL w _ hx326_1)).trans hx326_1; replace hx326_2 := (HB.out.cell (bL w _ hx326_2)).trans hx326_2; replace p326 := eq_true p326; replace q326 := eq_true q326
             go_upto_region 12 with (fail)
             go_cut [80] (fun v80 wc => ∃ (kq : Nat) (x80_26 : Bool), v80 = .bool x80_26 ∧ Aside0 (patchworklaw9_ApplyNeeds.j3 kq l0 l1 a2 a3 x10_2 x11_2 x12_21 x80_26 = some r) ∧ Aside0 (kq ≤ kj21) ∧ Aside0 (Below w.heap.size w wc))
             case first =>
              have H := HC27.out; clear HC27
              by_cases c28 : ((rd_Op l0 x11_2).f0) = 1
              ·rw [if_pos c28] at H
               have c28b0 := beq_iff_eq.mpr c28; have c28b1 := bne_eq_false_iff_eq.mpr c28; clear c28
               (first | rw [c28b0] | (simp only [i64_w, i32_w]; rw [c28b0]) | skip)
               have H' := aM H; clear H; have p327 : 0 ≤ (x11_2 : Int) := yO; have q327 : x11_2 < (l0.length : Int) := yO; obtain ⟨ad327, e327, hx327_0, hx327_1, hx327_2⟩ := at_Op HR0.out x11_2 p327 q327; obtain rfl : ad324 = ad327 := (by injection e327); replace hx327_0 := (HB.out.cell (bL w _ hx327_0)).trans hx327_0; replace hx327_1 := (HB.out.cell (bL w _ hx327_1)).trans hx327_1; replace hx327_2 := (HB.out.cell (bL w _ hx327_2)).trans hx327_2; replace p327 := eq_true p327; replace q327 := eq_true q327
               go_wp2
               go_meet
               case rel => exact ⟨_, (false), yE, H', ⟨by have := HJ5.out; have := HK2.out; have := HJ21.out; first | omega | exact Nat.le_refl _⟩, ⟨yB⟩⟩
              ·rw [if_neg c28] at H
               have c28b0 := beq_eq_false_iff_ne.mpr c28; have c28b1 := bne_iff_ne.mpr c28
               (first | rw [c28b0] | (simp only [i64_w, i32_w]; rw [c28b0]) | skip)
               by_cases c29 : a2 = x10_2
               ·rw [if_pos c29] at H
                have c29b0 := beq_iff_eq.mpr c29; have c29b1 := bne_eq_false_iff_eq.mpr c29; clear c29; have H' := aM H; clear H; have p327 : 0 ≤ (x11_2 : Int) := yO; have q327 : x11_2 < (l0.length : Int) := yO; obtain ⟨ad327, e327, hx327_0, hx327_1, hx327_2⟩ := at_Op HR0.out x11_2 p327 q327; obtain rfl : ad324 = ad327 := (by injection e327); replace hx327_0 := (HB.out.cell (bL w _ hx327_0)).trans hx327_0; replace hx327_1 := (HB.out.cell (bL w _ hx327_1)).trans hx327_1; replace hx327_2 := (HB.out.cell (bL w _ hx327_2)).trans hx327_2; replace p327 := eq_true p327; replace q327 := eq_true q327; have p328 : 0 ≤ (x11_2 : Int) := yO; have q328 : x11_2 < (l0.length : Int) := yO; obtain ⟨ad328, e328, hx328_0, hx328_1, hx328_2⟩ := at_Op HR0.out x11_2 p328 q328; obtain rfl : ad324 = ad328 := (by injection e328); replace hx328_0 := (HB.out.cell (bL w _ hx328_0)).trans hx328_0; replace hx328_1 := (HB.out.cell (bL w _ hx328_1)).trans hx328_1; replace hx328_2 := (HB.out.cell (bL w _ hx328_2)).trans hx328_2; replace p328 := eq_true p328; replace q328 := eq_true q328
                go_wp2
                go_meet
                case rel => exact ⟨_, ((a3.toList != ((rd_Op l0 x11_2).f2).toList)), yE, H', ⟨by have := HJ5.out; have := HK2.out; have := HJ21.out; first | omega | exact Nat.le_refl _⟩, ⟨yB⟩⟩
               ·rw [if_neg c29] at H
                have c29b0 := beq_eq_false_iff_ne.mpr c29; have c29b1 := bne_iff_ne.mpr c29; have H' := aM H; clear H; have p327 : 0 ≤ (x11_2 : Int) := yO; have q327 : x11_2 < (l0.length : Int) := yO; obtain ⟨ad327, e327, hx327_0, hx327_1, hx327_2⟩ := at_Op HR0.out x11_2 p327 q327; obtain rfl : ad324 = ad327 := (by injection e327); replace hx327_0 := (HB.out.cell (bL w _ hx327_0)).trans hx327_0; replace hx327_1 := (HB.out.cell (bL w _ hx327_1)).trans hx327_1; replace hx327_2 := (HB.out.cell (bL w _ hx327_2)).trans hx327_2; replace p327 := eq_true p327; replace q327 := eq_true q327
                go_wp2
                go_meet
                case rel => exact ⟨_, (false), yE, H', ⟨by have := HJ5.out; have := HK2.out; have := HJ21.out; first | omega | exact Nat.le_refl _⟩, ⟨yB⟩⟩
             case rest =>
              clear HC27; (try clear c1); (try clear c2); (try clear p2); (try clear p3); (try clear q3); (try clear hx3); (try clear c6); (try clear p6); (try clear c8); (try clear c10); (try clear c12); (try clear c13); (try clear c13b0); (try clear c14); (try clear c19); (try clear c20); (try clear c20b0); (try clear c21); (try clear c21b0); (try clear c23); (try clear c23b0); (try clear c23b1); (try clear c24); (try clear c24b0); (try clear c25); (try clear c25b0); (try clear c26); (try clear c26b0); (try clear c26b1); (try clear c28); (try clear c28b0); (try clear c28b1); (try clear c29); (try clear c29b0); (try clear c29b1); (try clear hx324_0); (try clear hx324_1); (try clear hx324_2); (try clear hx325_0); (try clear hx325_1); (try clear hx325_2); (try clear hx326_0); (try clear hx326_1); (try clear hx326_2); (try clear hx327_0); (try clear hx327_1); (try clear hx327_2); (try clear hx328_0); (try clear hx328_1); (try clear hx328_2); (try clear p2); (try clear p3); (try clear p324); (try clear p325); (try clear p326); (try clear p327); (try clear p328); (try clear q3); (try clear q324); (try clear q325); (try clear q326); (try clear q327); (try clear q328); obtain ⟨kq, x80_26, rfl, HA, HJ26, HB⟩ := hcut; cases kq with
              | zero => exact absurd HA.out (by simp [patchworklaw9_ApplyNeeds.j3])
              | succ kj26 =>
               have H := HA.out; clear HA; simp only [patchworklaw9_ApplyNeeds.j3] at H
               by_cases c30 : x80_26 = true
               ·subst c30
                replace H := iT H
                by_cases c31 : ([] : List ByteArray).length + l1.length < 8796093022208
                ·rw [if_pos c31] at H
                 have LMc31 := aM c31; clear c31; replace H := oS H; obtain ⟨y329, Ny329, H⟩ := H
                 by_cases c32 : 0 ≤ x10_2
                 ·rw [if_pos c32] at H
                  have c32b0 := decide_eq_true c32; clear c32
                  by_cases c33 : x10_2 < (y329.length : Int)
                  ·rw [if_pos c33] at H
                   have c33b0 := decide_eq_true c33; clear c33; obtain ⟨y332, hy332⟩ : ∃ y_ : List ByteArray, y_ = (y329.set (x10_2 : Int).toNat a3) := ⟨_, rfl⟩; replace H : ((apply_Fits.f kj26 l0 y332).bind fun t333 => (if t333 = true then (some false) else (if x10_2 ≤ (l1.length : Int) then ((apply_Fits.f kj26 l0 (l1.take (x10_2 : Int).toNat)).bind fun t335 => (some (!t335))) else (none)))) = some r := yN hy332 H
                   have Ny332 := aM hy332; clear hy332; replace H := oB H; obtain ⟨t333, A35, H⟩ := H
                   by_cases c36 : t333 = true
                   ·subst c36
                    replace H := iT H; obtain rfl := Option.some.inj H
                    go_wp2_with (first | ((with_reducible refine gate_builtin (b := .append) (xs := #[.const (.slice none 0 0), .tmp 81]) rfl ?_); at_builtin; refine Kd.R_append_rows Kd.string (w0 := w) w.heap.size rfl (.const (.slice none 0 0)) (.tmp 81) 23 9 (.string ⟨#[]⟩) 16 rfl Try.underlying23 info9 rfl (by decide) (by omega) (.slice none 0 0) ([] : List ByteArray) l1 _ _ _ (fun _ => True) (fun _ => False) rfl rfl ?aO ?aR (fun _ _ h => h) (fun _ h => h.elim) ?aF ?aB ?aS ?aL ?_; (case aR => repeat (first | exact (Kd.C_below HR1.out HB.out) | (with_reducible first | refine Kd.C_alloc ?_ _ | refine Kd.C_drewN ?_ _ | refine Kd.C_drew ?_))); (case aB => exact yB); (case aF => exact (fun _ _ => trivial)); (case aO => exact ((Kd.R_nil _ _ _ _ (fun _ => True)))); (case aS => exact yW); (case aL => have := LMc31.out; omega); intro v330 w37 ho hb hg hat; rw [← Ny329.out] at ho; replace HB := aM (hb); have HO331 := aM (ho); clear ho hb hg hat; have p34 : 0 ≤ (x10_2 : Int) := yO; have q34 : (x10_2 : Int) < ((y329.length : Int) : Int) := yO; obtain ⟨go34, co34, eo34, gb34, gl34, cl34, HG34⟩ := Kd.R_form HO331.out (by omega); (first | cases eo34 | (injection eo34 with ea_ en_ ec_; (first | subst ea_ | (injection ea_ with ea_; subst ea_)); subst ec_; clear en_)); have GB34 := aM gb34; have GG34 := aM HG34; clear gb34 gl34 HG34; obtain ⟨hx34_0, hf34_0⟩ := Kd.R_celln (⟨#[]⟩ : ByteArray) HO331.out (x10_2 : Int) p34 q34; replace p34 := eq_true p34; replace q34 := eq_true q34; obtain ⟨hy38_, hz38_⟩ := Kd.R_celln (⟨#[]⟩ : ByteArray) HO331.out (x10_2 : Int) (yO) (yO); have HP38 := Kd.R_putg HO331.out (x10_2 : Int) a3) | ((with_reducible refine gate_store (t := 9) (p := 86) rfl ?_); refine store_event (t := 9) (p := 86) (v := ?vo_w39) (w1 := (w37.setCell ⟨go34, (x10_2 : Int).toNat, none⟩ (.string a3))) ?hg ?ho ?hn ?hr ?_; (case ho => rfl); (case hg => rfl); (case hn => rfl); (case hr => first | (go_simp; done) | (go_simp; rfl)); intro w39 hw; have hg : w37.grownBy w39 (some go34) := (by rw [hw]; exact HP38.2); have hp_ : Kd.R Kd.string 9 w39 w.heap.size (fun _ => True) (.slice (some ⟨go34, 0, none⟩) y329.length co34) y332 := (by rw [hw, Ny332.out]; exact HP38.1); clear HP38; replace HO331 := aM (hp_); replace HB := aM ((by rw [hw]; exact below_set (HB.out) GB34.out : Below w.heap.size w w39)); clear hg hw hp_) | ((with_reducible refine gate_callee (f := 20) rfl ?_); refine goesL_ (some 89) rfl rfl Try.func20 yK rfl #[.slice (some ad324) l0.length c0, .slice (some ⟨go34, 0, none⟩) y332.length co34] rfl (by (try simp only [List.map_toArray, List.map_cons, List.map_nil]); first | done | (rw [show y332.length = y329.length from (Kd.R_reads' HO331.out).1.symm] <;> rfl) | rfl | (simp only [List.length_drop, List.length_take]; rfl)) ?_; (with_reducible refine (apply_Fits.calls kj26 _ _ l0 _ _ y332 true _ ?side1 ?side2 ?side3 ?side4 A35.out).mono ?_); (case side1 => repeat (first | exact (Kd.C_below HR0.out HB.out) | (with_reducible first | refine Kd.C_alloc ?_ _ | refine Kd.C_drewN ?_ _ | refine Kd.C_drew ?_))); (case side2 => exact HC0.out); (case side3 => repeat (first | exact (Kd.R_reads' HO331.out).2.2 | (with_reducible first | refine Kd.C_alloc ?_ _ | refine Kd.C_drewN ?_ _ | refine Kd.C_drew ?_))); (case side4 => rw [show y332.length = y329.length from (Kd.R_reads' HO331.out).1.symm]; exact (Kd.R_reads' HO331.out).2.1); rintro e w40 ⟨rfl, hb⟩; refine ⟨_, rfl, ?_⟩; replace HO331 := aM (Kd.R_below (yH HO331.out) hb); replace HB := aM (below_step yB hb); clear hb))
                    go_ret
                    exact ⟨yE2, yB⟩
                   ·replace c36 := Bool.eq_false_iff.mpr c36
                    subst c36; replace H := iF H; have c41b0 := eq_true (yO : 0 ≤ x10_2)
                    by_cases c42 : x10_2 ≤ (l1.length : Int)
                    ·rw [if_pos c42] at H
                     have c42b0 := eq_true c42; have c42b1 := decide_eq_true c42; clear c42; replace H := oB H; obtain ⟨t335, A43, H⟩ := H; obtain rfl := Option.some.inj H
                     go_wp2_with (first | ((with_reducible refine gate_builtin (b := .append) (xs := #[.const (.slice none 0 0), .tmp 81]) rfl ?_); at_builtin; refine Kd.R_append_rows Kd.string (w0 := w) w.heap.size rfl (.const (.slice none 0 0)) (.tmp 81) 23 9 (.string ⟨#[]⟩) 16 rfl Try.underlying23 info9 rfl (by decide) (by omega) (.slice none 0 0) ([] : List ByteArray) l1 _ _ _ (fun _ => True) (fun _ => False) rfl rfl ?aO ?aR (fun _ _ h => h) (fun _ h => h.elim) ?aF ?aB ?aS ?aL ?_; (case aR => repeat (first | exact (Kd.C_below HR1.out HB.out) | (with_reducible first | refine Kd.C_alloc ?_ _ | refine Kd.C_drewN ?_ _ | refine Kd.C_drew ?_))); (case aB => exact yB); (case aF => exact (fun _ _ => trivial)); (case aO => exact ((Kd.R_nil _ _ _ _ (fun _ => True)))); (case aS => exact yW); (case aL => have := LMc31.out; omega); intro v330 w44 ho hb hg hat; rw [← Ny329.out] at ho; replace HB := aM (hb); have HO331 := aM (ho); clear ho hb hg hat; have p34 : 0 ≤ (x10_2 : Int) := yO; have q34 : (x10_2 : Int) < ((y329.length : Int) : Int) := yO; obtain ⟨go34, co34, eo34, gb34, gl34, cl34, HG34⟩ := Kd.R_form HO331.out (by omega); (first | cases eo34 | (injection eo34 with ea_ en_ ec_; (first | subst ea_ | (injection ea_ with ea_; subst ea_)); subst ec_; clear en_)); have GB34 := aM gb34; have GG34 := aM HG34; clear gb34 gl34 HG34; obtain ⟨hx34_0, hf34_0⟩ := Kd.R_celln (⟨#[]⟩ : ByteArray) HO331.out (x10_2 : Int) p34 q34; replace p34 := eq_true p34; replace q34 := eq_true q34; obtain ⟨hy45_, hz45_⟩ := Kd.R_celln (⟨#[]⟩ : ByteArray) HO331.out (x10_2 : Int) (yO) (yO); have HP45 := Kd.R_putg HO331.out (x10_2 : Int) a3) | ((with_reducible refine gate_store (t := 9) (p := 86) rfl ?_); refine store_event (t := 9) (p := 86) (v := ?vo_w46) (w1 := (w44.setCell ⟨go34, (x10_2 : Int).toNat, none⟩ (.string a3))) ?hg ?ho ?hn ?hr ?_; (case ho => rfl); (case hg => rfl); (case hn => rfl); (case hr => first | (go_simp; done) | (go_simp; rfl)); intro w46 hw; have hg : w44.grownBy w46 (some go34) := (by rw [hw]; exact HP45.2); have hp_ : Kd.R Kd.string 9 w46 w.heap.size (fun _ => True) (.slice (some ⟨go34, 0, none⟩) y329.length co34) y332 := (by rw [hw, Ny332.out]; exact HP45.1); clear HP45; replace HO331 := aM (hp_); replace HB := aM ((by rw [hw]; exact below_set (HB.out) GB34.out : Below w.heap.size w w46)); clear hg hw hp_) | ((with_reducible refine gate_callee (f := 20) rfl ?_); refine goesL_ (some 89) rfl rfl Try.func20 yK rfl #[.slice (some ad324) l0.length c0, .slice (some ⟨go34, 0, none⟩) y332.length co34] rfl (by (try simp only [List.map_toArray, List.map_cons, List.map_nil]); first | done | (rw [show y332.length = y329.length from (Kd.R_reads' HO331.out).1.symm] <;> rfl) | rfl | (simp only [List.length_drop, List.length_take]; rfl)) ?_; (with_reducible refine (apply_Fits.calls kj26 _ _ l0 _ _ y332 false _ ?side1 ?side2 ?side3 ?side4 A35.out).mono ?_); (case side1 => repeat (first | exact (Kd.C_below HR0.out HB.out) | (with_reducible first | refine Kd.C_alloc ?_ _ | refine Kd.C_drewN ?_ _ | refine Kd.C_drew ?_))); (case side2 => exact HC0.out); (case side3 => repeat (first | exact (Kd.R_reads' HO331.out).2.2 | (with_reducible first | refine Kd.C_alloc ?_ _ | refine Kd.C_drewN ?_ _ | refine Kd.C_drew ?_))); (case side4 => rw [show y332.length = y329.length from (Kd.R_reads' HO331.out).1.symm]; exact (Kd.R_reads' HO331.out).2.1); rintro e w47 ⟨rfl, hb⟩; refine ⟨_, rfl, ?_⟩; replace HO331 := aM (Kd.R_below (yH HO331.out) hb); replace HB := aM (below_step yB hb); clear hb; obtain ⟨i048, hi048, _, hsz48, _⟩ := info_parts info9; obtain ⟨hcut48, hA48, hC48⟩ := print_take_of (P := Try.prog) Value.string (⟨#[]⟩ : ByteArray) 23 9 .i64 Try.underlying23 hi048 hsz48 A1 c1 l1 x10_2 (yO) (yO) HC1.out; have HR334 : Aside0 (Kd.C Kd.string w A1 (l1.take (x10_2 : Int).toNat).length (l1.take (x10_2 : Int).toNat)) := aM (Kd.C_of_reads (h1 := fun _ => rfl) (hA48 _ (Kd.reads_of_C HR1.out))); have HC334 := aM hC48; clear hA48 hC48 hi048 hsz48) | (go_at_call 20; rw [show (x10_2 : Int).toNat = (l1.take (x10_2 : Int).toNat).length from by have q_ : x10_2 ≤ (l1.length : Int) := of_eq_true (by assumption); rw [List.length_take]; omega]; (with_reducible refine (apply_Fits.calls kj26 _ _ l0 _ _ (l1.take (x10_2 : Int).toNat) t335 _ (yC (Kd.C_below HR0.out HB.out)) HC0.out (yC (Kd.C_below HR334.out HB.out)) HC334.out A43.out).mono ?_); rintro e w49 ⟨rfl, hb⟩; replace HO331 := aM (Kd.R_below (yH HO331.out) hb); replace HB := aM (below_step yB hb); clear hb))
                     go_ret
                     exact ⟨yE2, yB⟩
                    ·rw [if_neg c42] at H
                     exact absurd H (by simp)
                  ·rw [if_neg c33] at H
                   exact absurd H (by simp)
                 ·rw [if_neg c32] at H
                  exact absurd H (by simp)
                ·rw [if_neg c31] at H
                 exact absurd H (by simp)
               ·replace c30 := Bool.eq_false_iff.mpr c30
                subst c30; have H' := aM (iF H); clear H
                go_wp2
                go_roundg kj26
                case measure => have := HJ5.out; have := HK2.out; have := HJ21.out; have := HJ26.out; omega
                case rel => exact ⟨(wrap64 (x10_2 + x12_21)), (wrap64 (x11_2 + 1)), yE, yE, H', ⟨by have := HJ5.out; have := HK2.out; have := HJ21.out; have := HJ26.out; omega⟩, ⟨yB⟩⟩
           ·rw [if_neg c25] at H
            exact absurd H (by simp)
          ·rw [if_neg c24] at H
           exact absurd H (by simp)
       ·rw [if_neg c21] at H
        exact absurd H (by simp)
      ·rw [if_neg c20] at H
       have c20b0 := decide_eq_false c20; clear c20; obtain rfl := Option.some.inj H
       go_wp2
       go_ret
       exact ⟨yE2, yB⟩
end Go.Proofs.Ytkalkickknjdhaa.P
namespace Go.Proofs.Ytkalkickknjdhaa.P
open Go.RowKit Go.Proofs.YtkalkickknjdhaaW.PrintWords Go.Proofs.YtkalkickknjdhaaW.PrintLast Go.Proofs.YtkalkickknjdhaaW.PrintMore
def ApplyNeeds.Pure : Prop := ∀ (l0 : List (Op)) (l1 : List ByteArray) (a2 : Int) (a3 : ByteArray), ((fun xs => ∀ y ∈ xs, okOp y) l0) → ((fun xs => ∀ y ∈ xs, (fun _ => True) y) l1) → ((fun n => (Lit.int .i64 n).wf = true) a2) → (fun xs => (xs.map wtOp).sum + 1) l0 + (fun xs => (xs.map (fun s => s.size + 1)).sum + 1) l1 + (fun _ => 1) a2 + (fun s => s.size + 1) a3 ≤ 1048576 → ∃ k, patchworklaw9_ApplyNeeds.f k l0 l1 a2 a3 = some true
end Go.Proofs.Ytkalkickknjdhaa.P
namespace Go.Proofs.Ytkalkickknjdhaa.P
open Go.RowKit Go.Proofs.YtkalkickknjdhaaW.PrintWords Go.Proofs.YtkalkickknjdhaaW.PrintLast Go.Proofs.YtkalkickknjdhaaW.PrintMore
theorem ApplyNeeds.out (a : List Op) (b : List ByteArray) (c : Int) (d : ByteArray) : Ev (fun k => patchworklaw9_ApplyNeeds.j0 k a b c d true true) true := by
 refine Ev.step (fun k => rfl) ?_
 simp only [patchworklaw9_ApplyNeeds.j0, if_true]
 exact Ev.now true
theorem fit_at : ∀ (A B : List (Option ByteArray)) (t : ByteArray) (ls : List ByteArray), fitS (A ++ some t :: B) ls → ls[A.length]? = some t
 | [], B, t, [], h => absurd h id
 | [], B, t, x :: ls, h => by obtain ⟨rfl, _⟩ := h; rfl
 | a :: A, B, t, [], h => by cases a <;> exact absurd h id
 | none :: A, B, t, x :: ls, h => by
  have := fit_at A B t ls h
  simpa using this
 | some s :: A, B, t, x :: ls, h => by
  have := fit_at A B t ls h.2
  simpa using this
theorem ApplyNeeds.loop {l : List Op} {ls : List ByteArray} {at_ : Int} {text : ByteArray} (hs : Sm l) (hls : SmT ls) (ht : text.size < 4611686018427387904) (hd : (doL l ls).2 = true) (s : List Op) : ∀ (p : List Op), l = p ++ s →
  Ev (fun k => patchworklaw9_ApplyNeeds.l0 k l ls at_ text ((olds (ex p)).length : Int) (p.length : Int)) true := by
 obtain ⟨r, d1, d2, d3, d4, d5⟩ := doL_true hd
 have fl := rightL_form d1
 have f1 := (doU_fit _ _ _ d3).1
 obtain ⟨_, a3, _⟩ := rightL_ok d1
 rw [sums_olds _ fl] at a3
 induction s with
 | nil =>
  intro p e
  have c : ¬ (p.length : Int) < (l.length : Int) := by rw [e]; simp
  refine Ev.step (fun k => rfl) ?_
  simp only [patchworklaw9_ApplyNeeds.l0, if_neg c]
  exact Ev.now true
 | cons o s ih =>
  intro p e
  have i := ih (p ++ [o]) (by rw [e]; simp)
  have hb : Sm (p ++ o :: s) := by rw [← e]; exact hs
  have c : (p.length : Int) < (l.length : Int) := by rw [e]; simp; omega
  have c0 : (0 : Int) ≤ (p.length : Int) := by omega
  have ro : rd_Op l (p.length : Int) = o := by rw [e]; exact rdOp_mid p s o
  have hp := hb.len
  have w := fun (_ : Unit) => wrap_len p o (by omega)
  have eo : olds (ex (p ++ [o])) = olds (ex p) ++ olds (exO o) := by rw [ex_app, olds_app]; simp [ex]
  have el : olds (ex l) = olds (ex p) ++ (olds (exO o) ++ olds (ex s)) := by rw [e, ex_app, ex_cons, olds_app, olds_app]
  have hlen : (olds (ex p)).length + (olds (exO o)).length ≤ 2147483648 := by
   have := a3
   rw [el, List.length_append, List.length_append] at this
   omega
  rw [eo, List.length_append] at i
  have fo := fl o (by rw [e]; simp)
  -- on to the next step
  have nxt : ∀ n : Int, n = ((olds (exO o)).length : Int) → Ev (fun k => patchworklaw9_ApplyNeeds.j3 k l ls at_ text ((olds (ex p)).length : Int) (p.length : Int) n false) true := by
   intro n hn
   have w2 : wrap64 (((olds (ex p)).length : Int) + n) = (((olds (ex p)).length + (olds (exO o)).length : Nat) : Int) := by rw [hn, wrap_small (n := ((olds (ex p)).length : Int) + ((olds (exO o)).length : Int)) (by omega) (by omega)]; omega
   refine Ev.step (fun k => rfl) ?_
   simp only [patchworklaw9_ApplyNeeds.j3, Bool.false_eq_true, if_false, w2, w ()]
   exact i
  refine Ev.step (fun k => rfl) ?_
  simp only [patchworklaw9_ApplyNeeds.l0, if_pos c, if_pos c0, ro]
  rcases fo with ⟨hk, h1, h2⟩ | ⟨hk, h1⟩
  ·have on : ((olds (exO o)).length : Int) = o.f1 := by rw [show exO o = List.replicate o.f1.toNat .skip from by simp [exO, hk], olds_skips, List.length_replicate]; omega
   have k4 : ¬ o.f0 = 4 := by omega
   simp only [if_pos hk]
   refine Ev.step (fun k => rfl) ?_
   simp only [patchworklaw9_ApplyNeeds.j2, if_pos c0, if_pos c, ro, if_neg k4, if_pos hk]
   exact nxt _ on.symm
  ·have k1 : ¬ o.f0 = 1 := by omega
   simp only [if_neg k1]
   refine Ev.step (fun k => rfl) ?_
   by_cases k4 : o.f0 = 4
   ·have on : olds (exO o) = [] := by rw [show exO o = [.ins o.f2] from by simp [exO, k4]]; rfl
    rw [on] at i
    simp only [patchworklaw9_ApplyNeeds.j2, if_pos c0, if_pos c, ro, if_pos k4, w ()]
    exact i
   ·have on : olds (exO o) = [some o.f2] := by
     have : o.f0 = 2 ∨ o.f0 = 3 := by omega
     rcases this with h | h
     ·rw [show exO o = [.keep o.f2] from by simp [exO, h]]; rfl
     ·rw [show exO o = [.del o.f2] from by simp [exO, h]]; rfl
    have nx1 := nxt 1 (by rw [on]; rfl)
    simp only [patchworklaw9_ApplyNeeds.j2, if_pos c0, if_pos c, ro, if_neg k4, if_neg k1]
    by_cases ha : at_ = ((olds (ex p)).length : Int)
    ·simp only [if_pos ha]
     by_cases htx : text = o.f2
     ·have : (text.toList != o.f2.toList) = false := by rw [htx]; simp
      rw [this]; exact nx1
     ·have : (text.toList != o.f2.toList) = true := by rw [bne_iff_ne]; exact fun h => htx (txt_eq h)
      rw [this]
      have hfit : ∀ x : List ByteArray, SmT x → x[(olds (ex p)).length]? ≠ some o.f2 → Ev (fun k => apply_Fits.f k l x) false := by
       intro x hx hne
       have := pfits_ev hs hx
       cases hf : (doL l x).2
       ·rw [hf] at this; exact this
       ·exfalso
        obtain ⟨r2, _, _, g3, _, _⟩ := doL_true hf
        have g := (doU_fit _ _ _ g3).1
        rw [el, on] at g
        exact hne (fit_at _ _ _ _ g)
      have hat := f1
      rw [el, on] at hat
      have hin := fit_at _ _ _ _ hat
      have hlt : (olds (ex p)).length < ls.length := (List.getElem?_eq_some_iff.mp hin).1
      have q1 : ([] : List ByteArray).length + ls.length < 8796093022208 := by have := hls.1; simp; omega
      have q2 : (0 : Int) ≤ ((olds (ex p)).length : Int) := by omega
      have q3 : ((olds (ex p)).length : Int) < (ls.length : Int) := by omega
      have q4 : ((olds (ex p)).length : Int) ≤ (ls.length : Int) := by omega
      have sx : SmT (ls.set (olds (ex p)).length text) := ⟨by rw [List.length_set]; exact hls.1, fun z hz => by
       rcases List.mem_or_eq_of_mem_set hz with h | h
       ·exact hls.2 z h
       ·rw [h]; exact ht⟩
      have st : SmT (ls.take (olds (ex p)).length) := ⟨by rw [List.length_take]; have := hls.1; omega, fun z hz => hls.2 z (List.mem_of_mem_take hz)⟩
      refine Ev.step (fun k => rfl) ?_
      simp only [patchworklaw9_ApplyNeeds.j3, if_true, if_pos q1, List.nil_append, Option.bind_some, if_pos q2, if_pos q3, Int.toNat_natCast, if_pos q4]
      refine Ev.bind' (hfit _ sx ?_) ?_
      ·rw [List.getElem?_set_self hlt]
       exact fun h => htx (Option.some.inj h)
      simp only [Bool.false_eq_true, if_false]
      refine Ev.bind' (hfit _ st ?_) ?_
      ·rw [List.getElem?_take, if_neg (by omega)]; simp
      exact Ev.now true
    ·simp only [if_neg ha]
     exact nx1
theorem ApplyNeeds.proved : ApplyNeeds.Pure := by
 intro l ls a t _ _ wa hw
 simp only at hw
 have hs : Sm l := Sm.of_wt (by omega)
 have hf := fewN_le l
 have hfl := fewN_len l
 have w1 := wt_len ls
 have t1 := textSum_le ls
 have hls : SmT ls := SmT.of_wt (by omega)
 obtain ⟨b1, e1, _⟩ := short_ev ls (by omega)
 refine Ev.rounds ?_
 simp only [patchworklaw9_ApplyNeeds.f]
 refine Ev.bind' alive9 ?_
 simp only [if_true]
 refine Ev.bind' (few_ev (by omega)) ?_
 by_cases h : fewN l ≤ 600
 ·simp only [h, decide_true, if_true]
  refine Ev.bind' e1 ?_
  cases b1
  ·exact ApplyNeeds.out l ls a t
  simp only [if_true]
  by_cases ha : a < 0
  ·simp only [if_pos ha]; exact ApplyNeeds.out l ls a t
  simp only [if_neg ha]
  refine Ev.bind' (pfits_ev hs hls) ?_
  cases hd : (doL l ls).2
  ·exact ApplyNeeds.out l ls a t
  simp only [Bool.not_true]
  refine Ev.step (fun k => rfl) ?_
  simp only [patchworklaw9_ApplyNeeds.j0, Bool.false_eq_true, if_false]
  exact ApplyNeeds.loop hs hls (by omega) hd l [] rfl
 ·simp only [h, decide_false, Bool.false_eq_true, if_false]
  exact ApplyNeeds.out l ls a t
end Go.Proofs.Ytkalkickknjdhaa.P
namespace Go.Proofs.Ytkalkickknjdhaa.P.applyNeeds
open Go.ChangeShapes Go.WideShapes Go.ChangeAt Go.RowKit Go.Proofs.Ytkalkickknjdhaa.P Go.Proofs.YtkalkickknjdhaaW.PrintWords
open Go.ChangeMaps (open_string shut_string)
theorem own : ownKnob Try.prog.godebug = none := by kernel_rfl
theorem laidOut : laidOutB Try.prog = true := by kernel_rfl
theorem opens0 : Opens Try.prog 34 kOp okOp wtOp := (opens_struct3 (d0 := (Kd.int .i64)) (d1 := (Kd.int .i64)) (d2 := Kd.string) Try.underlying34 (by kernel_rfl) rfl rfl rfl rfl rfl rfl (opens_int Try.underlying3 (by kernel_rfl)) (opens_int Try.underlying3 (by kernel_rfl)) (opens_string Try.underlying9 (by kernel_rfl)) (fun x : Op => (x.f0, x.f1, x.f2)) (fun a b c => ⟨a, b, c⟩) (fun _ _ _ => rfl))
theorem opens1 : Opens Try.prog 9 Kd.string (fun _ => True) (fun s => s.size + 1) := (opens_string Try.underlying9 (by kernel_rfl))
set_option maxRecDepth 100000 in
theorem contract (H : Type) (enc : TypeId × Value → H) (W : World) (base : Nat) (args : Array Value) (ds gs : List (DataW H)) (before : List MemPlace)
  (hval : ∀ (j : Nat) t v, Try.f6.params[j]? = some t → args[j]? = some v → Value.okWide Try.prog W .any base t v)
  (hW : DataW.Whole enc Try.prog Try.f6.params.toList Rows.applyNeedsSpec.vars false W args.toList ds gs before) (hk : Rows.uptoSmall H (ds ++ gs) = true) :
  Calls Try.prog 6 args W fun e W' => ∃ v, e = .returned v ∧ Rows.applyNeedsSpec.post enc Try.prog Try.f6 false true false false W args v W' := by
 have hW' := hW
 obtain ⟨p, q, hA0, hV, rfl, hfz, hnd⟩ := hW
 have hA : DataW.TrodAll enc Try.prog W 0 (fun _ => true) true Try.f6.params.toList args.toList ds p := hA0
 rw [Try.params6] at hA hval
 obtain ⟨v0, vs0, d0, ds0, p0, q0, hargs, rfl, rfl, h0, r0⟩ := trodAll_cons hA
 obtain ⟨v1, vs1, d1, ds1, p1, q1, rfl, rfl, rfl, h1, r1⟩ := trodAll_cons r0
 obtain ⟨v2, vs2, d2, ds2, p2, q2, rfl, rfl, rfl, h2, r2⟩ := trodAll_cons r1
 obtain ⟨v3, vs3, d3, ds3, p3, q3, rfl, rfl, rfl, h3, r3⟩ := trodAll_cons r2
 obtain ⟨rfl, rfl, rfl⟩ := trodAll_nil r3
 obtain rfl : args = #[v0, v1, v2, v3] := by cases args; simp_all
 obtain ⟨rfl, rfl⟩ := trodVars_none hV
 have hb := small_all hk
 simp only [List.append_nil, Rows.uptoBulkAll] at hb
 obtain ⟨A0, len0, c0, rfl⟩ := okWide_slice Try.underlying22 (hval 0 22 v0 rfl rfl)
 have k0 := h0
 have lt0 : ∀ x ∈ p0, x.block < W.heap.size := by obtain ⟨m, hm⟩ := k0; exact DataW.trod_lt m _ _ _ hm
 obtain ⟨fuel0, hf0⟩ := h0
 obtain ⟨A0', c0', l0, hcs0, hc0, hr0, ok0, wt0⟩ := open_row Try.underlying22 opens0 hf0
 simp only [Value.cells, List.cons.injEq, Value.slice.injEq, and_true] at hcs0
 obtain ⟨rfl, rfl, rfl⟩ := hcs0
 obtain ⟨A1, len1, c1, rfl⟩ := okWide_slice Try.underlying23 (hval 1 23 v1 rfl rfl)
 have k1 := h1
 have lt1 : ∀ x ∈ p1, x.block < W.heap.size := by obtain ⟨m, hm⟩ := k1; exact DataW.trod_lt m _ _ _ hm
 obtain ⟨fuel1, hf1⟩ := h1
 obtain ⟨A1', c1', l1, hcs1, hc1, hr1, ok1, wt1⟩ := open_row Try.underlying23 opens1 hf1
 simp only [Value.cells, List.cons.injEq, Value.slice.injEq, and_true] at hcs1
 obtain ⟨rfl, rfl, rfl⟩ := hcs1
 obtain ⟨a2, rfl, rfl, rfl, ok2⟩ := open_int Try.underlying3 (hval 2 3 v2 rfl rfl) h2
 have wt2 : 1 ≤ Rows.uptoBulk (DataW.lit (H := H) (.int .i64 a2)) := by simp [Rows.uptoBulk]
 obtain ⟨a3, rfl, rfl, rfl, y3⟩ := open_string Try.underlying9 (hval 3 9 v3 rfl rfl) h3
 have wt3 : a3.size + 1 ≤ Rows.uptoBulk (DataW.lit (H := H) (.string a3.data.toList)) := by simp [Rows.uptoBulk]
 clear hA0 hval
 obtain ⟨k, hp⟩ := ApplyNeeds.proved l0 l1 a2 a3 ok0 ok1 ok2 (by simp only [] at *; omega)
 refine (patchworklaw9_ApplyNeeds.calls k _ _ l0 _ _ l1 a2 a3 true W hr0 hc0 hr1 hc1 hp).mono fun e W' ⟨he, bel0⟩ => ?_
 have bel : Below W.heap.size W W' := bel0
 subst he
 exact ⟨_, rfl, _, _, _, [], _, [], hW', trodAll_mk1 (shut_bool Try.underlying4 _), (trodAll_cons_mk (Below.trod laidOut (by kernel_rfl) (of_decide_eq_true (by kernel_rfl)) k0 bel lt0) (trodAll_cons_mk (Below.trod laidOut (by kernel_rfl) (of_decide_eq_true (by kernel_rfl)) k1 bel lt1) (trodAll_cons_mk (shut_int Try.underlying3 ok2) (trodAll_cons_mk (shut_string Try.underlying9 y3) trodAll_mk0)))), rfl, bel.frame _, fun h => by cases h⟩
set_option maxRecDepth 100000 in
theorem lifted (os : Os) (started : os.Started) (H : Type) (enc : TypeId × Value → H) (F : Stop.Interp) :
  ReturnsInHanded {} Try.checked os 6 .any ((Rows.OpenSpec.upto Rows.applyNeedsSpec).pre6 enc Try.prog Try.f6 Rows.applyNeedsUptoRow.domain false) (((Rows.OpenSpec.upto Rows.applyNeedsSpec).at F).post enc Try.prog Try.f6 false true false false) := by
 refine returnsInHanded_of_cond (C := Try.checked) (s := Rows.OpenSpec.upto Rows.applyNeedsSpec) (k := Rows.uptoSmall) rfl own started (by kernel_rfl) Try.func6
  (OpenSpec.witness (enc := enc) (C := Try.checked) (s := Rows.OpenSpec.upto Rows.applyNeedsSpec) (k := Rows.uptoSmall) rfl false ⟨#[], #[.slice none 0 0, .slice none 0 0, .int .i64 0, .string ByteArray.empty], []⟩ 8 (by kernel_rfl) (by kernel_rfl) (by kernel_rfl)
   (x := ([.nil, .nil, .lit (.int .i64 0), .lit (.string [])], [], [])) (by kernel_rfl) rfl (by kernel_rfl)) ?_
 intro W base args ds gs before hval hW _ hk _
 exact contract H enc W base args ds gs before hval hW hk
theorem over : Rows.applyNeedsUptoRow.holds Try.pinned (Rows.OpenSpec.upto Rows.applyNeedsSpec) :=
 OpenClaim.holds_of_cond 6 Try.f6 rfl rfl rfl rfl rfl rfl rfl ⟨rfl, rfl, rfl, rfl, rfl⟩ rfl rfl rfl rfl rfl (by kernel_rfl) Try.func6 (by kernel_rfl)
  (of_decide_eq_true (by kernel_rfl)) (by unfold Func.isWrapper; first | (rw [if_pos (by decide +kernel)]; kernel_rfl) | (rw [if_neg (by decide +kernel)]; exact ⟨rfl, rfl⟩))
  (fun os started H enc _ F => lifted os started H enc F)
theorem proved : Rows.ApplyNeedsUptoSaid := over
end Go.Proofs.Ytkalkickknjdhaa.P.applyNeeds
namespace Go.Proofs.Ytkalkickknjdhaa
theorem applyNeeds_holds : Rows.ApplyNeedsUptoSaid := P.applyNeeds.proved
#print axioms applyNeeds_holds
end Go.Proofs.Ytkalkickknjdhaa
