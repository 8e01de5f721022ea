/- Own and printed texts that the theorem of InterTells reaches, put together. -/
import Derived.Test.YtfoponahdidddaaqInterTells4
import Derived.Test.YtfoponahdidddaaqInterTells5
import Derived.Test.YtfoponahdidddaaqInterTells3
import Derived.Test.YtfoponahdidddaaqInterTells8
import Derived.Test.YtfoponahdidddaaqInterTells9
import Derived.Test.YtfoponahdidddaaqInterTells13
import Derived.Test.YtfoponahdidddaaqInterTells17
import Derived.Test.YtfoponahdidddaaqInterTells12
set_option linter.unusedVariables false
set_option linter.unusedSimpArgs false
namespace Go.Proofs.Ytfoponahdidddaa.P
open Go.RowKit Go.Proofs.YtfoponahdidddaaW.PrintWords Go.Proofs.YtfoponahdidddaaW.PrintLast Go.Proofs.YtfoponahdidddaaW.PrintMore
open Go.Proofs.YtfoponahdidddaaW.PrintWords.Aside0 renaming mk → aM
open Go.World renaming block_lt_of_cell? → bL
open Option renaming bind_eq_some_iff → bS
attribute [local go_sem] max2_int min2_int max_two min_two max_three min_three max_four min_four
theorem patchworkref8_table.calls (A0 : Option Addr) (c0 : Nat) (l0 : List ByteArray) (A1 : Option Addr) (c1 : Nat) (l1 : List ByteArray) (r : List (List Int)) (w : World) (hr0 : Kd.C Kd.string w A0 l0.length l0) (hc0 : l0.length ≤ c0) (hr1 : Kd.C Kd.string w A1 l1.length l1) (hc1 : l1.length ≤ c1) (h : patchworkref8_table.f l0 l1 = some r) :
  Calls Try.prog 88 #[.slice A0 l0.length c0, .slice A1 l1.length c1] w fun e w' => ∃ v0_ : Value, e = .returned (v0_) ∧ Kd.S (Kd.slice 3 (Kd.int .i64)) 91 w' w.heap.size (fun _ => True) v0_ r ∧ Below w.heap.size w w' := by
 unfold patchworkref8_table.f at h
 split at h
 ·rename_i hb
  obtain rfl := Option.some.inj h
  refine (ref_table_walk A0 c0 l0 A1 c1 l1 w hr0 hr1 hb.1 hb.2).mono ?_
  rintro e w' ⟨T, rfl, hT, hG⟩
  exact ⟨_, rfl, rows_S hT hG hb.1 hb.2, hT.1⟩
 ·exact absurd h (by simp)
set_option maxHeartbeats 8000000 in
set_option maxRecDepth 100000 in
theorem patchworkref8_LcsDiff.calls (k : Nat) (A0 : Option Addr) (c0 : Nat) (l0 : List ByteArray) (A1 : Option Addr) (c1 : Nat) (l1 : List ByteArray) (r : List (Op)) (w : World) (hr0 : Kd.C Kd.string w A0 l0.length l0) (hc0 : l0.length ≤ c0) (hr1 : Kd.C Kd.string w A1 l1.length l1) (hc1 : l1.length ≤ c1) (h : patchworkref8_LcsDiff.f k l0 l1 = some r) :
  Calls Try.prog 76 #[.slice A0 l0.length c0, .slice A1 l1.length c1] w fun e w' => ∃ v0_ : Value, e = .returned (v0_) ∧ Kd.R kOp 41 w' w.heap.size (fun _ => True) v0_ r ∧ Below w.heap.size w w' := by
 have hu41 := Try.underlying41
 have HR0 := aM hr0
 have HC0 := aM hc0
 clear hr0 hc0
 have HR1 := aM hr1
 have HC1 := aM hc1
 clear hr1 hc1
 have HB := aM (Below.refl w.heap.size w)
 have H : ((patchworkref8_table.f l0 l1).bind fun t804 => (patchworkref8_LcsDiff.l0 k l0 l1 t804 ([] : List (Op)) 0 0)) = some r := h
 clear h
 obtain ⟨t804, A3, H⟩ := oB H
 have H' := aM H
 clear H
 go_enter Try.func76, Try.ntmps76
 go_wp2_with (first | (go_at_call 88; (with_reducible refine (patchworkref8_table.calls _ _ l0 _ _ l1 t804 _ (yC HR0.out) HC0.out (yC HR1.out) HC1.out A3.out).mono ?_); rintro e w4 ⟨v805, rfl, ho0, hb⟩; have HO806 := aM (Kd.S_lower ho0 yW); replace HB := aM (below_step yB hb); clear hb ho0))
 repeat (go_quiet (first | (go_at_call 88; (with_reducible refine (patchworkref8_table.calls _ _ l0 _ _ l1 t804 _ (yC HR0.out) HC0.out (yC HR1.out) HC1.out A3.out).mono ?_); rintro e w4 ⟨v805, rfl, ho0, hb⟩; have HO806 := aM (Kd.S_lower ho0 yW); replace HB := aM (below_step yB hb); clear hb ho0)); try go_wp2_with (first | (go_at_call 88; (with_reducible refine (patchworkref8_table.calls _ _ l0 _ _ l1 t804 _ (yC HR0.out) HC0.out (yC HR1.out) HC1.out A3.out).mono ?_); rintro e w4 ⟨v805, rfl, ho0, hb⟩; have HO806 := aM (Kd.S_lower ho0 yW); replace HB := aM (below_step yB hb); clear hb ho0)))
 go_loopg [6, 7, 8] k (fun kq v6 v7 v8 w' => ∃ (x6_1 : List (Op)) (x7_1 : Int) (x8_1 : Int), v7 = .int .i64 x7_1 ∧ v8 = .int .i64 x8_1 ∧ Aside0 (patchworkref8_LcsDiff.l0 kq l0 l1 t804 x6_1 x7_1 x8_1 = some r) ∧ Aside0 (kq ≤ k) ∧ Aside0 (Kd.S (Kd.slice 3 (Kd.int .i64)) 91 w' w.heap.size (fun _ => True) v805 t804) ∧ Aside0 (Kd.R kOp 41 w' w.heap.size (fun _ => True) v6 x6_1) ∧ Aside0 (Below w.heap.size w w'))
 case atStart => exact ⟨(([] : List (Op))), (0), (0), yE, yE, H', ⟨Nat.le_refl _⟩, ⟨by (with_reducible repeat (first | apply Kd.S_alloc | apply Kd.S_drewN | apply Kd.S_drew)); exact HO806.out⟩, ⟨by first | exact Kd.R_nil _ _ _ _ _ | exact Kd.N_nil _ _ _ _ _ | exact Kd.V_nil _ _ _ _ _ | exact Kd.Q_nil _ _ _ _ _ | exact Kd.S_nil _ _ _ _ _⟩, ⟨yB⟩⟩
 case round =>
  clear H'; (try clear c1); (try clear p2); obtain ⟨x6_1, x7_1, x8_1, rfl, rfl, HA, HK1, HO_5, HO_6, HB⟩ := hrel; cases gk with
  | zero => exact absurd HA.out (by simp [patchworkref8_LcsDiff.l0])
  | succ k1 =>
   have H := HA.out; clear HA; simp only [patchworkref8_LcsDiff.l0] at H; have HC5 := aM H; clear H
   go_upto_region 5 with (fail)
   repeat (go_quiet (fail); go_upto_region 5 with (fail))
   go_cut [21] (fun v21 wc => ∃ (kq : Nat) (x21_4 : Bool), v21 = .bool x21_4 ∧ Aside0 (patchworkref8_LcsDiff.j1 kq l0 l1 t804 x6_1 x7_1 x8_1 x21_4 = some r) ∧ Aside0 (kq ≤ k1) ∧ Aside0 (Kd.S (Kd.slice 3 (Kd.int .i64)) 91 wc w.heap.size (fun _ => True) v805 t804) ∧ Aside0 (Kd.R kOp 41 wc w.heap.size (fun _ => True) u6 x6_1) ∧ Aside0 (Below w.heap.size w wc))
   case first =>
    have H := HC5.out; clear HC5
    by_cases c6 : x7_1 < (l0.length : Int)
    ·rw [if_pos c6] at H
     have c6b0 := decide_eq_true c6; clear c6
     (first | rw [c6b0] | (simp only [i64_w, i32_w]; rw [c6b0]) | skip)
     have H' := aM H; clear H
     go_wp2
     repeat (go_quiet (fail); try go_wp2)
     go_meet
     case rel => exact ⟨_, (true), yE, H', ⟨by have := HK1.out; first | omega | exact Nat.le_refl _⟩, ⟨by (with_reducible repeat (first | apply Kd.S_alloc | apply Kd.S_drewN | apply Kd.S_drew)); exact HO_5.out⟩, ⟨yH HO_6.out⟩, ⟨yB⟩⟩
    ·rw [if_neg c6] at H
     have c6b0 := decide_eq_false c6; clear c6
     (first | rw [c6b0] | (simp only [i64_w, i32_w]; rw [c6b0]) | skip)
     have H' := aM H; clear H
     go_wp2
     repeat (go_quiet (fail); try go_wp2)
     go_meet
     case rel => exact ⟨_, (decide (x8_1 < (l1.length : Int))), yE, H', ⟨by have := HK1.out; first | omega | exact Nat.le_refl _⟩, ⟨by (with_reducible repeat (first | apply Kd.S_alloc | apply Kd.S_drewN | apply Kd.S_drew)); exact HO_5.out⟩, ⟨yH HO_6.out⟩, ⟨yB⟩⟩
   case rest =>
    clear HC5; (try clear c1); (try clear p2); (try clear c6); (try clear c6b0); (try clear p2); obtain ⟨kq, x21_4, rfl, HA, HJ4, HO_5, HO_6, HB⟩ := hcut; cases kq with
    | zero => exact absurd HA.out (by simp [patchworkref8_LcsDiff.j1])
    | succ kj4 =>
     have H := HA.out; clear HA; simp only [patchworkref8_LcsDiff.j1] at H
     by_cases c7 : x21_4 = true
     ·subst c7
      replace H := iT H; have HC8 := aM H; clear H
      go_upto_region 8 with (fail)
      repeat (go_quiet (fail); go_upto_region 8 with (fail))
      go_cut [32] (fun v32 wc => ∃ (kq : Nat) (x32_7 : Bool), v32 = .bool x32_7 ∧ Aside0 (patchworkref8_LcsDiff.j2 kq l0 l1 t804 x6_1 x7_1 x8_1 x32_7 = some r) ∧ Aside0 (kq ≤ kj4) ∧ Aside0 (Kd.S (Kd.slice 3 (Kd.int .i64)) 91 wc w.heap.size (fun _ => True) v805 t804) ∧ Aside0 (Kd.R kOp 41 wc w.heap.size (fun _ => True) u6 x6_1) ∧ Aside0 (Below w.heap.size w wc))
      case first =>
       have H := HC8.out; clear HC8
       by_cases c9 : x7_1 < (l0.length : Int)
       ·rw [if_pos c9] at H
        have c9b0 := decide_eq_true c9; clear c9
        (first | rw [c9b0] | (simp only [i64_w, i32_w]; rw [c9b0]) | skip)
        by_cases c10 : x8_1 < (l1.length : Int)
        ·rw [if_pos c10] at H
         have c10b0 := decide_eq_true c10; clear c10
         by_cases c11 : 0 ≤ x7_1
         ·rw [if_pos c11] at H
          have c11b0 := decide_eq_true c11; clear c11
          by_cases c12 : 0 ≤ x8_1
          ·rw [if_pos c12] at H
           have c12b0 := decide_eq_true c12; clear c12
           by_cases c13 : (rdOf ByteArray.empty l0 x7_1).toList = (rdOf ByteArray.empty l1 x8_1).toList
           ·rw [if_pos c13] at H
            have c13b0 := beq_iff_eq.mpr c13; have c13b1 := bne_eq_false_iff_eq.mpr c13; clear c13
            by_cases c14 : x7_1 < (t804.length : Int)
            ·rw [if_pos c14] at H
             have c14b0 := decide_eq_true c14; clear c14
             by_cases c15 : x8_1 < ((rd_L11 t804 x7_1).length : Int)
             ·rw [if_pos c15] at H
              have c15b0 := decide_eq_true c15; clear c15; obtain ⟨ji16, hji16⟩ : ∃ j_ : Int, (wrap64 (x7_1 + 1)) = j_ := ⟨_, rfl⟩; replace H : (if 0 ≤ (ji16) then (if (ji16) < (t804.length : Int) then (if 0 ≤ (wrap64 (x8_1 + 1)) then (if (wrap64 (x8_1 + 1)) < ((rd_L11 t804 (ji16)).length : Int) then (patchworkref8_LcsDiff.j2 kj4 l0 l1 t804 x6_1 x7_1 x8_1 ((rd (rd_L11 t804 x7_1) x8_1) == (wrap64 ((rd (rd_L11 t804 (ji16)) (wrap64 (x8_1 + 1))) + 1)))) else (none)) else (none)) else (none)) else (none)) = some r := by first | (rw [hji16] at H; exact H) | (simp only [hji16] at H ⊢; exact H)
              have hji16w : (IntKind.i64.wrap (x7_1 + 1)) = ji16 := (i64_w _).trans hji16
              by_cases c17 : 0 ≤ (ji16)
              ·rw [if_pos c17] at H
               have c17b0 := decide_eq_true c17; clear c17
               by_cases c18 : (ji16) < (t804.length : Int)
               ·rw [if_pos c18] at H
                have c18b0 := decide_eq_true c18; clear c18; obtain ⟨ji19, hji19⟩ : ∃ j_ : Int, (wrap64 (x8_1 + 1)) = j_ := ⟨_, rfl⟩; replace H : (if 0 ≤ (ji19) then (if (ji19) < ((rd_L11 t804 (ji16)).length : Int) then (patchworkref8_LcsDiff.j2 kj4 l0 l1 t804 x6_1 x7_1 x8_1 ((rd (rd_L11 t804 x7_1) x8_1) == (wrap64 ((rd (rd_L11 t804 (ji16)) (ji19)) + 1)))) else (none)) else (none)) = some r := by first | (rw [hji19] at H; exact H) | (simp only [hji19] at H ⊢; exact H)
                have hji19w : (IntKind.i64.wrap (x8_1 + 1)) = ji19 := (i64_w _).trans hji19
                by_cases c20 : 0 ≤ (ji19)
                ·rw [if_pos c20] at H
                 have c20b0 := decide_eq_true c20; clear c20
                 by_cases c21 : (ji19) < ((rd_L11 t804 (ji16)).length : Int)
                 ·rw [if_pos c21] at H
                  have c21b0 := decide_eq_true c21; clear c21; have H' := aM H; clear H; have p807 : 0 ≤ (x7_1 : Int) := yO; have q807 : x7_1 < (l0.length : Int) := yO; obtain ⟨ad807, e807, hx807_0⟩ := Kd.at_string HR0.out x7_1 p807 q807; cases e807; replace hx807_0 := (HB.out.cell (bL w _ hx807_0)).trans hx807_0; replace p807 := eq_true p807; replace q807 := eq_true q807; have p808 : 0 ≤ (x8_1 : Int) := yO; have q808 : x8_1 < (l1.length : Int) := yO; obtain ⟨ad808, e808, hx808_0⟩ := Kd.at_string HR1.out x8_1 p808 q808; cases e808; replace hx808_0 := (HB.out.cell (bL w _ hx808_0)).trans hx808_0; replace p808 := eq_true p808; replace q808 := eq_true q808; obtain ⟨Ao22, co22, eo22⟩ := Kd.S_slice HO_5.out; subst eo22; have p809 : 0 ≤ (x7_1 : Int) := yO; have q809 : x7_1 < (t804.length : Int) := yO; obtain ⟨ad809, A809_0, c809_0, e809, hx809_0, hl809_0, hi809_0⟩ := at_L11 (Kd.S_reads' HO_5.out).2.2 x7_1 p809 q809; cases e809; obtain ⟨ce809, hce809, hMe809, hcc809⟩ := Kd.S_get HO_5.out [] x7_1 p809 (by first | exact q809 | exact yO | (have e_ := (Kd.S_reads' HO_5.out).1; omega)); obtain ⟨ve809_0, rfl, ge809_0⟩ := hMe809; have hv809_0 := hcc809 0 _ rfl; rw [Nat.add_zero, show ((Kd.slice 3 (Kd.int .i64))).sz = 1 from rfl, Nat.mul_one] at hv809_0; replace hv809_0 := Option.some.inj (hv809_0.symm.trans hx809_0); rw [hv809_0] at ge809_0; have HL809_0 := aM (show Kd.R (Kd.int .i64) 3 _ _ _ _ (rd_L11 t804 x7_1) from ge809_0); clear hv809_0 ge809_0; clear hcc809 hce809; have HR809_0 := aM hi809_0; have HC809_0 := aM hl809_0; clear hi809_0 hl809_0; replace p809 := eq_true p809; replace q809 := eq_true q809; have p810 : 0 ≤ (x8_1 : Int) := yO; have q810 : x8_1 < ((rd_L11 t804 x7_1).length : Int) := yO; obtain ⟨ad810, e810, hx810_0⟩ := Kd.at_int (by repeat (first | (with_reducible exact HR809_0.out) | (with_reducible first | refine Kd.C_alloc ?_ _ | refine Kd.C_drewN ?_ _ | refine Kd.C_drew ?_) | exact HR809_0.out)) x8_1 p810 q810; cases e810; replace p810 := eq_true p810; replace q810 := eq_true q810; have p811 : 0 ≤ ((ji16) : Int) := yO; have q811 : (ji16) < (t804.length : Int) := yO; obtain ⟨ad811, A811_0, c811_0, e811, hx811_0, hl811_0, hi811_0⟩ := at_L11 (Kd.S_reads' HO_5.out).2.2 (ji16) p811 q811; obtain rfl : ad809 = ad811 := (by injection e811); obtain ⟨ce811, hce811, hMe811, hcc811⟩ := Kd.S_get HO_5.out [] (ji16) p811 (by first | exact q811 | exact yO | (have e_ := (Kd.S_reads' HO_5.out).1; omega)); obtain ⟨ve811_0, rfl, ge811_0⟩ := hMe811; have hv811_0 := hcc811 0 _ rfl; rw [Nat.add_zero, show ((Kd.slice 3 (Kd.int .i64))).sz = 1 from rfl, Nat.mul_one] at hv811_0; replace hv811_0 := Option.some.inj (hv811_0.symm.trans hx811_0); rw [hv811_0] at ge811_0; have HL811_0 := aM (show Kd.R (Kd.int .i64) 3 _ _ _ _ (rd_L11 t804 (ji16)) from ge811_0); clear hv811_0 ge811_0; clear hcc811 hce811; have HR811_0 := aM hi811_0; have HC811_0 := aM hl811_0; clear hi811_0 hl811_0; replace p811 := eq_true p811; replace q811 := eq_true q811; have p812 : 0 ≤ ((ji19) : Int) := yO; have q812 : (ji19) < ((rd_L11 t804 (ji16)).length : Int) := yO; obtain ⟨ad812, e812, hx812_0⟩ := Kd.at_int (by repeat (first | (with_reducible exact HR811_0.out) | (with_reducible first | refine Kd.C_alloc ?_ _ | refine Kd.C_drewN ?_ _ | refine Kd.C_drew ?_) | exact HR811_0.out)) (ji19) p812 q812; cases e812; replace p812 := eq_true p812; replace q812 := eq_true q812
                  go_wp2
                  repeat (go_quiet (fail); try go_wp2)
                  go_meet
                  case rel => exact ⟨_, (((rd (rd_L11 t804 x7_1) x8_1) == (wrap64 ((rd (rd_L11 t804 (ji16)) (ji19)) + 1)))), (by first | rfl | (simp; done) | (simp only [← hji16, ← hji19] <;> (first | rfl | simp)) | (simp [*]; done)), H', ⟨by have := HK1.out; have := HJ4.out; first | omega | exact Nat.le_refl _⟩, ⟨by (with_reducible repeat (first | apply Kd.S_alloc | apply Kd.S_drewN | apply Kd.S_drew)); exact HO_5.out⟩, ⟨yH HO_6.out⟩, ⟨yB⟩⟩
                 ·rw [if_neg c21] at H
                  exact absurd H (by simp)
                ·rw [if_neg c20] at H
                 exact absurd H (by simp)
               ·rw [if_neg c18] at H
                exact absurd H (by simp)
              ·rw [if_neg c17] at H
               exact absurd H (by simp)
             ·rw [if_neg c15] at H
              exact absurd H (by simp)
            ·rw [if_neg c14] at H
             exact absurd H (by simp)
           ·rw [if_neg c13] at H
            have c13b0 := beq_eq_false_iff_ne.mpr c13; have c13b1 := bne_iff_ne.mpr c13; have H' := aM H; clear H; have p807 : 0 ≤ (x7_1 : Int) := yO; have q807 : x7_1 < (l0.length : Int) := yO; obtain ⟨ad807, e807, hx807_0⟩ := Kd.at_string HR0.out x7_1 p807 q807; cases e807; replace hx807_0 := (HB.out.cell (bL w _ hx807_0)).trans hx807_0; replace p807 := eq_true p807; replace q807 := eq_true q807; have p808 : 0 ≤ (x8_1 : Int) := yO; have q808 : x8_1 < (l1.length : Int) := yO; obtain ⟨ad808, e808, hx808_0⟩ := Kd.at_string HR1.out x8_1 p808 q808; cases e808; replace hx808_0 := (HB.out.cell (bL w _ hx808_0)).trans hx808_0; replace p808 := eq_true p808; replace q808 := eq_true q808
            go_wp2
            repeat (go_quiet (fail); try go_wp2)
            go_meet
            case rel => exact ⟨_, (false), yE, H', ⟨by have := HK1.out; have := HJ4.out; first | omega | exact Nat.le_refl _⟩, ⟨by (with_reducible repeat (first | apply Kd.S_alloc | apply Kd.S_drewN | apply Kd.S_drew)); exact HO_5.out⟩, ⟨yH HO_6.out⟩, ⟨yB⟩⟩
          ·rw [if_neg c12] at H
           exact absurd H (by simp)
         ·rw [if_neg c11] at H
          exact absurd H (by simp)
        ·rw [if_neg c10] at H
         have c10b0 := decide_eq_false c10; clear c10; have H' := aM H; clear H
         go_wp2
         repeat (go_quiet (fail); try go_wp2)
         go_meet
         case rel => exact ⟨_, (false), yE, H', ⟨by have := HK1.out; have := HJ4.out; first | omega | exact Nat.le_refl _⟩, ⟨by (with_reducible repeat (first | apply Kd.S_alloc | apply Kd.S_drewN | apply Kd.S_drew)); exact HO_5.out⟩, ⟨yH HO_6.out⟩, ⟨yB⟩⟩
       ·rw [if_neg c9] at H
        have c9b0 := decide_eq_false c9; clear c9
        (first | rw [c9b0] | (simp only [i64_w, i32_w]; rw [c9b0]) | skip)
        have H' := aM H; clear H
        go_wp2
        repeat (go_quiet (fail); try go_wp2)
        go_meet
        case rel => exact ⟨_, (false), yE, H', ⟨by have := HK1.out; have := HJ4.out; first | omega | exact Nat.le_refl _⟩, ⟨by (with_reducible repeat (first | apply Kd.S_alloc | apply Kd.S_drewN | apply Kd.S_drew)); exact HO_5.out⟩, ⟨yH HO_6.out⟩, ⟨yB⟩⟩
      case rest =>
       clear HC8; (try clear c1); (try clear c2); (try clear p2); (try clear c6); (try clear c6b0); (try clear p6); (try clear c7); (try clear c8); (try clear p8); (try clear q8); (try clear hx8); (try clear c9); (try clear c9b0); (try clear c10); (try clear c10b0); (try clear c11); (try clear c11b0); (try clear c12); (try clear c12b0); (try clear c13); (try clear c13b0); (try clear c13b1); (try clear c14); (try clear c14b0); (try clear c15); (try clear c15b0); (try clear c17); (try clear c17b0); (try clear c18); (try clear c18b0); (try clear c20); (try clear c20b0); (try clear c21); (try clear c21b0); (try clear hx807_0); (try clear hx808_0); (try clear hx809_0); (try clear hx810_0); (try clear hx811_0); (try clear hx812_0); (try clear p2); (try clear p807); (try clear p808); (try clear p809); (try clear p810); (try clear p811); (try clear p812); (try clear q807); (try clear q808); (try clear q809); (try clear q810); (try clear q811); (try clear q812); obtain ⟨kq, x32_7, rfl, HA, HJ7, HO_5, HO_6, HB⟩ := hcut; cases kq with
       | zero => exact absurd HA.out (by simp [patchworkref8_LcsDiff.j2])
       | succ kj7 =>
        have H := HA.out; clear HA; simp only [patchworkref8_LcsDiff.j2] at H
        by_cases c23 : x32_7 = true
        ·subst c23
         replace H := iT H
         by_cases c24 : 0 ≤ x7_1
         ·rw [if_pos c24] at H
          have c24b0 := decide_eq_true c24; clear c24
          by_cases c25 : x7_1 < (l0.length : Int)
          ·rw [if_pos c25] at H
           have c25b0 := decide_eq_true c25; clear c25
           by_cases c26 : x6_1.length < 4398046511104
           ·rw [if_pos c26] at H
            have LMc26 := aM c26; clear c26; obtain ⟨y814, hy814⟩ : ∃ y_ : List (Op), y_ = (x6_1 ++ [(⟨2, 0, rdOf ByteArray.empty l0 x7_1⟩ : Op)]) := ⟨_, rfl⟩; replace H : (patchworkref8_LcsDiff.l0 kj7 l0 l1 t804 y814 (wrap64 (x7_1 + 1)) (wrap64 (x8_1 + 1))) = some r := yN hy814 H
            have Ny814 := aM hy814; clear hy814; have H' := aM H; clear H; have p813 : 0 ≤ (x7_1 : Int) := yO; have q813 : x7_1 < (l0.length : Int) := yO; obtain ⟨ad813, e813, hx813_0⟩ := Kd.at_string HR0.out x7_1 p813 q813; cases e813; replace hx813_0 := (HB.out.cell (bL w _ hx813_0)).trans hx813_0; replace p813 := eq_true p813; replace q813 := eq_true q813
            go_wp2_with (first | ((with_reducible refine gate_builtin (b := .append) (xs := #[.tmp 74, .tmp 80]) rfl ?_); (try (refine gate_guard (by rfl) ?_; dsimp only)); at_builtin; refine Kd.R_append kOp (w0 := w) w.heap.size rfl (.tmp 74) (.tmp 80) 22 41 (.agg #[(.int .i64 0), (.int .i64 0), (.string ⟨#[]⟩)]) 32 rfl Try.underlying22 info41 rfl (by decide) (by omega) u6 x6_1 (⟨2, 0, rdOf ByteArray.empty l0 x7_1⟩ : Op) [.int .i64 2, .int .i64 0, .string (rdOf ByteArray.empty l0 x7_1)] (fun _ => True) (fun _ => False) rfl rfl ?aP (fun _ hk => hk.elim) ?aF ?aO ?aB ?aS ?aL ?_; (case aP => exact kOp_mkM _ _ _ (⟨2, 0, rdOf ByteArray.empty l0 x7_1⟩ : Op)); (case aB => exact yB); (case aF => exact (fun _ _ => trivial)); (case aO => exact (yH HO_6.out)); (case aS => exact yW); (case aL => have := LMc26.out; omega); intro v815 w27 ho hb hg hat; rw [← Ny814.out] at ho; have n0_ := aM (Kd.S_over' (by (with_reducible repeat (first | apply Kd.S_alloc | apply Kd.S_drewN | apply Kd.S_drew)); exact HO_5.out) (Kd.R_typed (yH HO_6.out)) (by decide) hg); have n1_ := aM (hb); have n2_ := aM (ho); clear HO_5; clear HB; clear HO_6; have HO_5 := n0_; have HB := n1_; have HO816 := n2_; clear n0_ n1_ n2_; clear ho hb hg hat))
            repeat (go_quiet (first | ((with_reducible refine gate_builtin (b := .append) (xs := #[.tmp 74, .tmp 80]) rfl ?_); (try (refine gate_guard (by rfl) ?_; dsimp only)); at_builtin; refine Kd.R_append kOp (w0 := w) w.heap.size rfl (.tmp 74) (.tmp 80) 22 41 (.agg #[(.int .i64 0), (.int .i64 0), (.string ⟨#[]⟩)]) 32 rfl Try.underlying22 info41 rfl (by decide) (by omega) u6 x6_1 (⟨2, 0, rdOf ByteArray.empty l0 x7_1⟩ : Op) [.int .i64 2, .int .i64 0, .string (rdOf ByteArray.empty l0 x7_1)] (fun _ => True) (fun _ => False) rfl rfl ?aP (fun _ hk => hk.elim) ?aF ?aO ?aB ?aS ?aL ?_; (case aP => exact kOp_mkM _ _ _ (⟨2, 0, rdOf ByteArray.empty l0 x7_1⟩ : Op)); (case aB => exact yB); (case aF => exact (fun _ _ => trivial)); (case aO => exact (yH HO_6.out)); (case aS => exact yW); (case aL => have := LMc26.out; omega); intro v815 w27 ho hb hg hat; rw [← Ny814.out] at ho; have n0_ := aM (Kd.S_over' (by (with_reducible repeat (first | apply Kd.S_alloc | apply Kd.S_drewN | apply Kd.S_drew)); exact HO_5.out) (Kd.R_typed (yH HO_6.out)) (by decide) hg); have n1_ := aM (hb); have n2_ := aM (ho); clear HO_5; clear HB; clear HO_6; have HO_5 := n0_; have HB := n1_; have HO816 := n2_; clear n0_ n1_ n2_; clear ho hb hg hat)); try go_wp2_with (first | ((with_reducible refine gate_builtin (b := .append) (xs := #[.tmp 74, .tmp 80]) rfl ?_); (try (refine gate_guard (by rfl) ?_; dsimp only)); at_builtin; refine Kd.R_append kOp (w0 := w) w.heap.size rfl (.tmp 74) (.tmp 80) 22 41 (.agg #[(.int .i64 0), (.int .i64 0), (.string ⟨#[]⟩)]) 32 rfl Try.underlying22 info41 rfl (by decide) (by omega) u6 x6_1 (⟨2, 0, rdOf ByteArray.empty l0 x7_1⟩ : Op) [.int .i64 2, .int .i64 0, .string (rdOf ByteArray.empty l0 x7_1)] (fun _ => True) (fun _ => False) rfl rfl ?aP (fun _ hk => hk.elim) ?aF ?aO ?aB ?aS ?aL ?_; (case aP => exact kOp_mkM _ _ _ (⟨2, 0, rdOf ByteArray.empty l0 x7_1⟩ : Op)); (case aB => exact yB); (case aF => exact (fun _ _ => trivial)); (case aO => exact (yH HO_6.out)); (case aS => exact yW); (case aL => have := LMc26.out; omega); intro v815 w27 ho hb hg hat; rw [← Ny814.out] at ho; have n0_ := aM (Kd.S_over' (by (with_reducible repeat (first | apply Kd.S_alloc | apply Kd.S_drewN | apply Kd.S_drew)); exact HO_5.out) (Kd.R_typed (yH HO_6.out)) (by decide) hg); have n1_ := aM (hb); have n2_ := aM (ho); clear HO_5; clear HB; clear HO_6; have HO_5 := n0_; have HB := n1_; have HO816 := n2_; clear n0_ n1_ n2_; clear ho hb hg hat)))
            go_roundg kj7
            case measure => have := HK1.out; have := HJ4.out; have := HJ7.out; omega
            case rel => exact ⟨(y814), (wrap64 (x7_1 + 1)), (wrap64 (x8_1 + 1)), yE, yE, H', ⟨by have := HK1.out; have := HJ4.out; have := HJ7.out; omega⟩, ⟨by (with_reducible repeat (first | apply Kd.S_alloc | apply Kd.S_drewN | apply Kd.S_drew)); exact HO_5.out⟩, ⟨yH HO816.out⟩, ⟨yB⟩⟩
           ·rw [if_neg c26] at H
            exact absurd H (by simp)
          ·rw [if_neg c25] at H
           exact absurd H (by simp)
         ·rw [if_neg c24] at H
          exact absurd H (by simp)
        ·replace c23 := Bool.eq_false_iff.mpr c23
         subst c23; replace H := iF H
         by_cases c28 : x8_1 = (l1.length : Int)
         ·rw [if_pos c28] at H
          have c28b0 := beq_iff_eq.mpr c28; have c28b1 := bne_eq_false_iff_eq.mpr c28; clear c28
          by_cases c29 : 0 ≤ x7_1
          ·rw [if_pos c29] at H
           have c29b0 := decide_eq_true c29; clear c29
           by_cases c30 : x7_1 < (l0.length : Int)
           ·rw [if_pos c30] at H
            have c30b0 := decide_eq_true c30; clear c30
            by_cases c31 : x6_1.length < 4398046511104
            ·rw [if_pos c31] at H
             have LMc31 := aM c31; clear c31; obtain ⟨y818, hy818⟩ : ∃ y_ : List (Op), y_ = (x6_1 ++ [(⟨3, 0, rdOf ByteArray.empty l0 x7_1⟩ : Op)]) := ⟨_, rfl⟩; replace H : (patchworkref8_LcsDiff.l0 kj7 l0 l1 t804 y818 (wrap64 (x7_1 + 1)) x8_1) = some r := yN hy818 H
             have Ny818 := aM hy818; clear hy818; have H' := aM H; clear H; have p817 : 0 ≤ (x7_1 : Int) := yO; have q817 : x7_1 < (l0.length : Int) := yO; obtain ⟨ad817, e817, hx817_0⟩ := Kd.at_string HR0.out x7_1 p817 q817; cases e817; replace hx817_0 := (HB.out.cell (bL w _ hx817_0)).trans hx817_0; replace p817 := eq_true p817; replace q817 := eq_true q817
             go_wp2_with (first | ((with_reducible refine gate_builtin (b := .append) (xs := #[.tmp 116, .tmp 122]) rfl ?_); (try (refine gate_guard (by rfl) ?_; dsimp only)); at_builtin; refine Kd.R_append kOp (w0 := w) w.heap.size rfl (.tmp 116) (.tmp 122) 22 41 (.agg #[(.int .i64 0), (.int .i64 0), (.string ⟨#[]⟩)]) 32 rfl Try.underlying22 info41 rfl (by decide) (by omega) u6 x6_1 (⟨3, 0, rdOf ByteArray.empty l0 x7_1⟩ : Op) [.int .i64 3, .int .i64 0, .string (rdOf ByteArray.empty l0 x7_1)] (fun _ => True) (fun _ => False) rfl rfl ?aP (fun _ hk => hk.elim) ?aF ?aO ?aB ?aS ?aL ?_; (case aP => exact kOp_mkM _ _ _ (⟨3, 0, rdOf ByteArray.empty l0 x7_1⟩ : Op)); (case aB => exact yB); (case aF => exact (fun _ _ => trivial)); (case aO => exact (yH HO_6.out)); (case aS => exact yW); (case aL => have := LMc31.out; omega); intro v819 w32 ho hb hg hat; rw [← Ny818.out] at ho; have n0_ := aM (Kd.S_over' (by (with_reducible repeat (first | apply Kd.S_alloc | apply Kd.S_drewN | apply Kd.S_drew)); exact HO_5.out) (Kd.R_typed (yH HO_6.out)) (by decide) hg); have n1_ := aM (hb); have n2_ := aM (ho); clear HO_5; clear HB; clear HO_6; have HO_5 := n0_; have HB := n1_; have HO820 := n2_; clear n0_ n1_ n2_; clear ho hb hg hat))
             repeat (go_quiet (first | ((with_reducible refine gate_builtin (b := .append) (xs := #[.tmp 116, .tmp 122]) rfl ?_); (try (refine gate_guard (by rfl) ?_; dsimp only)); at_builtin; refine Kd.R_append kOp (w0 := w) w.heap.size rfl (.tmp 116) (.tmp 122) 22 41 (.agg #[(.int .i64 0), (.int .i64 0), (.string ⟨#[]⟩)]) 32 rfl Try.underlying22 info41 rfl (by decide) (by omega) u6 x6_1 (⟨3, 0, rdOf ByteArray.empty l0 x7_1⟩ : Op) [.int .i64 3, .int .i64 0, .string (rdOf ByteArray.empty l0 x7_1)] (fun _ => True) (fun _ => False) rfl rfl ?aP (fun _ hk => hk.elim) ?aF ?aO ?aB ?aS ?aL ?_; (case aP => exact kOp_mkM _ _ _ (⟨3, 0, rdOf ByteArray.empty l0 x7_1⟩ : Op)); (case aB => exact yB); (case aF => exact (fun _ _ => trivial)); (case aO => exact (yH HO_6.out)); (case aS => exact yW); (case aL => have := LMc31.out; omega); intro v819 w32 ho hb hg hat; rw [← Ny818.out] at ho; have n0_ := aM (Kd.S_over' (by (with_reducible repeat (first | apply Kd.S_alloc | apply Kd.S_drewN | apply Kd.S_drew)); exact HO_5.out) (Kd.R_typed (yH HO_6.out)) (by decide) hg); have n1_ := aM (hb); have n2_ := aM (ho); clear HO_5; clear HB; clear HO_6; have HO_5 := n0_; have HB := n1_; have HO820 := n2_; clear n0_ n1_ n2_; clear ho hb hg hat)); try go_wp2_with (first | ((with_reducible refine gate_builtin (b := .append) (xs := #[.tmp 116, .tmp 122]) rfl ?_); (try (refine gate_guard (by rfl) ?_; dsimp only)); at_builtin; refine Kd.R_append kOp (w0 := w) w.heap.size rfl (.tmp 116) (.tmp 122) 22 41 (.agg #[(.int .i64 0), (.int .i64 0), (.string ⟨#[]⟩)]) 32 rfl Try.underlying22 info41 rfl (by decide) (by omega) u6 x6_1 (⟨3, 0, rdOf ByteArray.empty l0 x7_1⟩ : Op) [.int .i64 3, .int .i64 0, .string (rdOf ByteArray.empty l0 x7_1)] (fun _ => True) (fun _ => False) rfl rfl ?aP (fun _ hk => hk.elim) ?aF ?aO ?aB ?aS ?aL ?_; (case aP => exact kOp_mkM _ _ _ (⟨3, 0, rdOf ByteArray.empty l0 x7_1⟩ : Op)); (case aB => exact yB); (case aF => exact (fun _ _ => trivial)); (case aO => exact (yH HO_6.out)); (case aS => exact yW); (case aL => have := LMc31.out; omega); intro v819 w32 ho hb hg hat; rw [← Ny818.out] at ho; have n0_ := aM (Kd.S_over' (by (with_reducible repeat (first | apply Kd.S_alloc | apply Kd.S_drewN | apply Kd.S_drew)); exact HO_5.out) (Kd.R_typed (yH HO_6.out)) (by decide) hg); have n1_ := aM (hb); have n2_ := aM (ho); clear HO_5; clear HB; clear HO_6; have HO_5 := n0_; have HB := n1_; have HO820 := n2_; clear n0_ n1_ n2_; clear ho hb hg hat)))
             go_roundg kj7
             case measure => have := HK1.out; have := HJ4.out; have := HJ7.out; omega
             case rel => exact ⟨(y818), (wrap64 (x7_1 + 1)), (x8_1), yE, yE, H', ⟨by have := HK1.out; have := HJ4.out; have := HJ7.out; omega⟩, ⟨by (with_reducible repeat (first | apply Kd.S_alloc | apply Kd.S_drewN | apply Kd.S_drew)); exact HO_5.out⟩, ⟨yH HO820.out⟩, ⟨yB⟩⟩
            ·rw [if_neg c31] at H
             exact absurd H (by simp)
           ·rw [if_neg c30] at H
            exact absurd H (by simp)
          ·rw [if_neg c29] at H
           exact absurd H (by simp)
         ·rw [if_neg c28] at H
          have c28b0 := beq_eq_false_iff_ne.mpr c28; have c28b1 := bne_iff_ne.mpr c28
          by_cases c33 : x7_1 < (l0.length : Int)
          ·rw [if_pos c33] at H
           have c33b0 := decide_eq_true c33; clear c33; obtain ⟨ji34, hji34⟩ : ∃ j_ : Int, (wrap64 (x7_1 + 1)) = j_ := ⟨_, rfl⟩; replace H : (if 0 ≤ (ji34) then (if (ji34) < (t804.length : Int) then (if 0 ≤ x8_1 then (if x8_1 < ((rd_L11 t804 (ji34)).length : Int) then (if 0 ≤ x7_1 then (if x7_1 < (t804.length : Int) then (if 0 ≤ (wrap64 (x8_1 + 1)) then (if (wrap64 (x8_1 + 1)) < ((rd_L11 t804 x7_1).length : Int) then (if (rd (rd_L11 t804 (ji34)) x8_1) ≥ (rd (rd_L11 t804 x7_1) (wrap64 (x8_1 + 1))) then (if x6_1.length < 4398046511104 then (patchworkref8_LcsDiff.l0 kj7 l0 l1 t804 (x6_1 ++ [(⟨3, 0, rdOf ByteArray.empty l0 x7_1⟩ : Op)]) ji34 x8_1) else (none)) else (if x8_1 < (l1.length : Int) then (if x6_1.length < 4398046511104 then (patchworkref8_LcsDiff.l0 kj7 l0 l1 t804 (x6_1 ++ [(⟨4, 0, rdOf ByteArray.empty l1 x8_1⟩ : Op)]) x7_1 (wrap64 (x8_1 + 1))) else (none)) else (none))) else (none)) else (none)) else (none)) else (none)) else (none)) else (none)) else (none)) else (none)) = some r := by first | (rw [hji34] at H; exact H) | (simp only [hji34] at H ⊢; exact H)
           have hji34w : (IntKind.i64.wrap (x7_1 + 1)) = ji34 := (i64_w _).trans hji34
           by_cases c35 : 0 ≤ (ji34)
           ·rw [if_pos c35] at H
            have c35b0 := decide_eq_true c35; clear c35
            by_cases c36 : (ji34) < (t804.length : Int)
            ·rw [if_pos c36] at H
             have c36b0 := decide_eq_true c36; clear c36
             by_cases c37 : 0 ≤ x8_1
             ·rw [if_pos c37] at H
              have c37b0 := decide_eq_true c37; clear c37
              by_cases c38 : x8_1 < ((rd_L11 t804 (ji34)).length : Int)
              ·rw [if_pos c38] at H
               have c38b0 := decide_eq_true c38; clear c38
               by_cases c39 : 0 ≤ x7_1
               ·rw [if_pos c39] at H
                have c39b0 := decide_eq_true c39; clear c39
                by_cases c40 : x7_1 < (t804.length : Int)
                ·rw [if_pos c40] at H
                 have c40b0 := decide_eq_true c40; clear c40; obtain ⟨ji41, hji41⟩ : ∃ j_ : Int, (wrap64 (x8_1 + 1)) = j_ := ⟨_, rfl⟩; replace H : (if 0 ≤ (ji41) then (if (ji41) < ((rd_L11 t804 x7_1).length : Int) then (if (rd (rd_L11 t804 (ji34)) x8_1) ≥ (rd (rd_L11 t804 x7_1) (ji41)) then (if x6_1.length < 4398046511104 then (patchworkref8_LcsDiff.l0 kj7 l0 l1 t804 (x6_1 ++ [(⟨3, 0, rdOf ByteArray.empty l0 x7_1⟩ : Op)]) ji34 x8_1) else (none)) else (if x8_1 < (l1.length : Int) then (if x6_1.length < 4398046511104 then (patchworkref8_LcsDiff.l0 kj7 l0 l1 t804 (x6_1 ++ [(⟨4, 0, rdOf ByteArray.empty l1 x8_1⟩ : Op)]) x7_1 ji41) else (none)) else (none))) else (none)) else (none)) = some r := by first | (rw [hji41] at H; exact H) | (simp only [hji41] at H ⊢; exact H)
                 have hji41w : (IntKind.i64.wrap (x8_1 + 1)) = ji41 := (i64_w _).trans hji41
                 by_cases c42 : 0 ≤ (ji41)
                 ·rw [if_pos c42] at H
                  have c42b0 := decide_eq_true c42; clear c42
                  by_cases c43 : (ji41) < ((rd_L11 t804 x7_1).length : Int)
                  ·rw [if_pos c43] at H
                   have c43b0 := decide_eq_true c43; clear c43
                   by_cases c44 : (rd (rd_L11 t804 (ji34)) x8_1) ≥ (rd (rd_L11 t804 x7_1) (ji41))
                   ·rw [if_pos c44] at H
                    have c44b0 := decide_eq_true c44; clear c44
                    by_cases c45 : x6_1.length < 4398046511104
                    ·rw [if_pos c45] at H
                     have LMc45 := aM c45; clear c45; obtain ⟨y826, hy826⟩ : ∃ y_ : List (Op), y_ = (x6_1 ++ [(⟨3, 0, rdOf ByteArray.empty l0 x7_1⟩ : Op)]) := ⟨_, rfl⟩; replace H : (patchworkref8_LcsDiff.l0 kj7 l0 l1 t804 y826 ji34 x8_1) = some r := yN hy826 H
                     have Ny826 := aM hy826; clear hy826; have H' := aM H; clear H; obtain ⟨Ao46, co46, eo46⟩ := Kd.S_slice HO_5.out; subst eo46; have p821 : 0 ≤ ((ji34) : Int) := yO; have q821 : (ji34) < (t804.length : Int) := yO; obtain ⟨ad821, A821_0, c821_0, e821, hx821_0, hl821_0, hi821_0⟩ := at_L11 (Kd.S_reads' HO_5.out).2.2 (ji34) p821 q821; cases e821; obtain ⟨ce821, hce821, hMe821, hcc821⟩ := Kd.S_get HO_5.out [] (ji34) p821 (by first | exact q821 | exact yO | (have e_ := (Kd.S_reads' HO_5.out).1; omega)); obtain ⟨ve821_0, rfl, ge821_0⟩ := hMe821; have hv821_0 := hcc821 0 _ rfl; rw [Nat.add_zero, show ((Kd.slice 3 (Kd.int .i64))).sz = 1 from rfl, Nat.mul_one] at hv821_0; replace hv821_0 := Option.some.inj (hv821_0.symm.trans hx821_0); rw [hv821_0] at ge821_0; have HL821_0 := aM (show Kd.R (Kd.int .i64) 3 _ _ _ _ (rd_L11 t804 (ji34)) from ge821_0); clear hv821_0 ge821_0; clear hcc821 hce821; have HR821_0 := aM hi821_0; have HC821_0 := aM hl821_0; clear hi821_0 hl821_0; replace p821 := eq_true p821; replace q821 := eq_true q821; have p822 : 0 ≤ (x8_1 : Int) := yO; have q822 : x8_1 < ((rd_L11 t804 (ji34)).length : Int) := yO; obtain ⟨ad822, e822, hx822_0⟩ := Kd.at_int (by repeat (first | (with_reducible exact HR821_0.out) | (with_reducible first | refine Kd.C_alloc ?_ _ | refine Kd.C_drewN ?_ _ | refine Kd.C_drew ?_) | exact HR821_0.out)) x8_1 p822 q822; cases e822; replace p822 := eq_true p822; replace q822 := eq_true q822; have p823 : 0 ≤ (x7_1 : Int) := yO; have q823 : x7_1 < (t804.length : Int) := yO; obtain ⟨ad823, A823_0, c823_0, e823, hx823_0, hl823_0, hi823_0⟩ := at_L11 (Kd.S_reads' HO_5.out).2.2 x7_1 p823 q823; obtain rfl : ad821 = ad823 := (by injection e823); obtain ⟨ce823, hce823, hMe823, hcc823⟩ := Kd.S_get HO_5.out [] x7_1 p823 (by first | exact q823 | exact yO | (have e_ := (Kd.S_reads' HO_5.out).1; omega)); obtain ⟨ve823_0, rfl, ge823_0⟩ := hMe823; have hv823_0 := hcc823 0 _ rfl; rw [Nat.add_zero, show ((Kd.slice 3 (Kd.int .i64))).sz = 1 from rfl, Nat.mul_one] at hv823_0; replace hv823_0 := Option.some.inj (hv823_0.symm.trans hx823_0); rw [hv823_0] at ge823_0; have HL823_0 := aM (show Kd.R (Kd.int .i64) 3 _ _ _ _ (rd_L11 t804 x7_1) from ge823_0); clear hv823_0 ge823_0; clear hcc823 hce823; have HR823_0 := aM hi823_0; have HC823_0 := aM hl823_0; clear hi823_0 hl823_0; replace p823 := eq_true p823; replace q823 := eq_true q823; have p824 : 0 ≤ ((ji41) : Int) := yO; have q824 : (ji41) < ((rd_L11 t804 x7_1).length : Int) := yO; obtain ⟨ad824, e824, hx824_0⟩ := Kd.at_int (by repeat (first | (with_reducible exact HR823_0.out) | (with_reducible first | refine Kd.C_alloc ?_ _ | refine Kd.C_drewN ?_ _ | refine Kd.C_drew ?_) | exact HR823_0.out)) (ji41) p824 q824; cases e824; replace p824 := eq_true p824; replace q824 := eq_true q824; have p825 : 0 ≤ (x7_1 : Int) := yO; have q825 : x7_1 < (l0.length : Int) := yO; obtain ⟨ad825, e825, hx825_0⟩ := Kd.at_string HR0.out x7_1 p825 q825; cases e825; replace hx825_0 := (HB.out.cell (bL w _ hx825_0)).trans hx825_0; replace p825 := eq_true p825; replace q825 := eq_true q825
                     go_wp2_with (first | ((with_reducible refine gate_builtin (b := .append) (xs := #[.tmp 116, .tmp 122]) rfl ?_); (try (refine gate_guard (by rfl) ?_; dsimp only)); at_builtin; refine Kd.R_append kOp (w0 := w) w.heap.size rfl (.tmp 116) (.tmp 122) 22 41 (.agg #[(.int .i64 0), (.int .i64 0), (.string ⟨#[]⟩)]) 32 rfl Try.underlying22 info41 rfl (by decide) (by omega) u6 x6_1 (⟨3, 0, rdOf ByteArray.empty l0 x7_1⟩ : Op) [.int .i64 3, .int .i64 0, .string (rdOf ByteArray.empty l0 x7_1)] (fun _ => True) (fun _ => False) rfl rfl ?aP (fun _ hk => hk.elim) ?aF ?aO ?aB ?aS ?aL ?_; (case aP => exact kOp_mkM _ _ _ (⟨3, 0, rdOf ByteArray.empty l0 x7_1⟩ : Op)); (case aB => exact yB); (case aF => exact (fun _ _ => trivial)); (case aO => exact (yH HO_6.out)); (case aS => exact yW); (case aL => have := LMc45.out; omega); intro v827 w47 ho hb hg hat; rw [← Ny826.out] at ho; have n0_ := aM (Kd.S_over' (by (with_reducible repeat (first | apply Kd.S_alloc | apply Kd.S_drewN | apply Kd.S_drew)); exact HO_5.out) (Kd.R_typed (yH HO_6.out)) (by decide) hg); have n1_ := aM (Kd.R_over' (yH HL821_0.out) (Kd.R_typed (yH HO_6.out)) (by decide) hg); have n2_ := aM (Kd.R_over' (yH HL823_0.out) (Kd.R_typed (yH HO_6.out)) (by decide) hg); have n3_ := aM (hb); have n4_ := aM (ho); clear HO_5; clear HL821_0; clear HL823_0; clear HB; clear HO_6; have HO_5 := n0_; have HL821_0 := n1_; have HL823_0 := n2_; have HB := n3_; have HO828 := n4_; clear n0_ n1_ n2_ n3_ n4_; clear ho hb hg hat))
                     repeat (go_quiet (first | ((with_reducible refine gate_builtin (b := .append) (xs := #[.tmp 116, .tmp 122]) rfl ?_); (try (refine gate_guard (by rfl) ?_; dsimp only)); at_builtin; refine Kd.R_append kOp (w0 := w) w.heap.size rfl (.tmp 116) (.tmp 122) 22 41 (.agg #[(.int .i64 0), (.int .i64 0), (.string ⟨#[]⟩)]) 32 rfl Try.underlying22 info41 rfl (by decide) (by omega) u6 x6_1 (⟨3, 0, rdOf ByteArray.empty l0 x7_1⟩ : Op) [.int .i64 3, .int .i64 0, .string (rdOf ByteArray.empty l0 x7_1)] (fun _ => True) (fun _ => False) rfl rfl ?aP (fun _ hk => hk.elim) ?aF ?aO ?aB ?aS ?aL ?_; (case aP => exact kOp_mkM _ _ _ (⟨3, 0, rdOf ByteArray.empty l0 x7_1⟩ : Op)); (case aB => exact yB); (case aF => exact (fun _ _ => trivial)); (case aO => exact (yH HO_6.out)); (case aS => exact yW); (case aL => have := LMc45.out; omega); intro v827 w47 ho hb hg hat; rw [← Ny826.out] at ho; have n0_ := aM (Kd.S_over' (by (with_reducible repeat (first | apply Kd.S_alloc | apply Kd.S_drewN | apply Kd.S_drew)); exact HO_5.out) (Kd.R_typed (yH HO_6.out)) (by decide) hg); have n1_ := aM (Kd.R_over' (yH HL821_0.out) (Kd.R_typed (yH HO_6.out)) (by decide) hg); have n2_ := aM (Kd.R_over' (yH HL823_0.out) (Kd.R_typed (yH HO_6.out)) (by decide) hg); have n3_ := aM (hb); have n4_ := aM (ho); clear HO_5; clear HL821_0; clear HL823_0; clear HB; clear HO_6; have HO_5 := n0_; have HL821_0 := n1_; have HL823_0 := n2_; have HB := n3_; have HO828 := n4_; clear n0_ n1_ n2_ n3_ n4_; clear ho hb hg hat)); try go_wp2_with (first | ((with_reducible refine gate_builtin (b := .append) (xs := #[.tmp 116, .tmp 122]) rfl ?_); (try (refine gate_guard (by rfl) ?_; dsimp only)); at_builtin; refine Kd.R_append kOp (w0 := w) w.heap.size rfl (.tmp 116) (.tmp 122) 22 41 (.agg #[(.int .i64 0), (.int .i64 0), (.string ⟨#[]⟩)]) 32 rfl Try.underlying22 info41 rfl (by decide) (by omega) u6 x6_1 (⟨3, 0, rdOf ByteArray.empty l0 x7_1⟩ : Op) [.int .i64 3, .int .i64 0, .string (rdOf ByteArray.empty l0 x7_1)] (fun _ => True) (fun _ => False) rfl rfl ?aP (fun _ hk => hk.elim) ?aF ?aO ?aB ?aS ?aL ?_; (case aP => exact kOp_mkM _ _ _ (⟨3, 0, rdOf ByteArray.empty l0 x7_1⟩ : Op)); (case aB => exact yB); (case aF => exact (fun _ _ => trivial)); (case aO => exact (yH HO_6.out)); (case aS => exact yW); (case aL => have := LMc45.out; omega); intro v827 w47 ho hb hg hat; rw [← Ny826.out] at ho; have n0_ := aM (Kd.S_over' (by (with_reducible repeat (first | apply Kd.S_alloc | apply Kd.S_drewN | apply Kd.S_drew)); exact HO_5.out) (Kd.R_typed (yH HO_6.out)) (by decide) hg); have n1_ := aM (Kd.R_over' (yH HL821_0.out) (Kd.R_typed (yH HO_6.out)) (by decide) hg); have n2_ := aM (Kd.R_over' (yH HL823_0.out) (Kd.R_typed (yH HO_6.out)) (by decide) hg); have n3_ := aM (hb); have n4_ := aM (ho); clear HO_5; clear HL821_0; clear HL823_0; clear HB; clear HO_6; have HO_5 := n0_; have HL821_0 := n1_; have HL823_0 := n2_; have HB := n3_; have HO828 := n4_; clear n0_ n1_ n2_ n3_ n4_; clear ho hb hg hat)))
                     go_roundg kj7
                     case measure => have := HK1.out; have := HJ4.out; have := HJ7.out; omega
                     case rel => exact ⟨(y826), (ji34), (x8_1), (by first | rfl | (simp; done) | (simp only [← hji34] <;> (first | rfl | simp)) | (simp [*]; done)), yE, H', ⟨by have := HK1.out; have := HJ4.out; have := HJ7.out; omega⟩, ⟨by (with_reducible repeat (first | apply Kd.S_alloc | apply Kd.S_drewN | apply Kd.S_drew)); exact HO_5.out⟩, ⟨yH HO828.out⟩, ⟨yB⟩⟩
                    ·rw [if_neg c45] at H
                     exact absurd H (by simp)
                   ·rw [if_neg c44] at H
                    have c44b0 := decide_eq_false c44; clear c44
                    by_cases c48 : x8_1 < (l1.length : Int)
                    ·rw [if_pos c48] at H
                     have c48b0 := decide_eq_true c48; clear c48
                     by_cases c49 : x6_1.length < 4398046511104
                     ·rw [if_pos c49] at H
                      have LMc49 := aM c49; clear c49; obtain ⟨y830, hy830⟩ : ∃ y_ : List (Op), y_ = (x6_1 ++ [(⟨4, 0, rdOf ByteArray.empty l1 x8_1⟩ : Op)]) := ⟨_, rfl⟩; replace H : (patchworkref8_LcsDiff.l0 kj7 l0 l1 t804 y830 x7_1 ji41) = some r := yN hy830 H
                      have Ny830 := aM hy830; clear hy830; have H' := aM H; clear H; obtain ⟨Ao50, co50, eo50⟩ := Kd.S_slice HO_5.out; subst eo50; have p821 : 0 ≤ ((ji34) : Int) := yO; have q821 : (ji34) < (t804.length : Int) := yO; obtain ⟨ad821, A821_0, c821_0, e821, hx821_0, hl821_0, hi821_0⟩ := at_L11 (Kd.S_reads' HO_5.out).2.2 (ji34) p821 q821; cases e821; obtain ⟨ce821, hce821, hMe821, hcc821⟩ := Kd.S_get HO_5.out [] (ji34) p821 (by first | exact q821 | exact yO | (have e_ := (Kd.S_reads' HO_5.out).1; omega)); obtain ⟨ve821_0, rfl, ge821_0⟩ := hMe821; have hv821_0 := hcc821 0 _ rfl; rw [Nat.add_zero, show ((Kd.slice 3 (Kd.int .i64))).sz = 1 from rfl, Nat.mul_one] at hv821_0; replace hv821_0 := Option.some.inj (hv821_0.symm.trans hx821_0); rw [hv821_0] at ge821_0; have HL821_0 := aM (show Kd.R (Kd.int .i64) 3 _ _ _ _ (rd_L11 t804 (ji34)) from ge821_0); clear hv821_0 ge821_0; clear hcc821 hce821; have HR821_0 := aM hi821_0; have HC821_0 := aM hl821_0; clear hi821_0 hl821_0; replace p821 := eq_true p821; replace q821 := eq_true q821; have p822 : 0 ≤ (x8_1 : Int) := yO; have q822 : x8_1 < ((rd_L11 t804 (ji34)).length : Int) := yO; obtain ⟨ad822, e822, hx822_0⟩ := Kd.at_int (by repeat (first | (with_reducible exact HR821_0.out) | (with_reducible first | refine Kd.C_alloc ?_ _ | refine Kd.C_drewN ?_ _ | refine Kd.C_drew ?_) | exact HR821_0.out)) x8_1 p822 q822; cases e822; replace p822 := eq_true p822; replace q822 := eq_true q822; have p823 : 0 ≤ (x7_1 : Int) := yO; have q823 : x7_1 < (t804.length : Int) := yO; obtain ⟨ad823, A823_0, c823_0, e823, hx823_0, hl823_0, hi823_0⟩ := at_L11 (Kd.S_reads' HO_5.out).2.2 x7_1 p823 q823; obtain rfl : ad821 = ad823 := (by injection e823); obtain ⟨ce823, hce823, hMe823, hcc823⟩ := Kd.S_get HO_5.out [] x7_1 p823 (by first | exact q823 | exact yO | (have e_ := (Kd.S_reads' HO_5.out).1; omega)); obtain ⟨ve823_0, rfl, ge823_0⟩ := hMe823; have hv823_0 := hcc823 0 _ rfl; rw [Nat.add_zero, show ((Kd.slice 3 (Kd.int .i64))).sz = 1 from rfl, Nat.mul_one] at hv823_0; replace hv823_0 := Option.some.inj (hv823_0.symm.trans hx823_0); rw [hv823_0] at ge823_0; have HL823_0 := aM (show Kd.R (Kd.int .i64) 3 _ _ _ _ (rd_L11 t804 x7_1) from ge823_0); clear hv823_0 ge823_0; clear hcc823 hce823; have HR823_0 := aM hi823_0; have HC823_0 := aM hl823_0; clear hi823_0 hl823_0; replace p823 := eq_true p823; replace q823 := eq_true q823; have p824 : 0 ≤ ((ji41) : Int) := yO; have q824 : (ji41) < ((rd_L11 t804 x7_1).length : Int) := yO; obtain ⟨ad824, e824, hx824_0⟩ := Kd.at_int (by repeat (first | (with_reducible exact HR823_0.out) | (with_reducible first | refine Kd.C_alloc ?_ _ | refine Kd.C_drewN ?_ _ | refine Kd.C_drew ?_) | exact HR823_0.out)) (ji41) p824 q824; cases e824; replace p824 := eq_true p824; replace q824 := eq_true q824; have p829 : 0 ≤ (x8_1 : Int) := yO; have q829 : x8_1 < (l1.length : Int) := yO; obtain ⟨ad829, e829, hx829_0⟩ := Kd.at_string HR1.out x8_1 p829 q829; cases e829; replace hx829_0 := (HB.out.cell (bL w _ hx829_0)).trans hx829_0; replace p829 := eq_true p829; replace q829 := eq_true q829
                      go_wp2_with (first | ((with_reducible refine gate_builtin (b := .append) (xs := #[.tmp 22, .tmp 28]) rfl ?_); (try (refine gate_guard (by rfl) ?_; dsimp only)); at_builtin; refine Kd.R_append kOp (w0 := w) w.heap.size rfl (.tmp 22) (.tmp 28) 22 41 (.agg #[(.int .i64 0), (.int .i64 0), (.string ⟨#[]⟩)]) 32 rfl Try.underlying22 info41 rfl (by decide) (by omega) u6 x6_1 (⟨4, 0, rdOf ByteArray.empty l1 x8_1⟩ : Op) [.int .i64 4, .int .i64 0, .string (rdOf ByteArray.empty l1 x8_1)] (fun _ => True) (fun _ => False) rfl rfl ?aP (fun _ hk => hk.elim) ?aF ?aO ?aB ?aS ?aL ?_; (case aP => exact kOp_mkM _ _ _ (⟨4, 0, rdOf ByteArray.empty l1 x8_1⟩ : Op)); (case aB => exact yB); (case aF => exact (fun _ _ => trivial)); (case aO => exact (yH HO_6.out)); (case aS => exact yW); (case aL => have := LMc49.out; omega); intro v831 w51 ho hb hg hat; rw [← Ny830.out] at ho; have n0_ := aM (Kd.S_over' (by (with_reducible repeat (first | apply Kd.S_alloc | apply Kd.S_drewN | apply Kd.S_drew)); exact HO_5.out) (Kd.R_typed (yH HO_6.out)) (by decide) hg); have n1_ := aM (Kd.R_over' (yH HL821_0.out) (Kd.R_typed (yH HO_6.out)) (by decide) hg); have n2_ := aM (Kd.R_over' (yH HL823_0.out) (Kd.R_typed (yH HO_6.out)) (by decide) hg); have n3_ := aM (hb); have n4_ := aM (ho); clear HO_5; clear HL821_0; clear HL823_0; clear HB; clear HO_6; have HO_5 := n0_; have HL821_0 := n1_; have HL823_0 := n2_; have HB := n3_; have HO832 := n4_; clear n0_ n1_ n2_ n3_ n4_; clear ho hb hg hat))
                      repeat (go_quiet (first | ((with_reducible refine gate_builtin (b := .append) (xs := #[.tmp 22, .tmp 28]) rfl ?_); (try (refine gate_guard (by rfl) ?_; dsimp only)); at_builtin; refine Kd.R_append kOp (w0 := w) w.heap.size rfl (.tmp 22) (.tmp 28) 22 41 (.agg #[(.int .i64 0), (.int .i64 0), (.string ⟨#[]⟩)]) 32 rfl Try.underlying22 info41 rfl (by decide) (by omega) u6 x6_1 (⟨4, 0, rdOf ByteArray.empty l1 x8_1⟩ : Op) [.int .i64 4, .int .i64 0, .string (rdOf ByteArray.empty l1 x8_1)] (fun _ => True) (fun _ => False) rfl rfl ?aP (fun _ hk => hk.elim) ?aF ?aO ?aB ?aS ?aL ?_; (case aP => exact kOp_mkM _ _ _ (⟨4, 0, rdOf ByteArray.empty l1 x8_1⟩ : Op)); (case aB => exact yB); (case aF => exact (fun _ _ => trivial)); (case aO => exact (yH HO_6.out)); (case aS => exact yW); (case aL => have := LMc49.out; omega); intro v831 w51 ho hb hg hat; rw [← Ny830.out] at ho; have n0_ := aM (Kd.S_over' (by (with_reducible repeat (first | apply Kd.S_alloc | apply Kd.S_drewN | apply Kd.S_drew)); exact HO_5.out) (Kd.R_typed (yH HO_6.out)) (by decide) hg); have n1_ := aM (Kd.R_over' (yH HL821_0.out) (Kd.R_typed (yH HO_6.out)) (by decide) hg); have n2_ := aM (Kd.R_over' (yH HL823_0.out) (Kd.R_typed (yH HO_6.out)) (by decide) hg); have n3_ := aM (hb); have n4_ := aM (ho); clear HO_5; clear HL821_0; clear HL823_0; clear HB; clear HO_6; have HO_5 := n0_; have HL821_0 := n1_; have HL823_0 := n2_; have HB := n3_; have HO832 := n4_; clear n0_ n1_ n2_ n3_ n4_; clear ho hb hg hat)); try go_wp2_with (first | ((with_reducible refine gate_builtin (b := .append) (xs := #[.tmp 22, .tmp 28]) rfl ?_); (try (refine gate_guard (by rfl) ?_; dsimp only)); at_builtin; refine Kd.R_append kOp (w0 := w) w.heap.size rfl (.tmp 22) (.tmp 28) 22 41 (.agg #[(.int .i64 0), (.int .i64 0), (.string ⟨#[]⟩)]) 32 rfl Try.underlying22 info41 rfl (by decide) (by omega) u6 x6_1 (⟨4, 0, rdOf ByteArray.empty l1 x8_1⟩ : Op) [.int .i64 4, .int .i64 0, .string (rdOf ByteArray.empty l1 x8_1)] (fun _ => True) (fun _ => False) rfl rfl ?aP (fun _ hk => hk.elim) ?aF ?aO ?aB ?aS ?aL ?_; (case aP => exact kOp_mkM _ _ _ (⟨4, 0, rdOf ByteArray.empty l1 x8_1⟩ : Op)); (case aB => exact yB); (case aF => exact (fun _ _ => trivial)); (case aO => exact (yH HO_6.out)); (case aS => exact yW); (case aL => have := LMc49.out; omega); intro v831 w51 ho hb hg hat; rw [← Ny830.out] at ho; have n0_ := aM (Kd.S_over' (by (with_reducible repeat (first | apply Kd.S_alloc | apply Kd.S_drewN | apply Kd.S_drew)); exact HO_5.out) (Kd.R_typed (yH HO_6.out)) (by decide) hg); have n1_ := aM (Kd.R_over' (yH HL821_0.out) (Kd.R_typed (yH HO_6.out)) (by decide) hg); have n2_ := aM (Kd.R_over' (yH HL823_0.out) (Kd.R_typed (yH HO_6.out)) (by decide) hg); have n3_ := aM (hb); have n4_ := aM (ho); clear HO_5; clear HL821_0; clear HL823_0; clear HB; clear HO_6; have HO_5 := n0_; have HL821_0 := n1_; have HL823_0 := n2_; have HB := n3_; have HO832 := n4_; clear n0_ n1_ n2_ n3_ n4_; clear ho hb hg hat)))
                      go_roundg kj7
                      case measure => have := HK1.out; have := HJ4.out; have := HJ7.out; omega
                      case rel => exact ⟨(y830), (x7_1), (ji41), yE, (by first | rfl | (simp; done) | (simp only [← hji41] <;> (first | rfl | simp)) | (simp [*]; done)), H', ⟨by have := HK1.out; have := HJ4.out; have := HJ7.out; omega⟩, ⟨by (with_reducible repeat (first | apply Kd.S_alloc | apply Kd.S_drewN | apply Kd.S_drew)); exact HO_5.out⟩, ⟨yH HO832.out⟩, ⟨yB⟩⟩
                     ·rw [if_neg c49] at H
                      exact absurd H (by simp)
                    ·rw [if_neg c48] at H
                     exact absurd H (by simp)
                  ·rw [if_neg c43] at H
                   exact absurd H (by simp)
                 ·rw [if_neg c42] at H
                  exact absurd H (by simp)
                ·rw [if_neg c40] at H
                 exact absurd H (by simp)
               ·rw [if_neg c39] at H
                exact absurd H (by simp)
              ·rw [if_neg c38] at H
               exact absurd H (by simp)
             ·rw [if_neg c37] at H
              exact absurd H (by simp)
            ·rw [if_neg c36] at H
             exact absurd H (by simp)
           ·rw [if_neg c35] at H
            exact absurd H (by simp)
          ·rw [if_neg c33] at H
           have c33b0 := decide_eq_false c33; clear c33
           by_cases c52 : 0 ≤ x8_1
           ·rw [if_pos c52] at H
            have c52b0 := decide_eq_true c52; clear c52
            by_cases c53 : x8_1 < (l1.length : Int)
            ·rw [if_pos c53] at H
             have c53b0 := decide_eq_true c53; clear c53
             by_cases c54 : x6_1.length < 4398046511104
             ·rw [if_pos c54] at H
              have LMc54 := aM c54; clear c54; obtain ⟨y834, hy834⟩ : ∃ y_ : List (Op), y_ = (x6_1 ++ [(⟨4, 0, rdOf ByteArray.empty l1 x8_1⟩ : Op)]) := ⟨_, rfl⟩; replace H : (patchworkref8_LcsDiff.l0 kj7 l0 l1 t804 y834 x7_1 (wrap64 (x8_1 + 1))) = some r := yN hy834 H
              have Ny834 := aM hy834; clear hy834; have H' := aM H; clear H; have p833 : 0 ≤ (x8_1 : Int) := yO; have q833 : x8_1 < (l1.length : Int) := yO; obtain ⟨ad833, e833, hx833_0⟩ := Kd.at_string HR1.out x8_1 p833 q833; cases e833; replace hx833_0 := (HB.out.cell (bL w _ hx833_0)).trans hx833_0; replace p833 := eq_true p833; replace q833 := eq_true q833
              go_wp2_with (first | ((with_reducible refine gate_builtin (b := .append) (xs := #[.tmp 22, .tmp 28]) rfl ?_); (try (refine gate_guard (by rfl) ?_; dsimp only)); at_builtin; refine Kd.R_append kOp (w0 := w) w.heap.size rfl (.tmp 22) (.tmp 28) 22 41 (.agg #[(.int .i64 0), (.int .i64 0), (.string ⟨#[]⟩)]) 32 rfl Try.underlying22 info41 rfl (by decide) (by omega) u6 x6_1 (⟨4, 0, rdOf ByteArray.empty l1 x8_1⟩ : Op) [.int .i64 4, .int .i64 0, .string (rdOf ByteArray.empty l1 x8_1)] (fun _ => True) (fun _ => False) rfl rfl ?aP (fun _ hk => hk.elim) ?aF ?aO ?aB ?aS ?aL ?_; (case aP => exact kOp_mkM _ _ _ (⟨4, 0, rdOf ByteArray.empty l1 x8_1⟩ : Op)); (case aB => exact yB); (case aF => exact (fun _ _ => trivial)); (case aO => exact (yH HO_6.out)); (case aS => exact yW); (case aL => have := LMc54.out; omega); intro v835 w55 ho hb hg hat; rw [← Ny834.out] at ho; have n0_ := aM (Kd.S_over' (by (with_reducible repeat (first | apply Kd.S_alloc | apply Kd.S_drewN | apply Kd.S_drew)); exact HO_5.out) (Kd.R_typed (yH HO_6.out)) (by decide) hg); have n1_ := aM (hb); have n2_ := aM (ho); clear HO_5; clear HB; clear HO_6; have HO_5 := n0_; have HB := n1_; have HO836 := n2_; clear n0_ n1_ n2_; clear ho hb hg hat))
              repeat (go_quiet (first | ((with_reducible refine gate_builtin (b := .append) (xs := #[.tmp 22, .tmp 28]) rfl ?_); (try (refine gate_guard (by rfl) ?_; dsimp only)); at_builtin; refine Kd.R_append kOp (w0 := w) w.heap.size rfl (.tmp 22) (.tmp 28) 22 41 (.agg #[(.int .i64 0), (.int .i64 0), (.string ⟨#[]⟩)]) 32 rfl Try.underlying22 info41 rfl (by decide) (by omega) u6 x6_1 (⟨4, 0, rdOf ByteArray.empty l1 x8_1⟩ : Op) [.int .i64 4, .int .i64 0, .string (rdOf ByteArray.empty l1 x8_1)] (fun _ => True) (fun _ => False) rfl rfl ?aP (fun _ hk => hk.elim) ?aF ?aO ?aB ?aS ?aL ?_; (case aP => exact kOp_mkM _ _ _ (⟨4, 0, rdOf ByteArray.empty l1 x8_1⟩ : Op)); (case aB => exact yB); (case aF => exact (fun _ _ => trivial)); (case aO => exact (yH HO_6.out)); (case aS => exact yW); (case aL => have := LMc54.out; omega); intro v835 w55 ho hb hg hat; rw [← Ny834.out] at ho; have n0_ := aM (Kd.S_over' (by (with_reducible repeat (first | apply Kd.S_alloc | apply Kd.S_drewN | apply Kd.S_drew)); exact HO_5.out) (Kd.R_typed (yH HO_6.out)) (by decide) hg); have n1_ := aM (hb); have n2_ := aM (ho); clear HO_5; clear HB; clear HO_6; have HO_5 := n0_; have HB := n1_; have HO836 := n2_; clear n0_ n1_ n2_; clear ho hb hg hat)); try go_wp2_with (first | ((with_reducible refine gate_builtin (b := .append) (xs := #[.tmp 22, .tmp 28]) rfl ?_); (try (refine gate_guard (by rfl) ?_; dsimp only)); at_builtin; refine Kd.R_append kOp (w0 := w) w.heap.size rfl (.tmp 22) (.tmp 28) 22 41 (.agg #[(.int .i64 0), (.int .i64 0), (.string ⟨#[]⟩)]) 32 rfl Try.underlying22 info41 rfl (by decide) (by omega) u6 x6_1 (⟨4, 0, rdOf ByteArray.empty l1 x8_1⟩ : Op) [.int .i64 4, .int .i64 0, .string (rdOf ByteArray.empty l1 x8_1)] (fun _ => True) (fun _ => False) rfl rfl ?aP (fun _ hk => hk.elim) ?aF ?aO ?aB ?aS ?aL ?_; (case aP => exact kOp_mkM _ _ _ (⟨4, 0, rdOf ByteArray.empty l1 x8_1⟩ : Op)); (case aB => exact yB); (case aF => exact (fun _ _ => trivial)); (case aO => exact (yH HO_6.out)); (case aS => exact yW); (case aL => have := LMc54.out; omega); intro v835 w55 ho hb hg hat; rw [← Ny834.out] at ho; have n0_ := aM (Kd.S_over' (by (with_reducible repeat (first | apply Kd.S_alloc | apply Kd.S_drewN | apply Kd.S_drew)); exact HO_5.out) (Kd.R_typed (yH HO_6.out)) (by decide) hg); have n1_ := aM (hb); have n2_ := aM (ho); clear HO_5; clear HB; clear HO_6; have HO_5 := n0_; have HB := n1_; have HO836 := n2_; clear n0_ n1_ n2_; clear ho hb hg hat)))
              go_roundg kj7
              case measure => have := HK1.out; have := HJ4.out; have := HJ7.out; omega
              case rel => exact ⟨(y834), (x7_1), (wrap64 (x8_1 + 1)), yE, yE, H', ⟨by have := HK1.out; have := HJ4.out; have := HJ7.out; omega⟩, ⟨by (with_reducible repeat (first | apply Kd.S_alloc | apply Kd.S_drewN | apply Kd.S_drew)); exact HO_5.out⟩, ⟨yH HO836.out⟩, ⟨yB⟩⟩
             ·rw [if_neg c54] at H
              exact absurd H (by simp)
            ·rw [if_neg c53] at H
             exact absurd H (by simp)
           ·rw [if_neg c52] at H
            exact absurd H (by simp)
     ·replace c7 := Bool.eq_false_iff.mpr c7
      subst c7; replace H := iF H; obtain rfl := Option.some.inj H
      go_wp2
      repeat (go_quiet (fail); try go_wp2)
      go_ret
      exact ⟨_, by first | rfl | (simp [errW_none, errW_some] <;> rfl) | (simp [*, errW_none, errW_some] <;> rfl), by (with_reducible repeat (first | apply Kd.R_alloc | apply Kd.R_drewN | apply Kd.R_drew)); exact HO_6.out, yB⟩
set_option maxHeartbeats 8000000 in
set_option maxRecDepth 100000 in
theorem patchworkref8_Tidy.calls (k : Nat) (A0 : Option Addr) (c0 : Nat) (l0 : List (Op)) (r : List (Op)) (w : World) (hr0 : Kd.C kOp w A0 l0.length l0) (hc0 : l0.length ≤ c0) (h : patchworkref8_Tidy.f k l0 = some r) :
  Calls Try.prog 53 #[.slice A0 l0.length c0] w fun e w' => ∃ v0_ : Value, e = .returned (v0_) ∧ Kd.R kOp 41 w' w.heap.size (fun _ => True) v0_ r ∧ Below w.heap.size w w' := by
 have hu41 := Try.underlying41
 have HR0 := aM hr0
 have HC0 := aM hc0
 clear hr0 hc0
 have HB := aM (Below.refl w.heap.size w)
 have H : ((patchworkref8_Right.f k l0).bind fun t837 => (if t837 = true then (patchworkref8_Tidy.l0 k l0 ([] : List (Op)) ([] : List ByteArray) ([] : List ByteArray) 0) else (some ([] : List (Op))))) = some r := h
 clear h
 obtain ⟨t837, A2, H⟩ := oB H
 by_cases c3 : t837 = true
 ·subst c3
  have H' := aM (iT H); clear H
  go_enter Try.func53, Try.ntmps53
  go_wp2_with (first | ((with_reducible refine gate_callee (f := 32) rfl ?_); refine goesL_ (some 8) rfl rfl Try.func32 yK rfl #[.slice A0 l0.length c0] rfl yG ?_; (with_reducible refine (patchworkref8_Right.calls k _ _ l0 true _ (yC HR0.out) HC0.out A2.out).mono ?_); rintro e w4 ⟨rfl, hb⟩; refine ⟨_, rfl, ?_⟩; replace HB := aM (below_step yB hb); clear hb))
  go_loopg [3, 4, 5, 6] k (fun kq v3 v4 v5 v6 w' => ∃ (x3_1 : List (Op)) (x4_1 : List ByteArray) (x5_1 : List ByteArray) (x6_1 : Int), v6 = .int .i64 x6_1 ∧ Aside0 (patchworkref8_Tidy.l0 kq l0 x3_1 x4_1 x5_1 x6_1 = some r) ∧ Aside0 (kq ≤ k) ∧ Aside0 (Kd.R kOp 41 w' w.heap.size (fun _ => True) v3 x3_1) ∧ Aside0 (Kd.R Kd.string 9 w' w.heap.size (fun k_ => some k_ ≠ (v5 : Value).ownBlock) v4 x4_1) ∧ Aside0 (Kd.R Kd.string 9 w' w.heap.size (fun k_ => some k_ ≠ (v4 : Value).ownBlock) v5 x5_1) ∧ Aside0 (Below w.heap.size w w'))
  case atStart => exact ⟨(([] : List (Op))), (([] : List ByteArray)), (([] : List ByteArray)), (0), yE, H', ⟨Nat.le_refl _⟩, ⟨by first | exact Kd.R_nil _ _ _ _ _ | exact Kd.N_nil _ _ _ _ _ | exact Kd.V_nil _ _ _ _ _ | exact Kd.Q_nil _ _ _ _ _ | exact Kd.S_nil _ _ _ _ _⟩, ⟨by first | exact Kd.R_nil _ _ _ _ _ | exact Kd.N_nil _ _ _ _ _ | exact Kd.V_nil _ _ _ _ _ | exact Kd.Q_nil _ _ _ _ _ | exact Kd.S_nil _ _ _ _ _⟩, ⟨by first | exact Kd.R_nil _ _ _ _ _ | exact Kd.N_nil _ _ _ _ _ | exact Kd.V_nil _ _ _ _ _ | exact Kd.Q_nil _ _ _ _ _ | exact Kd.S_nil _ _ _ _ _⟩, ⟨yB⟩⟩
  case round =>
   clear H'; (try clear p2); (try clear c3); obtain ⟨x3_1, x4_1, x5_1, x6_1, rfl, HA, HK1, HO_3, HO_4, HO_5, HB⟩ := hrel; cases gk with
   | zero => exact absurd HA.out (by simp [patchworkref8_Tidy.l0])
   | succ k1 =>
    have H := HA.out; clear HA; simp only [patchworkref8_Tidy.l0] at H
    by_cases c5 : x6_1 ≤ (l0.length : Int)
    ·rw [if_pos c5] at H
     have c5b0 := decide_eq_true c5; clear c5; have HC6 := aM H; clear H
     go_upto_region 8 with (fail)
     go_cut [27] (fun v27 wc => ∃ (kq : Nat) (x27_5 : Bool), v27 = .bool x27_5 ∧ Aside0 (patchworkref8_Tidy.j1 kq l0 x3_1 x4_1 x5_1 x6_1 x27_5 = some r) ∧ Aside0 (kq ≤ k1) ∧ Aside0 (Kd.R kOp 41 wc w.heap.size (fun _ => True) u3 x3_1) ∧ Aside0 (Kd.R Kd.string 9 wc w.heap.size (fun k_ => some k_ ≠ (u5 : Value).ownBlock) u4 x4_1) ∧ Aside0 (Kd.R Kd.string 9 wc w.heap.size (fun k_ => some k_ ≠ (u4 : Value).ownBlock) u5 x5_1) ∧ Aside0 (Below w.heap.size w wc))
     case first =>
      have H := HC6.out; clear HC6
      by_cases c7 : x6_1 = (l0.length : Int)
      ·rw [if_pos c7] at H
       have c7b0 := beq_iff_eq.mpr c7; have c7b1 := bne_eq_false_iff_eq.mpr c7; clear c7
       (first | rw [c7b0] | (simp only [i64_w, i32_w]; rw [c7b0]) | skip)
       have H' := aM H; clear H
       go_wp2
       go_meet
       case rel => exact ⟨_, (true), yE, H', ⟨by have := HK1.out; first | omega | exact Nat.le_refl _⟩, ⟨yH HO_3.out⟩, ⟨yH HO_4.out⟩, ⟨yH HO_5.out⟩, ⟨yB⟩⟩
      ·rw [if_neg c7] at H
       have c7b0 := beq_eq_false_iff_ne.mpr c7; have c7b1 := bne_iff_ne.mpr c7
       (first | rw [c7b0] | (simp only [i64_w, i32_w]; rw [c7b0]) | skip)
       by_cases c8 : 0 ≤ x6_1
       ·rw [if_pos c8] at H
        have c8b0 := decide_eq_true c8; clear c8
        by_cases c9 : x6_1 < (l0.length : Int)
        ·rw [if_pos c9] at H
         have c9b0 := decide_eq_true c9; clear c9; have H' := aM H; clear H; have p841 : 0 ≤ (x6_1 : Int) := yO; have q841 : x6_1 < (l0.length : Int) := yO; obtain ⟨ad841, e841, hx841_0, hx841_1, hx841_2⟩ := at_OpB HB.out HR0.out x6_1 p841 q841; cases e841; replace p841 := eq_true p841; replace q841 := eq_true q841
         go_wp2
         go_meet
         case rel => exact ⟨_, ((((rd_Op l0 x6_1).f0) == 1)), yE, H', ⟨by have := HK1.out; first | omega | exact Nat.le_refl _⟩, ⟨yH HO_3.out⟩, ⟨yH HO_4.out⟩, ⟨yH HO_5.out⟩, ⟨yB⟩⟩
        ·rw [if_neg c9] at H
         exact absurd H (by simp)
       ·rw [if_neg c8] at H
        exact absurd H (by simp)
     case rest =>
      clear HC6; (try clear p2); (try clear c3); (try clear c5); (try clear c5b0); (try clear c7); (try clear c7b0); (try clear c7b1); (try clear c8); (try clear c8b0); (try clear p8); (try clear q8); (try clear hx8); (try clear c9); (try clear c9b0); (try clear hx841_0); (try clear hx841_1); (try clear hx841_2); (try clear p2); (try clear p841); (try clear q841); obtain ⟨kq, x27_5, rfl, HA, HJ5, HO_3, HO_4, HO_5, HB⟩ := hcut; cases kq with
      | zero => exact absurd HA.out (by simp [patchworkref8_Tidy.j1])
      | succ kj5 =>
       have H := HA.out; clear HA; simp only [patchworkref8_Tidy.j1] at H
       by_cases c10 : x27_5 = true
       ·subst c10
        replace H := iT H; obtain ⟨t842, A11, H⟩ := oB H
        by_cases c12 : x3_1.length + t842.length < 4398046511104
        ·rw [if_pos c12] at H
         have LMc12 := aM c12; clear c12; obtain ⟨y845, Ny845, H⟩ := oS H
         by_cases c13 : x6_1 < (l0.length : Int)
         ·rw [if_pos c13] at H
          have c13b0 := decide_eq_true c13; clear c13
          by_cases c14 : 0 ≤ x6_1
          ·rw [if_pos c14] at H
           have c14b0 := decide_eq_true c14; clear c14
           by_cases c15 : y845.length < 4398046511104
           ·rw [if_pos c15] at H
            have LMc15 := aM c15; clear c15; obtain ⟨y849, hy849⟩ : ∃ y_ : List (Op), y_ = (y845 ++ [(⟨(rd_Op l0 x6_1).f0, (rd_Op l0 x6_1).f1, (rd_Op l0 x6_1).f2⟩ : Op)]) := ⟨_, rfl⟩; replace H : (patchworkref8_Tidy.l0 kj5 l0 y849 ([] : List ByteArray) ([] : List ByteArray) (wrap64 (x6_1 + 1))) = some r := yN hy849 H
            have Ny849 := aM hy849; clear hy849; have H' := aM H; clear H; obtain ⟨Ao16, co16, eo16⟩ := Kd.R_slice HO_4.out; subst eo16; obtain ⟨Ao17, co17, eo17⟩ := Kd.R_slice HO_5.out; subst eo17
            go_wp2_with (first | ((with_reducible refine gate_callee (f := 76) rfl ?_); refine goesL_ (some 31) rfl rfl Try.func76 yK rfl #[.slice Ao16 x4_1.length co16, .slice Ao17 x5_1.length co17] rfl yG ?_; (with_reducible refine (patchworkref8_LcsDiff.calls kj5 _ _ x4_1 _ _ x5_1 t842 _ (yC (Kd.R_reads' HO_4.out).2.2) ((Kd.R_reads' HO_4.out).2.1) (yC (Kd.R_reads' HO_5.out).2.2) ((Kd.R_reads' HO_5.out).2.1) A11.out).mono ?_); rintro e w18 ⟨v843, rfl, ho0, hb⟩; refine ⟨_, rfl, ?_⟩; replace HO_4 := aM (Kd.R_below (yH HO_4.out) hb); replace HO_5 := aM (Kd.R_below (yH HO_5.out) hb); have HO844 := aM (Kd.R_lower (Kd.R_new' ho0 (Kd.R_lt (yH HO_3.out))) yW); replace HO_3 := aM (Kd.R_elder' (yH HO_3.out) (Kd.R_base ho0) hb); replace HB := aM (below_step yB hb); clear hb ho0; obtain ⟨Ao20, co20, eo20⟩ := Kd.R_slice HO844.out; subst eo20) | ((with_reducible refine gate_builtin (b := .append) (xs := #[.tmp 28, .tmp 31]) rfl ?_); at_builtin; refine Kd.R_append_rows kOp (w0 := w) w.heap.size rfl (.tmp 28) (.tmp 31) 22 41 (.agg #[(.int .i64 0), (.int .i64 0), (.string ⟨#[]⟩)]) 32 rfl Try.underlying22 info41 rfl (by decide) (by omega) u3 x3_1 t842 _ _ _ (fun k_ => some k_ ≠ (.slice Ao20 t842.length co20 : Value).ownBlock) (fun _ => False) rfl rfl ?aO ?aR (fun _ _ h => h) (fun _ h => h.elim) ?aF ?aB ?aS ?aL ?_; (case aR => repeat (first | exact (Kd.R_reads' HO844.out).2.2 | (with_reducible first | refine Kd.C_alloc ?_ _ | refine Kd.C_drewN ?_ _ | refine Kd.C_drew ?_))); (case aB => exact yB); (case aF => exact (fun k_ hk => Kd.fresh' (Kd.R_lt (yH HO844.out)) k_ hk)); (case aO => exact (by (with_reducible repeat (first | apply Kd.R_alloc | apply Kd.R_drewN | apply Kd.R_drew)); exact Kd.R_mono HO_3.out (fun _ hk => hk.2))); (case aS => exact yW); (case aL => have := LMc12.out; omega); intro v846 w19 ho hb hg hat; rw [← Ny845.out] at ho; have n0_ := aM (Kd.R_over' (yH HO_4.out) (Kd.R_typed (yH HO_3.out)) (by decide) hg); have n1_ := aM (Kd.R_over' (yH HO_5.out) (Kd.R_typed (yH HO_3.out)) (by decide) hg); have n2_ := aM (Kd.R_after (ok := (fun _ => True)) (yH HO844.out) hg hat); have n3_ := aM (hb); have n4_ := aM (ho); clear HO_4; clear HO_5; clear HO844; clear HB; clear HO_3; have HO_4 := n0_; have HO_5 := n1_; have HO844 := n2_; have HB := n3_; have HO847 := n4_; clear n0_ n1_ n2_ n3_ n4_; clear ho hb hg hat; have p848 : 0 ≤ (x6_1 : Int) := yO; have q848 : x6_1 < (l0.length : Int) := yO; obtain ⟨ad848, e848, hx848_0, hx848_1, hx848_2⟩ := at_OpB HB.out HR0.out x6_1 p848 q848; cases e848; replace p848 := eq_true p848; replace q848 := eq_true q848) | ((with_reducible refine gate_builtin (b := .append) (xs := #[.tmp 37, .tmp 42]) rfl ?_); at_builtin; refine Kd.R_append kOp (w0 := w) w.heap.size rfl (.tmp 37) (.tmp 42) 22 41 (.agg #[(.int .i64 0), (.int .i64 0), (.string ⟨#[]⟩)]) 32 rfl Try.underlying22 info41 rfl (by decide) (by omega) v846 y845 (⟨(rd_Op l0 x6_1).f0, (rd_Op l0 x6_1).f1, (rd_Op l0 x6_1).f2⟩ : Op) [.int .i64 ((rd_Op l0 x6_1).f0), .int .i64 ((rd_Op l0 x6_1).f1), .string ((rd_Op l0 x6_1).f2)] (fun k_ => some k_ ≠ (.slice Ao20 t842.length co20 : Value).ownBlock) (fun _ => False) rfl rfl ?aP (fun _ hk => hk.elim) ?aF ?aO ?aB ?aS ?aL ?_; (case aP => exact kOp_mkM _ _ _ (⟨(rd_Op l0 x6_1).f0, (rd_Op l0 x6_1).f1, (rd_Op l0 x6_1).f2⟩ : Op)); (case aB => exact yB); (case aF => exact (fun k_ hk => Kd.fresh' (Kd.R_lt (yH HO844.out)) k_ hk)); (case aO => exact (yH HO847.out)); (case aS => exact yW); (case aL => have := LMc15.out; omega); intro v850 w21 ho hb hg hat; rw [← Ny849.out] at ho; have n0_ := aM (Kd.R_over' (yH HO_4.out) (Kd.R_typed (yH HO847.out)) (by decide) hg); have n1_ := aM (Kd.R_over' (yH HO_5.out) (Kd.R_typed (yH HO847.out)) (by decide) hg); have n2_ := aM (Kd.R_after (ok := (fun _ => True)) (yH HO844.out) hg hat); have n3_ := aM (hb); have n4_ := aM (ho); clear HO_4; clear HO_5; clear HO844; clear HB; clear HO847; have HO_4 := n0_; have HO_5 := n1_; have HO844 := n2_; have HB := n3_; have HO851 := n4_; clear n0_ n1_ n2_ n3_ n4_; clear ho hb hg hat))
            go_roundg kj5
            case measure => have := HK1.out; have := HJ5.out; omega
            case rel => exact ⟨(y849), (([] : List ByteArray)), (([] : List ByteArray)), (wrap64 (x6_1 + 1)), yE, H', ⟨by have := HK1.out; have := HJ5.out; omega⟩, ⟨by (with_reducible repeat (first | apply Kd.R_alloc | apply Kd.R_drewN | apply Kd.R_drew)); exact Kd.R_mono HO851.out (fun _ hk => trivial)⟩, ⟨by first | exact Kd.R_nil _ _ _ _ _ | exact Kd.N_nil _ _ _ _ _ | exact Kd.V_nil _ _ _ _ _ | exact Kd.Q_nil _ _ _ _ _ | exact Kd.S_nil _ _ _ _ _⟩, ⟨by first | exact Kd.R_nil _ _ _ _ _ | exact Kd.N_nil _ _ _ _ _ | exact Kd.V_nil _ _ _ _ _ | exact Kd.Q_nil _ _ _ _ _ | exact Kd.S_nil _ _ _ _ _⟩, ⟨yB⟩⟩
           ·rw [if_neg c15] at H
            exact absurd H (by simp)
          ·rw [if_neg c14] at H
           exact absurd H (by simp)
         ·rw [if_neg c13] at H
          have c13b0 := decide_eq_false c13; clear c13; have H' := aM H; clear H; obtain ⟨Ao22, co22, eo22⟩ := Kd.R_slice HO_4.out; subst eo22; obtain ⟨Ao23, co23, eo23⟩ := Kd.R_slice HO_5.out; subst eo23
          go_wp2_with (first | ((with_reducible refine gate_callee (f := 76) rfl ?_); refine goesL_ (some 31) rfl rfl Try.func76 yK rfl #[.slice Ao22 x4_1.length co22, .slice Ao23 x5_1.length co23] rfl yG ?_; (with_reducible refine (patchworkref8_LcsDiff.calls kj5 _ _ x4_1 _ _ x5_1 t842 _ (yC (Kd.R_reads' HO_4.out).2.2) ((Kd.R_reads' HO_4.out).2.1) (yC (Kd.R_reads' HO_5.out).2.2) ((Kd.R_reads' HO_5.out).2.1) A11.out).mono ?_); rintro e w24 ⟨v843, rfl, ho0, hb⟩; refine ⟨_, rfl, ?_⟩; replace HO_4 := aM (Kd.R_below (yH HO_4.out) hb); replace HO_5 := aM (Kd.R_below (yH HO_5.out) hb); have HO844 := aM (Kd.R_lower (Kd.R_new' ho0 (Kd.R_lt (yH HO_3.out))) yW); replace HO_3 := aM (Kd.R_elder' (yH HO_3.out) (Kd.R_base ho0) hb); replace HB := aM (below_step yB hb); clear hb ho0; obtain ⟨Ao26, co26, eo26⟩ := Kd.R_slice HO844.out; subst eo26) | ((with_reducible refine gate_builtin (b := .append) (xs := #[.tmp 28, .tmp 31]) rfl ?_); at_builtin; refine Kd.R_append_rows kOp (w0 := w) w.heap.size rfl (.tmp 28) (.tmp 31) 22 41 (.agg #[(.int .i64 0), (.int .i64 0), (.string ⟨#[]⟩)]) 32 rfl Try.underlying22 info41 rfl (by decide) (by omega) u3 x3_1 t842 _ _ _ (fun k_ => some k_ ≠ (.slice Ao26 t842.length co26 : Value).ownBlock) (fun _ => False) rfl rfl ?aO ?aR (fun _ _ h => h) (fun _ h => h.elim) ?aF ?aB ?aS ?aL ?_; (case aR => repeat (first | exact (Kd.R_reads' HO844.out).2.2 | (with_reducible first | refine Kd.C_alloc ?_ _ | refine Kd.C_drewN ?_ _ | refine Kd.C_drew ?_))); (case aB => exact yB); (case aF => exact (fun k_ hk => Kd.fresh' (Kd.R_lt (yH HO844.out)) k_ hk)); (case aO => exact (by (with_reducible repeat (first | apply Kd.R_alloc | apply Kd.R_drewN | apply Kd.R_drew)); exact Kd.R_mono HO_3.out (fun _ hk => hk.2))); (case aS => exact yW); (case aL => have := LMc12.out; omega); intro v846 w25 ho hb hg hat; rw [← Ny845.out] at ho; have n0_ := aM (Kd.R_over' (yH HO_4.out) (Kd.R_typed (yH HO_3.out)) (by decide) hg); have n1_ := aM (Kd.R_over' (yH HO_5.out) (Kd.R_typed (yH HO_3.out)) (by decide) hg); have n2_ := aM (Kd.R_after (ok := (fun _ => True)) (yH HO844.out) hg hat); have n3_ := aM (hb); have n4_ := aM (ho); clear HO_4; clear HO_5; clear HO844; clear HB; clear HO_3; have HO_4 := n0_; have HO_5 := n1_; have HO844 := n2_; have HB := n3_; have HO847 := n4_; clear n0_ n1_ n2_ n3_ n4_; clear ho hb hg hat))
          go_roundg kj5
          case measure => have := HK1.out; have := HJ5.out; omega
          case rel => exact ⟨(y845), (([] : List ByteArray)), (([] : List ByteArray)), (wrap64 (x6_1 + 1)), yE, H', ⟨by have := HK1.out; have := HJ5.out; omega⟩, ⟨by (with_reducible repeat (first | apply Kd.R_alloc | apply Kd.R_drewN | apply Kd.R_drew)); exact Kd.R_mono HO847.out (fun _ hk => trivial)⟩, ⟨by first | exact Kd.R_nil _ _ _ _ _ | exact Kd.N_nil _ _ _ _ _ | exact Kd.V_nil _ _ _ _ _ | exact Kd.Q_nil _ _ _ _ _ | exact Kd.S_nil _ _ _ _ _⟩, ⟨by first | exact Kd.R_nil _ _ _ _ _ | exact Kd.N_nil _ _ _ _ _ | exact Kd.V_nil _ _ _ _ _ | exact Kd.Q_nil _ _ _ _ _ | exact Kd.S_nil _ _ _ _ _⟩, ⟨yB⟩⟩
        ·rw [if_neg c12] at H
         exact absurd H (by simp)
       ·replace c10 := Bool.eq_false_iff.mpr c10
        subst c10; replace H := iF H
        by_cases c27 : 0 ≤ x6_1
        ·rw [if_pos c27] at H
         have c27b0 := decide_eq_true c27; clear c27
         by_cases c28 : x6_1 < (l0.length : Int)
         ·rw [if_pos c28] at H
          have c28b0 := decide_eq_true c28; clear c28
          by_cases c29 : ((rd_Op l0 x6_1).f0) = 4
          ·rw [if_pos c29] at H
           have c29b0 := beq_iff_eq.mpr c29; have c29b1 := bne_eq_false_iff_eq.mpr c29; clear c29
           by_cases c30 : ((rd_Op l0 x6_1).f0) = 3
           ·rw [if_pos c30] at H
            have c30b0 := beq_iff_eq.mpr c30; have c30b1 := bne_eq_false_iff_eq.mpr c30; clear c30; have H' := aM H; clear H; have p852 : 0 ≤ (x6_1 : Int) := yO; have q852 : x6_1 < (l0.length : Int) := yO; obtain ⟨ad852, e852, hx852_0, hx852_1, hx852_2⟩ := at_OpB HB.out HR0.out x6_1 p852 q852; cases e852; replace p852 := eq_true p852; replace q852 := eq_true q852; have p853 : 0 ≤ (x6_1 : Int) := yO; have q853 : x6_1 < (l0.length : Int) := yO; obtain ⟨ad853, e853, hx853_0, hx853_1, hx853_2⟩ := at_Op HR0.out x6_1 p853 q853; obtain rfl : ad852 = ad853 := (by injection e853); replace hx853_0 := (HB.out.cell (bL w _ hx853_0)).trans hx853_0; replace hx853_1 := (HB.out.cell (bL w _ hx853_1)).trans hx853_1; replace hx853_2 := (HB.out.cell (bL w _ hx853_2)).trans hx853_2; replace p853 := eq_true p853; replace q853 := eq_true q853
            go_wp2
            go_roundg kj5
            case measure => have := HK1.out; have := HJ5.out; omega
            case rel => exact ⟨(x3_1), (x4_1), (x5_1), (wrap64 (x6_1 + 1)), yE, H', ⟨by have := HK1.out; have := HJ5.out; omega⟩, ⟨yH HO_3.out⟩, ⟨yH HO_4.out⟩, ⟨yH HO_5.out⟩, ⟨yB⟩⟩
           ·rw [if_neg c30] at H
            have c30b0 := beq_eq_false_iff_ne.mpr c30; have c30b1 := bne_iff_ne.mpr c30
            by_cases c31 : x5_1.length < 8796093022208
            ·rw [if_pos c31] at H
             have LMc31 := aM c31; clear c31; obtain ⟨y855, hy855⟩ : ∃ y_ : List ByteArray, y_ = (x5_1 ++ [(rd_Op l0 x6_1).f2]) := ⟨_, rfl⟩; replace H : (patchworkref8_Tidy.l0 kj5 l0 x3_1 x4_1 y855 (wrap64 (x6_1 + 1))) = some r := yN hy855 H
             have Ny855 := aM hy855; clear hy855; have H' := aM H; clear H; have p852 : 0 ≤ (x6_1 : Int) := yO; have q852 : x6_1 < (l0.length : Int) := yO; obtain ⟨ad852, e852, hx852_0, hx852_1, hx852_2⟩ := at_OpB HB.out HR0.out x6_1 p852 q852; cases e852; replace p852 := eq_true p852; replace q852 := eq_true q852; have p853 : 0 ≤ (x6_1 : Int) := yO; have q853 : x6_1 < (l0.length : Int) := yO; obtain ⟨ad853, e853, hx853_0, hx853_1, hx853_2⟩ := at_Op HR0.out x6_1 p853 q853; obtain rfl : ad852 = ad853 := (by injection e853); replace hx853_0 := (HB.out.cell (bL w _ hx853_0)).trans hx853_0; replace hx853_1 := (HB.out.cell (bL w _ hx853_1)).trans hx853_1; replace hx853_2 := (HB.out.cell (bL w _ hx853_2)).trans hx853_2; replace p853 := eq_true p853; replace q853 := eq_true q853; have p854 : 0 ≤ (x6_1 : Int) := yO; have q854 : x6_1 < (l0.length : Int) := yO; obtain ⟨ad854, e854, hx854_0, hx854_1, hx854_2⟩ := at_Op HR0.out x6_1 p854 q854; obtain rfl : ad852 = ad854 := (by injection e854); replace hx854_0 := (HB.out.cell (bL w _ hx854_0)).trans hx854_0; replace hx854_1 := (HB.out.cell (bL w _ hx854_1)).trans hx854_1; replace hx854_2 := (HB.out.cell (bL w _ hx854_2)).trans hx854_2; replace p854 := eq_true p854; replace q854 := eq_true q854
             go_wp2_with (first | ((with_reducible refine gate_builtin (b := .append) (xs := #[.tmp 64, .tmp 70]) rfl ?_); at_builtin; refine Kd.R_append Kd.string (w0 := w) w.heap.size rfl (.tmp 64) (.tmp 70) 32 9 (.string ⟨#[]⟩) 16 rfl Try.underlying32 info9 rfl (by decide) (by omega) u5 x5_1 ((rd_Op l0 x6_1).f2) [.string ((rd_Op l0 x6_1).f2)] (fun k_ => some k_ ≠ (u4 : Value).ownBlock) (fun _ => False) rfl rfl ?aP (fun _ hk => hk.elim) ?aF ?aO ?aB ?aS ?aL ?_; (case aP => exact rfl); (case aB => exact yB); (case aF => exact (fun k_ hk => Kd.fresh' (Kd.R_lt (yH HO_4.out)) k_ hk)); (case aO => exact (yH HO_5.out)); (case aS => exact yW); (case aL => have := LMc31.out; omega); intro v856 w32 ho hb hg hat; rw [← Ny855.out] at ho; have n0_ := aM (Kd.R_over' (yH HO_3.out) (Kd.R_typed (yH HO_5.out)) (by decide) hg); have n1_ := aM (Kd.R_after (ok := (fun _ => True)) (by (with_reducible repeat (first | apply Kd.R_alloc | apply Kd.R_drewN | apply Kd.R_drew)); exact Kd.R_mono HO_4.out (fun _ hk => ⟨trivial, hk⟩)) hg hat); have n2_ := aM (hb); have n3_ := aM (ho); clear HO_3; clear HO_4; clear HB; clear HO_5; have HO_3 := n0_; have HO_4 := n1_; have HB := n2_; have HO857 := n3_; clear n0_ n1_ n2_ n3_; clear ho hb hg hat))
             go_roundg kj5
             case measure => have := HK1.out; have := HJ5.out; omega
             case rel => exact ⟨(x3_1), (x4_1), (y855), (wrap64 (x6_1 + 1)), yE, H', ⟨by have := HK1.out; have := HJ5.out; omega⟩, ⟨yH HO_3.out⟩, ⟨by (with_reducible repeat (first | apply Kd.R_alloc | apply Kd.R_drewN | apply Kd.R_drew)); exact Kd.R_mono HO_4.out (fun _ hk => hk.2)⟩, ⟨yH HO857.out⟩, ⟨yB⟩⟩
            ·rw [if_neg c31] at H
             exact absurd H (by simp)
          ·rw [if_neg c29] at H
           have c29b0 := beq_eq_false_iff_ne.mpr c29; have c29b1 := bne_iff_ne.mpr c29
           by_cases c33 : x4_1.length < 8796093022208
           ·rw [if_pos c33] at H
            have LMc33 := aM c33; clear c33; obtain ⟨y859, Ny859, H⟩ := oS H
            by_cases c34 : ((rd_Op l0 x6_1).f0) = 3
            ·rw [if_pos c34] at H
             have c34b0 := beq_iff_eq.mpr c34; have c34b1 := bne_eq_false_iff_eq.mpr c34; clear c34; have H' := aM H; clear H; have p852 : 0 ≤ (x6_1 : Int) := yO; have q852 : x6_1 < (l0.length : Int) := yO; obtain ⟨ad852, e852, hx852_0, hx852_1, hx852_2⟩ := at_OpB HB.out HR0.out x6_1 p852 q852; cases e852; replace p852 := eq_true p852; replace q852 := eq_true q852; have p858 : 0 ≤ (x6_1 : Int) := yO; have q858 : x6_1 < (l0.length : Int) := yO; obtain ⟨ad858, e858, hx858_0, hx858_1, hx858_2⟩ := at_Op HR0.out x6_1 p858 q858; obtain rfl : ad852 = ad858 := (by injection e858); replace hx858_0 := (HB.out.cell (bL w _ hx858_0)).trans hx858_0; replace hx858_1 := (HB.out.cell (bL w _ hx858_1)).trans hx858_1; replace hx858_2 := (HB.out.cell (bL w _ hx858_2)).trans hx858_2; replace p858 := eq_true p858; replace q858 := eq_true q858
             go_wp2_with (first | ((with_reducible refine gate_builtin (b := .append) (xs := #[.tmp 50, .tmp 56]) rfl ?_); at_builtin; refine Kd.R_append Kd.string (w0 := w) w.heap.size rfl (.tmp 50) (.tmp 56) 32 9 (.string ⟨#[]⟩) 16 rfl Try.underlying32 info9 rfl (by decide) (by omega) u4 x4_1 ((rd_Op l0 x6_1).f2) [.string ((rd_Op l0 x6_1).f2)] (fun k_ => some k_ ≠ (u5 : Value).ownBlock) (fun _ => False) rfl rfl ?aP (fun _ hk => hk.elim) ?aF ?aO ?aB ?aS ?aL ?_; (case aP => exact rfl); (case aB => exact yB); (case aF => exact (fun k_ hk => Kd.fresh' (Kd.R_lt (yH HO_5.out)) k_ hk)); (case aO => exact (yH HO_4.out)); (case aS => exact yW); (case aL => have := LMc33.out; omega); intro v860 w35 ho hb hg hat; rw [← Ny859.out] at ho; have n0_ := aM (Kd.R_over' (yH HO_3.out) (Kd.R_typed (yH HO_4.out)) (by decide) hg); have n1_ := aM (Kd.R_after (ok := (fun _ => True)) (by (with_reducible repeat (first | apply Kd.R_alloc | apply Kd.R_drewN | apply Kd.R_drew)); exact Kd.R_mono HO_5.out (fun _ hk => ⟨trivial, hk⟩)) hg hat); have n2_ := aM (hb); have n3_ := aM (ho); clear HO_3; clear HO_5; clear HB; clear HO_4; have HO_3 := n0_; have HO_5 := n1_; have HB := n2_; have HO861 := n3_; clear n0_ n1_ n2_ n3_; clear ho hb hg hat; have p862 : 0 ≤ (x6_1 : Int) := yO; have q862 : x6_1 < (l0.length : Int) := yO; obtain ⟨ad862, e862, hx862_0, hx862_1, hx862_2⟩ := at_Op HR0.out x6_1 p862 q862; obtain rfl : ad852 = ad862 := (by injection e862); replace hx862_0 := (HB.out.cell (bL w _ hx862_0)).trans hx862_0; replace hx862_1 := (HB.out.cell (bL w _ hx862_1)).trans hx862_1; replace hx862_2 := (HB.out.cell (bL w _ hx862_2)).trans hx862_2; replace p862 := eq_true p862; replace q862 := eq_true q862))
             go_roundg kj5
             case measure => have := HK1.out; have := HJ5.out; omega
             case rel => exact ⟨(x3_1), (y859), (x5_1), (wrap64 (x6_1 + 1)), yE, H', ⟨by have := HK1.out; have := HJ5.out; omega⟩, ⟨yH HO_3.out⟩, ⟨yH HO861.out⟩, ⟨by (with_reducible repeat (first | apply Kd.R_alloc | apply Kd.R_drewN | apply Kd.R_drew)); exact Kd.R_mono HO_5.out (fun _ hk => hk.2)⟩, ⟨yB⟩⟩
            ·rw [if_neg c34] at H
             have c34b0 := beq_eq_false_iff_ne.mpr c34; have c34b1 := bne_iff_ne.mpr c34
             by_cases c36 : x5_1.length < 8796093022208
             ·rw [if_pos c36] at H
              have LMc36 := aM c36; clear c36; obtain ⟨y864, hy864⟩ : ∃ y_ : List ByteArray, y_ = (x5_1 ++ [(rd_Op l0 x6_1).f2]) := ⟨_, rfl⟩; replace H : (patchworkref8_Tidy.l0 kj5 l0 x3_1 y859 y864 (wrap64 (x6_1 + 1))) = some r := yN hy864 H
              have Ny864 := aM hy864; clear hy864; have H' := aM H; clear H; have p852 : 0 ≤ (x6_1 : Int) := yO; have q852 : x6_1 < (l0.length : Int) := yO; obtain ⟨ad852, e852, hx852_0, hx852_1, hx852_2⟩ := at_OpB HB.out HR0.out x6_1 p852 q852; cases e852; replace p852 := eq_true p852; replace q852 := eq_true q852; have p858 : 0 ≤ (x6_1 : Int) := yO; have q858 : x6_1 < (l0.length : Int) := yO; obtain ⟨ad858, e858, hx858_0, hx858_1, hx858_2⟩ := at_Op HR0.out x6_1 p858 q858; obtain rfl : ad852 = ad858 := (by injection e858); replace hx858_0 := (HB.out.cell (bL w _ hx858_0)).trans hx858_0; replace hx858_1 := (HB.out.cell (bL w _ hx858_1)).trans hx858_1; replace hx858_2 := (HB.out.cell (bL w _ hx858_2)).trans hx858_2; replace p858 := eq_true p858; replace q858 := eq_true q858
              go_wp2_with (first | ((with_reducible refine gate_builtin (b := .append) (xs := #[.tmp 50, .tmp 56]) rfl ?_); at_builtin; refine Kd.R_append Kd.string (w0 := w) w.heap.size rfl (.tmp 50) (.tmp 56) 32 9 (.string ⟨#[]⟩) 16 rfl Try.underlying32 info9 rfl (by decide) (by omega) u4 x4_1 ((rd_Op l0 x6_1).f2) [.string ((rd_Op l0 x6_1).f2)] (fun k_ => some k_ ≠ (u5 : Value).ownBlock) (fun _ => False) rfl rfl ?aP (fun _ hk => hk.elim) ?aF ?aO ?aB ?aS ?aL ?_; (case aP => exact rfl); (case aB => exact yB); (case aF => exact (fun k_ hk => Kd.fresh' (Kd.R_lt (yH HO_5.out)) k_ hk)); (case aO => exact (yH HO_4.out)); (case aS => exact yW); (case aL => have := LMc33.out; omega); intro v860 w37 ho hb hg hat; rw [← Ny859.out] at ho; have n0_ := aM (Kd.R_over' (yH HO_3.out) (Kd.R_typed (yH HO_4.out)) (by decide) hg); have n1_ := aM (Kd.R_after (ok := (fun _ => True)) (by (with_reducible repeat (first | apply Kd.R_alloc | apply Kd.R_drewN | apply Kd.R_drew)); exact Kd.R_mono HO_5.out (fun _ hk => ⟨trivial, hk⟩)) hg hat); have n2_ := aM (hb); have n3_ := aM (ho); clear HO_3; clear HO_5; clear HB; clear HO_4; have HO_3 := n0_; have HO_5 := n1_; have HB := n2_; have HO861 := n3_; clear n0_ n1_ n2_ n3_; clear ho hb hg hat; have p862 : 0 ≤ (x6_1 : Int) := yO; have q862 : x6_1 < (l0.length : Int) := yO; obtain ⟨ad862, e862, hx862_0, hx862_1, hx862_2⟩ := at_Op HR0.out x6_1 p862 q862; obtain rfl : ad852 = ad862 := (by injection e862); replace hx862_0 := (HB.out.cell (bL w _ hx862_0)).trans hx862_0; replace hx862_1 := (HB.out.cell (bL w _ hx862_1)).trans hx862_1; replace hx862_2 := (HB.out.cell (bL w _ hx862_2)).trans hx862_2; replace p862 := eq_true p862; replace q862 := eq_true q862; have p863 : 0 ≤ (x6_1 : Int) := yO; have q863 : x6_1 < (l0.length : Int) := yO; obtain ⟨ad863, e863, hx863_0, hx863_1, hx863_2⟩ := at_Op HR0.out x6_1 p863 q863; obtain rfl : ad852 = ad863 := (by injection e863); replace hx863_0 := (HB.out.cell (bL w _ hx863_0)).trans hx863_0; replace hx863_1 := (HB.out.cell (bL w _ hx863_1)).trans hx863_1; replace hx863_2 := (HB.out.cell (bL w _ hx863_2)).trans hx863_2; replace p863 := eq_true p863; replace q863 := eq_true q863) | ((with_reducible refine gate_builtin (b := .append) (xs := #[.tmp 64, .tmp 70]) rfl ?_); at_builtin; refine Kd.R_append Kd.string (w0 := w) w.heap.size rfl (.tmp 64) (.tmp 70) 32 9 (.string ⟨#[]⟩) 16 rfl Try.underlying32 info9 rfl (by decide) (by omega) u5 x5_1 ((rd_Op l0 x6_1).f2) [.string ((rd_Op l0 x6_1).f2)] (fun k_ => some k_ ≠ (v860 : Value).ownBlock) (fun _ => False) rfl rfl ?aP (fun _ hk => hk.elim) ?aF ?aO ?aB ?aS ?aL ?_; (case aP => exact rfl); (case aB => exact yB); (case aF => exact (fun k_ hk => Kd.fresh' (Kd.R_lt (yH HO861.out)) k_ hk)); (case aO => exact (by (with_reducible repeat (first | apply Kd.R_alloc | apply Kd.R_drewN | apply Kd.R_drew)); exact Kd.R_mono HO_5.out (fun _ hk => hk.2))); (case aS => exact yW); (case aL => have := LMc36.out; omega); intro v865 w38 ho hb hg hat; rw [← Ny864.out] at ho; have n0_ := aM (Kd.R_over' (yH HO_3.out) (Kd.R_typed (yH HO_5.out)) (by decide) hg); have n1_ := aM (Kd.R_after (ok := (fun _ => True)) (by (with_reducible repeat (first | apply Kd.R_alloc | apply Kd.R_drewN | apply Kd.R_drew)); exact Kd.R_mono HO861.out (fun _ hk => ⟨trivial, hk⟩)) hg hat); have n2_ := aM (hb); have n3_ := aM (ho); clear HO_3; clear HO861; clear HB; clear HO_5; have HO_3 := n0_; have HO861 := n1_; have HB := n2_; have HO866 := n3_; clear n0_ n1_ n2_ n3_; clear ho hb hg hat))
              go_roundg kj5
              case measure => have := HK1.out; have := HJ5.out; omega
              case rel => exact ⟨(x3_1), (y859), (y864), (wrap64 (x6_1 + 1)), yE, H', ⟨by have := HK1.out; have := HJ5.out; omega⟩, ⟨yH HO_3.out⟩, ⟨by (with_reducible repeat (first | apply Kd.R_alloc | apply Kd.R_drewN | apply Kd.R_drew)); exact Kd.R_mono HO861.out (fun _ hk => hk.2)⟩, ⟨yH HO866.out⟩, ⟨yB⟩⟩
             ·rw [if_neg c36] at H
              exact absurd H (by simp)
           ·rw [if_neg c33] at H
            exact absurd H (by simp)
         ·rw [if_neg c28] at H
          exact absurd H (by simp)
        ·rw [if_neg c27] at H
         exact absurd H (by simp)
    ·rw [if_neg c5] at H
     have c5b0 := decide_eq_false c5; clear c5; obtain ⟨t838, A39, H⟩ := oB H; obtain rfl := Option.some.inj H; obtain ⟨Ao40, co40, eo40⟩ := Kd.R_slice HO_3.out; subst eo40
     go_wp2_with (first | ((with_reducible refine gate_callee (f := 41) rfl ?_); refine goesL_ (some 73) rfl rfl Try.func41 yK rfl #[.slice Ao40 x3_1.length co40] rfl yG ?_; (with_reducible refine (patchworkref8_norm.calls k1 _ _ x3_1 t838 _ (yC (Kd.R_reads' HO_3.out).2.2) ((Kd.R_reads' HO_3.out).2.1) A39.out).mono ?_); rintro e w41 ⟨v839, rfl, ho0, hb⟩; refine ⟨_, rfl, ?_⟩; replace HO_4 := aM (Kd.R_below (yH HO_4.out) hb); replace HO_5 := aM (Kd.R_below (yH HO_5.out) hb); have HO840 := aM (Kd.R_lower (Kd.R_new' ho0 (Kd.R_lt (yH HO_3.out))) yW); replace HO_3 := aM (Kd.R_elder' (yH HO_3.out) (Kd.R_base ho0) hb); replace HB := aM (below_step yB hb); clear hb ho0))
     go_ret
     exact ⟨_, by first | rfl | (simp [errW_none, errW_some] <;> rfl) | (simp [*, errW_none, errW_some] <;> rfl), by (with_reducible repeat (first | apply Kd.R_alloc | apply Kd.R_drewN | apply Kd.R_drew)); exact Kd.R_mono HO840.out (fun _ hk => trivial), yB⟩
 ·replace c3 := Bool.eq_false_iff.mpr c3
  subst c3; replace H := iF H; obtain rfl := Option.some.inj H
  go_enter Try.func53, Try.ntmps53
  go_wp2_with (first | ((with_reducible refine gate_callee (f := 32) rfl ?_); refine goesL_ (some 8) rfl rfl Try.func32 yK rfl #[.slice A0 l0.length c0] rfl yG ?_; (with_reducible refine (patchworkref8_Right.calls k _ _ l0 false _ (yC HR0.out) HC0.out A2.out).mono ?_); rintro e w42 ⟨rfl, hb⟩; refine ⟨_, rfl, ?_⟩; replace HB := aM (below_step yB hb); clear hb))
  go_ret
  exact ⟨_, by first | rfl | (simp [errW_none, errW_some] <;> rfl) | (simp [*, errW_none, errW_some] <;> rfl), by first | exact Kd.R_nil _ _ _ _ _ | exact Kd.N_nil _ _ _ _ _ | exact Kd.V_nil _ _ _ _ _ | exact Kd.Q_nil _ _ _ _ _ | exact Kd.S_nil _ _ _ _ _, yB⟩
set_option maxHeartbeats 8000000 in
set_option maxRecDepth 100000 in
theorem patchworkref8_Inter.calls (k : Nat) (A0 : Option Addr) (c0 : Nat) (l0 : List (Op)) (A1 : Option Addr) (c1 : Nat) (l1 : List (Op)) (r1 : List (Op)) (r2 : Bool) (w : World) (hr0 : Kd.C kOp w A0 l0.length l0) (hc0 : l0.length ≤ c0) (hr1 : Kd.C kOp w A1 l1.length l1) (hc1 : l1.length ≤ c1) (h : patchworkref8_Inter.f k l0 l1 = some (r1, r2)) :
  Calls Try.prog 31 #[.slice A0 l0.length c0, .slice A1 l1.length c1] w fun e w' => ∃ v0_ : Value, e = .returned (.tuple #[v0_, .bool r2]) ∧ Kd.R kOp 41 w' w.heap.size (fun _ => True) v0_ r1 ∧ Below w.heap.size w w' := by
 have HR0 := aM hr0
 have HC0 := aM hc0
 clear hr0 hc0
 have HR1 := aM hr1
 have HC1 := aM hc1
 clear hr1 hc1
 have HB := aM (Below.refl w.heap.size w)
 have H : ((patchworkref8_Right.f k l0).bind fun t867 => (if t867 = true then ((patchworkref8_Right.f k l1).bind fun t868 => (patchworkref8_Inter.j0 k l0 l1 (!t868))) else (patchworkref8_Inter.j0 k l0 l1 true))) = some (r1, r2) := h
 clear h
 have HC3 := aM H
 clear H
 go_enter Try.func31, Try.ntmps31
 go_upto_region 1 with (fail)
 go_cut [15] (fun v15 wc => ∃ (kq : Nat) (x15_2 : Bool), v15 = .bool x15_2 ∧ Aside0 (patchworkref8_Inter.j0 kq l0 l1 x15_2 = some (r1, r2)) ∧ Aside0 (kq ≤ k) ∧ Aside0 (Below w.heap.size w wc))
 case first =>
  have H := HC3.out; clear HC3; replace H := bS.mp H; obtain ⟨t867, A40, H⟩ := H; replace H : (if t867 = true then ((patchworkref8_Right.f k l1).bind fun t868 => (patchworkref8_Inter.j0 k l0 l1 (!t868))) else (patchworkref8_Inter.j0 k l0 l1 true)) = some (r1, r2) := H; have A4 := aM A40; clear A40
  by_cases c5 : t867 = true
  ·subst c5
   replace H := iT H; replace H := bS.mp H; obtain ⟨t868, A60, H⟩ := H; replace H : (patchworkref8_Inter.j0 k l0 l1 (!t868)) = some (r1, r2) := H; have A6 := aM A60; clear A60; have H' := aM H; clear H
   go_wp2_with (first | ((with_reducible refine gate_callee (f := 32) rfl ?_); refine goesL_ (some 9) rfl rfl Try.func32 yK rfl #[.slice A0 l0.length c0] rfl yG ?_; (with_reducible refine (patchworkref8_Right.calls k _ _ l0 true _ (yC (Kd.C_below HR0.out HB.out)) HC0.out A4.out).mono ?_); rintro e w7 ⟨rfl, hb⟩; refine ⟨_, rfl, ?_⟩; replace HB := aM (below_step yB hb); clear hb) | (go_at_call 32; (with_reducible refine (patchworkref8_Right.calls k _ _ l1 t868 _ (yC (Kd.C_below HR1.out HB.out)) HC1.out A6.out).mono ?_); rintro e w8 ⟨rfl, hb⟩; replace HB := aM (below_step yB hb); clear hb))
   go_meet
   case rel => exact ⟨_, (!t868), yE, H', ⟨by first | omega | exact Nat.le_refl _⟩, ⟨yB⟩⟩
  ·replace c5 := Bool.eq_false_iff.mpr c5
   subst c5; have H' := aM (iF H); clear H
   go_wp2_with (first | ((with_reducible refine gate_callee (f := 32) rfl ?_); refine goesL_ (some 9) rfl rfl Try.func32 yK rfl #[.slice A0 l0.length c0] rfl yG ?_; (with_reducible refine (patchworkref8_Right.calls k _ _ l0 false _ (yC (Kd.C_below HR0.out HB.out)) HC0.out A4.out).mono ?_); rintro e w9 ⟨rfl, hb⟩; refine ⟨_, rfl, ?_⟩; replace HB := aM (below_step yB hb); clear hb))
   go_meet
   case rel => exact ⟨_, (true), yE, H', ⟨by first | omega | exact Nat.le_refl _⟩, ⟨yB⟩⟩
 case rest =>
  clear HC3; (try clear c1); (try clear p2); (try clear c3); (try clear c5); obtain ⟨kq, x15_2, rfl, HA, HJ2, HB⟩ := hcut; cases kq with
  | zero => exact absurd HA.out (by simp [patchworkref8_Inter.j0])
  | succ kj2 =>
   have H := HA.out; clear HA; simp only [patchworkref8_Inter.j0] at H
   by_cases c10 : x15_2 = true
   ·subst c10
    replace H := iT H; simp only [Option.some.injEq, Prod.mk.injEq] at H; obtain ⟨rfl, rfl⟩ := H
    go_wp2
    go_ret2
    exact ⟨_, by first | rfl | (simp [errW_none, errW_some] <;> rfl) | (simp [*, errW_none, errW_some] <;> rfl), by first | exact Kd.R_nil _ _ _ _ _ | exact Kd.N_nil _ _ _ _ _ | exact Kd.V_nil _ _ _ _ _ | exact Kd.Q_nil _ _ _ _ _ | exact Kd.S_nil _ _ _ _ _, yB⟩
   ·replace c10 := Bool.eq_false_iff.mpr c10
    subst c10; replace H := iF H; replace H := bS.mp H; obtain ⟨t869, A110, H⟩ := H; replace H : ((patchworkref8_Then.f kj2 t869 l1).bind fun bt872 => (if bt872.2 = true then ((patchworkref8_Tidy.f kj2 bt872.1).bind fun t876 => (some (t876, true))) else (some (([] : List (Op)), false)))) = some (r1, r2) := H; have A11 := aM A110; clear A110; replace H := bS.mp H; obtain ⟨⟨t872, t873⟩, A120, H⟩ := H; replace H : (if t873 = true then ((patchworkref8_Tidy.f kj2 t872).bind fun t876 => (some (t876, true))) else (some (([] : List (Op)), false))) = some (r1, r2) := H; have A12 := aM A120; clear A120
    by_cases c13 : t873 = true
    ·subst c13
     replace H := iT H; replace H := bS.mp H; obtain ⟨t876, A140, H⟩ := H; replace H : (some (t876, true)) = some (r1, r2) := H; have A14 := aM A140; clear A140; simp only [Option.some.injEq, Prod.mk.injEq] at H; obtain ⟨rfl, rfl⟩ := H
     go_wp2_with (first | ((with_reducible refine gate_callee (f := 52) rfl ?_); refine goesL_ (some 18) rfl rfl Try.func52 yK rfl #[.slice A0 l0.length c0] rfl yG ?_; (with_reducible refine (patchworkref8_Flip.calls kj2 _ _ l0 t869 _ (yC (Kd.C_below HR0.out HB.out)) HC0.out A11.out).mono ?_); rintro e w15 ⟨v870, rfl, ho0, hb⟩; refine ⟨_, rfl, ?_⟩; have HO871 := aM (Kd.R_lower ho0 yW); replace HB := aM (below_step yB hb); clear hb ho0; obtain ⟨Ao16, co16, eo16⟩ := Kd.R_slice HO871.out; subst eo16) | ((with_reducible refine gate_callee (f := 34) rfl ?_); refine goesL_ (some 20) rfl rfl Try.func34 yK rfl #[.slice Ao16 t869.length co16, .slice A1 l1.length c1] rfl yG ?_; (with_reducible refine (patchworkref8_Then.calls kj2 _ _ t869 _ _ l1 t872 true _ (yC (Kd.R_reads' HO871.out).2.2) ((Kd.R_reads' HO871.out).2.1) (yC (Kd.C_below HR1.out HB.out)) HC1.out A12.out).mono ?_); rintro e w17 ⟨v874, rfl, ho0, hb⟩; refine ⟨_, rfl, ?_⟩; have HO875 := aM (Kd.R_lower (Kd.R_new' ho0 (Kd.R_lt (yH HO871.out))) yW); replace HO871 := aM (Kd.R_elder' (yH HO871.out) (Kd.R_base ho0) hb); replace HB := aM (below_step yB hb); clear hb ho0; obtain ⟨Ao18, co18, eo18⟩ := Kd.R_slice HO875.out; subst eo18) | ((with_reducible refine gate_callee (f := 53) rfl ?_); refine goesL_ (some 26) rfl rfl Try.func53 yK rfl #[.slice Ao18 t872.length co18] rfl yG ?_; (with_reducible refine (patchworkref8_Tidy.calls kj2 _ _ t872 t876 _ (yC (Kd.R_reads' HO875.out).2.2) ((Kd.R_reads' HO875.out).2.1) A14.out).mono ?_); rintro e w19 ⟨v877, rfl, ho0, hb⟩; refine ⟨_, rfl, ?_⟩; have HO878 := aM (Kd.R_lower (Kd.R_new' (Kd.R_new' ho0 (Kd.R_lt (yH HO871.out))) (Kd.R_lt (yH HO875.out))) yW); replace HO871 := aM (Kd.R_elder' (yH HO871.out) (Kd.R_base ho0) hb); replace HO875 := aM (Kd.R_elder' (yH HO875.out) (Kd.R_base ho0) hb); replace HB := aM (below_step yB hb); clear hb ho0))
     go_ret2
     exact ⟨_, by first | rfl | (simp [errW_none, errW_some] <;> rfl) | (simp [*, errW_none, errW_some] <;> rfl), by (with_reducible repeat (first | apply Kd.R_alloc | apply Kd.R_drewN | apply Kd.R_drew)); exact Kd.R_mono HO878.out (fun _ hk => trivial), yB⟩
    ·replace c13 := Bool.eq_false_iff.mpr c13
     subst c13; replace H := iF H; simp only [Option.some.injEq, Prod.mk.injEq] at H; obtain ⟨rfl, rfl⟩ := H
     go_wp2_with (first | ((with_reducible refine gate_callee (f := 52) rfl ?_); refine goesL_ (some 18) rfl rfl Try.func52 yK rfl #[.slice A0 l0.length c0] rfl yG ?_; (with_reducible refine (patchworkref8_Flip.calls kj2 _ _ l0 t869 _ (yC (Kd.C_below HR0.out HB.out)) HC0.out A11.out).mono ?_); rintro e w20 ⟨v870, rfl, ho0, hb⟩; refine ⟨_, rfl, ?_⟩; have HO871 := aM (Kd.R_lower ho0 yW); replace HB := aM (below_step yB hb); clear hb ho0; obtain ⟨Ao21, co21, eo21⟩ := Kd.R_slice HO871.out; subst eo21) | ((with_reducible refine gate_callee (f := 34) rfl ?_); refine goesL_ (some 20) rfl rfl Try.func34 yK rfl #[.slice Ao21 t869.length co21, .slice A1 l1.length c1] rfl yG ?_; (with_reducible refine (patchworkref8_Then.calls kj2 _ _ t869 _ _ l1 t872 false _ (yC (Kd.R_reads' HO871.out).2.2) ((Kd.R_reads' HO871.out).2.1) (yC (Kd.C_below HR1.out HB.out)) HC1.out A12.out).mono ?_); rintro e w22 ⟨v874, rfl, ho0, hb⟩; refine ⟨_, rfl, ?_⟩; have HO875 := aM (Kd.R_lower (Kd.R_new' ho0 (Kd.R_lt (yH HO871.out))) yW); replace HO871 := aM (Kd.R_elder' (yH HO871.out) (Kd.R_base ho0) hb); replace HB := aM (below_step yB hb); clear hb ho0))
     go_ret2
     exact ⟨_, by first | rfl | (simp [errW_none, errW_some] <;> rfl) | (simp [*, errW_none, errW_some] <;> rfl), by first | exact Kd.R_nil _ _ _ _ _ | exact Kd.N_nil _ _ _ _ _ | exact Kd.V_nil _ _ _ _ _ | exact Kd.Q_nil _ _ _ _ _ | exact Kd.S_nil _ _ _ _ _, yB⟩
set_option maxHeartbeats 8000000 in
set_option maxRecDepth 100000 in
theorem patchworklaw14_InterTells.calls (k : Nat) (A0 : Option Addr) (c0 : Nat) (l0 : List (Op)) (A1 : Option Addr) (c1 : Nat) (l1 : List (Op)) (r : Bool) (w : World) (hr0 : Kd.C kOp w A0 l0.length l0) (hc0 : l0.length ≤ c0) (hr1 : Kd.C kOp w A1 l1.length l1) (hc1 : l1.length ≤ c1) (h : patchworklaw14_InterTells.f k l0 l1 = some r) :
  Calls Try.prog 9 #[.slice A0 l0.length c0, .slice A1 l1.length c1] w fun e w' => e = .returned (.bool r) ∧ Below w.heap.size w w' := by
 have HR0 := aM hr0
 have HC0 := aM hc0
 clear hr0 hc0
 have HR1 := aM hr1
 have HC1 := aM hc1
 clear hr1 hc1
 have HB := aM (Below.refl w.heap.size w)
 have H : ((patchworklaw14_alive.f k).bind fun t879 => (if t879 = true then ((patchworklaw8_Few.f k l0).bind fun t880 => (if t880 = true then ((patchworklaw8_Few.f k l1).bind fun t881 => (patchworklaw14_InterTells.j0 k l0 l1 t879 (!t881))) else (patchworklaw14_InterTells.j0 k l0 l1 t879 true))) else (patchworklaw14_InterTells.j0 k l0 l1 t879 true))) = some r := h
 clear h
 obtain ⟨t879, A3, H⟩ := oB H
 have HC4 := aM H
 clear H
 go_enter Try.func9, Try.ntmps9
 go_upto_region 2 with (first | ((with_reducible refine gate_callee (f := 29) rfl ?_); refine goesL_ (some 10) rfl rfl Try.func29 yK rfl #[] rfl yG ?_; (with_reducible refine (patchworklaw14_alive.calls k  t879 _ A3.out).mono ?_); rintro e w5 ⟨rfl, hb⟩; refine ⟨_, rfl, ?_⟩; replace HB := aM (below_step yB hb); clear hb))
 (try simp only [Act.put, List.setIfInBounds_toArray, List.set_cons_zero, List.set_cons_succ])
 go_cut [22] (fun v22 wc => ∃ (kq : Nat) (x22_3 : Bool), v22 = .bool x22_3 ∧ Aside0 (patchworklaw14_InterTells.j0 kq l0 l1 t879 x22_3 = some r) ∧ Aside0 (kq ≤ k) ∧ Aside0 (Below w.heap.size w wc))
 case first =>
  have H := HC4.out; clear HC4
  by_cases c6 : t879 = true
  ·subst c6
   replace H := iT H; obtain ⟨t880, A7, H⟩ := oB H
   by_cases c8 : t880 = true
   ·subst c8
    replace H := iT H; obtain ⟨t881, A9, H⟩ := oB H; have H' := aM H; clear H
    go_wp2_with (first | (go_at_call 15; (with_reducible refine (patchworklaw8_Few.calls k _ _ l0 true _ (yC (Kd.C_below HR0.out HB.out)) HC0.out A7.out).mono ?_); rintro e w' ⟨rfl, ⟨nd, rfl⟩⟩) | (go_at_call 15; (with_reducible refine (patchworklaw8_Few.calls k _ _ l1 t881 _ (yC (Kd.C_below HR1.out yB)) HC1.out A9.out).mono ?_); rintro e w' ⟨rfl, ⟨nd, rfl⟩⟩))
    go_meet
    case rel => exact ⟨_, (!t881), yE, H', ⟨by first | omega | exact Nat.le_refl _⟩, ⟨yB⟩⟩
   ·replace c8 := Bool.eq_false_iff.mpr c8
    subst c8; have H' := aM (iF H); clear H
    go_wp2_with (first | (go_at_call 15; (with_reducible refine (patchworklaw8_Few.calls k _ _ l0 false _ (yC (Kd.C_below HR0.out HB.out)) HC0.out A7.out).mono ?_); rintro e w' ⟨rfl, ⟨nd, rfl⟩⟩))
    go_meet
    case rel => exact ⟨_, (true), yE, H', ⟨by first | omega | exact Nat.le_refl _⟩, ⟨yB⟩⟩
  ·replace c6 := Bool.eq_false_iff.mpr c6
   subst c6; have H' := aM (iF H); clear H
   go_wp2
   go_meet
   case rel => exact ⟨_, (true), yE, H', ⟨by first | omega | exact Nat.le_refl _⟩, ⟨yB⟩⟩
 case rest =>
  clear HC4; (try clear c1); (try clear c2); (try clear p2); (try clear c6); (try clear c8); (try clear c9); obtain ⟨kq, x22_3, rfl, HA, HJ3, HB⟩ := hcut; cases kq with
  | zero => exact absurd HA.out (by simp [patchworklaw14_InterTells.j0])
  | succ kj3 =>
   have H := HA.out; clear HA; simp only [patchworklaw14_InterTells.j0] at H
   by_cases c10 : x22_3 = true
   ·subst c10
    replace H := iT H; obtain rfl := Option.some.inj H
    go_wp2
    go_ret
    exact ⟨yE2, yB⟩
   ·replace c10 := Bool.eq_false_iff.mpr c10
    subst c10; replace H := iF H
    by_cases c11 : ([] : List (Op)).length + l0.length < 4398046511104
    ·rw [if_pos c11] at H
     have LMc11 := aM c11; clear c11; obtain ⟨y882, hy882⟩ : ∃ y_ : List (Op), y_ = (([] : List (Op)) ++ l0) := ⟨_, rfl⟩; replace H : (if ([] : List (Op)).length + l1.length < 4398046511104 then ((inter_Ops.f kj3 y882 (([] : List (Op)) ++ l1)).bind fun bt888 => ((patchworkref8_Inter.f kj3 l0 l1).bind fun bt892 => ((patchworkref8_Same.f kj3 bt888.1 bt892.1).bind fun t896 => (if t896 = true then (some (bt888.2 == bt892.2)) else (some false))))) else (none)) = some r := yN hy882 H
     have Ny882 := aM hy882; clear hy882
     by_cases c12 : ([] : List (Op)).length + l1.length < 4398046511104
     ·rw [if_pos c12] at H
      have LMc12 := aM c12; clear c12; obtain ⟨y885, hy885⟩ : ∃ y_ : List (Op), y_ = (([] : List (Op)) ++ l1) := ⟨_, rfl⟩; replace H : ((inter_Ops.f kj3 y882 y885).bind fun bt888 => ((patchworkref8_Inter.f kj3 l0 l1).bind fun bt892 => ((patchworkref8_Same.f kj3 bt888.1 bt892.1).bind fun t896 => (if t896 = true then (some (bt888.2 == bt892.2)) else (some false))))) = some r := yN hy885 H
      have Ny885 := aM hy885; clear hy885; replace H := bS.mp H; obtain ⟨⟨t888, t889⟩, A130, H⟩ := H; replace H : ((patchworkref8_Inter.f kj3 l0 l1).bind fun bt892 => ((patchworkref8_Same.f kj3 t888 bt892.1).bind fun t896 => (if t896 = true then (some (t889 == bt892.2)) else (some false)))) = some r := H; have A13 := aM A130; clear A130; replace H := bS.mp H; obtain ⟨⟨t892, t893⟩, A140, H⟩ := H; replace H : ((patchworkref8_Same.f kj3 t888 t892).bind fun t896 => (if t896 = true then (some (t889 == t893)) else (some false))) = some r := H; have A14 := aM A140; clear A140; obtain ⟨t896, A15, H⟩ := oB H
      by_cases c16 : t896 = true
      ·subst c16
       replace H := iT H; obtain rfl := Option.some.inj H
       go_wp2_with (first | ((with_reducible refine gate_builtin (b := .append) (xs := #[.const (.slice none 0 0), .tmp 25]) rfl ?_); at_builtin; refine Kd.R_append_rows kOp (w0 := w) w.heap.size rfl (.const (.slice none 0 0)) (.tmp 25) 22 41 (.agg #[(.int .i64 0), (.int .i64 0), (.string ⟨#[]⟩)]) 32 rfl Try.underlying22 info41 rfl (by decide) (by omega) (.slice none 0 0) ([] : List (Op)) l0 _ _ _ (fun _ => True) (fun _ => False) rfl rfl ?aO ?aR (fun _ _ h => h) (fun _ h => h.elim) ?aF ?aB ?aS ?aL ?_; (case aR => repeat (first | exact (Kd.C_below HR0.out HB.out) | (with_reducible first | refine Kd.C_alloc ?_ _ | refine Kd.C_drewN ?_ _ | refine Kd.C_drew ?_))); (case aB => exact yB); (case aF => exact (fun _ _ => trivial)); (case aO => exact ((Kd.R_nil _ _ _ _ (fun _ => True)))); (case aS => exact yW); (case aL => have := LMc11.out; omega); intro v883 w17 ho hb hg hat; rw [← Ny882.out] at ho; replace HB := aM (hb); have HO884 := aM (ho); clear ho hb hg hat) | ((with_reducible refine gate_builtin (b := .append) (xs := #[.const (.slice none 0 0), .tmp 27]) rfl ?_); at_builtin; refine Kd.R_append_rows kOp (w0 := w) w.heap.size rfl (.const (.slice none 0 0)) (.tmp 27) 22 41 (.agg #[(.int .i64 0), (.int .i64 0), (.string ⟨#[]⟩)]) 32 rfl Try.underlying22 info41 rfl (by decide) (by omega) (.slice none 0 0) ([] : List (Op)) l1 _ _ _ (fun k_ => some k_ ≠ (v883 : Value).ownBlock) (fun _ => False) rfl rfl ?aO ?aR (fun _ _ h => h) (fun _ h => h.elim) ?aF ?aB ?aS ?aL ?_; (case aR => repeat (first | exact (Kd.C_below HR1.out HB.out) | (with_reducible first | refine Kd.C_alloc ?_ _ | refine Kd.C_drewN ?_ _ | refine Kd.C_drew ?_))); (case aB => exact yB); (case aF => exact (fun k_ hk => Kd.fresh' (Kd.R_lt (yH HO884.out)) k_ hk)); (case aO => exact ((Kd.R_nil _ _ _ _ (fun k_ => some k_ ≠ (v883 : Value).ownBlock)))); (case aS => exact yW); (case aL => have := LMc12.out; omega); intro v886 w18 ho hb hg hat; rw [← Ny885.out] at ho; replace HO884 := aM (Kd.R_after (Kd.R_apart_nil (yH HO884.out)) hg hat); replace HB := aM (hb); have HO887 := aM (ho); clear ho hb hg hat; obtain ⟨Ao19, co19, eo19⟩ := Kd.R_slice HO884.out; subst eo19; obtain ⟨Ao20, co20, eo20⟩ := Kd.R_slice HO887.out; subst eo20) | ((with_reducible refine gate_callee (f := 30) rfl ?_); refine goesL_ (some 29) rfl rfl Try.func30 yK rfl #[.slice Ao19 y882.length co19, .slice Ao20 y885.length co20] rfl yG ?_; (with_reducible refine (inter_Ops.calls kj3 _ _ y882 _ _ y885 t888 t889 _ (yC (Kd.R_reads' HO884.out).2.2) ((Kd.R_reads' HO884.out).2.1) (yC (Kd.R_reads' HO887.out).2.2) ((Kd.R_reads' HO887.out).2.1) A13.out).mono ?_); rintro e w21 ⟨v890, rfl, ho0, hb⟩; refine ⟨_, rfl, ?_⟩; have HO891 := aM (Kd.R_lower (Kd.R_new' (Kd.R_new' ho0 (Kd.R_lt (yH HO884.out))) (Kd.R_lt (yH HO887.out))) yW); replace HO884 := aM (Kd.R_elder' (yH HO884.out) (Kd.R_base ho0) hb); replace HO887 := aM (Kd.R_elder' (yH HO887.out) (Kd.R_base ho0) hb); replace HB := aM (below_step yB hb); clear hb ho0) | ((with_reducible refine gate_callee (f := 31) rfl ?_); refine goesL_ (some 35) rfl rfl Try.func31 yK rfl #[.slice A0 l0.length c0, .slice A1 l1.length c1] rfl yG ?_; (with_reducible refine (patchworkref8_Inter.calls kj3 _ _ l0 _ _ l1 t892 t893 _ (yC (Kd.C_below HR0.out HB.out)) HC0.out (yC (Kd.C_below HR1.out HB.out)) HC1.out A14.out).mono ?_); rintro e w22 ⟨v894, rfl, ho0, hb⟩; refine ⟨_, rfl, ?_⟩; have HO895 := aM (Kd.R_lower (Kd.R_new' (Kd.R_new' (Kd.R_new' ho0 (Kd.R_lt (yH HO884.out))) (Kd.R_lt (yH HO887.out))) (Kd.R_lt (yH HO891.out))) yW); replace HO884 := aM (Kd.R_elder' (yH HO884.out) (Kd.R_base ho0) hb); replace HO887 := aM (Kd.R_elder' (yH HO887.out) (Kd.R_base ho0) hb); replace HO891 := aM (Kd.R_elder' (yH HO891.out) (Kd.R_base ho0) hb); replace HB := aM (below_step yB hb); clear hb ho0; obtain ⟨Ao23, co23, eo23⟩ := Kd.R_slice HO891.out; subst eo23; obtain ⟨Ao24, co24, eo24⟩ := Kd.R_slice HO895.out; subst eo24) | ((with_reducible refine gate_callee (f := 18) rfl ?_); refine goesL_ (some 40) rfl rfl Try.func18 yK rfl #[.slice Ao23 t888.length co23, .slice Ao24 t892.length co24] rfl yG ?_; (with_reducible refine (patchworkref8_Same.calls kj3 _ _ t888 _ _ t892 true _ (yC (Kd.R_reads' HO891.out).2.2) ((Kd.R_reads' HO891.out).2.1) (yC (Kd.R_reads' HO895.out).2.2) ((Kd.R_reads' HO895.out).2.1) A15.out).mono ?_); rintro e w' ⟨rfl, ⟨nd, rfl⟩⟩; refine ⟨_, rfl, ?_⟩))
       go_ret
       exact ⟨yE2, yB⟩
      ·replace c16 := Bool.eq_false_iff.mpr c16
       subst c16; replace H := iF H; obtain rfl := Option.some.inj H
       go_wp2_with (first | ((with_reducible refine gate_builtin (b := .append) (xs := #[.const (.slice none 0 0), .tmp 25]) rfl ?_); at_builtin; refine Kd.R_append_rows kOp (w0 := w) w.heap.size rfl (.const (.slice none 0 0)) (.tmp 25) 22 41 (.agg #[(.int .i64 0), (.int .i64 0), (.string ⟨#[]⟩)]) 32 rfl Try.underlying22 info41 rfl (by decide) (by omega) (.slice none 0 0) ([] : List (Op)) l0 _ _ _ (fun _ => True) (fun _ => False) rfl rfl ?aO ?aR (fun _ _ h => h) (fun _ h => h.elim) ?aF ?aB ?aS ?aL ?_; (case aR => repeat (first | exact (Kd.C_below HR0.out HB.out) | (with_reducible first | refine Kd.C_alloc ?_ _ | refine Kd.C_drewN ?_ _ | refine Kd.C_drew ?_))); (case aB => exact yB); (case aF => exact (fun _ _ => trivial)); (case aO => exact ((Kd.R_nil _ _ _ _ (fun _ => True)))); (case aS => exact yW); (case aL => have := LMc11.out; omega); intro v883 w25 ho hb hg hat; rw [← Ny882.out] at ho; replace HB := aM (hb); have HO884 := aM (ho); clear ho hb hg hat) | ((with_reducible refine gate_builtin (b := .append) (xs := #[.const (.slice none 0 0), .tmp 27]) rfl ?_); at_builtin; refine Kd.R_append_rows kOp (w0 := w) w.heap.size rfl (.const (.slice none 0 0)) (.tmp 27) 22 41 (.agg #[(.int .i64 0), (.int .i64 0), (.string ⟨#[]⟩)]) 32 rfl Try.underlying22 info41 rfl (by decide) (by omega) (.slice none 0 0) ([] : List (Op)) l1 _ _ _ (fun k_ => some k_ ≠ (v883 : Value).ownBlock) (fun _ => False) rfl rfl ?aO ?aR (fun _ _ h => h) (fun _ h => h.elim) ?aF ?aB ?aS ?aL ?_; (case aR => repeat (first | exact (Kd.C_below HR1.out HB.out) | (with_reducible first | refine Kd.C_alloc ?_ _ | refine Kd.C_drewN ?_ _ | refine Kd.C_drew ?_))); (case aB => exact yB); (case aF => exact (fun k_ hk => Kd.fresh' (Kd.R_lt (yH HO884.out)) k_ hk)); (case aO => exact ((Kd.R_nil _ _ _ _ (fun k_ => some k_ ≠ (v883 : Value).ownBlock)))); (case aS => exact yW); (case aL => have := LMc12.out; omega); intro v886 w26 ho hb hg hat; rw [← Ny885.out] at ho; replace HO884 := aM (Kd.R_after (Kd.R_apart_nil (yH HO884.out)) hg hat); replace HB := aM (hb); have HO887 := aM (ho); clear ho hb hg hat; obtain ⟨Ao27, co27, eo27⟩ := Kd.R_slice HO884.out; subst eo27; obtain ⟨Ao28, co28, eo28⟩ := Kd.R_slice HO887.out; subst eo28) | ((with_reducible refine gate_callee (f := 30) rfl ?_); refine goesL_ (some 29) rfl rfl Try.func30 yK rfl #[.slice Ao27 y882.length co27, .slice Ao28 y885.length co28] rfl yG ?_; (with_reducible refine (inter_Ops.calls kj3 _ _ y882 _ _ y885 t888 t889 _ (yC (Kd.R_reads' HO884.out).2.2) ((Kd.R_reads' HO884.out).2.1) (yC (Kd.R_reads' HO887.out).2.2) ((Kd.R_reads' HO887.out).2.1) A13.out).mono ?_); rintro e w29 ⟨v890, rfl, ho0, hb⟩; refine ⟨_, rfl, ?_⟩; have HO891 := aM (Kd.R_lower (Kd.R_new' (Kd.R_new' ho0 (Kd.R_lt (yH HO884.out))) (Kd.R_lt (yH HO887.out))) yW); replace HO884 := aM (Kd.R_elder' (yH HO884.out) (Kd.R_base ho0) hb); replace HO887 := aM (Kd.R_elder' (yH HO887.out) (Kd.R_base ho0) hb); replace HB := aM (below_step yB hb); clear hb ho0) | ((with_reducible refine gate_callee (f := 31) rfl ?_); refine goesL_ (some 35) rfl rfl Try.func31 yK rfl #[.slice A0 l0.length c0, .slice A1 l1.length c1] rfl yG ?_; (with_reducible refine (patchworkref8_Inter.calls kj3 _ _ l0 _ _ l1 t892 t893 _ (yC (Kd.C_below HR0.out HB.out)) HC0.out (yC (Kd.C_below HR1.out HB.out)) HC1.out A14.out).mono ?_); rintro e w30 ⟨v894, rfl, ho0, hb⟩; refine ⟨_, rfl, ?_⟩; have HO895 := aM (Kd.R_lower (Kd.R_new' (Kd.R_new' (Kd.R_new' ho0 (Kd.R_lt (yH HO884.out))) (Kd.R_lt (yH HO887.out))) (Kd.R_lt (yH HO891.out))) yW); replace HO884 := aM (Kd.R_elder' (yH HO884.out) (Kd.R_base ho0) hb); replace HO887 := aM (Kd.R_elder' (yH HO887.out) (Kd.R_base ho0) hb); replace HO891 := aM (Kd.R_elder' (yH HO891.out) (Kd.R_base ho0) hb); replace HB := aM (below_step yB hb); clear hb ho0; obtain ⟨Ao31, co31, eo31⟩ := Kd.R_slice HO891.out; subst eo31; obtain ⟨Ao32, co32, eo32⟩ := Kd.R_slice HO895.out; subst eo32) | ((with_reducible refine gate_callee (f := 18) rfl ?_); refine goesL_ (some 40) rfl rfl Try.func18 yK rfl #[.slice Ao31 t888.length co31, .slice Ao32 t892.length co32] rfl yG ?_; (with_reducible refine (patchworkref8_Same.calls kj3 _ _ t888 _ _ t892 false _ (yC (Kd.R_reads' HO891.out).2.2) ((Kd.R_reads' HO891.out).2.1) (yC (Kd.R_reads' HO895.out).2.2) ((Kd.R_reads' HO895.out).2.1) A15.out).mono ?_); rintro e w' ⟨rfl, ⟨nd, rfl⟩⟩; refine ⟨_, rfl, ?_⟩))
       go_ret
       exact ⟨yE2, yB⟩
     ·rw [if_neg c12] at H
      exact absurd H (by simp)
    ·rw [if_neg c11] at H
     exact absurd H (by simp)
end Go.Proofs.Ytfoponahdidddaa.P
