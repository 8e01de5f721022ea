/- Own and printed texts that the theorem of TidyIdle reaches, put together. -/
import Derived.Test.YtacpejblnjgcoaaqTidyIdle4
import Derived.Test.YtacpejblnjgcoaaqTidyIdle3
import Derived.Test.YtacpejblnjgcoaaqTidyIdle9
set_option linter.unusedVariables false
set_option linter.unusedSimpArgs false
namespace Go.Proofs.Ytacpejblnjgcoaa.P
open Go.RowKit Go.Proofs.YtacpejblnjgcoaaW.PrintWords Go.Proofs.YtacpejblnjgcoaaW.PrintLast Go.Proofs.YtacpejblnjgcoaaW.PrintMore
open Go.Proofs.YtacpejblnjgcoaaW.PrintWords.Aside0 renaming mk → aM
open Go.World renaming block_lt_of_cell? → bL
attribute [local go_sem] max2_int min2_int max_two min_two max_three min_three max_four min_four
set_option maxHeartbeats 8000000 in
set_option maxRecDepth 100000 in
theorem patchworkref1_PutNum.calls (k : Nat) : ∀ (a0 : Int) (r : ByteArray) (w : World) (h : patchworkref1_PutNum.f k a0 = some r),
  Calls Try.prog 39 #[.int .i64 a0] w fun e w' => e = .returned (.string r) ∧ Drawn0 w w' := by
 induction k using Nat.strongRecOn with
 | _ k ih =>
 intro a0 r w h
 cases k with
 | zero => exact absurd h (by simp [patchworkref1_PutNum.f])
 | succ k =>
 simp only [patchworkref1_PutNum.f] at h
 have H : (if a0 ≤ (-10) then ((patchworkref1_PutNum.f k (wrap64 (-(wrap64 (Int.tdiv a0 10))))).bind fun t423 => (if 1 + t423.size ≤ 9223372036854775807 then ((patchworkref1_PutNum.f k (wrap64 (-(Int.tmod a0 10)))).bind fun t424 => (if ((⟨#[45]⟩ : ByteArray) ++ t423).size + t424.size ≤ 9223372036854775807 then (some (((⟨#[45]⟩ : ByteArray) ++ t423) ++ t424)) else (none))) else (none))) else (if a0 < 0 then ((patchworkref1_PutNum.f k (wrap64 (-a0))).bind fun t425 => (if 1 + t425.size ≤ 9223372036854775807 then (some ((⟨#[45]⟩ : ByteArray) ++ t425)) else (none))) else (if 0 ≤ (Int.tmod a0 10) then (if (Int.tmod a0 10) ≤ (wrap64 ((Int.tmod a0 10) + 1)) then (if (wrap64 ((Int.tmod a0 10) + 1)) ≤ 10 then (if a0 > 9 then ((patchworkref1_PutNum.f k (wrap64 (Int.tdiv a0 10))).bind fun t426 => (if t426.size + ((⟨#[48, 49, 50, 51, 52, 53, 54, 55, 56, 57]⟩ : ByteArray).extract ((Int.tmod a0 10) : Int).toNat ((wrap64 ((Int.tmod a0 10) + 1)) : Int).toNat).size ≤ 9223372036854775807 then (some (t426 ++ ((⟨#[48, 49, 50, 51, 52, 53, 54, 55, 56, 57]⟩ : ByteArray).extract ((Int.tmod a0 10) : Int).toNat ((wrap64 ((Int.tmod a0 10) + 1)) : Int).toNat))) else (none))) else (some ((⟨#[48, 49, 50, 51, 52, 53, 54, 55, 56, 57]⟩ : ByteArray).extract ((Int.tmod a0 10) : Int).toNat ((wrap64 ((Int.tmod a0 10) + 1)) : Int).toNat))) else (none)) else (none)) else (none)))) = some r := h
 clear h
 by_cases c2 : a0 ≤ (-10)
 ·rw [if_pos c2] at H
  have c2b0 := decide_eq_true c2; clear c2; replace H := oB H; obtain ⟨t423, A3, H⟩ := H
  by_cases c4 : 1 + t423.size ≤ 9223372036854775807
  ·rw [if_pos c4] at H
   have c4b0 := eq_true c4; have c4b1 := decide_eq_true c4
   try have c4b2 : (9223372036854775807 < 1 + t423.size) = False := eq_false (Nat.not_lt.2 c4)
   replace H := oB H; obtain ⟨t424, A5, H⟩ := H
   by_cases c6 : ((⟨#[45]⟩ : ByteArray) ++ t423).size + t424.size ≤ 9223372036854775807
   ·rw [if_pos c6] at H
    have c6b0 := eq_true c6; have c6b1 := decide_eq_true c6
    try have c6b2 : (9223372036854775807 < ((⟨#[45]⟩ : ByteArray) ++ t423).size + t424.size) = False := eq_false (Nat.not_lt.2 c6)
    try have c6b3 : (9223372036854775807 < 1 + t423.size + t424.size) = False := eq_false (by have q := c6; rw [ByteArray.size_append] at q; exact Nat.not_lt.2 q)
    obtain rfl := Option.some.inj H
    go_enter Try.func39, Try.ntmps39
    go_wp2_with (first | ((with_reducible refine gate_callee (f := 39) rfl ?_); refine goesL_ (some 10) rfl rfl Try.func39 yK rfl #[.int .i64 (wrap64 (-(wrap64 (Int.tdiv a0 10))))] rfl yG ?_; (with_reducible refine (ih k (by omega) (wrap64 (-(wrap64 (Int.tdiv a0 10)))) t423 _ A3.out).mono ?_); rintro e w' ⟨rfl, ⟨nd, rfl⟩⟩; refine ⟨_, rfl, ?_⟩) | ((with_reducible refine gate_callee (f := 39) rfl ?_); refine goesL_ (some 15) rfl rfl Try.func39 yK rfl #[.int .i64 (wrap64 (-(Int.tmod a0 10)))] rfl yG ?_; (with_reducible refine (ih k (by omega) (wrap64 (-(Int.tmod a0 10))) t424 _ A5.out).mono ?_); rintro e w' ⟨rfl, ⟨nd, rfl⟩⟩; refine ⟨_, rfl, ?_⟩))
    go_ret
    exact ⟨yE, yD⟩
   ·rw [if_neg c6] at H
    exact absurd H (by simp)
  ·rw [if_neg c4] at H
   exact absurd H (by simp)
 ·rw [if_neg c2] at H
  have c2b0 := decide_eq_false c2; clear c2
  by_cases c7 : a0 < 0
  ·rw [if_pos c7] at H
   have c7b0 := decide_eq_true c7; clear c7; replace H := oB H; obtain ⟨t425, A8, H⟩ := H
   by_cases c9 : 1 + t425.size ≤ 9223372036854775807
   ·rw [if_pos c9] at H
    have c9b0 := eq_true c9; have c9b1 := decide_eq_true c9
    try have c9b2 : (9223372036854775807 < 1 + t425.size) = False := eq_false (Nat.not_lt.2 c9)
    obtain rfl := Option.some.inj H
    go_enter Try.func39, Try.ntmps39
    go_wp2_with (first | ((with_reducible refine gate_callee (f := 39) rfl ?_); refine goesL_ (some 22) rfl rfl Try.func39 yK rfl #[.int .i64 (wrap64 (-a0))] rfl yG ?_; (with_reducible refine (ih k (by omega) (wrap64 (-a0)) t425 _ A8.out).mono ?_); rintro e w' ⟨rfl, ⟨nd, rfl⟩⟩; refine ⟨_, rfl, ?_⟩))
    go_ret
    exact ⟨yE, yD⟩
   ·rw [if_neg c9] at H
    exact absurd H (by simp)
  ·rw [if_neg c7] at H
   have c7b0 := decide_eq_false c7; clear c7; obtain ⟨ji10, hji10⟩ : ∃ j_ : Int, (Int.tmod a0 10) = j_ := ⟨_, rfl⟩; replace H : (if 0 ≤ (ji10) then (if (ji10) ≤ (wrap64 ((ji10) + 1)) then (if (wrap64 ((ji10) + 1)) ≤ 10 then (if a0 > 9 then ((patchworkref1_PutNum.f k (wrap64 (Int.tdiv a0 10))).bind fun t426 => (if t426.size + ((⟨#[48, 49, 50, 51, 52, 53, 54, 55, 56, 57]⟩ : ByteArray).extract ((ji10) : Int).toNat ((wrap64 ((ji10) + 1)) : Int).toNat).size ≤ 9223372036854775807 then (some (t426 ++ ((⟨#[48, 49, 50, 51, 52, 53, 54, 55, 56, 57]⟩ : ByteArray).extract ((ji10) : Int).toNat ((wrap64 ((ji10) + 1)) : Int).toNat))) else (none))) else (some ((⟨#[48, 49, 50, 51, 52, 53, 54, 55, 56, 57]⟩ : ByteArray).extract ((ji10) : Int).toNat ((wrap64 ((ji10) + 1)) : Int).toNat))) else (none)) else (none)) else (none)) = some r := by first | (rw [hji10] at H; exact H) | (simp only [hji10] at H ⊢; exact H)
   by_cases c11 : 0 ≤ (ji10)
   ·rw [if_pos c11] at H
    have c11b0 := eq_true c11; have c11b1 := decide_eq_true c11; clear c11
    by_cases c12 : (ji10) ≤ (wrap64 ((ji10) + 1))
    ·rw [if_pos c12] at H
     have c12b0 := eq_true c12; have c12b1 := decide_eq_true c12
     by_cases c13 : (wrap64 ((ji10) + 1)) ≤ 10
     ·rw [if_pos c13] at H
      have c13b0 := eq_true c13; have c13b1 := decide_eq_true c13
      by_cases c14 : a0 > 9
      ·rw [if_pos c14] at H
       have c14b0 := decide_eq_true c14; clear c14; replace H := oB H; obtain ⟨t426, A15, H⟩ := H
       by_cases c16 : t426.size + ((⟨#[48, 49, 50, 51, 52, 53, 54, 55, 56, 57]⟩ : ByteArray).extract ((ji10) : Int).toNat ((wrap64 ((ji10) + 1)) : Int).toNat).size ≤ 9223372036854775807
       ·rw [if_pos c16] at H
        have c16b0 := eq_true c16; have c16b1 := decide_eq_true c16
        try have c16b2 : (9223372036854775807 < t426.size + ((⟨#[48, 49, 50, 51, 52, 53, 54, 55, 56, 57]⟩ : ByteArray).extract ((ji10) : Int).toNat ((wrap64 ((ji10) + 1)) : Int).toNat).size) = False := eq_false (Nat.not_lt.2 c16)
        obtain rfl := Option.some.inj H
        go_enter Try.func39, Try.ntmps39
        go_wp2_with (first | ((with_reducible refine gate_callee (f := 39) rfl ?_); refine goesL_ (some 34) rfl rfl Try.func39 yK rfl #[.int .i64 (wrap64 (Int.tdiv a0 10))] rfl yG ?_; (with_reducible refine (ih k (by omega) (wrap64 (Int.tdiv a0 10)) t426 _ A15.out).mono ?_); rintro e w' ⟨rfl, ⟨nd, rfl⟩⟩; refine ⟨_, rfl, ?_⟩))
        go_ret
        exact ⟨by first | rfl | (simp; done) | (simp only [← hji10] <;> (first | rfl | simp)) | (simp [*]; done), yD⟩
       ·rw [if_neg c16] at H
        exact absurd H (by simp)
      ·rw [if_neg c14] at H
       have c14b0 := decide_eq_false c14; clear c14; obtain rfl := Option.some.inj H
       go_enter Try.func39, Try.ntmps39
       go_wp2
       go_ret
       exact ⟨by first | rfl | (simp; done) | (simp only [← hji10] <;> (first | rfl | simp)) | (simp [*]; done), yD⟩
     ·rw [if_neg c13] at H
      exact absurd H (by simp)
    ·rw [if_neg c12] at H
     exact absurd H (by simp)
   ·rw [if_neg c11] at H
    exact absurd H (by simp)
set_option maxHeartbeats 8000000 in
set_option maxRecDepth 100000 in
theorem patchworkref8_Witness.calls (k : Nat) (A0 : Option Addr) (c0 : Nat) (l0 : List (Op)) (r : List ByteArray) (w : World) (hr0 : Kd.C kOp w A0 l0.length l0) (hc0 : l0.length ≤ c0) (h : patchworkref8_Witness.f k l0 = some r) :
  Calls Try.prog 25 #[.slice A0 l0.length c0] w fun e w' => ∃ v0_ : Value, e = .returned (v0_) ∧ Kd.R Kd.string 9 w' w.heap.size (fun _ => True) v0_ r ∧ Below w.heap.size w w' := by
 have HR0 := aM hr0
 have HC0 := aM hc0
 clear hr0 hc0
 have HB := aM (Below.refl w.heap.size w)
 have H : ((patchworkref8_Right.f k l0).bind fun t427 => (if t427 = true then ((patchworkref8_Olds.f k l0).bind fun t428 => (patchworkref8_Witness.j0 k l0 (decide (t428 > 5000)))) else (patchworkref8_Witness.j0 k l0 true))) = some r := h
 clear h
 have HC2 := aM H
 clear H
 go_enter Try.func25, Try.ntmps25
 go_upto_region 1 with (fail)
 go_cut [13] (fun v13 wc => ∃ (kq : Nat) (x13_1 : Bool), v13 = .bool x13_1 ∧ Aside0 (patchworkref8_Witness.j0 kq l0 x13_1 = some r) ∧ Aside0 (kq ≤ k) ∧ Aside0 (Below w.heap.size w wc))
 case first =>
  have H := HC2.out; clear HC2; replace H := oB H; obtain ⟨t427, A3, H⟩ := H
  by_cases c4 : t427 = true
  ·subst c4
   replace H := iT H; replace H := oB H; obtain ⟨t428, A5, H⟩ := H; have H' := aM H; clear H
   go_wp2_with (first | ((with_reducible refine gate_callee (f := 21) rfl ?_); refine goesL_ (some 7) rfl rfl Try.func21 yK rfl #[.slice A0 l0.length c0] rfl yG ?_; (with_reducible refine (patchworkref8_Right.calls k _ _ l0 true _ (yC (Kd.C_below HR0.out HB.out)) HC0.out A3.out).mono ?_); rintro e w6 ⟨rfl, hb⟩; refine ⟨_, rfl, ?_⟩; replace HB := aM (below_step yB hb); clear hb) | (go_at_call 26; (with_reducible refine (patchworkref8_Olds.calls k _ _ l0 t428 _ (yC (Kd.C_below HR0.out HB.out)) HC0.out A5.out).mono ?_); rintro e w7 ⟨rfl, hb⟩; replace HB := aM (below_step yB hb); clear hb))
   go_meet
   case rel => exact ⟨_, (decide (t428 > 5000)), yE, H', ⟨by first | omega | exact Nat.le_refl _⟩, ⟨yB⟩⟩
  ·replace c4 := Bool.eq_false_iff.mpr c4
   subst c4; have H' := aM (iF H); clear H
   go_wp2_with (first | ((with_reducible refine gate_callee (f := 21) rfl ?_); refine goesL_ (some 7) rfl rfl Try.func21 yK rfl #[.slice A0 l0.length c0] rfl yG ?_; (with_reducible refine (patchworkref8_Right.calls k _ _ l0 false _ (yC (Kd.C_below HR0.out HB.out)) HC0.out A3.out).mono ?_); rintro e w8 ⟨rfl, hb⟩; refine ⟨_, rfl, ?_⟩; replace HB := aM (below_step yB hb); clear hb))
   go_meet
   case rel => exact ⟨_, (true), yE, H', ⟨by first | omega | exact Nat.le_refl _⟩, ⟨yB⟩⟩
 case rest =>
  clear HC2; (try clear c2); (try clear p2); (try clear c4); obtain ⟨kq, x13_1, rfl, HA, HJ1, HB⟩ := hcut; cases kq with
  | zero => exact absurd HA.out (by simp [patchworkref8_Witness.j0])
  | succ kj1 =>
   have H := HA.out; clear HA; simp only [patchworkref8_Witness.j0] at H
   by_cases c9 : x13_1 = true
   ·subst c9
    replace H := iT H; obtain rfl := Option.some.inj H
    go_wp2
    go_ret
    exact ⟨_, by first | rfl | (simp [errW_none, errW_some] <;> rfl) | (simp [*, errW_none, errW_some] <;> rfl), by first | exact Kd.R_nil _ _ _ _ _ | exact Kd.N_nil _ _ _ _ _ | exact Kd.V_nil _ _ _ _ _ | exact Kd.Q_nil _ _ _ _ _ | exact Kd.S_nil _ _ _ _ _, yB⟩
   ·replace c9 := Bool.eq_false_iff.mpr c9
    subst c9; have H' := aM (iF H); clear H
    go_wp2
    go_loopg [3, 4] kj1 (fun kq v3 v4 w' => ∃ (x3_2 : List ByteArray) (x4_2 : Int), v4 = .int .i64 x4_2 ∧ Aside0 (patchworkref8_Witness.l0 kq l0 x3_2 x4_2 = some r) ∧ Aside0 (kq ≤ kj1) ∧ Aside0 (Kd.R Kd.string 9 w' w.heap.size (fun _ => True) v3 x3_2) ∧ Aside0 (Below w.heap.size w w'))
    case atStart => exact ⟨(([] : List ByteArray)), (0), yE, H', ⟨Nat.le_refl _⟩, ⟨by first | exact Kd.R_nil _ _ _ _ _ | exact Kd.N_nil _ _ _ _ _ | exact Kd.V_nil _ _ _ _ _ | exact Kd.Q_nil _ _ _ _ _ | exact Kd.S_nil _ _ _ _ _⟩, ⟨yB⟩⟩
    case round =>
     clear H'; (try clear c2); (try clear p2); (try clear c4); (try clear c9); (try clear p2); obtain ⟨x3_2, x4_2, rfl, HA, HK2, HO_3, HB⟩ := hrel; cases gk with
     | zero => exact absurd HA.out (by simp [patchworkref8_Witness.l0])
     | succ k2 =>
      have H := HA.out; clear HA; simp only [patchworkref8_Witness.l0] at H
      by_cases c10 : x4_2 < (l0.length : Int)
      ·rw [if_pos c10] at H
       have c10b0 := decide_eq_true c10; clear c10
       by_cases c11 : 0 ≤ x4_2
       ·rw [if_pos c11] at H
        have c11b0 := decide_eq_true c11; clear c11
        by_cases c12 : ((rd_Op l0 x4_2).f0) = 1
        ·rw [if_pos c12] at H
         have c12b0 := beq_iff_eq.mpr c12; have c12b1 := bne_eq_false_iff_eq.mpr c12; clear c12; have H' := aM H; clear H; have p429 : 0 ≤ (x4_2 : Int) := yO; have q429 : x4_2 < (l0.length : Int) := yO; obtain ⟨ad429, e429, hx429_0, hx429_1, hx429_2⟩ := at_OpB HB.out HR0.out x4_2 p429 q429; cases e429; replace p429 := eq_true p429; replace q429 := eq_true q429
         go_wp2
         go_loopg [3, 5] k2 (fun kq v3 v5 w' => ∃ (x3_3 : List ByteArray) (x5_3 : Int), v5 = .int .i64 x5_3 ∧ Aside0 (patchworkref8_Witness.l1 kq l0 x3_3 x4_2 x5_3 = some r) ∧ Aside0 (kq ≤ k2) ∧ Aside0 (Kd.R Kd.string 9 w' w.heap.size (fun _ => True) v3 x3_3) ∧ Aside0 (Below w.heap.size w w'))
         case atStart => exact ⟨(x3_2), (0), yE, H', ⟨Nat.le_refl _⟩, ⟨yH HO_3.out⟩, ⟨yB⟩⟩
         case round =>
          clear H'; (try clear c1); (try clear c2); (try clear p2); (try clear c4); (try clear p4); (try clear q4); (try clear hx4); (try clear c9); (try clear c10); (try clear c10b0); (try clear c11); (try clear c11b0); (try clear c12); (try clear c12b0); (try clear c12b1); (try clear hx429_0); (try clear hx429_1); (try clear hx429_2); (try clear p2); (try clear p429); (try clear q429); obtain ⟨x3_3, x5_3, rfl, HA, HK3, HO_3, HB⟩ := hrel; cases gk with
          | zero => exact absurd HA.out (by simp [patchworkref8_Witness.l1])
          | succ k3 =>
           have H := HA.out; clear HA; simp only [patchworkref8_Witness.l1] at H
           by_cases c13 : 0 ≤ x4_2
           ·rw [if_pos c13] at H
            have c13b0 := decide_eq_true c13; clear c13
            by_cases c14 : x4_2 < (l0.length : Int)
            ·rw [if_pos c14] at H
             have c14b0 := decide_eq_true c14; clear c14
             by_cases c15 : x5_3 < ((rd_Op l0 x4_2).f1)
             ·rw [if_pos c15] at H
              have c15b0 := decide_eq_true c15; clear c15; replace H := oB H; obtain ⟨t431, A16, H⟩ := H
              by_cases c17 : 1 + t431.size ≤ 9223372036854775807
              ·rw [if_pos c17] at H
               have c17b0 := eq_true c17; have c17b1 := decide_eq_true c17
               try have c17b2 : (9223372036854775807 < 1 + t431.size) = False := eq_false (Nat.not_lt.2 c17)
               by_cases c18 : ((⟨#[63]⟩ : ByteArray) ++ t431).size + 1 ≤ 9223372036854775807
               ·rw [if_pos c18] at H
                have c18b0 := eq_true c18; have c18b1 := decide_eq_true c18
                try have c18b2 : (9223372036854775807 < ((⟨#[63]⟩ : ByteArray) ++ t431).size + 1) = False := eq_false (Nat.not_lt.2 c18)
                try have c18b3 : (9223372036854775807 < 1 + t431.size + 1) = False := eq_false (by have q := c18; rw [ByteArray.size_append] at q; exact Nat.not_lt.2 q)
                by_cases c19 : x3_3.length < 8796093022208
                ·rw [if_pos c19] at H
                 have LMc19 := aM c19; clear c19; obtain ⟨y432, hy432⟩ : ∃ y_ : List ByteArray, y_ = (x3_3 ++ [((⟨#[63]⟩ : ByteArray) ++ t431) ++ (⟨#[10]⟩ : ByteArray)]) := ⟨_, rfl⟩; replace H : (patchworkref8_Witness.l1 k3 l0 y432 x4_2 (wrap64 (x5_3 + 1))) = some r := yN hy432 H
                 have Ny432 := aM hy432; clear hy432; have H' := aM H; clear H; have p430 : 0 ≤ (x4_2 : Int) := yO; have q430 : x4_2 < (l0.length : Int) := yO; obtain ⟨ad430, e430, hx430_0, hx430_1, hx430_2⟩ := at_Op HR0.out x4_2 p430 q430; obtain rfl : ad429 = ad430 := (by injection e430); replace hx430_0 := (HB.out.cell (bL w _ hx430_0)).trans hx430_0; replace hx430_1 := (HB.out.cell (bL w _ hx430_1)).trans hx430_1; replace hx430_2 := (HB.out.cell (bL w _ hx430_2)).trans hx430_2; replace p430 := eq_true p430; replace q430 := eq_true q430; obtain ⟨Ao20, co20, eo20⟩ := Kd.R_slice HO_3.out; subst eo20
                 go_wp2_with (first | ((with_reducible refine gate_callee (f := 39) rfl ?_); refine goesL_ (some 39) rfl rfl Try.func39 yK rfl #[.int .i64 (x3_3.length : Int)] rfl yG ?_; (with_reducible refine (patchworkref1_PutNum.calls k3 (x3_3.length : Int) t431 _ A16.out).mono ?_); rintro e w' ⟨rfl, ⟨nd, rfl⟩⟩; refine ⟨_, rfl, ?_⟩) | ((with_reducible refine gate_builtin (b := .append) (xs := #[.tmp 36, .tmp 42]) rfl ?_); at_builtin; refine Kd.R_append Kd.string (w0 := w) w.heap.size rfl (.tmp 36) (.tmp 42) 27 9 (.string ⟨#[]⟩) 16 rfl Try.underlying27 info9 rfl (by decide) (by omega) (.slice Ao20 x3_3.length co20) x3_3 (((⟨#[63]⟩ : ByteArray) ++ t431) ++ (⟨#[10]⟩ : ByteArray)) [.string (((⟨#[63]⟩ : ByteArray) ++ t431) ++ (⟨#[10]⟩ : ByteArray))] (fun _ => True) (fun _ => False) rfl rfl ?aP (fun _ hk => hk.elim) ?aF ?aO ?aB ?aS ?aL ?_; (case aP => exact rfl); (case aB => exact yB); (case aF => exact (fun _ _ => trivial)); (case aO => exact (yH HO_3.out)); (case aS => exact yW); (case aL => have := LMc19.out; omega); intro v433 w21 ho hb hg hat; rw [← Ny432.out] at ho; have n0_ := aM (hb); have n1_ := aM (ho); clear HB; clear HO_3; have HB := n0_; have HO434 := n1_; clear n0_ n1_; clear ho hb hg hat))
                 go_roundg k3
                 case measure => have := HJ1.out; have := HK2.out; have := HK3.out; omega
                 case rel => exact ⟨(y432), (wrap64 (x5_3 + 1)), yE, H', ⟨by have := HJ1.out; have := HK2.out; have := HK3.out; omega⟩, ⟨yH HO434.out⟩, ⟨yB⟩⟩
                ·rw [if_neg c19] at H
                 exact absurd H (by simp)
               ·rw [if_neg c18] at H
                exact absurd H (by simp)
              ·rw [if_neg c17] at H
               exact absurd H (by simp)
             ·rw [if_neg c15] at H
              have c15b0 := decide_eq_false c15; clear c15; have H' := aM H; clear H; have p430 : 0 ≤ (x4_2 : Int) := yO; have q430 : x4_2 < (l0.length : Int) := yO; obtain ⟨ad430, e430, hx430_0, hx430_1, hx430_2⟩ := at_Op HR0.out x4_2 p430 q430; obtain rfl : ad429 = ad430 := (by injection e430); replace hx430_0 := (HB.out.cell (bL w _ hx430_0)).trans hx430_0; replace hx430_1 := (HB.out.cell (bL w _ hx430_1)).trans hx430_1; replace hx430_2 := (HB.out.cell (bL w _ hx430_2)).trans hx430_2; replace p430 := eq_true p430; replace q430 := eq_true q430
              go_wp2
              go_roundg k3
              case measure => have := HJ1.out; have := HK2.out; have := HK3.out; omega
              case rel => exact ⟨(x3_3), (wrap64 (x4_2 + 1)), yE, H', ⟨by have := HJ1.out; have := HK2.out; have := HK3.out; omega⟩, ⟨yH HO_3.out⟩, ⟨yB⟩⟩
            ·rw [if_neg c14] at H
             exact absurd H (by simp)
           ·rw [if_neg c13] at H
            exact absurd H (by simp)
        ·rw [if_neg c12] at H
         have c12b0 := beq_eq_false_iff_ne.mpr c12; have c12b1 := bne_iff_ne.mpr c12
         by_cases c22 : ((rd_Op l0 x4_2).f0) = 2
         ·rw [if_pos c22] at H
          have c22b0 := beq_iff_eq.mpr c22; have c22b1 := bne_eq_false_iff_eq.mpr c22; clear c22
          by_cases c23 : x3_2.length < 8796093022208
          ·rw [if_pos c23] at H
           have LMc23 := aM c23; clear c23; obtain ⟨y436, hy436⟩ : ∃ y_ : List ByteArray, y_ = (x3_2 ++ [(rd_Op l0 x4_2).f2]) := ⟨_, rfl⟩; replace H : (patchworkref8_Witness.l0 k2 l0 y436 (wrap64 (x4_2 + 1))) = some r := yN hy436 H
           have Ny436 := aM hy436; clear hy436; have H' := aM H; clear H; have p429 : 0 ≤ (x4_2 : Int) := yO; have q429 : x4_2 < (l0.length : Int) := yO; obtain ⟨ad429, e429, hx429_0, hx429_1, hx429_2⟩ := at_OpB HB.out HR0.out x4_2 p429 q429; cases e429; replace p429 := eq_true p429; replace q429 := eq_true q429; have p435 : 0 ≤ (x4_2 : Int) := yO; have q435 : x4_2 < (l0.length : Int) := yO; obtain ⟨ad435, e435, hx435_0, hx435_1, hx435_2⟩ := at_Op HR0.out x4_2 p435 q435; obtain rfl : ad429 = ad435 := (by injection e435); replace hx435_0 := (HB.out.cell (bL w _ hx435_0)).trans hx435_0; replace hx435_1 := (HB.out.cell (bL w _ hx435_1)).trans hx435_1; replace hx435_2 := (HB.out.cell (bL w _ hx435_2)).trans hx435_2; replace p435 := eq_true p435; replace q435 := eq_true q435
           go_wp2_with (first | ((with_reducible refine gate_builtin (b := .append) (xs := #[.tmp 47, .tmp 53]) rfl ?_); at_builtin; refine Kd.R_append Kd.string (w0 := w) w.heap.size rfl (.tmp 47) (.tmp 53) 27 9 (.string ⟨#[]⟩) 16 rfl Try.underlying27 info9 rfl (by decide) (by omega) u3 x3_2 ((rd_Op l0 x4_2).f2) [.string ((rd_Op l0 x4_2).f2)] (fun _ => True) (fun _ => False) rfl rfl ?aP (fun _ hk => hk.elim) ?aF ?aO ?aB ?aS ?aL ?_; (case aP => exact rfl); (case aB => exact yB); (case aF => exact (fun _ _ => trivial)); (case aO => exact (yH HO_3.out)); (case aS => exact yW); (case aL => have := LMc23.out; omega); intro v437 w24 ho hb hg hat; rw [← Ny436.out] at ho; have n0_ := aM (hb); have n1_ := aM (ho); clear HB; clear HO_3; have HB := n0_; have HO438 := n1_; clear n0_ n1_; clear ho hb hg hat))
           go_roundg k2
           case measure => have := HJ1.out; have := HK2.out; omega
           case rel => exact ⟨(y436), (wrap64 (x4_2 + 1)), yE, H', ⟨by have := HJ1.out; have := HK2.out; omega⟩, ⟨yH HO438.out⟩, ⟨yB⟩⟩
          ·rw [if_neg c23] at H
           exact absurd H (by simp)
         ·rw [if_neg c22] at H
          have c22b0 := beq_eq_false_iff_ne.mpr c22; have c22b1 := bne_iff_ne.mpr c22
          by_cases c25 : ((rd_Op l0 x4_2).f0) = 3
          ·rw [if_pos c25] at H
           have c25b0 := beq_iff_eq.mpr c25; have c25b1 := bne_eq_false_iff_eq.mpr c25; clear c25
           by_cases c26 : x3_2.length < 8796093022208
           ·rw [if_pos c26] at H
            have LMc26 := aM c26; clear c26; obtain ⟨y440, hy440⟩ : ∃ y_ : List ByteArray, y_ = (x3_2 ++ [(rd_Op l0 x4_2).f2]) := ⟨_, rfl⟩; replace H : (patchworkref8_Witness.l0 k2 l0 y440 (wrap64 (x4_2 + 1))) = some r := yN hy440 H
            have Ny440 := aM hy440; clear hy440; have H' := aM H; clear H; have p429 : 0 ≤ (x4_2 : Int) := yO; have q429 : x4_2 < (l0.length : Int) := yO; obtain ⟨ad429, e429, hx429_0, hx429_1, hx429_2⟩ := at_OpB HB.out HR0.out x4_2 p429 q429; cases e429; replace p429 := eq_true p429; replace q429 := eq_true q429; have p439 : 0 ≤ (x4_2 : Int) := yO; have q439 : x4_2 < (l0.length : Int) := yO; obtain ⟨ad439, e439, hx439_0, hx439_1, hx439_2⟩ := at_Op HR0.out x4_2 p439 q439; obtain rfl : ad429 = ad439 := (by injection e439); replace hx439_0 := (HB.out.cell (bL w _ hx439_0)).trans hx439_0; replace hx439_1 := (HB.out.cell (bL w _ hx439_1)).trans hx439_1; replace hx439_2 := (HB.out.cell (bL w _ hx439_2)).trans hx439_2; replace p439 := eq_true p439; replace q439 := eq_true q439
            go_wp2_with (first | ((with_reducible refine gate_builtin (b := .append) (xs := #[.tmp 47, .tmp 53]) rfl ?_); at_builtin; refine Kd.R_append Kd.string (w0 := w) w.heap.size rfl (.tmp 47) (.tmp 53) 27 9 (.string ⟨#[]⟩) 16 rfl Try.underlying27 info9 rfl (by decide) (by omega) u3 x3_2 ((rd_Op l0 x4_2).f2) [.string ((rd_Op l0 x4_2).f2)] (fun _ => True) (fun _ => False) rfl rfl ?aP (fun _ hk => hk.elim) ?aF ?aO ?aB ?aS ?aL ?_; (case aP => exact rfl); (case aB => exact yB); (case aF => exact (fun _ _ => trivial)); (case aO => exact (yH HO_3.out)); (case aS => exact yW); (case aL => have := LMc26.out; omega); intro v441 w27 ho hb hg hat; rw [← Ny440.out] at ho; have n0_ := aM (hb); have n1_ := aM (ho); clear HB; clear HO_3; have HB := n0_; have HO442 := n1_; clear n0_ n1_; clear ho hb hg hat))
            go_roundg k2
            case measure => have := HJ1.out; have := HK2.out; omega
            case rel => exact ⟨(y440), (wrap64 (x4_2 + 1)), yE, H', ⟨by have := HJ1.out; have := HK2.out; omega⟩, ⟨yH HO442.out⟩, ⟨yB⟩⟩
           ·rw [if_neg c26] at H
            exact absurd H (by simp)
          ·rw [if_neg c25] at H
           have c25b0 := beq_eq_false_iff_ne.mpr c25; have c25b1 := bne_iff_ne.mpr c25; have H' := aM H; clear H; have p429 : 0 ≤ (x4_2 : Int) := yO; have q429 : x4_2 < (l0.length : Int) := yO; obtain ⟨ad429, e429, hx429_0, hx429_1, hx429_2⟩ := at_OpB HB.out HR0.out x4_2 p429 q429; cases e429; replace p429 := eq_true p429; replace q429 := eq_true q429
           go_wp2
           go_roundg k2
           case measure => have := HJ1.out; have := HK2.out; omega
           case rel => exact ⟨(x3_2), (wrap64 (x4_2 + 1)), yE, H', ⟨by have := HJ1.out; have := HK2.out; omega⟩, ⟨yH HO_3.out⟩, ⟨yB⟩⟩
       ·rw [if_neg c11] at H
        exact absurd H (by simp)
      ·rw [if_neg c10] at H
       have c10b0 := decide_eq_false c10; clear c10; obtain rfl := Option.some.inj H
       go_wp2
       go_ret
       exact ⟨_, by first | rfl | (simp [errW_none, errW_some] <;> rfl) | (simp [*, errW_none, errW_some] <;> rfl), by (with_reducible repeat (first | apply Kd.R_alloc | apply Kd.R_drewN | apply Kd.R_drew)); exact HO_3.out, yB⟩
end Go.Proofs.Ytacpejblnjgcoaa.P
