/- Own and printed texts that the theorem of SwapApart reaches, put together. -/
import Derived.Test.YtfoponahdidddaaqSwapApart4
import Derived.Test.YtfoponahdidddaaqSwapApart3
import Derived.Test.YtfoponahdidddaaqSwapApart5
import Derived.Test.YtfoponahdidddaaqSwapApart10
import Derived.Test.YtfoponahdidddaaqSwapApart11
set_option linter.unusedVariables false
set_option linter.unusedSimpArgs false
namespace Go.Proofs.Ytfoponahdidddaa.P
open Go.RowKit Go.Proofs.YtfoponahdidddaaW.PrintWords Go.Proofs.YtfoponahdidddaaW.PrintLast Go.Proofs.YtfoponahdidddaaW.PrintMore
open Go.Proofs.YtfoponahdidddaaW.PrintWords renaming blk_alloc → kA, blk_drewN → kN, blk_drew → kD
open Go.Proofs.YtfoponahdidddaaW.PrintWords.Aside0 renaming mk → aM
open Go.World renaming block_lt_of_cell? → bL
attribute [local go_sem] max2_int min2_int max_two min_two max_three min_three max_four min_four
attribute [local go_sem high] eqAOp
set_option maxHeartbeats 8000000 in
set_option maxRecDepth 100000 in
theorem patchworkref8_Rest.calls (k : Nat) (A0 : Option Addr) (c0 : Nat) (l0 : List (Op)) (r : List (Op)) (w : World) (hr0 : Kd.C kOp w A0 l0.length l0) (hc0 : l0.length ≤ c0) (h : patchworkref8_Rest.f k l0 = some r) :
  Calls Try.prog 28 #[.slice A0 l0.length c0] w fun e w' => ∃ v0_ : Value, e = .returned (v0_) ∧ Kd.R kOp 41 w' w.heap.size (fun _ => True) v0_ r ∧ Below w.heap.size w w' := by
 have HR0 := aM hr0
 have HC0 := aM hc0
 clear hr0 hc0
 have HB := aM (Below.refl w.heap.size w)
 have H : (patchworkref8_Rest.l0 k l0 (l0.length : Int)) = some r := h
 clear h
 have H' := aM H
 clear H
 go_enter Try.func28, Try.ntmps28
 go_wp2
 go_loopg [3] k (fun kq v3 w' => ∃ (x3_1 : Int), v3 = .int .i64 x3_1 ∧ Aside0 (patchworkref8_Rest.l0 kq l0 x3_1 = some r) ∧ Aside0 (kq ≤ k) ∧ Aside0 (Below w.heap.size w w'))
 case atStart => exact ⟨((l0.length : Int)), yE, H', ⟨Nat.le_refl _⟩, ⟨yB⟩⟩
 case round =>
  clear H'; obtain ⟨x3_1, rfl, HA, HK1, HB⟩ := hrel; cases gk with
  | zero => exact absurd HA.out (by simp [patchworkref8_Rest.l0])
  | succ k1 =>
   have H := HA.out; clear HA; simp only [patchworkref8_Rest.l0] at H
   by_cases c2 : x3_1 > 0
   ·rw [if_pos c2] at H
    have c2b0 := decide_eq_true c2; clear c2; obtain ⟨ji3, hji3⟩ : ∃ j_ : Int, (wrap64 (x3_1 - 1)) = j_ := ⟨_, rfl⟩; replace H : (if 0 ≤ (ji3) then (if (ji3) < (l0.length : Int) then (if ((rd_Op l0 (ji3)).f0) = 1 then (patchworkref8_Rest.l0 k1 l0 ji3) else (if 0 ≤ x3_1 then (if x3_1 ≤ (l0.length : Int) then ((some (l0.take (x3_1 : Int).toNat : List (Op))).bind fun y491 => (if ([] : List (Op)).length + y491.length < 4398046511104 then (some (([] : List (Op)) ++ y491)) else (none))) else (none)) else (none))) else (none)) else (none)) = some r := by first | (rw [hji3] at H; exact H) | (simp only [hji3] at H ⊢; exact H)
    have hji3w : (IntKind.i64.wrap (x3_1 - 1)) = ji3 := (i64_w _).trans hji3
    by_cases c4 : 0 ≤ (ji3)
    ·rw [if_pos c4] at H
     have c4b0 := decide_eq_true c4; clear c4
     by_cases c5 : (ji3) < (l0.length : Int)
     ·rw [if_pos c5] at H
      have c5b0 := decide_eq_true c5; clear c5
      by_cases c6 : ((rd_Op l0 (ji3)).f0) = 1
      ·rw [if_pos c6] at H
       have c6b0 := beq_iff_eq.mpr c6; have c6b1 := bne_eq_false_iff_eq.mpr c6; clear c6; have H' := aM H; clear H; have p490 : 0 ≤ ((ji3) : Int) := yO; have q490 : (ji3) < (l0.length : Int) := yO; obtain ⟨ad490, e490, hx490_0, hx490_1, hx490_2⟩ := at_OpB HB.out HR0.out (ji3) p490 q490; cases e490; replace p490 := eq_true p490; replace q490 := eq_true q490
       go_wp2
       go_roundg k1
       case measure => have := HK1.out; omega
       case rel => exact ⟨(ji3), (by first | rfl | (simp; done) | (simp only [← hji3] <;> (first | rfl | simp)) | (simp [*]; done)), H', ⟨by have := HK1.out; omega⟩, ⟨yB⟩⟩
      ·rw [if_neg c6] at H
       have c6b0 := beq_eq_false_iff_ne.mpr c6; have c6b1 := bne_iff_ne.mpr c6
       by_cases c7 : 0 ≤ x3_1
       ·rw [if_pos c7] at H
        have c7b0 := eq_true c7; have c7b1 := decide_eq_true c7; clear c7
        by_cases c8 : x3_1 ≤ (l0.length : Int)
        ·rw [if_pos c8] at H
         have c8b0 := eq_true c8; have c8b1 := decide_eq_true c8; clear c8; obtain ⟨y491, Ny491, H⟩ := oS H
         by_cases c9 : ([] : List (Op)).length + y491.length < 4398046511104
         ·rw [if_pos c9] at H
          have LMc9 := aM c9; clear c9; obtain ⟨y495, hy495⟩ : ∃ y_ : List (Op), y_ = (([] : List (Op)) ++ y491) := ⟨_, rfl⟩; replace H : (some y495) = some r := yN hy495 H
          have Ny495 := aM hy495; clear hy495; obtain rfl := Option.some.inj H; have p490 : 0 ≤ ((ji3) : Int) := yO; have q490 : (ji3) < (l0.length : Int) := yO; obtain ⟨ad490, e490, hx490_0, hx490_1, hx490_2⟩ := at_OpB HB.out HR0.out (ji3) p490 q490; cases e490; replace p490 := eq_true p490; replace q490 := eq_true q490; have q10 : (x3_1 : Int) ≤ ((l0.length : Int) : Int) := yO; obtain ⟨i010, hi010, _, hsz10, _⟩ := info_parts info41; have hroom10 : l0.length ≤ c0 := HC0.out; have hC10 : Kd.C kOp _ (some ad490) l0.length l0 := HR0.out; have hcut10 := cut_to (P := Try.prog) 22 41 .i64 Try.underlying22 hi010 (some ad490) l0.length c0 x3_1 (yO) q10 hroom10; have hr10 := Kd.C_take (m := (x3_1 : Int).toNat) hC10 (by omega); have hy10 : y491.length = (x3_1 : Int).toNat := (by rw [Ny491.out, List.length_take]; omega); rw [← Ny491.out] at hr10; rw [← hy10] at hcut10; have HR494 := aM hr10; have HC494 := aM (show y491.length ≤ c0 from by omega); clear hr10 hC10 hroom10 hi010 hsz10; have KY10 := aM hy10; clear hy10; replace q10 := eq_true q10
          go_wp2_with (first | ((with_reducible refine gate_builtin (b := .append) (xs := #[.const (.slice none 0 0), .tmp 21]) rfl ?_); at_builtin; refine Kd.R_append_rows kOp (w0 := w) w.heap.size rfl (.const (.slice none 0 0)) (.tmp 21) 22 41 (.agg #[(.int .i64 0), (.int .i64 0), (.string ⟨#[]⟩)]) 32 rfl Try.underlying22 info41 rfl (by decide) (by omega) (.slice none 0 0) ([] : List (Op)) y491 _ _ _ (fun _ => True) (fun _ => False) rfl rfl ?aO ?aR (fun _ _ h => h) (fun _ h => h.elim) ?aF ?aB ?aS ?aL ?_; (case aR => repeat (first | exact (Kd.C_below HR494.out HB.out) | (with_reducible first | refine Kd.C_alloc ?_ _ | refine Kd.C_drewN ?_ _ | refine Kd.C_drew ?_))); (case aB => exact yB); (case aF => exact (fun _ _ => trivial)); (case aO => exact ((Kd.R_nil _ _ _ _ (fun _ => True)))); (case aS => exact yW); (case aL => have := LMc9.out; omega); intro v496 w11 ho hb hg hat; rw [← Ny495.out] at ho; replace HB := aM (hb); have HO497 := aM (ho); clear ho hb hg hat))
          go_ret
          exact ⟨_, by first | rfl | (simp [errW_none, errW_some] <;> rfl) | (simp only [← hji3]; first | rfl | (simp [errW_none, errW_some] <;> rfl)) | (simp [*, errW_none, errW_some] <;> rfl), by (with_reducible repeat (first | apply Kd.R_alloc | apply Kd.R_drewN | apply Kd.R_drew)); exact HO497.out, yB⟩
         ·rw [if_neg c9] at H
          exact absurd H (by simp)
        ·rw [if_neg c8] at H
         exact absurd H (by simp)
       ·rw [if_neg c7] at H
        exact absurd H (by simp)
     ·rw [if_neg c5] at H
      exact absurd H (by simp)
    ·rw [if_neg c4] at H
     exact absurd H (by simp)
   ·rw [if_neg c2] at H
    have c2b0 := decide_eq_false c2; clear c2
    by_cases c12 : 0 ≤ x3_1
    ·rw [if_pos c12] at H
     have c12b0 := eq_true c12; have c12b1 := decide_eq_true c12; clear c12
     by_cases c13 : x3_1 ≤ (l0.length : Int)
     ·rw [if_pos c13] at H
      have c13b0 := eq_true c13; have c13b1 := decide_eq_true c13; clear c13; obtain ⟨y498, hy498⟩ : ∃ y_ : List (Op), y_ = (l0.take (x3_1 : Int).toNat) := ⟨_, rfl⟩; replace H : (if ([] : List (Op)).length + y498.length < 4398046511104 then (some (([] : List (Op)) ++ y498)) else (none)) = some r := yN hy498 H
      have Ny498 := aM hy498; clear hy498
      by_cases c14 : ([] : List (Op)).length + y498.length < 4398046511104
      ·rw [if_pos c14] at H
       have LMc14 := aM c14; clear c14; obtain ⟨y502, hy502⟩ : ∃ y_ : List (Op), y_ = (([] : List (Op)) ++ y498) := ⟨_, rfl⟩; replace H : (some y502) = some r := yN hy502 H
       have Ny502 := aM hy502; clear hy502; obtain rfl := Option.some.inj H; have q15 : (x3_1 : Int) ≤ ((l0.length : Int) : Int) := yO; obtain ⟨i015, hi015, _, hsz15, _⟩ := info_parts info41; have hroom15 : l0.length ≤ c0 := HC0.out; have hC15 : Kd.C kOp _ A0 l0.length l0 := HR0.out; have hcut15 := cut_to (P := Try.prog) 22 41 .i64 Try.underlying22 hi015 A0 l0.length c0 x3_1 (yO) q15 hroom15; have hr15 := Kd.C_take (m := (x3_1 : Int).toNat) hC15 (by omega); have hy15 : y498.length = (x3_1 : Int).toNat := (by rw [Ny498.out, List.length_take]; omega); rw [← Ny498.out] at hr15; rw [← hy15] at hcut15; have HR501 := aM hr15; have HC501 := aM (show y498.length ≤ c0 from by omega); clear hr15 hC15 hroom15 hi015 hsz15; have KY15 := aM hy15; clear hy15; replace q15 := eq_true q15
       go_wp2_with (first | ((with_reducible refine gate_builtin (b := .append) (xs := #[.const (.slice none 0 0), .tmp 21]) rfl ?_); at_builtin; refine Kd.R_append_rows kOp (w0 := w) w.heap.size rfl (.const (.slice none 0 0)) (.tmp 21) 22 41 (.agg #[(.int .i64 0), (.int .i64 0), (.string ⟨#[]⟩)]) 32 rfl Try.underlying22 info41 rfl (by decide) (by omega) (.slice none 0 0) ([] : List (Op)) y498 _ _ _ (fun _ => True) (fun _ => False) rfl rfl ?aO ?aR (fun _ _ h => h) (fun _ h => h.elim) ?aF ?aB ?aS ?aL ?_; (case aR => repeat (first | exact (Kd.C_below HR501.out HB.out) | (with_reducible first | refine Kd.C_alloc ?_ _ | refine Kd.C_drewN ?_ _ | refine Kd.C_drew ?_))); (case aB => exact yB); (case aF => exact (fun _ _ => trivial)); (case aO => exact ((Kd.R_nil _ _ _ _ (fun _ => True)))); (case aS => exact yW); (case aL => have := LMc14.out; omega); intro v503 w16 ho hb hg hat; rw [← Ny502.out] at ho; replace HB := aM (hb); have HO504 := aM (ho); clear ho hb hg hat))
       go_ret
       exact ⟨_, by first | rfl | (simp [errW_none, errW_some] <;> rfl) | (simp [*, errW_none, errW_some] <;> rfl), by (with_reducible repeat (first | apply Kd.R_alloc | apply Kd.R_drewN | apply Kd.R_drew)); exact HO504.out, yB⟩
      ·rw [if_neg c14] at H
       exact absurd H (by simp)
     ·rw [if_neg c13] at H
      exact absurd H (by simp)
    ·rw [if_neg c12] at H
     exact absurd H (by simp)
set_option maxHeartbeats 8000000 in
set_option maxRecDepth 100000 in
theorem patchworkref1_Cap.calls (a0 : Int) (a1 : Int) (a2 : Int) (r : Int) (w : World) (h : patchworkref1_Cap.f a0 a1 a2 = some r) :
  Calls Try.prog 45 #[.int .i64 a0, .int .i64 a1, .int .i64 a2] w fun e w' => e = .returned (.int .i64 r) ∧ Drawn0 w w' := by
 have H : (if a0 < a1 then (some a1) else (if a0 > a2 then (some a2) else (some a0))) = some r := h
 clear h
 by_cases c4 : a0 < a1
 ·rw [if_pos c4] at H
  have c4b0 := decide_eq_true c4; clear c4; obtain rfl := Option.some.inj H
  go_enter Try.func45, Try.ntmps45
  go_wp2
  go_ret
  exact ⟨yE, yD⟩
 ·rw [if_neg c4] at H
  have c4b0 := decide_eq_false c4; clear c4
  by_cases c5 : a0 > a2
  ·rw [if_pos c5] at H
   have c5b0 := decide_eq_true c5; clear c5; obtain rfl := Option.some.inj H
   go_enter Try.func45, Try.ntmps45
   go_wp2
   go_ret
   exact ⟨yE, yD⟩
  ·rw [if_neg c5] at H
   have c5b0 := decide_eq_false c5; clear c5; obtain rfl := Option.some.inj H
   go_enter Try.func45, Try.ntmps45
   go_wp2
   go_ret
   exact ⟨yE, yD⟩
set_option maxHeartbeats 8000000 in
set_option maxRecDepth 100000 in
theorem patchworkref8_near.calls (k : Nat) (A0 : Option Addr) (c0 : Nat) (l0 : List (Op)) (a1 : Int) (a2 : Int) (a3 : Int) (r : Bool) (w : World) (hr0 : Kd.C kOp w A0 l0.length l0) (hc0 : l0.length ≤ c0) (h : patchworkref8_near.f k l0 a1 a2 a3 = some r) :
  Calls Try.prog 46 #[.slice A0 l0.length c0, .int .i64 a1, .int .i64 a2, .int .i64 a3] w fun e w' => e = .returned (.bool r) ∧ Below w.heap.size w w' := by
 have hu41 := Try.underlying41
 have HR0 := aM hr0
 have HC0 := aM hc0
 clear hr0 hc0
 have HB := aM (Below.refl w.heap.size w)
 have H : (patchworkref8_near.l0 k l0 a2 a3 0 (wrap64 (a1 + a2))) = some r := h
 clear h
 have H' := aM H
 clear H
 go_enter Try.func46, Try.ntmps46
 go_wp2
 go_loopg [9, 10] k (fun kq v9 v10 w' => ∃ (x9_1 : Int) (x10_1 : Int), v9 = .int .i64 x9_1 ∧ v10 = .int .i64 x10_1 ∧ Aside0 (patchworkref8_near.l0 kq l0 a2 a3 x9_1 x10_1 = some r) ∧ Aside0 (kq ≤ k) ∧ Aside0 (Below w.heap.size w w'))
 case atStart => exact ⟨(0), (wrap64 (a1 + a2)), yE, yE, H', ⟨Nat.le_refl _⟩, ⟨yB⟩⟩
 case round =>
  clear H'; (try clear p2); (try clear c4); obtain ⟨x9_1, x10_1, rfl, rfl, HA, HK1, HB⟩ := hrel; cases gk with
  | zero => exact absurd HA.out (by simp [patchworkref8_near.l0])
  | succ k1 =>
   have H := HA.out; clear HA; simp only [patchworkref8_near.l0] at H; have HC5 := aM H; clear H
   go_upto_region 3 with (fail)
   go_cut [21] (fun v21 wc => ∃ (kq : Nat) (x21_4 : Bool), v21 = .bool x21_4 ∧ Aside0 (patchworkref8_near.j1 kq l0 a2 a3 x9_1 x10_1 x21_4 = some r) ∧ Aside0 (kq ≤ k1) ∧ Aside0 (Below w.heap.size w wc))
   case first =>
    have H := HC5.out; clear HC5
    by_cases c6 : x10_1 ≥ 0
    ·rw [if_pos c6] at H
     have c6b0 := decide_eq_true c6; clear c6
     (first | rw [c6b0] | (simp only [i64_w, i32_w]; rw [c6b0]) | skip)
     have H' := aM H; clear H
     go_wp2
     go_meet
     case rel => exact ⟨_, (decide (x10_1 < (l0.length : Int))), yE, H', ⟨by have := HK1.out; first | omega | exact Nat.le_refl _⟩, ⟨yB⟩⟩
    ·rw [if_neg c6] at H
     have c6b0 := decide_eq_false c6; clear c6
     (first | rw [c6b0] | (simp only [i64_w, i32_w]; rw [c6b0]) | skip)
     have H' := aM H; clear H
     go_wp2
     go_meet
     case rel => exact ⟨_, (false), yE, H', ⟨by have := HK1.out; first | omega | exact Nat.le_refl _⟩, ⟨yB⟩⟩
   case rest =>
    clear HC5; (try clear p2); (try clear c4); (try clear c6); (try clear c6b0); (try clear p6); (try clear p2); obtain ⟨kq, x21_4, rfl, HA, HJ4, HB⟩ := hcut; cases kq with
    | zero => exact absurd HA.out (by simp [patchworkref8_near.j1])
    | succ kj4 =>
     have H := HA.out; clear HA; simp only [patchworkref8_near.j1] at H
     by_cases c7 : x21_4 = true
     ·subst c7
      replace H := iT H
      by_cases c8 : 0 ≤ x10_1
      ·rw [if_pos c8] at H
       have c8b0 := decide_eq_true c8; clear c8
       by_cases c9 : x10_1 < (l0.length : Int)
       ·rw [if_pos c9] at H
        have c9b0 := decide_eq_true c9; clear c9; obtain ⟨t507, A10, H⟩ := oB H
        by_cases c11 : t507 = true
        ·subst c11
         replace H := iT H; obtain rfl := Option.some.inj H; have p506 : 0 ≤ (x10_1 : Int) := yO; have q506 : x10_1 < (l0.length : Int) := yO; obtain ⟨ad506, e506, hx506_0, hx506_1, hx506_2⟩ := at_OpB HB.out HR0.out x10_1 p506 q506; cases e506; replace p506 := eq_true p506; replace q506 := eq_true q506
         go_wp2_with (first | ((with_reducible refine gate_callee (f := 58) rfl ?_); refine goesL_ (some 30) rfl rfl Try.func58 yK rfl #[.agg #[.int .i64 ((rd_Op l0 x10_1).f0), .int .i64 ((rd_Op l0 x10_1).f1), .string ((rd_Op l0 x10_1).f2)]] rfl yG ?_; (with_reducible refine (patchworkref8_change.calls ((rd_Op l0 x10_1).f0) ((rd_Op l0 x10_1).f1) ((rd_Op l0 x10_1).f2) true _ A10.out).mono ?_); rintro e w12 ⟨rfl, hb⟩; refine ⟨_, rfl, ?_⟩; replace HB := aM (below_step yB hb); clear hb))
         go_ret
         exact ⟨yE2, yB⟩
        ·replace c11 := Bool.eq_false_iff.mpr c11
         subst c11; replace H := iF H
         by_cases c13 : ((rd_Op l0 x10_1).f0) = 1
         ·rw [if_pos c13] at H
          have c13b0 := beq_iff_eq.mpr c13; have c13b1 := bne_eq_false_iff_eq.mpr c13; clear c13; obtain rfl := Option.some.inj H; have p506 : 0 ≤ (x10_1 : Int) := yO; have q506 : x10_1 < (l0.length : Int) := yO; obtain ⟨ad506, e506, hx506_0, hx506_1, hx506_2⟩ := at_OpB HB.out HR0.out x10_1 p506 q506; cases e506; replace p506 := eq_true p506; replace q506 := eq_true q506
          go_wp2_with (first | ((with_reducible refine gate_callee (f := 58) rfl ?_); refine goesL_ (some 30) rfl rfl Try.func58 yK rfl #[.agg #[.int .i64 ((rd_Op l0 x10_1).f0), .int .i64 ((rd_Op l0 x10_1).f1), .string ((rd_Op l0 x10_1).f2)]] rfl yG ?_; (with_reducible refine (patchworkref8_change.calls ((rd_Op l0 x10_1).f0) ((rd_Op l0 x10_1).f1) ((rd_Op l0 x10_1).f2) false _ A10.out).mono ?_); rintro e w14 ⟨rfl, hb⟩; refine ⟨_, rfl, ?_⟩; replace HB := aM (below_step yB hb); clear hb; have p508 : 0 ≤ (x10_1 : Int) := yO; have q508 : x10_1 < (l0.length : Int) := yO; obtain ⟨ad508, e508, hx508_0, hx508_1, hx508_2⟩ := at_Op HR0.out x10_1 p508 q508; obtain rfl : ad506 = ad508 := (by injection e508); replace hx508_0 := (HB.out.cell (bL w _ hx508_0)).trans hx508_0; replace hx508_1 := (HB.out.cell (bL w _ hx508_1)).trans hx508_1; replace hx508_2 := (HB.out.cell (bL w _ hx508_2)).trans hx508_2; replace p508 := eq_true p508; replace q508 := eq_true q508))
          go_ret
          exact ⟨yE2, yB⟩
         ·rw [if_neg c13] at H
          have c13b0 := beq_eq_false_iff_ne.mpr c13; have c13b1 := bne_iff_ne.mpr c13; have H' := aM H; clear H; have p506 : 0 ≤ (x10_1 : Int) := yO; have q506 : x10_1 < (l0.length : Int) := yO; obtain ⟨ad506, e506, hx506_0, hx506_1, hx506_2⟩ := at_OpB HB.out HR0.out x10_1 p506 q506; cases e506; replace p506 := eq_true p506; replace q506 := eq_true q506
          go_wp2_with (first | ((with_reducible refine gate_callee (f := 58) rfl ?_); refine goesL_ (some 30) rfl rfl Try.func58 yK rfl #[.agg #[.int .i64 ((rd_Op l0 x10_1).f0), .int .i64 ((rd_Op l0 x10_1).f1), .string ((rd_Op l0 x10_1).f2)]] rfl yG ?_; (with_reducible refine (patchworkref8_change.calls ((rd_Op l0 x10_1).f0) ((rd_Op l0 x10_1).f1) ((rd_Op l0 x10_1).f2) false _ A10.out).mono ?_); rintro e w15 ⟨rfl, hb⟩; refine ⟨_, rfl, ?_⟩; replace HB := aM (below_step yB hb); clear hb; have p508 : 0 ≤ (x10_1 : Int) := yO; have q508 : x10_1 < (l0.length : Int) := yO; obtain ⟨ad508, e508, hx508_0, hx508_1, hx508_2⟩ := at_Op HR0.out x10_1 p508 q508; obtain rfl : ad506 = ad508 := (by injection e508); replace hx508_0 := (HB.out.cell (bL w _ hx508_0)).trans hx508_0; replace hx508_1 := (HB.out.cell (bL w _ hx508_1)).trans hx508_1; replace hx508_2 := (HB.out.cell (bL w _ hx508_2)).trans hx508_2; replace p508 := eq_true p508; replace q508 := eq_true q508))
          go_roundg kj4
          case measure => have := HK1.out; have := HJ4.out; omega
          case rel => exact ⟨(wrap64 (x9_1 + 1)), (wrap64 (x10_1 + a2)), yE, yE, H', ⟨by have := HK1.out; have := HJ4.out; omega⟩, ⟨yB⟩⟩
       ·rw [if_neg c9] at H
        exact absurd H (by simp)
      ·rw [if_neg c8] at H
       exact absurd H (by simp)
     ·replace c7 := Bool.eq_false_iff.mpr c7
      subst c7; replace H := iF H; obtain rfl := Option.some.inj H
      go_wp2
      go_ret
      exact ⟨yE2, yB⟩
set_option maxHeartbeats 8000000 in
set_option maxRecDepth 100000 in
theorem patchworkref8_Trim.calls (k : Nat) (A0 : Option Addr) (c0 : Nat) (l0 : List (Op)) (a1 : Int) (r : List (Op)) (w : World) (hr0 : Kd.C kOp w A0 l0.length l0) (hc0 : l0.length ≤ c0) (h : patchworkref8_Trim.f k l0 a1 = some r) :
  Calls Try.prog 25 #[.slice A0 l0.length c0, .int .i64 a1] w fun e w' => ∃ v0_ : Value, e = .returned (v0_) ∧ Kd.R kOp 41 w' w.heap.size (fun _ => True) v0_ r ∧ Below w.heap.size w w' := by
 have hu41 := Try.underlying41
 have HR0 := aM hr0
 have HC0 := aM hc0
 clear hr0 hc0
 have HB := aM (Below.refl w.heap.size w)
 have H : ((patchworkref8_Right.f k l0).bind fun t509 => (if t509 = true then ((patchworkref1_Cap.f a1 0 1000000).bind fun t510 => ((patchworkref8_norm.f k l0).bind fun t511 => (patchworkref8_Trim.l0 k t511 t510 ([] : List (Op)) 0))) else (some ([] : List (Op))))) = some r := h
 clear h
 obtain ⟨t509, A3, H⟩ := oB H
 by_cases c4 : t509 = true
 ·subst c4
  replace H := iT H; obtain ⟨t510, A5, H⟩ := oB H; obtain ⟨t511, A6, H⟩ := oB H; have H' := aM H; clear H
  go_enter Try.func25, Try.ntmps25
  go_wp2_with (first | ((with_reducible refine gate_callee (f := 32) rfl ?_); refine goesL_ (some 9) rfl rfl Try.func32 yK rfl #[.slice A0 l0.length c0] rfl yG ?_; (with_reducible refine (patchworkref8_Right.calls k _ _ l0 true _ (yC HR0.out) HC0.out A3.out).mono ?_); rintro e w7 ⟨rfl, hb⟩; refine ⟨_, rfl, ?_⟩; replace HB := aM (below_step yB hb); clear hb) | ((with_reducible refine gate_callee (f := 45) rfl ?_); refine goesL_ (some 12) rfl rfl Try.func45 yK rfl #[.int .i64 a1, .int .i64 0, .int .i64 1000000] rfl yG ?_; (with_reducible refine (patchworkref1_Cap.calls a1 0 1000000 t510 _ A5.out).mono ?_); rintro e w' ⟨rfl, ⟨nd, rfl⟩⟩; refine ⟨_, rfl, ?_⟩) | ((with_reducible refine gate_callee (f := 41) rfl ?_); refine goesL_ (some 14) rfl rfl Try.func41 yK rfl #[.slice A0 l0.length c0] rfl yG ?_; (with_reducible refine (patchworkref8_norm.calls k _ _ l0 t511 _ (yC (Kd.C_below HR0.out yB)) HC0.out A6.out).mono ?_); rintro e w8 ⟨v512, rfl, ho0, hb⟩; refine ⟨_, rfl, ?_⟩; have HO513 := aM (Kd.R_lower ho0 yW); replace HB := aM (below_step yB hb); clear hb ho0))
  go_loopg [5, 6] k (fun kq v5 v6 w' => ∃ (x5_1 : List (Op)) (x6_1 : Int), v6 = .int .i64 x6_1 ∧ Aside0 (patchworkref8_Trim.l0 kq t511 t510 x5_1 x6_1 = some r) ∧ Aside0 (kq ≤ k) ∧ Aside0 (Kd.R kOp 41 w' w.heap.size (fun k_ => some k_ ≠ (v5 : Value).ownBlock) v512 t511) ∧ Aside0 (Kd.R kOp 41 w' w.heap.size (fun k_ => some k_ ≠ (v512 : Value).ownBlock) v5 x5_1) ∧ Aside0 (Below w.heap.size w w'))
  case atStart => exact ⟨(([] : List (Op))), (0), yE, H', ⟨Nat.le_refl _⟩, ⟨by (with_reducible repeat (first | apply Kd.R_alloc | apply Kd.R_drewN | apply Kd.R_drew)); exact Kd.R_mono HO513.out (fun _ hk => (by simp [Value.ownBlock]))⟩, ⟨by first | exact Kd.R_nil _ _ _ _ _ | exact Kd.N_nil _ _ _ _ _ | exact Kd.V_nil _ _ _ _ _ | exact Kd.Q_nil _ _ _ _ _ | exact Kd.S_nil _ _ _ _ _⟩, ⟨yB⟩⟩
  case round =>
   clear H'; (try clear c2); (try clear p2); (try clear c3); (try clear c4); obtain ⟨x5_1, x6_1, rfl, HA, HK1, HO_0, HO_5, HB⟩ := hrel; cases gk with
   | zero => exact absurd HA.out (by simp [patchworkref8_Trim.l0])
   | succ k1 =>
    have H := HA.out; clear HA; simp only [patchworkref8_Trim.l0] at H
    by_cases c9 : x6_1 < (t511.length : Int)
    ·rw [if_pos c9] at H
     have c9b0 := decide_eq_true c9; clear c9
     by_cases c10 : 0 ≤ x6_1
     ·rw [if_pos c10] at H
      have c10b0 := decide_eq_true c10; clear c10
      by_cases c11 : ((rd_Op t511 x6_1).f0) = 2
      ·rw [if_pos c11] at H
       have c11b0 := beq_iff_eq.mpr c11; have c11b1 := bne_eq_false_iff_eq.mpr c11; clear c11; obtain ⟨t522, A12, H⟩ := oB H
       by_cases c13 : t522 = true
       ·subst c13
        replace H := iT H
        by_cases c14 : x5_1.length < 4398046511104
        ·rw [if_pos c14] at H
         have LMc14 := aM c14; clear c14; obtain ⟨y523, hy523⟩ : ∃ y_ : List (Op), y_ = (x5_1 ++ [(⟨(rd_Op t511 x6_1).f0, (rd_Op t511 x6_1).f1, (rd_Op t511 x6_1).f2⟩ : Op)]) := ⟨_, rfl⟩; replace H : (patchworkref8_Trim.l0 k1 t511 t510 y523 (wrap64 (x6_1 + 1))) = some r := yN hy523 H
         have Ny523 := aM hy523; clear hy523; have H' := aM H; clear H; obtain ⟨Ao15, co15, eo15⟩ := Kd.R_slice HO_0.out; subst eo15; have p520 : 0 ≤ (x6_1 : Int) := yO; have q520 : x6_1 < (t511.length : Int) := yO; obtain ⟨ad520, e520, hx520_0, hx520_1, hx520_2⟩ := at_Op (Kd.R_reads' HO_0.out).2.2 x6_1 p520 q520; cases e520; replace p520 := eq_true p520; replace q520 := eq_true q520
         go_wp2_with (first | ((with_reducible refine gate_dst (N := 7) rfl ?_); refine box_event yR (N := 7) yR (cs := #[.int .i64 0, .int .i64 0, .string (⟨#[]⟩ : ByteArray)]) (t := 41) yQ ?_; intro gb521 hg w16 hbox hb; replace HO_0 := aM (Kd.R_below (Kd.R_elderB (yH HO_0.out) gb521 (Nat.le_of_eq hg.symm)) hb); replace HO_5 := aM (Kd.R_below (Kd.R_elderB (yH HO_5.out) gb521 (Nat.le_of_eq hg.symm)) hb); have BK521 := aM (hbox); have GW521 := aM ((yS : w.heap.size ≤ gb521)); have GE521 := aM ((yS : w.heap.size ≤ gb521)); replace HB := aM (below_step yB hb); clear hb hbox hg; obtain ⟨hcz17_0, hcz17_1, hcz17_2, hfz17_0, hfz17_1, hfz17_2⟩ := blk3 BK521.out) | (go_at_call 46; (with_reducible refine (patchworkref8_near.calls k1 _ _ t511 x6_1 1 t510 true _ ?side1 ?side2 A12.out).mono ?_); (case side1 => refine (Kd.R_reads' (e := 41) (base := w.heap.size) (ok := fun k_ => (some k_ ≠ (u5 : Value).ownBlock ∧ k_ ≠ gb521)) (n := t511.length) (c := co15) ?_).2.2; exact (by (with_reducible repeat (first | apply Kd.R_alloc | apply Kd.R_drewN | apply Kd.R_drew)); exact (Kd.R_mono (Kd.R_far (p := ⟨gb521, 2, none⟩) (Kd.R_far (p := ⟨gb521, 1, none⟩) (Kd.R_far (p := ⟨gb521, 0, none⟩) (Kd.R_mono HO_0.out (fun k_ hk => (⟨hk, hk.2⟩ : _ ∧ k_ ≠ gb521))) (fun _ hk => hk.2) (.int .i64 ((rd_Op t511 x6_1).f0))) (fun _ hk => hk.2) (.int .i64 ((rd_Op t511 x6_1).f1))) (fun _ hk => hk.2) (.string ((rd_Op t511 x6_1).f2))) (fun _ h_ => h_.1)))); (case side2 => exact (Kd.R_reads' HO_0.out).2.1); rintro e w18 ⟨rfl, hb⟩; replace HO_0 := aM (Kd.R_below (by (with_reducible repeat (first | apply Kd.R_alloc | apply Kd.R_drewN | apply Kd.R_drew)); exact (Kd.R_mono (Kd.R_far (p := ⟨gb521, 2, none⟩) (Kd.R_far (p := ⟨gb521, 1, none⟩) (Kd.R_far (p := ⟨gb521, 0, none⟩) (Kd.R_mono HO_0.out (fun k_ hk => (⟨hk, hk.2⟩ : _ ∧ k_ ≠ gb521))) (fun _ hk => hk.2) (.int .i64 ((rd_Op t511 x6_1).f0))) (fun _ hk => hk.2) (.int .i64 ((rd_Op t511 x6_1).f1))) (fun _ hk => hk.2) (.string ((rd_Op t511 x6_1).f2))) (fun _ h_ => h_.1))) hb); replace HO_5 := aM (Kd.R_below (by (with_reducible repeat (first | apply Kd.R_alloc | apply Kd.R_drewN | apply Kd.R_drew)); exact (Kd.R_mono (Kd.R_far (p := ⟨gb521, 2, none⟩) (Kd.R_far (p := ⟨gb521, 1, none⟩) (Kd.R_far (p := ⟨gb521, 0, none⟩) (Kd.R_mono HO_5.out (fun k_ hk => (⟨hk, hk.2⟩ : _ ∧ k_ ≠ gb521))) (fun _ hk => hk.2) (.int .i64 ((rd_Op t511 x6_1).f0))) (fun _ hk => hk.2) (.int .i64 ((rd_Op t511 x6_1).f1))) (fun _ hk => hk.2) (.string ((rd_Op t511 x6_1).f2))) (fun _ h_ => h_.1))) hb); replace BK521 := aM (blk_below (g := gb521) (o := .cells #[.int .i64 ((rd_Op t511 x6_1).f0), .int .i64 ((rd_Op t511 x6_1).f1), .string ((rd_Op t511 x6_1).f2)] 41 (0, 0)) (by (with_reducible repeat (first | refine kN ?_ _ | refine kD ?_ | refine kA ?_ _)); refine blk_put (cs := #[.int .i64 ((rd_Op t511 x6_1).f0), .int .i64 ((rd_Op t511 x6_1).f1), .string (⟨#[]⟩ : ByteArray)]) ?_ 2 _ rfl; (with_reducible repeat (first | refine kN ?_ _ | refine kD ?_ | refine kA ?_ _)); refine blk_put (cs := #[.int .i64 ((rd_Op t511 x6_1).f0), .int .i64 0, .string (⟨#[]⟩ : ByteArray)]) ?_ 1 _ rfl; (with_reducible repeat (first | refine kN ?_ _ | refine kD ?_ | refine kA ?_ _)); refine blk_put (cs := #[.int .i64 0, .int .i64 0, .string (⟨#[]⟩ : ByteArray)]) ?_ 0 _ rfl; (with_reducible repeat (first | refine kN ?_ _ | refine kD ?_ | refine kA ?_ _)); exact BK521.out) hb); replace HB := aM (below_step (yBg GE521.out) hb); clear hb; obtain ⟨hcz19_0, hcz19_1, hcz19_2, hfz19_0, hfz19_1, hfz19_2⟩ := blk3 BK521.out) | ((with_reducible refine gate_builtin (b := .append) (xs := #[.tmp 43, .tmp 45]) rfl ?_); at_builtin; refine Kd.R_append kOp (w0 := w) w.heap.size rfl (.tmp 43) (.tmp 45) 22 41 (.agg #[(.int .i64 0), (.int .i64 0), (.string ⟨#[]⟩)]) 32 rfl Try.underlying22 info41 rfl (by decide) (by omega) u5 x5_1 (⟨(rd_Op t511 x6_1).f0, (rd_Op t511 x6_1).f1, (rd_Op t511 x6_1).f2⟩ : Op) [.int .i64 ((rd_Op t511 x6_1).f0), .int .i64 ((rd_Op t511 x6_1).f1), .string ((rd_Op t511 x6_1).f2)] (fun k_ => some k_ ≠ (.slice (some ad520) t511.length co15 : Value).ownBlock ∧ k_ ≠ gb521) (fun _ => False) rfl rfl ?aP (fun _ hk => hk.elim) ?aF ?aO ?aB ?aS ?aL ?_; (case aP => exact kOp_mkM _ _ _ (⟨(rd_Op t511 x6_1).f0, (rd_Op t511 x6_1).f1, (rd_Op t511 x6_1).f2⟩ : Op)); (case aB => exact (yBg GE521.out)); (case aF => exact (fun k_ hk => ⟨Kd.fresh' (Kd.R_lt (yH HO_0.out)) k_ hk, Kd.freshB (g := gb521) (o := .cells #[.int .i64 ((rd_Op t511 x6_1).f0), .int .i64 ((rd_Op t511 x6_1).f1), .string ((rd_Op t511 x6_1).f2)] 41 (0, 0)) (by (with_reducible repeat (first | refine kN ?_ _ | refine kD ?_ | refine kA ?_ _)); exact BK521.out) k_ hk⟩)); (case aO => exact (yH HO_5.out)); (case aS => exact (below_size (yBg GE521.out))); (case aL => have := LMc14.out; omega); intro v524 w20 ho hb hg hat; rw [← Ny523.out] at ho; have n0_ := aM (Kd.R_after (ok := (fun k_ => k_ ≠ gb521)) (by (with_reducible repeat (first | apply Kd.R_alloc | apply Kd.R_drewN | apply Kd.R_drew)); exact Kd.R_mono HO_0.out (fun _ hk => ⟨hk.2, hk.1⟩)) hg hat); have n1_ := aM (blk_grown (g := gb521) (o := .cells #[.int .i64 ((rd_Op t511 x6_1).f0), .int .i64 ((rd_Op t511 x6_1).f1), .string ((rd_Op t511 x6_1).f2)] 41 (0, 0)) (by (with_reducible repeat (first | refine kN ?_ _ | refine kD ?_ | refine kA ?_ _)); exact BK521.out) hg (Kd.R_away HO_5.out (fun _ hk => hk.2))); have n2_ := aM (hb); have n3_ := aM (ho); clear HO_0; clear BK521; clear HB; clear HO_5; have HO_0 := n0_; have BK521 := n1_; have HB := n2_; have HO525 := n3_; clear n0_ n1_ n2_ n3_; clear ho hb hg hat))
         go_roundg k1
         case measure => have := HK1.out; omega
         case rel => exact ⟨(y523), (wrap64 (x6_1 + 1)), yE, H', ⟨by have := HK1.out; omega⟩, ⟨by (with_reducible repeat (first | apply Kd.R_alloc | apply Kd.R_drewN | apply Kd.R_drew)); exact Kd.R_mono HO_0.out (fun _ hk => hk.2)⟩, ⟨by (with_reducible repeat (first | apply Kd.R_alloc | apply Kd.R_drewN | apply Kd.R_drew)); exact Kd.R_mono HO525.out (fun _ hk => hk.1)⟩, ⟨yBg GE521.out⟩⟩
        ·rw [if_neg c14] at H
         exact absurd H (by simp)
       ·replace c13 := Bool.eq_false_iff.mpr c13
        subst c13; replace H := iF H; obtain ⟨t526, A21, H⟩ := oB H
        by_cases c22 : t526 = true
        ·subst c22
         replace H := iT H
         by_cases c23 : x5_1.length < 4398046511104
         ·rw [if_pos c23] at H
          have LMc23 := aM c23; clear c23; obtain ⟨y527, hy527⟩ : ∃ y_ : List (Op), y_ = (x5_1 ++ [(⟨(rd_Op t511 x6_1).f0, (rd_Op t511 x6_1).f1, (rd_Op t511 x6_1).f2⟩ : Op)]) := ⟨_, rfl⟩; replace H : (patchworkref8_Trim.l0 k1 t511 t510 y527 (wrap64 (x6_1 + 1))) = some r := yN hy527 H
          have Ny527 := aM hy527; clear hy527; have H' := aM H; clear H; obtain ⟨Ao24, co24, eo24⟩ := Kd.R_slice HO_0.out; subst eo24; have p520 : 0 ≤ (x6_1 : Int) := yO; have q520 : x6_1 < (t511.length : Int) := yO; obtain ⟨ad520, e520, hx520_0, hx520_1, hx520_2⟩ := at_Op (Kd.R_reads' HO_0.out).2.2 x6_1 p520 q520; cases e520; replace p520 := eq_true p520; replace q520 := eq_true q520
          go_wp2_with (first | ((with_reducible refine gate_dst (N := 7) rfl ?_); refine box_event yR (N := 7) yR (cs := #[.int .i64 0, .int .i64 0, .string (⟨#[]⟩ : ByteArray)]) (t := 41) yQ ?_; intro gb521 hg w25 hbox hb; replace HO_0 := aM (Kd.R_below (Kd.R_elderB (yH HO_0.out) gb521 (Nat.le_of_eq hg.symm)) hb); replace HO_5 := aM (Kd.R_below (Kd.R_elderB (yH HO_5.out) gb521 (Nat.le_of_eq hg.symm)) hb); have BK521 := aM (hbox); have GW521 := aM ((yS : w.heap.size ≤ gb521)); have GE521 := aM ((yS : w.heap.size ≤ gb521)); replace HB := aM (below_step yB hb); clear hb hbox hg; obtain ⟨hcz26_0, hcz26_1, hcz26_2, hfz26_0, hfz26_1, hfz26_2⟩ := blk3 BK521.out) | (go_at_call 46; (with_reducible refine (patchworkref8_near.calls k1 _ _ t511 x6_1 1 t510 false _ ?side1 ?side2 A12.out).mono ?_); (case side1 => refine (Kd.R_reads' (e := 41) (base := w.heap.size) (ok := fun k_ => (some k_ ≠ (u5 : Value).ownBlock ∧ k_ ≠ gb521)) (n := t511.length) (c := co24) ?_).2.2; exact (by (with_reducible repeat (first | apply Kd.R_alloc | apply Kd.R_drewN | apply Kd.R_drew)); exact (Kd.R_mono (Kd.R_far (p := ⟨gb521, 2, none⟩) (Kd.R_far (p := ⟨gb521, 1, none⟩) (Kd.R_far (p := ⟨gb521, 0, none⟩) (Kd.R_mono HO_0.out (fun k_ hk => (⟨hk, hk.2⟩ : _ ∧ k_ ≠ gb521))) (fun _ hk => hk.2) (.int .i64 ((rd_Op t511 x6_1).f0))) (fun _ hk => hk.2) (.int .i64 ((rd_Op t511 x6_1).f1))) (fun _ hk => hk.2) (.string ((rd_Op t511 x6_1).f2))) (fun _ h_ => h_.1)))); (case side2 => exact (Kd.R_reads' HO_0.out).2.1); rintro e w27 ⟨rfl, hb⟩; replace HO_0 := aM (Kd.R_below (by (with_reducible repeat (first | apply Kd.R_alloc | apply Kd.R_drewN | apply Kd.R_drew)); exact (Kd.R_mono (Kd.R_far (p := ⟨gb521, 2, none⟩) (Kd.R_far (p := ⟨gb521, 1, none⟩) (Kd.R_far (p := ⟨gb521, 0, none⟩) (Kd.R_mono HO_0.out (fun k_ hk => (⟨hk, hk.2⟩ : _ ∧ k_ ≠ gb521))) (fun _ hk => hk.2) (.int .i64 ((rd_Op t511 x6_1).f0))) (fun _ hk => hk.2) (.int .i64 ((rd_Op t511 x6_1).f1))) (fun _ hk => hk.2) (.string ((rd_Op t511 x6_1).f2))) (fun _ h_ => h_.1))) hb); replace HO_5 := aM (Kd.R_below (by (with_reducible repeat (first | apply Kd.R_alloc | apply Kd.R_drewN | apply Kd.R_drew)); exact (Kd.R_mono (Kd.R_far (p := ⟨gb521, 2, none⟩) (Kd.R_far (p := ⟨gb521, 1, none⟩) (Kd.R_far (p := ⟨gb521, 0, none⟩) (Kd.R_mono HO_5.out (fun k_ hk => (⟨hk, hk.2⟩ : _ ∧ k_ ≠ gb521))) (fun _ hk => hk.2) (.int .i64 ((rd_Op t511 x6_1).f0))) (fun _ hk => hk.2) (.int .i64 ((rd_Op t511 x6_1).f1))) (fun _ hk => hk.2) (.string ((rd_Op t511 x6_1).f2))) (fun _ h_ => h_.1))) hb); replace BK521 := aM (blk_below (g := gb521) (o := .cells #[.int .i64 ((rd_Op t511 x6_1).f0), .int .i64 ((rd_Op t511 x6_1).f1), .string ((rd_Op t511 x6_1).f2)] 41 (0, 0)) (by (with_reducible repeat (first | refine kN ?_ _ | refine kD ?_ | refine kA ?_ _)); refine blk_put (cs := #[.int .i64 ((rd_Op t511 x6_1).f0), .int .i64 ((rd_Op t511 x6_1).f1), .string (⟨#[]⟩ : ByteArray)]) ?_ 2 _ rfl; (with_reducible repeat (first | refine kN ?_ _ | refine kD ?_ | refine kA ?_ _)); refine blk_put (cs := #[.int .i64 ((rd_Op t511 x6_1).f0), .int .i64 0, .string (⟨#[]⟩ : ByteArray)]) ?_ 1 _ rfl; (with_reducible repeat (first | refine kN ?_ _ | refine kD ?_ | refine kA ?_ _)); refine blk_put (cs := #[.int .i64 0, .int .i64 0, .string (⟨#[]⟩ : ByteArray)]) ?_ 0 _ rfl; (with_reducible repeat (first | refine kN ?_ _ | refine kD ?_ | refine kA ?_ _)); exact BK521.out) hb); replace HB := aM (below_step (yBg GE521.out) hb); clear hb) | (go_at_call 46; (with_reducible refine (patchworkref8_near.calls k1 _ _ t511 x6_1 (-1) t510 true _ (yC (Kd.R_reads' HO_0.out).2.2) ((Kd.R_reads' HO_0.out).2.1) A21.out).mono ?_); rintro e w28 ⟨rfl, hb⟩; replace HO_0 := aM (Kd.R_below (yH HO_0.out) hb); replace HO_5 := aM (Kd.R_below (yH HO_5.out) hb); replace BK521 := aM (blk_below (g := gb521) (o := .cells #[.int .i64 ((rd_Op t511 x6_1).f0), .int .i64 ((rd_Op t511 x6_1).f1), .string ((rd_Op t511 x6_1).f2)] 41 (0, 0)) (by (with_reducible repeat (first | refine kN ?_ _ | refine kD ?_ | refine kA ?_ _)); exact BK521.out) hb); replace HB := aM (below_step (yBg GE521.out) hb); clear hb; obtain ⟨hcz29_0, hcz29_1, hcz29_2, hfz29_0, hfz29_1, hfz29_2⟩ := blk3 BK521.out) | ((with_reducible refine gate_builtin (b := .append) (xs := #[.tmp 43, .tmp 45]) rfl ?_); at_builtin; refine Kd.R_append kOp (w0 := w) w.heap.size rfl (.tmp 43) (.tmp 45) 22 41 (.agg #[(.int .i64 0), (.int .i64 0), (.string ⟨#[]⟩)]) 32 rfl Try.underlying22 info41 rfl (by decide) (by omega) u5 x5_1 (⟨(rd_Op t511 x6_1).f0, (rd_Op t511 x6_1).f1, (rd_Op t511 x6_1).f2⟩ : Op) [.int .i64 ((rd_Op t511 x6_1).f0), .int .i64 ((rd_Op t511 x6_1).f1), .string ((rd_Op t511 x6_1).f2)] (fun k_ => some k_ ≠ (.slice (some ad520) t511.length co24 : Value).ownBlock ∧ k_ ≠ gb521) (fun _ => False) rfl rfl ?aP (fun _ hk => hk.elim) ?aF ?aO ?aB ?aS ?aL ?_; (case aP => exact kOp_mkM _ _ _ (⟨(rd_Op t511 x6_1).f0, (rd_Op t511 x6_1).f1, (rd_Op t511 x6_1).f2⟩ : Op)); (case aB => exact (yBg GE521.out)); (case aF => exact (fun k_ hk => ⟨Kd.fresh' (Kd.R_lt (yH HO_0.out)) k_ hk, Kd.freshB (g := gb521) (o := .cells #[.int .i64 ((rd_Op t511 x6_1).f0), .int .i64 ((rd_Op t511 x6_1).f1), .string ((rd_Op t511 x6_1).f2)] 41 (0, 0)) (by (with_reducible repeat (first | refine kN ?_ _ | refine kD ?_ | refine kA ?_ _)); exact BK521.out) k_ hk⟩)); (case aO => exact (yH HO_5.out)); (case aS => exact (below_size (yBg GE521.out))); (case aL => have := LMc23.out; omega); intro v528 w30 ho hb hg hat; rw [← Ny527.out] at ho; have n0_ := aM (Kd.R_after (ok := (fun k_ => k_ ≠ gb521)) (by (with_reducible repeat (first | apply Kd.R_alloc | apply Kd.R_drewN | apply Kd.R_drew)); exact Kd.R_mono HO_0.out (fun _ hk => ⟨hk.2, hk.1⟩)) hg hat); have n1_ := aM (blk_grown (g := gb521) (o := .cells #[.int .i64 ((rd_Op t511 x6_1).f0), .int .i64 ((rd_Op t511 x6_1).f1), .string ((rd_Op t511 x6_1).f2)] 41 (0, 0)) (by (with_reducible repeat (first | refine kN ?_ _ | refine kD ?_ | refine kA ?_ _)); exact BK521.out) hg (Kd.R_away HO_5.out (fun _ hk => hk.2))); have n2_ := aM (hb); have n3_ := aM (ho); clear HO_0; clear BK521; clear HB; clear HO_5; have HO_0 := n0_; have BK521 := n1_; have HB := n2_; have HO529 := n3_; clear n0_ n1_ n2_ n3_; clear ho hb hg hat))
          go_roundg k1
          case measure => have := HK1.out; omega
          case rel => exact ⟨(y527), (wrap64 (x6_1 + 1)), yE, H', ⟨by have := HK1.out; omega⟩, ⟨by (with_reducible repeat (first | apply Kd.R_alloc | apply Kd.R_drewN | apply Kd.R_drew)); exact Kd.R_mono HO_0.out (fun _ hk => hk.2)⟩, ⟨by (with_reducible repeat (first | apply Kd.R_alloc | apply Kd.R_drewN | apply Kd.R_drew)); exact Kd.R_mono HO529.out (fun _ hk => hk.1)⟩, ⟨yBg GE521.out⟩⟩
         ·rw [if_neg c23] at H
          exact absurd H (by simp)
        ·replace c22 := Bool.eq_false_iff.mpr c22
         subst c22; replace H := iF H
         by_cases c31 : x5_1.length < 4398046511104
         ·rw [if_pos c31] at H
          have LMc31 := aM c31; clear c31; obtain ⟨y530, hy530⟩ : ∃ y_ : List (Op), y_ = (x5_1 ++ [(⟨1, 1, (⟨#[]⟩ : ByteArray)⟩ : Op)]) := ⟨_, rfl⟩; replace H : (patchworkref8_Trim.l0 k1 t511 t510 y530 (wrap64 (x6_1 + 1))) = some r := yN hy530 H
          have Ny530 := aM hy530; clear hy530; have H' := aM H; clear H; obtain ⟨Ao32, co32, eo32⟩ := Kd.R_slice HO_0.out; subst eo32; have p520 : 0 ≤ (x6_1 : Int) := yO; have q520 : x6_1 < (t511.length : Int) := yO; obtain ⟨ad520, e520, hx520_0, hx520_1, hx520_2⟩ := at_Op (Kd.R_reads' HO_0.out).2.2 x6_1 p520 q520; cases e520; replace p520 := eq_true p520; replace q520 := eq_true q520
          go_wp2_with (first | ((with_reducible refine gate_dst (N := 7) rfl ?_); refine box_event yR (N := 7) yR (cs := #[.int .i64 0, .int .i64 0, .string (⟨#[]⟩ : ByteArray)]) (t := 41) yQ ?_; intro gb521 hg w33 hbox hb; replace HO_0 := aM (Kd.R_below (Kd.R_elderB (yH HO_0.out) gb521 (Nat.le_of_eq hg.symm)) hb); replace HO_5 := aM (Kd.R_below (Kd.R_elderB (yH HO_5.out) gb521 (Nat.le_of_eq hg.symm)) hb); have BK521 := aM (hbox); have GW521 := aM ((yS : w.heap.size ≤ gb521)); have GE521 := aM ((yS : w.heap.size ≤ gb521)); replace HB := aM (below_step yB hb); clear hb hbox hg; obtain ⟨hcz34_0, hcz34_1, hcz34_2, hfz34_0, hfz34_1, hfz34_2⟩ := blk3 BK521.out) | (go_at_call 46; (with_reducible refine (patchworkref8_near.calls k1 _ _ t511 x6_1 1 t510 false _ ?side1 ?side2 A12.out).mono ?_); (case side1 => refine (Kd.R_reads' (e := 41) (base := w.heap.size) (ok := fun k_ => (some k_ ≠ (u5 : Value).ownBlock ∧ k_ ≠ gb521)) (n := t511.length) (c := co32) ?_).2.2; exact (by (with_reducible repeat (first | apply Kd.R_alloc | apply Kd.R_drewN | apply Kd.R_drew)); exact (Kd.R_mono (Kd.R_far (p := ⟨gb521, 2, none⟩) (Kd.R_far (p := ⟨gb521, 1, none⟩) (Kd.R_far (p := ⟨gb521, 0, none⟩) (Kd.R_mono HO_0.out (fun k_ hk => (⟨hk, hk.2⟩ : _ ∧ k_ ≠ gb521))) (fun _ hk => hk.2) (.int .i64 ((rd_Op t511 x6_1).f0))) (fun _ hk => hk.2) (.int .i64 ((rd_Op t511 x6_1).f1))) (fun _ hk => hk.2) (.string ((rd_Op t511 x6_1).f2))) (fun _ h_ => h_.1)))); (case side2 => exact (Kd.R_reads' HO_0.out).2.1); rintro e w35 ⟨rfl, hb⟩; replace HO_0 := aM (Kd.R_below (by (with_reducible repeat (first | apply Kd.R_alloc | apply Kd.R_drewN | apply Kd.R_drew)); exact (Kd.R_mono (Kd.R_far (p := ⟨gb521, 2, none⟩) (Kd.R_far (p := ⟨gb521, 1, none⟩) (Kd.R_far (p := ⟨gb521, 0, none⟩) (Kd.R_mono HO_0.out (fun k_ hk => (⟨hk, hk.2⟩ : _ ∧ k_ ≠ gb521))) (fun _ hk => hk.2) (.int .i64 ((rd_Op t511 x6_1).f0))) (fun _ hk => hk.2) (.int .i64 ((rd_Op t511 x6_1).f1))) (fun _ hk => hk.2) (.string ((rd_Op t511 x6_1).f2))) (fun _ h_ => h_.1))) hb); replace HO_5 := aM (Kd.R_below (by (with_reducible repeat (first | apply Kd.R_alloc | apply Kd.R_drewN | apply Kd.R_drew)); exact (Kd.R_mono (Kd.R_far (p := ⟨gb521, 2, none⟩) (Kd.R_far (p := ⟨gb521, 1, none⟩) (Kd.R_far (p := ⟨gb521, 0, none⟩) (Kd.R_mono HO_5.out (fun k_ hk => (⟨hk, hk.2⟩ : _ ∧ k_ ≠ gb521))) (fun _ hk => hk.2) (.int .i64 ((rd_Op t511 x6_1).f0))) (fun _ hk => hk.2) (.int .i64 ((rd_Op t511 x6_1).f1))) (fun _ hk => hk.2) (.string ((rd_Op t511 x6_1).f2))) (fun _ h_ => h_.1))) hb); replace BK521 := aM (blk_below (g := gb521) (o := .cells #[.int .i64 ((rd_Op t511 x6_1).f0), .int .i64 ((rd_Op t511 x6_1).f1), .string ((rd_Op t511 x6_1).f2)] 41 (0, 0)) (by (with_reducible repeat (first | refine kN ?_ _ | refine kD ?_ | refine kA ?_ _)); refine blk_put (cs := #[.int .i64 ((rd_Op t511 x6_1).f0), .int .i64 ((rd_Op t511 x6_1).f1), .string (⟨#[]⟩ : ByteArray)]) ?_ 2 _ rfl; (with_reducible repeat (first | refine kN ?_ _ | refine kD ?_ | refine kA ?_ _)); refine blk_put (cs := #[.int .i64 ((rd_Op t511 x6_1).f0), .int .i64 0, .string (⟨#[]⟩ : ByteArray)]) ?_ 1 _ rfl; (with_reducible repeat (first | refine kN ?_ _ | refine kD ?_ | refine kA ?_ _)); refine blk_put (cs := #[.int .i64 0, .int .i64 0, .string (⟨#[]⟩ : ByteArray)]) ?_ 0 _ rfl; (with_reducible repeat (first | refine kN ?_ _ | refine kD ?_ | refine kA ?_ _)); exact BK521.out) hb); replace HB := aM (below_step (yBg GE521.out) hb); clear hb) | (go_at_call 46; (with_reducible refine (patchworkref8_near.calls k1 _ _ t511 x6_1 (-1) t510 false _ (yC (Kd.R_reads' HO_0.out).2.2) ((Kd.R_reads' HO_0.out).2.1) A21.out).mono ?_); rintro e w36 ⟨rfl, hb⟩; replace HO_0 := aM (Kd.R_below (yH HO_0.out) hb); replace HO_5 := aM (Kd.R_below (yH HO_5.out) hb); replace BK521 := aM (blk_below (g := gb521) (o := .cells #[.int .i64 ((rd_Op t511 x6_1).f0), .int .i64 ((rd_Op t511 x6_1).f1), .string ((rd_Op t511 x6_1).f2)] 41 (0, 0)) (by (with_reducible repeat (first | refine kN ?_ _ | refine kD ?_ | refine kA ?_ _)); exact BK521.out) hb); replace HB := aM (below_step (yBg GE521.out) hb); clear hb; obtain ⟨hcz37_0, hcz37_1, hcz37_2, hfz37_0, hfz37_1, hfz37_2⟩ := blk3 BK521.out) | ((with_reducible refine gate_builtin (b := .append) (xs := #[.tmp 43, .tmp 45]) rfl ?_); at_builtin; refine Kd.R_append kOp (w0 := w) w.heap.size rfl (.tmp 43) (.tmp 45) 22 41 (.agg #[(.int .i64 0), (.int .i64 0), (.string ⟨#[]⟩)]) 32 rfl Try.underlying22 info41 rfl (by decide) (by omega) u5 x5_1 (⟨1, 1, (⟨#[]⟩ : ByteArray)⟩ : Op) [.int .i64 1, .int .i64 1, .string (⟨#[]⟩ : ByteArray)] (fun k_ => some k_ ≠ (.slice (some ad520) t511.length co32 : Value).ownBlock ∧ k_ ≠ gb521) (fun _ => False) rfl (by first | (go_simp; done) | (go_simp; rfl)) ?aP (fun _ hk => hk.elim) ?aF ?aO ?aB ?aS ?aL ?_; (case aP => exact kOp_mkM _ _ _ (⟨1, 1, (⟨#[]⟩ : ByteArray)⟩ : Op)); (case aB => exact (yBg GE521.out)); (case aF => exact (fun k_ hk => ⟨Kd.fresh' (Kd.R_lt (by (with_reducible repeat (first | apply Kd.R_alloc | apply Kd.R_drewN | apply Kd.R_drew)); exact (Kd.R_mono (Kd.R_far (p := ⟨gb521, 2, none⟩) (Kd.R_far (p := ⟨gb521, 1, none⟩) (Kd.R_far (p := ⟨gb521, 0, none⟩) (Kd.R_mono HO_0.out (fun k_ hk => (⟨hk, hk.2⟩ : _ ∧ k_ ≠ gb521))) (fun _ hk => hk.2) (.int .i64 1)) (fun _ hk => hk.2) (.int .i64 1)) (fun _ hk => hk.2) (.string (⟨#[]⟩ : ByteArray))) (fun _ h_ => h_.1)))) k_ hk, Kd.freshB (g := gb521) (o := .cells #[.int .i64 1, .int .i64 1, .string (⟨#[]⟩ : ByteArray)] 41 (0, 0)) (by (with_reducible repeat (first | refine kN ?_ _ | refine kD ?_ | refine kA ?_ _)); refine blk_put (cs := #[.int .i64 1, .int .i64 1, .string ((rd_Op t511 x6_1).f2)]) ?_ 2 _ rfl; (with_reducible repeat (first | refine kN ?_ _ | refine kD ?_ | refine kA ?_ _)); refine blk_put (cs := #[.int .i64 1, .int .i64 ((rd_Op t511 x6_1).f1), .string ((rd_Op t511 x6_1).f2)]) ?_ 1 _ rfl; (with_reducible repeat (first | refine kN ?_ _ | refine kD ?_ | refine kA ?_ _)); refine blk_put (cs := #[.int .i64 ((rd_Op t511 x6_1).f0), .int .i64 ((rd_Op t511 x6_1).f1), .string ((rd_Op t511 x6_1).f2)]) ?_ 0 _ rfl; (with_reducible repeat (first | refine kN ?_ _ | refine kD ?_ | refine kA ?_ _)); exact BK521.out) k_ hk⟩)); (case aO => exact (by (with_reducible repeat (first | apply Kd.R_alloc | apply Kd.R_drewN | apply Kd.R_drew)); exact Kd.R_mono (Kd.R_far (p := ⟨gb521, 2, none⟩) (Kd.R_far (p := ⟨gb521, 1, none⟩) (Kd.R_far (p := ⟨gb521, 0, none⟩) (Kd.R_mono HO_5.out (fun k_ hk => (⟨hk, hk.2⟩ : _ ∧ k_ ≠ gb521))) (fun _ hk => hk.2) (.int .i64 1)) (fun _ hk => hk.2) (.int .i64 1)) (fun _ hk => hk.2) (.string (⟨#[]⟩ : ByteArray))) (fun _ hk => ⟨hk.1.1, hk.1.2⟩))); (case aS => exact (below_size (yBg GE521.out))); (case aL => have := LMc31.out; omega); intro v531 w38 ho hb hg hat; rw [← Ny530.out] at ho; have n0_ := aM (Kd.R_after (ok := (fun k_ => k_ ≠ gb521)) (by (with_reducible repeat (first | apply Kd.R_alloc | apply Kd.R_drewN | apply Kd.R_drew)); exact Kd.R_mono (Kd.R_far (p := ⟨gb521, 2, none⟩) (Kd.R_far (p := ⟨gb521, 1, none⟩) (Kd.R_far (p := ⟨gb521, 0, none⟩) (Kd.R_mono HO_0.out (fun k_ hk => (⟨hk, hk.2⟩ : _ ∧ k_ ≠ gb521))) (fun _ hk => hk.2) (.int .i64 1)) (fun _ hk => hk.2) (.int .i64 1)) (fun _ hk => hk.2) (.string (⟨#[]⟩ : ByteArray))) (fun _ hk => ⟨hk.1.2, hk.1.1⟩)) hg hat); have n1_ := aM (blk_grown (g := gb521) (o := .cells #[.int .i64 1, .int .i64 1, .string (⟨#[]⟩ : ByteArray)] 41 (0, 0)) (by (with_reducible repeat (first | refine kN ?_ _ | refine kD ?_ | refine kA ?_ _)); refine blk_put (cs := #[.int .i64 1, .int .i64 1, .string ((rd_Op t511 x6_1).f2)]) ?_ 2 _ rfl; (with_reducible repeat (first | refine kN ?_ _ | refine kD ?_ | refine kA ?_ _)); refine blk_put (cs := #[.int .i64 1, .int .i64 ((rd_Op t511 x6_1).f1), .string ((rd_Op t511 x6_1).f2)]) ?_ 1 _ rfl; (with_reducible repeat (first | refine kN ?_ _ | refine kD ?_ | refine kA ?_ _)); refine blk_put (cs := #[.int .i64 ((rd_Op t511 x6_1).f0), .int .i64 ((rd_Op t511 x6_1).f1), .string ((rd_Op t511 x6_1).f2)]) ?_ 0 _ rfl; (with_reducible repeat (first | refine kN ?_ _ | refine kD ?_ | refine kA ?_ _)); exact BK521.out) hg (Kd.R_away HO_5.out (fun _ hk => hk.2))); have n2_ := aM (hb); have n3_ := aM (ho); clear HO_0; clear BK521; clear HB; clear HO_5; have HO_0 := n0_; have BK521 := n1_; have HB := n2_; have HO532 := n3_; clear n0_ n1_ n2_ n3_; clear ho hb hg hat))
          go_roundg k1
          case measure => have := HK1.out; omega
          case rel => exact ⟨(y530), (wrap64 (x6_1 + 1)), yE, H', ⟨by have := HK1.out; omega⟩, ⟨by (with_reducible repeat (first | apply Kd.R_alloc | apply Kd.R_drewN | apply Kd.R_drew)); exact Kd.R_mono HO_0.out (fun _ hk => hk.2)⟩, ⟨by (with_reducible repeat (first | apply Kd.R_alloc | apply Kd.R_drewN | apply Kd.R_drew)); exact Kd.R_mono HO532.out (fun _ hk => hk.1)⟩, ⟨yBg GE521.out⟩⟩
         ·rw [if_neg c31] at H
          exact absurd H (by simp)
      ·rw [if_neg c11] at H
       have c11b0 := beq_eq_false_iff_ne.mpr c11; have c11b1 := bne_iff_ne.mpr c11
       by_cases c39 : x5_1.length < 4398046511104
       ·rw [if_pos c39] at H
        have LMc39 := aM c39; clear c39; obtain ⟨y533, hy533⟩ : ∃ y_ : List (Op), y_ = (x5_1 ++ [(⟨(rd_Op t511 x6_1).f0, (rd_Op t511 x6_1).f1, (rd_Op t511 x6_1).f2⟩ : Op)]) := ⟨_, rfl⟩; replace H : (patchworkref8_Trim.l0 k1 t511 t510 y533 (wrap64 (x6_1 + 1))) = some r := yN hy533 H
        have Ny533 := aM hy533; clear hy533; have H' := aM H; clear H; obtain ⟨Ao40, co40, eo40⟩ := Kd.R_slice HO_0.out; subst eo40; have p520 : 0 ≤ (x6_1 : Int) := yO; have q520 : x6_1 < (t511.length : Int) := yO; obtain ⟨ad520, e520, hx520_0, hx520_1, hx520_2⟩ := at_Op (Kd.R_reads' HO_0.out).2.2 x6_1 p520 q520; cases e520; replace p520 := eq_true p520; replace q520 := eq_true q520
        go_wp2_with (first | ((with_reducible refine gate_dst (N := 7) rfl ?_); refine box_event yR (N := 7) yR (cs := #[.int .i64 0, .int .i64 0, .string (⟨#[]⟩ : ByteArray)]) (t := 41) yQ ?_; intro gb521 hg w41 hbox hb; replace HO_0 := aM (Kd.R_below (Kd.R_elderB (yH HO_0.out) gb521 (Nat.le_of_eq hg.symm)) hb); replace HO_5 := aM (Kd.R_below (Kd.R_elderB (yH HO_5.out) gb521 (Nat.le_of_eq hg.symm)) hb); have BK521 := aM (hbox); have GW521 := aM ((yS : w.heap.size ≤ gb521)); have GE521 := aM ((yS : w.heap.size ≤ gb521)); replace HB := aM (below_step yB hb); clear hb hbox hg; obtain ⟨hcz42_0, hcz42_1, hcz42_2, hfz42_0, hfz42_1, hfz42_2⟩ := blk3 BK521.out) | ((with_reducible refine gate_builtin (b := .append) (xs := #[.tmp 43, .tmp 45]) rfl ?_); at_builtin; refine Kd.R_append kOp (w0 := w) w.heap.size rfl (.tmp 43) (.tmp 45) 22 41 (.agg #[(.int .i64 0), (.int .i64 0), (.string ⟨#[]⟩)]) 32 rfl Try.underlying22 info41 rfl (by decide) (by omega) u5 x5_1 (⟨(rd_Op t511 x6_1).f0, (rd_Op t511 x6_1).f1, (rd_Op t511 x6_1).f2⟩ : Op) [.int .i64 ((rd_Op t511 x6_1).f0), .int .i64 ((rd_Op t511 x6_1).f1), .string ((rd_Op t511 x6_1).f2)] (fun k_ => some k_ ≠ (.slice (some ad520) t511.length co40 : Value).ownBlock ∧ k_ ≠ gb521) (fun _ => False) rfl (by first | (go_simp; done) | (go_simp; rfl)) ?aP (fun _ hk => hk.elim) ?aF ?aO ?aB ?aS ?aL ?_; (case aP => exact kOp_mkM _ _ _ (⟨(rd_Op t511 x6_1).f0, (rd_Op t511 x6_1).f1, (rd_Op t511 x6_1).f2⟩ : Op)); (case aB => exact (yBg GE521.out)); (case aF => exact (fun k_ hk => ⟨Kd.fresh' (Kd.R_lt (by (with_reducible repeat (first | apply Kd.R_alloc | apply Kd.R_drewN | apply Kd.R_drew)); exact (Kd.R_mono (Kd.R_far (p := ⟨gb521, 2, none⟩) (Kd.R_far (p := ⟨gb521, 1, none⟩) (Kd.R_far (p := ⟨gb521, 0, none⟩) (Kd.R_mono HO_0.out (fun k_ hk => (⟨hk, hk.2⟩ : _ ∧ k_ ≠ gb521))) (fun _ hk => hk.2) (.int .i64 ((rd_Op t511 x6_1).f0))) (fun _ hk => hk.2) (.int .i64 ((rd_Op t511 x6_1).f1))) (fun _ hk => hk.2) (.string ((rd_Op t511 x6_1).f2))) (fun _ h_ => h_.1)))) k_ hk, Kd.freshB (g := gb521) (o := .cells #[.int .i64 ((rd_Op t511 x6_1).f0), .int .i64 ((rd_Op t511 x6_1).f1), .string ((rd_Op t511 x6_1).f2)] 41 (0, 0)) (by (with_reducible repeat (first | refine kN ?_ _ | refine kD ?_ | refine kA ?_ _)); refine blk_put (cs := #[.int .i64 ((rd_Op t511 x6_1).f0), .int .i64 ((rd_Op t511 x6_1).f1), .string (⟨#[]⟩ : ByteArray)]) ?_ 2 _ rfl; (with_reducible repeat (first | refine kN ?_ _ | refine kD ?_ | refine kA ?_ _)); refine blk_put (cs := #[.int .i64 ((rd_Op t511 x6_1).f0), .int .i64 0, .string (⟨#[]⟩ : ByteArray)]) ?_ 1 _ rfl; (with_reducible repeat (first | refine kN ?_ _ | refine kD ?_ | refine kA ?_ _)); refine blk_put (cs := #[.int .i64 0, .int .i64 0, .string (⟨#[]⟩ : ByteArray)]) ?_ 0 _ rfl; (with_reducible repeat (first | refine kN ?_ _ | refine kD ?_ | refine kA ?_ _)); exact BK521.out) k_ hk⟩)); (case aO => exact (by (with_reducible repeat (first | apply Kd.R_alloc | apply Kd.R_drewN | apply Kd.R_drew)); exact Kd.R_mono (Kd.R_far (p := ⟨gb521, 2, none⟩) (Kd.R_far (p := ⟨gb521, 1, none⟩) (Kd.R_far (p := ⟨gb521, 0, none⟩) (Kd.R_mono HO_5.out (fun k_ hk => (⟨hk, hk.2⟩ : _ ∧ k_ ≠ gb521))) (fun _ hk => hk.2) (.int .i64 ((rd_Op t511 x6_1).f0))) (fun _ hk => hk.2) (.int .i64 ((rd_Op t511 x6_1).f1))) (fun _ hk => hk.2) (.string ((rd_Op t511 x6_1).f2))) (fun _ hk => ⟨hk.1.1, hk.1.2⟩))); (case aS => exact (below_size (yBg GE521.out))); (case aL => have := LMc39.out; omega); intro v534 w43 ho hb hg hat; rw [← Ny533.out] at ho; have n0_ := aM (Kd.R_after (ok := (fun k_ => k_ ≠ gb521)) (by (with_reducible repeat (first | apply Kd.R_alloc | apply Kd.R_drewN | apply Kd.R_drew)); exact Kd.R_mono (Kd.R_far (p := ⟨gb521, 2, none⟩) (Kd.R_far (p := ⟨gb521, 1, none⟩) (Kd.R_far (p := ⟨gb521, 0, none⟩) (Kd.R_mono HO_0.out (fun k_ hk => (⟨hk, hk.2⟩ : _ ∧ k_ ≠ gb521))) (fun _ hk => hk.2) (.int .i64 ((rd_Op t511 x6_1).f0))) (fun _ hk => hk.2) (.int .i64 ((rd_Op t511 x6_1).f1))) (fun _ hk => hk.2) (.string ((rd_Op t511 x6_1).f2))) (fun _ hk => ⟨hk.1.2, hk.1.1⟩)) hg hat); have n1_ := aM (blk_grown (g := gb521) (o := .cells #[.int .i64 ((rd_Op t511 x6_1).f0), .int .i64 ((rd_Op t511 x6_1).f1), .string ((rd_Op t511 x6_1).f2)] 41 (0, 0)) (by (with_reducible repeat (first | refine kN ?_ _ | refine kD ?_ | refine kA ?_ _)); refine blk_put (cs := #[.int .i64 ((rd_Op t511 x6_1).f0), .int .i64 ((rd_Op t511 x6_1).f1), .string (⟨#[]⟩ : ByteArray)]) ?_ 2 _ rfl; (with_reducible repeat (first | refine kN ?_ _ | refine kD ?_ | refine kA ?_ _)); refine blk_put (cs := #[.int .i64 ((rd_Op t511 x6_1).f0), .int .i64 0, .string (⟨#[]⟩ : ByteArray)]) ?_ 1 _ rfl; (with_reducible repeat (first | refine kN ?_ _ | refine kD ?_ | refine kA ?_ _)); refine blk_put (cs := #[.int .i64 0, .int .i64 0, .string (⟨#[]⟩ : ByteArray)]) ?_ 0 _ rfl; (with_reducible repeat (first | refine kN ?_ _ | refine kD ?_ | refine kA ?_ _)); exact BK521.out) hg (Kd.R_away HO_5.out (fun _ hk => hk.2))); have n2_ := aM (hb); have n3_ := aM (ho); clear HO_0; clear BK521; clear HB; clear HO_5; have HO_0 := n0_; have BK521 := n1_; have HB := n2_; have HO535 := n3_; clear n0_ n1_ n2_ n3_; clear ho hb hg hat))
        go_roundg k1
        case measure => have := HK1.out; omega
        case rel => exact ⟨(y533), (wrap64 (x6_1 + 1)), yE, H', ⟨by have := HK1.out; omega⟩, ⟨by (with_reducible repeat (first | apply Kd.R_alloc | apply Kd.R_drewN | apply Kd.R_drew)); exact Kd.R_mono HO_0.out (fun _ hk => hk.2)⟩, ⟨by (with_reducible repeat (first | apply Kd.R_alloc | apply Kd.R_drewN | apply Kd.R_drew)); exact Kd.R_mono HO535.out (fun _ hk => hk.1)⟩, ⟨yBg GE521.out⟩⟩
       ·rw [if_neg c39] at H
        exact absurd H (by simp)
     ·rw [if_neg c10] at H
      exact absurd H (by simp)
    ·rw [if_neg c9] at H
     have c9b0 := decide_eq_false c9; clear c9; obtain ⟨t514, A44, H⟩ := oB H; obtain ⟨t517, A45, H⟩ := oB H; obtain rfl := Option.some.inj H; obtain ⟨Ao46, co46, eo46⟩ := Kd.R_slice HO_0.out; subst eo46; obtain ⟨Ao47, co47, eo47⟩ := Kd.R_slice HO_5.out; subst eo47
     go_wp2_with (first | ((with_reducible refine gate_callee (f := 41) rfl ?_); refine goesL_ (some 48) rfl rfl Try.func41 yK rfl #[.slice Ao47 x5_1.length co47] rfl yG ?_; (with_reducible refine (patchworkref8_norm.calls k1 _ _ x5_1 t514 _ (yC (Kd.R_reads' HO_5.out).2.2) ((Kd.R_reads' HO_5.out).2.1) A44.out).mono ?_); rintro e w48 ⟨v515, rfl, ho0, hb⟩; refine ⟨_, rfl, ?_⟩; have HO516 := aM (Kd.R_lower (Kd.R_new' (Kd.R_new' ho0 (Kd.R_lt (yH HO_0.out))) (Kd.R_lt (yH HO_5.out))) yW); replace HO_0 := aM (Kd.R_elder' (yH HO_0.out) (Kd.R_base ho0) hb); replace HO_5 := aM (Kd.R_elder' (yH HO_5.out) (Kd.R_base ho0) hb); replace HB := aM (below_step yB hb); clear hb ho0; obtain ⟨Ao49, co49, eo49⟩ := Kd.R_slice HO516.out; subst eo49) | ((with_reducible refine gate_callee (f := 28) rfl ?_); refine goesL_ (some 49) rfl rfl Try.func28 yK rfl #[.slice Ao49 t514.length co49] rfl yG ?_; (with_reducible refine (patchworkref8_Rest.calls k1 _ _ t514 t517 _ (yC (Kd.R_reads' HO516.out).2.2) ((Kd.R_reads' HO516.out).2.1) A45.out).mono ?_); rintro e w50 ⟨v518, rfl, ho0, hb⟩; refine ⟨_, rfl, ?_⟩; have HO519 := aM (Kd.R_lower (Kd.R_new' (Kd.R_new' (Kd.R_new' ho0 (Kd.R_lt (yH HO_0.out))) (Kd.R_lt (yH HO_5.out))) (Kd.R_lt (yH HO516.out))) yW); replace HO_0 := aM (Kd.R_elder' (yH HO_0.out) (Kd.R_base ho0) hb); replace HO_5 := aM (Kd.R_elder' (yH HO_5.out) (Kd.R_base ho0) hb); replace HO516 := aM (Kd.R_elder' (yH HO516.out) (Kd.R_base ho0) hb); replace HB := aM (below_step yB hb); clear hb ho0))
     go_ret
     exact ⟨_, by first | rfl | (simp [errW_none, errW_some] <;> rfl) | (simp [*, errW_none, errW_some] <;> rfl), by (with_reducible repeat (first | apply Kd.R_alloc | apply Kd.R_drewN | apply Kd.R_drew)); exact Kd.R_mono HO519.out (fun _ hk => trivial), yB⟩
 ·replace c4 := Bool.eq_false_iff.mpr c4
  subst c4; replace H := iF H; obtain rfl := Option.some.inj H
  go_enter Try.func25, Try.ntmps25
  go_wp2_with (first | ((with_reducible refine gate_callee (f := 32) rfl ?_); refine goesL_ (some 9) rfl rfl Try.func32 yK rfl #[.slice A0 l0.length c0] rfl yG ?_; (with_reducible refine (patchworkref8_Right.calls k _ _ l0 false _ (yC HR0.out) HC0.out A3.out).mono ?_); rintro e w51 ⟨rfl, hb⟩; refine ⟨_, rfl, ?_⟩; replace HB := aM (below_step yB hb); clear hb))
  go_ret
  exact ⟨_, by first | rfl | (simp [errW_none, errW_some] <;> rfl) | (simp [*, errW_none, errW_some] <;> rfl), by first | exact Kd.R_nil _ _ _ _ _ | exact Kd.N_nil _ _ _ _ _ | exact Kd.V_nil _ _ _ _ _ | exact Kd.Q_nil _ _ _ _ _ | exact Kd.S_nil _ _ _ _ _, yB⟩
end Go.Proofs.Ytfoponahdidddaa.P
