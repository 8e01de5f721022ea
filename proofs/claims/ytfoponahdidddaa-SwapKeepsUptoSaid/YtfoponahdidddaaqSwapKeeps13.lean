/- Own and printed texts that the theorem of SwapKeeps reaches, put together. -/
import Derived.Test.YtfoponahdidddaaqSwapKeeps4
import Derived.Test.YtfoponahdidddaaqSwapKeeps3
import Derived.Test.YtfoponahdidddaaqSwapKeeps11
import Derived.Test.YtfoponahdidddaaqSwapKeeps12
set_option linter.unusedVariables false
set_option linter.unusedSimpArgs false
namespace Go.Proofs.Ytfoponahdidddaa.P
open Go.RowKit Go.Proofs.YtfoponahdidddaaW.PrintWords Go.Proofs.YtfoponahdidddaaW.PrintLast Go.Proofs.YtfoponahdidddaaW.PrintMore
open Go.Proofs.YtfoponahdidddaaW.PrintWords.Aside0 renaming mk → aM
open Go.World renaming block_lt_of_cell? → bL
attribute [local go_sem] max2_int min2_int max_two min_two max_three min_three max_four min_four
set_option maxHeartbeats 8000000 in
set_option maxRecDepth 100000 in
theorem patchworklaw15_changes.calls (k : Nat) (A0 : Option Addr) (c0 : Nat) (l0 : List (Op)) (r : List (Op)) (w : World) (hr0 : Kd.C kOp w A0 l0.length l0) (hc0 : l0.length ≤ c0) (h : patchworklaw15_changes.f k l0 = some r) :
  Calls Try.prog 23 #[.slice A0 l0.length c0] w fun e w' => ∃ v0_ : Value, e = .returned (v0_) ∧ Kd.R kOp 41 w' w.heap.size (fun _ => True) v0_ r ∧ Below w.heap.size w w' := by
 have hu41 := Try.underlying41
 have HR0 := aM hr0
 have HC0 := aM hc0
 clear hr0 hc0
 have HB := aM (Below.refl w.heap.size w)
 have H : (patchworklaw15_changes.l0 k l0 ([] : List (Op)) 0) = some r := h
 clear h
 have H' := aM H
 clear H
 go_enter Try.func23, Try.ntmps23
 go_wp2
 go_loopg [3, 4] k (fun kq v3 v4 w' => ∃ (x3_1 : List (Op)) (x4_1 : Int), v4 = .int .i64 x4_1 ∧ Aside0 (patchworklaw15_changes.l0 kq l0 x3_1 x4_1 = some r) ∧ Aside0 (kq ≤ k) ∧ Aside0 (Kd.R kOp 41 w' w.heap.size (fun _ => True) v3 x3_1) ∧ Aside0 (Below w.heap.size w w'))
 case atStart => exact ⟨(([] : List (Op))), (0), yE, H', ⟨Nat.le_refl _⟩, ⟨by first | exact Kd.R_nil _ _ _ _ _ | exact Kd.N_nil _ _ _ _ _ | exact Kd.V_nil _ _ _ _ _ | exact Kd.Q_nil _ _ _ _ _ | exact Kd.S_nil _ _ _ _ _⟩, ⟨yB⟩⟩
 case round =>
  clear H'; obtain ⟨x3_1, x4_1, rfl, HA, HK1, HO_3, HB⟩ := hrel; cases gk with
  | zero => exact absurd HA.out (by simp [patchworklaw15_changes.l0])
  | succ k1 =>
   have H := HA.out; clear HA; simp only [patchworklaw15_changes.l0] at H
   by_cases c2 : x4_1 < (l0.length : Int)
   ·rw [if_pos c2] at H
    have c2b0 := decide_eq_true c2; clear c2
    by_cases c3 : 0 ≤ x4_1
    ·rw [if_pos c3] at H
     have c3b0 := decide_eq_true c3; clear c3
     by_cases c4 : ((rd_Op l0 x4_1).f0) = 3
     ·rw [if_pos c4] at H
      have c4b0 := beq_iff_eq.mpr c4; have c4b1 := bne_eq_false_iff_eq.mpr c4; clear c4
      by_cases c5 : x3_1.length < 4398046511104
      ·rw [if_pos c5] at H
       have LMc5 := aM c5; clear c5; obtain ⟨y447, hy447⟩ : ∃ y_ : List (Op), y_ = (x3_1 ++ [(⟨(rd_Op l0 x4_1).f0, (rd_Op l0 x4_1).f1, (rd_Op l0 x4_1).f2⟩ : Op)]) := ⟨_, rfl⟩; replace H : (patchworklaw15_changes.l0 k1 l0 y447 (wrap64 (x4_1 + 1))) = some r := yN hy447 H
       have Ny447 := aM hy447; clear hy447; have H' := aM H; clear H; have p445 : 0 ≤ (x4_1 : Int) := yO; have q445 : x4_1 < (l0.length : Int) := yO; obtain ⟨ad445, e445, hx445_0, hx445_1, hx445_2⟩ := at_OpB HB.out HR0.out x4_1 p445 q445; cases e445; replace p445 := eq_true p445; replace q445 := eq_true q445; have p446 : 0 ≤ (x4_1 : Int) := yO; have q446 : x4_1 < (l0.length : Int) := yO; obtain ⟨ad446, e446, hx446_0, hx446_1, hx446_2⟩ := at_Op HR0.out x4_1 p446 q446; obtain rfl : ad445 = ad446 := (by injection e446); replace hx446_0 := (HB.out.cell (bL w _ hx446_0)).trans hx446_0; replace hx446_1 := (HB.out.cell (bL w _ hx446_1)).trans hx446_1; replace hx446_2 := (HB.out.cell (bL w _ hx446_2)).trans hx446_2; replace p446 := eq_true p446; replace q446 := eq_true q446
       go_wp2_with (first | ((with_reducible refine gate_builtin (b := .append) (xs := #[.tmp 25, .tmp 30]) rfl ?_); at_builtin; refine Kd.R_append kOp (w0 := w) w.heap.size rfl (.tmp 25) (.tmp 30) 22 41 (.agg #[(.int .i64 0), (.int .i64 0), (.string ⟨#[]⟩)]) 32 rfl Try.underlying22 info41 rfl (by decide) (by omega) u3 x3_1 (⟨(rd_Op l0 x4_1).f0, (rd_Op l0 x4_1).f1, (rd_Op l0 x4_1).f2⟩ : Op) [.int .i64 ((rd_Op l0 x4_1).f0), .int .i64 ((rd_Op l0 x4_1).f1), .string ((rd_Op l0 x4_1).f2)] (fun _ => True) (fun _ => False) rfl rfl ?aP (fun _ hk => hk.elim) ?aF ?aO ?aB ?aS ?aL ?_; (case aP => exact kOp_mkM _ _ _ (⟨(rd_Op l0 x4_1).f0, (rd_Op l0 x4_1).f1, (rd_Op l0 x4_1).f2⟩ : Op)); (case aB => exact yB); (case aF => exact (fun _ _ => trivial)); (case aO => exact (yH HO_3.out)); (case aS => exact yW); (case aL => have := LMc5.out; omega); intro v448 w6 ho hb hg hat; rw [← Ny447.out] at ho; have n0_ := aM (hb); have n1_ := aM (ho); clear HB; clear HO_3; have HB := n0_; have HO449 := n1_; clear n0_ n1_; clear ho hb hg hat))
       go_roundg k1
       case measure => have := HK1.out; omega
       case rel => exact ⟨(y447), (wrap64 (x4_1 + 1)), yE, H', ⟨by have := HK1.out; omega⟩, ⟨yH HO449.out⟩, ⟨yB⟩⟩
      ·rw [if_neg c5] at H
       exact absurd H (by simp)
     ·rw [if_neg c4] at H
      have c4b0 := beq_eq_false_iff_ne.mpr c4; have c4b1 := bne_iff_ne.mpr c4
      by_cases c7 : ((rd_Op l0 x4_1).f0) = 4
      ·rw [if_pos c7] at H
       have c7b0 := beq_iff_eq.mpr c7; have c7b1 := bne_eq_false_iff_eq.mpr c7; clear c7
       by_cases c8 : x3_1.length < 4398046511104
       ·rw [if_pos c8] at H
        have LMc8 := aM c8; clear c8; obtain ⟨y452, hy452⟩ : ∃ y_ : List (Op), y_ = (x3_1 ++ [(⟨(rd_Op l0 x4_1).f0, (rd_Op l0 x4_1).f1, (rd_Op l0 x4_1).f2⟩ : Op)]) := ⟨_, rfl⟩; replace H : (patchworklaw15_changes.l0 k1 l0 y452 (wrap64 (x4_1 + 1))) = some r := yN hy452 H
        have Ny452 := aM hy452; clear hy452; have H' := aM H; clear H; have p445 : 0 ≤ (x4_1 : Int) := yO; have q445 : x4_1 < (l0.length : Int) := yO; obtain ⟨ad445, e445, hx445_0, hx445_1, hx445_2⟩ := at_OpB HB.out HR0.out x4_1 p445 q445; cases e445; replace p445 := eq_true p445; replace q445 := eq_true q445; have p450 : 0 ≤ (x4_1 : Int) := yO; have q450 : x4_1 < (l0.length : Int) := yO; obtain ⟨ad450, e450, hx450_0, hx450_1, hx450_2⟩ := at_Op HR0.out x4_1 p450 q450; obtain rfl : ad445 = ad450 := (by injection e450); replace hx450_0 := (HB.out.cell (bL w _ hx450_0)).trans hx450_0; replace hx450_1 := (HB.out.cell (bL w _ hx450_1)).trans hx450_1; replace hx450_2 := (HB.out.cell (bL w _ hx450_2)).trans hx450_2; replace p450 := eq_true p450; replace q450 := eq_true q450; have p451 : 0 ≤ (x4_1 : Int) := yO; have q451 : x4_1 < (l0.length : Int) := yO; obtain ⟨ad451, e451, hx451_0, hx451_1, hx451_2⟩ := at_Op HR0.out x4_1 p451 q451; obtain rfl : ad445 = ad451 := (by injection e451); replace hx451_0 := (HB.out.cell (bL w _ hx451_0)).trans hx451_0; replace hx451_1 := (HB.out.cell (bL w _ hx451_1)).trans hx451_1; replace hx451_2 := (HB.out.cell (bL w _ hx451_2)).trans hx451_2; replace p451 := eq_true p451; replace q451 := eq_true q451
        go_wp2_with (first | ((with_reducible refine gate_builtin (b := .append) (xs := #[.tmp 25, .tmp 30]) rfl ?_); at_builtin; refine Kd.R_append kOp (w0 := w) w.heap.size rfl (.tmp 25) (.tmp 30) 22 41 (.agg #[(.int .i64 0), (.int .i64 0), (.string ⟨#[]⟩)]) 32 rfl Try.underlying22 info41 rfl (by decide) (by omega) u3 x3_1 (⟨(rd_Op l0 x4_1).f0, (rd_Op l0 x4_1).f1, (rd_Op l0 x4_1).f2⟩ : Op) [.int .i64 ((rd_Op l0 x4_1).f0), .int .i64 ((rd_Op l0 x4_1).f1), .string ((rd_Op l0 x4_1).f2)] (fun _ => True) (fun _ => False) rfl rfl ?aP (fun _ hk => hk.elim) ?aF ?aO ?aB ?aS ?aL ?_; (case aP => exact kOp_mkM _ _ _ (⟨(rd_Op l0 x4_1).f0, (rd_Op l0 x4_1).f1, (rd_Op l0 x4_1).f2⟩ : Op)); (case aB => exact yB); (case aF => exact (fun _ _ => trivial)); (case aO => exact (yH HO_3.out)); (case aS => exact yW); (case aL => have := LMc8.out; omega); intro v453 w9 ho hb hg hat; rw [← Ny452.out] at ho; have n0_ := aM (hb); have n1_ := aM (ho); clear HB; clear HO_3; have HB := n0_; have HO454 := n1_; clear n0_ n1_; clear ho hb hg hat))
        go_roundg k1
        case measure => have := HK1.out; omega
        case rel => exact ⟨(y452), (wrap64 (x4_1 + 1)), yE, H', ⟨by have := HK1.out; omega⟩, ⟨yH HO454.out⟩, ⟨yB⟩⟩
       ·rw [if_neg c8] at H
        exact absurd H (by simp)
      ·rw [if_neg c7] at H
       have c7b0 := beq_eq_false_iff_ne.mpr c7; have c7b1 := bne_iff_ne.mpr c7; have H' := aM H; clear H; have p445 : 0 ≤ (x4_1 : Int) := yO; have q445 : x4_1 < (l0.length : Int) := yO; obtain ⟨ad445, e445, hx445_0, hx445_1, hx445_2⟩ := at_OpB HB.out HR0.out x4_1 p445 q445; cases e445; replace p445 := eq_true p445; replace q445 := eq_true q445; have p450 : 0 ≤ (x4_1 : Int) := yO; have q450 : x4_1 < (l0.length : Int) := yO; obtain ⟨ad450, e450, hx450_0, hx450_1, hx450_2⟩ := at_Op HR0.out x4_1 p450 q450; obtain rfl : ad445 = ad450 := (by injection e450); replace hx450_0 := (HB.out.cell (bL w _ hx450_0)).trans hx450_0; replace hx450_1 := (HB.out.cell (bL w _ hx450_1)).trans hx450_1; replace hx450_2 := (HB.out.cell (bL w _ hx450_2)).trans hx450_2; replace p450 := eq_true p450; replace q450 := eq_true q450
       go_wp2
       go_roundg k1
       case measure => have := HK1.out; omega
       case rel => exact ⟨(x3_1), (wrap64 (x4_1 + 1)), yE, H', ⟨by have := HK1.out; omega⟩, ⟨yH HO_3.out⟩, ⟨yB⟩⟩
    ·rw [if_neg c3] at H
     exact absurd H (by simp)
   ·rw [if_neg c2] at H
    have c2b0 := decide_eq_false c2; clear c2; obtain rfl := Option.some.inj H
    go_wp2
    go_ret
    exact ⟨_, by first | rfl | (simp [errW_none, errW_some] <;> rfl) | (simp [*, errW_none, errW_some] <;> rfl), by (with_reducible repeat (first | apply Kd.R_alloc | apply Kd.R_drewN | apply Kd.R_drew)); exact HO_3.out, yB⟩
set_option maxHeartbeats 8000000 in
set_option maxRecDepth 100000 in
theorem patchworkref8_Norm.calls (k : Nat) (A0 : Option Addr) (c0 : Nat) (l0 : List (Op)) (r : List (Op)) (w : World) (hr0 : Kd.C kOp w A0 l0.length l0) (hc0 : l0.length ≤ c0) (h : patchworkref8_Norm.f k l0 = some r) :
  Calls Try.prog 24 #[.slice A0 l0.length c0] w fun e w' => ∃ v0_ : Value, e = .returned (v0_) ∧ Kd.R kOp 41 w' w.heap.size (fun _ => True) v0_ r ∧ Below w.heap.size w w' := by
 have HR0 := aM hr0
 have HC0 := aM hc0
 clear hr0 hc0
 have HB := aM (Below.refl w.heap.size w)
 have H : ((patchworkref8_Right.f k l0).bind fun t455 => (if t455 = true then ((patchworkref8_norm.f k l0).bind fun t456 => (some t456)) else (some ([] : List (Op))))) = some r := h
 clear h
 obtain ⟨t455, A2, H⟩ := oB H
 by_cases c3 : t455 = true
 ·subst c3
  replace H := iT H; obtain ⟨t456, A4, H⟩ := oB H; obtain rfl := Option.some.inj H
  go_enter Try.func24, Try.ntmps24
  go_wp2_with (first | ((with_reducible refine gate_callee (f := 32) rfl ?_); refine goesL_ (some 4) rfl rfl Try.func32 yK rfl #[.slice A0 l0.length c0] rfl yG ?_; (with_reducible refine (patchworkref8_Right.calls k _ _ l0 true _ (yC HR0.out) HC0.out A2.out).mono ?_); rintro e w5 ⟨rfl, hb⟩; refine ⟨_, rfl, ?_⟩; replace HB := aM (below_step yB hb); clear hb) | ((with_reducible refine gate_callee (f := 41) rfl ?_); refine goesL_ (some 7) rfl rfl Try.func41 yK rfl #[.slice A0 l0.length c0] rfl yG ?_; (with_reducible refine (patchworkref8_norm.calls k _ _ l0 t456 _ (yC (Kd.C_below HR0.out HB.out)) HC0.out A4.out).mono ?_); rintro e w6 ⟨v457, rfl, ho0, hb⟩; refine ⟨_, rfl, ?_⟩; have HO458 := aM (Kd.R_lower ho0 yW); replace HB := aM (below_step yB hb); clear hb ho0))
  go_ret
  exact ⟨_, by first | rfl | (simp [errW_none, errW_some] <;> rfl) | (simp [*, errW_none, errW_some] <;> rfl), by (with_reducible repeat (first | apply Kd.R_alloc | apply Kd.R_drewN | apply Kd.R_drew)); exact HO458.out, yB⟩
 ·replace c3 := Bool.eq_false_iff.mpr c3
  subst c3; replace H := iF H; obtain rfl := Option.some.inj H
  go_enter Try.func24, Try.ntmps24
  go_wp2_with (first | ((with_reducible refine gate_callee (f := 32) rfl ?_); refine goesL_ (some 4) rfl rfl Try.func32 yK rfl #[.slice A0 l0.length c0] rfl yG ?_; (with_reducible refine (patchworkref8_Right.calls k _ _ l0 false _ (yC HR0.out) HC0.out A2.out).mono ?_); rintro e w7 ⟨rfl, hb⟩; refine ⟨_, rfl, ?_⟩; replace HB := aM (below_step yB hb); clear hb))
  go_ret
  exact ⟨_, by first | rfl | (simp [errW_none, errW_some] <;> rfl) | (simp [*, errW_none, errW_some] <;> rfl), by first | exact Kd.R_nil _ _ _ _ _ | exact Kd.N_nil _ _ _ _ _ | exact Kd.V_nil _ _ _ _ _ | exact Kd.Q_nil _ _ _ _ _ | exact Kd.S_nil _ _ _ _ _, yB⟩
end Go.Proofs.Ytfoponahdidddaa.P
