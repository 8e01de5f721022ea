/- Own and printed texts that the theorem of SwapApart reaches, put together. -/
import Derived.Test.YtfoponahdidddaaqSwapApart4
import Derived.Test.YtfoponahdidddaaqSwapApart3
import Derived.Test.YtfoponahdidddaaqSwapApart7
set_option linter.unusedVariables false
set_option linter.unusedSimpArgs false
namespace Go.Proofs.Ytfoponahdidddaa.P
open Go.RowKit Go.Proofs.YtfoponahdidddaaW.PrintWords Go.Proofs.YtfoponahdidddaaW.PrintLast Go.Proofs.YtfoponahdidddaaW.PrintMore
open Go.Proofs.YtfoponahdidddaaW.PrintWords.Aside0 renaming mk → aM
open Go.World renaming block_lt_of_cell? → bL
open List renaming setIfInBounds_toArray → sI, set_cons_zero → sZ, set_cons_succ → sS
attribute [local go_sem] max2_int min2_int max_two min_two max_three min_three max_four min_four
set_option maxHeartbeats 8000000 in
set_option maxRecDepth 100000 in
theorem patchworkref8_norm.calls (k : Nat) (A0 : Option Addr) (c0 : Nat) (l0 : List (Op)) (r : List (Op)) (w : World) (hr0 : Kd.C kOp w A0 l0.length l0) (hc0 : l0.length ≤ c0) (h : patchworkref8_norm.f k l0 = some r) :
  Calls Try.prog 41 #[.slice A0 l0.length c0] w fun e w' => ∃ v0_ : Value, e = .returned (v0_) ∧ Kd.R kOp 41 w' w.heap.size (fun _ => True) v0_ r ∧ Below w.heap.size w w' := by
 have hu41 := Try.underlying41
 have HR0 := aM hr0
 have HC0 := aM hc0
 clear hr0 hc0
 have HB := aM (Below.refl w.heap.size w)
 have H : (patchworkref8_norm.l0 k l0 ([] : List (Op)) ([] : List (Op)) 0) = some r := h
 clear h
 have H' := aM H
 clear H
 go_enter Try.func41, Try.ntmps41
 go_wp2
 go_loopg [3, 4, 5] k (fun kq v3 v4 v5 w' => ∃ (x3_1 : List (Op)) (x4_1 : List (Op)) (x5_1 : Int), v5 = .int .i64 x5_1 ∧ Aside0 (patchworkref8_norm.l0 kq l0 x3_1 x4_1 x5_1 = some r) ∧ Aside0 (kq ≤ k) ∧ Aside0 (Kd.R kOp 41 w' w.heap.size (fun k_ => some k_ ≠ (v4 : Value).ownBlock) v3 x3_1) ∧ Aside0 (Kd.R kOp 41 w' w.heap.size (fun k_ => some k_ ≠ (v3 : Value).ownBlock) v4 x4_1) ∧ Aside0 (Below w.heap.size w w'))
 case atStart => exact ⟨(([] : List (Op))), (([] : List (Op))), (0), yE, H', ⟨Nat.le_refl _⟩, ⟨by first | exact Kd.R_nil _ _ _ _ _ | exact Kd.N_nil _ _ _ _ _ | exact Kd.V_nil _ _ _ _ _ | exact Kd.Q_nil _ _ _ _ _ | exact Kd.S_nil _ _ _ _ _⟩, ⟨by first | exact Kd.R_nil _ _ _ _ _ | exact Kd.N_nil _ _ _ _ _ | exact Kd.V_nil _ _ _ _ _ | exact Kd.Q_nil _ _ _ _ _ | exact Kd.S_nil _ _ _ _ _⟩, ⟨yB⟩⟩
 case round =>
  clear H'; obtain ⟨x3_1, x4_1, x5_1, rfl, HA, HK1, HO_3, HO_4, HB⟩ := hrel; cases gk with
  | zero => exact absurd HA.out (by simp [patchworkref8_norm.l0])
  | succ k1 =>
   have H := HA.out; clear HA; simp only [patchworkref8_norm.l0] at H
   by_cases c2 : x5_1 ≤ (l0.length : Int)
   ·rw [if_pos c2] at H
    have c2b0 := decide_eq_true c2; clear c2; have HC3 := aM H; clear H
    go_upto_region 5 with (fail)
    go_cut [23] (fun v23 wc => ∃ (kq : Nat) (x23_2 : Bool), v23 = .bool x23_2 ∧ Aside0 (patchworkref8_norm.j1 kq l0 x3_1 x4_1 x5_1 x23_2 = some r) ∧ Aside0 (kq ≤ k1) ∧ Aside0 (Kd.R kOp 41 wc w.heap.size (fun k_ => some k_ ≠ (u4 : Value).ownBlock) u3 x3_1) ∧ Aside0 (Kd.R kOp 41 wc w.heap.size (fun k_ => some k_ ≠ (u3 : Value).ownBlock) u4 x4_1) ∧ Aside0 (Below w.heap.size w wc))
    case first =>
     have H := HC3.out; clear HC3
     by_cases c4 : x5_1 < (l0.length : Int)
     ·rw [if_pos c4] at H
      have c4b0 := decide_eq_true c4; clear c4
      (first | rw [c4b0] | (simp only [i64_w, i32_w]; rw [c4b0]) | skip)
      by_cases c5 : 0 ≤ x5_1
      ·rw [if_pos c5] at H
       have c5b0 := decide_eq_true c5; clear c5; have H' := aM H; clear H; have p280 : 0 ≤ (x5_1 : Int) := yO; have q280 : x5_1 < (l0.length : Int) := yO; obtain ⟨ad280, e280, hx280_0, hx280_1, hx280_2⟩ := at_OpB HB.out HR0.out x5_1 p280 q280; cases e280; replace p280 := eq_true p280; replace q280 := eq_true q280
       go_wp2
       go_meet
       case rel => exact ⟨_, ((((rd_Op l0 x5_1).f0) == 4)), yE, H', ⟨by have := HK1.out; first | omega | exact Nat.le_refl _⟩, ⟨yH HO_3.out⟩, ⟨yH HO_4.out⟩, ⟨yB⟩⟩
      ·rw [if_neg c5] at H
       exact absurd H (by simp)
     ·rw [if_neg c4] at H
      have c4b0 := decide_eq_false c4; clear c4
      (first | rw [c4b0] | (simp only [i64_w, i32_w]; rw [c4b0]) | skip)
      have H' := aM H; clear H
      go_wp2
      go_meet
      case rel => exact ⟨_, (false), yE, H', ⟨by have := HK1.out; first | omega | exact Nat.le_refl _⟩, ⟨yH HO_3.out⟩, ⟨yH HO_4.out⟩, ⟨yB⟩⟩
    case rest =>
     clear HC3; (try clear c2); (try clear c2b0); (try clear p2); (try clear q2); (try clear hx2); (try clear c4); (try clear c4b0); (try clear c5); (try clear c5b0); (try clear hx280_0); (try clear hx280_1); (try clear hx280_2); (try clear p280); (try clear q280); obtain ⟨kq, x23_2, rfl, HA, HJ2, HO_3, HO_4, HB⟩ := hcut; cases kq with
     | zero => exact absurd HA.out (by simp [patchworkref8_norm.j1])
     | succ kj2 =>
      have H := HA.out; clear HA; simp only [patchworkref8_norm.j1] at H
      by_cases c6 : x23_2 = true
      ·subst c6
       replace H := iT H
       by_cases c7 : 0 ≤ x5_1
       ·rw [if_pos c7] at H
        have c7b0 := decide_eq_true c7; clear c7
        by_cases c8 : x5_1 < (l0.length : Int)
        ·rw [if_pos c8] at H
         have c8b0 := decide_eq_true c8; clear c8
         by_cases c9 : x4_1.length < 4398046511104
         ·rw [if_pos c9] at H
          have LMc9 := aM c9; clear c9; obtain ⟨y282, hy282⟩ : ∃ y_ : List (Op), y_ = (x4_1 ++ [(⟨(rd_Op l0 x5_1).f0, (rd_Op l0 x5_1).f1, (rd_Op l0 x5_1).f2⟩ : Op)]) := ⟨_, rfl⟩; replace H : (patchworkref8_norm.l0 kj2 l0 x3_1 y282 (wrap64 (x5_1 + 1))) = some r := yN hy282 H
          have Ny282 := aM hy282; clear hy282; have H' := aM H; clear H; have p281 : 0 ≤ (x5_1 : Int) := yO; have q281 : x5_1 < (l0.length : Int) := yO; obtain ⟨ad281, e281, hx281_0, hx281_1, hx281_2⟩ := at_OpB HB.out HR0.out x5_1 p281 q281; cases e281; replace p281 := eq_true p281; replace q281 := eq_true q281
          go_wp2_with (first | ((with_reducible refine gate_builtin (b := .append) (xs := #[.tmp 24, .tmp 29]) rfl ?_); (try (refine gate_guard (by rfl) ?_; dsimp only)); at_builtin; refine Kd.R_append kOp (w0 := w) w.heap.size rfl (.tmp 24) (.tmp 29) 22 41 (.agg #[(.int .i64 0), (.int .i64 0), (.string ⟨#[]⟩)]) 32 rfl Try.underlying22 info41 rfl (by decide) (by omega) u4 x4_1 (⟨(rd_Op l0 x5_1).f0, (rd_Op l0 x5_1).f1, (rd_Op l0 x5_1).f2⟩ : Op) [.int .i64 ((rd_Op l0 x5_1).f0), .int .i64 ((rd_Op l0 x5_1).f1), .string ((rd_Op l0 x5_1).f2)] (fun k_ => some k_ ≠ (u3 : Value).ownBlock) (fun _ => False) rfl rfl ?aP (fun _ hk => hk.elim) ?aF ?aO ?aB ?aS ?aL ?_; (case aP => exact kOp_mkM _ _ _ (⟨(rd_Op l0 x5_1).f0, (rd_Op l0 x5_1).f1, (rd_Op l0 x5_1).f2⟩ : Op)); (case aB => exact yB); (case aF => exact (fun k_ hk => Kd.fresh' (Kd.R_lt (yH HO_3.out)) k_ hk)); (case aO => exact (yH HO_4.out)); (case aS => exact yW); (case aL => have := LMc9.out; omega); intro v283 w10 ho hb hg hat; rw [← Ny282.out] at ho; have n0_ := aM (Kd.R_after (ok := (fun _ => True)) (by (with_reducible repeat (first | apply Kd.R_alloc | apply Kd.R_drewN | apply Kd.R_drew)); exact Kd.R_mono HO_3.out (fun _ hk => ⟨trivial, hk⟩)) hg hat); have n1_ := aM (hb); have n2_ := aM (ho); clear HO_3; clear HB; clear HO_4; have HO_3 := n0_; have HB := n1_; have HO284 := n2_; clear n0_ n1_ n2_; clear ho hb hg hat))
          go_roundg kj2
          case measure => have := HK1.out; have := HJ2.out; omega
          case rel => exact ⟨(x3_1), (y282), (wrap64 (x5_1 + 1)), yE, H', ⟨by have := HK1.out; have := HJ2.out; omega⟩, ⟨by (with_reducible repeat (first | apply Kd.R_alloc | apply Kd.R_drewN | apply Kd.R_drew)); exact Kd.R_mono HO_3.out (fun _ hk => hk.2)⟩, ⟨yH HO284.out⟩, ⟨yB⟩⟩
         ·rw [if_neg c9] at H
          exact absurd H (by simp)
        ·rw [if_neg c8] at H
         exact absurd H (by simp)
       ·rw [if_neg c7] at H
        exact absurd H (by simp)
      ·replace c6 := Bool.eq_false_iff.mpr c6
       subst c6; replace H := iF H; have HC11 := aM H; clear H
       go_upto_region 7 with (fail)
       go_cut [42] (fun v42 wc => ∃ (kq : Nat) (x42_10 : Bool), v42 = .bool x42_10 ∧ Aside0 (patchworkref8_norm.j2 kq l0 x3_1 x4_1 x5_1 x42_10 = some r) ∧ Aside0 (kq ≤ kj2) ∧ Aside0 (Kd.R kOp 41 wc w.heap.size (fun k_ => some k_ ≠ (u4 : Value).ownBlock) u3 x3_1) ∧ Aside0 (Kd.R kOp 41 wc w.heap.size (fun k_ => some k_ ≠ (u3 : Value).ownBlock) u4 x4_1) ∧ Aside0 (Below w.heap.size w wc))
       case first =>
        have H := HC11.out; clear HC11
        by_cases c12 : x5_1 = (l0.length : Int)
        ·rw [if_pos c12] at H
         have c12b0 := beq_iff_eq.mpr c12; have c12b1 := bne_eq_false_iff_eq.mpr c12; clear c12
         (first | rw [c12b0] | (simp only [i64_w, i32_w]; rw [c12b0]) | skip)
         have H' := aM H; clear H
         go_wp2
         go_meet
         case rel => exact ⟨_, (true), yE, H', ⟨by have := HK1.out; have := HJ2.out; first | omega | exact Nat.le_refl _⟩, ⟨yH HO_3.out⟩, ⟨yH HO_4.out⟩, ⟨yB⟩⟩
        ·rw [if_neg c12] at H
         have c12b0 := beq_eq_false_iff_ne.mpr c12; have c12b1 := bne_iff_ne.mpr c12
         (first | rw [c12b0] | (simp only [i64_w, i32_w]; rw [c12b0]) | skip)
         by_cases c13 : 0 ≤ x5_1
         ·rw [if_pos c13] at H
          have c13b0 := decide_eq_true c13; clear c13
          by_cases c14 : x5_1 < (l0.length : Int)
          ·rw [if_pos c14] at H
           have c14b0 := decide_eq_true c14; clear c14; have H' := aM H; clear H; have p285 : 0 ≤ (x5_1 : Int) := yO; have q285 : x5_1 < (l0.length : Int) := yO; obtain ⟨ad285, e285, hx285_0, hx285_1, hx285_2⟩ := at_OpB HB.out HR0.out x5_1 p285 q285; cases e285; replace p285 := eq_true p285; replace q285 := eq_true q285
           go_wp2
           go_meet
           case rel => exact ⟨_, ((((rd_Op l0 x5_1).f0) != 3)), yE, H', ⟨by have := HK1.out; have := HJ2.out; first | omega | exact Nat.le_refl _⟩, ⟨yH HO_3.out⟩, ⟨yH HO_4.out⟩, ⟨yB⟩⟩
          ·rw [if_neg c14] at H
           exact absurd H (by simp)
         ·rw [if_neg c13] at H
          exact absurd H (by simp)
       case rest =>
        clear HC11; (try clear c1); (try clear c2); (try clear c2b0); (try clear p2); (try clear q2); (try clear hx2); (try clear c4); (try clear c4b0); (try clear c5); (try clear c5b0); (try clear c6); (try clear p6); (try clear c7); (try clear c7b0); (try clear c8); (try clear c8b0); (try clear c9); (try clear c12); (try clear c12b0); (try clear c12b1); (try clear c13); (try clear c13b0); (try clear c14); (try clear c14b0); (try clear hx280_0); (try clear hx280_1); (try clear hx280_2); (try clear hx281_0); (try clear hx281_1); (try clear hx281_2); (try clear hx285_0); (try clear hx285_1); (try clear hx285_2); (try clear p2); (try clear p280); (try clear p281); (try clear p285); (try clear q2); (try clear q280); (try clear q281); (try clear q285); obtain ⟨kq, x42_10, rfl, HA, HJ10, HO_3, HO_4, HB⟩ := hcut; cases kq with
        | zero => exact absurd HA.out (by simp [patchworkref8_norm.j2])
        | succ kj10 =>
         have H := HA.out; clear HA; simp only [patchworkref8_norm.j2] at H; have HC15 := aM H; clear H
         go_upto_if 42 with (fail)
         go_cut [3, 4] (fun v3 v4 wc => ∃ (kq : Nat) (x3_14 : List (Op)) (x4_14 : List (Op)), Aside0 (patchworkref8_norm.j3 kq l0 x3_14 x4_14 x5_1 = some r) ∧ Aside0 (kq ≤ kj10) ∧ Aside0 (Kd.R kOp 41 wc w.heap.size (fun k_ => some k_ ≠ (v4 : Value).ownBlock) v3 x3_14) ∧ Aside0 (Kd.R kOp 41 wc w.heap.size (fun k_ => some k_ ≠ (v3 : Value).ownBlock) v4 x4_14) ∧ Aside0 (Below w.heap.size w wc))
         case first =>
          have H := HC15.out; clear HC15
          by_cases c16 : x42_10 = true
          ·subst c16
           replace H := iT H
           by_cases c17 : x3_1.length + x4_1.length < 4398046511104
           ·rw [if_pos c17] at H
            have LMc17 := aM c17; clear c17; obtain ⟨y286, hy286⟩ : ∃ y_ : List (Op), y_ = (x3_1 ++ x4_1) := ⟨_, rfl⟩; replace H : (patchworkref8_norm.j3 kj10 l0 y286 ([] : List (Op)) x5_1) = some r := yN hy286 H
            have Ny286 := aM hy286; clear hy286; have H' := aM H; clear H; obtain ⟨Ao19, co19, eo19⟩ := Kd.R_slice HO_4.out; subst eo19
            go_wp2_with (first | ((with_reducible refine gate_builtin (b := .append) (xs := #[.tmp 43, .tmp 44]) rfl ?_); (try (refine gate_guard (by rfl) ?_; dsimp only)); at_builtin; refine Kd.R_append_rows kOp (w0 := w) w.heap.size rfl (.tmp 43) (.tmp 44) 22 41 (.agg #[(.int .i64 0), (.int .i64 0), (.string ⟨#[]⟩)]) 32 rfl Try.underlying22 info41 rfl (by decide) (by omega) u3 x3_1 x4_1 _ _ _ (fun k_ => some k_ ≠ (.slice Ao19 x4_1.length co19 : Value).ownBlock) (fun _ => False) rfl rfl ?aO ?aR (fun _ _ h => h) (fun _ h => h.elim) ?aF ?aB ?aS ?aL ?_; (case aR => repeat (first | exact (Kd.R_reads' HO_4.out).2.2 | (with_reducible first | refine Kd.C_alloc ?_ _ | refine Kd.C_drewN ?_ _ | refine Kd.C_drew ?_))); (case aB => exact yB); (case aF => exact (fun k_ hk => Kd.fresh' (Kd.R_lt (yH HO_4.out)) k_ hk)); (case aO => exact (yH HO_3.out)); (case aS => exact yW); (case aL => have := LMc17.out; omega); intro v287 w18 ho hb hg hat; rw [← Ny286.out] at ho; have n0_ := aM (Kd.R_after (ok := (fun _ => True)) (by (with_reducible repeat (first | apply Kd.R_alloc | apply Kd.R_drewN | apply Kd.R_drew)); exact Kd.R_mono HO_4.out (fun _ hk => ⟨trivial, hk⟩)) hg hat); have n1_ := aM (hb); have n2_ := aM (ho); clear HO_4; clear HB; clear HO_3; have HO_4 := n0_; have HB := n1_; have HO288 := n2_; clear n0_ n1_ n2_; clear ho hb hg hat))
            go_meet
            case rel => exact ⟨_, (y286), (([] : List (Op))), H', ⟨by have := HK1.out; have := HJ2.out; have := HJ10.out; first | omega | exact Nat.le_refl _⟩, ⟨by (with_reducible repeat (first | apply Kd.R_alloc | apply Kd.R_drewN | apply Kd.R_drew)); exact Kd.R_mono HO288.out (fun _ hk => (by simp [Value.ownBlock]))⟩, ⟨by first | exact Kd.R_nil _ _ _ _ _ | exact Kd.N_nil _ _ _ _ _ | exact Kd.V_nil _ _ _ _ _ | exact Kd.Q_nil _ _ _ _ _ | exact Kd.S_nil _ _ _ _ _⟩, ⟨yB⟩⟩
           ·rw [if_neg c17] at H
            exact absurd H (by simp)
          ·replace c16 := Bool.eq_false_iff.mpr c16
           subst c16; have H' := aM (iF H); clear H
           go_wp2
           go_meet
           case rel => exact ⟨_, (x3_1), (x4_1), H', ⟨by have := HK1.out; have := HJ2.out; have := HJ10.out; first | omega | exact Nat.le_refl _⟩, ⟨yH HO_3.out⟩, ⟨yH HO_4.out⟩, ⟨yB⟩⟩
         case rest =>
          clear HC15; (try clear c1); (try clear c2); (try clear c2b0); (try clear p2); (try clear q2); (try clear hx2); (try clear c4); (try clear c4b0); (try clear c5); (try clear c5b0); (try clear c6); (try clear p6); (try clear c7); (try clear c7b0); (try clear c8); (try clear c8b0); (try clear c9); (try clear c12); (try clear c12b0); (try clear c12b1); (try clear c13); (try clear c13b0); (try clear c14); (try clear c14b0); (try clear c16); (try clear c17); (try clear hx280_0); (try clear hx280_1); (try clear hx280_2); (try clear hx281_0); (try clear hx281_1); (try clear hx281_2); (try clear hx285_0); (try clear hx285_1); (try clear hx285_2); (try clear p2); (try clear p280); (try clear p281); (try clear p285); (try clear p6); (try clear q2); (try clear q280); (try clear q281); (try clear q285); obtain ⟨kq, x3_14, x4_14, HA, HJ14, HO_3, HO_4, HB⟩ := hcut; cases kq with
          | zero => exact absurd HA.out (by simp [patchworkref8_norm.j3])
          | succ kj14 =>
           have H := HA.out; clear HA; simp only [patchworkref8_norm.j3] at H
           by_cases c20 : x5_1 = (l0.length : Int)
           ·rw [if_pos c20] at H
            have c20b0 := beq_iff_eq.mpr c20; have c20b1 := bne_eq_false_iff_eq.mpr c20; clear c20; obtain rfl := Option.some.inj H
            go_wp2
            go_ret
            exact ⟨_, by first | rfl | (simp [errW_none, errW_some] <;> rfl) | (simp [*, errW_none, errW_some] <;> rfl), by (with_reducible repeat (first | apply Kd.R_alloc | apply Kd.R_drewN | apply Kd.R_drew)); exact Kd.R_mono HO_3.out (fun _ hk => trivial), yB⟩
           ·rw [if_neg c20] at H
            have c20b0 := beq_eq_false_iff_ne.mpr c20; have c20b1 := bne_iff_ne.mpr c20
            by_cases c21 : 0 ≤ x5_1
            ·rw [if_pos c21] at H
             have c21b0 := decide_eq_true c21; clear c21
             by_cases c22 : x5_1 < (l0.length : Int)
             ·rw [if_pos c22] at H
              have c22b0 := decide_eq_true c22; clear c22
              by_cases c23 : ((rd_Op l0 x5_1).f0) = 1
              ·rw [if_pos c23] at H
               have c23b0 := beq_iff_eq.mpr c23; have c23b1 := bne_eq_false_iff_eq.mpr c23; clear c23
               by_cases c24 : (x3_14.length : Int) > 0
               ·rw [if_pos c24] at H
                have c24b0 := decide_eq_true c24; have c24b1 : decide (0 < x3_14.length) = true := decide_eq_true (by omega); clear c24; obtain ⟨ji25, hji25⟩ : ∃ j_ : Int, (wrap64 ((x3_14.length : Int) - 1)) = j_ := ⟨_, rfl⟩; replace H : (if 0 ≤ (ji25) then (if (ji25) < (x3_14.length : Int) then (if ((rd_Op x3_14 (ji25)).f0) = 1 then ((patchworkref8_plus.f ((rd_Op x3_14 (ji25)).f1) ((rd_Op l0 x5_1).f1)).bind fun t293 => (patchworkref8_norm.l0 kj14 l0 (x3_14.set ((ji25) : Int).toNat (⟨(rd_Op x3_14 (ji25)).f0, t293, (rd_Op x3_14 (ji25)).f2⟩ : Op)) x4_14 (wrap64 (x5_1 + 1)))) else (if x3_14.length < 4398046511104 then (patchworkref8_norm.l0 kj14 l0 (x3_14 ++ [(⟨(rd_Op l0 x5_1).f0, (rd_Op l0 x5_1).f1, (rd_Op l0 x5_1).f2⟩ : Op)]) x4_14 (wrap64 (x5_1 + 1))) else (none))) else (none)) else (none)) = some r := by first | (rw [hji25] at H; exact H) | (simp only [hji25] at H ⊢; exact H)
                have hji25w : (IntKind.i64.wrap ((x3_14.length : Int) - 1)) = ji25 := (i64_w _).trans hji25
                by_cases c26 : 0 ≤ (ji25)
                ·rw [if_pos c26] at H
                 have c26b0 := decide_eq_true c26; clear c26
                 by_cases c27 : (ji25) < (x3_14.length : Int)
                 ·rw [if_pos c27] at H
                  have c27b0 := decide_eq_true c27; clear c27
                  by_cases c28 : ((rd_Op x3_14 (ji25)).f0) = 1
                  ·rw [if_pos c28] at H
                   have c28b0 := beq_iff_eq.mpr c28; have c28b1 := bne_eq_false_iff_eq.mpr c28; clear c28; obtain ⟨t293, A29, H⟩ := oB H; obtain ⟨y294, hy294⟩ : ∃ y_ : List (Op), y_ = (x3_14.set ((ji25) : Int).toNat (⟨(rd_Op x3_14 (ji25)).f0, t293, (rd_Op x3_14 (ji25)).f2⟩ : Op)) := ⟨_, rfl⟩; replace H : (patchworkref8_norm.l0 kj14 l0 y294 x4_14 (wrap64 (x5_1 + 1))) = some r := yN hy294 H
                   have Ny294 := aM hy294; clear hy294; have H' := aM H; clear H; have p289 : 0 ≤ (x5_1 : Int) := yO; have q289 : x5_1 < (l0.length : Int) := yO; obtain ⟨ad289, e289, hx289_0, hx289_1, hx289_2⟩ := at_OpB HB.out HR0.out x5_1 p289 q289; cases e289; replace p289 := eq_true p289; replace q289 := eq_true q289; obtain ⟨Ao31, co31, eo31⟩ := Kd.R_slice HO_3.out; subst eo31; have p290 : 0 ≤ ((ji25) : Int) := yO; have q290 : (ji25) < (x3_14.length : Int) := yO; obtain ⟨ad290, e290, hx290_0, hx290_1, hx290_2⟩ := at_Op (Kd.R_reads' HO_3.out).2.2 (ji25) p290 q290; cases e290; replace p290 := eq_true p290; replace q290 := eq_true q290
                   try go_wp2
                   replace HO_3 := aM (Kd.R_drew HO_3.out); replace HO_4 := aM (Kd.R_drew HO_4.out); replace HB := aM (below_drew1 HB.out); have p291 : 0 ≤ ((ji25) : Int) := yO; have q291 : (ji25) < (x3_14.length : Int) := yO; obtain ⟨ad291, e291, hx291_0, hx291_1, hx291_2⟩ := at_Op (Kd.R_reads' HO_3.out).2.2 (ji25) p291 q291; obtain rfl : ad290 = ad291 := (by injection e291); replace p291 := eq_true p291; replace q291 := eq_true q291; have p292 : 0 ≤ (x5_1 : Int) := yO; have q292 : x5_1 < (l0.length : Int) := yO; obtain ⟨ad292, e292, hx292_0, hx292_1, hx292_2⟩ := at_Op HR0.out x5_1 p292 q292; have hw292_2 := hx292_2; have hw292_1 := hx292_1; have hw292_0 := hx292_0; obtain rfl : ad289 = ad292 := (by injection e292); replace hx292_0 := (HB.out.cell (bL w _ hx292_0)).trans hx292_0; replace hx292_1 := (HB.out.cell (bL w _ hx292_1)).trans hx292_1; replace hx292_2 := (HB.out.cell (bL w _ hx292_2)).trans hx292_2; replace p292 := eq_true p292; replace q292 := eq_true q292
                   refine start_ (n := 20) (S := fun w' => w'.cell? (ad290.add (((ji25)).toNat * 3)) = some (.int .i64 ((rd_Op x3_14 (ji25)).f0)) ∧ w'.cell? ⟨(ad290.add (((ji25)).toNat * 3)).block, (ad290.add (((ji25)).toNat * 3)).off + 1, none⟩ = some (.int .i64 ((rd_Op x3_14 (ji25)).f1)) ∧ w'.cell? ⟨(ad290.add (((ji25)).toNat * 3)).block, (ad290.add (((ji25)).toNat * 3)).off + 2, none⟩ = some (.string ((rd_Op x3_14 (ji25)).f2)) ∧ w'.cell? (ad289.add ((x5_1).toNat * 3)) = some (.int .i64 ((rd_Op l0 x5_1).f0)) ∧ w'.cell? ⟨(ad289.add ((x5_1).toNat * 3)).block, (ad289.add ((x5_1).toNat * 3)).off + 1, none⟩ = some (.int .i64 ((rd_Op l0 x5_1).f1)) ∧ w'.cell? ⟨(ad289.add ((x5_1).toNat * 3)).block, (ad289.add ((x5_1).toNat * 3)).off + 2, none⟩ = some (.string ((rd_Op l0 x5_1).f2))) (ds := [19]) #[false, false, false, false, false, false, false, false, false, false, false, false, false, false, false, false, false, false, false, false] yK rfl rfl ⟨hx291_0, hx291_1, hx291_2, ((HB.out.cell (bL w _ hw292_0)).trans hw292_0), ((HB.out.cell (bL w _ hw292_1)).trans hw292_1), ((HB.out.cell (bL w _ hw292_2)).trans hw292_2)⟩ (fun hHeld => ?_); refine with_tabW patchworkref8_norm.tab12 patchworkref8_norm.bits12 (fun HT_ HW_ => ?_)
                   generalize wc.drew = w32 at HO_3 HO_4 HB hx291_0 hx291_1 hx291_2 hx292_0 hx292_1 hx292_2 hHeld ⊢
                   refine pure_ (i := 0) (N := some 71) (v := ?_) (a' := ?_) #[true, false, false, false, false, false, false, false, false, false, false, false, false, false, false, false, false, false, false, false] rfl rfl (any_of HT_.out yK) yI (Or.inl ⟨by rfl, ?_⟩) ?_ ?_
                   rotate_left; exact yP1; rotate_left; exact yP2
                   refine pure_ (i := 1) (N := some 72) (v := ?_) (a' := ?_) #[true, true, false, false, false, false, false, false, false, false, false, false, false, false, false, false, false, false, false, false] rfl rfl (any_of HT_.out yK) yI (Or.inl ⟨by rfl, ?_⟩) ?_ ?_
                   rotate_left; exact yP1; rotate_left; exact yP2
                   refine pure_ (i := 2) (N := some 73) (v := ?_) (a' := ?_) #[true, true, true, false, false, false, false, false, false, false, false, false, false, false, false, false, false, false, false, false] rfl rfl (any_of HT_.out yK) yI (Or.inl ⟨by rfl, ?_⟩) ?_ ?_
                   rotate_left; exact yP1; rotate_left; exact yP2
                   refine pure_ (i := 3) (N := some 74) (v := ?_) (a' := ?_) #[true, true, true, true, false, false, false, false, false, false, false, false, false, false, false, false, false, false, false, false] rfl rfl (any_of HT_.out yK) yI (Or.inl ⟨by rfl, ?_⟩) ?_ ?_
                   rotate_left; exact yP1; rotate_left; exact yP2
                   refine pure_ (i := 4) (N := some 75) (v := ?_) (a' := ?_) #[true, true, true, true, true, false, false, false, false, false, false, false, false, false, false, false, false, false, false, false] rfl rfl (any_of HT_.out yK) yI (Or.inl ⟨by rfl, ?_⟩) ?_ ?_
                   rotate_left; exact yP1; rotate_left; exact yP2
                   refine pure_ (i := 5) (N := some 76) (v := ?_) (a' := ?_) #[true, true, true, true, true, true, false, false, false, false, false, false, false, false, false, false, false, false, false, false] rfl rfl (any_of HT_.out yK) yI (Or.inl ⟨by rfl, ?_⟩) ?_ ?_
                   rotate_left; exact yP1; rotate_left; exact yP2
                   refine pure_ (i := 6) (N := some 77) (v := ?_) (a' := ?_) #[true, true, true, true, true, true, true, false, false, false, false, false, false, false, false, false, false, false, false, false] rfl rfl (any_of HT_.out yK) yI (Or.inl ⟨by rfl, ?_⟩) ?_ ?_
                   rotate_left; exact yP1; rotate_left; exact yP2
                   refine pure_ (i := 7) (N := some 78) (v := ?_) (a' := ?_) #[true, true, true, true, true, true, true, true, false, false, false, false, false, false, false, false, false, false, false, false] rfl rfl (any_of HT_.out yK) yI (Or.inl ⟨by rfl, ?_⟩) ?_ ?_
                   rotate_left; exact yP1; rotate_left; exact yP2
                   refine pure_ (i := 8) (N := some 79) (v := ?_) (a' := ?_) #[true, true, true, true, true, true, true, true, true, false, false, false, false, false, false, false, false, false, false, false] rfl rfl (any_of HT_.out yK) yI (Or.inl ⟨by rfl, ?_⟩) ?_ ?_
                   rotate_left; exact yP1; rotate_left; exact yP2
                   refine pure_ (i := 9) (N := some 80) (v := ?_) (a' := ?_) #[true, true, true, true, true, true, true, true, true, true, false, false, false, false, false, false, false, false, false, false] rfl rfl (any_of HT_.out yK) yI (Or.inl ⟨by rfl, ?_⟩) ?_ ?_
                   rotate_left; exact yP1; rotate_left; exact yP2
                   refine pure_ (i := 11) (N := some 82) (v := ?_) (a' := ?_) #[true, true, true, true, true, true, true, true, true, true, false, true, false, false, false, false, false, false, false, false] rfl rfl (any_of HT_.out yK) yI (Or.inl ⟨by rfl, ?_⟩) ?_ ?_
                   rotate_left; exact yP1; rotate_left; exact yP2
                   refine pure_ (i := 12) (N := some 83) (v := ?_) (a' := ?_) #[true, true, true, true, true, true, true, true, true, true, false, true, true, false, false, false, false, false, false, false] rfl rfl (any_of HT_.out yK) yI (Or.inl ⟨by rfl, ?_⟩) ?_ ?_
                   rotate_left; exact yP1; rotate_left; exact yP2
                   refine pure_ (i := 13) (N := some 84) (v := ?_) (a' := ?_) #[true, true, true, true, true, true, true, true, true, true, false, true, true, true, false, false, false, false, false, false] rfl rfl (any_of HT_.out yK) yI (Or.inl ⟨by rfl, ?_⟩) ?_ ?_
                   rotate_left; exact yP1; rotate_left; exact yP2
                   refine pure_ (i := 14) (N := some 85) (v := ?_) (a' := ?_) #[true, true, true, true, true, true, true, true, true, true, false, true, true, true, true, false, false, false, false, false] rfl rfl (any_of HT_.out yK) yI (Or.inl ⟨by rfl, ?_⟩) ?_ ?_
                   rotate_left; exact yP1; rotate_left; exact yP2
                   refine take_ (i := 10) (N := some 81) (v := ?_) (a' := ?_) #[true, true, true, true, true, true, true, true, true, true, true, true, true, true, true, false, false, false, false, false] rfl rfl (take_ofW HT_.out HW_.out yK) (fun _ _ _ h => h) (Or.inl ⟨by rfl, ?_⟩) hHeld ?_ ?_
                   rotate_left
                   ·rintro w' ⟨s0, s1, s2, s3, s4, s5⟩
                    go_simp
                    with_reducible rfl
                   rotate_left
                   ·simp only [Act.put, sI, sZ, sS, i64_w, i32_w]
                    rfl
                   refine take_ (i := 15) (N := some 86) (v := ?_) (a' := ?_) #[true, true, true, true, true, true, true, true, true, true, true, true, true, true, true, true, false, false, false, false] rfl rfl (take_ofW HT_.out HW_.out yK) (fun _ _ _ h => h) (Or.inl ⟨by rfl, ?_⟩) hHeld ?_ ?_
                   rotate_left
                   ·rintro w' ⟨s0, s1, s2, s3, s4, s5⟩
                    go_simp
                    with_reducible rfl
                   rotate_left
                   ·simp only [Act.put, sI, sZ, sS, i64_w, i32_w]
                    rfl
                   refine one_ (i := 16) (N := some 87) #[true, true, true, true, true, true, true, true, true, true, true, true, true, true, true, true, true, false, false, false] rfl rfl (one_of HT_.out yK) (by decide) (fun K hK => ?_)
                   refine goes_ Try.func47 yK rfl #[.int .i64 ((rd_Op x3_14 (ji25)).f1), .int .i64 ((rd_Op l0 x5_1).f1)] (by rfl) rfl rfl (by (try simp only [List.map_toArray, List.map_cons, List.map_nil]); first | done | (simp only [hji25]; rfl) | rfl | (simp only [List.length_drop, List.length_take]; rfl)) ?_
                   with_reducible refine (patchworkref8_plus.calls ((rd_Op x3_14 (ji25)).f1) ((rd_Op l0 x5_1).f1) t293 _ A29.out).mono ?_
                   rintro e w' ⟨rfl, ⟨nd, rfl⟩⟩
                   refine ⟨_, rfl, ?_⟩
                   have p30 : 0 ≤ ((ji25) : Int) := yO; have q30 : ((ji25) : Int) < ((x3_14.length : Int) : Int) := yO; obtain ⟨go30, co30, eo30, gb30, gl30, cl30, HG30⟩ := Kd.R_form HO_3.out (by omega)
                   (first | cases eo30 | (injection eo30 with ea_ en_ ec_; (first | subst ea_ | (injection ea_ with ea_; subst ea_)); subst ec_; clear en_))
                   have GB30 := aM gb30; have GG30 := aM HG30; clear gb30 gl30 HG30
                   (first | simp only [add_plain] at hx290_0 | skip)
                   (first | simp only [add_plain] at hx290_1 | skip)
                   (first | simp only [add_plain] at hx290_2 | skip)
                   (first | simp only [add_plain] at hx291_0 | skip)
                   (first | simp only [add_plain] at hx291_1 | skip)
                   (first | simp only [add_plain] at hx291_2 | skip)
                   obtain ⟨ce30, hcl30, hM30, hcc30, hfr30⟩ := Kd.R_elem HO_3.out zOp ((ji25) : Int) p30 q30; obtain rfl := kOp_openM hM30; have hx30_0 : World.cell? _ ⟨go30, ((ji25) : Int).toNat * 3, none⟩ = some (.int .i64 ((rd_Op x3_14 (ji25)).f0)) := hcc30 0 _ rfl; have hx30_1 : World.cell? _ ⟨go30, ((ji25) : Int).toNat * 3 + 1, none⟩ = some (.int .i64 ((rd_Op x3_14 (ji25)).f1)) := hcc30 1 _ rfl; have hx30_2 : World.cell? _ ⟨go30, ((ji25) : Int).toNat * 3 + 2, none⟩ = some (.string ((rd_Op x3_14 (ji25)).f2)) := hcc30 2 _ rfl; have hf30_0 : World.frozen? _ ⟨go30, ((ji25) : Int).toNat * 3, none⟩ = false := hfr30 0; have hf30_1 : World.frozen? _ ⟨go30, ((ji25) : Int).toNat * 3 + 1, none⟩ = false := hfr30 1; have hf30_2 : World.frozen? _ ⟨go30, ((ji25) : Int).toNat * 3 + 2, none⟩ = false := hfr30 2; clear hcl30 hcc30 hfr30 hM30; replace p30 := eq_true p30; replace q30 := eq_true q30; obtain ⟨ce33, hcl33, hM33, hcc33, hfr33⟩ := Kd.R_elem HO_3.out zOp ((ji25) : Int) (yO) (by have h_ : ((ji25) : Int) < ((x3_14.length : Int) : Int) := yO; first | exact h_ | (have e_ := (Kd.R_reads' HO_3.out).1; omega) | simpa using h_); obtain rfl := kOp_openM hM33; have HP33 := (Kd.R_seg HO_3.out ((ji25) : Int) (yO) (by have h_ : ((ji25) : Int) < ((x3_14.length : Int) : Int) := yO; first | exact h_ | (have e_ := (Kd.R_reads' HO_3.out).1; omega) | simpa using h_) (seg := [.int .i64 t293]) (j := 1) hcl33 hcc33 (show 2 ≤ 3 from by decide) (x' := (⟨(rd_Op x3_14 (ji25)).f0, t293, (rd_Op x3_14 (ji25)).f2⟩ : Op)) (kOp_mkM _ _ _ (⟨(rd_Op x3_14 (ji25)).f0, t293, (rd_Op x3_14 (ji25)).f2⟩ : Op) ) (fun _ hk => hk)).1; rw [← Ny294.out] at HP33; have HQ33 := aM HP33; clear hcl33 hcc33 hfr33 hM33 HP33
                   refine hK.out _ _ ⟨hHeld.1, hHeld.2.1, hHeld.2.2.1, ((HB.out.cell (bL w _ hw292_0)).trans hw292_0), ((HB.out.cell (bL w _ hw292_1)).trans hw292_1), ((HB.out.cell (bL w _ hw292_2)).trans hw292_2)⟩ (fun hHeld => ?_)
                   clear hK K
                   refine norm_ (a' := ?_) ?_ ?_
                   rotate_left
                   ·show Act.put _ (some 87) _ = _
                    simp only [Act.put, sI, sZ, sS, i64_w, i32_w]
                    rfl
                   refine pure_ (i := 17) (N := some 88) (v := ?_) (a' := ?_) #[true, true, true, true, true, true, true, true, true, true, true, true, true, true, true, true, true, true, false, false] rfl rfl (any_of HT_.out yK) yI (Or.inl ⟨by rfl, ?_⟩) ?_ ?_
                   rotate_left; exact yP1; rotate_left; exact yP2
                   refine pure_ (i := 18) (N := some 89) (v := ?_) (a' := ?_) #[true, true, true, true, true, true, true, true, true, true, true, true, true, true, true, true, true, true, true, false] rfl rfl (any_of HT_.out yK) yI (Or.inl ⟨by rfl, ?_⟩) ?_ ?_
                   rotate_left; exact yP1; rotate_left; exact yP2
                   refine last_ (i := 19) (N := none) #[true, true, true, true, true, true, true, true, true, true, true, true, true, true, true, true, true, true, true, true] rfl rfl (one_of HT_.out yK) (by decide) (fun K hK => ?_)
                   refine skip_ (w1 := ?_) (by rfl) rfl ?_ ?_
                   rotate_left
                   ·go_simp
                    rfl
                   refine hK.out _ _ ?_
                   clear hK K
                   refine done_ (done_of HT_.out yK) ?_
                   try go_wp2
                   go_roundg kj14
                   case measure => have := HK1.out; have := HJ2.out; have := HJ10.out; have := HJ14.out; omega
                   case rel => exact ⟨(y294), (x4_14), (wrap64 (x5_1 + 1)), yE, H', ⟨by have := HK1.out; have := HJ2.out; have := HJ10.out; have := HJ14.out; omega⟩, ⟨yH HQ33.out⟩, ⟨by (with_reducible repeat (first | apply Kd.R_alloc | apply Kd.R_drewN | apply Kd.R_drew)); exact Kd.R_mono (Kd.R_far (p := ⟨go30, ((ji25) : Int).toNat * 3 + 1, none⟩) (Kd.R_mono HO_4.out (fun k_ hk => (⟨hk, fun e_ => hk (by rw [e_]; rfl)⟩ : _ ∧ k_ ≠ go30))) (fun _ hk => hk.2) (.int .i64 t293)) (fun _ hk => hk.1)⟩, ⟨yBg GB30.out⟩⟩
                  ·rw [if_neg c28] at H
                   have c28b0 := beq_eq_false_iff_ne.mpr c28; have c28b1 := bne_iff_ne.mpr c28
                   by_cases c34 : x3_14.length < 4398046511104
                   ·rw [if_pos c34] at H
                    have LMc34 := aM c34; clear c34; obtain ⟨y296, hy296⟩ : ∃ y_ : List (Op), y_ = (x3_14 ++ [(⟨(rd_Op l0 x5_1).f0, (rd_Op l0 x5_1).f1, (rd_Op l0 x5_1).f2⟩ : Op)]) := ⟨_, rfl⟩; replace H : (patchworkref8_norm.l0 kj14 l0 y296 x4_14 (wrap64 (x5_1 + 1))) = some r := yN hy296 H
                    have Ny296 := aM hy296; clear hy296; have H' := aM H; clear H; have p289 : 0 ≤ (x5_1 : Int) := yO; have q289 : x5_1 < (l0.length : Int) := yO; obtain ⟨ad289, e289, hx289_0, hx289_1, hx289_2⟩ := at_OpB HB.out HR0.out x5_1 p289 q289; cases e289; replace p289 := eq_true p289; replace q289 := eq_true q289; obtain ⟨Ao35, co35, eo35⟩ := Kd.R_slice HO_3.out; subst eo35; have p290 : 0 ≤ ((ji25) : Int) := yO; have q290 : (ji25) < (x3_14.length : Int) := yO; obtain ⟨ad290, e290, hx290_0, hx290_1, hx290_2⟩ := at_Op (Kd.R_reads' HO_3.out).2.2 (ji25) p290 q290; cases e290; replace p290 := eq_true p290; replace q290 := eq_true q290; have p295 : 0 ≤ (x5_1 : Int) := yO; have q295 : x5_1 < (l0.length : Int) := yO; obtain ⟨ad295, e295, hx295_0, hx295_1, hx295_2⟩ := at_Op HR0.out x5_1 p295 q295; obtain rfl : ad289 = ad295 := (by injection e295); replace hx295_0 := (HB.out.cell (bL w _ hx295_0)).trans hx295_0; replace hx295_1 := (HB.out.cell (bL w _ hx295_1)).trans hx295_1; replace hx295_2 := (HB.out.cell (bL w _ hx295_2)).trans hx295_2; replace p295 := eq_true p295; replace q295 := eq_true q295
                    go_wp2_with (first | ((with_reducible refine gate_builtin (b := .append) (xs := #[.tmp 90, .tmp 95]) rfl ?_); (try (refine gate_guard (by rfl) ?_; dsimp only)); at_builtin; refine Kd.R_append kOp (w0 := w) w.heap.size rfl (.tmp 90) (.tmp 95) 22 41 (.agg #[(.int .i64 0), (.int .i64 0), (.string ⟨#[]⟩)]) 32 rfl Try.underlying22 info41 rfl (by decide) (by omega) (.slice (some ad290) x3_14.length co35) x3_14 (⟨(rd_Op l0 x5_1).f0, (rd_Op l0 x5_1).f1, (rd_Op l0 x5_1).f2⟩ : Op) [.int .i64 ((rd_Op l0 x5_1).f0), .int .i64 ((rd_Op l0 x5_1).f1), .string ((rd_Op l0 x5_1).f2)] (fun k_ => some k_ ≠ (u4 : Value).ownBlock) (fun _ => False) rfl rfl ?aP (fun _ hk => hk.elim) ?aF ?aO ?aB ?aS ?aL ?_; (case aP => exact kOp_mkM _ _ _ (⟨(rd_Op l0 x5_1).f0, (rd_Op l0 x5_1).f1, (rd_Op l0 x5_1).f2⟩ : Op)); (case aB => exact yB); (case aF => exact (fun k_ hk => Kd.fresh' (Kd.R_lt (yH HO_4.out)) k_ hk)); (case aO => exact (yH HO_3.out)); (case aS => exact yW); (case aL => have := LMc34.out; omega); intro v297 w36 ho hb hg hat; rw [← Ny296.out] at ho; have n0_ := aM (Kd.R_after (ok := (fun _ => True)) (by (with_reducible repeat (first | apply Kd.R_alloc | apply Kd.R_drewN | apply Kd.R_drew)); exact Kd.R_mono HO_4.out (fun _ hk => ⟨trivial, hk⟩)) hg hat); have n1_ := aM (hb); have n2_ := aM (ho); clear HO_4; clear HB; clear HO_3; have HO_4 := n0_; have HB := n1_; have HO298 := n2_; clear n0_ n1_ n2_; clear ho hb hg hat))
                    go_roundg kj14
                    case measure => have := HK1.out; have := HJ2.out; have := HJ10.out; have := HJ14.out; omega
                    case rel => exact ⟨(y296), (x4_14), (wrap64 (x5_1 + 1)), yE, H', ⟨by have := HK1.out; have := HJ2.out; have := HJ10.out; have := HJ14.out; omega⟩, ⟨yH HO298.out⟩, ⟨by (with_reducible repeat (first | apply Kd.R_alloc | apply Kd.R_drewN | apply Kd.R_drew)); exact Kd.R_mono HO_4.out (fun _ hk => hk.2)⟩, ⟨yB⟩⟩
                   ·rw [if_neg c34] at H
                    exact absurd H (by simp)
                 ·rw [if_neg c27] at H
                  exact absurd H (by simp)
                ·rw [if_neg c26] at H
                 exact absurd H (by simp)
               ·rw [if_neg c24] at H
                have c24b0 := decide_eq_false c24; have c24b1 : decide (0 < x3_14.length) = false := decide_eq_false (by omega); clear c24
                by_cases c37 : x3_14.length < 4398046511104
                ·rw [if_pos c37] at H
                 have LMc37 := aM c37; clear c37; obtain ⟨y300, hy300⟩ : ∃ y_ : List (Op), y_ = (x3_14 ++ [(⟨(rd_Op l0 x5_1).f0, (rd_Op l0 x5_1).f1, (rd_Op l0 x5_1).f2⟩ : Op)]) := ⟨_, rfl⟩; replace H : (patchworkref8_norm.l0 kj14 l0 y300 x4_14 (wrap64 (x5_1 + 1))) = some r := yN hy300 H
                 have Ny300 := aM hy300; clear hy300; have H' := aM H; clear H; have p289 : 0 ≤ (x5_1 : Int) := yO; have q289 : x5_1 < (l0.length : Int) := yO; obtain ⟨ad289, e289, hx289_0, hx289_1, hx289_2⟩ := at_OpB HB.out HR0.out x5_1 p289 q289; cases e289; replace p289 := eq_true p289; replace q289 := eq_true q289; obtain ⟨Ao38, co38, eo38⟩ := Kd.R_slice HO_3.out; subst eo38; have p299 : 0 ≤ (x5_1 : Int) := yO; have q299 : x5_1 < (l0.length : Int) := yO; obtain ⟨ad299, e299, hx299_0, hx299_1, hx299_2⟩ := at_Op HR0.out x5_1 p299 q299; obtain rfl : ad289 = ad299 := (by injection e299); replace hx299_0 := (HB.out.cell (bL w _ hx299_0)).trans hx299_0; replace hx299_1 := (HB.out.cell (bL w _ hx299_1)).trans hx299_1; replace hx299_2 := (HB.out.cell (bL w _ hx299_2)).trans hx299_2; replace p299 := eq_true p299; replace q299 := eq_true q299
                 go_wp2_with (first | ((with_reducible refine gate_builtin (b := .append) (xs := #[.tmp 90, .tmp 95]) rfl ?_); (try (refine gate_guard (by rfl) ?_; dsimp only)); at_builtin; refine Kd.R_append kOp (w0 := w) w.heap.size rfl (.tmp 90) (.tmp 95) 22 41 (.agg #[(.int .i64 0), (.int .i64 0), (.string ⟨#[]⟩)]) 32 rfl Try.underlying22 info41 rfl (by decide) (by omega) (.slice Ao38 x3_14.length co38) x3_14 (⟨(rd_Op l0 x5_1).f0, (rd_Op l0 x5_1).f1, (rd_Op l0 x5_1).f2⟩ : Op) [.int .i64 ((rd_Op l0 x5_1).f0), .int .i64 ((rd_Op l0 x5_1).f1), .string ((rd_Op l0 x5_1).f2)] (fun k_ => some k_ ≠ (u4 : Value).ownBlock) (fun _ => False) rfl rfl ?aP (fun _ hk => hk.elim) ?aF ?aO ?aB ?aS ?aL ?_; (case aP => exact kOp_mkM _ _ _ (⟨(rd_Op l0 x5_1).f0, (rd_Op l0 x5_1).f1, (rd_Op l0 x5_1).f2⟩ : Op)); (case aB => exact yB); (case aF => exact (fun k_ hk => Kd.fresh' (Kd.R_lt (yH HO_4.out)) k_ hk)); (case aO => exact (yH HO_3.out)); (case aS => exact yW); (case aL => have := LMc37.out; omega); intro v301 w39 ho hb hg hat; rw [← Ny300.out] at ho; have n0_ := aM (Kd.R_after (ok := (fun _ => True)) (by (with_reducible repeat (first | apply Kd.R_alloc | apply Kd.R_drewN | apply Kd.R_drew)); exact Kd.R_mono HO_4.out (fun _ hk => ⟨trivial, hk⟩)) hg hat); have n1_ := aM (hb); have n2_ := aM (ho); clear HO_4; clear HB; clear HO_3; have HO_4 := n0_; have HB := n1_; have HO302 := n2_; clear n0_ n1_ n2_; clear ho hb hg hat))
                 go_roundg kj14
                 case measure => have := HK1.out; have := HJ2.out; have := HJ10.out; have := HJ14.out; omega
                 case rel => exact ⟨(y300), (x4_14), (wrap64 (x5_1 + 1)), yE, H', ⟨by have := HK1.out; have := HJ2.out; have := HJ10.out; have := HJ14.out; omega⟩, ⟨yH HO302.out⟩, ⟨by (with_reducible repeat (first | apply Kd.R_alloc | apply Kd.R_drewN | apply Kd.R_drew)); exact Kd.R_mono HO_4.out (fun _ hk => hk.2)⟩, ⟨yB⟩⟩
                ·rw [if_neg c37] at H
                 exact absurd H (by simp)
              ·rw [if_neg c23] at H
               have c23b0 := beq_eq_false_iff_ne.mpr c23; have c23b1 := bne_iff_ne.mpr c23
               by_cases c40 : x3_14.length < 4398046511104
               ·rw [if_pos c40] at H
                have LMc40 := aM c40; clear c40; obtain ⟨y304, hy304⟩ : ∃ y_ : List (Op), y_ = (x3_14 ++ [(⟨(rd_Op l0 x5_1).f0, (rd_Op l0 x5_1).f1, (rd_Op l0 x5_1).f2⟩ : Op)]) := ⟨_, rfl⟩; replace H : (patchworkref8_norm.l0 kj14 l0 y304 x4_14 (wrap64 (x5_1 + 1))) = some r := yN hy304 H
                have Ny304 := aM hy304; clear hy304; have H' := aM H; clear H; have p289 : 0 ≤ (x5_1 : Int) := yO; have q289 : x5_1 < (l0.length : Int) := yO; obtain ⟨ad289, e289, hx289_0, hx289_1, hx289_2⟩ := at_OpB HB.out HR0.out x5_1 p289 q289; cases e289; replace p289 := eq_true p289; replace q289 := eq_true q289; have p303 : 0 ≤ (x5_1 : Int) := yO; have q303 : x5_1 < (l0.length : Int) := yO; obtain ⟨ad303, e303, hx303_0, hx303_1, hx303_2⟩ := at_Op HR0.out x5_1 p303 q303; obtain rfl : ad289 = ad303 := (by injection e303); replace hx303_0 := (HB.out.cell (bL w _ hx303_0)).trans hx303_0; replace hx303_1 := (HB.out.cell (bL w _ hx303_1)).trans hx303_1; replace hx303_2 := (HB.out.cell (bL w _ hx303_2)).trans hx303_2; replace p303 := eq_true p303; replace q303 := eq_true q303
                go_wp2_with (first | ((with_reducible refine gate_builtin (b := .append) (xs := #[.tmp 90, .tmp 95]) rfl ?_); (try (refine gate_guard (by rfl) ?_; dsimp only)); at_builtin; refine Kd.R_append kOp (w0 := w) w.heap.size rfl (.tmp 90) (.tmp 95) 22 41 (.agg #[(.int .i64 0), (.int .i64 0), (.string ⟨#[]⟩)]) 32 rfl Try.underlying22 info41 rfl (by decide) (by omega) u3 x3_14 (⟨(rd_Op l0 x5_1).f0, (rd_Op l0 x5_1).f1, (rd_Op l0 x5_1).f2⟩ : Op) [.int .i64 ((rd_Op l0 x5_1).f0), .int .i64 ((rd_Op l0 x5_1).f1), .string ((rd_Op l0 x5_1).f2)] (fun k_ => some k_ ≠ (u4 : Value).ownBlock) (fun _ => False) rfl rfl ?aP (fun _ hk => hk.elim) ?aF ?aO ?aB ?aS ?aL ?_; (case aP => exact kOp_mkM _ _ _ (⟨(rd_Op l0 x5_1).f0, (rd_Op l0 x5_1).f1, (rd_Op l0 x5_1).f2⟩ : Op)); (case aB => exact yB); (case aF => exact (fun k_ hk => Kd.fresh' (Kd.R_lt (yH HO_4.out)) k_ hk)); (case aO => exact (yH HO_3.out)); (case aS => exact yW); (case aL => have := LMc40.out; omega); intro v305 w41 ho hb hg hat; rw [← Ny304.out] at ho; have n0_ := aM (Kd.R_after (ok := (fun _ => True)) (by (with_reducible repeat (first | apply Kd.R_alloc | apply Kd.R_drewN | apply Kd.R_drew)); exact Kd.R_mono HO_4.out (fun _ hk => ⟨trivial, hk⟩)) hg hat); have n1_ := aM (hb); have n2_ := aM (ho); clear HO_4; clear HB; clear HO_3; have HO_4 := n0_; have HB := n1_; have HO306 := n2_; clear n0_ n1_ n2_; clear ho hb hg hat))
                go_roundg kj14
                case measure => have := HK1.out; have := HJ2.out; have := HJ10.out; have := HJ14.out; omega
                case rel => exact ⟨(y304), (x4_14), (wrap64 (x5_1 + 1)), yE, H', ⟨by have := HK1.out; have := HJ2.out; have := HJ10.out; have := HJ14.out; omega⟩, ⟨yH HO306.out⟩, ⟨by (with_reducible repeat (first | apply Kd.R_alloc | apply Kd.R_drewN | apply Kd.R_drew)); exact Kd.R_mono HO_4.out (fun _ hk => hk.2)⟩, ⟨yB⟩⟩
               ·rw [if_neg c40] at H
                exact absurd H (by simp)
             ·rw [if_neg c22] at H
              exact absurd H (by simp)
            ·rw [if_neg c21] at H
             exact absurd H (by simp)
   ·rw [if_neg c2] at H
    have c2b0 := decide_eq_false c2; clear c2; obtain rfl := Option.some.inj H
    go_wp2
    go_ret
    exact ⟨_, by first | rfl | (simp [errW_none, errW_some] <;> rfl) | (simp [*, errW_none, errW_some] <;> rfl), by (with_reducible repeat (first | apply Kd.R_alloc | apply Kd.R_drewN | apply Kd.R_drew)); exact Kd.R_mono HO_3.out (fun _ hk => trivial), yB⟩
end Go.Proofs.Ytfoponahdidddaa.P
