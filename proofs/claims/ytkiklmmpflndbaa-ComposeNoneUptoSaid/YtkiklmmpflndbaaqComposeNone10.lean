/- Own and printed texts that the theorem of ComposeNone reaches, put together. -/
import Derived.Test.YtkiklmmpflndbaaqComposeNone4
import Derived.Test.YtkiklmmpflndbaaqComposeNone3
import Derived.Test.YtkiklmmpflndbaaqComposeNone5
import Derived.Test.YtkiklmmpflndbaaqComposeNone6
set_option linter.unusedVariables false
set_option linter.unusedSimpArgs false
namespace Go.Proofs.Ytkiklmmpflndbaa.P
open Go.RowKit Go.Proofs.YtkiklmmpflndbaaW.PrintWords Go.Proofs.YtkiklmmpflndbaaW.PrintLast Go.Proofs.YtkiklmmpflndbaaW.PrintMore
open Go.Proofs.YtkiklmmpflndbaaW.PrintWords.Aside0 renaming mk → aM
open Go.World renaming block_lt_of_cell? → bL
open List renaming setIfInBounds_toArray → sI, set_cons_zero → sZ, set_cons_succ → sS
attribute [local go_sem] max2_int min2_int max_two min_two max_three min_three max_four min_four
attribute [local go_sem high] eqAOp
set_option maxHeartbeats 8000000 in
set_option maxRecDepth 100000 in
theorem patchworkref8_norm.calls (k : Nat) (A0 : Option Addr) (c0 : Nat) (l0 : List (Op)) (r : List (Op)) (w : World) (hr0 : Kd.C kOp w A0 l0.length l0) (hc0 : l0.length ≤ c0) (h : patchworkref8_norm.f k l0 = some r) :
  Calls Try.prog 31 #[.slice A0 l0.length c0] w fun e w' => ∃ v0_ : Value, e = .returned (v0_) ∧ Kd.R kOp 38 w' w.heap.size (fun _ => True) v0_ r ∧ Below w.heap.size w w' := by
 have hu38 := Try.underlying38
 have HR0 := aM hr0
 have HC0 := aM hc0
 clear hr0 hc0
 have HB := aM (Below.refl w.heap.size w)
 have H : (patchworkref8_norm.l0 k l0 ([] : List (Op)) ([] : List (Op)) 0) = some r := h
 clear h
 have H' := aM H
 clear H
 go_enter Try.func31, Try.ntmps31
 go_wp2
 go_loopg [3, 4, 5] k (fun kq v3 v4 v5 w' => ∃ (x3_1 : List (Op)) (x4_1 : List (Op)) (x5_1 : Int), v5 = .int .i64 x5_1 ∧ Aside0 (patchworkref8_norm.l0 kq l0 x3_1 x4_1 x5_1 = some r) ∧ Aside0 (kq ≤ k) ∧ Aside0 (Kd.R kOp 38 w' w.heap.size (fun k_ => some k_ ≠ (v4 : Value).ownBlock) v3 x3_1) ∧ Aside0 (Kd.R kOp 38 w' w.heap.size (fun k_ => some k_ ≠ (v3 : Value).ownBlock) v4 x4_1) ∧ Aside0 (Below w.heap.size w w'))
 case atStart => exact ⟨(([] : List (Op))), (([] : List (Op))), (0), yE, H', ⟨Nat.le_refl _⟩, ⟨by first | exact Kd.R_nil _ _ _ _ _ | exact Kd.N_nil _ _ _ _ _ | exact Kd.V_nil _ _ _ _ _ | exact Kd.Q_nil _ _ _ _ _ | exact Kd.S_nil _ _ _ _ _⟩, ⟨by first | exact Kd.R_nil _ _ _ _ _ | exact Kd.N_nil _ _ _ _ _ | exact Kd.V_nil _ _ _ _ _ | exact Kd.Q_nil _ _ _ _ _ | exact Kd.S_nil _ _ _ _ _⟩, ⟨yB⟩⟩
 case round =>
  clear H'; obtain ⟨x3_1, x4_1, x5_1, rfl, HA, HK1, HO_3, HO_4, HB⟩ := hrel; cases gk with
  | zero => exact absurd HA.out (by simp [patchworkref8_norm.l0])
  | succ k1 =>
   have H := HA.out; clear HA; simp only [patchworkref8_norm.l0] at H
   by_cases c2 : x5_1 ≤ (l0.length : Int)
   ·rw [if_pos c2] at H
    have c2b0 := decide_eq_true c2; clear c2; have HC3 := aM H; clear H
    go_upto_region 5 with (fail)
    go_cut [23] (fun v23 wc => ∃ (kq : Nat) (x23_2 : Bool), v23 = .bool x23_2 ∧ Aside0 (patchworkref8_norm.j1 kq l0 x3_1 x4_1 x5_1 x23_2 = some r) ∧ Aside0 (kq ≤ k1) ∧ Aside0 (Kd.R kOp 38 wc w.heap.size (fun k_ => some k_ ≠ (u4 : Value).ownBlock) u3 x3_1) ∧ Aside0 (Kd.R kOp 38 wc w.heap.size (fun k_ => some k_ ≠ (u3 : Value).ownBlock) u4 x4_1) ∧ Aside0 (Below w.heap.size w wc))
    case first =>
     have H := HC3.out; clear HC3
     by_cases c4 : x5_1 < (l0.length : Int)
     ·rw [if_pos c4] at H
      have c4b0 := decide_eq_true c4; clear c4
      (first | rw [c4b0] | (simp only [i64_w, i32_w]; rw [c4b0]) | skip)
      by_cases c5 : 0 ≤ x5_1
      ·rw [if_pos c5] at H
       have c5b0 := decide_eq_true c5; clear c5; have H' := aM H; clear H; have p271 : 0 ≤ (x5_1 : Int) := yO; have q271 : x5_1 < (l0.length : Int) := yO; obtain ⟨ad271, e271, hx271_0, hx271_1, hx271_2⟩ := at_OpB HB.out HR0.out x5_1 p271 q271; cases e271; replace p271 := eq_true p271; replace q271 := eq_true q271
       go_wp2
       go_meet
       case rel => exact ⟨_, ((((rd_Op l0 x5_1).f0) == 4)), yE, H', ⟨by have := HK1.out; first | omega | exact Nat.le_refl _⟩, ⟨yH HO_3.out⟩, ⟨yH HO_4.out⟩, ⟨yB⟩⟩
      ·rw [if_neg c5] at H
       exact absurd H (by simp)
     ·rw [if_neg c4] at H
      have c4b0 := decide_eq_false c4; clear c4
      (first | rw [c4b0] | (simp only [i64_w, i32_w]; rw [c4b0]) | skip)
      have H' := aM H; clear H
      go_wp2
      go_meet
      case rel => exact ⟨_, (false), yE, H', ⟨by have := HK1.out; first | omega | exact Nat.le_refl _⟩, ⟨yH HO_3.out⟩, ⟨yH HO_4.out⟩, ⟨yB⟩⟩
    case rest =>
     clear HC3; (try clear c2); (try clear c2b0); (try clear p2); (try clear q2); (try clear hx2); (try clear c3); (try clear c4); (try clear c4b0); (try clear c5); (try clear c5b0); (try clear hx271_0); (try clear hx271_1); (try clear hx271_2); (try clear p271); (try clear q271); obtain ⟨kq, x23_2, rfl, HA, HJ2, HO_3, HO_4, HB⟩ := hcut; cases kq with
     | zero => exact absurd HA.out (by simp [patchworkref8_norm.j1])
     | succ kj2 =>
      have H := HA.out; clear HA; simp only [patchworkref8_norm.j1] at H
      by_cases c6 : x23_2 = true
      ·subst c6
       replace H := iT H
       by_cases c7 : 0 ≤ x5_1
       ·rw [if_pos c7] at H
        have c7b0 := decide_eq_true c7; clear c7
        by_cases c8 : x5_1 < (l0.length : Int)
        ·rw [if_pos c8] at H
         have c8b0 := decide_eq_true c8; clear c8
         by_cases c9 : x4_1.length < 4398046511104
         ·rw [if_pos c9] at H
          have LMc9 := aM c9; clear c9; obtain ⟨y273, hy273⟩ : ∃ y_ : List (Op), y_ = (x4_1 ++ [(⟨(rd_Op l0 x5_1).f0, (rd_Op l0 x5_1).f1, (rd_Op l0 x5_1).f2⟩ : Op)]) := ⟨_, rfl⟩; replace H : (patchworkref8_norm.l0 kj2 l0 x3_1 y273 (wrap64 (x5_1 + 1))) = some r := yN hy273 H
          have Ny273 := aM hy273; clear hy273; have H' := aM H; clear H; have p272 : 0 ≤ (x5_1 : Int) := yO; have q272 : x5_1 < (l0.length : Int) := yO; obtain ⟨ad272, e272, hx272_0, hx272_1, hx272_2⟩ := at_OpB HB.out HR0.out x5_1 p272 q272; cases e272; replace p272 := eq_true p272; replace q272 := eq_true q272
          go_wp2_with (first | ((with_reducible refine gate_builtin (b := .append) (xs := #[.tmp 24, .tmp 29]) rfl ?_); (try (refine gate_guard (by rfl) ?_; dsimp only)); at_builtin; refine Kd.R_append kOp (w0 := w) w.heap.size rfl (.tmp 24) (.tmp 29) 22 38 (.agg #[(.int .i64 0), (.int .i64 0), (.string ⟨#[]⟩)]) 32 rfl Try.underlying22 info38 rfl (by decide) (by omega) u4 x4_1 (⟨(rd_Op l0 x5_1).f0, (rd_Op l0 x5_1).f1, (rd_Op l0 x5_1).f2⟩ : Op) [.int .i64 ((rd_Op l0 x5_1).f0), .int .i64 ((rd_Op l0 x5_1).f1), .string ((rd_Op l0 x5_1).f2)] (fun k_ => some k_ ≠ (u3 : Value).ownBlock) (fun _ => False) rfl rfl ?aP (fun _ hk => hk.elim) ?aF ?aO ?aB ?aS ?aL ?_; (case aP => exact kOp_mkM _ _ _ (⟨(rd_Op l0 x5_1).f0, (rd_Op l0 x5_1).f1, (rd_Op l0 x5_1).f2⟩ : Op)); (case aB => exact yB); (case aF => exact (fun k_ hk => Kd.fresh' (Kd.R_lt HO_3.out) k_ hk)); (case aO => exact HO_4.out); (case aS => exact yW); (case aL => have := LMc9.out; omega); intro v274 w10 ho hb hg hat; rw [← Ny273.out] at ho; have n0_ := aM (Kd.R_after (ok := (fun _ => True)) (by (with_reducible repeat (first | apply Kd.R_alloc | apply Kd.R_drewN | apply Kd.R_drew)); exact Kd.R_mono HO_3.out (fun _ hk => ⟨trivial, hk⟩)) hg hat); have n1_ := aM (hb); have n2_ := aM (ho); clear HO_3; clear HB; clear HO_4; have HO_3 := n0_; have HB := n1_; have HO275 := n2_; clear n0_ n1_ n2_; clear ho hb hg hat))
          go_roundg kj2
          case measure => have := HK1.out; have := HJ2.out; omega
          case rel => exact ⟨(x3_1), (y273), (wrap64 (x5_1 + 1)), yE, H', ⟨by have := HK1.out; have := HJ2.out; omega⟩, ⟨by (with_reducible repeat (first | apply Kd.R_alloc | apply Kd.R_drewN | apply Kd.R_drew)); exact Kd.R_mono HO_3.out (fun _ hk => hk.2)⟩, ⟨yH HO275.out⟩, ⟨yB⟩⟩
         ·rw [if_neg c9] at H
          exact absurd H (by simp)
        ·rw [if_neg c8] at H
         exact absurd H (by simp)
       ·rw [if_neg c7] at H
        exact absurd H (by simp)
      ·replace c6 := Bool.eq_false_iff.mpr c6
       subst c6; replace H := iF H; have HC11 := aM H; clear H
       go_upto_region 7 with (fail)
       go_cut [42] (fun v42 wc => ∃ (kq : Nat) (x42_10 : Bool), v42 = .bool x42_10 ∧ Aside0 (patchworkref8_norm.j2 kq l0 x3_1 x4_1 x5_1 x42_10 = some r) ∧ Aside0 (kq ≤ kj2) ∧ Aside0 (Kd.R kOp 38 wc w.heap.size (fun k_ => some k_ ≠ (u4 : Value).ownBlock) u3 x3_1) ∧ Aside0 (Kd.R kOp 38 wc w.heap.size (fun k_ => some k_ ≠ (u3 : Value).ownBlock) u4 x4_1) ∧ Aside0 (Below w.heap.size w wc))
       case first =>
        have H := HC11.out; clear HC11
        by_cases c12 : x5_1 = (l0.length : Int)
        ·rw [if_pos c12] at H
         have c12b0 := beq_iff_eq.mpr c12; have c12b1 := bne_eq_false_iff_eq.mpr c12; clear c12
         (first | rw [c12b0] | (simp only [i64_w, i32_w]; rw [c12b0]) | skip)
         have H' := aM H; clear H
         go_wp2
         go_meet
         case rel => exact ⟨_, (true), yE, H', ⟨by have := HK1.out; have := HJ2.out; first | omega | exact Nat.le_refl _⟩, ⟨yH HO_3.out⟩, ⟨yH HO_4.out⟩, ⟨yB⟩⟩
        ·rw [if_neg c12] at H
         have c12b0 := beq_eq_false_iff_ne.mpr c12; have c12b1 := bne_iff_ne.mpr c12
         (first | rw [c12b0] | (simp only [i64_w, i32_w]; rw [c12b0]) | skip)
         by_cases c13 : 0 ≤ x5_1
         ·rw [if_pos c13] at H
          have c13b0 := decide_eq_true c13; clear c13
          by_cases c14 : x5_1 < (l0.length : Int)
          ·rw [if_pos c14] at H
           have c14b0 := decide_eq_true c14; clear c14; have H' := aM H; clear H; have p276 : 0 ≤ (x5_1 : Int) := yO; have q276 : x5_1 < (l0.length : Int) := yO; obtain ⟨ad276, e276, hx276_0, hx276_1, hx276_2⟩ := at_OpB HB.out HR0.out x5_1 p276 q276; cases e276; replace p276 := eq_true p276; replace q276 := eq_true q276
           go_wp2
           go_meet
           case rel => exact ⟨_, ((((rd_Op l0 x5_1).f0) != 3)), yE, H', ⟨by have := HK1.out; have := HJ2.out; first | omega | exact Nat.le_refl _⟩, ⟨yH HO_3.out⟩, ⟨yH HO_4.out⟩, ⟨yB⟩⟩
          ·rw [if_neg c14] at H
           exact absurd H (by simp)
         ·rw [if_neg c13] at H
          exact absurd H (by simp)
       case rest =>
        clear HC11; (try clear c1); (try clear c2); (try clear c2b0); (try clear p2); (try clear q2); (try clear hx2); (try clear c3); (try clear c4); (try clear c4b0); (try clear c5); (try clear c5b0); (try clear c6); (try clear p6); (try clear c7); (try clear c7b0); (try clear c8); (try clear c8b0); (try clear c9); (try clear c12); (try clear c12b0); (try clear c12b1); (try clear c13); (try clear c13b0); (try clear c14); (try clear c14b0); (try clear hx271_0); (try clear hx271_1); (try clear hx271_2); (try clear hx272_0); (try clear hx272_1); (try clear hx272_2); (try clear hx276_0); (try clear hx276_1); (try clear hx276_2); (try clear p2); (try clear p271); (try clear p272); (try clear p276); (try clear q2); (try clear q271); (try clear q272); (try clear q276); obtain ⟨kq, x42_10, rfl, HA, HJ10, HO_3, HO_4, HB⟩ := hcut; cases kq with
        | zero => exact absurd HA.out (by simp [patchworkref8_norm.j2])
        | succ kj10 =>
         have H := HA.out; clear HA; simp only [patchworkref8_norm.j2] at H; have HC15 := aM H; clear H
         go_upto_if 42 with (fail)
         go_cut [3, 4] (fun v3 v4 wc => ∃ (kq : Nat) (x3_14 : List (Op)) (x4_14 : List (Op)), Aside0 (patchworkref8_norm.j3 kq l0 x3_14 x4_14 x5_1 = some r) ∧ Aside0 (kq ≤ kj10) ∧ Aside0 (Kd.R kOp 38 wc w.heap.size (fun k_ => some k_ ≠ (v4 : Value).ownBlock) v3 x3_14) ∧ Aside0 (Kd.R kOp 38 wc w.heap.size (fun k_ => some k_ ≠ (v3 : Value).ownBlock) v4 x4_14) ∧ Aside0 (Below w.heap.size w wc))
         case first =>
          have H := HC15.out; clear HC15
          by_cases c16 : x42_10 = true
          ·subst c16
           replace H := iT H
           by_cases c17 : x3_1.length + x4_1.length < 4398046511104
           ·rw [if_pos c17] at H
            have LMc17 := aM c17; clear c17; obtain ⟨y277, hy277⟩ : ∃ y_ : List (Op), y_ = (x3_1 ++ x4_1) := ⟨_, rfl⟩; replace H : (patchworkref8_norm.j3 kj10 l0 y277 ([] : List (Op)) x5_1) = some r := yN hy277 H
            have Ny277 := aM hy277; clear hy277; have H' := aM H; clear H; obtain ⟨Ao19, co19, eo19⟩ := Kd.R_slice HO_4.out; subst eo19
            go_wp2_with (first | ((with_reducible refine gate_builtin (b := .append) (xs := #[.tmp 43, .tmp 44]) rfl ?_); (try (refine gate_guard (by rfl) ?_; dsimp only)); at_builtin; refine Kd.R_append_rows kOp (w0 := w) w.heap.size rfl (.tmp 43) (.tmp 44) 22 38 (.agg #[(.int .i64 0), (.int .i64 0), (.string ⟨#[]⟩)]) 32 rfl Try.underlying22 info38 rfl (by decide) (by omega) u3 x3_1 x4_1 _ _ _ (fun k_ => some k_ ≠ (.slice Ao19 x4_1.length co19 : Value).ownBlock) (fun _ => False) rfl rfl ?aO ?aR (fun _ _ h => h) (fun _ h => h.elim) ?aF ?aB ?aS ?aL ?_; (case aR => repeat (first | exact (Kd.R_reads' HO_4.out).2.2 | (with_reducible first | refine Kd.C_alloc ?_ _ | refine Kd.C_drewN ?_ _ | refine Kd.C_drew ?_))); (case aB => exact yB); (case aF => exact (fun k_ hk => Kd.fresh' (Kd.R_lt HO_4.out) k_ hk)); (case aO => exact HO_3.out); (case aS => exact yW); (case aL => have := LMc17.out; omega); intro v278 w18 ho hb hg hat; rw [← Ny277.out] at ho; have n0_ := aM (Kd.R_after (ok := (fun _ => True)) (by (with_reducible repeat (first | apply Kd.R_alloc | apply Kd.R_drewN | apply Kd.R_drew)); exact Kd.R_mono HO_4.out (fun _ hk => ⟨trivial, hk⟩)) hg hat); have n1_ := aM (hb); have n2_ := aM (ho); clear HO_4; clear HB; clear HO_3; have HO_4 := n0_; have HB := n1_; have HO279 := n2_; clear n0_ n1_ n2_; clear ho hb hg hat))
            go_meet
            case rel => exact ⟨_, (y277), (([] : List (Op))), H', ⟨by have := HK1.out; have := HJ2.out; have := HJ10.out; first | omega | exact Nat.le_refl _⟩, ⟨by (with_reducible repeat (first | apply Kd.R_alloc | apply Kd.R_drewN | apply Kd.R_drew)); exact Kd.R_mono HO279.out (fun _ hk => (by simp [Value.ownBlock]))⟩, ⟨by first | exact Kd.R_nil _ _ _ _ _ | exact Kd.N_nil _ _ _ _ _ | exact Kd.V_nil _ _ _ _ _ | exact Kd.Q_nil _ _ _ _ _ | exact Kd.S_nil _ _ _ _ _⟩, ⟨yB⟩⟩
           ·rw [if_neg c17] at H
            exact absurd H (by simp)
          ·replace c16 := Bool.eq_false_iff.mpr c16
           subst c16; have H' := aM (iF H); clear H
           go_wp2
           go_meet
           case rel => exact ⟨_, (x3_1), (x4_1), H', ⟨by have := HK1.out; have := HJ2.out; have := HJ10.out; first | omega | exact Nat.le_refl _⟩, ⟨yH HO_3.out⟩, ⟨yH HO_4.out⟩, ⟨yB⟩⟩
         case rest =>
          clear HC15; (try clear c1); (try clear c2); (try clear c2b0); (try clear p2); (try clear q2); (try clear hx2); (try clear c3); (try clear c4); (try clear c4b0); (try clear c5); (try clear c5b0); (try clear c6); (try clear p6); (try clear c7); (try clear c7b0); (try clear c8); (try clear c8b0); (try clear c9); (try clear c12); (try clear c12b0); (try clear c12b1); (try clear c13); (try clear c13b0); (try clear c14); (try clear c14b0); (try clear c16); (try clear c17); (try clear hx271_0); (try clear hx271_1); (try clear hx271_2); (try clear hx272_0); (try clear hx272_1); (try clear hx272_2); (try clear hx276_0); (try clear hx276_1); (try clear hx276_2); (try clear p2); (try clear p271); (try clear p272); (try clear p276); (try clear p6); (try clear q2); (try clear q271); (try clear q272); (try clear q276); obtain ⟨kq, x3_14, x4_14, HA, HJ14, HO_3, HO_4, HB⟩ := hcut; cases kq with
          | zero => exact absurd HA.out (by simp [patchworkref8_norm.j3])
          | succ kj14 =>
           have H := HA.out; clear HA; simp only [patchworkref8_norm.j3] at H
           by_cases c20 : x5_1 = (l0.length : Int)
           ·rw [if_pos c20] at H
            have c20b0 := beq_iff_eq.mpr c20; have c20b1 := bne_eq_false_iff_eq.mpr c20; clear c20; obtain rfl := Option.some.inj H
            go_wp2
            go_ret
            exact ⟨_, by first | rfl | (simp [errW_none, errW_some] <;> rfl) | (simp [*, errW_none, errW_some] <;> rfl), by (with_reducible repeat (first | apply Kd.R_alloc | apply Kd.R_drewN | apply Kd.R_drew)); exact Kd.R_mono HO_3.out (fun _ hk => trivial), yB⟩
           ·rw [if_neg c20] at H
            have c20b0 := beq_eq_false_iff_ne.mpr c20; have c20b1 := bne_iff_ne.mpr c20
            by_cases c21 : 0 ≤ x5_1
            ·rw [if_pos c21] at H
             have c21b0 := decide_eq_true c21; clear c21
             by_cases c22 : x5_1 < (l0.length : Int)
             ·rw [if_pos c22] at H
              have c22b0 := decide_eq_true c22; clear c22
              by_cases c23 : ((rd_Op l0 x5_1).f0) = 1
              ·rw [if_pos c23] at H
               have c23b0 := beq_iff_eq.mpr c23; have c23b1 := bne_eq_false_iff_eq.mpr c23; clear c23
               by_cases c24 : (x3_14.length : Int) > 0
               ·rw [if_pos c24] at H
                have c24b0 := decide_eq_true c24; have c24b1 : decide (0 < x3_14.length) = true := decide_eq_true (by omega); clear c24; obtain ⟨ji25, hji25⟩ : ∃ j_ : Int, (wrap64 ((x3_14.length : Int) - 1)) = j_ := ⟨_, rfl⟩; replace H : (if 0 ≤ (ji25) then (if (ji25) < (x3_14.length : Int) then (if ((rd_Op x3_14 (ji25)).f0) = 1 then ((patchworkref8_plus.f ((rd_Op x3_14 (ji25)).f1) ((rd_Op l0 x5_1).f1)).bind fun t284 => (patchworkref8_norm.l0 kj14 l0 (x3_14.set ((ji25) : Int).toNat (⟨(rd_Op x3_14 (ji25)).f0, t284, (rd_Op x3_14 (ji25)).f2⟩ : Op)) x4_14 (wrap64 (x5_1 + 1)))) else (if x3_14.length < 4398046511104 then (patchworkref8_norm.l0 kj14 l0 (x3_14 ++ [(⟨(rd_Op l0 x5_1).f0, (rd_Op l0 x5_1).f1, (rd_Op l0 x5_1).f2⟩ : Op)]) x4_14 (wrap64 (x5_1 + 1))) else (none))) else (none)) else (none)) = some r := by first | (rw [hji25] at H; exact H) | (simp only [hji25] at H ⊢; exact H)
                have hji25w : (IntKind.i64.wrap ((x3_14.length : Int) - 1)) = ji25 := (i64_w _).trans hji25
                by_cases c26 : 0 ≤ (ji25)
                ·rw [if_pos c26] at H
                 have c26b0 := decide_eq_true c26; clear c26
                 by_cases c27 : (ji25) < (x3_14.length : Int)
                 ·rw [if_pos c27] at H
                  have c27b0 := decide_eq_true c27; clear c27
                  by_cases c28 : ((rd_Op x3_14 (ji25)).f0) = 1
                  ·rw [if_pos c28] at H
                   have c28b0 := beq_iff_eq.mpr c28; have c28b1 := bne_eq_false_iff_eq.mpr c28; clear c28; replace H := oB H; obtain ⟨t284, A29, H⟩ := H; obtain ⟨y285, hy285⟩ : ∃ y_ : List (Op), y_ = (x3_14.set ((ji25) : Int).toNat (⟨(rd_Op x3_14 (ji25)).f0, t284, (rd_Op x3_14 (ji25)).f2⟩ : Op)) := ⟨_, rfl⟩; replace H : (patchworkref8_norm.l0 kj14 l0 y285 x4_14 (wrap64 (x5_1 + 1))) = some r := yN hy285 H
                   have Ny285 := aM hy285; clear hy285; have H' := aM H; clear H; have p280 : 0 ≤ (x5_1 : Int) := yO; have q280 : x5_1 < (l0.length : Int) := yO; obtain ⟨ad280, e280, hx280_0, hx280_1, hx280_2⟩ := at_OpB HB.out HR0.out x5_1 p280 q280; cases e280; replace p280 := eq_true p280; replace q280 := eq_true q280; obtain ⟨Ao31, co31, eo31⟩ := Kd.R_slice HO_3.out; subst eo31; have p281 : 0 ≤ ((ji25) : Int) := yO; have q281 : (ji25) < (x3_14.length : Int) := yO; obtain ⟨ad281, e281, hx281_0, hx281_1, hx281_2⟩ := at_Op (Kd.R_reads' HO_3.out).2.2 (ji25) p281 q281; cases e281; replace p281 := eq_true p281; replace q281 := eq_true q281
                   try go_wp2
                   replace HO_3 := aM (Kd.R_drew HO_3.out); replace HO_4 := aM (Kd.R_drew HO_4.out); replace HB := aM (below_drew1 HB.out); have p282 : 0 ≤ ((ji25) : Int) := yO; have q282 : (ji25) < (x3_14.length : Int) := yO; obtain ⟨ad282, e282, hx282_0, hx282_1, hx282_2⟩ := at_Op (Kd.R_reads' HO_3.out).2.2 (ji25) p282 q282; obtain rfl : ad281 = ad282 := (by injection e282); replace p282 := eq_true p282; replace q282 := eq_true q282; have p283 : 0 ≤ (x5_1 : Int) := yO; have q283 : x5_1 < (l0.length : Int) := yO; obtain ⟨ad283, e283, hx283_0, hx283_1, hx283_2⟩ := at_Op HR0.out x5_1 p283 q283; have hw283_2 := hx283_2; have hw283_1 := hx283_1; have hw283_0 := hx283_0; obtain rfl : ad280 = ad283 := (by injection e283); replace hx283_0 := (HB.out.cell (bL w _ hx283_0)).trans hx283_0; replace hx283_1 := (HB.out.cell (bL w _ hx283_1)).trans hx283_1; replace hx283_2 := (HB.out.cell (bL w _ hx283_2)).trans hx283_2; replace p283 := eq_true p283; replace q283 := eq_true q283
                   refine start_ (n := 20) (S := fun w' => w'.cell? (ad281.add (((ji25)).toNat * 3)) = some (.int .i64 ((rd_Op x3_14 (ji25)).f0)) ∧ w'.cell? ⟨(ad281.add (((ji25)).toNat * 3)).block, (ad281.add (((ji25)).toNat * 3)).off + 1, none⟩ = some (.int .i64 ((rd_Op x3_14 (ji25)).f1)) ∧ w'.cell? ⟨(ad281.add (((ji25)).toNat * 3)).block, (ad281.add (((ji25)).toNat * 3)).off + 2, none⟩ = some (.string ((rd_Op x3_14 (ji25)).f2)) ∧ w'.cell? (ad280.add ((x5_1).toNat * 3)) = some (.int .i64 ((rd_Op l0 x5_1).f0)) ∧ w'.cell? ⟨(ad280.add ((x5_1).toNat * 3)).block, (ad280.add ((x5_1).toNat * 3)).off + 1, none⟩ = some (.int .i64 ((rd_Op l0 x5_1).f1)) ∧ w'.cell? ⟨(ad280.add ((x5_1).toNat * 3)).block, (ad280.add ((x5_1).toNat * 3)).off + 2, none⟩ = some (.string ((rd_Op l0 x5_1).f2))) (ds := [19]) #[false, false, false, false, false, false, false, false, false, false, false, false, false, false, false, false, false, false, false, false] yK rfl rfl ⟨hx282_0, hx282_1, hx282_2, ((HB.out.cell (bL w _ hw283_0)).trans hw283_0), ((HB.out.cell (bL w _ hw283_1)).trans hw283_1), ((HB.out.cell (bL w _ hw283_2)).trans hw283_2)⟩ (fun hHeld => ?_); refine with_tabW patchworkref8_norm.tab12 patchworkref8_norm.bits12 (fun HT_ HW_ => ?_)
                   generalize wc.drew = w32 at HO_3 HO_4 HB hx282_0 hx282_1 hx282_2 hx283_0 hx283_1 hx283_2 hHeld ⊢
                   refine pure_ (i := 0) (N := some 71) (v := ?_) (a' := ?_) #[true, false, false, false, false, false, false, false, false, false, false, false, false, false, false, false, false, false, false, false] rfl rfl (any_of HT_.out yK) yI (Or.inl ⟨by rfl, ?_⟩) ?_ ?_
                   rotate_left; exact yP1; rotate_left; exact yP2
                   refine pure_ (i := 1) (N := some 72) (v := ?_) (a' := ?_) #[true, true, false, false, false, false, false, false, false, false, false, false, false, false, false, false, false, false, false, false] rfl rfl (any_of HT_.out yK) yI (Or.inl ⟨by rfl, ?_⟩) ?_ ?_
                   rotate_left; exact yP1; rotate_left; exact yP2
                   refine pure_ (i := 2) (N := some 73) (v := ?_) (a' := ?_) #[true, true, true, false, false, false, false, false, false, false, false, false, false, false, false, false, false, false, false, false] rfl rfl (any_of HT_.out yK) yI (Or.inl ⟨by rfl, ?_⟩) ?_ ?_
                   rotate_left; exact yP1; rotate_left; exact yP2
                   refine pure_ (i := 3) (N := some 74) (v := ?_) (a' := ?_) #[true, true, true, true, false, false, false, false, false, false, false, false, false, false, false, false, false, false, false, false] rfl rfl (any_of HT_.out yK) yI (Or.inl ⟨by rfl, ?_⟩) ?_ ?_
                   rotate_left; exact yP1; rotate_left; exact yP2
                   refine pure_ (i := 4) (N := some 75) (v := ?_) (a' := ?_) #[true, true, true, true, true, false, false, false, false, false, false, false, false, false, false, false, false, false, false, false] rfl rfl (any_of HT_.out yK) yI (Or.inl ⟨by rfl, ?_⟩) ?_ ?_
                   rotate_left; exact yP1; rotate_left; exact yP2
                   refine pure_ (i := 5) (N := some 76) (v := ?_) (a' := ?_) #[true, true, true, true, true, true, false, false, false, false, false, false, false, false, false, false, false, false, false, false] rfl rfl (any_of HT_.out yK) yI (Or.inl ⟨by rfl, ?_⟩) ?_ ?_
                   rotate_left; exact yP1; rotate_left; exact yP2
                   refine pure_ (i := 6) (N := some 77) (v := ?_) (a' := ?_) #[true, true, true, true, true, true, true, false, false, false, false, false, false, false, false, false, false, false, false, false] rfl rfl (any_of HT_.out yK) yI (Or.inl ⟨by rfl, ?_⟩) ?_ ?_
                   rotate_left; exact yP1; rotate_left; exact yP2
                   refine pure_ (i := 7) (N := some 78) (v := ?_) (a' := ?_) #[true, true, true, true, true, true, true, true, false, false, false, false, false, false, false, false, false, false, false, false] rfl rfl (any_of HT_.out yK) yI (Or.inl ⟨by rfl, ?_⟩) ?_ ?_
                   rotate_left; exact yP1; rotate_left; exact yP2
                   refine pure_ (i := 8) (N := some 79) (v := ?_) (a' := ?_) #[true, true, true, true, true, true, true, true, true, false, false, false, false, false, false, false, false, false, false, false] rfl rfl (any_of HT_.out yK) yI (Or.inl ⟨by rfl, ?_⟩) ?_ ?_
                   rotate_left; exact yP1; rotate_left; exact yP2
                   refine pure_ (i := 9) (N := some 80) (v := ?_) (a' := ?_) #[true, true, true, true, true, true, true, true, true, true, false, false, false, false, false, false, false, false, false, false] rfl rfl (any_of HT_.out yK) yI (Or.inl ⟨by rfl, ?_⟩) ?_ ?_
                   rotate_left; exact yP1; rotate_left; exact yP2
                   refine pure_ (i := 11) (N := some 82) (v := ?_) (a' := ?_) #[true, true, true, true, true, true, true, true, true, true, false, true, false, false, false, false, false, false, false, false] rfl rfl (any_of HT_.out yK) yI (Or.inl ⟨by rfl, ?_⟩) ?_ ?_
                   rotate_left; exact yP1; rotate_left; exact yP2
                   refine pure_ (i := 12) (N := some 83) (v := ?_) (a' := ?_) #[true, true, true, true, true, true, true, true, true, true, false, true, true, false, false, false, false, false, false, false] rfl rfl (any_of HT_.out yK) yI (Or.inl ⟨by rfl, ?_⟩) ?_ ?_
                   rotate_left; exact yP1; rotate_left; exact yP2
                   refine pure_ (i := 13) (N := some 84) (v := ?_) (a' := ?_) #[true, true, true, true, true, true, true, true, true, true, false, true, true, true, false, false, false, false, false, false] rfl rfl (any_of HT_.out yK) yI (Or.inl ⟨by rfl, ?_⟩) ?_ ?_
                   rotate_left; exact yP1; rotate_left; exact yP2
                   refine pure_ (i := 14) (N := some 85) (v := ?_) (a' := ?_) #[true, true, true, true, true, true, true, true, true, true, false, true, true, true, true, false, false, false, false, false] rfl rfl (any_of HT_.out yK) yI (Or.inl ⟨by rfl, ?_⟩) ?_ ?_
                   rotate_left; exact yP1; rotate_left; exact yP2
                   refine take_ (i := 10) (N := some 81) (v := ?_) (a' := ?_) #[true, true, true, true, true, true, true, true, true, true, true, true, true, true, true, false, false, false, false, false] rfl rfl (take_ofW HT_.out HW_.out yK) (fun _ _ _ h => h) (Or.inl ⟨by rfl, ?_⟩) hHeld ?_ ?_
                   rotate_left
                   ·rintro w' ⟨s0, s1, s2, s3, s4, s5⟩
                    go_simp
                    with_reducible rfl
                   rotate_left
                   ·simp only [Act.put, sI, sZ, sS, i64_w, i32_w]
                    rfl
                   refine take_ (i := 15) (N := some 86) (v := ?_) (a' := ?_) #[true, true, true, true, true, true, true, true, true, true, true, true, true, true, true, true, false, false, false, false] rfl rfl (take_ofW HT_.out HW_.out yK) (fun _ _ _ h => h) (Or.inl ⟨by rfl, ?_⟩) hHeld ?_ ?_
                   rotate_left
                   ·rintro w' ⟨s0, s1, s2, s3, s4, s5⟩
                    go_simp
                    with_reducible rfl
                   rotate_left
                   ·simp only [Act.put, sI, sZ, sS, i64_w, i32_w]
                    rfl
                   refine one_ (i := 16) (N := some 87) #[true, true, true, true, true, true, true, true, true, true, true, true, true, true, true, true, true, false, false, false] rfl rfl (one_of HT_.out yK) (by decide) (fun K hK => ?_)
                   refine goes_ Try.func40 yK rfl #[.int .i64 ((rd_Op x3_14 (ji25)).f1), .int .i64 ((rd_Op l0 x5_1).f1)] (by rfl) rfl rfl (by (try simp only [List.map_toArray, List.map_cons, List.map_nil]); first | done | (simp only [hji25]; rfl) | rfl | (simp only [List.length_drop, List.length_take]; rfl)) ?_
                   with_reducible refine (patchworkref8_plus.calls ((rd_Op x3_14 (ji25)).f1) ((rd_Op l0 x5_1).f1) t284 _ A29.out).mono ?_
                   rintro e w' ⟨rfl, ⟨nd, rfl⟩⟩
                   refine ⟨_, rfl, ?_⟩
                   have p30 : 0 ≤ ((ji25) : Int) := yO; have q30 : ((ji25) : Int) < ((x3_14.length : Int) : Int) := yO; obtain ⟨go30, co30, eo30, gb30, gl30, cl30, HG30⟩ := Kd.R_form HO_3.out (by omega)
                   (first | cases eo30 | (injection eo30 with ea_ en_ ec_; (first | subst ea_ | (injection ea_ with ea_; subst ea_)); subst ec_; clear en_))
                   have GB30 := aM gb30; have GG30 := aM HG30; clear gb30 gl30 HG30
                   (first | simp only [add_plain] at hx281_0 | skip)
                   (first | simp only [add_plain] at hx281_1 | skip)
                   (first | simp only [add_plain] at hx281_2 | skip)
                   (first | simp only [add_plain] at hx282_0 | skip)
                   (first | simp only [add_plain] at hx282_1 | skip)
                   (first | simp only [add_plain] at hx282_2 | skip)
                   obtain ⟨ce30, hcl30, hM30, hcc30, hfr30⟩ := Kd.R_elem HO_3.out zOp ((ji25) : Int) p30 q30; obtain rfl := kOp_openM hM30; have hx30_0 : World.cell? _ ⟨go30, ((ji25) : Int).toNat * 3, none⟩ = some (.int .i64 ((rd_Op x3_14 (ji25)).f0)) := hcc30 0 _ rfl; have hx30_1 : World.cell? _ ⟨go30, ((ji25) : Int).toNat * 3 + 1, none⟩ = some (.int .i64 ((rd_Op x3_14 (ji25)).f1)) := hcc30 1 _ rfl; have hx30_2 : World.cell? _ ⟨go30, ((ji25) : Int).toNat * 3 + 2, none⟩ = some (.string ((rd_Op x3_14 (ji25)).f2)) := hcc30 2 _ rfl; have hf30_0 : World.frozen? _ ⟨go30, ((ji25) : Int).toNat * 3, none⟩ = false := hfr30 0; have hf30_1 : World.frozen? _ ⟨go30, ((ji25) : Int).toNat * 3 + 1, none⟩ = false := hfr30 1; have hf30_2 : World.frozen? _ ⟨go30, ((ji25) : Int).toNat * 3 + 2, none⟩ = false := hfr30 2; clear hcl30 hcc30 hfr30 hM30; replace p30 := eq_true p30; replace q30 := eq_true q30; obtain ⟨ce33, hcl33, hM33, hcc33, hfr33⟩ := Kd.R_elem HO_3.out zOp ((ji25) : Int) (yO) (by have h_ : ((ji25) : Int) < ((x3_14.length : Int) : Int) := yO; first | exact h_ | (have e_ := (Kd.R_reads' HO_3.out).1; omega) | simpa using h_); obtain rfl := kOp_openM hM33; have HP33 := (Kd.R_seg HO_3.out ((ji25) : Int) (yO) (by have h_ : ((ji25) : Int) < ((x3_14.length : Int) : Int) := yO; first | exact h_ | (have e_ := (Kd.R_reads' HO_3.out).1; omega) | simpa using h_) (seg := [.int .i64 t284]) (j := 1) hcl33 hcc33 (show 2 ≤ 3 from by decide) (x' := (⟨(rd_Op x3_14 (ji25)).f0, t284, (rd_Op x3_14 (ji25)).f2⟩ : Op)) (kOp_mkM _ _ _ (⟨(rd_Op x3_14 (ji25)).f0, t284, (rd_Op x3_14 (ji25)).f2⟩ : Op) ) (fun _ hk => hk)).1; rw [← Ny285.out] at HP33; have HQ33 := aM HP33; clear hcl33 hcc33 hfr33 hM33 HP33
                   refine hK.out _ _ ⟨hHeld.1, hHeld.2.1, hHeld.2.2.1, ((HB.out.cell (bL w _ hw283_0)).trans hw283_0), ((HB.out.cell (bL w _ hw283_1)).trans hw283_1), ((HB.out.cell (bL w _ hw283_2)).trans hw283_2)⟩ (fun hHeld => ?_)
                   clear hK K
                   refine norm_ (a' := ?_) ?_ ?_
                   rotate_left
                   ·show Act.put _ (some 87) _ = _
                    simp only [Act.put, sI, sZ, sS, i64_w, i32_w]
                    rfl
                   refine pure_ (i := 17) (N := some 88) (v := ?_) (a' := ?_) #[true, true, true, true, true, true, true, true, true, true, true, true, true, true, true, true, true, true, false, false] rfl rfl (any_of HT_.out yK) yI (Or.inl ⟨by rfl, ?_⟩) ?_ ?_
                   rotate_left; exact yP1; rotate_left; exact yP2
                   refine pure_ (i := 18) (N := some 89) (v := ?_) (a' := ?_) #[true, true, true, true, true, true, true, true, true, true, true, true, true, true, true, true, true, true, true, false] rfl rfl (any_of HT_.out yK) yI (Or.inl ⟨by rfl, ?_⟩) ?_ ?_
                   rotate_left; exact yP1; rotate_left; exact yP2
                   refine last_ (i := 19) (N := none) #[true, true, true, true, true, true, true, true, true, true, true, true, true, true, true, true, true, true, true, true] rfl rfl (one_of HT_.out yK) (by decide) (fun K hK => ?_)
                   refine skip_ (w1 := ?_) (by rfl) rfl ?_ ?_
                   rotate_left
                   ·go_simp
                    rfl
                   refine hK.out _ _ ?_
                   clear hK K
                   refine done_ (done_of HT_.out yK) ?_
                   try go_wp2
                   go_roundg kj14
                   case measure => have := HK1.out; have := HJ2.out; have := HJ10.out; have := HJ14.out; omega
                   case rel => exact ⟨(y285), (x4_14), (wrap64 (x5_1 + 1)), yE, H', ⟨by have := HK1.out; have := HJ2.out; have := HJ10.out; have := HJ14.out; omega⟩, ⟨yH HQ33.out⟩, ⟨by (with_reducible repeat (first | apply Kd.R_alloc | apply Kd.R_drewN | apply Kd.R_drew)); exact Kd.R_mono (Kd.R_far (p := ⟨go30, ((ji25) : Int).toNat * 3 + 1, none⟩) (Kd.R_mono HO_4.out (fun k_ hk => (⟨hk, fun e_ => hk (by rw [e_]; rfl)⟩ : _ ∧ k_ ≠ go30))) (fun _ hk => hk.2) (.int .i64 t284)) (fun _ hk => hk.1)⟩, ⟨yBg GB30.out⟩⟩
                  ·rw [if_neg c28] at H
                   have c28b0 := beq_eq_false_iff_ne.mpr c28; have c28b1 := bne_iff_ne.mpr c28
                   by_cases c34 : x3_14.length < 4398046511104
                   ·rw [if_pos c34] at H
                    have LMc34 := aM c34; clear c34; obtain ⟨y287, hy287⟩ : ∃ y_ : List (Op), y_ = (x3_14 ++ [(⟨(rd_Op l0 x5_1).f0, (rd_Op l0 x5_1).f1, (rd_Op l0 x5_1).f2⟩ : Op)]) := ⟨_, rfl⟩; replace H : (patchworkref8_norm.l0 kj14 l0 y287 x4_14 (wrap64 (x5_1 + 1))) = some r := yN hy287 H
                    have Ny287 := aM hy287; clear hy287; have H' := aM H; clear H; have p280 : 0 ≤ (x5_1 : Int) := yO; have q280 : x5_1 < (l0.length : Int) := yO; obtain ⟨ad280, e280, hx280_0, hx280_1, hx280_2⟩ := at_OpB HB.out HR0.out x5_1 p280 q280; cases e280; replace p280 := eq_true p280; replace q280 := eq_true q280; obtain ⟨Ao35, co35, eo35⟩ := Kd.R_slice HO_3.out; subst eo35; have p281 : 0 ≤ ((ji25) : Int) := yO; have q281 : (ji25) < (x3_14.length : Int) := yO; obtain ⟨ad281, e281, hx281_0, hx281_1, hx281_2⟩ := at_Op (Kd.R_reads' HO_3.out).2.2 (ji25) p281 q281; cases e281; replace p281 := eq_true p281; replace q281 := eq_true q281; have p286 : 0 ≤ (x5_1 : Int) := yO; have q286 : x5_1 < (l0.length : Int) := yO; obtain ⟨ad286, e286, hx286_0, hx286_1, hx286_2⟩ := at_Op HR0.out x5_1 p286 q286; obtain rfl : ad280 = ad286 := (by injection e286); replace hx286_0 := (HB.out.cell (bL w _ hx286_0)).trans hx286_0; replace hx286_1 := (HB.out.cell (bL w _ hx286_1)).trans hx286_1; replace hx286_2 := (HB.out.cell (bL w _ hx286_2)).trans hx286_2; replace p286 := eq_true p286; replace q286 := eq_true q286
                    go_wp2_with (first | ((with_reducible refine gate_builtin (b := .append) (xs := #[.tmp 90, .tmp 95]) rfl ?_); (try (refine gate_guard (by rfl) ?_; dsimp only)); at_builtin; refine Kd.R_append kOp (w0 := w) w.heap.size rfl (.tmp 90) (.tmp 95) 22 38 (.agg #[(.int .i64 0), (.int .i64 0), (.string ⟨#[]⟩)]) 32 rfl Try.underlying22 info38 rfl (by decide) (by omega) (.slice (some ad281) x3_14.length co35) x3_14 (⟨(rd_Op l0 x5_1).f0, (rd_Op l0 x5_1).f1, (rd_Op l0 x5_1).f2⟩ : Op) [.int .i64 ((rd_Op l0 x5_1).f0), .int .i64 ((rd_Op l0 x5_1).f1), .string ((rd_Op l0 x5_1).f2)] (fun k_ => some k_ ≠ (u4 : Value).ownBlock) (fun _ => False) rfl rfl ?aP (fun _ hk => hk.elim) ?aF ?aO ?aB ?aS ?aL ?_; (case aP => exact kOp_mkM _ _ _ (⟨(rd_Op l0 x5_1).f0, (rd_Op l0 x5_1).f1, (rd_Op l0 x5_1).f2⟩ : Op)); (case aB => exact yB); (case aF => exact (fun k_ hk => Kd.fresh' (Kd.R_lt HO_4.out) k_ hk)); (case aO => exact HO_3.out); (case aS => exact yW); (case aL => have := LMc34.out; omega); intro v288 w36 ho hb hg hat; rw [← Ny287.out] at ho; have n0_ := aM (Kd.R_after (ok := (fun _ => True)) (by (with_reducible repeat (first | apply Kd.R_alloc | apply Kd.R_drewN | apply Kd.R_drew)); exact Kd.R_mono HO_4.out (fun _ hk => ⟨trivial, hk⟩)) hg hat); have n1_ := aM (hb); have n2_ := aM (ho); clear HO_4; clear HB; clear HO_3; have HO_4 := n0_; have HB := n1_; have HO289 := n2_; clear n0_ n1_ n2_; clear ho hb hg hat))
                    go_roundg kj14
                    case measure => have := HK1.out; have := HJ2.out; have := HJ10.out; have := HJ14.out; omega
                    case rel => exact ⟨(y287), (x4_14), (wrap64 (x5_1 + 1)), yE, H', ⟨by have := HK1.out; have := HJ2.out; have := HJ10.out; have := HJ14.out; omega⟩, ⟨yH HO289.out⟩, ⟨by (with_reducible repeat (first | apply Kd.R_alloc | apply Kd.R_drewN | apply Kd.R_drew)); exact Kd.R_mono HO_4.out (fun _ hk => hk.2)⟩, ⟨yB⟩⟩
                   ·rw [if_neg c34] at H
                    exact absurd H (by simp)
                 ·rw [if_neg c27] at H
                  exact absurd H (by simp)
                ·rw [if_neg c26] at H
                 exact absurd H (by simp)
               ·rw [if_neg c24] at H
                have c24b0 := decide_eq_false c24; have c24b1 : decide (0 < x3_14.length) = false := decide_eq_false (by omega); clear c24
                by_cases c37 : x3_14.length < 4398046511104
                ·rw [if_pos c37] at H
                 have LMc37 := aM c37; clear c37; obtain ⟨y291, hy291⟩ : ∃ y_ : List (Op), y_ = (x3_14 ++ [(⟨(rd_Op l0 x5_1).f0, (rd_Op l0 x5_1).f1, (rd_Op l0 x5_1).f2⟩ : Op)]) := ⟨_, rfl⟩; replace H : (patchworkref8_norm.l0 kj14 l0 y291 x4_14 (wrap64 (x5_1 + 1))) = some r := yN hy291 H
                 have Ny291 := aM hy291; clear hy291; have H' := aM H; clear H; have p280 : 0 ≤ (x5_1 : Int) := yO; have q280 : x5_1 < (l0.length : Int) := yO; obtain ⟨ad280, e280, hx280_0, hx280_1, hx280_2⟩ := at_OpB HB.out HR0.out x5_1 p280 q280; cases e280; replace p280 := eq_true p280; replace q280 := eq_true q280; obtain ⟨Ao38, co38, eo38⟩ := Kd.R_slice HO_3.out; subst eo38; have p290 : 0 ≤ (x5_1 : Int) := yO; have q290 : x5_1 < (l0.length : Int) := yO; obtain ⟨ad290, e290, hx290_0, hx290_1, hx290_2⟩ := at_Op HR0.out x5_1 p290 q290; obtain rfl : ad280 = ad290 := (by injection e290); replace hx290_0 := (HB.out.cell (bL w _ hx290_0)).trans hx290_0; replace hx290_1 := (HB.out.cell (bL w _ hx290_1)).trans hx290_1; replace hx290_2 := (HB.out.cell (bL w _ hx290_2)).trans hx290_2; replace p290 := eq_true p290; replace q290 := eq_true q290
                 go_wp2_with (first | ((with_reducible refine gate_builtin (b := .append) (xs := #[.tmp 90, .tmp 95]) rfl ?_); (try (refine gate_guard (by rfl) ?_; dsimp only)); at_builtin; refine Kd.R_append kOp (w0 := w) w.heap.size rfl (.tmp 90) (.tmp 95) 22 38 (.agg #[(.int .i64 0), (.int .i64 0), (.string ⟨#[]⟩)]) 32 rfl Try.underlying22 info38 rfl (by decide) (by omega) (.slice Ao38 x3_14.length co38) x3_14 (⟨(rd_Op l0 x5_1).f0, (rd_Op l0 x5_1).f1, (rd_Op l0 x5_1).f2⟩ : Op) [.int .i64 ((rd_Op l0 x5_1).f0), .int .i64 ((rd_Op l0 x5_1).f1), .string ((rd_Op l0 x5_1).f2)] (fun k_ => some k_ ≠ (u4 : Value).ownBlock) (fun _ => False) rfl rfl ?aP (fun _ hk => hk.elim) ?aF ?aO ?aB ?aS ?aL ?_; (case aP => exact kOp_mkM _ _ _ (⟨(rd_Op l0 x5_1).f0, (rd_Op l0 x5_1).f1, (rd_Op l0 x5_1).f2⟩ : Op)); (case aB => exact yB); (case aF => exact (fun k_ hk => Kd.fresh' (Kd.R_lt HO_4.out) k_ hk)); (case aO => exact HO_3.out); (case aS => exact yW); (case aL => have := LMc37.out; omega); intro v292 w39 ho hb hg hat; rw [← Ny291.out] at ho; have n0_ := aM (Kd.R_after (ok := (fun _ => True)) (by (with_reducible repeat (first | apply Kd.R_alloc | apply Kd.R_drewN | apply Kd.R_drew)); exact Kd.R_mono HO_4.out (fun _ hk => ⟨trivial, hk⟩)) hg hat); have n1_ := aM (hb); have n2_ := aM (ho); clear HO_4; clear HB; clear HO_3; have HO_4 := n0_; have HB := n1_; have HO293 := n2_; clear n0_ n1_ n2_; clear ho hb hg hat))
                 go_roundg kj14
                 case measure => have := HK1.out; have := HJ2.out; have := HJ10.out; have := HJ14.out; omega
                 case rel => exact ⟨(y291), (x4_14), (wrap64 (x5_1 + 1)), yE, H', ⟨by have := HK1.out; have := HJ2.out; have := HJ10.out; have := HJ14.out; omega⟩, ⟨yH HO293.out⟩, ⟨by (with_reducible repeat (first | apply Kd.R_alloc | apply Kd.R_drewN | apply Kd.R_drew)); exact Kd.R_mono HO_4.out (fun _ hk => hk.2)⟩, ⟨yB⟩⟩
                ·rw [if_neg c37] at H
                 exact absurd H (by simp)
              ·rw [if_neg c23] at H
               have c23b0 := beq_eq_false_iff_ne.mpr c23; have c23b1 := bne_iff_ne.mpr c23
               by_cases c40 : x3_14.length < 4398046511104
               ·rw [if_pos c40] at H
                have LMc40 := aM c40; clear c40; obtain ⟨y295, hy295⟩ : ∃ y_ : List (Op), y_ = (x3_14 ++ [(⟨(rd_Op l0 x5_1).f0, (rd_Op l0 x5_1).f1, (rd_Op l0 x5_1).f2⟩ : Op)]) := ⟨_, rfl⟩; replace H : (patchworkref8_norm.l0 kj14 l0 y295 x4_14 (wrap64 (x5_1 + 1))) = some r := yN hy295 H
                have Ny295 := aM hy295; clear hy295; have H' := aM H; clear H; have p280 : 0 ≤ (x5_1 : Int) := yO; have q280 : x5_1 < (l0.length : Int) := yO; obtain ⟨ad280, e280, hx280_0, hx280_1, hx280_2⟩ := at_OpB HB.out HR0.out x5_1 p280 q280; cases e280; replace p280 := eq_true p280; replace q280 := eq_true q280; have p294 : 0 ≤ (x5_1 : Int) := yO; have q294 : x5_1 < (l0.length : Int) := yO; obtain ⟨ad294, e294, hx294_0, hx294_1, hx294_2⟩ := at_Op HR0.out x5_1 p294 q294; obtain rfl : ad280 = ad294 := (by injection e294); replace hx294_0 := (HB.out.cell (bL w _ hx294_0)).trans hx294_0; replace hx294_1 := (HB.out.cell (bL w _ hx294_1)).trans hx294_1; replace hx294_2 := (HB.out.cell (bL w _ hx294_2)).trans hx294_2; replace p294 := eq_true p294; replace q294 := eq_true q294
                go_wp2_with (first | ((with_reducible refine gate_builtin (b := .append) (xs := #[.tmp 90, .tmp 95]) rfl ?_); (try (refine gate_guard (by rfl) ?_; dsimp only)); at_builtin; refine Kd.R_append kOp (w0 := w) w.heap.size rfl (.tmp 90) (.tmp 95) 22 38 (.agg #[(.int .i64 0), (.int .i64 0), (.string ⟨#[]⟩)]) 32 rfl Try.underlying22 info38 rfl (by decide) (by omega) u3 x3_14 (⟨(rd_Op l0 x5_1).f0, (rd_Op l0 x5_1).f1, (rd_Op l0 x5_1).f2⟩ : Op) [.int .i64 ((rd_Op l0 x5_1).f0), .int .i64 ((rd_Op l0 x5_1).f1), .string ((rd_Op l0 x5_1).f2)] (fun k_ => some k_ ≠ (u4 : Value).ownBlock) (fun _ => False) rfl rfl ?aP (fun _ hk => hk.elim) ?aF ?aO ?aB ?aS ?aL ?_; (case aP => exact kOp_mkM _ _ _ (⟨(rd_Op l0 x5_1).f0, (rd_Op l0 x5_1).f1, (rd_Op l0 x5_1).f2⟩ : Op)); (case aB => exact yB); (case aF => exact (fun k_ hk => Kd.fresh' (Kd.R_lt HO_4.out) k_ hk)); (case aO => exact HO_3.out); (case aS => exact yW); (case aL => have := LMc40.out; omega); intro v296 w41 ho hb hg hat; rw [← Ny295.out] at ho; have n0_ := aM (Kd.R_after (ok := (fun _ => True)) (by (with_reducible repeat (first | apply Kd.R_alloc | apply Kd.R_drewN | apply Kd.R_drew)); exact Kd.R_mono HO_4.out (fun _ hk => ⟨trivial, hk⟩)) hg hat); have n1_ := aM (hb); have n2_ := aM (ho); clear HO_4; clear HB; clear HO_3; have HO_4 := n0_; have HB := n1_; have HO297 := n2_; clear n0_ n1_ n2_; clear ho hb hg hat))
                go_roundg kj14
                case measure => have := HK1.out; have := HJ2.out; have := HJ10.out; have := HJ14.out; omega
                case rel => exact ⟨(y295), (x4_14), (wrap64 (x5_1 + 1)), yE, H', ⟨by have := HK1.out; have := HJ2.out; have := HJ10.out; have := HJ14.out; omega⟩, ⟨yH HO297.out⟩, ⟨by (with_reducible repeat (first | apply Kd.R_alloc | apply Kd.R_drewN | apply Kd.R_drew)); exact Kd.R_mono HO_4.out (fun _ hk => hk.2)⟩, ⟨yB⟩⟩
               ·rw [if_neg c40] at H
                exact absurd H (by simp)
             ·rw [if_neg c22] at H
              exact absurd H (by simp)
            ·rw [if_neg c21] at H
             exact absurd H (by simp)
   ·rw [if_neg c2] at H
    have c2b0 := decide_eq_false c2; clear c2; obtain rfl := Option.some.inj H
    go_wp2
    go_ret
    exact ⟨_, by first | rfl | (simp [errW_none, errW_some] <;> rfl) | (simp [*, errW_none, errW_some] <;> rfl), by (with_reducible repeat (first | apply Kd.R_alloc | apply Kd.R_drewN | apply Kd.R_drew)); exact Kd.R_mono HO_3.out (fun _ hk => trivial), yB⟩
end Go.Proofs.Ytkiklmmpflndbaa.P
