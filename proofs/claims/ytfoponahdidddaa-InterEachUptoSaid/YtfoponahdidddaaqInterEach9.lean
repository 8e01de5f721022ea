/- Own and printed texts that the theorem of InterEach reaches, put together. -/
import Derived.Test.YtfoponahdidddaaqInterEach4
import Derived.Test.YtfoponahdidddaaqInterEach3
import Derived.Test.YtfoponahdidddaaqInterEach6
set_option linter.unusedVariables false
set_option linter.unusedSimpArgs false
namespace Go.Proofs.Ytfoponahdidddaa.P
open Go.RowKit Go.Proofs.YtfoponahdidddaaW.PrintWords Go.Proofs.YtfoponahdidddaaW.PrintLast Go.Proofs.YtfoponahdidddaaW.PrintMore
open Go.Proofs.YtfoponahdidddaaW.PrintWords renaming blk_alloc → kA, blk_drewN → kN, blk_drew → kD
open Go.Proofs.YtfoponahdidddaaW.PrintWords.Aside0 renaming mk → aM
attribute [local go_sem] max2_int min2_int max_two min_two max_three min_three max_four min_four
set_option maxHeartbeats 8000000 in
set_option maxRecDepth 100000 in
theorem flip_Ops.calls (k : Nat) (A0 : Option Addr) (c0 : Nat) (l0 : List (Op)) (r : List (Op)) (w : World) (hr0 : Kd.C kOp w A0 l0.length l0) (hc0 : l0.length ≤ c0) (h : flip_Ops.f k l0 = some r) :
  Calls Try.prog 50 #[.slice A0 l0.length c0] w fun e w' => ∃ v0_ : Value, e = .returned (v0_) ∧ Kd.R kOp 41 w' w.heap.size (fun _ => True) v0_ r ∧ Below w.heap.size w w' := by
 have hu41 := Try.underlying41
 have HR0 := aM hr0
 have HC0 := aM hc0
 clear hr0 hc0
 have HB := aM (Below.refl w.heap.size w)
 have H : ((ops_Right.f k l0).bind fun t691 => (if t691 = true then (flip_Ops.l0 k ([] : List (Op)) l0 (l0.length : Int) 0) else (some ([] : List (Op))))) = some r := h
 clear h
 replace H := oB H; obtain ⟨t691, A2, H⟩ := H
 by_cases c3 : t691 = true
 ·subst c3
  have H' := aM (iT H); clear H
  go_enter Try.func50, Try.ntmps50
  go_wp2_with (first | ((with_reducible refine gate_callee (f := 35) rfl ?_); refine goesL_ (some 7) rfl rfl Try.func35 yK rfl #[.slice A0 l0.length c0] rfl yG ?_; (with_reducible refine (ops_Right.calls k _ _ l0 true _ (yC HR0.out) HC0.out A2.out).mono ?_); rintro e w4 ⟨rfl, hb⟩; refine ⟨_, rfl, ?_⟩; replace HB := aM (below_step yB hb); clear hb))
  go_loopg [3, 11] k (fun kq v3 v11 w' => ∃ (x3_1 : List (Op)) (x11_1 : Int), v11 = .int .i64 x11_1 ∧ Aside0 (flip_Ops.l0 kq x3_1 l0 (l0.length : Int) x11_1 = some r) ∧ Aside0 (kq ≤ k) ∧ Aside0 (Kd.R kOp 41 w' w.heap.size (fun _ => True) v3 x3_1) ∧ Aside0 (Below w.heap.size w w'))
  case atStart => exact ⟨(([] : List (Op))), (0), yE, H', ⟨Nat.le_refl _⟩, ⟨by first | exact Kd.R_nil _ _ _ _ _ | exact Kd.N_nil _ _ _ _ _ | exact Kd.V_nil _ _ _ _ _ | exact Kd.Q_nil _ _ _ _ _ | exact Kd.S_nil _ _ _ _ _⟩, ⟨yB⟩⟩
  case round =>
   clear H'; (try clear p2); (try clear c3); obtain ⟨x3_1, x11_1, rfl, HA, HK1, HO_3, HB⟩ := hrel; cases gk with
   | zero => exact absurd HA.out (by simp [flip_Ops.l0])
   | succ k1 =>
    have H := HA.out; clear HA; simp only [flip_Ops.l0] at H
    by_cases c5 : x11_1 < (l0.length : Int)
    ·rw [if_pos c5] at H
     have c5b0 := decide_eq_true c5; clear c5
     by_cases c6 : 0 ≤ x11_1
     ·rw [if_pos c6] at H
      have c6b0 := decide_eq_true c6; clear c6
      by_cases c7 : x11_1 < (l0.length : Int)
      ·rw [if_pos c7] at H
       have c7b0 := decide_eq_true c7; clear c7
       by_cases c8 : ((rd_Op l0 x11_1).f0) = 3
       ·rw [if_pos c8] at H
        have c8b0 := beq_iff_eq.mpr c8; have c8b1 := bne_eq_false_iff_eq.mpr c8; clear c8
        by_cases c9 : x3_1.length < 4398046511104
        ·rw [if_pos c9] at H
         have LMc9 := aM c9; clear c9; obtain ⟨y697, hy697⟩ : ∃ y_ : List (Op), y_ = (x3_1 ++ [(⟨4, (rd_Op l0 x11_1).f1, (rd_Op l0 x11_1).f2⟩ : Op)]) := ⟨_, rfl⟩; replace H : (flip_Ops.l0 k1 y697 l0 (l0.length : Int) (wrap64 (x11_1 + 1))) = some r := yN hy697 H
         have Ny697 := aM hy697; clear hy697; have H' := aM H; clear H; have p695 : 0 ≤ (x11_1 : Int) := yO; have q695 : x11_1 < (l0.length : Int) := yO; obtain ⟨ad695, e695, hx695_0, hx695_1, hx695_2⟩ := at_OpB HB.out HR0.out x11_1 p695 q695; cases e695; replace p695 := eq_true p695; replace q695 := eq_true q695
         go_wp2_with (first | ((with_reducible refine gate_dst (N := 5) rfl ?_); refine box_event yR (N := 5) yR (cs := #[.int .i64 0, .int .i64 0, .string (⟨#[]⟩ : ByteArray)]) (t := 41) yQ ?_; intro gb696 hg w10 hbox hb; replace HO_3 := aM (Kd.R_below (Kd.R_elderB (yH HO_3.out) gb696 (Nat.le_of_eq hg.symm)) hb); have BK696 := aM (hbox); have GW696 := aM ((yS : w.heap.size ≤ gb696)); have GE696 := aM ((yS : w.heap.size ≤ gb696)); replace HB := aM (below_step yB hb); clear hb hbox hg; obtain ⟨hcz11_0, hcz11_1, hcz11_2, hfz11_0, hfz11_1, hfz11_2⟩ := blk3 BK696.out) | ((with_reducible refine gate_builtin (b := .append) (xs := #[.tmp 23, .tmp 25]) rfl ?_); at_builtin; refine Kd.R_append kOp (w0 := w) w.heap.size rfl (.tmp 23) (.tmp 25) 22 41 (.agg #[(.int .i64 0), (.int .i64 0), (.string ⟨#[]⟩)]) 32 rfl Try.underlying22 info41 rfl (by decide) (by omega) u3 x3_1 (⟨4, (rd_Op l0 x11_1).f1, (rd_Op l0 x11_1).f2⟩ : Op) [.int .i64 4, .int .i64 ((rd_Op l0 x11_1).f1), .string ((rd_Op l0 x11_1).f2)] (fun k_ => k_ ≠ gb696) (fun _ => False) rfl (by first | (go_simp; done) | (go_simp; rfl)) ?aP (fun _ hk => hk.elim) ?aF ?aO ?aB ?aS ?aL ?_; (case aP => exact kOp_mkM _ _ _ (⟨4, (rd_Op l0 x11_1).f1, (rd_Op l0 x11_1).f2⟩ : Op)); (case aB => exact (yBg GE696.out)); (case aF => exact (fun k_ hk => Kd.freshB (g := gb696) (o := .cells #[.int .i64 4, .int .i64 ((rd_Op l0 x11_1).f1), .string ((rd_Op l0 x11_1).f2)] 41 (0, 0)) (by (with_reducible repeat (first | refine kN ?_ _ | refine kD ?_ | refine kA ?_ _)); refine blk_put (cs := #[.int .i64 ((rd_Op l0 x11_1).f0), .int .i64 ((rd_Op l0 x11_1).f1), .string ((rd_Op l0 x11_1).f2)]) ?_ 0 _ rfl; (with_reducible repeat (first | refine kN ?_ _ | refine kD ?_ | refine kA ?_ _)); refine blk_put (cs := #[.int .i64 ((rd_Op l0 x11_1).f0), .int .i64 ((rd_Op l0 x11_1).f1), .string (⟨#[]⟩ : ByteArray)]) ?_ 2 _ rfl; (with_reducible repeat (first | refine kN ?_ _ | refine kD ?_ | refine kA ?_ _)); refine blk_put (cs := #[.int .i64 ((rd_Op l0 x11_1).f0), .int .i64 0, .string (⟨#[]⟩ : ByteArray)]) ?_ 1 _ rfl; (with_reducible repeat (first | refine kN ?_ _ | refine kD ?_ | refine kA ?_ _)); refine blk_put (cs := #[.int .i64 0, .int .i64 0, .string (⟨#[]⟩ : ByteArray)]) ?_ 0 _ rfl; (with_reducible repeat (first | refine kN ?_ _ | refine kD ?_ | refine kA ?_ _)); exact BK696.out) k_ hk)); (case aO => exact (by (with_reducible repeat (first | apply Kd.R_alloc | apply Kd.R_drewN | apply Kd.R_drew)); exact Kd.R_mono (Kd.R_far (p := ⟨gb696, 0, none⟩) (Kd.R_far (p := ⟨gb696, 2, none⟩) (Kd.R_far (p := ⟨gb696, 1, none⟩) (Kd.R_far (p := ⟨gb696, 0, none⟩) (Kd.R_mono HO_3.out (fun k_ hk => (⟨hk, hk.2⟩ : _ ∧ k_ ≠ gb696))) (fun _ hk => hk.2) (.int .i64 ((rd_Op l0 x11_1).f0))) (fun _ hk => hk.2) (.int .i64 ((rd_Op l0 x11_1).f1))) (fun _ hk => hk.2) (.string ((rd_Op l0 x11_1).f2))) (fun _ hk => hk.2) (.int .i64 4)) (fun _ hk => hk.1.2))); (case aS => exact (below_size (yBg GE696.out))); (case aL => have := LMc9.out; omega); intro v698 w12 ho hb hg hat; rw [← Ny697.out] at ho; have n0_ := aM (blk_grown (g := gb696) (o := .cells #[.int .i64 4, .int .i64 ((rd_Op l0 x11_1).f1), .string ((rd_Op l0 x11_1).f2)] 41 (0, 0)) (by (with_reducible repeat (first | refine kN ?_ _ | refine kD ?_ | refine kA ?_ _)); refine blk_put (cs := #[.int .i64 ((rd_Op l0 x11_1).f0), .int .i64 ((rd_Op l0 x11_1).f1), .string ((rd_Op l0 x11_1).f2)]) ?_ 0 _ rfl; (with_reducible repeat (first | refine kN ?_ _ | refine kD ?_ | refine kA ?_ _)); refine blk_put (cs := #[.int .i64 ((rd_Op l0 x11_1).f0), .int .i64 ((rd_Op l0 x11_1).f1), .string (⟨#[]⟩ : ByteArray)]) ?_ 2 _ rfl; (with_reducible repeat (first | refine kN ?_ _ | refine kD ?_ | refine kA ?_ _)); refine blk_put (cs := #[.int .i64 ((rd_Op l0 x11_1).f0), .int .i64 0, .string (⟨#[]⟩ : ByteArray)]) ?_ 1 _ rfl; (with_reducible repeat (first | refine kN ?_ _ | refine kD ?_ | refine kA ?_ _)); refine blk_put (cs := #[.int .i64 0, .int .i64 0, .string (⟨#[]⟩ : ByteArray)]) ?_ 0 _ rfl; (with_reducible repeat (first | refine kN ?_ _ | refine kD ?_ | refine kA ?_ _)); exact BK696.out) hg (Kd.R_away HO_3.out (fun _ hk => hk.2))); have n1_ := aM (hb); have n2_ := aM (ho); clear BK696; clear HB; clear HO_3; have BK696 := n0_; have HB := n1_; have HO699 := n2_; clear n0_ n1_ n2_; clear ho hb hg hat))
         go_roundg k1
         case measure => have := HK1.out; omega
         case rel => exact ⟨(y697), (wrap64 (x11_1 + 1)), yE, H', ⟨by have := HK1.out; omega⟩, ⟨by (with_reducible repeat (first | apply Kd.R_alloc | apply Kd.R_drewN | apply Kd.R_drew)); exact Kd.R_mono HO699.out (fun _ hk => trivial)⟩, ⟨yBg GE696.out⟩⟩
        ·rw [if_neg c9] at H
         exact absurd H (by simp)
       ·rw [if_neg c8] at H
        have c8b0 := beq_eq_false_iff_ne.mpr c8; have c8b1 := bne_iff_ne.mpr c8
        by_cases c13 : ((rd_Op l0 x11_1).f0) = 4
        ·rw [if_pos c13] at H
         have c13b0 := beq_iff_eq.mpr c13; have c13b1 := bne_eq_false_iff_eq.mpr c13; clear c13
         by_cases c14 : x3_1.length < 4398046511104
         ·rw [if_pos c14] at H
          have LMc14 := aM c14; clear c14; obtain ⟨y700, hy700⟩ : ∃ y_ : List (Op), y_ = (x3_1 ++ [(⟨3, (rd_Op l0 x11_1).f1, (rd_Op l0 x11_1).f2⟩ : Op)]) := ⟨_, rfl⟩; replace H : (flip_Ops.l0 k1 y700 l0 (l0.length : Int) (wrap64 (x11_1 + 1))) = some r := yN hy700 H
          have Ny700 := aM hy700; clear hy700; have H' := aM H; clear H; have p695 : 0 ≤ (x11_1 : Int) := yO; have q695 : x11_1 < (l0.length : Int) := yO; obtain ⟨ad695, e695, hx695_0, hx695_1, hx695_2⟩ := at_OpB HB.out HR0.out x11_1 p695 q695; cases e695; replace p695 := eq_true p695; replace q695 := eq_true q695
          go_wp2_with (first | ((with_reducible refine gate_dst (N := 5) rfl ?_); refine box_event yR (N := 5) yR (cs := #[.int .i64 0, .int .i64 0, .string (⟨#[]⟩ : ByteArray)]) (t := 41) yQ ?_; intro gb696 hg w15 hbox hb; replace HO_3 := aM (Kd.R_below (Kd.R_elderB (yH HO_3.out) gb696 (Nat.le_of_eq hg.symm)) hb); have BK696 := aM (hbox); have GW696 := aM ((yS : w.heap.size ≤ gb696)); have GE696 := aM ((yS : w.heap.size ≤ gb696)); replace HB := aM (below_step yB hb); clear hb hbox hg; obtain ⟨hcz16_0, hcz16_1, hcz16_2, hfz16_0, hfz16_1, hfz16_2⟩ := blk3 BK696.out) | ((with_reducible refine gate_builtin (b := .append) (xs := #[.tmp 23, .tmp 25]) rfl ?_); at_builtin; refine Kd.R_append kOp (w0 := w) w.heap.size rfl (.tmp 23) (.tmp 25) 22 41 (.agg #[(.int .i64 0), (.int .i64 0), (.string ⟨#[]⟩)]) 32 rfl Try.underlying22 info41 rfl (by decide) (by omega) u3 x3_1 (⟨3, (rd_Op l0 x11_1).f1, (rd_Op l0 x11_1).f2⟩ : Op) [.int .i64 3, .int .i64 ((rd_Op l0 x11_1).f1), .string ((rd_Op l0 x11_1).f2)] (fun k_ => k_ ≠ gb696) (fun _ => False) rfl (by first | (go_simp; done) | (go_simp; rfl)) ?aP (fun _ hk => hk.elim) ?aF ?aO ?aB ?aS ?aL ?_; (case aP => exact kOp_mkM _ _ _ (⟨3, (rd_Op l0 x11_1).f1, (rd_Op l0 x11_1).f2⟩ : Op)); (case aB => exact (yBg GE696.out)); (case aF => exact (fun k_ hk => Kd.freshB (g := gb696) (o := .cells #[.int .i64 3, .int .i64 ((rd_Op l0 x11_1).f1), .string ((rd_Op l0 x11_1).f2)] 41 (0, 0)) (by (with_reducible repeat (first | refine kN ?_ _ | refine kD ?_ | refine kA ?_ _)); refine blk_put (cs := #[.int .i64 ((rd_Op l0 x11_1).f0), .int .i64 ((rd_Op l0 x11_1).f1), .string ((rd_Op l0 x11_1).f2)]) ?_ 0 _ rfl; (with_reducible repeat (first | refine kN ?_ _ | refine kD ?_ | refine kA ?_ _)); refine blk_put (cs := #[.int .i64 ((rd_Op l0 x11_1).f0), .int .i64 ((rd_Op l0 x11_1).f1), .string (⟨#[]⟩ : ByteArray)]) ?_ 2 _ rfl; (with_reducible repeat (first | refine kN ?_ _ | refine kD ?_ | refine kA ?_ _)); refine blk_put (cs := #[.int .i64 ((rd_Op l0 x11_1).f0), .int .i64 0, .string (⟨#[]⟩ : ByteArray)]) ?_ 1 _ rfl; (with_reducible repeat (first | refine kN ?_ _ | refine kD ?_ | refine kA ?_ _)); refine blk_put (cs := #[.int .i64 0, .int .i64 0, .string (⟨#[]⟩ : ByteArray)]) ?_ 0 _ rfl; (with_reducible repeat (first | refine kN ?_ _ | refine kD ?_ | refine kA ?_ _)); exact BK696.out) k_ hk)); (case aO => exact (by (with_reducible repeat (first | apply Kd.R_alloc | apply Kd.R_drewN | apply Kd.R_drew)); exact Kd.R_mono (Kd.R_far (p := ⟨gb696, 0, none⟩) (Kd.R_far (p := ⟨gb696, 2, none⟩) (Kd.R_far (p := ⟨gb696, 1, none⟩) (Kd.R_far (p := ⟨gb696, 0, none⟩) (Kd.R_mono HO_3.out (fun k_ hk => (⟨hk, hk.2⟩ : _ ∧ k_ ≠ gb696))) (fun _ hk => hk.2) (.int .i64 ((rd_Op l0 x11_1).f0))) (fun _ hk => hk.2) (.int .i64 ((rd_Op l0 x11_1).f1))) (fun _ hk => hk.2) (.string ((rd_Op l0 x11_1).f2))) (fun _ hk => hk.2) (.int .i64 3)) (fun _ hk => hk.1.2))); (case aS => exact (below_size (yBg GE696.out))); (case aL => have := LMc14.out; omega); intro v701 w17 ho hb hg hat; rw [← Ny700.out] at ho; have n0_ := aM (blk_grown (g := gb696) (o := .cells #[.int .i64 3, .int .i64 ((rd_Op l0 x11_1).f1), .string ((rd_Op l0 x11_1).f2)] 41 (0, 0)) (by (with_reducible repeat (first | refine kN ?_ _ | refine kD ?_ | refine kA ?_ _)); refine blk_put (cs := #[.int .i64 ((rd_Op l0 x11_1).f0), .int .i64 ((rd_Op l0 x11_1).f1), .string ((rd_Op l0 x11_1).f2)]) ?_ 0 _ rfl; (with_reducible repeat (first | refine kN ?_ _ | refine kD ?_ | refine kA ?_ _)); refine blk_put (cs := #[.int .i64 ((rd_Op l0 x11_1).f0), .int .i64 ((rd_Op l0 x11_1).f1), .string (⟨#[]⟩ : ByteArray)]) ?_ 2 _ rfl; (with_reducible repeat (first | refine kN ?_ _ | refine kD ?_ | refine kA ?_ _)); refine blk_put (cs := #[.int .i64 ((rd_Op l0 x11_1).f0), .int .i64 0, .string (⟨#[]⟩ : ByteArray)]) ?_ 1 _ rfl; (with_reducible repeat (first | refine kN ?_ _ | refine kD ?_ | refine kA ?_ _)); refine blk_put (cs := #[.int .i64 0, .int .i64 0, .string (⟨#[]⟩ : ByteArray)]) ?_ 0 _ rfl; (with_reducible repeat (first | refine kN ?_ _ | refine kD ?_ | refine kA ?_ _)); exact BK696.out) hg (Kd.R_away HO_3.out (fun _ hk => hk.2))); have n1_ := aM (hb); have n2_ := aM (ho); clear BK696; clear HB; clear HO_3; have BK696 := n0_; have HB := n1_; have HO702 := n2_; clear n0_ n1_ n2_; clear ho hb hg hat))
          go_roundg k1
          case measure => have := HK1.out; omega
          case rel => exact ⟨(y700), (wrap64 (x11_1 + 1)), yE, H', ⟨by have := HK1.out; omega⟩, ⟨by (with_reducible repeat (first | apply Kd.R_alloc | apply Kd.R_drewN | apply Kd.R_drew)); exact Kd.R_mono HO702.out (fun _ hk => trivial)⟩, ⟨yBg GE696.out⟩⟩
         ·rw [if_neg c14] at H
          exact absurd H (by simp)
        ·rw [if_neg c13] at H
         have c13b0 := beq_eq_false_iff_ne.mpr c13; have c13b1 := bne_iff_ne.mpr c13
         by_cases c18 : x3_1.length < 4398046511104
         ·rw [if_pos c18] at H
          have LMc18 := aM c18; clear c18; obtain ⟨y703, hy703⟩ : ∃ y_ : List (Op), y_ = (x3_1 ++ [(⟨(rd_Op l0 x11_1).f0, (rd_Op l0 x11_1).f1, (rd_Op l0 x11_1).f2⟩ : Op)]) := ⟨_, rfl⟩; replace H : (flip_Ops.l0 k1 y703 l0 (l0.length : Int) (wrap64 (x11_1 + 1))) = some r := yN hy703 H
          have Ny703 := aM hy703; clear hy703; have H' := aM H; clear H; have p695 : 0 ≤ (x11_1 : Int) := yO; have q695 : x11_1 < (l0.length : Int) := yO; obtain ⟨ad695, e695, hx695_0, hx695_1, hx695_2⟩ := at_OpB HB.out HR0.out x11_1 p695 q695; cases e695; replace p695 := eq_true p695; replace q695 := eq_true q695
          go_wp2_with (first | ((with_reducible refine gate_dst (N := 5) rfl ?_); refine box_event yR (N := 5) yR (cs := #[.int .i64 0, .int .i64 0, .string (⟨#[]⟩ : ByteArray)]) (t := 41) yQ ?_; intro gb696 hg w19 hbox hb; replace HO_3 := aM (Kd.R_below (Kd.R_elderB (yH HO_3.out) gb696 (Nat.le_of_eq hg.symm)) hb); have BK696 := aM (hbox); have GW696 := aM ((yS : w.heap.size ≤ gb696)); have GE696 := aM ((yS : w.heap.size ≤ gb696)); replace HB := aM (below_step yB hb); clear hb hbox hg; obtain ⟨hcz20_0, hcz20_1, hcz20_2, hfz20_0, hfz20_1, hfz20_2⟩ := blk3 BK696.out) | ((with_reducible refine gate_builtin (b := .append) (xs := #[.tmp 23, .tmp 25]) rfl ?_); at_builtin; refine Kd.R_append kOp (w0 := w) w.heap.size rfl (.tmp 23) (.tmp 25) 22 41 (.agg #[(.int .i64 0), (.int .i64 0), (.string ⟨#[]⟩)]) 32 rfl Try.underlying22 info41 rfl (by decide) (by omega) u3 x3_1 (⟨(rd_Op l0 x11_1).f0, (rd_Op l0 x11_1).f1, (rd_Op l0 x11_1).f2⟩ : Op) [.int .i64 ((rd_Op l0 x11_1).f0), .int .i64 ((rd_Op l0 x11_1).f1), .string ((rd_Op l0 x11_1).f2)] (fun k_ => k_ ≠ gb696) (fun _ => False) rfl (by first | (go_simp; done) | (go_simp; rfl)) ?aP (fun _ hk => hk.elim) ?aF ?aO ?aB ?aS ?aL ?_; (case aP => exact kOp_mkM _ _ _ (⟨(rd_Op l0 x11_1).f0, (rd_Op l0 x11_1).f1, (rd_Op l0 x11_1).f2⟩ : Op)); (case aB => exact (yBg GE696.out)); (case aF => exact (fun k_ hk => Kd.freshB (g := gb696) (o := .cells #[.int .i64 ((rd_Op l0 x11_1).f0), .int .i64 ((rd_Op l0 x11_1).f1), .string ((rd_Op l0 x11_1).f2)] 41 (0, 0)) (by (with_reducible repeat (first | refine kN ?_ _ | refine kD ?_ | refine kA ?_ _)); refine blk_put (cs := #[.int .i64 ((rd_Op l0 x11_1).f0), .int .i64 ((rd_Op l0 x11_1).f1), .string (⟨#[]⟩ : ByteArray)]) ?_ 2 _ rfl; (with_reducible repeat (first | refine kN ?_ _ | refine kD ?_ | refine kA ?_ _)); refine blk_put (cs := #[.int .i64 ((rd_Op l0 x11_1).f0), .int .i64 0, .string (⟨#[]⟩ : ByteArray)]) ?_ 1 _ rfl; (with_reducible repeat (first | refine kN ?_ _ | refine kD ?_ | refine kA ?_ _)); refine blk_put (cs := #[.int .i64 0, .int .i64 0, .string (⟨#[]⟩ : ByteArray)]) ?_ 0 _ rfl; (with_reducible repeat (first | refine kN ?_ _ | refine kD ?_ | refine kA ?_ _)); exact BK696.out) k_ hk)); (case aO => exact (by (with_reducible repeat (first | apply Kd.R_alloc | apply Kd.R_drewN | apply Kd.R_drew)); exact Kd.R_mono (Kd.R_far (p := ⟨gb696, 2, none⟩) (Kd.R_far (p := ⟨gb696, 1, none⟩) (Kd.R_far (p := ⟨gb696, 0, none⟩) (Kd.R_mono HO_3.out (fun k_ hk => (⟨hk, hk.2⟩ : _ ∧ k_ ≠ gb696))) (fun _ hk => hk.2) (.int .i64 ((rd_Op l0 x11_1).f0))) (fun _ hk => hk.2) (.int .i64 ((rd_Op l0 x11_1).f1))) (fun _ hk => hk.2) (.string ((rd_Op l0 x11_1).f2))) (fun _ hk => hk.1.2))); (case aS => exact (below_size (yBg GE696.out))); (case aL => have := LMc18.out; omega); intro v704 w21 ho hb hg hat; rw [← Ny703.out] at ho; have n0_ := aM (blk_grown (g := gb696) (o := .cells #[.int .i64 ((rd_Op l0 x11_1).f0), .int .i64 ((rd_Op l0 x11_1).f1), .string ((rd_Op l0 x11_1).f2)] 41 (0, 0)) (by (with_reducible repeat (first | refine kN ?_ _ | refine kD ?_ | refine kA ?_ _)); refine blk_put (cs := #[.int .i64 ((rd_Op l0 x11_1).f0), .int .i64 ((rd_Op l0 x11_1).f1), .string (⟨#[]⟩ : ByteArray)]) ?_ 2 _ rfl; (with_reducible repeat (first | refine kN ?_ _ | refine kD ?_ | refine kA ?_ _)); refine blk_put (cs := #[.int .i64 ((rd_Op l0 x11_1).f0), .int .i64 0, .string (⟨#[]⟩ : ByteArray)]) ?_ 1 _ rfl; (with_reducible repeat (first | refine kN ?_ _ | refine kD ?_ | refine kA ?_ _)); refine blk_put (cs := #[.int .i64 0, .int .i64 0, .string (⟨#[]⟩ : ByteArray)]) ?_ 0 _ rfl; (with_reducible repeat (first | refine kN ?_ _ | refine kD ?_ | refine kA ?_ _)); exact BK696.out) hg (Kd.R_away HO_3.out (fun _ hk => hk.2))); have n1_ := aM (hb); have n2_ := aM (ho); clear BK696; clear HB; clear HO_3; have BK696 := n0_; have HB := n1_; have HO705 := n2_; clear n0_ n1_ n2_; clear ho hb hg hat))
          go_roundg k1
          case measure => have := HK1.out; omega
          case rel => exact ⟨(y703), (wrap64 (x11_1 + 1)), yE, H', ⟨by have := HK1.out; omega⟩, ⟨by (with_reducible repeat (first | apply Kd.R_alloc | apply Kd.R_drewN | apply Kd.R_drew)); exact Kd.R_mono HO705.out (fun _ hk => trivial)⟩, ⟨yBg GE696.out⟩⟩
         ·rw [if_neg c18] at H
          exact absurd H (by simp)
      ·rw [if_neg c7] at H
       exact absurd H (by simp)
     ·rw [if_neg c6] at H
      exact absurd H (by simp)
    ·rw [if_neg c5] at H
     have c5b0 := decide_eq_false c5; clear c5; replace H := oB H; obtain ⟨t692, A22, H⟩ := H; obtain rfl := Option.some.inj H; obtain ⟨Ao23, co23, eo23⟩ := Kd.R_slice HO_3.out; subst eo23
     go_wp2_with (first | ((with_reducible refine gate_callee (f := 39) rfl ?_); refine goesL_ (some 29) rfl rfl Try.func39 yK rfl #[.slice Ao23 x3_1.length co23] rfl yG ?_; (with_reducible refine (ops_Norm.calls k1 _ _ x3_1 t692 _ (yC (Kd.R_reads' HO_3.out).2.2) ((Kd.R_reads' HO_3.out).2.1) A22.out).mono ?_); rintro e w24 ⟨v693, rfl, ho0, hb⟩; refine ⟨_, rfl, ?_⟩; have HO694 := aM (Kd.R_lower (Kd.R_new' ho0 (Kd.R_lt (yH HO_3.out))) yW); replace HO_3 := aM (Kd.R_elder' (yH HO_3.out) (Kd.R_base ho0) hb); replace HB := aM (below_step yB hb); clear hb ho0))
     go_ret
     exact ⟨_, by first | rfl | (simp [errW_none, errW_some] <;> rfl) | (simp [*, errW_none, errW_some] <;> rfl), by (with_reducible repeat (first | apply Kd.R_alloc | apply Kd.R_drewN | apply Kd.R_drew)); exact Kd.R_mono HO694.out (fun _ hk => trivial), yB⟩
 ·replace c3 := Bool.eq_false_iff.mpr c3
  subst c3; replace H := iF H; obtain rfl := Option.some.inj H
  go_enter Try.func50, Try.ntmps50
  go_wp2_with (first | ((with_reducible refine gate_callee (f := 35) rfl ?_); refine goesL_ (some 7) rfl rfl Try.func35 yK rfl #[.slice A0 l0.length c0] rfl yG ?_; (with_reducible refine (ops_Right.calls k _ _ l0 false _ (yC HR0.out) HC0.out A2.out).mono ?_); rintro e w25 ⟨rfl, hb⟩; refine ⟨_, rfl, ?_⟩; replace HB := aM (below_step yB hb); clear hb))
  go_ret
  exact ⟨_, by first | rfl | (simp [errW_none, errW_some] <;> rfl) | (simp [*, errW_none, errW_some] <;> rfl), by first | exact Kd.R_nil _ _ _ _ _ | exact Kd.N_nil _ _ _ _ _ | exact Kd.V_nil _ _ _ _ _ | exact Kd.Q_nil _ _ _ _ _ | exact Kd.S_nil _ _ _ _ _, yB⟩
set_option maxHeartbeats 8000000 in
set_option maxRecDepth 100000 in
theorem lcs_ahead.calls (k : Nat) (A0 : Option Addr) (c0 : Nat) (l0 : List ByteArray) (A1 : Option Addr) (c1 : Nat) (l1 : List ByteArray) (r : Int) (w : World) (hr0 : Kd.C Kd.string w A0 l0.length l0) (hc0 : l0.length ≤ c0) (hr1 : Kd.C Kd.string w A1 l1.length l1) (hc1 : l1.length ≤ c1) (h : lcs_ahead.f k l0 l1 = some r) :
  Calls Try.prog 85 #[.slice A0 l0.length c0, .slice A1 l1.length c1] w fun e w' => e = .returned (.int .i64 r) ∧ Drawn0 w w' := by
 have HR0 := aM hr0
 have HC0 := aM hc0
 clear hr0 hc0
 have HR1 := aM hr1
 have HC1 := aM hc1
 clear hr1 hc1
 have H : (lcs_ahead.l0 k l0 l1 0) = some r := h
 clear h
 have H' := aM H
 clear H
 go_enter Try.func85, Try.ntmps85
 go_wp2
 repeat (go_quiet (fail); try go_wp2)
 go_loopg [5] k (fun kq v5 w' => ∃ (x5_1 : Int), v5 = .int .i64 x5_1 ∧ Aside0 (lcs_ahead.l0 kq l0 l1 x5_1 = some r) ∧ Aside0 (kq ≤ k) ∧ Drawn0 w w')
 case atStart => exact ⟨(0), yE, H', ⟨Nat.le_refl _⟩, yD⟩
 case round =>
  clear H'; (try clear c1); (try clear p2); obtain ⟨x5_1, rfl, HA, HK1, ⟨m1, rfl⟩⟩ := hrel; cases gk with
  | zero => exact absurd HA.out (by simp [lcs_ahead.l0])
  | succ k1 =>
   have H := HA.out; clear HA; simp only [lcs_ahead.l0] at H
   by_cases c3 : x5_1 < (l0.length : Int)
   ·rw [if_pos c3] at H
    have c3b0 := decide_eq_true c3; clear c3
    by_cases c4 : x5_1 < (l1.length : Int)
    ·rw [if_pos c4] at H
     have c4b0 := decide_eq_true c4; clear c4
     by_cases c5 : 0 ≤ x5_1
     ·rw [if_pos c5] at H
      have c5b0 := decide_eq_true c5; clear c5
      by_cases c6 : (rdOf ByteArray.empty l0 x5_1).toList = (rdOf ByteArray.empty l1 x5_1).toList
      ·rw [if_pos c6] at H
       have c6b0 := beq_iff_eq.mpr c6; have c6b1 := bne_eq_false_iff_eq.mpr c6; clear c6; have H' := aM H; clear H; have p706 : 0 ≤ (x5_1 : Int) := yO; have q706 : x5_1 < (l0.length : Int) := yO; obtain ⟨ad706, e706, hx706_0⟩ := Kd.at_string HR0.out x5_1 p706 q706; cases e706; replace p706 := eq_true p706; replace q706 := eq_true q706; have p707 : 0 ≤ (x5_1 : Int) := yO; have q707 : x5_1 < (l1.length : Int) := yO; obtain ⟨ad707, e707, hx707_0⟩ := Kd.at_string HR1.out x5_1 p707 q707; cases e707; replace p707 := eq_true p707; replace q707 := eq_true q707
       go_wp2
       repeat (go_quiet (fail); try go_wp2)
       go_roundg k1
       case measure => have := HK1.out; omega
       case rel => exact ⟨(wrap64 (x5_1 + 1)), yE, H', ⟨by have := HK1.out; omega⟩, yD⟩
      ·rw [if_neg c6] at H
       have c6b0 := beq_eq_false_iff_ne.mpr c6; have c6b1 := bne_iff_ne.mpr c6; obtain rfl := Option.some.inj H; have p706 : 0 ≤ (x5_1 : Int) := yO; have q706 : x5_1 < (l0.length : Int) := yO; obtain ⟨ad706, e706, hx706_0⟩ := Kd.at_string HR0.out x5_1 p706 q706; cases e706; replace p706 := eq_true p706; replace q706 := eq_true q706; have p707 : 0 ≤ (x5_1 : Int) := yO; have q707 : x5_1 < (l1.length : Int) := yO; obtain ⟨ad707, e707, hx707_0⟩ := Kd.at_string HR1.out x5_1 p707 q707; cases e707; replace p707 := eq_true p707; replace q707 := eq_true q707
       go_wp2
       repeat (go_quiet (fail); try go_wp2)
       go_ret
       exact ⟨yE, yD⟩
     ·rw [if_neg c5] at H
      exact absurd H (by simp)
    ·rw [if_neg c4] at H
     have c4b0 := decide_eq_false c4; clear c4; obtain rfl := Option.some.inj H
     go_wp2
     repeat (go_quiet (fail); try go_wp2)
     go_ret
     exact ⟨yE, yD⟩
   ·rw [if_neg c3] at H
    have c3b0 := decide_eq_false c3; clear c3; obtain rfl := Option.some.inj H
    go_wp2
    repeat (go_quiet (fail); try go_wp2)
    go_ret
    exact ⟨yE, yD⟩
set_option maxHeartbeats 8000000 in
set_option maxRecDepth 100000 in
theorem tidy_texts_ops_Old.calls (k : Nat) (A0 : Option Addr) (c0 : Nat) (l0 : List (Op))  (r : List ByteArray) (w : World) (hr0 : Kd.C kOp w A0 l0.length l0) (hc0 : l0.length ≤ c0) (h : tidy_texts_ops_Old.f k l0 = some r) :
  Calls Try.prog 75 #[.slice A0 l0.length c0, .func (.func 65) #[] #[]] w fun e w' => ∃ v0_ : Value, e = .returned (v0_) ∧ Kd.R Kd.string 9 w' w.heap.size (fun _ => True) v0_ r ∧ Below w.heap.size w w' := by
 have hu41 := Try.underlying41
 have HR0 := aM hr0
 have HC0 := aM hc0
 clear hr0 hc0
 have HB := aM (Below.refl w.heap.size w)
 have H : (tidy_texts_ops_Old.l0 k ([] : List ByteArray) l0 (l0.length : Int) 0) = some r := h
 clear h
 have H' := aM H
 clear H
 go_enter Try.func75, Try.ntmps75
 go_wp2
 go_loopg [5, 10] k (fun kq v5 v10 w' => ∃ (x5_1 : List ByteArray) (x10_1 : Int), v10 = .int .i64 x10_1 ∧ Aside0 (tidy_texts_ops_Old.l0 kq x5_1 l0 (l0.length : Int) x10_1 = some r) ∧ Aside0 (kq ≤ k) ∧ Aside0 (Kd.R Kd.string 9 w' w.heap.size (fun _ => True) v5 x5_1) ∧ Aside0 (Below w.heap.size w w'))
 case atStart => exact ⟨(([] : List ByteArray)), (0), yE, H', ⟨Nat.le_refl _⟩, ⟨by first | exact Kd.R_nil _ _ _ _ _ | exact Kd.N_nil _ _ _ _ _ | exact Kd.V_nil _ _ _ _ _ | exact Kd.Q_nil _ _ _ _ _ | exact Kd.S_nil _ _ _ _ _⟩, ⟨yB⟩⟩
 case round =>
  clear H'; (try clear p2); obtain ⟨x5_1, x10_1, rfl, HA, HK1, HO_5, HB⟩ := hrel; cases gk with
  | zero => exact absurd HA.out (by simp [tidy_texts_ops_Old.l0])
  | succ k1 =>
   have H := HA.out; clear HA; simp only [tidy_texts_ops_Old.l0] at H
   by_cases c3 : x10_1 < (l0.length : Int)
   ·rw [if_pos c3] at H
    have c3b0 := decide_eq_true c3; clear c3
    by_cases c4 : 0 ≤ x10_1
    ·rw [if_pos c4] at H
     have c4b0 := decide_eq_true c4; clear c4
     by_cases c5 : x10_1 < (l0.length : Int)
     ·rw [if_pos c5] at H
      have c5b0 := decide_eq_true c5; clear c5; replace H := oB H; obtain ⟨t710, A6, H⟩ := H
      by_cases c7 : t710 = true
      ·subst c7
       replace H := iT H
       by_cases c8 : x5_1.length < 8796093022208
       ·rw [if_pos c8] at H
        have LMc8 := aM c8; clear c8; obtain ⟨y711, hy711⟩ : ∃ y_ : List ByteArray, y_ = (x5_1 ++ [(rd_Op l0 x10_1).f2]) := ⟨_, rfl⟩; replace H : (tidy_texts_ops_Old.l0 k1 y711 l0 (l0.length : Int) (wrap64 (x10_1 + 1))) = some r := yN hy711 H
        have Ny711 := aM hy711; clear hy711; have H' := aM H; clear H; have p708 : 0 ≤ (x10_1 : Int) := yO; have q708 : x10_1 < (l0.length : Int) := yO; obtain ⟨ad708, e708, hx708_0, hx708_1, hx708_2⟩ := at_OpB HB.out HR0.out x10_1 p708 q708; cases e708; replace p708 := eq_true p708; replace q708 := eq_true q708
        go_wp2_with (first | ((with_reducible refine gate_dst (N := 7) rfl ?_); refine box_event yR (N := 7) yR (cs := #[.int .i64 0, .int .i64 0, .string (⟨#[]⟩ : ByteArray)]) (t := 41) yQ ?_; intro gb709 hg w9 hbox hb; replace HO_5 := aM (Kd.R_below (yH HO_5.out) hb); have BK709 := aM (hbox); have GW709 := aM ((yS : w.heap.size ≤ gb709)); have GE709 := aM ((yS : w.heap.size ≤ gb709)); replace HB := aM (below_step yB hb); clear hb hbox hg; obtain ⟨hcz10_0, hcz10_1, hcz10_2, hfz10_0, hfz10_1, hfz10_2⟩ := blk3 BK709.out) | ((with_reducible refine gate_value (c := 14) rfl ?_); refine goesV_ (c := 14) (some 17) rfl rfl Try.func65 yK rfl #[.int .i64 ((rd_Op l0 x10_1).f0)] rfl rfl yG ?_; (with_reducible refine (ops_Old.calls ((rd_Op l0 x10_1).f0) true _ A6.out).mono ?_); rintro e w' ⟨rfl, ⟨nd, rfl⟩⟩; refine ⟨_, rfl, ?_⟩) | ((with_reducible refine gate_builtin (b := .append) (xs := #[.tmp 18, .tmp 21]) rfl ?_); at_builtin; refine Kd.R_append Kd.string (w0 := w) w.heap.size rfl (.tmp 18) (.tmp 21) 32 9 (.string ⟨#[]⟩) 16 rfl Try.underlying32 info9 rfl (by decide) (by omega) u5 x5_1 ((rd_Op l0 x10_1).f2) [.string ((rd_Op l0 x10_1).f2)] (fun _ => True) (fun _ => False) rfl (by first | (go_simp; done) | (go_simp; rfl)) ?aP (fun _ hk => hk.elim) ?aF ?aO ?aB ?aS ?aL ?_; (case aP => exact rfl); (case aB => exact (yBg GE709.out)); (case aF => exact (fun _ _ => trivial)); (case aO => exact (by (with_reducible repeat (first | apply Kd.R_alloc | apply Kd.R_drewN | apply Kd.R_drew)); exact Kd.R_mono (Kd.R_far (p := ⟨gb709, 2, none⟩) (Kd.R_far (p := ⟨gb709, 1, none⟩) (Kd.R_far (p := ⟨gb709, 0, none⟩) (Kd.R_types HO_5.out BK709.out (by decide)) (fun _ hk => hk.2) (.int .i64 ((rd_Op l0 x10_1).f0))) (fun _ hk => hk.2) (.int .i64 ((rd_Op l0 x10_1).f1))) (fun _ hk => hk.2) (.string ((rd_Op l0 x10_1).f2))) (fun _ hk => trivial))); (case aS => exact (below_size (yBg GE709.out))); (case aL => have := LMc8.out; omega); intro v712 w11 ho hb hg hat; rw [← Ny711.out] at ho; have n0_ := aM (blk_grown (g := gb709) (o := .cells #[.int .i64 ((rd_Op l0 x10_1).f0), .int .i64 ((rd_Op l0 x10_1).f1), .string ((rd_Op l0 x10_1).f2)] 41 (0, 0)) (by (with_reducible repeat (first | refine kN ?_ _ | refine kD ?_ | refine kA ?_ _)); refine blk_put (cs := #[.int .i64 ((rd_Op l0 x10_1).f0), .int .i64 ((rd_Op l0 x10_1).f1), .string (⟨#[]⟩ : ByteArray)]) ?_ 2 _ rfl; (with_reducible repeat (first | refine kN ?_ _ | refine kD ?_ | refine kA ?_ _)); refine blk_put (cs := #[.int .i64 ((rd_Op l0 x10_1).f0), .int .i64 0, .string (⟨#[]⟩ : ByteArray)]) ?_ 1 _ rfl; (with_reducible repeat (first | refine kN ?_ _ | refine kD ?_ | refine kA ?_ _)); refine blk_put (cs := #[.int .i64 0, .int .i64 0, .string (⟨#[]⟩ : ByteArray)]) ?_ 0 _ rfl; (with_reducible repeat (first | refine kN ?_ _ | refine kD ?_ | refine kA ?_ _)); exact BK709.out) hg (Kd.R_ne HO_5.out BK709.out (by decide))); have n1_ := aM (hb); have n2_ := aM (ho); clear BK709; clear HB; clear HO_5; have BK709 := n0_; have HB := n1_; have HO713 := n2_; clear n0_ n1_ n2_; clear ho hb hg hat))
        go_roundg k1
        case measure => have := HK1.out; omega
        case rel => exact ⟨(y711), (wrap64 (x10_1 + 1)), yE, H', ⟨by have := HK1.out; omega⟩, ⟨yH HO713.out⟩, ⟨yBg GE709.out⟩⟩
       ·rw [if_neg c8] at H
        exact absurd H (by simp)
      ·replace c7 := Bool.eq_false_iff.mpr c7
       subst c7; have H' := aM (iF H); clear H; have p708 : 0 ≤ (x10_1 : Int) := yO; have q708 : x10_1 < (l0.length : Int) := yO; obtain ⟨ad708, e708, hx708_0, hx708_1, hx708_2⟩ := at_OpB HB.out HR0.out x10_1 p708 q708; cases e708; replace p708 := eq_true p708; replace q708 := eq_true q708
       go_wp2_with (first | ((with_reducible refine gate_dst (N := 7) rfl ?_); refine box_event yR (N := 7) yR (cs := #[.int .i64 0, .int .i64 0, .string (⟨#[]⟩ : ByteArray)]) (t := 41) yQ ?_; intro gb709 hg w12 hbox hb; replace HO_5 := aM (Kd.R_below (yH HO_5.out) hb); have BK709 := aM (hbox); have GW709 := aM ((yS : w.heap.size ≤ gb709)); have GE709 := aM ((yS : w.heap.size ≤ gb709)); replace HB := aM (below_step yB hb); clear hb hbox hg; obtain ⟨hcz13_0, hcz13_1, hcz13_2, hfz13_0, hfz13_1, hfz13_2⟩ := blk3 BK709.out) | ((with_reducible refine gate_value (c := 14) rfl ?_); refine goesV_ (c := 14) (some 17) rfl rfl Try.func65 yK rfl #[.int .i64 ((rd_Op l0 x10_1).f0)] rfl rfl yG ?_; (with_reducible refine (ops_Old.calls ((rd_Op l0 x10_1).f0) false _ A6.out).mono ?_); rintro e w' ⟨rfl, ⟨nd, rfl⟩⟩; refine ⟨_, rfl, ?_⟩))
       go_roundg k1
       case measure => have := HK1.out; omega
       case rel => exact ⟨(x5_1), (wrap64 (x10_1 + 1)), yE, H', ⟨by have := HK1.out; omega⟩, ⟨by (with_reducible repeat (first | apply Kd.R_alloc | apply Kd.R_drewN | apply Kd.R_drew)); exact Kd.R_mono (Kd.R_far (p := ⟨gb709, 2, none⟩) (Kd.R_far (p := ⟨gb709, 1, none⟩) (Kd.R_far (p := ⟨gb709, 0, none⟩) (Kd.R_types HO_5.out BK709.out (by decide)) (fun _ hk => hk.2) (.int .i64 ((rd_Op l0 x10_1).f0))) (fun _ hk => hk.2) (.int .i64 ((rd_Op l0 x10_1).f1))) (fun _ hk => hk.2) (.string ((rd_Op l0 x10_1).f2))) (fun _ hk => trivial)⟩, ⟨yBg GE709.out⟩⟩
     ·rw [if_neg c5] at H
      exact absurd H (by simp)
    ·rw [if_neg c4] at H
     exact absurd H (by simp)
   ·rw [if_neg c3] at H
    have c3b0 := decide_eq_false c3; clear c3; obtain rfl := Option.some.inj H
    go_wp2
    go_ret
    exact ⟨_, by first | rfl | (simp [errW_none, errW_some] <;> rfl) | (simp [*, errW_none, errW_some] <;> rfl), by (with_reducible repeat (first | apply Kd.R_alloc | apply Kd.R_drewN | apply Kd.R_drew)); exact HO_5.out, yB⟩
set_option maxHeartbeats 8000000 in
set_option maxRecDepth 100000 in
theorem tidy_texts_ops_New.calls (k : Nat) (A0 : Option Addr) (c0 : Nat) (l0 : List (Op))  (r : List ByteArray) (w : World) (hr0 : Kd.C kOp w A0 l0.length l0) (hc0 : l0.length ≤ c0) (h : tidy_texts_ops_New.f k l0 = some r) :
  Calls Try.prog 75 #[.slice A0 l0.length c0, .func (.func 66) #[] #[]] w fun e w' => ∃ v0_ : Value, e = .returned (v0_) ∧ Kd.R Kd.string 9 w' w.heap.size (fun _ => True) v0_ r ∧ Below w.heap.size w w' := by
 have hu41 := Try.underlying41
 have HR0 := aM hr0
 have HC0 := aM hc0
 clear hr0 hc0
 have HB := aM (Below.refl w.heap.size w)
 have H : (tidy_texts_ops_New.l0 k ([] : List ByteArray) l0 (l0.length : Int) 0) = some r := h
 clear h
 have H' := aM H
 clear H
 go_enter Try.func75, Try.ntmps75
 go_wp2
 go_loopg [5, 10] k (fun kq v5 v10 w' => ∃ (x5_1 : List ByteArray) (x10_1 : Int), v10 = .int .i64 x10_1 ∧ Aside0 (tidy_texts_ops_New.l0 kq x5_1 l0 (l0.length : Int) x10_1 = some r) ∧ Aside0 (kq ≤ k) ∧ Aside0 (Kd.R Kd.string 9 w' w.heap.size (fun _ => True) v5 x5_1) ∧ Aside0 (Below w.heap.size w w'))
 case atStart => exact ⟨(([] : List ByteArray)), (0), yE, H', ⟨Nat.le_refl _⟩, ⟨by first | exact Kd.R_nil _ _ _ _ _ | exact Kd.N_nil _ _ _ _ _ | exact Kd.V_nil _ _ _ _ _ | exact Kd.Q_nil _ _ _ _ _ | exact Kd.S_nil _ _ _ _ _⟩, ⟨yB⟩⟩
 case round =>
  clear H'; (try clear p2); obtain ⟨x5_1, x10_1, rfl, HA, HK1, HO_5, HB⟩ := hrel; cases gk with
  | zero => exact absurd HA.out (by simp [tidy_texts_ops_New.l0])
  | succ k1 =>
   have H := HA.out; clear HA; simp only [tidy_texts_ops_New.l0] at H
   by_cases c3 : x10_1 < (l0.length : Int)
   ·rw [if_pos c3] at H
    have c3b0 := decide_eq_true c3; clear c3
    by_cases c4 : 0 ≤ x10_1
    ·rw [if_pos c4] at H
     have c4b0 := decide_eq_true c4; clear c4
     by_cases c5 : x10_1 < (l0.length : Int)
     ·rw [if_pos c5] at H
      have c5b0 := decide_eq_true c5; clear c5; replace H := oB H; obtain ⟨t716, A6, H⟩ := H
      by_cases c7 : t716 = true
      ·subst c7
       replace H := iT H
       by_cases c8 : x5_1.length < 8796093022208
       ·rw [if_pos c8] at H
        have LMc8 := aM c8; clear c8; obtain ⟨y717, hy717⟩ : ∃ y_ : List ByteArray, y_ = (x5_1 ++ [(rd_Op l0 x10_1).f2]) := ⟨_, rfl⟩; replace H : (tidy_texts_ops_New.l0 k1 y717 l0 (l0.length : Int) (wrap64 (x10_1 + 1))) = some r := yN hy717 H
        have Ny717 := aM hy717; clear hy717; have H' := aM H; clear H; have p714 : 0 ≤ (x10_1 : Int) := yO; have q714 : x10_1 < (l0.length : Int) := yO; obtain ⟨ad714, e714, hx714_0, hx714_1, hx714_2⟩ := at_OpB HB.out HR0.out x10_1 p714 q714; cases e714; replace p714 := eq_true p714; replace q714 := eq_true q714
        go_wp2_with (first | ((with_reducible refine gate_dst (N := 7) rfl ?_); refine box_event yR (N := 7) yR (cs := #[.int .i64 0, .int .i64 0, .string (⟨#[]⟩ : ByteArray)]) (t := 41) yQ ?_; intro gb715 hg w9 hbox hb; replace HO_5 := aM (Kd.R_below (yH HO_5.out) hb); have BK715 := aM (hbox); have GW715 := aM ((yS : w.heap.size ≤ gb715)); have GE715 := aM ((yS : w.heap.size ≤ gb715)); replace HB := aM (below_step yB hb); clear hb hbox hg; obtain ⟨hcz10_0, hcz10_1, hcz10_2, hfz10_0, hfz10_1, hfz10_2⟩ := blk3 BK715.out) | ((with_reducible refine gate_value (c := 14) rfl ?_); refine goesV_ (c := 14) (some 17) rfl rfl Try.func66 yK rfl #[.int .i64 ((rd_Op l0 x10_1).f0)] rfl rfl yG ?_; (with_reducible refine (ops_New.calls ((rd_Op l0 x10_1).f0) true _ A6.out).mono ?_); rintro e w' ⟨rfl, ⟨nd, rfl⟩⟩; refine ⟨_, rfl, ?_⟩) | ((with_reducible refine gate_builtin (b := .append) (xs := #[.tmp 18, .tmp 21]) rfl ?_); at_builtin; refine Kd.R_append Kd.string (w0 := w) w.heap.size rfl (.tmp 18) (.tmp 21) 32 9 (.string ⟨#[]⟩) 16 rfl Try.underlying32 info9 rfl (by decide) (by omega) u5 x5_1 ((rd_Op l0 x10_1).f2) [.string ((rd_Op l0 x10_1).f2)] (fun _ => True) (fun _ => False) rfl (by first | (go_simp; done) | (go_simp; rfl)) ?aP (fun _ hk => hk.elim) ?aF ?aO ?aB ?aS ?aL ?_; (case aP => exact rfl); (case aB => exact (yBg GE715.out)); (case aF => exact (fun _ _ => trivial)); (case aO => exact (by (with_reducible repeat (first | apply Kd.R_alloc | apply Kd.R_drewN | apply Kd.R_drew)); exact Kd.R_mono (Kd.R_far (p := ⟨gb715, 2, none⟩) (Kd.R_far (p := ⟨gb715, 1, none⟩) (Kd.R_far (p := ⟨gb715, 0, none⟩) (Kd.R_types HO_5.out BK715.out (by decide)) (fun _ hk => hk.2) (.int .i64 ((rd_Op l0 x10_1).f0))) (fun _ hk => hk.2) (.int .i64 ((rd_Op l0 x10_1).f1))) (fun _ hk => hk.2) (.string ((rd_Op l0 x10_1).f2))) (fun _ hk => trivial))); (case aS => exact (below_size (yBg GE715.out))); (case aL => have := LMc8.out; omega); intro v718 w11 ho hb hg hat; rw [← Ny717.out] at ho; have n0_ := aM (blk_grown (g := gb715) (o := .cells #[.int .i64 ((rd_Op l0 x10_1).f0), .int .i64 ((rd_Op l0 x10_1).f1), .string ((rd_Op l0 x10_1).f2)] 41 (0, 0)) (by (with_reducible repeat (first | refine kN ?_ _ | refine kD ?_ | refine kA ?_ _)); refine blk_put (cs := #[.int .i64 ((rd_Op l0 x10_1).f0), .int .i64 ((rd_Op l0 x10_1).f1), .string (⟨#[]⟩ : ByteArray)]) ?_ 2 _ rfl; (with_reducible repeat (first | refine kN ?_ _ | refine kD ?_ | refine kA ?_ _)); refine blk_put (cs := #[.int .i64 ((rd_Op l0 x10_1).f0), .int .i64 0, .string (⟨#[]⟩ : ByteArray)]) ?_ 1 _ rfl; (with_reducible repeat (first | refine kN ?_ _ | refine kD ?_ | refine kA ?_ _)); refine blk_put (cs := #[.int .i64 0, .int .i64 0, .string (⟨#[]⟩ : ByteArray)]) ?_ 0 _ rfl; (with_reducible repeat (first | refine kN ?_ _ | refine kD ?_ | refine kA ?_ _)); exact BK715.out) hg (Kd.R_ne HO_5.out BK715.out (by decide))); have n1_ := aM (hb); have n2_ := aM (ho); clear BK715; clear HB; clear HO_5; have BK715 := n0_; have HB := n1_; have HO719 := n2_; clear n0_ n1_ n2_; clear ho hb hg hat))
        go_roundg k1
        case measure => have := HK1.out; omega
        case rel => exact ⟨(y717), (wrap64 (x10_1 + 1)), yE, H', ⟨by have := HK1.out; omega⟩, ⟨yH HO719.out⟩, ⟨yBg GE715.out⟩⟩
       ·rw [if_neg c8] at H
        exact absurd H (by simp)
      ·replace c7 := Bool.eq_false_iff.mpr c7
       subst c7; have H' := aM (iF H); clear H; have p714 : 0 ≤ (x10_1 : Int) := yO; have q714 : x10_1 < (l0.length : Int) := yO; obtain ⟨ad714, e714, hx714_0, hx714_1, hx714_2⟩ := at_OpB HB.out HR0.out x10_1 p714 q714; cases e714; replace p714 := eq_true p714; replace q714 := eq_true q714
       go_wp2_with (first | ((with_reducible refine gate_dst (N := 7) rfl ?_); refine box_event yR (N := 7) yR (cs := #[.int .i64 0, .int .i64 0, .string (⟨#[]⟩ : ByteArray)]) (t := 41) yQ ?_; intro gb715 hg w12 hbox hb; replace HO_5 := aM (Kd.R_below (yH HO_5.out) hb); have BK715 := aM (hbox); have GW715 := aM ((yS : w.heap.size ≤ gb715)); have GE715 := aM ((yS : w.heap.size ≤ gb715)); replace HB := aM (below_step yB hb); clear hb hbox hg; obtain ⟨hcz13_0, hcz13_1, hcz13_2, hfz13_0, hfz13_1, hfz13_2⟩ := blk3 BK715.out) | ((with_reducible refine gate_value (c := 14) rfl ?_); refine goesV_ (c := 14) (some 17) rfl rfl Try.func66 yK rfl #[.int .i64 ((rd_Op l0 x10_1).f0)] rfl rfl yG ?_; (with_reducible refine (ops_New.calls ((rd_Op l0 x10_1).f0) false _ A6.out).mono ?_); rintro e w' ⟨rfl, ⟨nd, rfl⟩⟩; refine ⟨_, rfl, ?_⟩))
       go_roundg k1
       case measure => have := HK1.out; omega
       case rel => exact ⟨(x5_1), (wrap64 (x10_1 + 1)), yE, H', ⟨by have := HK1.out; omega⟩, ⟨by (with_reducible repeat (first | apply Kd.R_alloc | apply Kd.R_drewN | apply Kd.R_drew)); exact Kd.R_mono (Kd.R_far (p := ⟨gb715, 2, none⟩) (Kd.R_far (p := ⟨gb715, 1, none⟩) (Kd.R_far (p := ⟨gb715, 0, none⟩) (Kd.R_types HO_5.out BK715.out (by decide)) (fun _ hk => hk.2) (.int .i64 ((rd_Op l0 x10_1).f0))) (fun _ hk => hk.2) (.int .i64 ((rd_Op l0 x10_1).f1))) (fun _ hk => hk.2) (.string ((rd_Op l0 x10_1).f2))) (fun _ hk => trivial)⟩, ⟨yBg GE715.out⟩⟩
     ·rw [if_neg c5] at H
      exact absurd H (by simp)
    ·rw [if_neg c4] at H
     exact absurd H (by simp)
   ·rw [if_neg c3] at H
    have c3b0 := decide_eq_false c3; clear c3; obtain rfl := Option.some.inj H
    go_wp2
    go_ret
    exact ⟨_, by first | rfl | (simp [errW_none, errW_some] <;> rfl) | (simp [*, errW_none, errW_some] <;> rfl), by (with_reducible repeat (first | apply Kd.R_alloc | apply Kd.R_drewN | apply Kd.R_drew)); exact HO_5.out, yB⟩
end Go.Proofs.Ytfoponahdidddaa.P
