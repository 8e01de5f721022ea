/- Own and printed texts that the theorem of SwapApart reaches, put together. -/
import Derived.Test.YtfoponahdidddaaqSwapApart4
import Derived.Test.YtfoponahdidddaaqSwapApart3
set_option linter.unusedVariables false
set_option linter.unusedSimpArgs false
namespace Go.Proofs.Ytfoponahdidddaa.P
open Go.RowKit Go.Proofs.YtfoponahdidddaaW.PrintWords Go.Proofs.YtfoponahdidddaaW.PrintLast Go.Proofs.YtfoponahdidddaaW.PrintMore
open Go.Proofs.YtfoponahdidddaaW.PrintWords renaming blk_alloc → kA, blk_drewN → kN, blk_drew → kD
open Go.Proofs.YtfoponahdidddaaW.PrintWords.Aside0 renaming mk → aM
open Go.World renaming block_lt_of_cell? → bL
attribute [local go_sem] max2_int min2_int max_two min_two max_three min_three max_four min_four
set_option maxHeartbeats 8000000 in
set_option maxRecDepth 100000 in
theorem swap_side.calls (k : Nat) (A0 : Option Addr) (c0 : Nat) (l0 : List (Step)) (a1 : Int) (a2 : Int) (r : List (Op)) (w : World) (hr0 : Kd.C kStep w A0 l0.length l0) (hc0 : l0.length ≤ c0) (h : swap_side.f k l0 a1 a2 = some r) :
  Calls Try.prog 37 #[.slice A0 l0.length c0, .int .i64 a1, .int .i64 a2] w fun e w' => ∃ v0_ : Value, e = .returned (v0_) ∧ Kd.R kOp 41 w' w.heap.size (fun _ => True) v0_ r ∧ Below w.heap.size w w' := by
 have hu77 := Try.underlying77
 have hu41 := Try.underlying41
 have HR0 := aM hr0
 have HC0 := aM hc0
 clear hr0 hc0
 have HB := aM (Below.refl w.heap.size w)
 have H : (swap_side.l0 k a1 a2 ([] : List (Op)) l0 (l0.length : Int) 0) = some r := h
 clear h
 have H' := aM H
 clear H
 go_enter Try.func37, Try.ntmps37
 go_wp2
 go_loopg [7, 13] k (fun kq v7 v13 w' => ∃ (x7_1 : List (Op)) (x13_1 : Int), v13 = .int .i64 x13_1 ∧ Aside0 (swap_side.l0 kq a1 a2 x7_1 l0 (l0.length : Int) x13_1 = some r) ∧ Aside0 (kq ≤ k) ∧ Aside0 (Kd.R kOp 41 w' w.heap.size (fun _ => True) v7 x7_1) ∧ Aside0 (Below w.heap.size w w'))
 case atStart => exact ⟨(([] : List (Op))), (0), yE, H', ⟨Nat.le_refl _⟩, ⟨by first | exact Kd.R_nil _ _ _ _ _ | exact Kd.N_nil _ _ _ _ _ | exact Kd.V_nil _ _ _ _ _ | exact Kd.Q_nil _ _ _ _ _ | exact Kd.S_nil _ _ _ _ _⟩, ⟨yB⟩⟩
 case round =>
  clear H'; (try clear p2); (try clear c3); obtain ⟨x7_1, x13_1, rfl, HA, HK1, HO_7, HB⟩ := hrel; cases gk with
  | zero => exact absurd HA.out (by simp [swap_side.l0])
  | succ k1 =>
   have H := HA.out; clear HA; simp only [swap_side.l0] at H
   by_cases c4 : x13_1 < (l0.length : Int)
   ·rw [if_pos c4] at H
    have c4b0 := decide_eq_true c4; clear c4
    by_cases c5 : 0 ≤ x13_1
    ·rw [if_pos c5] at H
     have c5b0 := decide_eq_true c5; clear c5
     by_cases c6 : x13_1 < (l0.length : Int)
     ·rw [if_pos c6] at H
      have c6b0 := decide_eq_true c6; clear c6; have HC7 := aM H; clear H; have p141 : 0 ≤ (x13_1 : Int) := yO; have q141 : x13_1 < (l0.length : Int) := yO; obtain ⟨ad141, e141, hx141_0, hx141_1, hx141_2, hx141_3, hx141_4⟩ := at_StepB HB.out HR0.out x13_1 p141 q141; cases e141; replace p141 := eq_true p141; replace q141 := eq_true q141
      go_upto_region 6 with (first | ((with_reducible refine gate_dst (N := 9) rfl ?_); refine box_event yR (N := 9) yR (cs := #[.int .i64 0, .int .i64 0, .string (⟨#[]⟩ : ByteArray), .int .i64 0, .bool false]) (t := 77) yQ ?_; intro gb142 hg w8 hbox hb; replace HO_7 := aM (Kd.R_below (yH HO_7.out) hb); have BK142 := aM (hbox); have GW142 := aM ((yS : w.heap.size ≤ gb142)); have GE142 := aM ((yS : w.heap.size ≤ gb142)); replace HB := aM (below_step yB hb); clear hb hbox hg; obtain ⟨hcz9_0, hcz9_1, hcz9_2, hcz9_3, hcz9_4, hfz9_0, hfz9_1, hfz9_2, hfz9_3, hfz9_4⟩ := blk5 BK142.out) | ((with_reducible refine gate_dst (N := 10) rfl ?_); refine box_event yR (N := 10) yR (cs := #[.int .i64 0, .int .i64 0, .string (⟨#[]⟩ : ByteArray)]) (t := 41) yQ ?_; intro gb143 hg w10 hbox hb; replace HO_7 := aM (Kd.R_below (Kd.R_elderB (by (with_reducible repeat (first | apply Kd.R_alloc | apply Kd.R_drewN | apply Kd.R_drew)); exact (Kd.R_mono (Kd.R_far (p := ⟨gb142, 4, none⟩) (Kd.R_far (p := ⟨gb142, 3, none⟩) (Kd.R_far (p := ⟨gb142, 2, none⟩) (Kd.R_far (p := ⟨gb142, 1, none⟩) (Kd.R_far (p := ⟨gb142, 0, none⟩) (Kd.R_types HO_7.out BK142.out (by decide)) (fun _ hk => hk.2) (.int .i64 ((rd_Step l0 x13_1).f0.f0))) (fun _ hk => hk.2) (.int .i64 ((rd_Step l0 x13_1).f0.f1))) (fun _ hk => hk.2) (.string ((rd_Step l0 x13_1).f0.f2))) (fun _ hk => hk.2) (.int .i64 ((rd_Step l0 x13_1).f1))) (fun _ hk => hk.2) (.bool ((rd_Step l0 x13_1).f2))) (fun _ h_ => h_.1))) gb143 (Nat.le_of_eq hg.symm)) hb); have BK143 := aM (hbox); have GW143 := aM ((by rw [hg]; exact (below_size (yBg GE142.out)) : w.heap.size ≤ gb143)); have GE143 := aM ((by rw [hg]; exact (below_size (yBg GE142.out)) : w.heap.size ≤ gb143)); replace HB := aM (below_step (yBg GE142.out) hb); have NB142_143 := aM ((by rw [hg]; exact Nat.ne_of_lt (blk_lt (g := gb142) (o := .cells #[.int .i64 ((rd_Step l0 x13_1).f0.f0), .int .i64 ((rd_Step l0 x13_1).f0.f1), .string ((rd_Step l0 x13_1).f0.f2), .int .i64 ((rd_Step l0 x13_1).f1), .bool ((rd_Step l0 x13_1).f2)] 77 (0, 0)) (by (with_reducible repeat (first | refine kN ?_ _ | refine kD ?_ | refine kA ?_ _)); refine blk_put (cs := #[.int .i64 ((rd_Step l0 x13_1).f0.f0), .int .i64 ((rd_Step l0 x13_1).f0.f1), .string ((rd_Step l0 x13_1).f0.f2), .int .i64 ((rd_Step l0 x13_1).f1), .bool false]) ?_ 4 _ rfl; (with_reducible repeat (first | refine kN ?_ _ | refine kD ?_ | refine kA ?_ _)); refine blk_put (cs := #[.int .i64 ((rd_Step l0 x13_1).f0.f0), .int .i64 ((rd_Step l0 x13_1).f0.f1), .string ((rd_Step l0 x13_1).f0.f2), .int .i64 0, .bool false]) ?_ 3 _ rfl; (with_reducible repeat (first | refine kN ?_ _ | refine kD ?_ | refine kA ?_ _)); refine blk_put (cs := #[.int .i64 ((rd_Step l0 x13_1).f0.f0), .int .i64 ((rd_Step l0 x13_1).f0.f1), .string (⟨#[]⟩ : ByteArray), .int .i64 0, .bool false]) ?_ 2 _ rfl; (with_reducible repeat (first | refine kN ?_ _ | refine kD ?_ | refine kA ?_ _)); refine blk_put (cs := #[.int .i64 ((rd_Step l0 x13_1).f0.f0), .int .i64 0, .string (⟨#[]⟩ : ByteArray), .int .i64 0, .bool false]) ?_ 1 _ rfl; (with_reducible repeat (first | refine kN ?_ _ | refine kD ?_ | refine kA ?_ _)); refine blk_put (cs := #[.int .i64 0, .int .i64 0, .string (⟨#[]⟩ : ByteArray), .int .i64 0, .bool false]) ?_ 0 _ rfl; (with_reducible repeat (first | refine kN ?_ _ | refine kD ?_ | refine kA ?_ _)); exact BK142.out)) : gb142 ≠ gb143)); have NB143_142 := aM ((by rw [hg]; exact Nat.ne_of_gt (blk_lt (g := gb142) (o := .cells #[.int .i64 ((rd_Step l0 x13_1).f0.f0), .int .i64 ((rd_Step l0 x13_1).f0.f1), .string ((rd_Step l0 x13_1).f0.f2), .int .i64 ((rd_Step l0 x13_1).f1), .bool ((rd_Step l0 x13_1).f2)] 77 (0, 0)) (by (with_reducible repeat (first | refine kN ?_ _ | refine kD ?_ | refine kA ?_ _)); refine blk_put (cs := #[.int .i64 ((rd_Step l0 x13_1).f0.f0), .int .i64 ((rd_Step l0 x13_1).f0.f1), .string ((rd_Step l0 x13_1).f0.f2), .int .i64 ((rd_Step l0 x13_1).f1), .bool false]) ?_ 4 _ rfl; (with_reducible repeat (first | refine kN ?_ _ | refine kD ?_ | refine kA ?_ _)); refine blk_put (cs := #[.int .i64 ((rd_Step l0 x13_1).f0.f0), .int .i64 ((rd_Step l0 x13_1).f0.f1), .string ((rd_Step l0 x13_1).f0.f2), .int .i64 0, .bool false]) ?_ 3 _ rfl; (with_reducible repeat (first | refine kN ?_ _ | refine kD ?_ | refine kA ?_ _)); refine blk_put (cs := #[.int .i64 ((rd_Step l0 x13_1).f0.f0), .int .i64 ((rd_Step l0 x13_1).f0.f1), .string (⟨#[]⟩ : ByteArray), .int .i64 0, .bool false]) ?_ 2 _ rfl; (with_reducible repeat (first | refine kN ?_ _ | refine kD ?_ | refine kA ?_ _)); refine blk_put (cs := #[.int .i64 ((rd_Step l0 x13_1).f0.f0), .int .i64 0, .string (⟨#[]⟩ : ByteArray), .int .i64 0, .bool false]) ?_ 1 _ rfl; (with_reducible repeat (first | refine kN ?_ _ | refine kD ?_ | refine kA ?_ _)); refine blk_put (cs := #[.int .i64 0, .int .i64 0, .string (⟨#[]⟩ : ByteArray), .int .i64 0, .bool false]) ?_ 0 _ rfl; (with_reducible repeat (first | refine kN ?_ _ | refine kD ?_ | refine kA ?_ _)); exact BK142.out)) : gb143 ≠ gb142)); replace BK142 := aM (blk_below (g := gb142) (o := .cells #[.int .i64 ((rd_Step l0 x13_1).f0.f0), .int .i64 ((rd_Step l0 x13_1).f0.f1), .string ((rd_Step l0 x13_1).f0.f2), .int .i64 ((rd_Step l0 x13_1).f1), .bool ((rd_Step l0 x13_1).f2)] 77 (0, 0)) (by (with_reducible repeat (first | refine kN ?_ _ | refine kD ?_ | refine kA ?_ _)); refine blk_put (cs := #[.int .i64 ((rd_Step l0 x13_1).f0.f0), .int .i64 ((rd_Step l0 x13_1).f0.f1), .string ((rd_Step l0 x13_1).f0.f2), .int .i64 ((rd_Step l0 x13_1).f1), .bool false]) ?_ 4 _ rfl; (with_reducible repeat (first | refine kN ?_ _ | refine kD ?_ | refine kA ?_ _)); refine blk_put (cs := #[.int .i64 ((rd_Step l0 x13_1).f0.f0), .int .i64 ((rd_Step l0 x13_1).f0.f1), .string ((rd_Step l0 x13_1).f0.f2), .int .i64 0, .bool false]) ?_ 3 _ rfl; (with_reducible repeat (first | refine kN ?_ _ | refine kD ?_ | refine kA ?_ _)); refine blk_put (cs := #[.int .i64 ((rd_Step l0 x13_1).f0.f0), .int .i64 ((rd_Step l0 x13_1).f0.f1), .string (⟨#[]⟩ : ByteArray), .int .i64 0, .bool false]) ?_ 2 _ rfl; (with_reducible repeat (first | refine kN ?_ _ | refine kD ?_ | refine kA ?_ _)); refine blk_put (cs := #[.int .i64 ((rd_Step l0 x13_1).f0.f0), .int .i64 0, .string (⟨#[]⟩ : ByteArray), .int .i64 0, .bool false]) ?_ 1 _ rfl; (with_reducible repeat (first | refine kN ?_ _ | refine kD ?_ | refine kA ?_ _)); refine blk_put (cs := #[.int .i64 0, .int .i64 0, .string (⟨#[]⟩ : ByteArray), .int .i64 0, .bool false]) ?_ 0 _ rfl; (with_reducible repeat (first | refine kN ?_ _ | refine kD ?_ | refine kA ?_ _)); exact BK142.out) hb); clear hb hbox hg; have hnb11 := NB143_142.out; have hnc11 := NB142_143.out; obtain ⟨hcz12_0, hcz12_1, hcz12_2, hfz12_0, hfz12_1, hfz12_2⟩ := blk3 BK143.out))
      (try simp only [Act.put, List.setIfInBounds_toArray, List.set_cons_zero, List.set_cons_succ])
      go_cut [27] (fun v27 wc => ∃ (kq : Nat) (x27_6 : Bool), v27 = .bool x27_6 ∧ Aside0 (swap_side.j1 kq a1 a2 x7_1 l0 (l0.length : Int) x13_1 x27_6 ((rd_Step l0 x13_1).f0.f0) ((rd_Step l0 x13_1).f0.f1) ((rd_Step l0 x13_1).f0.f2) = some r) ∧ Aside0 (kq ≤ k1) ∧ Aside0 (Kd.R kOp 41 wc w.heap.size (fun k_ => k_ ≠ gb143) u7 x7_1) ∧ Aside0 (wc.heap[gb142]? = some (.cells #[.int .i64 ((rd_Step l0 x13_1).f0.f0), .int .i64 ((rd_Step l0 x13_1).f0.f1), .string ((rd_Step l0 x13_1).f0.f2), .int .i64 ((rd_Step l0 x13_1).f1), .bool ((rd_Step l0 x13_1).f2)] 77 (0, 0))) ∧ Aside0 (wc.heap[gb143]? = some (.cells #[.int .i64 ((rd_Step l0 x13_1).f0.f0), .int .i64 ((rd_Step l0 x13_1).f0.f1), .string ((rd_Step l0 x13_1).f0.f2)] 41 (0, 0))) ∧ Aside0 (Below w.heap.size w wc))
      case first =>
       have H := HC7.out; clear HC7
       by_cases c13 : ((rd_Step l0 x13_1).f1) = 0
       ·rw [if_pos c13] at H
        have c13b0 := beq_iff_eq.mpr c13; have c13b1 := bne_eq_false_iff_eq.mpr c13; clear c13
        (first | rw [c13b0] | (simp only [i64_w, i32_w]; rw [c13b0]) | skip)
        have H' := aM H; clear H; have hnb14 := NB142_143.out; have hnc14 := NB143_142.out; obtain ⟨hcz15_0, hcz15_1, hcz15_2, hcz15_3, hcz15_4, hfz15_0, hfz15_1, hfz15_2, hfz15_3, hfz15_4⟩ := blk5 BK142.out
        go_wp2
        go_meet
        case rel => exact ⟨_, (false), yE, H', ⟨by have := HK1.out; first | omega | exact Nat.le_refl _⟩, ⟨by (with_reducible repeat (first | apply Kd.R_alloc | apply Kd.R_drewN | apply Kd.R_drew)); exact Kd.R_mono (Kd.R_far (p := ⟨gb143, 2, none⟩) (Kd.R_far (p := ⟨gb143, 1, none⟩) (Kd.R_far (p := ⟨gb143, 0, none⟩) (Kd.R_mono HO_7.out (fun k_ hk => (⟨hk, hk.2⟩ : _ ∧ k_ ≠ gb143))) (fun _ hk => hk.2) (.int .i64 ((rd_Step l0 x13_1).f0.f0))) (fun _ hk => hk.2) (.int .i64 ((rd_Step l0 x13_1).f0.f1))) (fun _ hk => hk.2) (.string ((rd_Step l0 x13_1).f0.f2))) (fun _ hk => hk.1.2)⟩, ⟨by (with_reducible repeat (first | refine kN ?_ _ | refine kD ?_ | refine kA ?_ _)); refine blk_far ?_ NB142_143.out _; (with_reducible repeat (first | refine kN ?_ _ | refine kD ?_ | refine kA ?_ _)); refine blk_far ?_ NB142_143.out _; (with_reducible repeat (first | refine kN ?_ _ | refine kD ?_ | refine kA ?_ _)); refine blk_far ?_ NB142_143.out _; (with_reducible repeat (first | refine kN ?_ _ | refine kD ?_ | refine kA ?_ _)); exact BK142.out⟩, ⟨by (with_reducible repeat (first | refine kN ?_ _ | refine kD ?_ | refine kA ?_ _)); refine blk_put (cs := #[.int .i64 ((rd_Step l0 x13_1).f0.f0), .int .i64 ((rd_Step l0 x13_1).f0.f1), .string (⟨#[]⟩ : ByteArray)]) ?_ 2 _ rfl; (with_reducible repeat (first | refine kN ?_ _ | refine kD ?_ | refine kA ?_ _)); refine blk_put (cs := #[.int .i64 ((rd_Step l0 x13_1).f0.f0), .int .i64 0, .string (⟨#[]⟩ : ByteArray)]) ?_ 1 _ rfl; (with_reducible repeat (first | refine kN ?_ _ | refine kD ?_ | refine kA ?_ _)); refine blk_put (cs := #[.int .i64 0, .int .i64 0, .string (⟨#[]⟩ : ByteArray)]) ?_ 0 _ rfl; (with_reducible repeat (first | refine kN ?_ _ | refine kD ?_ | refine kA ?_ _)); exact BK143.out⟩, ⟨yBh GE142.out GE143.out⟩⟩
       ·rw [if_neg c13] at H
        have c13b0 := beq_eq_false_iff_ne.mpr c13; have c13b1 := bne_iff_ne.mpr c13
        (first | rw [c13b0] | (simp only [i64_w, i32_w]; rw [c13b0]) | skip)
        have H' := aM H; clear H; have hnb16 := NB142_143.out; have hnc16 := NB143_142.out; obtain ⟨hcz17_0, hcz17_1, hcz17_2, hcz17_3, hcz17_4, hfz17_0, hfz17_1, hfz17_2, hfz17_3, hfz17_4⟩ := blk5 BK142.out
        go_wp2
        go_meet
        case rel => exact ⟨_, ((((rd_Step l0 x13_1).f1) != a1)), yE, H', ⟨by have := HK1.out; first | omega | exact Nat.le_refl _⟩, ⟨by (with_reducible repeat (first | apply Kd.R_alloc | apply Kd.R_drewN | apply Kd.R_drew)); exact Kd.R_mono (Kd.R_far (p := ⟨gb143, 2, none⟩) (Kd.R_far (p := ⟨gb143, 1, none⟩) (Kd.R_far (p := ⟨gb143, 0, none⟩) (Kd.R_mono HO_7.out (fun k_ hk => (⟨hk, hk.2⟩ : _ ∧ k_ ≠ gb143))) (fun _ hk => hk.2) (.int .i64 ((rd_Step l0 x13_1).f0.f0))) (fun _ hk => hk.2) (.int .i64 ((rd_Step l0 x13_1).f0.f1))) (fun _ hk => hk.2) (.string ((rd_Step l0 x13_1).f0.f2))) (fun _ hk => hk.1.2)⟩, ⟨by (with_reducible repeat (first | refine kN ?_ _ | refine kD ?_ | refine kA ?_ _)); refine blk_far ?_ NB142_143.out _; (with_reducible repeat (first | refine kN ?_ _ | refine kD ?_ | refine kA ?_ _)); refine blk_far ?_ NB142_143.out _; (with_reducible repeat (first | refine kN ?_ _ | refine kD ?_ | refine kA ?_ _)); refine blk_far ?_ NB142_143.out _; (with_reducible repeat (first | refine kN ?_ _ | refine kD ?_ | refine kA ?_ _)); exact BK142.out⟩, ⟨by (with_reducible repeat (first | refine kN ?_ _ | refine kD ?_ | refine kA ?_ _)); refine blk_put (cs := #[.int .i64 ((rd_Step l0 x13_1).f0.f0), .int .i64 ((rd_Step l0 x13_1).f0.f1), .string (⟨#[]⟩ : ByteArray)]) ?_ 2 _ rfl; (with_reducible repeat (first | refine kN ?_ _ | refine kD ?_ | refine kA ?_ _)); refine blk_put (cs := #[.int .i64 ((rd_Step l0 x13_1).f0.f0), .int .i64 0, .string (⟨#[]⟩ : ByteArray)]) ?_ 1 _ rfl; (with_reducible repeat (first | refine kN ?_ _ | refine kD ?_ | refine kA ?_ _)); refine blk_put (cs := #[.int .i64 0, .int .i64 0, .string (⟨#[]⟩ : ByteArray)]) ?_ 0 _ rfl; (with_reducible repeat (first | refine kN ?_ _ | refine kD ?_ | refine kA ?_ _)); exact BK143.out⟩, ⟨yBh GE142.out GE143.out⟩⟩
      case rest =>
       clear HC7; (try clear c1); (try clear p1); (try clear q1); (try clear hx1); (try clear p2); (try clear c3); (try clear c4); (try clear c4b0); (try clear c5); (try clear c5b0); (try clear c6); (try clear c6b0); (try clear c11); (try clear c13); (try clear c13b0); (try clear c13b1); (try clear c14); (try clear p14); (try clear q14); (try clear hx14); (try clear c16); (try clear hcz12_0); (try clear hcz12_1); (try clear hcz12_2); (try clear hcz15_0); (try clear hcz15_1); (try clear hcz15_2); (try clear hcz15_3); (try clear hcz15_4); (try clear hcz17_0); (try clear hcz17_1); (try clear hcz17_2); (try clear hcz17_3); (try clear hcz17_4); (try clear hcz9_0); (try clear hcz9_1); (try clear hcz9_2); (try clear hcz9_3); (try clear hcz9_4); (try clear hfz12_0); (try clear hfz12_1); (try clear hfz12_2); (try clear hfz15_0); (try clear hfz15_1); (try clear hfz15_2); (try clear hfz15_3); (try clear hfz15_4); (try clear hfz17_0); (try clear hfz17_1); (try clear hfz17_2); (try clear hfz17_3); (try clear hfz17_4); (try clear hfz9_0); (try clear hfz9_1); (try clear hfz9_2); (try clear hfz9_3); (try clear hfz9_4); (try clear hx141_0); (try clear hx141_1); (try clear hx141_2); (try clear hx141_3); (try clear hx141_4); (try clear p141); (try clear p2); (try clear q141); obtain ⟨kq, x27_6, rfl, HA, HJ6, HO_7, BK142, BK143, HB⟩ := hcut; cases kq with
       | zero => exact absurd HA.out (by simp [swap_side.j1])
       | succ kj6 =>
        have H := HA.out; clear HA; simp only [swap_side.j1] at H
        by_cases c18 : x27_6 = true
        ·subst c18
         replace H := iT H
         by_cases c19 : ((rd_Step l0 x13_1).f0.f0) = a2
         ·rw [if_pos c19] at H
          have c19b0 := beq_iff_eq.mpr c19; have c19b1 := bne_eq_false_iff_eq.mpr c19; clear c19
          by_cases c20 : x7_1.length < 4398046511104
          ·rw [if_pos c20] at H
           have LMc20 := aM c20; clear c20; obtain ⟨y144, hy144⟩ : ∃ y_ : List (Op), y_ = (x7_1 ++ [(⟨2, ((rd_Step l0 x13_1).f0.f1), ((rd_Step l0 x13_1).f0.f2)⟩ : Op)]) := ⟨_, rfl⟩; replace H : (swap_side.l0 kj6 a1 a2 y144 l0 (l0.length : Int) (wrap64 (x13_1 + 1))) = some r := yN hy144 H
           have Ny144 := aM hy144; clear hy144; have H' := aM H; clear H; have hnb21 := NB143_142.out; have hnc21 := NB142_143.out; obtain ⟨hcz22_0, hcz22_1, hcz22_2, hfz22_0, hfz22_1, hfz22_2⟩ := blk3 BK143.out
           go_wp2_with (first | ((with_reducible refine gate_builtin (b := .append) (xs := #[.tmp 33, .tmp 35]) rfl ?_); at_builtin; refine Kd.R_append kOp (w0 := w) w.heap.size rfl (.tmp 33) (.tmp 35) 22 41 (.agg #[(.int .i64 0), (.int .i64 0), (.string ⟨#[]⟩)]) 32 rfl Try.underlying22 info41 rfl (by decide) (by omega) u7 x7_1 (⟨2, ((rd_Step l0 x13_1).f0.f1), ((rd_Step l0 x13_1).f0.f2)⟩ : Op) [.int .i64 2, .int .i64 ((rd_Step l0 x13_1).f0.f1), .string ((rd_Step l0 x13_1).f0.f2)] (fun k_ => k_ ≠ gb143) (fun _ => False) rfl (by first | (go_simp; done) | (go_simp; rfl)) ?aP (fun _ hk => hk.elim) ?aF ?aO ?aB ?aS ?aL ?_; (case aP => exact kOp_mkM _ _ _ (⟨2, ((rd_Step l0 x13_1).f0.f1), ((rd_Step l0 x13_1).f0.f2)⟩ : Op)); (case aB => exact (yBh GE142.out GE143.out)); (case aF => exact (fun k_ hk => Kd.freshB (g := gb143) (o := .cells #[.int .i64 2, .int .i64 ((rd_Step l0 x13_1).f0.f1), .string ((rd_Step l0 x13_1).f0.f2)] 41 (0, 0)) (by (with_reducible repeat (first | refine kN ?_ _ | refine kD ?_ | refine kA ?_ _)); refine blk_put (cs := #[.int .i64 ((rd_Step l0 x13_1).f0.f0), .int .i64 ((rd_Step l0 x13_1).f0.f1), .string ((rd_Step l0 x13_1).f0.f2)]) ?_ 0 _ rfl; (with_reducible repeat (first | refine kN ?_ _ | refine kD ?_ | refine kA ?_ _)); exact BK143.out) k_ hk)); (case aO => exact (by (with_reducible repeat (first | apply Kd.R_alloc | apply Kd.R_drewN | apply Kd.R_drew)); exact Kd.R_mono (Kd.R_far (p := ⟨gb143, 0, none⟩) (Kd.R_mono HO_7.out (fun k_ hk => (⟨hk, hk⟩ : _ ∧ k_ ≠ gb143))) (fun _ hk => hk.2) (.int .i64 2)) (fun _ hk => hk.1))); (case aS => exact (below_size (yBh GE142.out GE143.out))); (case aL => have := LMc20.out; omega); intro v145 w23 ho hb hg hat; rw [← Ny144.out] at ho; have n0_ := aM (blk_grown (g := gb142) (o := .cells #[.int .i64 ((rd_Step l0 x13_1).f0.f0), .int .i64 ((rd_Step l0 x13_1).f0.f1), .string ((rd_Step l0 x13_1).f0.f2), .int .i64 ((rd_Step l0 x13_1).f1), .bool ((rd_Step l0 x13_1).f2)] 77 (0, 0)) (by (with_reducible repeat (first | refine kN ?_ _ | refine kD ?_ | refine kA ?_ _)); refine blk_far ?_ NB142_143.out _; (with_reducible repeat (first | refine kN ?_ _ | refine kD ?_ | refine kA ?_ _)); exact BK142.out) hg (Kd.R_ne HO_7.out BK142.out (by decide))); have n1_ := aM (blk_grown (g := gb143) (o := .cells #[.int .i64 2, .int .i64 ((rd_Step l0 x13_1).f0.f1), .string ((rd_Step l0 x13_1).f0.f2)] 41 (0, 0)) (by (with_reducible repeat (first | refine kN ?_ _ | refine kD ?_ | refine kA ?_ _)); refine blk_put (cs := #[.int .i64 ((rd_Step l0 x13_1).f0.f0), .int .i64 ((rd_Step l0 x13_1).f0.f1), .string ((rd_Step l0 x13_1).f0.f2)]) ?_ 0 _ rfl; (with_reducible repeat (first | refine kN ?_ _ | refine kD ?_ | refine kA ?_ _)); exact BK143.out) hg (Kd.R_away HO_7.out (fun _ hk => hk))); have n2_ := aM (hb); have n3_ := aM (ho); clear BK142; clear BK143; clear HB; clear HO_7; have BK142 := n0_; have BK143 := n1_; have HB := n2_; have HO146 := n3_; clear n0_ n1_ n2_ n3_; clear ho hb hg hat))
           go_roundg kj6
           case measure => have := HK1.out; have := HJ6.out; omega
           case rel => exact ⟨(y144), (wrap64 (x13_1 + 1)), yE, H', ⟨by have := HK1.out; have := HJ6.out; omega⟩, ⟨by (with_reducible repeat (first | apply Kd.R_alloc | apply Kd.R_drewN | apply Kd.R_drew)); exact Kd.R_mono HO146.out (fun _ hk => trivial)⟩, ⟨yBh GE142.out GE143.out⟩⟩
          ·rw [if_neg c20] at H
           exact absurd H (by simp)
         ·rw [if_neg c19] at H
          have c19b0 := beq_eq_false_iff_ne.mpr c19; have c19b1 := bne_iff_ne.mpr c19; have H' := aM H; clear H; have hnb24 := NB143_142.out; have hnc24 := NB142_143.out; obtain ⟨hcz25_0, hcz25_1, hcz25_2, hfz25_0, hfz25_1, hfz25_2⟩ := blk3 BK143.out
          go_wp2
          go_roundg kj6
          case measure => have := HK1.out; have := HJ6.out; omega
          case rel => exact ⟨(x7_1), (wrap64 (x13_1 + 1)), yE, H', ⟨by have := HK1.out; have := HJ6.out; omega⟩, ⟨by (with_reducible repeat (first | apply Kd.R_alloc | apply Kd.R_drewN | apply Kd.R_drew)); exact Kd.R_mono HO_7.out (fun _ hk => trivial)⟩, ⟨yBh GE142.out GE143.out⟩⟩
        ·replace c18 := Bool.eq_false_iff.mpr c18
         subst c18; replace H := iF H
         by_cases c26 : x7_1.length < 4398046511104
         ·rw [if_pos c26] at H
          have LMc26 := aM c26; clear c26; obtain ⟨y147, hy147⟩ : ∃ y_ : List (Op), y_ = (x7_1 ++ [(⟨((rd_Step l0 x13_1).f0.f0), ((rd_Step l0 x13_1).f0.f1), ((rd_Step l0 x13_1).f0.f2)⟩ : Op)]) := ⟨_, rfl⟩; replace H : (swap_side.l0 kj6 a1 a2 y147 l0 (l0.length : Int) (wrap64 (x13_1 + 1))) = some r := yN hy147 H
          have Ny147 := aM hy147; clear hy147; have H' := aM H; clear H; have hnb27 := NB143_142.out; have hnc27 := NB142_143.out; obtain ⟨hcz28_0, hcz28_1, hcz28_2, hfz28_0, hfz28_1, hfz28_2⟩ := blk3 BK143.out
          go_wp2_with (first | ((with_reducible refine gate_builtin (b := .append) (xs := #[.tmp 33, .tmp 35]) rfl ?_); at_builtin; refine Kd.R_append kOp (w0 := w) w.heap.size rfl (.tmp 33) (.tmp 35) 22 41 (.agg #[(.int .i64 0), (.int .i64 0), (.string ⟨#[]⟩)]) 32 rfl Try.underlying22 info41 rfl (by decide) (by omega) u7 x7_1 (⟨((rd_Step l0 x13_1).f0.f0), ((rd_Step l0 x13_1).f0.f1), ((rd_Step l0 x13_1).f0.f2)⟩ : Op) [.int .i64 ((rd_Step l0 x13_1).f0.f0), .int .i64 ((rd_Step l0 x13_1).f0.f1), .string ((rd_Step l0 x13_1).f0.f2)] (fun k_ => k_ ≠ gb143) (fun _ => False) rfl rfl ?aP (fun _ hk => hk.elim) ?aF ?aO ?aB ?aS ?aL ?_; (case aP => exact kOp_mkM _ _ _ (⟨((rd_Step l0 x13_1).f0.f0), ((rd_Step l0 x13_1).f0.f1), ((rd_Step l0 x13_1).f0.f2)⟩ : Op)); (case aB => exact (yBh GE142.out GE143.out)); (case aF => exact (fun k_ hk => Kd.freshB (g := gb143) (o := .cells #[.int .i64 ((rd_Step l0 x13_1).f0.f0), .int .i64 ((rd_Step l0 x13_1).f0.f1), .string ((rd_Step l0 x13_1).f0.f2)] 41 (0, 0)) (by (with_reducible repeat (first | refine kN ?_ _ | refine kD ?_ | refine kA ?_ _)); exact BK143.out) k_ hk)); (case aO => exact (yH HO_7.out)); (case aS => exact (below_size (yBh GE142.out GE143.out))); (case aL => have := LMc26.out; omega); intro v148 w29 ho hb hg hat; rw [← Ny147.out] at ho; have n0_ := aM (blk_grown (g := gb142) (o := .cells #[.int .i64 ((rd_Step l0 x13_1).f0.f0), .int .i64 ((rd_Step l0 x13_1).f0.f1), .string ((rd_Step l0 x13_1).f0.f2), .int .i64 ((rd_Step l0 x13_1).f1), .bool ((rd_Step l0 x13_1).f2)] 77 (0, 0)) (by (with_reducible repeat (first | refine kN ?_ _ | refine kD ?_ | refine kA ?_ _)); exact BK142.out) hg (Kd.R_ne HO_7.out BK142.out (by decide))); have n1_ := aM (blk_grown (g := gb143) (o := .cells #[.int .i64 ((rd_Step l0 x13_1).f0.f0), .int .i64 ((rd_Step l0 x13_1).f0.f1), .string ((rd_Step l0 x13_1).f0.f2)] 41 (0, 0)) (by (with_reducible repeat (first | refine kN ?_ _ | refine kD ?_ | refine kA ?_ _)); exact BK143.out) hg (Kd.R_away HO_7.out (fun _ hk => hk))); have n2_ := aM (hb); have n3_ := aM (ho); clear BK142; clear BK143; clear HB; clear HO_7; have BK142 := n0_; have BK143 := n1_; have HB := n2_; have HO149 := n3_; clear n0_ n1_ n2_ n3_; clear ho hb hg hat))
          go_roundg kj6
          case measure => have := HK1.out; have := HJ6.out; omega
          case rel => exact ⟨(y147), (wrap64 (x13_1 + 1)), yE, H', ⟨by have := HK1.out; have := HJ6.out; omega⟩, ⟨by (with_reducible repeat (first | apply Kd.R_alloc | apply Kd.R_drewN | apply Kd.R_drew)); exact Kd.R_mono HO149.out (fun _ hk => trivial)⟩, ⟨yBh GE142.out GE143.out⟩⟩
         ·rw [if_neg c26] at H
          exact absurd H (by simp)
     ·rw [if_neg c6] at H
      exact absurd H (by simp)
    ·rw [if_neg c5] at H
     exact absurd H (by simp)
   ·rw [if_neg c4] at H
    have c4b0 := decide_eq_false c4; clear c4; obtain rfl := Option.some.inj H
    go_wp2
    go_ret
    exact ⟨_, by first | rfl | (simp [errW_none, errW_some] <;> rfl) | (simp [*, errW_none, errW_some] <;> rfl), by (with_reducible repeat (first | apply Kd.R_alloc | apply Kd.R_drewN | apply Kd.R_drew)); exact HO_7.out, yB⟩
set_option maxHeartbeats 8000000 in
set_option maxRecDepth 100000 in
theorem swap_touch.calls (k : Nat) (A0 : Option Addr) (c0 : Nat) (l0 : List (Step)) (r : Bool) (w : World) (hr0 : Kd.C kStep w A0 l0.length l0) (hc0 : l0.length ≤ c0) (h : swap_touch.f k l0 = some r) :
  Calls Try.prog 38 #[.slice A0 l0.length c0] w fun e w' => e = .returned (.bool r) ∧ Below w.heap.size w w' := by
 have hu77 := Try.underlying77
 have HR0 := aM hr0
 have HC0 := aM hc0
 clear hr0 hc0
 have HB := aM (Below.refl w.heap.size w)
 have H : (swap_touch.l0 k 0 l0 (l0.length : Int) 0) = some r := h
 clear h
 have H' := aM H
 clear H
 go_enter Try.func38, Try.ntmps38
 go_wp2
 go_loopg [3, 8] k (fun kq v3 v8 w' => ∃ (x3_1 : Int) (x8_1 : Int), v3 = .int .i64 x3_1 ∧ v8 = .int .i64 x8_1 ∧ Aside0 (swap_touch.l0 kq x3_1 l0 (l0.length : Int) x8_1 = some r) ∧ Aside0 (kq ≤ k) ∧ Aside0 (Below w.heap.size w w'))
 case atStart => exact ⟨(0), (0), yE, yE, H', ⟨Nat.le_refl _⟩, ⟨yB⟩⟩
 case round =>
  clear H'; obtain ⟨x3_1, x8_1, rfl, rfl, HA, HK1, HB⟩ := hrel; cases gk with
  | zero => exact absurd HA.out (by simp [swap_touch.l0])
  | succ k1 =>
   have H := HA.out; clear HA; simp only [swap_touch.l0] at H
   by_cases c2 : x8_1 < (l0.length : Int)
   ·rw [if_pos c2] at H
    have c2b0 := decide_eq_true c2; clear c2
    by_cases c3 : 0 ≤ x8_1
    ·rw [if_pos c3] at H
     have c3b0 := decide_eq_true c3; clear c3
     by_cases c4 : x8_1 < (l0.length : Int)
     ·rw [if_pos c4] at H
      have c4b0 := decide_eq_true c4; clear c4; obtain ⟨bq5, hbq5⟩ : ∃ b_ : Bool, b_ = ((rd_Step l0 x8_1).f2) := ⟨_, rfl⟩; replace H : (if bq5 = true then (some true) else (if ((rd_Step l0 x8_1).f1) = 0 then (swap_touch.l0 k1 ((rd_Step l0 x8_1).f1) l0 (l0.length : Int) (wrap64 (x8_1 + 1))) else (if x3_1 = 0 then (swap_touch.l0 k1 ((rd_Step l0 x8_1).f1) l0 (l0.length : Int) (wrap64 (x8_1 + 1))) else (if ((rd_Step l0 x8_1).f1) = x3_1 then (swap_touch.l0 k1 ((rd_Step l0 x8_1).f1) l0 (l0.length : Int) (wrap64 (x8_1 + 1))) else (some true))))) = some r := by rw [← hbq5] at H; exact H
      have Nbq5 := aM hbq5; clear hbq5
      by_cases c6 : bq5 = true
      ·subst c6
       replace H := iT H; obtain rfl := Option.some.inj H; have p150 : 0 ≤ (x8_1 : Int) := yO; have q150 : x8_1 < (l0.length : Int) := yO; obtain ⟨ad150, e150, hx150_0, hx150_1, hx150_2, hx150_3, hx150_4⟩ := at_Step HR0.out x8_1 p150 q150
       (try rw [← Nbq5.out] at hx150_4)
       cases e150; replace hx150_0 := (HB.out.cell (bL w _ hx150_0)).trans hx150_0; replace hx150_1 := (HB.out.cell (bL w _ hx150_1)).trans hx150_1; replace hx150_2 := (HB.out.cell (bL w _ hx150_2)).trans hx150_2; replace hx150_3 := (HB.out.cell (bL w _ hx150_3)).trans hx150_3; replace hx150_4 := (HB.out.cell (bL w _ hx150_4)).trans hx150_4; replace p150 := eq_true p150; replace q150 := eq_true q150
       go_wp2_with (first | ((with_reducible refine gate_dst (N := 5) rfl ?_); refine box_event yR (N := 5) yR (cs := #[.int .i64 0, .int .i64 0, .string (⟨#[]⟩ : ByteArray), .int .i64 0, .bool false]) (t := 77) yQ ?_; intro gb151 hg w7 hbox hb; have BK151 := aM (hbox); have GW151 := aM ((yS : w.heap.size ≤ gb151)); have GE151 := aM ((yS : w.heap.size ≤ gb151)); replace HB := aM (below_step yB hb); clear hb hbox hg; obtain ⟨hcz8_0, hcz8_1, hcz8_2, hcz8_3, hcz8_4, hfz8_0, hfz8_1, hfz8_2, hfz8_3, hfz8_4⟩ := blk5 BK151.out))
       go_ret
       exact ⟨yE2, yBg GE151.out⟩
      ·replace c6 := Bool.eq_false_iff.mpr c6
       subst c6; replace H := iF H
       by_cases c9 : ((rd_Step l0 x8_1).f1) = 0
       ·rw [if_pos c9] at H
        have c9b0 := beq_iff_eq.mpr c9; have c9b1 := bne_eq_false_iff_eq.mpr c9; clear c9; have H' := aM H; clear H; have p150 : 0 ≤ (x8_1 : Int) := yO; have q150 : x8_1 < (l0.length : Int) := yO; obtain ⟨ad150, e150, hx150_0, hx150_1, hx150_2, hx150_3, hx150_4⟩ := at_Step HR0.out x8_1 p150 q150
        (try rw [← Nbq5.out] at hx150_4)
        cases e150; replace hx150_0 := (HB.out.cell (bL w _ hx150_0)).trans hx150_0; replace hx150_1 := (HB.out.cell (bL w _ hx150_1)).trans hx150_1; replace hx150_2 := (HB.out.cell (bL w _ hx150_2)).trans hx150_2; replace hx150_3 := (HB.out.cell (bL w _ hx150_3)).trans hx150_3; replace hx150_4 := (HB.out.cell (bL w _ hx150_4)).trans hx150_4; replace p150 := eq_true p150; replace q150 := eq_true q150
        go_wp2_with (first | ((with_reducible refine gate_dst (N := 5) rfl ?_); refine box_event yR (N := 5) yR (cs := #[.int .i64 0, .int .i64 0, .string (⟨#[]⟩ : ByteArray), .int .i64 0, .bool false]) (t := 77) yQ ?_; intro gb151 hg w10 hbox hb; have BK151 := aM (hbox); have GW151 := aM ((yS : w.heap.size ≤ gb151)); have GE151 := aM ((yS : w.heap.size ≤ gb151)); replace HB := aM (below_step yB hb); clear hb hbox hg; obtain ⟨hcz11_0, hcz11_1, hcz11_2, hcz11_3, hcz11_4, hfz11_0, hfz11_1, hfz11_2, hfz11_3, hfz11_4⟩ := blk5 BK151.out))
        go_roundg k1
        case measure => have := HK1.out; omega
        case rel => exact ⟨((rd_Step l0 x8_1).f1), (wrap64 (x8_1 + 1)), yE, yE, H', ⟨by have := HK1.out; omega⟩, ⟨yBg GE151.out⟩⟩
       ·rw [if_neg c9] at H
        have c9b0 := beq_eq_false_iff_ne.mpr c9; have c9b1 := bne_iff_ne.mpr c9
        by_cases c12 : x3_1 = 0
        ·rw [if_pos c12] at H
         have c12b0 := beq_iff_eq.mpr c12; have c12b1 := bne_eq_false_iff_eq.mpr c12; clear c12; have H' := aM H; clear H; have p150 : 0 ≤ (x8_1 : Int) := yO; have q150 : x8_1 < (l0.length : Int) := yO; obtain ⟨ad150, e150, hx150_0, hx150_1, hx150_2, hx150_3, hx150_4⟩ := at_Step HR0.out x8_1 p150 q150
         (try rw [← Nbq5.out] at hx150_4)
         cases e150; replace hx150_0 := (HB.out.cell (bL w _ hx150_0)).trans hx150_0; replace hx150_1 := (HB.out.cell (bL w _ hx150_1)).trans hx150_1; replace hx150_2 := (HB.out.cell (bL w _ hx150_2)).trans hx150_2; replace hx150_3 := (HB.out.cell (bL w _ hx150_3)).trans hx150_3; replace hx150_4 := (HB.out.cell (bL w _ hx150_4)).trans hx150_4; replace p150 := eq_true p150; replace q150 := eq_true q150
         go_wp2_with (first | ((with_reducible refine gate_dst (N := 5) rfl ?_); refine box_event yR (N := 5) yR (cs := #[.int .i64 0, .int .i64 0, .string (⟨#[]⟩ : ByteArray), .int .i64 0, .bool false]) (t := 77) yQ ?_; intro gb151 hg w13 hbox hb; have BK151 := aM (hbox); have GW151 := aM ((yS : w.heap.size ≤ gb151)); have GE151 := aM ((yS : w.heap.size ≤ gb151)); replace HB := aM (below_step yB hb); clear hb hbox hg; obtain ⟨hcz14_0, hcz14_1, hcz14_2, hcz14_3, hcz14_4, hfz14_0, hfz14_1, hfz14_2, hfz14_3, hfz14_4⟩ := blk5 BK151.out))
         go_roundg k1
         case measure => have := HK1.out; omega
         case rel => exact ⟨((rd_Step l0 x8_1).f1), (wrap64 (x8_1 + 1)), yE, yE, H', ⟨by have := HK1.out; omega⟩, ⟨yBg GE151.out⟩⟩
        ·rw [if_neg c12] at H
         have c12b0 := beq_eq_false_iff_ne.mpr c12; have c12b1 := bne_iff_ne.mpr c12
         by_cases c15 : ((rd_Step l0 x8_1).f1) = x3_1
         ·rw [if_pos c15] at H
          have c15b0 := beq_iff_eq.mpr c15; have c15b1 := bne_eq_false_iff_eq.mpr c15; clear c15; have H' := aM H; clear H; have p150 : 0 ≤ (x8_1 : Int) := yO; have q150 : x8_1 < (l0.length : Int) := yO; obtain ⟨ad150, e150, hx150_0, hx150_1, hx150_2, hx150_3, hx150_4⟩ := at_Step HR0.out x8_1 p150 q150
          (try rw [← Nbq5.out] at hx150_4)
          cases e150; replace hx150_0 := (HB.out.cell (bL w _ hx150_0)).trans hx150_0; replace hx150_1 := (HB.out.cell (bL w _ hx150_1)).trans hx150_1; replace hx150_2 := (HB.out.cell (bL w _ hx150_2)).trans hx150_2; replace hx150_3 := (HB.out.cell (bL w _ hx150_3)).trans hx150_3; replace hx150_4 := (HB.out.cell (bL w _ hx150_4)).trans hx150_4; replace p150 := eq_true p150; replace q150 := eq_true q150
          go_wp2_with (first | ((with_reducible refine gate_dst (N := 5) rfl ?_); refine box_event yR (N := 5) yR (cs := #[.int .i64 0, .int .i64 0, .string (⟨#[]⟩ : ByteArray), .int .i64 0, .bool false]) (t := 77) yQ ?_; intro gb151 hg w16 hbox hb; have BK151 := aM (hbox); have GW151 := aM ((yS : w.heap.size ≤ gb151)); have GE151 := aM ((yS : w.heap.size ≤ gb151)); replace HB := aM (below_step yB hb); clear hb hbox hg; obtain ⟨hcz17_0, hcz17_1, hcz17_2, hcz17_3, hcz17_4, hfz17_0, hfz17_1, hfz17_2, hfz17_3, hfz17_4⟩ := blk5 BK151.out))
          go_roundg k1
          case measure => have := HK1.out; omega
          case rel => exact ⟨((rd_Step l0 x8_1).f1), (wrap64 (x8_1 + 1)), yE, yE, H', ⟨by have := HK1.out; omega⟩, ⟨yBg GE151.out⟩⟩
         ·rw [if_neg c15] at H
          have c15b0 := beq_eq_false_iff_ne.mpr c15; have c15b1 := bne_iff_ne.mpr c15; obtain rfl := Option.some.inj H; have p150 : 0 ≤ (x8_1 : Int) := yO; have q150 : x8_1 < (l0.length : Int) := yO; obtain ⟨ad150, e150, hx150_0, hx150_1, hx150_2, hx150_3, hx150_4⟩ := at_Step HR0.out x8_1 p150 q150
          (try rw [← Nbq5.out] at hx150_4)
          cases e150; replace hx150_0 := (HB.out.cell (bL w _ hx150_0)).trans hx150_0; replace hx150_1 := (HB.out.cell (bL w _ hx150_1)).trans hx150_1; replace hx150_2 := (HB.out.cell (bL w _ hx150_2)).trans hx150_2; replace hx150_3 := (HB.out.cell (bL w _ hx150_3)).trans hx150_3; replace hx150_4 := (HB.out.cell (bL w _ hx150_4)).trans hx150_4; replace p150 := eq_true p150; replace q150 := eq_true q150
          go_wp2_with (first | ((with_reducible refine gate_dst (N := 5) rfl ?_); refine box_event yR (N := 5) yR (cs := #[.int .i64 0, .int .i64 0, .string (⟨#[]⟩ : ByteArray), .int .i64 0, .bool false]) (t := 77) yQ ?_; intro gb151 hg w18 hbox hb; have BK151 := aM (hbox); have GW151 := aM ((yS : w.heap.size ≤ gb151)); have GE151 := aM ((yS : w.heap.size ≤ gb151)); replace HB := aM (below_step yB hb); clear hb hbox hg; obtain ⟨hcz19_0, hcz19_1, hcz19_2, hcz19_3, hcz19_4, hfz19_0, hfz19_1, hfz19_2, hfz19_3, hfz19_4⟩ := blk5 BK151.out))
          go_ret
          exact ⟨yE2, yBg GE151.out⟩
     ·rw [if_neg c4] at H
      exact absurd H (by simp)
    ·rw [if_neg c3] at H
     exact absurd H (by simp)
   ·rw [if_neg c2] at H
    have c2b0 := decide_eq_false c2; clear c2; obtain rfl := Option.some.inj H
    go_wp2
    go_ret
    exact ⟨yE2, yB⟩
set_option maxHeartbeats 8000000 in
set_option maxRecDepth 100000 in
theorem patchworklaw15_num.calls (a0 : Int) (r : Int) (w : World) (h : patchworklaw15_num.f a0 = some r) :
  Calls Try.prog 19 #[.int .i64 a0] w fun e w' => e = .returned (.int .i64 r) ∧ Drawn0 w w' := by
 have H : (some a0) = some r := h
 clear h
 obtain rfl := Option.some.inj H
 go_enter Try.func19, Try.ntmps19
 go_wp2
 go_ret
 exact ⟨yE, yD⟩
end Go.Proofs.Ytfoponahdidddaa.P
