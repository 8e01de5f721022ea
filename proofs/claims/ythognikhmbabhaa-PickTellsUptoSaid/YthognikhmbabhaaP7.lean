-- PRINTED by print.py (a twelfth state) out of the translation. Not trusted: Lean checks it.
import Derived.Test.YthognikhmbabhaaD
import Derived.Test.YthognikhmbabhaaP0
import Derived.Test.YthognikhmbabhaaP2
import Derived.Test.YthognikhmbabhaaP3
namespace Go.Proofs.Ythognikhmbabhaa.P
open Go.RowKit Go.Proofs.YthognikhmbabhaaW.PrintWords Go.Proofs.YthognikhmbabhaaW.PrintLast Go.Proofs.YthognikhmbabhaaW.PrintMore
attribute [local go_sem] max2_int min2_int max_two min_two max_three min_three max_four min_four   -- for this text's walks alone
set_option linter.unusedVariables false
set_option linter.unusedSimpArgs false

attribute [local go_sem high] eqARange
/-! ### pick_other: function 43 -/

set_option maxHeartbeats 8000000 in
set_option maxRecDepth 100000 in
theorem pick_other.calls (a0_0 : Int) (a0_1 : Int) (a0_2 : ByteArray) (a1 : Int) (r1 : Int) (r2 : Int) (r3 : ByteArray) (r4 : Bool) (w : World) (h : pick_other.f a0_0 a0_1 a0_2 a1 = some (r1, r2, r3, r4)) :
    Calls Try.prog 43 #[.agg #[.int .i64 a0_0, .int .i64 a0_1, .string a0_2], .int .i64 a1] w fun e w' => e = .returned (.tuple #[.agg #[.int .i64 r1, .int .i64 r2, .string r3], .bool r4]) ∧ Below w.heap.size w w' := by
  have hu36 := Try.underlying36
  have HB := Aside0.mk (Below.refl w.heap.size w)
  have H : (some (2, a0_1, a0_2, (a0_0 == a1))) = some (r1, r2, r3, r4) := h
  clear h
  simp only [Option.some.injEq, Prod.mk.injEq] at H
  obtain ⟨rfl, rfl, rfl, rfl⟩ := H
  go_enter Try.func43, Try.ntmps43
  go_wp2_with (first | ((with_reducible refine gate_dst (N := 2) rfl ?_); refine box_event ?hg (N := 2) ?hd (cs := #[.int .i64 a0_0, .int .i64 a0_1, .string a0_2]) (t := 36) ?hr ?_; (case hd => rfl); (case hg => rfl); (case hr => first | (go_simp; done) | (go_simp; rfl)); intro gb428 hg w3 hbox hb; have n0_ := Aside0.mk (below_step (by repeat (first | (with_reducible first | exact HB.out | apply below_alloc | apply pw_below_drewN | apply below_drew1) | exact HB.out)) hb); have n1_ := Aside0.mk (hbox); have n2_ := Aside0.mk ((by rw [hg]; exact (below_size (by repeat (first | (with_reducible first | exact HB.out | apply below_alloc | apply pw_below_drewN | apply below_drew1) | exact HB.out))) : w.heap.size ≤ gb428)); have n3_ := Aside0.mk ((by rw [hg]; exact (below_size (by repeat (first | (with_reducible first | exact HB.out | apply below_alloc | apply pw_below_drewN | apply below_drew1) | exact HB.out))) : w.heap.size ≤ gb428)); clear HB; have HB := n0_; have BK428 := n1_; have GW428 := n2_; have GE428 := n3_; clear n0_ n1_ n2_ n3_; clear hb hbox hg) | ((with_reducible refine gate_dst (N := 4) rfl ?_); refine box_event ?hg (N := 4) ?hd (cs := #[.int .i64 0, .int .i64 0, .string (⟨#[]⟩ : ByteArray)]) (t := 36) ?hr ?_; (case hd => rfl); (case hg => rfl); (case hr => first | (go_simp; done) | (go_simp; rfl)); intro gb429 hg w4 hbox hb; have n0_ := Aside0.mk (blk_below (g := gb428) (o := .cells #[.int .i64 a0_0, .int .i64 a0_1, .string a0_2] 36 (0, 0)) (by (with_reducible repeat (first | refine blk_drewN ?_ _ | refine blk_drew ?_ | refine blk_alloc ?_ _)); exact BK428.out) hb); have n1_ := Aside0.mk (below_step (by repeat (first | (with_reducible first | exact HB.out | apply below_alloc | apply pw_below_drewN | apply below_drew1 | refine below_set ?_ GE428.out) | exact HB.out)) hb); have n2_ := Aside0.mk (hbox); have n3_ := Aside0.mk ((by rw [hg]; exact (below_size (by repeat (first | (with_reducible first | exact HB.out | apply below_alloc | apply pw_below_drewN | apply below_drew1 | refine below_set ?_ GE428.out) | exact HB.out))) : w.heap.size ≤ gb429)); have n4_ := Aside0.mk ((by rw [hg]; exact (below_size (by repeat (first | (with_reducible first | exact HB.out | apply below_alloc | apply pw_below_drewN | apply below_drew1 | refine below_set ?_ GE428.out) | exact HB.out))) : w.heap.size ≤ gb429)); have n5_ := Aside0.mk ((by rw [hg]; exact Nat.ne_of_lt (blk_lt (g := gb428) (o := .cells #[.int .i64 a0_0, .int .i64 a0_1, .string a0_2] 36 (0, 0)) (by (with_reducible repeat (first | refine blk_drewN ?_ _ | refine blk_drew ?_ | refine blk_alloc ?_ _)); exact BK428.out)) : gb428 ≠ gb429)); have n6_ := Aside0.mk ((by rw [hg]; exact Nat.ne_of_gt (blk_lt (g := gb428) (o := .cells #[.int .i64 a0_0, .int .i64 a0_1, .string a0_2] 36 (0, 0)) (by (with_reducible repeat (first | refine blk_drewN ?_ _ | refine blk_drew ?_ | refine blk_alloc ?_ _)); exact BK428.out)) : gb429 ≠ gb428)); clear BK428; clear HB; have BK428 := n0_; have HB := n1_; have BK429 := n2_; have GW429 := n3_; have GE429 := n4_; have NB428_429 := n5_; have NB429_428 := n6_; clear n0_ n1_ n2_ n3_ n4_ n5_ n6_; clear hb hbox hg; have hnb5 := NB428_429.out; have hnc5 := NB429_428.out; have hcz6_0 : w4.cell? ⟨gb428, 0, none⟩ = some (.int .i64 a0_0) := (blk_cell BK428.out 0).trans rfl; have hcz6_1 : w4.cell? ⟨gb428, 1, none⟩ = some (.int .i64 a0_1) := (blk_cell BK428.out 1).trans rfl; have hcz6_2 : w4.cell? ⟨gb428, 2, none⟩ = some (.string a0_2) := (blk_cell BK428.out 2).trans rfl; have hfz6_0 := blk_frozen BK428.out 0; have hfz6_1 := blk_frozen BK428.out 1; have hfz6_2 := blk_frozen BK428.out 2; have hcz7_0 : w4.cell? ⟨gb429, 0, none⟩ = some (.int .i64 0) := (blk_cell BK429.out 0).trans rfl; have hcz7_1 : w4.cell? ⟨gb429, 1, none⟩ = some (.int .i64 0) := (blk_cell BK429.out 1).trans rfl; have hcz7_2 : w4.cell? ⟨gb429, 2, none⟩ = some (.string (⟨#[]⟩ : ByteArray)) := (blk_cell BK429.out 2).trans rfl; have hfz7_0 := blk_frozen BK429.out 0; have hfz7_1 := blk_frozen BK429.out 1; have hfz7_2 := blk_frozen BK429.out 2))
  refine bodyPost_ret (results_ct rfl _ _ gb429 36 #[.int .i64 2, .int .i64 a0_1, .string a0_2] (0, 0) _ rfl (by (with_reducible repeat (first | refine blk_drewN ?_ _ | refine blk_drew ?_ | refine blk_alloc ?_ _)); refine blk_put (cs := #[.int .i64 2, .int .i64 a0_1, .string (⟨#[]⟩ : ByteArray)]) ?_ 2 _ rfl; (with_reducible repeat (first | refine blk_drewN ?_ _ | refine blk_drew ?_ | refine blk_alloc ?_ _)); refine blk_put (cs := #[.int .i64 2, .int .i64 0, .string (⟨#[]⟩ : ByteArray)]) ?_ 1 _ rfl; (with_reducible repeat (first | refine blk_drewN ?_ _ | refine blk_drew ?_ | refine blk_alloc ?_ _)); refine blk_put (cs := #[.int .i64 0, .int .i64 0, .string (⟨#[]⟩ : ByteArray)]) ?_ 0 _ rfl; (with_reducible repeat (first | refine blk_drewN ?_ _ | refine blk_drew ?_ | refine blk_alloc ?_ _)); refine blk_far ?_ NB429_428.out _; (with_reducible repeat (first | refine blk_drewN ?_ _ | refine blk_drew ?_ | refine blk_alloc ?_ _)); exact BK429.out) Try.underlying36 rfl (by kernel_rfl)) rfl ?_
  exact ⟨by first | rfl | (simp [errW_none, errW_some] <;> rfl) | (simp [*, errW_none, errW_some] <;> rfl), by repeat (first | (with_reducible first | exact HB.out | apply below_alloc | apply pw_below_drewN | apply below_drew1 | refine below_set ?_ GE428.out | refine below_set ?_ GE429.out) | exact HB.out)⟩

/-! ### pick_Ops: function 26 -/

set_option maxHeartbeats 8000000 in
set_option maxRecDepth 100000 in
theorem pick_Ops.calls (k : Nat) (A0 : Option Addr) (c0 : Nat) (l0 : List (Op)) (A1 : Option Addr) (c1 : Nat) (l1 : List Bool) (r1 : List (Op)) (r2 : List (Op)) (w : World) (hr0 : Kd.C kOp w A0 l0.length l0) (hc0 : l0.length ≤ c0) (hr1 : Kd.C Kd.bool w A1 l1.length l1) (hc1 : l1.length ≤ c1) (h : pick_Ops.f k l0 l1 = some (r1, r2)) :
    Calls Try.prog 26 #[.slice A0 l0.length c0, .slice A1 l1.length c1] w fun e w' => ∃ v0_ v1_ : Value, e = .returned (.tuple #[v0_, v1_]) ∧ Kd.R kOp 36 w' w.heap.size (fun k_ => some k_ ≠ (v1_ : Value).ownBlock) v0_ r1 ∧ Kd.R kOp 36 w' w.heap.size (fun k_ => some k_ ≠ (v0_ : Value).ownBlock) v1_ r2 ∧ Below w.heap.size w w' := by
  have hu36 := Try.underlying36
  have HR0 := Aside0.mk hr0
  have HC0 := Aside0.mk hc0
  clear hr0 hc0
  have HR1 := Aside0.mk hr1
  have HC1 := Aside0.mk hc1
  clear hr1 hc1
  have HB := Aside0.mk (Below.refl w.heap.size w)
  have H : ((ops_Norm.f k l0).bind fun t430 => (pick_Ops.l0 k l1 ([] : List (Op)) ([] : List (Op)) 0 t430 (t430.length : Int) 0)) = some (r1, r2) := h
  clear h
  replace H := Option.bind_eq_some_iff.mp H
  obtain ⟨t430, A30, H⟩ := H
  replace H : (pick_Ops.l0 k l1 ([] : List (Op)) ([] : List (Op)) 0 t430 (t430.length : Int) 0) = some (r1, r2) := H
  have A3 := Aside0.mk A30
  clear A30
  have H' := Aside0.mk H
  clear H
  go_enter Try.func26, Try.ntmps26
  go_wp2_with (first | ((with_reducible refine gate_callee (f := 33) rfl ?_); refine goesL_ (some 16) rfl rfl Try.func33 (by kernel_rfl) rfl #[.slice A0 l0.length c0] rfl (by (try simp only [List.map_toArray, List.map_cons, List.map_nil]); first | done | rfl | (simp only [List.length_drop, List.length_take]; rfl)) ?_; (with_reducible refine (ops_Norm.calls k _ _ l0 t430 _ ?side1 ?side2 A3.out).mono ?_); (case side1 => repeat (first | exact HR0.out | (with_reducible refine Kd.C_alloc ?_ _) | (with_reducible refine Kd.C_drewN ?_ _) | (with_reducible refine Kd.C_drew ?_))); (case side2 => exact HC0.out); rintro e w4 ⟨v431, rfl, ho0, hb⟩; refine ⟨_, rfl, ?_⟩; have n0_ := Aside0.mk (Kd.R_lower ho0 (below_size (by repeat (first | (with_reducible first | exact HB.out | apply below_alloc | apply pw_below_drewN | apply below_drew1) | exact HB.out)))); have n1_ := Aside0.mk (below_step (by repeat (first | (with_reducible first | exact HB.out | apply below_alloc | apply pw_below_drewN | apply below_drew1) | exact HB.out)) hb); clear HB; have HO432 := n0_; have HB := n1_; clear n0_ n1_; (try clear hb); (try clear hb2); (try clear hk); (try clear hi); (try clear ho0); obtain ⟨Ao5, co5, eo5⟩ := Kd.R_slice HO432.out; subst eo5))
  go_loopg [6, 7, 8, 18] k (fun kq v6 v7 v8 v18 w' => ∃ (x6_1 : List (Op)) (x7_1 : List (Op)) (x8_1 : Int) (x18_1 : Int), v8 = .int .i64 x8_1 ∧ v18 = .int .i64 x18_1 ∧ Aside0 (pick_Ops.l0 kq l1 x6_1 x7_1 x8_1 t430 (t430.length : Int) x18_1 = some (r1, r2)) ∧ Aside0 (kq ≤ k) ∧ Aside0 (Kd.R kOp 36 w' w.heap.size (fun k_ => some k_ ≠ (v7 : Value).ownBlock ∧ some k_ ≠ ((.slice Ao5 t430.length co5) : Value).ownBlock) v6 x6_1) ∧ Aside0 (Kd.R kOp 36 w' w.heap.size (fun k_ => some k_ ≠ (v6 : Value).ownBlock ∧ some k_ ≠ ((.slice Ao5 t430.length co5) : Value).ownBlock) v7 x7_1) ∧ Aside0 (Kd.R kOp 36 w' w.heap.size (fun k_ => some k_ ≠ (v6 : Value).ownBlock ∧ some k_ ≠ (v7 : Value).ownBlock) (.slice Ao5 t430.length co5) t430) ∧ Aside0 (Below w.heap.size w w'))
  case atStart => exact ⟨(([] : List (Op))), (([] : List (Op))), (0), (0), (by first | rfl | (simp; done) | (simp [*]; done)), (by first | rfl | (simp; done) | (simp [*]; done)), H', ⟨Nat.le_refl _⟩, ⟨by first | exact Kd.R_nil _ _ _ _ _ | exact Kd.N_nil _ _ _ _ _ | exact Kd.V_nil _ _ _ _ _ | exact Kd.Q_nil _ _ _ _ _ | exact Kd.S_nil _ _ _ _ _⟩, ⟨by first | exact Kd.R_nil _ _ _ _ _ | exact Kd.N_nil _ _ _ _ _ | exact Kd.V_nil _ _ _ _ _ | exact Kd.Q_nil _ _ _ _ _ | exact Kd.S_nil _ _ _ _ _⟩, ⟨by (with_reducible repeat (first | apply Kd.R_alloc | apply Kd.R_drewN | apply Kd.R_drew)); exact Kd.R_mono HO432.out (fun _ hk => ⟨(by simp [Value.ownBlock]), (by simp [Value.ownBlock])⟩)⟩, ⟨by repeat (first | (with_reducible first | exact HB.out | apply below_alloc | apply pw_below_drewN | apply below_drew1) | exact HB.out)⟩⟩
  case round =>
    clear H'
    try clear c1
    try clear c2
    try clear p2
    try clear c3
    obtain ⟨x6_1, x7_1, x8_1, x18_1, rfl, rfl, HA, HK1, HO_6, HO_7, HO_16, HB⟩ := hrel
    cases gk with
    | zero => exact absurd HA.out (by simp [pick_Ops.l0])
    | succ k1 =>
      have H := HA.out
      clear HA
      simp only [pick_Ops.l0] at H
      by_cases c6 : x18_1 < (t430.length : Int)
      · rw [if_pos c6] at H
        have c6b0 : decide (x18_1 < (t430.length : Int)) = true := decide_eq_true c6
        clear c6
        by_cases c7 : 0 ≤ x18_1
        · rw [if_pos c7] at H
          have c7b0 : decide (0 ≤ x18_1) = true := decide_eq_true c7
          clear c7
          by_cases c8 : x18_1 < (t430.length : Int)
          · rw [if_pos c8] at H
            have c8b0 : decide (x18_1 < (t430.length : Int)) = true := decide_eq_true c8
            clear c8
            replace H := Option.bind_eq_some_iff.mp H
            obtain ⟨t437, A90, H⟩ := H
            replace H : (if t437 = true then (if x8_1 < (l1.length : Int) then (if 0 ≤ x8_1 then (pick_Ops.j1 k1 l1 x6_1 x7_1 x8_1 true true t430 (t430.length : Int) x18_1 (rdOf false l1 x8_1) ((rd_Op t430 x18_1).f0) ((rd_Op t430 x18_1).f1) ((rd_Op t430 x18_1).f2) ((rd_Op t430 x18_1).f0) ((rd_Op t430 x18_1).f1) ((rd_Op t430 x18_1).f2) ((rd_Op t430 x18_1).f0) ((rd_Op t430 x18_1).f1) ((rd_Op t430 x18_1).f2)) else (none)) else (pick_Ops.j1 k1 l1 x6_1 x7_1 x8_1 true true t430 (t430.length : Int) x18_1 false ((rd_Op t430 x18_1).f0) ((rd_Op t430 x18_1).f1) ((rd_Op t430 x18_1).f2) ((rd_Op t430 x18_1).f0) ((rd_Op t430 x18_1).f1) ((rd_Op t430 x18_1).f2) ((rd_Op t430 x18_1).f0) ((rd_Op t430 x18_1).f1) ((rd_Op t430 x18_1).f2))) else (pick_Ops.j2 k1 l1 x6_1 x7_1 x8_1 true true t430 (t430.length : Int) x18_1 ((rd_Op t430 x18_1).f0) ((rd_Op t430 x18_1).f1) ((rd_Op t430 x18_1).f2) ((rd_Op t430 x18_1).f0) ((rd_Op t430 x18_1).f1) ((rd_Op t430 x18_1).f2))) = some (r1, r2) := H
            have A9 := Aside0.mk A90
            clear A90
            have HC10 := Aside0.mk H
            clear H
            have p433 : 0 ≤ (x18_1 : Int) := of_decide_eq_true (by first | (with_reducible assumption) | assumption)
            have q433 : x18_1 < (t430.length : Int) := of_decide_eq_true (by first | (with_reducible assumption) | assumption)
            obtain ⟨ad433, e433, hx433_0, hx433_1, hx433_2⟩ := at_Op (Kd.R_reads' HO_16.out).2.2 x18_1 p433 q433
            cases e433
            replace p433 := eq_true p433
            replace q433 := eq_true q433
            try go_wp2_with (first | ((with_reducible refine gate_dst (N := 10) rfl ?_); refine box_event ?hg (N := 10) ?hd (cs := #[.int .i64 0, .int .i64 0, .string (⟨#[]⟩ : ByteArray)]) (t := 36) ?hr ?_; (case hd => rfl); (case hg => rfl); (case hr => first | (go_simp; done) | (go_simp; rfl)); intro gb434 hg w11 hbox hb; have n0_ := Aside0.mk (Kd.R_below (Kd.R_elderB HO_6.out gb434 (Nat.le_of_eq hg.symm)) hb); have n1_ := Aside0.mk (Kd.R_below (Kd.R_elderB HO_7.out gb434 (Nat.le_of_eq hg.symm)) hb); have n2_ := Aside0.mk (Kd.R_below (Kd.R_elderB HO_16.out gb434 (Nat.le_of_eq hg.symm)) hb); have n3_ := Aside0.mk (below_step (by repeat (first | (with_reducible first | exact HB.out | apply below_alloc | apply pw_below_drewN | apply below_drew1) | exact HB.out)) hb); have n4_ := Aside0.mk (hbox); have n5_ := Aside0.mk ((by rw [hg]; exact (below_size (by repeat (first | (with_reducible first | exact HB.out | apply below_alloc | apply pw_below_drewN | apply below_drew1) | exact HB.out))) : w.heap.size ≤ gb434)); have n6_ := Aside0.mk ((by rw [hg]; exact (below_size (by repeat (first | (with_reducible first | exact HB.out | apply below_alloc | apply pw_below_drewN | apply below_drew1) | exact HB.out))) : w.heap.size ≤ gb434)); clear HO_6; clear HO_7; clear HO_16; clear HB; have HO_6 := n0_; have HO_7 := n1_; have HO_16 := n2_; have HB := n3_; have BK434 := n4_; have GW434 := n5_; have GE434 := n6_; clear n0_ n1_ n2_ n3_ n4_ n5_ n6_; clear hb hbox hg; have hcz12_0 : w11.cell? ⟨gb434, 0, none⟩ = some (.int .i64 0) := (blk_cell BK434.out 0).trans rfl; have hcz12_1 : w11.cell? ⟨gb434, 1, none⟩ = some (.int .i64 0) := (blk_cell BK434.out 1).trans rfl; have hcz12_2 : w11.cell? ⟨gb434, 2, none⟩ = some (.string (⟨#[]⟩ : ByteArray)) := (blk_cell BK434.out 2).trans rfl; have hfz12_0 := blk_frozen BK434.out 0; have hfz12_1 := blk_frozen BK434.out 1; have hfz12_2 := blk_frozen BK434.out 2))
            have n0_ : Aside0 (Kd.R kOp 36 (((w11.setCell ⟨gb434, 0, none⟩ (.int .i64 ((rd_Op t430 x18_1).f0))).setCell ⟨gb434, 1, none⟩ (.int .i64 ((rd_Op t430 x18_1).f1))).setCell ⟨gb434, 2, none⟩ (.string ((rd_Op t430 x18_1).f2))) w.heap.size (fun k_ => some k_ ≠ (u7 : Value).ownBlock ∧ some k_ ≠ (.slice (some ad433) t430.length co5 : Value).ownBlock ∧ k_ ≠ gb434) u6 x6_1) := ⟨by (with_reducible repeat (first | apply Kd.R_alloc | apply Kd.R_drewN | apply Kd.R_drew)); exact Kd.R_mono (Kd.R_far (p := ⟨gb434, 2, none⟩) (Kd.R_far (p := ⟨gb434, 1, none⟩) (Kd.R_far (p := ⟨gb434, 0, none⟩) (Kd.R_mono HO_6.out (fun k_ hk => (⟨hk, hk.2⟩ : _ ∧ k_ ≠ gb434))) (fun _ hk => hk.2) (.int .i64 ((rd_Op t430 x18_1).f0))) (fun _ hk => hk.2) (.int .i64 ((rd_Op t430 x18_1).f1))) (fun _ hk => hk.2) (.string ((rd_Op t430 x18_1).f2))) (fun _ hk => ⟨hk.1.1.1, ⟨hk.1.1.2, hk.1.2⟩⟩)⟩
            have n1_ : Aside0 (Kd.R kOp 36 (((w11.setCell ⟨gb434, 0, none⟩ (.int .i64 ((rd_Op t430 x18_1).f0))).setCell ⟨gb434, 1, none⟩ (.int .i64 ((rd_Op t430 x18_1).f1))).setCell ⟨gb434, 2, none⟩ (.string ((rd_Op t430 x18_1).f2))) w.heap.size (fun k_ => some k_ ≠ (u6 : Value).ownBlock ∧ some k_ ≠ (.slice (some ad433) t430.length co5 : Value).ownBlock ∧ k_ ≠ gb434) u7 x7_1) := ⟨by (with_reducible repeat (first | apply Kd.R_alloc | apply Kd.R_drewN | apply Kd.R_drew)); exact Kd.R_mono (Kd.R_far (p := ⟨gb434, 2, none⟩) (Kd.R_far (p := ⟨gb434, 1, none⟩) (Kd.R_far (p := ⟨gb434, 0, none⟩) (Kd.R_mono HO_7.out (fun k_ hk => (⟨hk, hk.2⟩ : _ ∧ k_ ≠ gb434))) (fun _ hk => hk.2) (.int .i64 ((rd_Op t430 x18_1).f0))) (fun _ hk => hk.2) (.int .i64 ((rd_Op t430 x18_1).f1))) (fun _ hk => hk.2) (.string ((rd_Op t430 x18_1).f2))) (fun _ hk => ⟨hk.1.1.1, ⟨hk.1.1.2, hk.1.2⟩⟩)⟩
            have n2_ : Aside0 (Kd.R kOp 36 (((w11.setCell ⟨gb434, 0, none⟩ (.int .i64 ((rd_Op t430 x18_1).f0))).setCell ⟨gb434, 1, none⟩ (.int .i64 ((rd_Op t430 x18_1).f1))).setCell ⟨gb434, 2, none⟩ (.string ((rd_Op t430 x18_1).f2))) w.heap.size (fun k_ => some k_ ≠ (u6 : Value).ownBlock ∧ some k_ ≠ (u7 : Value).ownBlock ∧ k_ ≠ gb434) (.slice (some ad433) t430.length co5) t430) := ⟨by (with_reducible repeat (first | apply Kd.R_alloc | apply Kd.R_drewN | apply Kd.R_drew)); exact Kd.R_mono (Kd.R_far (p := ⟨gb434, 2, none⟩) (Kd.R_far (p := ⟨gb434, 1, none⟩) (Kd.R_far (p := ⟨gb434, 0, none⟩) (Kd.R_mono HO_16.out (fun k_ hk => (⟨hk, hk.2⟩ : _ ∧ k_ ≠ gb434))) (fun _ hk => hk.2) (.int .i64 ((rd_Op t430 x18_1).f0))) (fun _ hk => hk.2) (.int .i64 ((rd_Op t430 x18_1).f1))) (fun _ hk => hk.2) (.string ((rd_Op t430 x18_1).f2))) (fun _ hk => ⟨hk.1.1.1, ⟨hk.1.1.2, hk.1.2⟩⟩)⟩
            have n3_ : Aside0 ((((w11.setCell ⟨gb434, 0, none⟩ (.int .i64 ((rd_Op t430 x18_1).f0))).setCell ⟨gb434, 1, none⟩ (.int .i64 ((rd_Op t430 x18_1).f1))).setCell ⟨gb434, 2, none⟩ (.string ((rd_Op t430 x18_1).f2))).heap[gb434]? = some (.cells #[.int .i64 ((rd_Op t430 x18_1).f0), .int .i64 ((rd_Op t430 x18_1).f1), .string ((rd_Op t430 x18_1).f2)] 36 (0, 0))) := ⟨by (with_reducible repeat (first | refine blk_drewN ?_ _ | refine blk_drew ?_ | refine blk_alloc ?_ _)); refine blk_put (cs := #[.int .i64 ((rd_Op t430 x18_1).f0), .int .i64 ((rd_Op t430 x18_1).f1), .string (⟨#[]⟩ : ByteArray)]) ?_ 2 _ rfl; (with_reducible repeat (first | refine blk_drewN ?_ _ | refine blk_drew ?_ | refine blk_alloc ?_ _)); refine blk_put (cs := #[.int .i64 ((rd_Op t430 x18_1).f0), .int .i64 0, .string (⟨#[]⟩ : ByteArray)]) ?_ 1 _ rfl; (with_reducible repeat (first | refine blk_drewN ?_ _ | refine blk_drew ?_ | refine blk_alloc ?_ _)); refine blk_put (cs := #[.int .i64 0, .int .i64 0, .string (⟨#[]⟩ : ByteArray)]) ?_ 0 _ rfl; (with_reducible repeat (first | refine blk_drewN ?_ _ | refine blk_drew ?_ | refine blk_alloc ?_ _)); exact BK434.out⟩
            have n4_ : Aside0 (Below w.heap.size w (((w11.setCell ⟨gb434, 0, none⟩ (.int .i64 ((rd_Op t430 x18_1).f0))).setCell ⟨gb434, 1, none⟩ (.int .i64 ((rd_Op t430 x18_1).f1))).setCell ⟨gb434, 2, none⟩ (.string ((rd_Op t430 x18_1).f2)))) := ⟨by repeat (first | (with_reducible first | exact HB.out | apply below_alloc | apply pw_below_drewN | apply below_drew1 | refine below_set ?_ GE434.out) | exact HB.out)⟩
            (try clear HO_6)
            (try clear HO_7)
            (try clear HO_16)
            (try clear BK434)
            (try clear HB)
            generalize (((w11.setCell ⟨gb434, 0, none⟩ (.int .i64 ((rd_Op t430 x18_1).f0))).setCell ⟨gb434, 1, none⟩ (.int .i64 ((rd_Op t430 x18_1).f1))).setCell ⟨gb434, 2, none⟩ (.string ((rd_Op t430 x18_1).f2))) = w13 at n0_ n1_ n2_ n3_ n4_ ⊢
            have HO_6 := n0_
            have HO_7 := n1_
            have HO_16 := n2_
            have BK434 := n3_
            have HB := n4_
            clear n0_ n1_ n2_ n3_ n4_
            have n0_ := Aside0.mk (Kd.R_drew HO_6.out)
            have n1_ := Aside0.mk (Kd.R_drew HO_7.out)
            have n2_ := Aside0.mk (Kd.R_drew HO_16.out)
            have n3_ := Aside0.mk (blk_drew BK434.out)
            have n4_ := Aside0.mk (below_drew1 HB.out)
            clear HO_6
            clear HO_7
            clear HO_16
            clear BK434
            clear HB
            have HO_6 := n0_
            have HO_7 := n1_
            have HO_16 := n2_
            have BK434 := n3_
            have HB := n4_
            clear n0_ n1_ n2_ n3_ n4_
            refine start_ (n := 6) (S := fun w' => w'.cell? ⟨gb434, 0, none⟩ = some (.int .i64 ((rd_Op t430 x18_1).f0)) ∧ w'.cell? ⟨gb434, 1, none⟩ = some (.int .i64 ((rd_Op t430 x18_1).f1)) ∧ w'.cell? ⟨gb434, 2, none⟩ = some (.string ((rd_Op t430 x18_1).f2))) (ds := []) #[false, false, false, false, false, false] (by kernel_rfl) rfl rfl ⟨(blk_cell BK434.out 0).trans rfl, (blk_cell BK434.out 1).trans rfl, (blk_cell BK434.out 2).trans rfl⟩ (fun hHeld => ?_)
            generalize w13.drew = w14 at HO_6 HO_7 HO_16 BK434 HB hHeld ⊢
            refine take_ (i := 0) (N := some 22) (v := ?_) (a' := ?_) #[true, false, false, false, false, false] rfl rfl (by kernel_rfl) (fun _ _ _ h => h) (Or.inl ⟨by rfl, ?_⟩) hHeld ?_ ?_
            rotate_left
            · rintro w' ⟨s0, s1, s2⟩
              go_simp
              with_reducible rfl
            rotate_left
            · simp only [Act.put, List.setIfInBounds_toArray, List.set_cons_zero, List.set_cons_succ, i64_w, i32_w]
              rfl
            refine take_ (i := 1) (N := some 23) (v := ?_) (a' := ?_) #[true, true, false, false, false, false] rfl rfl (by kernel_rfl) (fun _ _ _ h => h) (Or.inl ⟨by rfl, ?_⟩) hHeld ?_ ?_
            rotate_left
            · rintro w' ⟨s0, s1, s2⟩
              go_simp
              with_reducible rfl
            rotate_left
            · simp only [Act.put, List.setIfInBounds_toArray, List.set_cons_zero, List.set_cons_succ, i64_w, i32_w]
              rfl
            refine join_ (σ := Nat × Nat) 2 #[true, true, true, true, false, false] (fun s_ => [(11, .pointer (some ⟨s_.1, 0, none⟩)), (12, .pointer (some ⟨s_.2, 0, none⟩))]) (fun s_ w' => (w'.cell? ⟨gb434, 0, none⟩ = some (.int .i64 ((rd_Op t430 x18_1).f0)) ∧ w'.cell? ⟨gb434, 1, none⟩ = some (.int .i64 ((rd_Op t430 x18_1).f1)) ∧ w'.cell? ⟨gb434, 2, none⟩ = some (.string ((rd_Op t430 x18_1).f2))) ∧ (Kd.R kOp 36 w' w.heap.size (fun k_ => some k_ ≠ (u6 : Value).ownBlock ∧ some k_ ≠ (u7 : Value).ownBlock ∧ k_ ≠ gb434 ∧ k_ ≠ s_.1 ∧ k_ ≠ s_.2) (.slice (some ad433) t430.length co5) t430) ∧ (Kd.R kOp 36 w' w.heap.size (fun k_ => some k_ ≠ (.slice (some ad433) t430.length co5 : Value).ownBlock ∧ some k_ ≠ (u7 : Value).ownBlock ∧ k_ ≠ gb434 ∧ k_ ≠ s_.1 ∧ k_ ≠ s_.2) u6 x6_1) ∧ (Kd.R kOp 36 w' w.heap.size (fun k_ => some k_ ≠ (.slice (some ad433) t430.length co5 : Value).ownBlock ∧ some k_ ≠ (u6 : Value).ownBlock ∧ k_ ≠ gb434 ∧ k_ ≠ s_.1 ∧ k_ ≠ s_.2) u7 x7_1) ∧ (w'.heap[gb434]? = some (.cells #[.int .i64 ((rd_Op t430 x18_1).f0), .int .i64 ((rd_Op t430 x18_1).f1), .string ((rd_Op t430 x18_1).f2)] 36 (0, 0))) ∧ (w'.heap[s_.1]? = some (.cells #[.int .i64 0, .int .i64 0, .string (⟨#[]⟩ : ByteArray)] 36 (0, 0))) ∧ (w'.heap[s_.2]? = some (.cells #[.int .i64 0, .int .i64 0, .string (⟨#[]⟩ : ByteArray)] 36 (0, 0))) ∧ (w.heap.size ≤ s_.1) ∧ (w.heap.size ≤ s_.1) ∧ (gb434 ≠ s_.1) ∧ (s_.1 ≠ gb434) ∧ (s_.2 ≠ s_.1) ∧ (s_.1 ≠ s_.2) ∧ (w.heap.size ≤ s_.2) ∧ (w.heap.size ≤ s_.2) ∧ (gb434 ≠ s_.2) ∧ (s_.2 ≠ gb434) ∧ (Below w.heap.size w w')) ?_ ?_
            rotate_left
            · intro hCont
              refine two_ (i := 2) (j := 3) (Ni := some 11) (Nj := some 12) #[true, true, true, false, false, false] #[true, true, false, true, false, false] rfl rfl rfl rfl (by kernel_rfl) (by decide) (by decide) (fun K hK => ?_) (fun K hK => ?_)
              · skip
                refine box_step ?hg (N := 11) ?hd (cs := #[.int .i64 0, .int .i64 0, .string (⟨#[]⟩ : ByteArray)]) (t := 36) ?hr ?_; (case hd => rfl); (case hg => rfl); (case hr => first | (go_simp; done) | (go_simp; rfl))
                intro gb435 hg w15 hbox hb
                have n0_ := Aside0.mk (Kd.R_below (Kd.R_elderB HO_6.out gb435 (Nat.le_of_eq hg.symm)) hb)
                have n1_ := Aside0.mk (Kd.R_below (Kd.R_elderB HO_7.out gb435 (Nat.le_of_eq hg.symm)) hb)
                have n2_ := Aside0.mk (Kd.R_below (Kd.R_elderB HO_16.out gb435 (Nat.le_of_eq hg.symm)) hb)
                have n3_ := Aside0.mk (blk_below (g := gb434) (o := .cells #[.int .i64 ((rd_Op t430 x18_1).f0), .int .i64 ((rd_Op t430 x18_1).f1), .string ((rd_Op t430 x18_1).f2)] 36 (0, 0)) BK434.out hb)
                have n4_ := Aside0.mk (below_step (by repeat (first | (with_reducible first | exact HB.out | apply below_alloc | apply pw_below_drewN | apply below_drew1 | refine below_set ?_ GE434.out) | exact HB.out)) hb)
                have n5_ := Aside0.mk (hbox)
                have n6_ := Aside0.mk ((by rw [hg]; exact (below_size (by repeat (first | (with_reducible first | exact HB.out | apply below_alloc | apply pw_below_drewN | apply below_drew1 | refine below_set ?_ GE434.out) | exact HB.out))) : w.heap.size ≤ gb435))
                have n7_ := Aside0.mk ((by rw [hg]; exact (below_size (by repeat (first | (with_reducible first | exact HB.out | apply below_alloc | apply pw_below_drewN | apply below_drew1 | refine below_set ?_ GE434.out) | exact HB.out))) : w.heap.size ≤ gb435))
                have n8_ := Aside0.mk ((by rw [hg]; exact Nat.ne_of_lt (blk_lt (g := gb434) (o := .cells #[.int .i64 ((rd_Op t430 x18_1).f0), .int .i64 ((rd_Op t430 x18_1).f1), .string ((rd_Op t430 x18_1).f2)] 36 (0, 0)) BK434.out) : gb434 ≠ gb435))
                have n9_ := Aside0.mk ((by rw [hg]; exact Nat.ne_of_gt (blk_lt (g := gb434) (o := .cells #[.int .i64 ((rd_Op t430 x18_1).f0), .int .i64 ((rd_Op t430 x18_1).f1), .string ((rd_Op t430 x18_1).f2)] 36 (0, 0)) BK434.out) : gb435 ≠ gb434))
                clear HO_6
                clear HO_7
                clear HO_16
                clear BK434
                clear HB
                have HO_6 := n0_
                have HO_7 := n1_
                have HO_16 := n2_
                have BK434 := n3_
                have HB := n4_
                have BK435 := n5_
                have GW435 := n6_
                have GE435 := n7_
                have NB434_435 := n8_
                have NB435_434 := n9_
                clear n0_ n1_ n2_ n3_ n4_ n5_ n6_ n7_ n8_ n9_
                clear hb hbox hg
                refine hK.out _ _ ⟨(blk_cell BK434.out 0).trans rfl, (blk_cell BK434.out 1).trans rfl, (blk_cell BK434.out 2).trans rfl⟩ (fun hHeld => ?_)
                clear hK K
                refine norm_ (a' := ?_) ?_ ?_
                rotate_left
                · show Act.put _ (some 11) _ = _
                  simp only [Act.put, List.setIfInBounds_toArray, List.set_cons_zero, List.set_cons_succ, i64_w, i32_w]
                  rfl
                refine one_ (i := 3) (N := some 12) #[true, true, true, true, false, false] rfl rfl (by kernel_rfl) (by decide) (fun K hK => ?_)
                refine box_step ?hg (N := 12) ?hd (cs := #[.int .i64 0, .int .i64 0, .string (⟨#[]⟩ : ByteArray)]) (t := 36) ?hr ?_; (case hd => rfl); (case hg => rfl); (case hr => first | (go_simp; done) | (go_simp; rfl))
                intro gb436 hg w16 hbox hb
                have n0_ := Aside0.mk (Kd.R_below (Kd.R_elderB HO_6.out gb436 (Nat.le_of_eq hg.symm)) hb)
                have n1_ := Aside0.mk (Kd.R_below (Kd.R_elderB HO_7.out gb436 (Nat.le_of_eq hg.symm)) hb)
                have n2_ := Aside0.mk (Kd.R_below (Kd.R_elderB HO_16.out gb436 (Nat.le_of_eq hg.symm)) hb)
                have n3_ := Aside0.mk (blk_below (g := gb434) (o := .cells #[.int .i64 ((rd_Op t430 x18_1).f0), .int .i64 ((rd_Op t430 x18_1).f1), .string ((rd_Op t430 x18_1).f2)] 36 (0, 0)) BK434.out hb)
                have n4_ := Aside0.mk (blk_below (g := gb435) (o := .cells #[.int .i64 0, .int .i64 0, .string (⟨#[]⟩ : ByteArray)] 36 (0, 0)) BK435.out hb)
                have n5_ := Aside0.mk (below_step (by repeat (first | (with_reducible first | exact HB.out | apply below_alloc | apply pw_below_drewN | apply below_drew1 | refine below_set ?_ GE434.out | refine below_set ?_ GE435.out) | exact HB.out)) hb)
                have n6_ := Aside0.mk (hbox)
                have n7_ := Aside0.mk ((by rw [hg]; exact (below_size (by repeat (first | (with_reducible first | exact HB.out | apply below_alloc | apply pw_below_drewN | apply below_drew1 | refine below_set ?_ GE434.out | refine below_set ?_ GE435.out) | exact HB.out))) : w.heap.size ≤ gb436))
                have n8_ := Aside0.mk ((by rw [hg]; exact (below_size (by repeat (first | (with_reducible first | exact HB.out | apply below_alloc | apply pw_below_drewN | apply below_drew1 | refine below_set ?_ GE434.out | refine below_set ?_ GE435.out) | exact HB.out))) : w.heap.size ≤ gb436))
                have n9_ := Aside0.mk ((by rw [hg]; exact Nat.ne_of_lt (blk_lt (g := gb434) (o := .cells #[.int .i64 ((rd_Op t430 x18_1).f0), .int .i64 ((rd_Op t430 x18_1).f1), .string ((rd_Op t430 x18_1).f2)] 36 (0, 0)) BK434.out) : gb434 ≠ gb436))
                have n10_ := Aside0.mk ((by rw [hg]; exact Nat.ne_of_gt (blk_lt (g := gb434) (o := .cells #[.int .i64 ((rd_Op t430 x18_1).f0), .int .i64 ((rd_Op t430 x18_1).f1), .string ((rd_Op t430 x18_1).f2)] 36 (0, 0)) BK434.out) : gb436 ≠ gb434))
                have n11_ := Aside0.mk ((by rw [hg]; exact Nat.ne_of_lt (blk_lt (g := gb435) (o := .cells #[.int .i64 0, .int .i64 0, .string (⟨#[]⟩ : ByteArray)] 36 (0, 0)) BK435.out) : gb435 ≠ gb436))
                have n12_ := Aside0.mk ((by rw [hg]; exact Nat.ne_of_gt (blk_lt (g := gb435) (o := .cells #[.int .i64 0, .int .i64 0, .string (⟨#[]⟩ : ByteArray)] 36 (0, 0)) BK435.out) : gb436 ≠ gb435))
                clear HO_6
                clear HO_7
                clear HO_16
                clear BK434
                clear BK435
                clear HB
                have HO_6 := n0_
                have HO_7 := n1_
                have HO_16 := n2_
                have BK434 := n3_
                have BK435 := n4_
                have HB := n5_
                have BK436 := n6_
                have GW436 := n7_
                have GE436 := n8_
                have NB434_436 := n9_
                have NB436_434 := n10_
                have NB435_436 := n11_
                have NB436_435 := n12_
                clear n0_ n1_ n2_ n3_ n4_ n5_ n6_ n7_ n8_ n9_ n10_ n11_ n12_
                clear hb hbox hg
                refine hK.out _ _ ⟨(blk_cell BK434.out 0).trans rfl, (blk_cell BK434.out 1).trans rfl, (blk_cell BK434.out 2).trans rfl⟩ (fun hHeld => ?_)
                clear hK K
                refine norm_ (a' := ?_) ?_ ?_
                rotate_left
                · show Act.put _ (some 12) _ = _
                  simp only [Act.put, List.setIfInBounds_toArray, List.set_cons_zero, List.set_cons_succ, i64_w, i32_w]
                  rfl
                exact norm_ (by simp only [putAll, Act.put, List.setIfInBounds_toArray, List.set_cons_zero, List.set_cons_succ]) (hCont (gb435, gb436) _ ⟨hHeld, (by (with_reducible repeat (first | apply Kd.R_alloc | apply Kd.R_drewN | apply Kd.R_drew)); exact Kd.R_mono HO_16.out (fun _ hk => ⟨hk.1.1.1, ⟨hk.1.1.2.1, ⟨hk.1.1.2.2, ⟨hk.1.2, hk.2⟩⟩⟩⟩)), (by (with_reducible repeat (first | apply Kd.R_alloc | apply Kd.R_drewN | apply Kd.R_drew)); exact Kd.R_mono HO_6.out (fun _ hk => ⟨hk.1.1.2.1, ⟨hk.1.1.1, ⟨hk.1.1.2.2, ⟨hk.1.2, hk.2⟩⟩⟩⟩)), (by (with_reducible repeat (first | apply Kd.R_alloc | apply Kd.R_drewN | apply Kd.R_drew)); exact Kd.R_mono HO_7.out (fun _ hk => ⟨hk.1.1.2.1, ⟨hk.1.1.1, ⟨hk.1.1.2.2, ⟨hk.1.2, hk.2⟩⟩⟩⟩)), BK434.out, BK435.out, BK436.out, GW435.out, GE435.out, NB434_435.out, NB435_434.out, NB436_435.out, NB435_436.out, GW436.out, GE436.out, NB434_436.out, NB436_434.out, (by repeat (first | (with_reducible first | exact HB.out | apply below_alloc | apply pw_below_drewN | apply below_drew1 | refine below_set ?_ GE434.out | refine below_set ?_ GE435.out | refine below_set ?_ GE436.out) | exact HB.out))⟩)
              · skip
                refine box_step ?hg (N := 12) ?hd (cs := #[.int .i64 0, .int .i64 0, .string (⟨#[]⟩ : ByteArray)]) (t := 36) ?hr ?_; (case hd => rfl); (case hg => rfl); (case hr => first | (go_simp; done) | (go_simp; rfl))
                intro gb436 hg w15 hbox hb
                have n0_ := Aside0.mk (Kd.R_below (Kd.R_elderB HO_6.out gb436 (Nat.le_of_eq hg.symm)) hb)
                have n1_ := Aside0.mk (Kd.R_below (Kd.R_elderB HO_7.out gb436 (Nat.le_of_eq hg.symm)) hb)
                have n2_ := Aside0.mk (Kd.R_below (Kd.R_elderB HO_16.out gb436 (Nat.le_of_eq hg.symm)) hb)
                have n3_ := Aside0.mk (blk_below (g := gb434) (o := .cells #[.int .i64 ((rd_Op t430 x18_1).f0), .int .i64 ((rd_Op t430 x18_1).f1), .string ((rd_Op t430 x18_1).f2)] 36 (0, 0)) BK434.out hb)
                have n4_ := Aside0.mk (below_step (by repeat (first | (with_reducible first | exact HB.out | apply below_alloc | apply pw_below_drewN | apply below_drew1 | refine below_set ?_ GE434.out) | exact HB.out)) hb)
                have n5_ := Aside0.mk (hbox)
                have n6_ := Aside0.mk ((by rw [hg]; exact (below_size (by repeat (first | (with_reducible first | exact HB.out | apply below_alloc | apply pw_below_drewN | apply below_drew1 | refine below_set ?_ GE434.out) | exact HB.out))) : w.heap.size ≤ gb436))
                have n7_ := Aside0.mk ((by rw [hg]; exact (below_size (by repeat (first | (with_reducible first | exact HB.out | apply below_alloc | apply pw_below_drewN | apply below_drew1 | refine below_set ?_ GE434.out) | exact HB.out))) : w.heap.size ≤ gb436))
                have n8_ := Aside0.mk ((by rw [hg]; exact Nat.ne_of_lt (blk_lt (g := gb434) (o := .cells #[.int .i64 ((rd_Op t430 x18_1).f0), .int .i64 ((rd_Op t430 x18_1).f1), .string ((rd_Op t430 x18_1).f2)] 36 (0, 0)) BK434.out) : gb434 ≠ gb436))
                have n9_ := Aside0.mk ((by rw [hg]; exact Nat.ne_of_gt (blk_lt (g := gb434) (o := .cells #[.int .i64 ((rd_Op t430 x18_1).f0), .int .i64 ((rd_Op t430 x18_1).f1), .string ((rd_Op t430 x18_1).f2)] 36 (0, 0)) BK434.out) : gb436 ≠ gb434))
                clear HO_6
                clear HO_7
                clear HO_16
                clear BK434
                clear HB
                have HO_6 := n0_
                have HO_7 := n1_
                have HO_16 := n2_
                have BK434 := n3_
                have HB := n4_
                have BK436 := n5_
                have GW436 := n6_
                have GE436 := n7_
                have NB434_436 := n8_
                have NB436_434 := n9_
                clear n0_ n1_ n2_ n3_ n4_ n5_ n6_ n7_ n8_ n9_
                clear hb hbox hg
                refine hK.out _ _ ⟨(blk_cell BK434.out 0).trans rfl, (blk_cell BK434.out 1).trans rfl, (blk_cell BK434.out 2).trans rfl⟩ (fun hHeld => ?_)
                clear hK K
                refine norm_ (a' := ?_) ?_ ?_
                rotate_left
                · show Act.put _ (some 12) _ = _
                  simp only [Act.put, List.setIfInBounds_toArray, List.set_cons_zero, List.set_cons_succ, i64_w, i32_w]
                  rfl
                refine one_ (i := 2) (N := some 11) #[true, true, true, true, false, false] rfl rfl (by kernel_rfl) (by decide) (fun K hK => ?_)
                refine box_step ?hg (N := 11) ?hd (cs := #[.int .i64 0, .int .i64 0, .string (⟨#[]⟩ : ByteArray)]) (t := 36) ?hr ?_; (case hd => rfl); (case hg => rfl); (case hr => first | (go_simp; done) | (go_simp; rfl))
                intro gb435 hg w16 hbox hb
                have n0_ := Aside0.mk (Kd.R_below (Kd.R_elderB HO_6.out gb435 (Nat.le_of_eq hg.symm)) hb)
                have n1_ := Aside0.mk (Kd.R_below (Kd.R_elderB HO_7.out gb435 (Nat.le_of_eq hg.symm)) hb)
                have n2_ := Aside0.mk (Kd.R_below (Kd.R_elderB HO_16.out gb435 (Nat.le_of_eq hg.symm)) hb)
                have n3_ := Aside0.mk (blk_below (g := gb434) (o := .cells #[.int .i64 ((rd_Op t430 x18_1).f0), .int .i64 ((rd_Op t430 x18_1).f1), .string ((rd_Op t430 x18_1).f2)] 36 (0, 0)) BK434.out hb)
                have n4_ := Aside0.mk (blk_below (g := gb436) (o := .cells #[.int .i64 0, .int .i64 0, .string (⟨#[]⟩ : ByteArray)] 36 (0, 0)) BK436.out hb)
                have n5_ := Aside0.mk (below_step (by repeat (first | (with_reducible first | exact HB.out | apply below_alloc | apply pw_below_drewN | apply below_drew1 | refine below_set ?_ GE434.out | refine below_set ?_ GE436.out) | exact HB.out)) hb)
                have n6_ := Aside0.mk (hbox)
                have n7_ := Aside0.mk ((by rw [hg]; exact (below_size (by repeat (first | (with_reducible first | exact HB.out | apply below_alloc | apply pw_below_drewN | apply below_drew1 | refine below_set ?_ GE434.out | refine below_set ?_ GE436.out) | exact HB.out))) : w.heap.size ≤ gb435))
                have n8_ := Aside0.mk ((by rw [hg]; exact (below_size (by repeat (first | (with_reducible first | exact HB.out | apply below_alloc | apply pw_below_drewN | apply below_drew1 | refine below_set ?_ GE434.out | refine below_set ?_ GE436.out) | exact HB.out))) : w.heap.size ≤ gb435))
                have n9_ := Aside0.mk ((by rw [hg]; exact Nat.ne_of_lt (blk_lt (g := gb434) (o := .cells #[.int .i64 ((rd_Op t430 x18_1).f0), .int .i64 ((rd_Op t430 x18_1).f1), .string ((rd_Op t430 x18_1).f2)] 36 (0, 0)) BK434.out) : gb434 ≠ gb435))
                have n10_ := Aside0.mk ((by rw [hg]; exact Nat.ne_of_gt (blk_lt (g := gb434) (o := .cells #[.int .i64 ((rd_Op t430 x18_1).f0), .int .i64 ((rd_Op t430 x18_1).f1), .string ((rd_Op t430 x18_1).f2)] 36 (0, 0)) BK434.out) : gb435 ≠ gb434))
                have n11_ := Aside0.mk ((by rw [hg]; exact Nat.ne_of_lt (blk_lt (g := gb436) (o := .cells #[.int .i64 0, .int .i64 0, .string (⟨#[]⟩ : ByteArray)] 36 (0, 0)) BK436.out) : gb436 ≠ gb435))
                have n12_ := Aside0.mk ((by rw [hg]; exact Nat.ne_of_gt (blk_lt (g := gb436) (o := .cells #[.int .i64 0, .int .i64 0, .string (⟨#[]⟩ : ByteArray)] 36 (0, 0)) BK436.out) : gb435 ≠ gb436))
                clear HO_6
                clear HO_7
                clear HO_16
                clear BK434
                clear BK436
                clear HB
                have HO_6 := n0_
                have HO_7 := n1_
                have HO_16 := n2_
                have BK434 := n3_
                have BK436 := n4_
                have HB := n5_
                have BK435 := n6_
                have GW435 := n7_
                have GE435 := n8_
                have NB434_435 := n9_
                have NB435_434 := n10_
                have NB436_435 := n11_
                have NB435_436 := n12_
                clear n0_ n1_ n2_ n3_ n4_ n5_ n6_ n7_ n8_ n9_ n10_ n11_ n12_
                clear hb hbox hg
                refine hK.out _ _ ⟨(blk_cell BK434.out 0).trans rfl, (blk_cell BK434.out 1).trans rfl, (blk_cell BK434.out 2).trans rfl⟩ (fun hHeld => ?_)
                clear hK K
                refine norm_ (a' := ?_) ?_ ?_
                rotate_left
                · show Act.put _ (some 11) _ = _
                  simp only [Act.put, List.setIfInBounds_toArray, List.set_cons_zero, List.set_cons_succ, i64_w, i32_w]
                  rfl
                exact norm_ (by simp only [putAll, Act.put, List.setIfInBounds_toArray, List.set_cons_zero, List.set_cons_succ]) (hCont (gb435, gb436) _ ⟨hHeld, (by (with_reducible repeat (first | apply Kd.R_alloc | apply Kd.R_drewN | apply Kd.R_drew)); exact Kd.R_mono HO_16.out (fun _ hk => ⟨hk.1.1.1, ⟨hk.1.1.2.1, ⟨hk.1.1.2.2, ⟨hk.2, hk.1.2⟩⟩⟩⟩)), (by (with_reducible repeat (first | apply Kd.R_alloc | apply Kd.R_drewN | apply Kd.R_drew)); exact Kd.R_mono HO_6.out (fun _ hk => ⟨hk.1.1.2.1, ⟨hk.1.1.1, ⟨hk.1.1.2.2, ⟨hk.2, hk.1.2⟩⟩⟩⟩)), (by (with_reducible repeat (first | apply Kd.R_alloc | apply Kd.R_drewN | apply Kd.R_drew)); exact Kd.R_mono HO_7.out (fun _ hk => ⟨hk.1.1.2.1, ⟨hk.1.1.1, ⟨hk.1.1.2.2, ⟨hk.2, hk.1.2⟩⟩⟩⟩)), BK434.out, BK435.out, BK436.out, GW435.out, GE435.out, NB434_435.out, NB435_434.out, NB436_435.out, NB435_436.out, GW436.out, GE436.out, NB434_436.out, NB436_434.out, (by repeat (first | (with_reducible first | exact HB.out | apply below_alloc | apply pw_below_drewN | apply below_drew1 | refine below_set ?_ GE434.out | refine below_set ?_ GE436.out | refine below_set ?_ GE435.out) | exact HB.out))⟩)
            rintro ⟨gb435, gb436⟩ w17 ⟨hS_, h0_, h1_, h2_, h3_, h4_, h5_, h6_, h7_, h8_, h9_, h10_, h11_, h12_, h13_, h14_, h15_, h16_⟩
            have n0_ : Aside0 (Kd.R kOp 36 w17 w.heap.size (fun k_ => some k_ ≠ (u6 : Value).ownBlock ∧ some k_ ≠ (u7 : Value).ownBlock ∧ k_ ≠ gb434 ∧ k_ ≠ gb435 ∧ k_ ≠ gb436) (.slice (some ad433) t430.length co5) t430) := ⟨h0_⟩
            have n1_ : Aside0 (Kd.R kOp 36 w17 w.heap.size (fun k_ => some k_ ≠ (.slice (some ad433) t430.length co5 : Value).ownBlock ∧ some k_ ≠ (u7 : Value).ownBlock ∧ k_ ≠ gb434 ∧ k_ ≠ gb435 ∧ k_ ≠ gb436) u6 x6_1) := ⟨h1_⟩
            have n2_ : Aside0 (Kd.R kOp 36 w17 w.heap.size (fun k_ => some k_ ≠ (.slice (some ad433) t430.length co5 : Value).ownBlock ∧ some k_ ≠ (u6 : Value).ownBlock ∧ k_ ≠ gb434 ∧ k_ ≠ gb435 ∧ k_ ≠ gb436) u7 x7_1) := ⟨h2_⟩
            have n3_ : Aside0 (w17.heap[gb434]? = some (.cells #[.int .i64 ((rd_Op t430 x18_1).f0), .int .i64 ((rd_Op t430 x18_1).f1), .string ((rd_Op t430 x18_1).f2)] 36 (0, 0))) := ⟨h3_⟩
            have n4_ : Aside0 (w17.heap[gb435]? = some (.cells #[.int .i64 0, .int .i64 0, .string (⟨#[]⟩ : ByteArray)] 36 (0, 0))) := ⟨h4_⟩
            have n5_ : Aside0 (w17.heap[gb436]? = some (.cells #[.int .i64 0, .int .i64 0, .string (⟨#[]⟩ : ByteArray)] 36 (0, 0))) := ⟨h5_⟩
            have n6_ : Aside0 (w.heap.size ≤ gb435) := ⟨h6_⟩
            have n7_ : Aside0 (w.heap.size ≤ gb435) := ⟨h7_⟩
            have n8_ : Aside0 (gb434 ≠ gb435) := ⟨h8_⟩
            have n9_ : Aside0 (gb435 ≠ gb434) := ⟨h9_⟩
            have n10_ : Aside0 (gb436 ≠ gb435) := ⟨h10_⟩
            have n11_ : Aside0 (gb435 ≠ gb436) := ⟨h11_⟩
            have n12_ : Aside0 (w.heap.size ≤ gb436) := ⟨h12_⟩
            have n13_ : Aside0 (w.heap.size ≤ gb436) := ⟨h13_⟩
            have n14_ : Aside0 (gb434 ≠ gb436) := ⟨h14_⟩
            have n15_ : Aside0 (gb436 ≠ gb434) := ⟨h15_⟩
            have n16_ : Aside0 (Below w.heap.size w w17) := ⟨h16_⟩
            clear HO_6
            clear HO_7
            clear HO_16
            clear BK434
            clear HB
            clear h0_ h1_ h2_ h3_ h4_ h5_ h6_ h7_ h8_ h9_ h10_ h11_ h12_ h13_ h14_ h15_ h16_
            have HO_16 := n0_
            have HO_6 := n1_
            have HO_7 := n2_
            have BK434 := n3_
            have BK435 := n4_
            have BK436 := n5_
            have GW435 := n6_
            have GE435 := n7_
            have NB434_435 := n8_
            have NB435_434 := n9_
            have NB436_435 := n10_
            have NB435_436 := n11_
            have GW436 := n12_
            have GE436 := n13_
            have NB434_436 := n14_
            have NB436_434 := n15_
            have HB := n16_
            clear n0_ n1_ n2_ n3_ n4_ n5_ n6_ n7_ n8_ n9_ n10_ n11_ n12_ n13_ n14_ n15_ n16_
            have hHeld : w17.cell? ⟨gb434, 0, none⟩ = some (.int .i64 ((rd_Op t430 x18_1).f0)) ∧ w17.cell? ⟨gb434, 1, none⟩ = some (.int .i64 ((rd_Op t430 x18_1).f1)) ∧ w17.cell? ⟨gb434, 2, none⟩ = some (.string ((rd_Op t430 x18_1).f2)) := hS_
            refine norm_ (a' := ?_) ?_ ?_
            rotate_left
            · simp only [putAll, Act.put, List.setIfInBounds_toArray, List.set_cons_zero, List.set_cons_succ]
              rfl
            refine one_ (i := 4) (N := none) #[true, true, true, true, true, false] rfl rfl (by kernel_rfl) (by decide) (fun K hK => ?_)
            have hs18 : w17.cell? ⟨gb435, 0, none⟩ = some (.int .i64 0) := (blk_cell BK435.out 0).trans rfl
            have hfs18 := blk_frozen BK435.out 0
            have hns18_0 := NB434_435.out
            have hns18_2 := NB436_435.out
            have hms18_0 := NB435_434.out
            have hms18_2 := NB435_436.out
            have hs19 : w17.cell? ⟨gb435, 1, none⟩ = some (.int .i64 0) := (blk_cell BK435.out 1).trans rfl
            have hfs19 := blk_frozen BK435.out 1
            have hns19_0 := NB434_435.out
            have hns19_2 := NB436_435.out
            have hms19_0 := NB435_434.out
            have hms19_2 := NB435_436.out
            have hs20 : w17.cell? ⟨gb435, 2, none⟩ = some (.string (⟨#[]⟩ : ByteArray)) := (blk_cell BK435.out 2).trans rfl
            have hfs20 := blk_frozen BK435.out 2
            have hns20_0 := NB434_435.out
            have hns20_2 := NB436_435.out
            have hms20_0 := NB435_434.out
            have hms20_2 := NB435_436.out
            refine skip_ (w1 := ?_) (by rfl) rfl ?_ ?_
            rotate_left
            · go_simp
              rfl
            refine hK.out _ _ ⟨((cell_far (p := ⟨gb435, _, none⟩) NB434_435.out _).trans (((cell_far (p := ⟨gb435, _, none⟩) NB434_435.out _).trans (((cell_far (p := ⟨gb435, _, none⟩) NB434_435.out _).trans (hHeld.1)))))), ((cell_far (p := ⟨gb435, _, none⟩) NB434_435.out _).trans (((cell_far (p := ⟨gb435, _, none⟩) NB434_435.out _).trans (((cell_far (p := ⟨gb435, _, none⟩) NB434_435.out _).trans (hHeld.2.1)))))), ((cell_far (p := ⟨gb435, _, none⟩) NB434_435.out _).trans (((cell_far (p := ⟨gb435, _, none⟩) NB434_435.out _).trans (((cell_far (p := ⟨gb435, _, none⟩) NB434_435.out _).trans (hHeld.2.2))))))⟩ (fun hHeld => ?_)
            clear hK K
            refine one_ (i := 5) (N := none) #[true, true, true, true, true, true] rfl rfl (by kernel_rfl) (by decide) (fun K hK => ?_)
            have hs21 : w17.cell? ⟨gb436, 0, none⟩ = some (.int .i64 0) := (blk_cell BK436.out 0).trans rfl
            have hfs21 := blk_frozen BK436.out 0
            have hns21_0 := NB434_436.out
            have hns21_1 := NB435_436.out
            have hms21_0 := NB436_434.out
            have hms21_1 := NB436_435.out
            have hs22 : w17.cell? ⟨gb436, 1, none⟩ = some (.int .i64 0) := (blk_cell BK436.out 1).trans rfl
            have hfs22 := blk_frozen BK436.out 1
            have hns22_0 := NB434_436.out
            have hns22_1 := NB435_436.out
            have hms22_0 := NB436_434.out
            have hms22_1 := NB436_435.out
            have hs23 : w17.cell? ⟨gb436, 2, none⟩ = some (.string (⟨#[]⟩ : ByteArray)) := (blk_cell BK436.out 2).trans rfl
            have hfs23 := blk_frozen BK436.out 2
            have hns23_0 := NB434_436.out
            have hns23_1 := NB435_436.out
            have hms23_0 := NB436_434.out
            have hms23_1 := NB436_435.out
            refine skip_ (w1 := ?_) (by rfl) rfl ?_ ?_
            rotate_left
            · go_simp
              rfl
            refine hK.out _ _ ⟨((cell_far (p := ⟨gb436, _, none⟩) NB434_436.out _).trans (((cell_far (p := ⟨gb436, _, none⟩) NB434_436.out _).trans (((cell_far (p := ⟨gb436, _, none⟩) NB434_436.out _).trans (hHeld.1)))))), ((cell_far (p := ⟨gb436, _, none⟩) NB434_436.out _).trans (((cell_far (p := ⟨gb436, _, none⟩) NB434_436.out _).trans (((cell_far (p := ⟨gb436, _, none⟩) NB434_436.out _).trans (hHeld.2.1)))))), ((cell_far (p := ⟨gb436, _, none⟩) NB434_436.out _).trans (((cell_far (p := ⟨gb436, _, none⟩) NB434_436.out _).trans (((cell_far (p := ⟨gb436, _, none⟩) NB434_436.out _).trans (hHeld.2.2))))))⟩ (fun hHeld => ?_)
            clear hK K
            refine done_ (by kernel_rfl) ?_
            have hnb24 := NB434_435.out
            have hnc24 := NB435_434.out
            have hnb25 := NB434_436.out
            have hnc25 := NB436_434.out
            have hcz26_0 : w17.cell? ⟨gb434, 0, none⟩ = some (.int .i64 ((rd_Op t430 x18_1).f0)) := (blk_cell BK434.out 0).trans rfl
            have hcz26_1 : w17.cell? ⟨gb434, 1, none⟩ = some (.int .i64 ((rd_Op t430 x18_1).f1)) := (blk_cell BK434.out 1).trans rfl
            have hcz26_2 : w17.cell? ⟨gb434, 2, none⟩ = some (.string ((rd_Op t430 x18_1).f2)) := (blk_cell BK434.out 2).trans rfl
            have hfz26_0 := blk_frozen BK434.out 0
            have hfz26_1 := blk_frozen BK434.out 1
            have hfz26_2 := blk_frozen BK434.out 2
            go_upto_if 26 with (first | ((with_reducible refine gate_callee (f := 42) rfl ?_); refine goesL_ (some 26) rfl rfl Try.func42 (by kernel_rfl) rfl #[.int .i64 ((rd_Op t430 x18_1).f0)] rfl (by (try simp only [List.map_toArray, List.map_cons, List.map_nil]); first | done | rfl | (simp only [List.length_drop, List.length_take]; rfl)) ?_; (with_reducible refine (ops_Change.calls ((rd_Op t430 x18_1).f0) t437 _ A9.out).mono ?_); rintro e w' ⟨rfl, ⟨nd, rfl⟩⟩; refine ⟨_, rfl, ?_⟩))
            (try simp only [Act.put, List.setIfInBounds_toArray, List.set_cons_zero, List.set_cons_succ])
            go_cut [8, 13, 14] (fun v8 v13 v14 wc => ∃ (kq : Nat) (x8_9 : Int) (x13_9 : Bool) (x14_9 : Bool) (x436000_9 : Int) (x436001_9 : Int) (x436002_9 : ByteArray) (x437000_9 : Int) (x437001_9 : Int) (x437002_9 : ByteArray), v8 = .int .i64 x8_9 ∧ v13 = .bool x13_9 ∧ v14 = .bool x14_9 ∧ Aside0 (pick_Ops.j2 kq l1 x6_1 x7_1 x8_9 x13_9 x14_9 t430 (t430.length : Int) x18_1 x436000_9 x436001_9 x436002_9 x437000_9 x437001_9 x437002_9 = some (r1, r2)) ∧ Aside0 (kq ≤ k1) ∧ Aside0 (Kd.R kOp 36 wc w.heap.size (fun k_ => some k_ ≠ (u7 : Value).ownBlock ∧ some k_ ≠ ((.slice (some ad433) t430.length co5) : Value).ownBlock ∧ k_ ≠ gb434 ∧ k_ ≠ gb435 ∧ k_ ≠ gb436) u6 x6_1) ∧ Aside0 (Kd.R kOp 36 wc w.heap.size (fun k_ => some k_ ≠ (u6 : Value).ownBlock ∧ some k_ ≠ ((.slice (some ad433) t430.length co5) : Value).ownBlock ∧ k_ ≠ gb434 ∧ k_ ≠ gb435 ∧ k_ ≠ gb436) u7 x7_1) ∧ Aside0 (Kd.R kOp 36 wc w.heap.size (fun k_ => some k_ ≠ (u6 : Value).ownBlock ∧ some k_ ≠ (u7 : Value).ownBlock ∧ k_ ≠ gb434 ∧ k_ ≠ gb435 ∧ k_ ≠ gb436) (.slice (some ad433) t430.length co5) t430) ∧ Aside0 (wc.heap[gb434]? = some (.cells #[.int .i64 ((rd_Op t430 x18_1).f0), .int .i64 ((rd_Op t430 x18_1).f1), .string ((rd_Op t430 x18_1).f2)] 36 (0, 0))) ∧ Aside0 (wc.heap[gb435]? = some (.cells #[.int .i64 x436000_9, .int .i64 x436001_9, .string x436002_9] 36 (0, 0))) ∧ Aside0 (wc.heap[gb436]? = some (.cells #[.int .i64 x437000_9, .int .i64 x437001_9, .string x437002_9] 36 (0, 0))) ∧ Aside0 (Below w.heap.size w wc))
            case first =>
              have H := HC10.out
              clear HC10
              by_cases c27 : t437 = true
              · subst c27
                have H1 : (if x8_1 < (l1.length : Int) then (if 0 ≤ x8_1 then (pick_Ops.j1 k1 l1 x6_1 x7_1 x8_1 true true t430 (t430.length : Int) x18_1 (rdOf false l1 x8_1) ((rd_Op t430 x18_1).f0) ((rd_Op t430 x18_1).f1) ((rd_Op t430 x18_1).f2) ((rd_Op t430 x18_1).f0) ((rd_Op t430 x18_1).f1) ((rd_Op t430 x18_1).f2) ((rd_Op t430 x18_1).f0) ((rd_Op t430 x18_1).f1) ((rd_Op t430 x18_1).f2)) else (none)) else (pick_Ops.j1 k1 l1 x6_1 x7_1 x8_1 true true t430 (t430.length : Int) x18_1 false ((rd_Op t430 x18_1).f0) ((rd_Op t430 x18_1).f1) ((rd_Op t430 x18_1).f2) ((rd_Op t430 x18_1).f0) ((rd_Op t430 x18_1).f1) ((rd_Op t430 x18_1).f2) ((rd_Op t430 x18_1).f0) ((rd_Op t430 x18_1).f1) ((rd_Op t430 x18_1).f2))) = some (r1, r2) := by rw [if_pos rfl] at H; exact H
                clear H
                have H := H1
                clear H1
                have HC28 := Aside0.mk H
                clear H
                go_upto_region 9 with (fail)
                go_cut [36] (fun v36 wc => ∃ (kq : Nat) (x36_27 : Bool), v36 = .bool x36_27 ∧ Aside0 (pick_Ops.j1 kq l1 x6_1 x7_1 x8_1 true true t430 (t430.length : Int) x18_1 x36_27 ((rd_Op t430 x18_1).f0) ((rd_Op t430 x18_1).f1) ((rd_Op t430 x18_1).f2) ((rd_Op t430 x18_1).f0) ((rd_Op t430 x18_1).f1) ((rd_Op t430 x18_1).f2) ((rd_Op t430 x18_1).f0) ((rd_Op t430 x18_1).f1) ((rd_Op t430 x18_1).f2) = some (r1, r2)) ∧ Aside0 (kq ≤ k1) ∧ Aside0 (Kd.R kOp 36 wc w.heap.size (fun k_ => some k_ ≠ (u7 : Value).ownBlock ∧ some k_ ≠ ((.slice (some ad433) t430.length co5) : Value).ownBlock ∧ k_ ≠ gb434 ∧ k_ ≠ gb435 ∧ k_ ≠ gb436) u6 x6_1) ∧ Aside0 (Kd.R kOp 36 wc w.heap.size (fun k_ => some k_ ≠ (u6 : Value).ownBlock ∧ some k_ ≠ ((.slice (some ad433) t430.length co5) : Value).ownBlock ∧ k_ ≠ gb434 ∧ k_ ≠ gb435 ∧ k_ ≠ gb436) u7 x7_1) ∧ Aside0 (Kd.R kOp 36 wc w.heap.size (fun k_ => some k_ ≠ (u6 : Value).ownBlock ∧ some k_ ≠ (u7 : Value).ownBlock ∧ k_ ≠ gb434 ∧ k_ ≠ gb435 ∧ k_ ≠ gb436) (.slice (some ad433) t430.length co5) t430) ∧ Aside0 (wc.heap[gb434]? = some (.cells #[.int .i64 ((rd_Op t430 x18_1).f0), .int .i64 ((rd_Op t430 x18_1).f1), .string ((rd_Op t430 x18_1).f2)] 36 (0, 0))) ∧ Aside0 (wc.heap[gb435]? = some (.cells #[.int .i64 ((rd_Op t430 x18_1).f0), .int .i64 ((rd_Op t430 x18_1).f1), .string ((rd_Op t430 x18_1).f2)] 36 (0, 0))) ∧ Aside0 (wc.heap[gb436]? = some (.cells #[.int .i64 ((rd_Op t430 x18_1).f0), .int .i64 ((rd_Op t430 x18_1).f1), .string ((rd_Op t430 x18_1).f2)] 36 (0, 0))) ∧ Aside0 (Below w.heap.size w wc))
                case first =>
                  have H := HC28.out
                  clear HC28
                  by_cases c29 : x8_1 < (l1.length : Int)
                  · rw [if_pos c29] at H
                    have c29b0 : decide (x8_1 < (l1.length : Int)) = true := decide_eq_true c29
                    clear c29
                    (first | rw [c29b0] | (simp only [i64_w, i32_w]; rw [c29b0]) | skip)
                    by_cases c30 : 0 ≤ x8_1
                    · rw [if_pos c30] at H
                      have c30b0 : decide (0 ≤ x8_1) = true := decide_eq_true c30
                      clear c30
                      have H' := Aside0.mk H
                      clear H
                      have p438 : 0 ≤ (x8_1 : Int) := of_decide_eq_true (by first | (with_reducible assumption) | assumption)
                      have q438 : x8_1 < (l1.length : Int) := of_decide_eq_true (by first | (with_reducible assumption) | assumption)
                      obtain ⟨ad438, e438, hx438_0⟩ := Kd.at_bool HR1.out x8_1 p438 q438
                      cases e438
                      have hn438_0 : ad438.block ≠ gb435 := Nat.ne_of_lt (Nat.lt_of_lt_of_le (by have := World.block_lt_of_cell? _ _ hx438_0; first | rwa [add_block] at this | exact this) GW435.out)
                      have hn438_1 : ad438.block ≠ gb435 := Nat.ne_of_lt (Nat.lt_of_lt_of_le (by have := World.block_lt_of_cell? _ _ hx438_0; first | rwa [add_block] at this | exact this) GW435.out)
                      have hn438_2 : ad438.block ≠ gb435 := Nat.ne_of_lt (Nat.lt_of_lt_of_le (by have := World.block_lt_of_cell? _ _ hx438_0; first | rwa [add_block] at this | exact this) GW435.out)
                      have hn438_3 : ad438.block ≠ gb436 := Nat.ne_of_lt (Nat.lt_of_lt_of_le (by have := World.block_lt_of_cell? _ _ hx438_0; first | rwa [add_block] at this | exact this) GW436.out)
                      have hn438_4 : ad438.block ≠ gb436 := Nat.ne_of_lt (Nat.lt_of_lt_of_le (by have := World.block_lt_of_cell? _ _ hx438_0; first | rwa [add_block] at this | exact this) GW436.out)
                      have hn438_5 : ad438.block ≠ gb436 := Nat.ne_of_lt (Nat.lt_of_lt_of_le (by have := World.block_lt_of_cell? _ _ hx438_0; first | rwa [add_block] at this | exact this) GW436.out)
                      replace hx438_0 := (HB.out.cell (World.block_lt_of_cell? w _ hx438_0)).trans hx438_0
                      replace hx438_0 := (cell_far (p := ⟨gb435, 0, none⟩) (by first | (rw [add_block]; exact hn438_0) | (show (Addr.add _ _).block ≠ _; rw [add_block]; exact hn438_0) | exact hn438_0) (.int .i64 ((rd_Op t430 x18_1).f0))).trans hx438_0
                      replace hx438_0 := (cell_far (p := ⟨gb435, 1, none⟩) (by first | (rw [add_block]; exact hn438_1) | (show (Addr.add _ _).block ≠ _; rw [add_block]; exact hn438_1) | exact hn438_1) (.int .i64 ((rd_Op t430 x18_1).f1))).trans hx438_0
                      replace hx438_0 := (cell_far (p := ⟨gb435, 2, none⟩) (by first | (rw [add_block]; exact hn438_2) | (show (Addr.add _ _).block ≠ _; rw [add_block]; exact hn438_2) | exact hn438_2) (.string ((rd_Op t430 x18_1).f2))).trans hx438_0
                      replace hx438_0 := (cell_far (p := ⟨gb436, 0, none⟩) (by first | (rw [add_block]; exact hn438_3) | (show (Addr.add _ _).block ≠ _; rw [add_block]; exact hn438_3) | exact hn438_3) (.int .i64 ((rd_Op t430 x18_1).f0))).trans hx438_0
                      replace hx438_0 := (cell_far (p := ⟨gb436, 1, none⟩) (by first | (rw [add_block]; exact hn438_4) | (show (Addr.add _ _).block ≠ _; rw [add_block]; exact hn438_4) | exact hn438_4) (.int .i64 ((rd_Op t430 x18_1).f1))).trans hx438_0
                      replace hx438_0 := (cell_far (p := ⟨gb436, 2, none⟩) (by first | (rw [add_block]; exact hn438_5) | (show (Addr.add _ _).block ≠ _; rw [add_block]; exact hn438_5) | exact hn438_5) (.string ((rd_Op t430 x18_1).f2))).trans hx438_0
                      clear hn438_0
                      clear hn438_1
                      clear hn438_2
                      clear hn438_3
                      clear hn438_4
                      clear hn438_5
                      replace p438 := eq_true p438
                      replace q438 := eq_true q438
                      go_wp2
                      go_meet
                      case rel => exact ⟨_, (rdOf false l1 x8_1), (by first | rfl | (simp; done) | (simp [*]; done)), H', ⟨by have := HK1.out; first | omega | exact Nat.le_refl _⟩, ⟨by (with_reducible repeat (first | apply Kd.R_alloc | apply Kd.R_drewN | apply Kd.R_drew)); exact Kd.R_mono (Kd.R_far (p := ⟨gb436, 2, none⟩) (Kd.R_far (p := ⟨gb436, 1, none⟩) (Kd.R_far (p := ⟨gb436, 0, none⟩) (Kd.R_far (p := ⟨gb435, 2, none⟩) (Kd.R_far (p := ⟨gb435, 1, none⟩) (Kd.R_far (p := ⟨gb435, 0, none⟩) (Kd.R_mono (Kd.R_mono HO_6.out (fun k_ hk => (⟨hk, hk.2.2.2.1⟩ : _ ∧ k_ ≠ gb435))) (fun k_ hk => (⟨hk, hk.1.2.2.2.2⟩ : _ ∧ k_ ≠ gb436))) (fun _ hk => hk.1.2) (.int .i64 ((rd_Op t430 x18_1).f0))) (fun _ hk => hk.1.2) (.int .i64 ((rd_Op t430 x18_1).f1))) (fun _ hk => hk.1.2) (.string ((rd_Op t430 x18_1).f2))) (fun _ hk => hk.2) (.int .i64 ((rd_Op t430 x18_1).f0))) (fun _ hk => hk.2) (.int .i64 ((rd_Op t430 x18_1).f1))) (fun _ hk => hk.2) (.string ((rd_Op t430 x18_1).f2))) (fun _ hk => ⟨hk.1.1.2.1, ⟨hk.1.1.1, ⟨hk.1.1.2.2.1, ⟨hk.1.1.2.2.2.1, hk.1.1.2.2.2.2⟩⟩⟩⟩)⟩, ⟨by (with_reducible repeat (first | apply Kd.R_alloc | apply Kd.R_drewN | apply Kd.R_drew)); exact Kd.R_mono (Kd.R_far (p := ⟨gb436, 2, none⟩) (Kd.R_far (p := ⟨gb436, 1, none⟩) (Kd.R_far (p := ⟨gb436, 0, none⟩) (Kd.R_far (p := ⟨gb435, 2, none⟩) (Kd.R_far (p := ⟨gb435, 1, none⟩) (Kd.R_far (p := ⟨gb435, 0, none⟩) (Kd.R_mono (Kd.R_mono HO_7.out (fun k_ hk => (⟨hk, hk.2.2.2.1⟩ : _ ∧ k_ ≠ gb435))) (fun k_ hk => (⟨hk, hk.1.2.2.2.2⟩ : _ ∧ k_ ≠ gb436))) (fun _ hk => hk.1.2) (.int .i64 ((rd_Op t430 x18_1).f0))) (fun _ hk => hk.1.2) (.int .i64 ((rd_Op t430 x18_1).f1))) (fun _ hk => hk.1.2) (.string ((rd_Op t430 x18_1).f2))) (fun _ hk => hk.2) (.int .i64 ((rd_Op t430 x18_1).f0))) (fun _ hk => hk.2) (.int .i64 ((rd_Op t430 x18_1).f1))) (fun _ hk => hk.2) (.string ((rd_Op t430 x18_1).f2))) (fun _ hk => ⟨hk.1.1.2.1, ⟨hk.1.1.1, ⟨hk.1.1.2.2.1, ⟨hk.1.1.2.2.2.1, hk.1.1.2.2.2.2⟩⟩⟩⟩)⟩, ⟨by (with_reducible repeat (first | apply Kd.R_alloc | apply Kd.R_drewN | apply Kd.R_drew)); exact Kd.R_mono (Kd.R_far (p := ⟨gb436, 2, none⟩) (Kd.R_far (p := ⟨gb436, 1, none⟩) (Kd.R_far (p := ⟨gb436, 0, none⟩) (Kd.R_far (p := ⟨gb435, 2, none⟩) (Kd.R_far (p := ⟨gb435, 1, none⟩) (Kd.R_far (p := ⟨gb435, 0, none⟩) (Kd.R_mono (Kd.R_mono HO_16.out (fun k_ hk => (⟨hk, hk.2.2.2.1⟩ : _ ∧ k_ ≠ gb435))) (fun k_ hk => (⟨hk, hk.1.2.2.2.2⟩ : _ ∧ k_ ≠ gb436))) (fun _ hk => hk.1.2) (.int .i64 ((rd_Op t430 x18_1).f0))) (fun _ hk => hk.1.2) (.int .i64 ((rd_Op t430 x18_1).f1))) (fun _ hk => hk.1.2) (.string ((rd_Op t430 x18_1).f2))) (fun _ hk => hk.2) (.int .i64 ((rd_Op t430 x18_1).f0))) (fun _ hk => hk.2) (.int .i64 ((rd_Op t430 x18_1).f1))) (fun _ hk => hk.2) (.string ((rd_Op t430 x18_1).f2))) (fun _ hk => ⟨hk.1.1.1, ⟨hk.1.1.2.1, ⟨hk.1.1.2.2.1, ⟨hk.1.1.2.2.2.1, hk.1.1.2.2.2.2⟩⟩⟩⟩)⟩, ⟨by (with_reducible repeat (first | refine blk_drewN ?_ _ | refine blk_drew ?_ | refine blk_alloc ?_ _)); refine blk_far ?_ NB434_436.out _; (with_reducible repeat (first | refine blk_drewN ?_ _ | refine blk_drew ?_ | refine blk_alloc ?_ _)); refine blk_far ?_ NB434_436.out _; (with_reducible repeat (first | refine blk_drewN ?_ _ | refine blk_drew ?_ | refine blk_alloc ?_ _)); refine blk_far ?_ NB434_436.out _; (with_reducible repeat (first | refine blk_drewN ?_ _ | refine blk_drew ?_ | refine blk_alloc ?_ _)); refine blk_far ?_ NB434_435.out _; (with_reducible repeat (first | refine blk_drewN ?_ _ | refine blk_drew ?_ | refine blk_alloc ?_ _)); refine blk_far ?_ NB434_435.out _; (with_reducible repeat (first | refine blk_drewN ?_ _ | refine blk_drew ?_ | refine blk_alloc ?_ _)); refine blk_far ?_ NB434_435.out _; (with_reducible repeat (first | refine blk_drewN ?_ _ | refine blk_drew ?_ | refine blk_alloc ?_ _)); exact BK434.out⟩, ⟨by (with_reducible repeat (first | refine blk_drewN ?_ _ | refine blk_drew ?_ | refine blk_alloc ?_ _)); refine blk_far ?_ NB435_436.out _; (with_reducible repeat (first | refine blk_drewN ?_ _ | refine blk_drew ?_ | refine blk_alloc ?_ _)); refine blk_far ?_ NB435_436.out _; (with_reducible repeat (first | refine blk_drewN ?_ _ | refine blk_drew ?_ | refine blk_alloc ?_ _)); refine blk_far ?_ NB435_436.out _; (with_reducible repeat (first | refine blk_drewN ?_ _ | refine blk_drew ?_ | refine blk_alloc ?_ _)); refine blk_put (cs := #[.int .i64 ((rd_Op t430 x18_1).f0), .int .i64 ((rd_Op t430 x18_1).f1), .string (⟨#[]⟩ : ByteArray)]) ?_ 2 _ rfl; (with_reducible repeat (first | refine blk_drewN ?_ _ | refine blk_drew ?_ | refine blk_alloc ?_ _)); refine blk_put (cs := #[.int .i64 ((rd_Op t430 x18_1).f0), .int .i64 0, .string (⟨#[]⟩ : ByteArray)]) ?_ 1 _ rfl; (with_reducible repeat (first | refine blk_drewN ?_ _ | refine blk_drew ?_ | refine blk_alloc ?_ _)); refine blk_put (cs := #[.int .i64 0, .int .i64 0, .string (⟨#[]⟩ : ByteArray)]) ?_ 0 _ rfl; (with_reducible repeat (first | refine blk_drewN ?_ _ | refine blk_drew ?_ | refine blk_alloc ?_ _)); exact BK435.out⟩, ⟨by (with_reducible repeat (first | refine blk_drewN ?_ _ | refine blk_drew ?_ | refine blk_alloc ?_ _)); refine blk_put (cs := #[.int .i64 ((rd_Op t430 x18_1).f0), .int .i64 ((rd_Op t430 x18_1).f1), .string (⟨#[]⟩ : ByteArray)]) ?_ 2 _ rfl; (with_reducible repeat (first | refine blk_drewN ?_ _ | refine blk_drew ?_ | refine blk_alloc ?_ _)); refine blk_put (cs := #[.int .i64 ((rd_Op t430 x18_1).f0), .int .i64 0, .string (⟨#[]⟩ : ByteArray)]) ?_ 1 _ rfl; (with_reducible repeat (first | refine blk_drewN ?_ _ | refine blk_drew ?_ | refine blk_alloc ?_ _)); refine blk_put (cs := #[.int .i64 0, .int .i64 0, .string (⟨#[]⟩ : ByteArray)]) ?_ 0 _ rfl; (with_reducible repeat (first | refine blk_drewN ?_ _ | refine blk_drew ?_ | refine blk_alloc ?_ _)); refine blk_far ?_ NB436_435.out _; (with_reducible repeat (first | refine blk_drewN ?_ _ | refine blk_drew ?_ | refine blk_alloc ?_ _)); refine blk_far ?_ NB436_435.out _; (with_reducible repeat (first | refine blk_drewN ?_ _ | refine blk_drew ?_ | refine blk_alloc ?_ _)); refine blk_far ?_ NB436_435.out _; (with_reducible repeat (first | refine blk_drewN ?_ _ | refine blk_drew ?_ | refine blk_alloc ?_ _)); exact BK436.out⟩, ⟨by repeat (first | (with_reducible first | exact HB.out | apply below_alloc | apply pw_below_drewN | apply below_drew1 | refine below_set ?_ GE434.out | refine below_set ?_ GE435.out | refine below_set ?_ GE436.out) | exact HB.out)⟩⟩
                    · rw [if_neg c30] at H
                      exact absurd H (by simp)
                  · rw [if_neg c29] at H
                    have c29b0 : decide (x8_1 < (l1.length : Int)) = false := decide_eq_false c29
                    clear c29
                    (first | rw [c29b0] | (simp only [i64_w, i32_w]; rw [c29b0]) | skip)
                    have H' := Aside0.mk H
                    clear H
                    go_wp2
                    go_meet
                    case rel => exact ⟨_, (false), (by first | rfl | (simp; done) | (simp [*]; done)), H', ⟨by have := HK1.out; first | omega | exact Nat.le_refl _⟩, ⟨by (with_reducible repeat (first | apply Kd.R_alloc | apply Kd.R_drewN | apply Kd.R_drew)); exact Kd.R_mono (Kd.R_far (p := ⟨gb436, 2, none⟩) (Kd.R_far (p := ⟨gb436, 1, none⟩) (Kd.R_far (p := ⟨gb436, 0, none⟩) (Kd.R_far (p := ⟨gb435, 2, none⟩) (Kd.R_far (p := ⟨gb435, 1, none⟩) (Kd.R_far (p := ⟨gb435, 0, none⟩) (Kd.R_mono (Kd.R_mono HO_6.out (fun k_ hk => (⟨hk, hk.2.2.2.1⟩ : _ ∧ k_ ≠ gb435))) (fun k_ hk => (⟨hk, hk.1.2.2.2.2⟩ : _ ∧ k_ ≠ gb436))) (fun _ hk => hk.1.2) (.int .i64 ((rd_Op t430 x18_1).f0))) (fun _ hk => hk.1.2) (.int .i64 ((rd_Op t430 x18_1).f1))) (fun _ hk => hk.1.2) (.string ((rd_Op t430 x18_1).f2))) (fun _ hk => hk.2) (.int .i64 ((rd_Op t430 x18_1).f0))) (fun _ hk => hk.2) (.int .i64 ((rd_Op t430 x18_1).f1))) (fun _ hk => hk.2) (.string ((rd_Op t430 x18_1).f2))) (fun _ hk => ⟨hk.1.1.2.1, ⟨hk.1.1.1, ⟨hk.1.1.2.2.1, ⟨hk.1.1.2.2.2.1, hk.1.1.2.2.2.2⟩⟩⟩⟩)⟩, ⟨by (with_reducible repeat (first | apply Kd.R_alloc | apply Kd.R_drewN | apply Kd.R_drew)); exact Kd.R_mono (Kd.R_far (p := ⟨gb436, 2, none⟩) (Kd.R_far (p := ⟨gb436, 1, none⟩) (Kd.R_far (p := ⟨gb436, 0, none⟩) (Kd.R_far (p := ⟨gb435, 2, none⟩) (Kd.R_far (p := ⟨gb435, 1, none⟩) (Kd.R_far (p := ⟨gb435, 0, none⟩) (Kd.R_mono (Kd.R_mono HO_7.out (fun k_ hk => (⟨hk, hk.2.2.2.1⟩ : _ ∧ k_ ≠ gb435))) (fun k_ hk => (⟨hk, hk.1.2.2.2.2⟩ : _ ∧ k_ ≠ gb436))) (fun _ hk => hk.1.2) (.int .i64 ((rd_Op t430 x18_1).f0))) (fun _ hk => hk.1.2) (.int .i64 ((rd_Op t430 x18_1).f1))) (fun _ hk => hk.1.2) (.string ((rd_Op t430 x18_1).f2))) (fun _ hk => hk.2) (.int .i64 ((rd_Op t430 x18_1).f0))) (fun _ hk => hk.2) (.int .i64 ((rd_Op t430 x18_1).f1))) (fun _ hk => hk.2) (.string ((rd_Op t430 x18_1).f2))) (fun _ hk => ⟨hk.1.1.2.1, ⟨hk.1.1.1, ⟨hk.1.1.2.2.1, ⟨hk.1.1.2.2.2.1, hk.1.1.2.2.2.2⟩⟩⟩⟩)⟩, ⟨by (with_reducible repeat (first | apply Kd.R_alloc | apply Kd.R_drewN | apply Kd.R_drew)); exact Kd.R_mono (Kd.R_far (p := ⟨gb436, 2, none⟩) (Kd.R_far (p := ⟨gb436, 1, none⟩) (Kd.R_far (p := ⟨gb436, 0, none⟩) (Kd.R_far (p := ⟨gb435, 2, none⟩) (Kd.R_far (p := ⟨gb435, 1, none⟩) (Kd.R_far (p := ⟨gb435, 0, none⟩) (Kd.R_mono (Kd.R_mono HO_16.out (fun k_ hk => (⟨hk, hk.2.2.2.1⟩ : _ ∧ k_ ≠ gb435))) (fun k_ hk => (⟨hk, hk.1.2.2.2.2⟩ : _ ∧ k_ ≠ gb436))) (fun _ hk => hk.1.2) (.int .i64 ((rd_Op t430 x18_1).f0))) (fun _ hk => hk.1.2) (.int .i64 ((rd_Op t430 x18_1).f1))) (fun _ hk => hk.1.2) (.string ((rd_Op t430 x18_1).f2))) (fun _ hk => hk.2) (.int .i64 ((rd_Op t430 x18_1).f0))) (fun _ hk => hk.2) (.int .i64 ((rd_Op t430 x18_1).f1))) (fun _ hk => hk.2) (.string ((rd_Op t430 x18_1).f2))) (fun _ hk => ⟨hk.1.1.1, ⟨hk.1.1.2.1, ⟨hk.1.1.2.2.1, ⟨hk.1.1.2.2.2.1, hk.1.1.2.2.2.2⟩⟩⟩⟩)⟩, ⟨by (with_reducible repeat (first | refine blk_drewN ?_ _ | refine blk_drew ?_ | refine blk_alloc ?_ _)); refine blk_far ?_ NB434_436.out _; (with_reducible repeat (first | refine blk_drewN ?_ _ | refine blk_drew ?_ | refine blk_alloc ?_ _)); refine blk_far ?_ NB434_436.out _; (with_reducible repeat (first | refine blk_drewN ?_ _ | refine blk_drew ?_ | refine blk_alloc ?_ _)); refine blk_far ?_ NB434_436.out _; (with_reducible repeat (first | refine blk_drewN ?_ _ | refine blk_drew ?_ | refine blk_alloc ?_ _)); refine blk_far ?_ NB434_435.out _; (with_reducible repeat (first | refine blk_drewN ?_ _ | refine blk_drew ?_ | refine blk_alloc ?_ _)); refine blk_far ?_ NB434_435.out _; (with_reducible repeat (first | refine blk_drewN ?_ _ | refine blk_drew ?_ | refine blk_alloc ?_ _)); refine blk_far ?_ NB434_435.out _; (with_reducible repeat (first | refine blk_drewN ?_ _ | refine blk_drew ?_ | refine blk_alloc ?_ _)); exact BK434.out⟩, ⟨by (with_reducible repeat (first | refine blk_drewN ?_ _ | refine blk_drew ?_ | refine blk_alloc ?_ _)); refine blk_far ?_ NB435_436.out _; (with_reducible repeat (first | refine blk_drewN ?_ _ | refine blk_drew ?_ | refine blk_alloc ?_ _)); refine blk_far ?_ NB435_436.out _; (with_reducible repeat (first | refine blk_drewN ?_ _ | refine blk_drew ?_ | refine blk_alloc ?_ _)); refine blk_far ?_ NB435_436.out _; (with_reducible repeat (first | refine blk_drewN ?_ _ | refine blk_drew ?_ | refine blk_alloc ?_ _)); refine blk_put (cs := #[.int .i64 ((rd_Op t430 x18_1).f0), .int .i64 ((rd_Op t430 x18_1).f1), .string (⟨#[]⟩ : ByteArray)]) ?_ 2 _ rfl; (with_reducible repeat (first | refine blk_drewN ?_ _ | refine blk_drew ?_ | refine blk_alloc ?_ _)); refine blk_put (cs := #[.int .i64 ((rd_Op t430 x18_1).f0), .int .i64 0, .string (⟨#[]⟩ : ByteArray)]) ?_ 1 _ rfl; (with_reducible repeat (first | refine blk_drewN ?_ _ | refine blk_drew ?_ | refine blk_alloc ?_ _)); refine blk_put (cs := #[.int .i64 0, .int .i64 0, .string (⟨#[]⟩ : ByteArray)]) ?_ 0 _ rfl; (with_reducible repeat (first | refine blk_drewN ?_ _ | refine blk_drew ?_ | refine blk_alloc ?_ _)); exact BK435.out⟩, ⟨by (with_reducible repeat (first | refine blk_drewN ?_ _ | refine blk_drew ?_ | refine blk_alloc ?_ _)); refine blk_put (cs := #[.int .i64 ((rd_Op t430 x18_1).f0), .int .i64 ((rd_Op t430 x18_1).f1), .string (⟨#[]⟩ : ByteArray)]) ?_ 2 _ rfl; (with_reducible repeat (first | refine blk_drewN ?_ _ | refine blk_drew ?_ | refine blk_alloc ?_ _)); refine blk_put (cs := #[.int .i64 ((rd_Op t430 x18_1).f0), .int .i64 0, .string (⟨#[]⟩ : ByteArray)]) ?_ 1 _ rfl; (with_reducible repeat (first | refine blk_drewN ?_ _ | refine blk_drew ?_ | refine blk_alloc ?_ _)); refine blk_put (cs := #[.int .i64 0, .int .i64 0, .string (⟨#[]⟩ : ByteArray)]) ?_ 0 _ rfl; (with_reducible repeat (first | refine blk_drewN ?_ _ | refine blk_drew ?_ | refine blk_alloc ?_ _)); refine blk_far ?_ NB436_435.out _; (with_reducible repeat (first | refine blk_drewN ?_ _ | refine blk_drew ?_ | refine blk_alloc ?_ _)); refine blk_far ?_ NB436_435.out _; (with_reducible repeat (first | refine blk_drewN ?_ _ | refine blk_drew ?_ | refine blk_alloc ?_ _)); refine blk_far ?_ NB436_435.out _; (with_reducible repeat (first | refine blk_drewN ?_ _ | refine blk_drew ?_ | refine blk_alloc ?_ _)); exact BK436.out⟩, ⟨by repeat (first | (with_reducible first | exact HB.out | apply below_alloc | apply pw_below_drewN | apply below_drew1 | refine below_set ?_ GE434.out | refine below_set ?_ GE435.out | refine below_set ?_ GE436.out) | exact HB.out)⟩⟩
                case rest =>
                  clear HC28
                  try clear c1
                  try clear c2
                  try clear p2
                  try clear c3
                  try clear c4
                  try clear p4
                  try clear q4
                  try clear hx4
                  try clear c6
                  try clear c6b0
                  try clear c7
                  try clear c7b0
                  try clear c8
                  try clear c8b0
                  try clear c24
                  try clear c25
                  try clear c26
                  try clear c27
                  try clear c29
                  try clear c29b0
                  try clear c30
                  try clear c30b0
                  try clear hcz12_0
                  try clear hcz12_1
                  try clear hcz12_2
                  try clear hcz26_0
                  try clear hcz26_1
                  try clear hcz26_2
                  try clear hfz12_0
                  try clear hfz12_1
                  try clear hfz12_2
                  try clear hfz26_0
                  try clear hfz26_1
                  try clear hfz26_2
                  try clear hx433_0
                  try clear hx433_1
                  try clear hx433_2
                  try clear hx438_0
                  try clear p2
                  try clear p433
                  try clear p438
                  try clear q433
                  try clear q438
                  obtain ⟨kq, x36_27, rfl, HA, HJ27, HO_6, HO_7, HO_16, BK434, BK435, BK436, HB⟩ := hcut
                  cases kq with
                  | zero => exact absurd HA.out (by simp [pick_Ops.j1])
                  | succ kj27 =>
                    have H := HA.out
                    clear HA
                    simp only [pick_Ops.j1] at H
                    by_cases c31 : x36_27 = true
                    · subst c31
                      have H1 : ((pick_other.f ((rd_Op t430 x18_1).f0) ((rd_Op t430 x18_1).f1) ((rd_Op t430 x18_1).f2) 4).bind fun bt439 => (pick_Ops.j2 kj27 l1 x6_1 x7_1 (wrap64 (x8_1 + 1)) true bt439.2.2.2 t430 (t430.length : Int) x18_1 ((rd_Op t430 x18_1).f0) ((rd_Op t430 x18_1).f1) ((rd_Op t430 x18_1).f2) bt439.1 bt439.2.1 bt439.2.2.1)) = some (r1, r2) := by rw [if_pos rfl] at H; exact H
                      clear H
                      have H := H1
                      clear H1
                      replace H := Option.bind_eq_some_iff.mp H
                      obtain ⟨⟨t439, t440, t441, t442⟩, A320, H⟩ := H
                      replace H : (pick_Ops.j2 kj27 l1 x6_1 x7_1 (wrap64 (x8_1 + 1)) true t442 t430 (t430.length : Int) x18_1 ((rd_Op t430 x18_1).f0) ((rd_Op t430 x18_1).f1) ((rd_Op t430 x18_1).f2) t439 t440 t441) = some (r1, r2) := H
                      have A32 := Aside0.mk A320
                      clear A320
                      have H' := Aside0.mk H
                      clear H
                      have hnb33 := NB434_435.out
                      have hnc33 := NB435_434.out
                      have hnb34 := NB434_436.out
                      have hnc34 := NB436_434.out
                      have hcz35_0 : wc.cell? ⟨gb434, 0, none⟩ = some (.int .i64 ((rd_Op t430 x18_1).f0)) := (blk_cell BK434.out 0).trans rfl
                      have hcz35_1 : wc.cell? ⟨gb434, 1, none⟩ = some (.int .i64 ((rd_Op t430 x18_1).f1)) := (blk_cell BK434.out 1).trans rfl
                      have hcz35_2 : wc.cell? ⟨gb434, 2, none⟩ = some (.string ((rd_Op t430 x18_1).f2)) := (blk_cell BK434.out 2).trans rfl
                      have hfz35_0 := blk_frozen BK434.out 0
                      have hfz35_1 := blk_frozen BK434.out 1
                      have hfz35_2 := blk_frozen BK434.out 2
                      go_wp2_with (first | ((with_reducible refine gate_callee (f := 43) rfl ?_); refine goesL_ (some 39) rfl rfl Try.func43 (by kernel_rfl) rfl #[.agg #[.int .i64 ((rd_Op t430 x18_1).f0), .int .i64 ((rd_Op t430 x18_1).f1), .string ((rd_Op t430 x18_1).f2)], .int .i64 4] rfl (by (try simp only [List.map_toArray, List.map_cons, List.map_nil]); first | done | rfl | (simp only [List.length_drop, List.length_take]; rfl)) ?_; (with_reducible refine (pick_other.calls ((rd_Op t430 x18_1).f0) ((rd_Op t430 x18_1).f1) ((rd_Op t430 x18_1).f2) 4 t439 t440 t441 t442 _ A32.out).mono ?_); rintro e w36 ⟨rfl, hb⟩; refine ⟨_, rfl, ?_⟩; have n0_ := Aside0.mk (Kd.R_below HO_6.out hb); have n1_ := Aside0.mk (Kd.R_below HO_7.out hb); have n2_ := Aside0.mk (Kd.R_below HO_16.out hb); have n3_ := Aside0.mk (blk_below (g := gb434) (o := .cells #[.int .i64 ((rd_Op t430 x18_1).f0), .int .i64 ((rd_Op t430 x18_1).f1), .string ((rd_Op t430 x18_1).f2)] 36 (0, 0)) BK434.out hb); have n4_ := Aside0.mk (blk_below (g := gb435) (o := .cells #[.int .i64 ((rd_Op t430 x18_1).f0), .int .i64 ((rd_Op t430 x18_1).f1), .string ((rd_Op t430 x18_1).f2)] 36 (0, 0)) BK435.out hb); have n5_ := Aside0.mk (blk_below (g := gb436) (o := .cells #[.int .i64 ((rd_Op t430 x18_1).f0), .int .i64 ((rd_Op t430 x18_1).f1), .string ((rd_Op t430 x18_1).f2)] 36 (0, 0)) BK436.out hb); have n6_ := Aside0.mk (below_step (by repeat (first | (with_reducible first | exact HB.out | apply below_alloc | apply pw_below_drewN | apply below_drew1 | refine below_set ?_ GE434.out | refine below_set ?_ GE435.out | refine below_set ?_ GE436.out) | exact HB.out)) hb); clear HO_6; clear HO_7; clear HO_16; clear BK434; clear BK435; clear BK436; clear HB; have HO_6 := n0_; have HO_7 := n1_; have HO_16 := n2_; have BK434 := n3_; have BK435 := n4_; have BK436 := n5_; have HB := n6_; clear n0_ n1_ n2_ n3_ n4_ n5_ n6_; (try clear hb); (try clear hb2); (try clear hk); (try clear hi); have hnb37 := NB436_435.out; have hnc37 := NB435_436.out; have hcz38_0 : w36.cell? ⟨gb436, 0, none⟩ = some (.int .i64 ((rd_Op t430 x18_1).f0)) := (blk_cell BK436.out 0).trans rfl; have hcz38_1 : w36.cell? ⟨gb436, 1, none⟩ = some (.int .i64 ((rd_Op t430 x18_1).f1)) := (blk_cell BK436.out 1).trans rfl; have hcz38_2 : w36.cell? ⟨gb436, 2, none⟩ = some (.string ((rd_Op t430 x18_1).f2)) := (blk_cell BK436.out 2).trans rfl; have hfz38_0 := blk_frozen BK436.out 0; have hfz38_1 := blk_frozen BK436.out 1; have hfz38_2 := blk_frozen BK436.out 2))
                      go_meet
                      case rel => exact ⟨_, (wrap64 (x8_1 + 1)), (true), (t442), (((rd_Op t430 x18_1).f0)), (((rd_Op t430 x18_1).f1)), (((rd_Op t430 x18_1).f2)), (t439), (t440), (t441), (by first | rfl | (simp; done) | (simp [*]; done)), (by first | rfl | (simp; done) | (simp [*]; done)), (by first | rfl | (simp; done) | (simp [*]; done)), H', ⟨by have := HK1.out; have := HJ27.out; first | omega | exact Nat.le_refl _⟩, ⟨by (with_reducible repeat (first | apply Kd.R_alloc | apply Kd.R_drewN | apply Kd.R_drew)); exact Kd.R_mono (Kd.R_far (p := ⟨gb436, 2, none⟩) (Kd.R_far (p := ⟨gb436, 1, none⟩) (Kd.R_far (p := ⟨gb436, 0, none⟩) (Kd.R_mono HO_6.out (fun k_ hk => (⟨hk, hk.2.2.2.2⟩ : _ ∧ k_ ≠ gb436))) (fun _ hk => hk.2) (.int .i64 t439)) (fun _ hk => hk.2) (.int .i64 t440)) (fun _ hk => hk.2) (.string t441)) (fun _ hk => ⟨hk.1.1, ⟨hk.1.2.1, ⟨hk.1.2.2.1, ⟨hk.1.2.2.2.1, hk.1.2.2.2.2⟩⟩⟩⟩)⟩, ⟨by (with_reducible repeat (first | apply Kd.R_alloc | apply Kd.R_drewN | apply Kd.R_drew)); exact Kd.R_mono (Kd.R_far (p := ⟨gb436, 2, none⟩) (Kd.R_far (p := ⟨gb436, 1, none⟩) (Kd.R_far (p := ⟨gb436, 0, none⟩) (Kd.R_mono HO_7.out (fun k_ hk => (⟨hk, hk.2.2.2.2⟩ : _ ∧ k_ ≠ gb436))) (fun _ hk => hk.2) (.int .i64 t439)) (fun _ hk => hk.2) (.int .i64 t440)) (fun _ hk => hk.2) (.string t441)) (fun _ hk => ⟨hk.1.1, ⟨hk.1.2.1, ⟨hk.1.2.2.1, ⟨hk.1.2.2.2.1, hk.1.2.2.2.2⟩⟩⟩⟩)⟩, ⟨by (with_reducible repeat (first | apply Kd.R_alloc | apply Kd.R_drewN | apply Kd.R_drew)); exact Kd.R_mono (Kd.R_far (p := ⟨gb436, 2, none⟩) (Kd.R_far (p := ⟨gb436, 1, none⟩) (Kd.R_far (p := ⟨gb436, 0, none⟩) (Kd.R_mono HO_16.out (fun k_ hk => (⟨hk, hk.2.2.2.2⟩ : _ ∧ k_ ≠ gb436))) (fun _ hk => hk.2) (.int .i64 t439)) (fun _ hk => hk.2) (.int .i64 t440)) (fun _ hk => hk.2) (.string t441)) (fun _ hk => ⟨hk.1.1, ⟨hk.1.2.1, ⟨hk.1.2.2.1, ⟨hk.1.2.2.2.1, hk.1.2.2.2.2⟩⟩⟩⟩)⟩, ⟨by (with_reducible repeat (first | refine blk_drewN ?_ _ | refine blk_drew ?_ | refine blk_alloc ?_ _)); refine blk_far ?_ NB434_436.out _; (with_reducible repeat (first | refine blk_drewN ?_ _ | refine blk_drew ?_ | refine blk_alloc ?_ _)); refine blk_far ?_ NB434_436.out _; (with_reducible repeat (first | refine blk_drewN ?_ _ | refine blk_drew ?_ | refine blk_alloc ?_ _)); refine blk_far ?_ NB434_436.out _; (with_reducible repeat (first | refine blk_drewN ?_ _ | refine blk_drew ?_ | refine blk_alloc ?_ _)); exact BK434.out⟩, ⟨by (with_reducible repeat (first | refine blk_drewN ?_ _ | refine blk_drew ?_ | refine blk_alloc ?_ _)); refine blk_far ?_ NB435_436.out _; (with_reducible repeat (first | refine blk_drewN ?_ _ | refine blk_drew ?_ | refine blk_alloc ?_ _)); refine blk_far ?_ NB435_436.out _; (with_reducible repeat (first | refine blk_drewN ?_ _ | refine blk_drew ?_ | refine blk_alloc ?_ _)); refine blk_far ?_ NB435_436.out _; (with_reducible repeat (first | refine blk_drewN ?_ _ | refine blk_drew ?_ | refine blk_alloc ?_ _)); exact BK435.out⟩, ⟨by (with_reducible repeat (first | refine blk_drewN ?_ _ | refine blk_drew ?_ | refine blk_alloc ?_ _)); refine blk_put (cs := #[.int .i64 t439, .int .i64 t440, .string ((rd_Op t430 x18_1).f2)]) ?_ 2 _ rfl; (with_reducible repeat (first | refine blk_drewN ?_ _ | refine blk_drew ?_ | refine blk_alloc ?_ _)); refine blk_put (cs := #[.int .i64 t439, .int .i64 ((rd_Op t430 x18_1).f1), .string ((rd_Op t430 x18_1).f2)]) ?_ 1 _ rfl; (with_reducible repeat (first | refine blk_drewN ?_ _ | refine blk_drew ?_ | refine blk_alloc ?_ _)); refine blk_put (cs := #[.int .i64 ((rd_Op t430 x18_1).f0), .int .i64 ((rd_Op t430 x18_1).f1), .string ((rd_Op t430 x18_1).f2)]) ?_ 0 _ rfl; (with_reducible repeat (first | refine blk_drewN ?_ _ | refine blk_drew ?_ | refine blk_alloc ?_ _)); exact BK436.out⟩, ⟨by repeat (first | (with_reducible first | exact HB.out | apply below_alloc | apply pw_below_drewN | apply below_drew1 | refine below_set ?_ GE434.out | refine below_set ?_ GE435.out | refine below_set ?_ GE436.out) | exact HB.out)⟩⟩
                    · replace c31 := Bool.eq_false_iff.mpr c31
                      subst c31
                      have H1 : ((pick_other.f ((rd_Op t430 x18_1).f0) ((rd_Op t430 x18_1).f1) ((rd_Op t430 x18_1).f2) 3).bind fun bt443 => (pick_Ops.j2 kj27 l1 x6_1 x7_1 (wrap64 (x8_1 + 1)) bt443.2.2.2 true t430 (t430.length : Int) x18_1 bt443.1 bt443.2.1 bt443.2.2.1 ((rd_Op t430 x18_1).f0) ((rd_Op t430 x18_1).f1) ((rd_Op t430 x18_1).f2))) = some (r1, r2) := by rw [if_neg (show ¬ (false = true) by decide)] at H; exact H
                      clear H
                      have H := H1
                      clear H1
                      replace H := Option.bind_eq_some_iff.mp H
                      obtain ⟨⟨t443, t444, t445, t446⟩, A390, H⟩ := H
                      replace H : (pick_Ops.j2 kj27 l1 x6_1 x7_1 (wrap64 (x8_1 + 1)) t446 true t430 (t430.length : Int) x18_1 t443 t444 t445 ((rd_Op t430 x18_1).f0) ((rd_Op t430 x18_1).f1) ((rd_Op t430 x18_1).f2)) = some (r1, r2) := H
                      have A39 := Aside0.mk A390
                      clear A390
                      have H' := Aside0.mk H
                      clear H
                      have hnb40 := NB434_435.out
                      have hnc40 := NB435_434.out
                      have hnb41 := NB434_436.out
                      have hnc41 := NB436_434.out
                      have hcz42_0 : wc.cell? ⟨gb434, 0, none⟩ = some (.int .i64 ((rd_Op t430 x18_1).f0)) := (blk_cell BK434.out 0).trans rfl
                      have hcz42_1 : wc.cell? ⟨gb434, 1, none⟩ = some (.int .i64 ((rd_Op t430 x18_1).f1)) := (blk_cell BK434.out 1).trans rfl
                      have hcz42_2 : wc.cell? ⟨gb434, 2, none⟩ = some (.string ((rd_Op t430 x18_1).f2)) := (blk_cell BK434.out 2).trans rfl
                      have hfz42_0 := blk_frozen BK434.out 0
                      have hfz42_1 := blk_frozen BK434.out 1
                      have hfz42_2 := blk_frozen BK434.out 2
                      go_wp2_with (first | ((with_reducible refine gate_callee (f := 43) rfl ?_); refine goesL_ (some 44) rfl rfl Try.func43 (by kernel_rfl) rfl #[.agg #[.int .i64 ((rd_Op t430 x18_1).f0), .int .i64 ((rd_Op t430 x18_1).f1), .string ((rd_Op t430 x18_1).f2)], .int .i64 3] rfl (by (try simp only [List.map_toArray, List.map_cons, List.map_nil]); first | done | rfl | (simp only [List.length_drop, List.length_take]; rfl)) ?_; (with_reducible refine (pick_other.calls ((rd_Op t430 x18_1).f0) ((rd_Op t430 x18_1).f1) ((rd_Op t430 x18_1).f2) 3 t443 t444 t445 t446 _ A39.out).mono ?_); rintro e w43 ⟨rfl, hb⟩; refine ⟨_, rfl, ?_⟩; have n0_ := Aside0.mk (Kd.R_below HO_6.out hb); have n1_ := Aside0.mk (Kd.R_below HO_7.out hb); have n2_ := Aside0.mk (Kd.R_below HO_16.out hb); have n3_ := Aside0.mk (blk_below (g := gb434) (o := .cells #[.int .i64 ((rd_Op t430 x18_1).f0), .int .i64 ((rd_Op t430 x18_1).f1), .string ((rd_Op t430 x18_1).f2)] 36 (0, 0)) BK434.out hb); have n4_ := Aside0.mk (blk_below (g := gb435) (o := .cells #[.int .i64 ((rd_Op t430 x18_1).f0), .int .i64 ((rd_Op t430 x18_1).f1), .string ((rd_Op t430 x18_1).f2)] 36 (0, 0)) BK435.out hb); have n5_ := Aside0.mk (blk_below (g := gb436) (o := .cells #[.int .i64 ((rd_Op t430 x18_1).f0), .int .i64 ((rd_Op t430 x18_1).f1), .string ((rd_Op t430 x18_1).f2)] 36 (0, 0)) BK436.out hb); have n6_ := Aside0.mk (below_step (by repeat (first | (with_reducible first | exact HB.out | apply below_alloc | apply pw_below_drewN | apply below_drew1 | refine below_set ?_ GE434.out | refine below_set ?_ GE435.out | refine below_set ?_ GE436.out) | exact HB.out)) hb); clear HO_6; clear HO_7; clear HO_16; clear BK434; clear BK435; clear BK436; clear HB; have HO_6 := n0_; have HO_7 := n1_; have HO_16 := n2_; have BK434 := n3_; have BK435 := n4_; have BK436 := n5_; have HB := n6_; clear n0_ n1_ n2_ n3_ n4_ n5_ n6_; (try clear hb); (try clear hb2); (try clear hk); (try clear hi); have hnb44 := NB435_436.out; have hnc44 := NB436_435.out; have hcz45_0 : w43.cell? ⟨gb435, 0, none⟩ = some (.int .i64 ((rd_Op t430 x18_1).f0)) := (blk_cell BK435.out 0).trans rfl; have hcz45_1 : w43.cell? ⟨gb435, 1, none⟩ = some (.int .i64 ((rd_Op t430 x18_1).f1)) := (blk_cell BK435.out 1).trans rfl; have hcz45_2 : w43.cell? ⟨gb435, 2, none⟩ = some (.string ((rd_Op t430 x18_1).f2)) := (blk_cell BK435.out 2).trans rfl; have hfz45_0 := blk_frozen BK435.out 0; have hfz45_1 := blk_frozen BK435.out 1; have hfz45_2 := blk_frozen BK435.out 2))
                      go_meet
                      case rel => exact ⟨_, (wrap64 (x8_1 + 1)), (t446), (true), (t443), (t444), (t445), (((rd_Op t430 x18_1).f0)), (((rd_Op t430 x18_1).f1)), (((rd_Op t430 x18_1).f2)), (by first | rfl | (simp; done) | (simp [*]; done)), (by first | rfl | (simp; done) | (simp [*]; done)), (by first | rfl | (simp; done) | (simp [*]; done)), H', ⟨by have := HK1.out; have := HJ27.out; first | omega | exact Nat.le_refl _⟩, ⟨by (with_reducible repeat (first | apply Kd.R_alloc | apply Kd.R_drewN | apply Kd.R_drew)); exact Kd.R_mono (Kd.R_far (p := ⟨gb435, 2, none⟩) (Kd.R_far (p := ⟨gb435, 1, none⟩) (Kd.R_far (p := ⟨gb435, 0, none⟩) (Kd.R_mono HO_6.out (fun k_ hk => (⟨hk, hk.2.2.2.1⟩ : _ ∧ k_ ≠ gb435))) (fun _ hk => hk.2) (.int .i64 t443)) (fun _ hk => hk.2) (.int .i64 t444)) (fun _ hk => hk.2) (.string t445)) (fun _ hk => ⟨hk.1.1, ⟨hk.1.2.1, ⟨hk.1.2.2.1, ⟨hk.1.2.2.2.1, hk.1.2.2.2.2⟩⟩⟩⟩)⟩, ⟨by (with_reducible repeat (first | apply Kd.R_alloc | apply Kd.R_drewN | apply Kd.R_drew)); exact Kd.R_mono (Kd.R_far (p := ⟨gb435, 2, none⟩) (Kd.R_far (p := ⟨gb435, 1, none⟩) (Kd.R_far (p := ⟨gb435, 0, none⟩) (Kd.R_mono HO_7.out (fun k_ hk => (⟨hk, hk.2.2.2.1⟩ : _ ∧ k_ ≠ gb435))) (fun _ hk => hk.2) (.int .i64 t443)) (fun _ hk => hk.2) (.int .i64 t444)) (fun _ hk => hk.2) (.string t445)) (fun _ hk => ⟨hk.1.1, ⟨hk.1.2.1, ⟨hk.1.2.2.1, ⟨hk.1.2.2.2.1, hk.1.2.2.2.2⟩⟩⟩⟩)⟩, ⟨by (with_reducible repeat (first | apply Kd.R_alloc | apply Kd.R_drewN | apply Kd.R_drew)); exact Kd.R_mono (Kd.R_far (p := ⟨gb435, 2, none⟩) (Kd.R_far (p := ⟨gb435, 1, none⟩) (Kd.R_far (p := ⟨gb435, 0, none⟩) (Kd.R_mono HO_16.out (fun k_ hk => (⟨hk, hk.2.2.2.1⟩ : _ ∧ k_ ≠ gb435))) (fun _ hk => hk.2) (.int .i64 t443)) (fun _ hk => hk.2) (.int .i64 t444)) (fun _ hk => hk.2) (.string t445)) (fun _ hk => ⟨hk.1.1, ⟨hk.1.2.1, ⟨hk.1.2.2.1, ⟨hk.1.2.2.2.1, hk.1.2.2.2.2⟩⟩⟩⟩)⟩, ⟨by (with_reducible repeat (first | refine blk_drewN ?_ _ | refine blk_drew ?_ | refine blk_alloc ?_ _)); refine blk_far ?_ NB434_435.out _; (with_reducible repeat (first | refine blk_drewN ?_ _ | refine blk_drew ?_ | refine blk_alloc ?_ _)); refine blk_far ?_ NB434_435.out _; (with_reducible repeat (first | refine blk_drewN ?_ _ | refine blk_drew ?_ | refine blk_alloc ?_ _)); refine blk_far ?_ NB434_435.out _; (with_reducible repeat (first | refine blk_drewN ?_ _ | refine blk_drew ?_ | refine blk_alloc ?_ _)); exact BK434.out⟩, ⟨by (with_reducible repeat (first | refine blk_drewN ?_ _ | refine blk_drew ?_ | refine blk_alloc ?_ _)); refine blk_put (cs := #[.int .i64 t443, .int .i64 t444, .string ((rd_Op t430 x18_1).f2)]) ?_ 2 _ rfl; (with_reducible repeat (first | refine blk_drewN ?_ _ | refine blk_drew ?_ | refine blk_alloc ?_ _)); refine blk_put (cs := #[.int .i64 t443, .int .i64 ((rd_Op t430 x18_1).f1), .string ((rd_Op t430 x18_1).f2)]) ?_ 1 _ rfl; (with_reducible repeat (first | refine blk_drewN ?_ _ | refine blk_drew ?_ | refine blk_alloc ?_ _)); refine blk_put (cs := #[.int .i64 ((rd_Op t430 x18_1).f0), .int .i64 ((rd_Op t430 x18_1).f1), .string ((rd_Op t430 x18_1).f2)]) ?_ 0 _ rfl; (with_reducible repeat (first | refine blk_drewN ?_ _ | refine blk_drew ?_ | refine blk_alloc ?_ _)); exact BK435.out⟩, ⟨by (with_reducible repeat (first | refine blk_drewN ?_ _ | refine blk_drew ?_ | refine blk_alloc ?_ _)); refine blk_far ?_ NB436_435.out _; (with_reducible repeat (first | refine blk_drewN ?_ _ | refine blk_drew ?_ | refine blk_alloc ?_ _)); refine blk_far ?_ NB436_435.out _; (with_reducible repeat (first | refine blk_drewN ?_ _ | refine blk_drew ?_ | refine blk_alloc ?_ _)); refine blk_far ?_ NB436_435.out _; (with_reducible repeat (first | refine blk_drewN ?_ _ | refine blk_drew ?_ | refine blk_alloc ?_ _)); exact BK436.out⟩, ⟨by repeat (first | (with_reducible first | exact HB.out | apply below_alloc | apply pw_below_drewN | apply below_drew1 | refine below_set ?_ GE434.out | refine below_set ?_ GE435.out | refine below_set ?_ GE436.out) | exact HB.out)⟩⟩
              · replace c27 := Bool.eq_false_iff.mpr c27
                subst c27
                have H1 : (pick_Ops.j2 k1 l1 x6_1 x7_1 x8_1 true true t430 (t430.length : Int) x18_1 ((rd_Op t430 x18_1).f0) ((rd_Op t430 x18_1).f1) ((rd_Op t430 x18_1).f2) ((rd_Op t430 x18_1).f0) ((rd_Op t430 x18_1).f1) ((rd_Op t430 x18_1).f2)) = some (r1, r2) := by rw [if_neg (show ¬ (false = true) by decide)] at H; exact H
                clear H
                have H := H1
                clear H1
                have H' := Aside0.mk H
                clear H
                go_wp2
                go_meet
                case rel => exact ⟨_, (x8_1), (true), (true), ((rd_Op t430 x18_1).f0), ((rd_Op t430 x18_1).f1), ((rd_Op t430 x18_1).f2), ((rd_Op t430 x18_1).f0), ((rd_Op t430 x18_1).f1), ((rd_Op t430 x18_1).f2), (by first | rfl | (simp; done) | (simp [*]; done)), (by first | rfl | (simp; done) | (simp [*]; done)), (by first | rfl | (simp; done) | (simp [*]; done)), H', ⟨by have := HK1.out; first | omega | exact Nat.le_refl _⟩, ⟨by (with_reducible repeat (first | apply Kd.R_alloc | apply Kd.R_drewN | apply Kd.R_drew)); exact Kd.R_mono (Kd.R_far (p := ⟨gb436, 2, none⟩) (Kd.R_far (p := ⟨gb436, 1, none⟩) (Kd.R_far (p := ⟨gb436, 0, none⟩) (Kd.R_far (p := ⟨gb435, 2, none⟩) (Kd.R_far (p := ⟨gb435, 1, none⟩) (Kd.R_far (p := ⟨gb435, 0, none⟩) (Kd.R_mono (Kd.R_mono HO_6.out (fun k_ hk => (⟨hk, hk.2.2.2.1⟩ : _ ∧ k_ ≠ gb435))) (fun k_ hk => (⟨hk, hk.1.2.2.2.2⟩ : _ ∧ k_ ≠ gb436))) (fun _ hk => hk.1.2) (.int .i64 ((rd_Op t430 x18_1).f0))) (fun _ hk => hk.1.2) (.int .i64 ((rd_Op t430 x18_1).f1))) (fun _ hk => hk.1.2) (.string ((rd_Op t430 x18_1).f2))) (fun _ hk => hk.2) (.int .i64 ((rd_Op t430 x18_1).f0))) (fun _ hk => hk.2) (.int .i64 ((rd_Op t430 x18_1).f1))) (fun _ hk => hk.2) (.string ((rd_Op t430 x18_1).f2))) (fun _ hk => ⟨hk.1.1.2.1, ⟨hk.1.1.1, ⟨hk.1.1.2.2.1, ⟨hk.1.1.2.2.2.1, hk.1.1.2.2.2.2⟩⟩⟩⟩)⟩, ⟨by (with_reducible repeat (first | apply Kd.R_alloc | apply Kd.R_drewN | apply Kd.R_drew)); exact Kd.R_mono (Kd.R_far (p := ⟨gb436, 2, none⟩) (Kd.R_far (p := ⟨gb436, 1, none⟩) (Kd.R_far (p := ⟨gb436, 0, none⟩) (Kd.R_far (p := ⟨gb435, 2, none⟩) (Kd.R_far (p := ⟨gb435, 1, none⟩) (Kd.R_far (p := ⟨gb435, 0, none⟩) (Kd.R_mono (Kd.R_mono HO_7.out (fun k_ hk => (⟨hk, hk.2.2.2.1⟩ : _ ∧ k_ ≠ gb435))) (fun k_ hk => (⟨hk, hk.1.2.2.2.2⟩ : _ ∧ k_ ≠ gb436))) (fun _ hk => hk.1.2) (.int .i64 ((rd_Op t430 x18_1).f0))) (fun _ hk => hk.1.2) (.int .i64 ((rd_Op t430 x18_1).f1))) (fun _ hk => hk.1.2) (.string ((rd_Op t430 x18_1).f2))) (fun _ hk => hk.2) (.int .i64 ((rd_Op t430 x18_1).f0))) (fun _ hk => hk.2) (.int .i64 ((rd_Op t430 x18_1).f1))) (fun _ hk => hk.2) (.string ((rd_Op t430 x18_1).f2))) (fun _ hk => ⟨hk.1.1.2.1, ⟨hk.1.1.1, ⟨hk.1.1.2.2.1, ⟨hk.1.1.2.2.2.1, hk.1.1.2.2.2.2⟩⟩⟩⟩)⟩, ⟨by (with_reducible repeat (first | apply Kd.R_alloc | apply Kd.R_drewN | apply Kd.R_drew)); exact Kd.R_mono (Kd.R_far (p := ⟨gb436, 2, none⟩) (Kd.R_far (p := ⟨gb436, 1, none⟩) (Kd.R_far (p := ⟨gb436, 0, none⟩) (Kd.R_far (p := ⟨gb435, 2, none⟩) (Kd.R_far (p := ⟨gb435, 1, none⟩) (Kd.R_far (p := ⟨gb435, 0, none⟩) (Kd.R_mono (Kd.R_mono HO_16.out (fun k_ hk => (⟨hk, hk.2.2.2.1⟩ : _ ∧ k_ ≠ gb435))) (fun k_ hk => (⟨hk, hk.1.2.2.2.2⟩ : _ ∧ k_ ≠ gb436))) (fun _ hk => hk.1.2) (.int .i64 ((rd_Op t430 x18_1).f0))) (fun _ hk => hk.1.2) (.int .i64 ((rd_Op t430 x18_1).f1))) (fun _ hk => hk.1.2) (.string ((rd_Op t430 x18_1).f2))) (fun _ hk => hk.2) (.int .i64 ((rd_Op t430 x18_1).f0))) (fun _ hk => hk.2) (.int .i64 ((rd_Op t430 x18_1).f1))) (fun _ hk => hk.2) (.string ((rd_Op t430 x18_1).f2))) (fun _ hk => ⟨hk.1.1.1, ⟨hk.1.1.2.1, ⟨hk.1.1.2.2.1, ⟨hk.1.1.2.2.2.1, hk.1.1.2.2.2.2⟩⟩⟩⟩)⟩, ⟨by (with_reducible repeat (first | refine blk_drewN ?_ _ | refine blk_drew ?_ | refine blk_alloc ?_ _)); refine blk_far ?_ NB434_436.out _; (with_reducible repeat (first | refine blk_drewN ?_ _ | refine blk_drew ?_ | refine blk_alloc ?_ _)); refine blk_far ?_ NB434_436.out _; (with_reducible repeat (first | refine blk_drewN ?_ _ | refine blk_drew ?_ | refine blk_alloc ?_ _)); refine blk_far ?_ NB434_436.out _; (with_reducible repeat (first | refine blk_drewN ?_ _ | refine blk_drew ?_ | refine blk_alloc ?_ _)); refine blk_far ?_ NB434_435.out _; (with_reducible repeat (first | refine blk_drewN ?_ _ | refine blk_drew ?_ | refine blk_alloc ?_ _)); refine blk_far ?_ NB434_435.out _; (with_reducible repeat (first | refine blk_drewN ?_ _ | refine blk_drew ?_ | refine blk_alloc ?_ _)); refine blk_far ?_ NB434_435.out _; (with_reducible repeat (first | refine blk_drewN ?_ _ | refine blk_drew ?_ | refine blk_alloc ?_ _)); exact BK434.out⟩, ⟨by (with_reducible repeat (first | refine blk_drewN ?_ _ | refine blk_drew ?_ | refine blk_alloc ?_ _)); refine blk_far ?_ NB435_436.out _; (with_reducible repeat (first | refine blk_drewN ?_ _ | refine blk_drew ?_ | refine blk_alloc ?_ _)); refine blk_far ?_ NB435_436.out _; (with_reducible repeat (first | refine blk_drewN ?_ _ | refine blk_drew ?_ | refine blk_alloc ?_ _)); refine blk_far ?_ NB435_436.out _; (with_reducible repeat (first | refine blk_drewN ?_ _ | refine blk_drew ?_ | refine blk_alloc ?_ _)); refine blk_put (cs := #[.int .i64 ((rd_Op t430 x18_1).f0), .int .i64 ((rd_Op t430 x18_1).f1), .string (⟨#[]⟩ : ByteArray)]) ?_ 2 _ rfl; (with_reducible repeat (first | refine blk_drewN ?_ _ | refine blk_drew ?_ | refine blk_alloc ?_ _)); refine blk_put (cs := #[.int .i64 ((rd_Op t430 x18_1).f0), .int .i64 0, .string (⟨#[]⟩ : ByteArray)]) ?_ 1 _ rfl; (with_reducible repeat (first | refine blk_drewN ?_ _ | refine blk_drew ?_ | refine blk_alloc ?_ _)); refine blk_put (cs := #[.int .i64 0, .int .i64 0, .string (⟨#[]⟩ : ByteArray)]) ?_ 0 _ rfl; (with_reducible repeat (first | refine blk_drewN ?_ _ | refine blk_drew ?_ | refine blk_alloc ?_ _)); exact BK435.out⟩, ⟨by (with_reducible repeat (first | refine blk_drewN ?_ _ | refine blk_drew ?_ | refine blk_alloc ?_ _)); refine blk_put (cs := #[.int .i64 ((rd_Op t430 x18_1).f0), .int .i64 ((rd_Op t430 x18_1).f1), .string (⟨#[]⟩ : ByteArray)]) ?_ 2 _ rfl; (with_reducible repeat (first | refine blk_drewN ?_ _ | refine blk_drew ?_ | refine blk_alloc ?_ _)); refine blk_put (cs := #[.int .i64 ((rd_Op t430 x18_1).f0), .int .i64 0, .string (⟨#[]⟩ : ByteArray)]) ?_ 1 _ rfl; (with_reducible repeat (first | refine blk_drewN ?_ _ | refine blk_drew ?_ | refine blk_alloc ?_ _)); refine blk_put (cs := #[.int .i64 0, .int .i64 0, .string (⟨#[]⟩ : ByteArray)]) ?_ 0 _ rfl; (with_reducible repeat (first | refine blk_drewN ?_ _ | refine blk_drew ?_ | refine blk_alloc ?_ _)); refine blk_far ?_ NB436_435.out _; (with_reducible repeat (first | refine blk_drewN ?_ _ | refine blk_drew ?_ | refine blk_alloc ?_ _)); refine blk_far ?_ NB436_435.out _; (with_reducible repeat (first | refine blk_drewN ?_ _ | refine blk_drew ?_ | refine blk_alloc ?_ _)); refine blk_far ?_ NB436_435.out _; (with_reducible repeat (first | refine blk_drewN ?_ _ | refine blk_drew ?_ | refine blk_alloc ?_ _)); exact BK436.out⟩, ⟨by repeat (first | (with_reducible first | exact HB.out | apply below_alloc | apply pw_below_drewN | apply below_drew1 | refine below_set ?_ GE434.out | refine below_set ?_ GE435.out | refine below_set ?_ GE436.out) | exact HB.out)⟩⟩
            case rest =>
              clear HC10
              try clear c1
              try clear c2
              try clear p2
              try clear c3
              try clear c4
              try clear p4
              try clear q4
              try clear hx4
              try clear c6
              try clear c6b0
              try clear p6
              try clear c7
              try clear c7b0
              try clear c8
              try clear c8b0
              try clear c24
              try clear c25
              try clear c26
              try clear c27
              try clear c29
              try clear c29b0
              try clear c30
              try clear c30b0
              try clear c31
              try clear c33
              try clear c34
              try clear c37
              try clear c40
              try clear c41
              try clear c42
              try clear c43
              try clear p43
              try clear q43
              try clear hx43
              try clear c44
              try clear hcz12_0
              try clear hcz12_1
              try clear hcz12_2
              try clear hcz26_0
              try clear hcz26_1
              try clear hcz26_2
              try clear hcz35_0
              try clear hcz35_1
              try clear hcz35_2
              try clear hcz38_0
              try clear hcz38_1
              try clear hcz38_2
              try clear hcz42_0
              try clear hcz42_1
              try clear hcz42_2
              try clear hcz45_0
              try clear hcz45_1
              try clear hcz45_2
              try clear hfz12_0
              try clear hfz12_1
              try clear hfz12_2
              try clear hfz26_0
              try clear hfz26_1
              try clear hfz26_2
              try clear hfz35_0
              try clear hfz35_1
              try clear hfz35_2
              try clear hfz38_0
              try clear hfz38_1
              try clear hfz38_2
              try clear hfz42_0
              try clear hfz42_1
              try clear hfz42_2
              try clear hfz45_0
              try clear hfz45_1
              try clear hfz45_2
              try clear hx433_0
              try clear hx433_1
              try clear hx433_2
              try clear hx438_0
              try clear p2
              try clear p4
              try clear p433
              try clear p438
              try clear q4
              try clear q433
              try clear q438
              obtain ⟨kq, x8_9, x13_9, x14_9, x436000_9, x436001_9, x436002_9, x437000_9, x437001_9, x437002_9, rfl, rfl, rfl, HA, HJ9, HO_6, HO_7, HO_16, BK434, BK435, BK436, HB⟩ := hcut
              cases kq with
              | zero => exact absurd HA.out (by simp [pick_Ops.j2])
              | succ kj9 =>
                have H := HA.out
                clear HA
                simp only [pick_Ops.j2] at H
                by_cases c46 : x13_9 = true
                · subst c46
                  have H1 : (if x6_1.length < 4398046511104 then ((some (x6_1 ++ [(⟨x436000_9, x436001_9, x436002_9⟩ : Op)] : List (Op))).bind fun y447 => (if x14_9 = true then (if x7_1.length < 4398046511104 then (pick_Ops.l0 kj9 l1 y447 (x7_1 ++ [(⟨x437000_9, x437001_9, x437002_9⟩ : Op)]) x8_9 t430 (t430.length : Int) (wrap64 (x18_1 + 1))) else (none)) else (pick_Ops.l0 kj9 l1 y447 x7_1 x8_9 t430 (t430.length : Int) (wrap64 (x18_1 + 1))))) else (none)) = some (r1, r2) := by rw [if_pos rfl] at H; exact H
                  clear H
                  have H := H1
                  clear H1
                  by_cases c47 : x6_1.length < 4398046511104
                  · rw [if_pos c47] at H
                    have LMc47 := Aside0.mk c47
                    clear c47
                    obtain ⟨y447, hy447⟩ : ∃ y_ : List (Op), y_ = (x6_1 ++ [(⟨x436000_9, x436001_9, x436002_9⟩ : Op)]) := ⟨_, rfl⟩
                    replace H : (if x14_9 = true then (if x7_1.length < 4398046511104 then (pick_Ops.l0 kj9 l1 y447 (x7_1 ++ [(⟨x437000_9, x437001_9, x437002_9⟩ : Op)]) x8_9 t430 (t430.length : Int) (wrap64 (x18_1 + 1))) else (none)) else (pick_Ops.l0 kj9 l1 y447 x7_1 x8_9 t430 (t430.length : Int) (wrap64 (x18_1 + 1)))) = some (r1, r2) := by first | (rw [hy447]; with_reducible exact H) | (have H2_ := (Option.bind_some _ _).symm.trans H; rw [hy447]; with_reducible exact H2_) | (have H2_ := (Option.bind_some _ _).symm.trans H; with_reducible exact H2_) | with_reducible exact H | (rw [hy447]; exact H) | exact H
                    have Ny447 := Aside0.mk hy447
                    clear hy447
                    by_cases c48 : x14_9 = true
                    · subst c48
                      have H1 : (if x7_1.length < 4398046511104 then (pick_Ops.l0 kj9 l1 y447 (x7_1 ++ [(⟨x437000_9, x437001_9, x437002_9⟩ : Op)]) x8_9 t430 (t430.length : Int) (wrap64 (x18_1 + 1))) else (none)) = some (r1, r2) := by rw [if_pos rfl] at H; exact H
                      clear H
                      have H := H1
                      clear H1
                      by_cases c49 : x7_1.length < 4398046511104
                      · rw [if_pos c49] at H
                        have LMc49 := Aside0.mk c49
                        clear c49
                        obtain ⟨y450, hy450⟩ : ∃ y_ : List (Op), y_ = (x7_1 ++ [(⟨x437000_9, x437001_9, x437002_9⟩ : Op)]) := ⟨_, rfl⟩
                        replace H : (pick_Ops.l0 kj9 l1 y447 y450 x8_9 t430 (t430.length : Int) (wrap64 (x18_1 + 1))) = some (r1, r2) := by first | (rw [hy450]; with_reducible exact H) | (have H2_ := (Option.bind_some _ _).symm.trans H; rw [hy450]; with_reducible exact H2_) | (have H2_ := (Option.bind_some _ _).symm.trans H; with_reducible exact H2_) | with_reducible exact H | (rw [hy450]; exact H) | exact H
                        have Ny450 := Aside0.mk hy450
                        clear hy450
                        have H' := Aside0.mk H
                        clear H
                        have hnb50 := NB435_434.out
                        have hnc50 := NB434_435.out
                        have hnb51 := NB435_436.out
                        have hnc51 := NB436_435.out
                        have hcz52_0 : wc.cell? ⟨gb435, 0, none⟩ = some (.int .i64 x436000_9) := (blk_cell BK435.out 0).trans rfl
                        have hcz52_1 : wc.cell? ⟨gb435, 1, none⟩ = some (.int .i64 x436001_9) := (blk_cell BK435.out 1).trans rfl
                        have hcz52_2 : wc.cell? ⟨gb435, 2, none⟩ = some (.string x436002_9) := (blk_cell BK435.out 2).trans rfl
                        have hfz52_0 := blk_frozen BK435.out 0
                        have hfz52_1 := blk_frozen BK435.out 1
                        have hfz52_2 := blk_frozen BK435.out 2
                        go_wp2_with (first | ((with_reducible refine gate_builtin (b := .append) (xs := #[.tmp 50, .tmp 52]) rfl ?_); at_builtin; refine Kd.R_append kOp (w0 := w) w.heap.size rfl (.tmp 50) (.tmp 52) 22 36 (.agg #[(.int .i64 0), (.int .i64 0), (.string ⟨#[]⟩)]) 32 rfl Try.underlying22 info36 rfl (by decide) (by omega) u6 x6_1 (⟨x436000_9, x436001_9, x436002_9⟩ : Op) [.int .i64 x436000_9, .int .i64 x436001_9, .string x436002_9] (fun k_ => some k_ ≠ (u7 : Value).ownBlock ∧ some k_ ≠ (.slice (some ad433) t430.length co5 : Value).ownBlock ∧ k_ ≠ gb434 ∧ k_ ≠ gb435 ∧ k_ ≠ gb436) (fun _ => False) rfl rfl ?aP (fun _ hk => hk.elim) ?aF ?aO ?aB ?aS ?aL ?_; (case aP => exact kOp_mkM _ _ _ (⟨x436000_9, x436001_9, x436002_9⟩ : Op)); (case aB => exact (by repeat (first | (with_reducible first | exact HB.out | apply below_alloc | apply pw_below_drewN | apply below_drew1 | refine below_set ?_ GE434.out | refine below_set ?_ GE435.out | refine below_set ?_ GE436.out) | exact HB.out))); (case aF => exact (fun k_ hk => ⟨Kd.fresh' (Kd.R_lt HO_7.out) k_ hk, Kd.fresh' (Kd.R_lt HO_16.out) k_ hk, Kd.freshB (g := gb434) (o := .cells #[.int .i64 ((rd_Op t430 x18_1).f0), .int .i64 ((rd_Op t430 x18_1).f1), .string ((rd_Op t430 x18_1).f2)] 36 (0, 0)) BK434.out k_ hk, Kd.freshB (g := gb435) (o := .cells #[.int .i64 x436000_9, .int .i64 x436001_9, .string x436002_9] 36 (0, 0)) BK435.out k_ hk, Kd.freshB (g := gb436) (o := .cells #[.int .i64 x437000_9, .int .i64 x437001_9, .string x437002_9] 36 (0, 0)) BK436.out k_ hk⟩)); (case aO => exact HO_6.out); (case aS => exact (below_size (by repeat (first | (with_reducible first | exact HB.out | apply below_alloc | apply pw_below_drewN | apply below_drew1 | refine below_set ?_ GE434.out | refine below_set ?_ GE435.out | refine below_set ?_ GE436.out) | exact HB.out)))); (case aL => have := LMc47.out; omega); intro v448 w53 ho hb hg hat; rw [← Ny447.out] at ho; have n0_ := Aside0.mk (Kd.R_after (ok := (fun k_ => some k_ ≠ (.slice (some ad433) t430.length co5 : Value).ownBlock ∧ k_ ≠ gb434 ∧ k_ ≠ gb435 ∧ k_ ≠ gb436)) (by (with_reducible repeat (first | apply Kd.R_alloc | apply Kd.R_drewN | apply Kd.R_drew)); exact Kd.R_mono HO_7.out (fun _ hk => ⟨⟨hk.2.1, ⟨hk.2.2.1, ⟨hk.2.2.2.1, hk.2.2.2.2⟩⟩⟩, hk.1⟩)) hg hat); have n1_ := Aside0.mk (Kd.R_after (ok := (fun k_ => some k_ ≠ (u7 : Value).ownBlock ∧ k_ ≠ gb434 ∧ k_ ≠ gb435 ∧ k_ ≠ gb436)) (by (with_reducible repeat (first | apply Kd.R_alloc | apply Kd.R_drewN | apply Kd.R_drew)); exact Kd.R_mono HO_16.out (fun _ hk => ⟨⟨hk.2.1, ⟨hk.2.2.1, ⟨hk.2.2.2.1, hk.2.2.2.2⟩⟩⟩, hk.1⟩)) hg hat); have n2_ := Aside0.mk (blk_grown (g := gb434) (o := .cells #[.int .i64 ((rd_Op t430 x18_1).f0), .int .i64 ((rd_Op t430 x18_1).f1), .string ((rd_Op t430 x18_1).f2)] 36 (0, 0)) BK434.out hg (Kd.R_away HO_6.out (fun _ hk => hk.2.2.1))); have n3_ := Aside0.mk (blk_grown (g := gb435) (o := .cells #[.int .i64 x436000_9, .int .i64 x436001_9, .string x436002_9] 36 (0, 0)) BK435.out hg (Kd.R_away HO_6.out (fun _ hk => hk.2.2.2.1))); have n4_ := Aside0.mk (blk_grown (g := gb436) (o := .cells #[.int .i64 x437000_9, .int .i64 x437001_9, .string x437002_9] 36 (0, 0)) BK436.out hg (Kd.R_away HO_6.out (fun _ hk => hk.2.2.2.2))); have n5_ := Aside0.mk (hb); have n6_ := Aside0.mk (ho); clear HO_7; clear HO_16; clear BK434; clear BK435; clear BK436; clear HB; clear HO_6; have HO_7 := n0_; have HO_16 := n1_; have BK434 := n2_; have BK435 := n3_; have BK436 := n4_; have HB := n5_; have HO449 := n6_; clear n0_ n1_ n2_ n3_ n4_ n5_ n6_; clear ho hb hg hat; have hnb54 := NB436_434.out; have hnc54 := NB434_436.out; have hcz55_0 : w53.cell? ⟨gb436, 0, none⟩ = some (.int .i64 x437000_9) := (blk_cell BK436.out 0).trans rfl; have hcz55_1 : w53.cell? ⟨gb436, 1, none⟩ = some (.int .i64 x437001_9) := (blk_cell BK436.out 1).trans rfl; have hcz55_2 : w53.cell? ⟨gb436, 2, none⟩ = some (.string x437002_9) := (blk_cell BK436.out 2).trans rfl; have hfz55_0 := blk_frozen BK436.out 0; have hfz55_1 := blk_frozen BK436.out 1; have hfz55_2 := blk_frozen BK436.out 2) | ((with_reducible refine gate_builtin (b := .append) (xs := #[.tmp 55, .tmp 57]) rfl ?_); at_builtin; refine Kd.R_append kOp (w0 := w) w.heap.size rfl (.tmp 55) (.tmp 57) 22 36 (.agg #[(.int .i64 0), (.int .i64 0), (.string ⟨#[]⟩)]) 32 rfl Try.underlying22 info36 rfl (by decide) (by omega) u7 x7_1 (⟨x437000_9, x437001_9, x437002_9⟩ : Op) [.int .i64 x437000_9, .int .i64 x437001_9, .string x437002_9] (fun k_ => some k_ ≠ (.slice (some ad433) t430.length co5 : Value).ownBlock ∧ some k_ ≠ (v448 : Value).ownBlock ∧ k_ ≠ gb434 ∧ k_ ≠ gb435 ∧ k_ ≠ gb436) (fun _ => False) rfl rfl ?aP (fun _ hk => hk.elim) ?aF ?aO ?aB ?aS ?aL ?_; (case aP => exact kOp_mkM _ _ _ (⟨x437000_9, x437001_9, x437002_9⟩ : Op)); (case aB => exact (by repeat (first | (with_reducible first | exact HB.out | apply below_alloc | apply pw_below_drewN | apply below_drew1 | refine below_set ?_ GE434.out | refine below_set ?_ GE435.out | refine below_set ?_ GE436.out) | exact HB.out))); (case aF => exact (fun k_ hk => ⟨Kd.fresh' (Kd.R_lt HO_16.out) k_ hk, Kd.fresh' (Kd.R_lt HO449.out) k_ hk, Kd.freshB (g := gb434) (o := .cells #[.int .i64 ((rd_Op t430 x18_1).f0), .int .i64 ((rd_Op t430 x18_1).f1), .string ((rd_Op t430 x18_1).f2)] 36 (0, 0)) BK434.out k_ hk, Kd.freshB (g := gb435) (o := .cells #[.int .i64 x436000_9, .int .i64 x436001_9, .string x436002_9] 36 (0, 0)) BK435.out k_ hk, Kd.freshB (g := gb436) (o := .cells #[.int .i64 x437000_9, .int .i64 x437001_9, .string x437002_9] 36 (0, 0)) BK436.out k_ hk⟩)); (case aO => exact (by (with_reducible repeat (first | apply Kd.R_alloc | apply Kd.R_drewN | apply Kd.R_drew)); exact Kd.R_mono HO_7.out (fun _ hk => ⟨hk.1.1, ⟨hk.2, ⟨hk.1.2.1, ⟨hk.1.2.2.1, hk.1.2.2.2⟩⟩⟩⟩))); (case aS => exact (below_size (by repeat (first | (with_reducible first | exact HB.out | apply below_alloc | apply pw_below_drewN | apply below_drew1 | refine below_set ?_ GE434.out | refine below_set ?_ GE435.out | refine below_set ?_ GE436.out) | exact HB.out)))); (case aL => have := LMc49.out; omega); intro v451 w56 ho hb hg hat; rw [← Ny450.out] at ho; have n0_ := Aside0.mk (Kd.R_after (ok := (fun k_ => some k_ ≠ (v448 : Value).ownBlock ∧ k_ ≠ gb434 ∧ k_ ≠ gb435 ∧ k_ ≠ gb436)) (by (with_reducible repeat (first | apply Kd.R_alloc | apply Kd.R_drewN | apply Kd.R_drew)); exact Kd.R_mono HO_16.out (fun _ hk => ⟨⟨hk.2, ⟨hk.1.2.1, ⟨hk.1.2.2.1, hk.1.2.2.2⟩⟩⟩, hk.1.1⟩)) hg hat); have n1_ := Aside0.mk (blk_grown (g := gb434) (o := .cells #[.int .i64 ((rd_Op t430 x18_1).f0), .int .i64 ((rd_Op t430 x18_1).f1), .string ((rd_Op t430 x18_1).f2)] 36 (0, 0)) BK434.out hg (Kd.R_away HO_7.out (fun _ hk => hk.1.2.1))); have n2_ := Aside0.mk (blk_grown (g := gb435) (o := .cells #[.int .i64 x436000_9, .int .i64 x436001_9, .string x436002_9] 36 (0, 0)) BK435.out hg (Kd.R_away HO_7.out (fun _ hk => hk.1.2.2.1))); have n3_ := Aside0.mk (blk_grown (g := gb436) (o := .cells #[.int .i64 x437000_9, .int .i64 x437001_9, .string x437002_9] 36 (0, 0)) BK436.out hg (Kd.R_away HO_7.out (fun _ hk => hk.1.2.2.2))); have n4_ := Aside0.mk (Kd.R_after (ok := (fun k_ => some k_ ≠ (.slice (some ad433) t430.length co5 : Value).ownBlock ∧ k_ ≠ gb434 ∧ k_ ≠ gb435 ∧ k_ ≠ gb436)) (by (with_reducible repeat (first | apply Kd.R_alloc | apply Kd.R_drewN | apply Kd.R_drew)); exact Kd.R_mono HO449.out (fun _ hk => ⟨⟨hk.2.1, ⟨hk.2.2.1, ⟨hk.2.2.2.1, hk.2.2.2.2⟩⟩⟩, hk.1⟩)) hg hat); have n5_ := Aside0.mk (hb); have n6_ := Aside0.mk (ho); clear HO_16; clear BK434; clear BK435; clear BK436; clear HO449; clear HB; clear HO_7; have HO_16 := n0_; have BK434 := n1_; have BK435 := n2_; have BK436 := n3_; have HO449 := n4_; have HB := n5_; have HO452 := n6_; clear n0_ n1_ n2_ n3_ n4_ n5_ n6_; clear ho hb hg hat))
                        go_roundg kj9
                        case measure => have := HK1.out; have := HJ9.out; omega
                        case rel => exact ⟨(y447), (y450), (x8_9), (wrap64 (x18_1 + 1)), (by first | rfl | (simp; done) | (simp [*]; done)), (by first | rfl | (simp; done) | (simp [*]; done)), H', ⟨by have := HK1.out; have := HJ9.out; omega⟩, ⟨by (with_reducible repeat (first | apply Kd.R_alloc | apply Kd.R_drewN | apply Kd.R_drew)); exact Kd.R_mono HO449.out (fun _ hk => ⟨hk.2, hk.1.1⟩)⟩, ⟨by (with_reducible repeat (first | apply Kd.R_alloc | apply Kd.R_drewN | apply Kd.R_drew)); exact Kd.R_mono HO452.out (fun _ hk => ⟨hk.2.1, hk.1⟩)⟩, ⟨by (with_reducible repeat (first | apply Kd.R_alloc | apply Kd.R_drewN | apply Kd.R_drew)); exact Kd.R_mono HO_16.out (fun _ hk => ⟨hk.1.1, hk.2⟩)⟩, ⟨by repeat (first | (with_reducible first | exact HB.out | apply below_alloc | apply pw_below_drewN | apply below_drew1 | refine below_set ?_ GE434.out | refine below_set ?_ GE435.out | refine below_set ?_ GE436.out) | exact HB.out)⟩⟩
                      · rw [if_neg c49] at H
                        exact absurd H (by simp)
                    · replace c48 := Bool.eq_false_iff.mpr c48
                      subst c48
                      have H1 : (pick_Ops.l0 kj9 l1 y447 x7_1 x8_9 t430 (t430.length : Int) (wrap64 (x18_1 + 1))) = some (r1, r2) := by rw [if_neg (show ¬ (false = true) by decide)] at H; exact H
                      clear H
                      have H := H1
                      clear H1
                      have H' := Aside0.mk H
                      clear H
                      have hnb57 := NB435_434.out
                      have hnc57 := NB434_435.out
                      have hnb58 := NB435_436.out
                      have hnc58 := NB436_435.out
                      have hcz59_0 : wc.cell? ⟨gb435, 0, none⟩ = some (.int .i64 x436000_9) := (blk_cell BK435.out 0).trans rfl
                      have hcz59_1 : wc.cell? ⟨gb435, 1, none⟩ = some (.int .i64 x436001_9) := (blk_cell BK435.out 1).trans rfl
                      have hcz59_2 : wc.cell? ⟨gb435, 2, none⟩ = some (.string x436002_9) := (blk_cell BK435.out 2).trans rfl
                      have hfz59_0 := blk_frozen BK435.out 0
                      have hfz59_1 := blk_frozen BK435.out 1
                      have hfz59_2 := blk_frozen BK435.out 2
                      go_wp2_with (first | ((with_reducible refine gate_builtin (b := .append) (xs := #[.tmp 50, .tmp 52]) rfl ?_); at_builtin; refine Kd.R_append kOp (w0 := w) w.heap.size rfl (.tmp 50) (.tmp 52) 22 36 (.agg #[(.int .i64 0), (.int .i64 0), (.string ⟨#[]⟩)]) 32 rfl Try.underlying22 info36 rfl (by decide) (by omega) u6 x6_1 (⟨x436000_9, x436001_9, x436002_9⟩ : Op) [.int .i64 x436000_9, .int .i64 x436001_9, .string x436002_9] (fun k_ => some k_ ≠ (u7 : Value).ownBlock ∧ some k_ ≠ (.slice (some ad433) t430.length co5 : Value).ownBlock ∧ k_ ≠ gb434 ∧ k_ ≠ gb435 ∧ k_ ≠ gb436) (fun _ => False) rfl rfl ?aP (fun _ hk => hk.elim) ?aF ?aO ?aB ?aS ?aL ?_; (case aP => exact kOp_mkM _ _ _ (⟨x436000_9, x436001_9, x436002_9⟩ : Op)); (case aB => exact (by repeat (first | (with_reducible first | exact HB.out | apply below_alloc | apply pw_below_drewN | apply below_drew1 | refine below_set ?_ GE434.out | refine below_set ?_ GE435.out | refine below_set ?_ GE436.out) | exact HB.out))); (case aF => exact (fun k_ hk => ⟨Kd.fresh' (Kd.R_lt HO_7.out) k_ hk, Kd.fresh' (Kd.R_lt HO_16.out) k_ hk, Kd.freshB (g := gb434) (o := .cells #[.int .i64 ((rd_Op t430 x18_1).f0), .int .i64 ((rd_Op t430 x18_1).f1), .string ((rd_Op t430 x18_1).f2)] 36 (0, 0)) BK434.out k_ hk, Kd.freshB (g := gb435) (o := .cells #[.int .i64 x436000_9, .int .i64 x436001_9, .string x436002_9] 36 (0, 0)) BK435.out k_ hk, Kd.freshB (g := gb436) (o := .cells #[.int .i64 x437000_9, .int .i64 x437001_9, .string x437002_9] 36 (0, 0)) BK436.out k_ hk⟩)); (case aO => exact HO_6.out); (case aS => exact (below_size (by repeat (first | (with_reducible first | exact HB.out | apply below_alloc | apply pw_below_drewN | apply below_drew1 | refine below_set ?_ GE434.out | refine below_set ?_ GE435.out | refine below_set ?_ GE436.out) | exact HB.out)))); (case aL => have := LMc47.out; omega); intro v448 w60 ho hb hg hat; rw [← Ny447.out] at ho; have n0_ := Aside0.mk (Kd.R_after (ok := (fun k_ => some k_ ≠ (.slice (some ad433) t430.length co5 : Value).ownBlock ∧ k_ ≠ gb434 ∧ k_ ≠ gb435 ∧ k_ ≠ gb436)) (by (with_reducible repeat (first | apply Kd.R_alloc | apply Kd.R_drewN | apply Kd.R_drew)); exact Kd.R_mono HO_7.out (fun _ hk => ⟨⟨hk.2.1, ⟨hk.2.2.1, ⟨hk.2.2.2.1, hk.2.2.2.2⟩⟩⟩, hk.1⟩)) hg hat); have n1_ := Aside0.mk (Kd.R_after (ok := (fun k_ => some k_ ≠ (u7 : Value).ownBlock ∧ k_ ≠ gb434 ∧ k_ ≠ gb435 ∧ k_ ≠ gb436)) (by (with_reducible repeat (first | apply Kd.R_alloc | apply Kd.R_drewN | apply Kd.R_drew)); exact Kd.R_mono HO_16.out (fun _ hk => ⟨⟨hk.2.1, ⟨hk.2.2.1, ⟨hk.2.2.2.1, hk.2.2.2.2⟩⟩⟩, hk.1⟩)) hg hat); have n2_ := Aside0.mk (blk_grown (g := gb434) (o := .cells #[.int .i64 ((rd_Op t430 x18_1).f0), .int .i64 ((rd_Op t430 x18_1).f1), .string ((rd_Op t430 x18_1).f2)] 36 (0, 0)) BK434.out hg (Kd.R_away HO_6.out (fun _ hk => hk.2.2.1))); have n3_ := Aside0.mk (blk_grown (g := gb435) (o := .cells #[.int .i64 x436000_9, .int .i64 x436001_9, .string x436002_9] 36 (0, 0)) BK435.out hg (Kd.R_away HO_6.out (fun _ hk => hk.2.2.2.1))); have n4_ := Aside0.mk (blk_grown (g := gb436) (o := .cells #[.int .i64 x437000_9, .int .i64 x437001_9, .string x437002_9] 36 (0, 0)) BK436.out hg (Kd.R_away HO_6.out (fun _ hk => hk.2.2.2.2))); have n5_ := Aside0.mk (hb); have n6_ := Aside0.mk (ho); clear HO_7; clear HO_16; clear BK434; clear BK435; clear BK436; clear HB; clear HO_6; have HO_7 := n0_; have HO_16 := n1_; have BK434 := n2_; have BK435 := n3_; have BK436 := n4_; have HB := n5_; have HO449 := n6_; clear n0_ n1_ n2_ n3_ n4_ n5_ n6_; clear ho hb hg hat))
                      go_roundg kj9
                      case measure => have := HK1.out; have := HJ9.out; omega
                      case rel => exact ⟨(y447), (x7_1), (x8_9), (wrap64 (x18_1 + 1)), (by first | rfl | (simp; done) | (simp [*]; done)), (by first | rfl | (simp; done) | (simp [*]; done)), H', ⟨by have := HK1.out; have := HJ9.out; omega⟩, ⟨by (with_reducible repeat (first | apply Kd.R_alloc | apply Kd.R_drewN | apply Kd.R_drew)); exact Kd.R_mono HO449.out (fun _ hk => ⟨hk.1, hk.2.1⟩)⟩, ⟨by (with_reducible repeat (first | apply Kd.R_alloc | apply Kd.R_drewN | apply Kd.R_drew)); exact Kd.R_mono HO_7.out (fun _ hk => ⟨hk.2, hk.1.1⟩)⟩, ⟨by (with_reducible repeat (first | apply Kd.R_alloc | apply Kd.R_drewN | apply Kd.R_drew)); exact Kd.R_mono HO_16.out (fun _ hk => ⟨hk.2, hk.1.1⟩)⟩, ⟨by repeat (first | (with_reducible first | exact HB.out | apply below_alloc | apply pw_below_drewN | apply below_drew1 | refine below_set ?_ GE434.out | refine below_set ?_ GE435.out | refine below_set ?_ GE436.out) | exact HB.out)⟩⟩
                  · rw [if_neg c47] at H
                    exact absurd H (by simp)
                · replace c46 := Bool.eq_false_iff.mpr c46
                  subst c46
                  have H1 : (if x14_9 = true then (if x7_1.length < 4398046511104 then (pick_Ops.l0 kj9 l1 x6_1 (x7_1 ++ [(⟨x437000_9, x437001_9, x437002_9⟩ : Op)]) x8_9 t430 (t430.length : Int) (wrap64 (x18_1 + 1))) else (none)) else (pick_Ops.l0 kj9 l1 x6_1 x7_1 x8_9 t430 (t430.length : Int) (wrap64 (x18_1 + 1)))) = some (r1, r2) := by rw [if_neg (show ¬ (false = true) by decide)] at H; exact H
                  clear H
                  have H := H1
                  clear H1
                  by_cases c61 : x14_9 = true
                  · subst c61
                    have H1 : (if x7_1.length < 4398046511104 then (pick_Ops.l0 kj9 l1 x6_1 (x7_1 ++ [(⟨x437000_9, x437001_9, x437002_9⟩ : Op)]) x8_9 t430 (t430.length : Int) (wrap64 (x18_1 + 1))) else (none)) = some (r1, r2) := by rw [if_pos rfl] at H; exact H
                    clear H
                    have H := H1
                    clear H1
                    by_cases c62 : x7_1.length < 4398046511104
                    · rw [if_pos c62] at H
                      have LMc62 := Aside0.mk c62
                      clear c62
                      obtain ⟨y453, hy453⟩ : ∃ y_ : List (Op), y_ = (x7_1 ++ [(⟨x437000_9, x437001_9, x437002_9⟩ : Op)]) := ⟨_, rfl⟩
                      replace H : (pick_Ops.l0 kj9 l1 x6_1 y453 x8_9 t430 (t430.length : Int) (wrap64 (x18_1 + 1))) = some (r1, r2) := by first | (rw [hy453]; with_reducible exact H) | (have H2_ := (Option.bind_some _ _).symm.trans H; rw [hy453]; with_reducible exact H2_) | (have H2_ := (Option.bind_some _ _).symm.trans H; with_reducible exact H2_) | with_reducible exact H | (rw [hy453]; exact H) | exact H
                      have Ny453 := Aside0.mk hy453
                      clear hy453
                      have H' := Aside0.mk H
                      clear H
                      have hnb63 := NB436_434.out
                      have hnc63 := NB434_436.out
                      have hnb64 := NB436_435.out
                      have hnc64 := NB435_436.out
                      have hcz65_0 : wc.cell? ⟨gb436, 0, none⟩ = some (.int .i64 x437000_9) := (blk_cell BK436.out 0).trans rfl
                      have hcz65_1 : wc.cell? ⟨gb436, 1, none⟩ = some (.int .i64 x437001_9) := (blk_cell BK436.out 1).trans rfl
                      have hcz65_2 : wc.cell? ⟨gb436, 2, none⟩ = some (.string x437002_9) := (blk_cell BK436.out 2).trans rfl
                      have hfz65_0 := blk_frozen BK436.out 0
                      have hfz65_1 := blk_frozen BK436.out 1
                      have hfz65_2 := blk_frozen BK436.out 2
                      go_wp2_with (first | ((with_reducible refine gate_builtin (b := .append) (xs := #[.tmp 55, .tmp 57]) rfl ?_); at_builtin; refine Kd.R_append kOp (w0 := w) w.heap.size rfl (.tmp 55) (.tmp 57) 22 36 (.agg #[(.int .i64 0), (.int .i64 0), (.string ⟨#[]⟩)]) 32 rfl Try.underlying22 info36 rfl (by decide) (by omega) u7 x7_1 (⟨x437000_9, x437001_9, x437002_9⟩ : Op) [.int .i64 x437000_9, .int .i64 x437001_9, .string x437002_9] (fun k_ => some k_ ≠ (u6 : Value).ownBlock ∧ some k_ ≠ (.slice (some ad433) t430.length co5 : Value).ownBlock ∧ k_ ≠ gb434 ∧ k_ ≠ gb435 ∧ k_ ≠ gb436) (fun _ => False) rfl rfl ?aP (fun _ hk => hk.elim) ?aF ?aO ?aB ?aS ?aL ?_; (case aP => exact kOp_mkM _ _ _ (⟨x437000_9, x437001_9, x437002_9⟩ : Op)); (case aB => exact (by repeat (first | (with_reducible first | exact HB.out | apply below_alloc | apply pw_below_drewN | apply below_drew1 | refine below_set ?_ GE434.out | refine below_set ?_ GE435.out | refine below_set ?_ GE436.out) | exact HB.out))); (case aF => exact (fun k_ hk => ⟨Kd.fresh' (Kd.R_lt HO_6.out) k_ hk, Kd.fresh' (Kd.R_lt HO_16.out) k_ hk, Kd.freshB (g := gb434) (o := .cells #[.int .i64 ((rd_Op t430 x18_1).f0), .int .i64 ((rd_Op t430 x18_1).f1), .string ((rd_Op t430 x18_1).f2)] 36 (0, 0)) BK434.out k_ hk, Kd.freshB (g := gb435) (o := .cells #[.int .i64 x436000_9, .int .i64 x436001_9, .string x436002_9] 36 (0, 0)) BK435.out k_ hk, Kd.freshB (g := gb436) (o := .cells #[.int .i64 x437000_9, .int .i64 x437001_9, .string x437002_9] 36 (0, 0)) BK436.out k_ hk⟩)); (case aO => exact HO_7.out); (case aS => exact (below_size (by repeat (first | (with_reducible first | exact HB.out | apply below_alloc | apply pw_below_drewN | apply below_drew1 | refine below_set ?_ GE434.out | refine below_set ?_ GE435.out | refine below_set ?_ GE436.out) | exact HB.out)))); (case aL => have := LMc62.out; omega); intro v454 w66 ho hb hg hat; rw [← Ny453.out] at ho; have n0_ := Aside0.mk (Kd.R_after (ok := (fun k_ => some k_ ≠ (.slice (some ad433) t430.length co5 : Value).ownBlock ∧ k_ ≠ gb434 ∧ k_ ≠ gb435 ∧ k_ ≠ gb436)) (by (with_reducible repeat (first | apply Kd.R_alloc | apply Kd.R_drewN | apply Kd.R_drew)); exact Kd.R_mono HO_6.out (fun _ hk => ⟨⟨hk.2.1, ⟨hk.2.2.1, ⟨hk.2.2.2.1, hk.2.2.2.2⟩⟩⟩, hk.1⟩)) hg hat); have n1_ := Aside0.mk (Kd.R_after (ok := (fun k_ => some k_ ≠ (u6 : Value).ownBlock ∧ k_ ≠ gb434 ∧ k_ ≠ gb435 ∧ k_ ≠ gb436)) (by (with_reducible repeat (first | apply Kd.R_alloc | apply Kd.R_drewN | apply Kd.R_drew)); exact Kd.R_mono HO_16.out (fun _ hk => ⟨⟨hk.1, ⟨hk.2.2.1, ⟨hk.2.2.2.1, hk.2.2.2.2⟩⟩⟩, hk.2.1⟩)) hg hat); have n2_ := Aside0.mk (blk_grown (g := gb434) (o := .cells #[.int .i64 ((rd_Op t430 x18_1).f0), .int .i64 ((rd_Op t430 x18_1).f1), .string ((rd_Op t430 x18_1).f2)] 36 (0, 0)) BK434.out hg (Kd.R_away HO_7.out (fun _ hk => hk.2.2.1))); have n3_ := Aside0.mk (blk_grown (g := gb435) (o := .cells #[.int .i64 x436000_9, .int .i64 x436001_9, .string x436002_9] 36 (0, 0)) BK435.out hg (Kd.R_away HO_7.out (fun _ hk => hk.2.2.2.1))); have n4_ := Aside0.mk (blk_grown (g := gb436) (o := .cells #[.int .i64 x437000_9, .int .i64 x437001_9, .string x437002_9] 36 (0, 0)) BK436.out hg (Kd.R_away HO_7.out (fun _ hk => hk.2.2.2.2))); have n5_ := Aside0.mk (hb); have n6_ := Aside0.mk (ho); clear HO_6; clear HO_16; clear BK434; clear BK435; clear BK436; clear HB; clear HO_7; have HO_6 := n0_; have HO_16 := n1_; have BK434 := n2_; have BK435 := n3_; have BK436 := n4_; have HB := n5_; have HO455 := n6_; clear n0_ n1_ n2_ n3_ n4_ n5_ n6_; clear ho hb hg hat))
                      go_roundg kj9
                      case measure => have := HK1.out; have := HJ9.out; omega
                      case rel => exact ⟨(x6_1), (y453), (x8_9), (wrap64 (x18_1 + 1)), (by first | rfl | (simp; done) | (simp [*]; done)), (by first | rfl | (simp; done) | (simp [*]; done)), H', ⟨by have := HK1.out; have := HJ9.out; omega⟩, ⟨by (with_reducible repeat (first | apply Kd.R_alloc | apply Kd.R_drewN | apply Kd.R_drew)); exact Kd.R_mono HO_6.out (fun _ hk => ⟨hk.2, hk.1.1⟩)⟩, ⟨by (with_reducible repeat (first | apply Kd.R_alloc | apply Kd.R_drewN | apply Kd.R_drew)); exact Kd.R_mono HO455.out (fun _ hk => ⟨hk.1, hk.2.1⟩)⟩, ⟨by (with_reducible repeat (first | apply Kd.R_alloc | apply Kd.R_drewN | apply Kd.R_drew)); exact Kd.R_mono HO_16.out (fun _ hk => ⟨hk.1.1, hk.2⟩)⟩, ⟨by repeat (first | (with_reducible first | exact HB.out | apply below_alloc | apply pw_below_drewN | apply below_drew1 | refine below_set ?_ GE434.out | refine below_set ?_ GE435.out | refine below_set ?_ GE436.out) | exact HB.out)⟩⟩
                    · rw [if_neg c62] at H
                      exact absurd H (by simp)
                  · replace c61 := Bool.eq_false_iff.mpr c61
                    subst c61
                    have H1 : (pick_Ops.l0 kj9 l1 x6_1 x7_1 x8_9 t430 (t430.length : Int) (wrap64 (x18_1 + 1))) = some (r1, r2) := by rw [if_neg (show ¬ (false = true) by decide)] at H; exact H
                    clear H
                    have H := H1
                    clear H1
                    have H' := Aside0.mk H
                    clear H
                    go_wp2
                    go_roundg kj9
                    case measure => have := HK1.out; have := HJ9.out; omega
                    case rel => exact ⟨(x6_1), (x7_1), (x8_9), (wrap64 (x18_1 + 1)), (by first | rfl | (simp; done) | (simp [*]; done)), (by first | rfl | (simp; done) | (simp [*]; done)), H', ⟨by have := HK1.out; have := HJ9.out; omega⟩, ⟨by (with_reducible repeat (first | apply Kd.R_alloc | apply Kd.R_drewN | apply Kd.R_drew)); exact Kd.R_mono HO_6.out (fun _ hk => ⟨hk.1, hk.2.1⟩)⟩, ⟨by (with_reducible repeat (first | apply Kd.R_alloc | apply Kd.R_drewN | apply Kd.R_drew)); exact Kd.R_mono HO_7.out (fun _ hk => ⟨hk.1, hk.2.1⟩)⟩, ⟨by (with_reducible repeat (first | apply Kd.R_alloc | apply Kd.R_drewN | apply Kd.R_drew)); exact Kd.R_mono HO_16.out (fun _ hk => ⟨hk.1, hk.2.1⟩)⟩, ⟨by repeat (first | (with_reducible first | exact HB.out | apply below_alloc | apply pw_below_drewN | apply below_drew1 | refine below_set ?_ GE434.out | refine below_set ?_ GE435.out | refine below_set ?_ GE436.out) | exact HB.out)⟩⟩
          · rw [if_neg c8] at H
            exact absurd H (by simp)
        · rw [if_neg c7] at H
          exact absurd H (by simp)
      · rw [if_neg c6] at H
        have c6b0 : decide (x18_1 < (t430.length : Int)) = false := decide_eq_false c6
        clear c6
        have HC67 := Aside0.mk H
        clear H
        go_upto_region 18 with (fail)
        go_cut [67] (fun v67 wc => ∃ (kq : Nat) (x67_66 : Bool), v67 = .bool x67_66 ∧ Aside0 (pick_Ops.j3 kq x6_1 x7_1 x67_66 = some (r1, r2)) ∧ Aside0 (kq ≤ k1) ∧ Aside0 (Kd.R kOp 36 wc w.heap.size (fun k_ => some k_ ≠ (u7 : Value).ownBlock) u6 x6_1) ∧ Aside0 (Kd.R kOp 36 wc w.heap.size (fun k_ => some k_ ≠ (u6 : Value).ownBlock) u7 x7_1) ∧ Aside0 (Below w.heap.size w wc))
        case first =>
          have H := HC67.out
          clear HC67
          replace H := Option.bind_eq_some_iff.mp H
          obtain ⟨t456, A680, H⟩ := H
          replace H : (if t456 = true then ((ops_Right.f k1 x7_1).bind fun t457 => (pick_Ops.j3 k1 x6_1 x7_1 (!t457))) else (pick_Ops.j3 k1 x6_1 x7_1 true)) = some (r1, r2) := H
          have A68 := Aside0.mk A680
          clear A680
          by_cases c69 : t456 = true
          · subst c69
            have H1 : ((ops_Right.f k1 x7_1).bind fun t457 => (pick_Ops.j3 k1 x6_1 x7_1 (!t457))) = some (r1, r2) := by rw [if_pos rfl] at H; exact H
            clear H
            have H := H1
            clear H1
            replace H := Option.bind_eq_some_iff.mp H
            obtain ⟨t457, A700, H⟩ := H
            replace H : (pick_Ops.j3 k1 x6_1 x7_1 (!t457)) = some (r1, r2) := H
            have A70 := Aside0.mk A700
            clear A700
            have H' := Aside0.mk H
            clear H
            obtain ⟨Ao71, co71, eo71⟩ := Kd.R_slice HO_6.out
            subst eo71
            go_wp2_with (first | ((with_reducible refine gate_callee (f := 32) rfl ?_); refine goesL_ (some 61) rfl rfl Try.func32 (by kernel_rfl) rfl #[.slice Ao71 x6_1.length co71] rfl (by (try simp only [List.map_toArray, List.map_cons, List.map_nil]); first | done | rfl | (simp only [List.length_drop, List.length_take]; rfl)) ?_; (with_reducible refine (ops_Right.calls k1 _ _ x6_1 true _ ?side1 ?side2 A68.out).mono ?_); (case side1 => repeat (first | exact (Kd.R_reads' HO_6.out).2.2 | (with_reducible refine Kd.C_alloc ?_ _) | (with_reducible refine Kd.C_drewN ?_ _) | (with_reducible refine Kd.C_drew ?_))); (case side2 => exact (Kd.R_reads' HO_6.out).2.1); rintro e w72 ⟨rfl, hb⟩; refine ⟨_, rfl, ?_⟩; have n0_ := Aside0.mk (Kd.R_below HO_6.out hb); have n1_ := Aside0.mk (Kd.R_below HO_7.out hb); have n2_ := Aside0.mk (Kd.R_below HO_16.out hb); have n3_ := Aside0.mk (below_step (by repeat (first | (with_reducible first | exact HB.out | apply below_alloc | apply pw_below_drewN | apply below_drew1) | exact HB.out)) hb); clear HO_6; clear HO_7; clear HO_16; clear HB; have HO_6 := n0_; have HO_7 := n1_; have HO_16 := n2_; have HB := n3_; clear n0_ n1_ n2_ n3_; (try clear hb); (try clear hb2); (try clear hk); (try clear hi); obtain ⟨Ao73, co73, eo73⟩ := Kd.R_slice HO_7.out; subst eo73) | (go_at_call 32; (with_reducible refine (ops_Right.calls k1 _ _ x7_1 t457 _ ?side1 ?side2 A70.out).mono ?_); (case side1 => repeat (first | exact (Kd.R_reads' HO_7.out).2.2 | (with_reducible refine Kd.C_alloc ?_ _) | (with_reducible refine Kd.C_drewN ?_ _) | (with_reducible refine Kd.C_drew ?_))); (case side2 => exact (Kd.R_reads' HO_7.out).2.1); rintro e w74 ⟨rfl, hb⟩; have n0_ := Aside0.mk (Kd.R_below HO_6.out hb); have n1_ := Aside0.mk (Kd.R_below HO_7.out hb); have n2_ := Aside0.mk (Kd.R_below HO_16.out hb); have n3_ := Aside0.mk (below_step (by repeat (first | (with_reducible first | exact HB.out | apply below_alloc | apply pw_below_drewN | apply below_drew1) | exact HB.out)) hb); clear HO_6; clear HO_7; clear HO_16; clear HB; have HO_6 := n0_; have HO_7 := n1_; have HO_16 := n2_; have HB := n3_; clear n0_ n1_ n2_ n3_; (try clear hb); (try clear hb2); (try clear hk); (try clear hi)))
            go_meet
            case rel => exact ⟨_, (!t457), (by first | rfl | (simp; done) | (simp [*]; done)), H', ⟨by have := HK1.out; first | omega | exact Nat.le_refl _⟩, ⟨by (with_reducible repeat (first | apply Kd.R_alloc | apply Kd.R_drewN | apply Kd.R_drew)); exact Kd.R_mono HO_6.out (fun _ hk => hk.1)⟩, ⟨by (with_reducible repeat (first | apply Kd.R_alloc | apply Kd.R_drewN | apply Kd.R_drew)); exact Kd.R_mono HO_7.out (fun _ hk => hk.1)⟩, ⟨by repeat (first | (with_reducible first | exact HB.out | apply below_alloc | apply pw_below_drewN | apply below_drew1) | exact HB.out)⟩⟩
          · replace c69 := Bool.eq_false_iff.mpr c69
            subst c69
            have H1 : (pick_Ops.j3 k1 x6_1 x7_1 true) = some (r1, r2) := by rw [if_neg (show ¬ (false = true) by decide)] at H; exact H
            clear H
            have H := H1
            clear H1
            have H' := Aside0.mk H
            clear H
            obtain ⟨Ao75, co75, eo75⟩ := Kd.R_slice HO_6.out
            subst eo75
            go_wp2_with (first | ((with_reducible refine gate_callee (f := 32) rfl ?_); refine goesL_ (some 61) rfl rfl Try.func32 (by kernel_rfl) rfl #[.slice Ao75 x6_1.length co75] rfl (by (try simp only [List.map_toArray, List.map_cons, List.map_nil]); first | done | rfl | (simp only [List.length_drop, List.length_take]; rfl)) ?_; (with_reducible refine (ops_Right.calls k1 _ _ x6_1 false _ ?side1 ?side2 A68.out).mono ?_); (case side1 => repeat (first | exact (Kd.R_reads' HO_6.out).2.2 | (with_reducible refine Kd.C_alloc ?_ _) | (with_reducible refine Kd.C_drewN ?_ _) | (with_reducible refine Kd.C_drew ?_))); (case side2 => exact (Kd.R_reads' HO_6.out).2.1); rintro e w76 ⟨rfl, hb⟩; refine ⟨_, rfl, ?_⟩; have n0_ := Aside0.mk (Kd.R_below HO_6.out hb); have n1_ := Aside0.mk (Kd.R_below HO_7.out hb); have n2_ := Aside0.mk (Kd.R_below HO_16.out hb); have n3_ := Aside0.mk (below_step (by repeat (first | (with_reducible first | exact HB.out | apply below_alloc | apply pw_below_drewN | apply below_drew1) | exact HB.out)) hb); clear HO_6; clear HO_7; clear HO_16; clear HB; have HO_6 := n0_; have HO_7 := n1_; have HO_16 := n2_; have HB := n3_; clear n0_ n1_ n2_ n3_; (try clear hb); (try clear hb2); (try clear hk); (try clear hi)))
            go_meet
            case rel => exact ⟨_, (true), (by first | rfl | (simp; done) | (simp [*]; done)), H', ⟨by have := HK1.out; first | omega | exact Nat.le_refl _⟩, ⟨by (with_reducible repeat (first | apply Kd.R_alloc | apply Kd.R_drewN | apply Kd.R_drew)); exact Kd.R_mono HO_6.out (fun _ hk => hk.1)⟩, ⟨by (with_reducible repeat (first | apply Kd.R_alloc | apply Kd.R_drewN | apply Kd.R_drew)); exact Kd.R_mono HO_7.out (fun _ hk => hk.1)⟩, ⟨by repeat (first | (with_reducible first | exact HB.out | apply below_alloc | apply pw_below_drewN | apply below_drew1) | exact HB.out)⟩⟩
        case rest =>
          clear HC67
          try clear c1
          try clear c2
          try clear p2
          try clear c3
          try clear c4
          try clear p4
          try clear q4
          try clear hx4
          try clear c5
          try clear c6
          try clear c6b0
          try clear p6
          try clear c7
          try clear c7b0
          try clear c8
          try clear c8b0
          try clear c24
          try clear c25
          try clear c26
          try clear c27
          try clear c29
          try clear c29b0
          try clear c30
          try clear c30b0
          try clear c31
          try clear c32
          try clear c33
          try clear c34
          try clear c37
          try clear c40
          try clear c41
          try clear c42
          try clear c43
          try clear p43
          try clear q43
          try clear hx43
          try clear c44
          try clear c46
          try clear c47
          try clear c48
          try clear c49
          try clear c50
          try clear c51
          try clear c54
          try clear c57
          try clear c58
          try clear c61
          try clear c62
          try clear c63
          try clear c64
          try clear p64
          try clear c69
          try clear hcz12_0
          try clear hcz12_1
          try clear hcz12_2
          try clear hcz26_0
          try clear hcz26_1
          try clear hcz26_2
          try clear hcz35_0
          try clear hcz35_1
          try clear hcz35_2
          try clear hcz38_0
          try clear hcz38_1
          try clear hcz38_2
          try clear hcz42_0
          try clear hcz42_1
          try clear hcz42_2
          try clear hcz45_0
          try clear hcz45_1
          try clear hcz45_2
          try clear hcz52_0
          try clear hcz52_1
          try clear hcz52_2
          try clear hcz55_0
          try clear hcz55_1
          try clear hcz55_2
          try clear hcz59_0
          try clear hcz59_1
          try clear hcz59_2
          try clear hcz65_0
          try clear hcz65_1
          try clear hcz65_2
          try clear hfz12_0
          try clear hfz12_1
          try clear hfz12_2
          try clear hfz26_0
          try clear hfz26_1
          try clear hfz26_2
          try clear hfz35_0
          try clear hfz35_1
          try clear hfz35_2
          try clear hfz38_0
          try clear hfz38_1
          try clear hfz38_2
          try clear hfz42_0
          try clear hfz42_1
          try clear hfz42_2
          try clear hfz45_0
          try clear hfz45_1
          try clear hfz45_2
          try clear hfz52_0
          try clear hfz52_1
          try clear hfz52_2
          try clear hfz55_0
          try clear hfz55_1
          try clear hfz55_2
          try clear hfz59_0
          try clear hfz59_1
          try clear hfz59_2
          try clear hfz65_0
          try clear hfz65_1
          try clear hfz65_2
          try clear hx433_0
          try clear hx433_1
          try clear hx433_2
          try clear hx438_0
          try clear p2
          try clear p4
          try clear p43
          try clear p433
          try clear p438
          try clear p6
          try clear q4
          try clear q43
          try clear q433
          try clear q438
          obtain ⟨kq, x67_66, rfl, HA, HJ66, HO_6, HO_7, HB⟩ := hcut
          cases kq with
          | zero => exact absurd HA.out (by simp [pick_Ops.j3])
          | succ kj66 =>
            have H := HA.out
            clear HA
            simp only [pick_Ops.j3] at H
            by_cases c77 : x67_66 = true
            · subst c77
              have H1 : (some (([] : List (Op)), ([] : List (Op)))) = some (r1, r2) := by rw [if_pos rfl] at H; exact H
              clear H
              have H := H1
              clear H1
              simp only [Option.some.injEq, Prod.mk.injEq] at H
              obtain ⟨rfl, rfl⟩ := H
              go_wp2
              go_ret2
              exact ⟨_, _, by first | rfl | (simp [errW_none, errW_some] <;> rfl) | (simp [*, errW_none, errW_some] <;> rfl), by first | exact Kd.R_nil _ _ _ _ _ | exact Kd.N_nil _ _ _ _ _ | exact Kd.V_nil _ _ _ _ _ | exact Kd.Q_nil _ _ _ _ _ | exact Kd.S_nil _ _ _ _ _, by first | exact Kd.R_nil _ _ _ _ _ | exact Kd.N_nil _ _ _ _ _ | exact Kd.V_nil _ _ _ _ _ | exact Kd.Q_nil _ _ _ _ _ | exact Kd.S_nil _ _ _ _ _, by repeat (first | (with_reducible first | exact HB.out | apply below_alloc | apply pw_below_drewN | apply below_drew1) | exact HB.out)⟩
            · replace c77 := Bool.eq_false_iff.mpr c77
              subst c77
              have H1 : ((ops_Norm.f kj66 x6_1).bind fun t458 => ((ops_Norm.f kj66 x7_1).bind fun t461 => (some (t458, t461)))) = some (r1, r2) := by rw [if_neg (show ¬ (false = true) by decide)] at H; exact H
              clear H
              have H := H1
              clear H1
              replace H := Option.bind_eq_some_iff.mp H
              obtain ⟨t458, A780, H⟩ := H
              replace H : ((ops_Norm.f kj66 x7_1).bind fun t461 => (some (t458, t461))) = some (r1, r2) := H
              have A78 := Aside0.mk A780
              clear A780
              replace H := Option.bind_eq_some_iff.mp H
              obtain ⟨t461, A790, H⟩ := H
              replace H : (some (t458, t461)) = some (r1, r2) := H
              have A79 := Aside0.mk A790
              clear A790
              simp only [Option.some.injEq, Prod.mk.injEq] at H
              obtain ⟨rfl, rfl⟩ := H
              obtain ⟨Ao80, co80, eo80⟩ := Kd.R_slice HO_6.out
              subst eo80
              go_wp2_with (first | ((with_reducible refine gate_callee (f := 33) rfl ?_); refine goesL_ (some 69) rfl rfl Try.func33 (by kernel_rfl) rfl #[.slice Ao80 x6_1.length co80] rfl (by (try simp only [List.map_toArray, List.map_cons, List.map_nil]); first | done | rfl | (simp only [List.length_drop, List.length_take]; rfl)) ?_; (with_reducible refine (ops_Norm.calls kj66 _ _ x6_1 t458 _ ?side1 ?side2 A78.out).mono ?_); (case side1 => repeat (first | exact (Kd.R_reads' HO_6.out).2.2 | (with_reducible refine Kd.C_alloc ?_ _) | (with_reducible refine Kd.C_drewN ?_ _) | (with_reducible refine Kd.C_drew ?_))); (case side2 => exact (Kd.R_reads' HO_6.out).2.1); rintro e w81 ⟨v459, rfl, ho0, hb⟩; refine ⟨_, rfl, ?_⟩; have n0_ := Aside0.mk (Kd.R_elder' HO_6.out (Kd.R_base ho0) hb); have n1_ := Aside0.mk (Kd.R_elder' HO_7.out (Kd.R_base ho0) hb); have n2_ := Aside0.mk (Kd.R_lower (Kd.R_new' (Kd.R_new' ho0 (Kd.R_lt HO_6.out)) (Kd.R_lt HO_7.out)) (below_size (by repeat (first | (with_reducible first | exact HB.out | apply below_alloc | apply pw_below_drewN | apply below_drew1) | exact HB.out)))); have n3_ := Aside0.mk (below_step (by repeat (first | (with_reducible first | exact HB.out | apply below_alloc | apply pw_below_drewN | apply below_drew1) | exact HB.out)) hb); clear HO_6; clear HO_7; clear HB; have HO_6 := n0_; have HO_7 := n1_; have HO460 := n2_; have HB := n3_; clear n0_ n1_ n2_ n3_; (try clear hb); (try clear hb2); (try clear hk); (try clear hi); (try clear ho0); obtain ⟨Ao82, co82, eo82⟩ := Kd.R_slice HO_7.out; subst eo82) | ((with_reducible refine gate_callee (f := 33) rfl ?_); refine goesL_ (some 71) rfl rfl Try.func33 (by kernel_rfl) rfl #[.slice Ao82 x7_1.length co82] rfl (by (try simp only [List.map_toArray, List.map_cons, List.map_nil]); first | done | rfl | (simp only [List.length_drop, List.length_take]; rfl)) ?_; (with_reducible refine (ops_Norm.calls kj66 _ _ x7_1 t461 _ ?side1 ?side2 A79.out).mono ?_); (case side1 => repeat (first | exact (Kd.R_reads' HO_7.out).2.2 | (with_reducible refine Kd.C_alloc ?_ _) | (with_reducible refine Kd.C_drewN ?_ _) | (with_reducible refine Kd.C_drew ?_))); (case side2 => exact (Kd.R_reads' HO_7.out).2.1); rintro e w83 ⟨v462, rfl, ho0, hb⟩; refine ⟨_, rfl, ?_⟩; have n0_ := Aside0.mk (Kd.R_elder' HO_6.out (Kd.R_base ho0) hb); have n1_ := Aside0.mk (Kd.R_elder' HO_7.out (Kd.R_base ho0) hb); have n2_ := Aside0.mk (Kd.R_elder' HO460.out (Kd.R_base ho0) hb); have n3_ := Aside0.mk (Kd.R_lower (Kd.R_new' (Kd.R_new' (Kd.R_new' ho0 (Kd.R_lt HO_6.out)) (Kd.R_lt HO_7.out)) (Kd.R_lt HO460.out)) (below_size (by repeat (first | (with_reducible first | exact HB.out | apply below_alloc | apply pw_below_drewN | apply below_drew1) | exact HB.out)))); have n4_ := Aside0.mk (below_step (by repeat (first | (with_reducible first | exact HB.out | apply below_alloc | apply pw_below_drewN | apply below_drew1) | exact HB.out)) hb); clear HO_6; clear HO_7; clear HO460; clear HB; have HO_6 := n0_; have HO_7 := n1_; have HO460 := n2_; have HO463 := n3_; have HB := n4_; clear n0_ n1_ n2_ n3_ n4_; (try clear hb); (try clear hb2); (try clear hk); (try clear hi); (try clear ho0)))
              go_ret2
              exact ⟨_, _, by first | rfl | (simp [errW_none, errW_some] <;> rfl) | (simp [*, errW_none, errW_some] <;> rfl), by (with_reducible repeat (first | apply Kd.R_alloc | apply Kd.R_drewN | apply Kd.R_drew)); exact Kd.R_mono HO460.out (fun _ hk => hk.2), by (with_reducible repeat (first | apply Kd.R_alloc | apply Kd.R_drewN | apply Kd.R_drew)); exact Kd.R_mono HO463.out (fun _ hk => hk.2), by repeat (first | (with_reducible first | exact HB.out | apply below_alloc | apply pw_below_drewN | apply below_drew1) | exact HB.out)⟩

/-! ### pick_Rows: function 29 -/

set_option maxHeartbeats 8000000 in
set_option maxRecDepth 100000 in
theorem pick_Rows.calls (k : Nat) (A0 : Option Addr) (c0 : Nat) (l0 : List (Op)) (r : List (Range)) (w : World) (hr0 : Kd.C kOp w A0 l0.length l0) (hc0 : l0.length ≤ c0) (h : pick_Rows.f k l0 = some r) :
    Calls Try.prog 29 #[.slice A0 l0.length c0] w fun e w' => ∃ v0_ : Value, e = .returned (v0_) ∧ Kd.R kRange 48 w' w.heap.size (fun _ => True) v0_ r ∧ Below w.heap.size w w' := by
  have hu36 := Try.underlying36
  have hu48 := Try.underlying48
  have HR0 := Aside0.mk hr0
  have HC0 := Aside0.mk hc0
  clear hr0 hc0
  have HB := Aside0.mk (Below.refl w.heap.size w)
  have H : (pick_Rows.l0 k ([] : List (Range)) 0 false l0 (l0.length : Int) 0) = some r := h
  clear h
  have H' := Aside0.mk H
  clear H
  go_enter Try.func29, Try.ntmps29
  go_wp2
  go_loopg [3, 4, 5, 10] k (fun kq v3 v4 v5 v10 w' => ∃ (x3_1 : List (Range)) (x4_1 : Int) (x5_1 : Bool) (x10_1 : Int), v4 = .int .i64 x4_1 ∧ v5 = .bool x5_1 ∧ v10 = .int .i64 x10_1 ∧ Aside0 (pick_Rows.l0 kq x3_1 x4_1 x5_1 l0 (l0.length : Int) x10_1 = some r) ∧ Aside0 (kq ≤ k) ∧ Aside0 (Kd.R kRange 48 w' w.heap.size (fun _ => True) v3 x3_1) ∧ Aside0 (Below w.heap.size w w'))
  case atStart => exact ⟨(([] : List (Range))), (0), (false), (0), (by first | rfl | (simp; done) | (simp [*]; done)), (by first | rfl | (simp; done) | (simp [*]; done)), (by first | rfl | (simp; done) | (simp [*]; done)), H', ⟨Nat.le_refl _⟩, ⟨by first | exact Kd.R_nil _ _ _ _ _ | exact Kd.N_nil _ _ _ _ _ | exact Kd.V_nil _ _ _ _ _ | exact Kd.Q_nil _ _ _ _ _ | exact Kd.S_nil _ _ _ _ _⟩, ⟨by repeat (first | (with_reducible first | exact HB.out | apply below_alloc | apply pw_below_drewN | apply below_drew1) | exact HB.out)⟩⟩
  case round =>
    clear H'
    obtain ⟨x3_1, x4_1, x5_1, x10_1, rfl, rfl, rfl, HA, HK1, HO_3, HB⟩ := hrel
    cases gk with
    | zero => exact absurd HA.out (by simp [pick_Rows.l0])
    | succ k1 =>
      have H := HA.out
      clear HA
      simp only [pick_Rows.l0] at H
      by_cases c2 : x10_1 < (l0.length : Int)
      · rw [if_pos c2] at H
        have c2b0 : decide (x10_1 < (l0.length : Int)) = true := decide_eq_true c2
        clear c2
        by_cases c3 : 0 ≤ x10_1
        · rw [if_pos c3] at H
          have c3b0 : decide (0 ≤ x10_1) = true := decide_eq_true c3
          clear c3
          by_cases c4 : x10_1 < (l0.length : Int)
          · rw [if_pos c4] at H
            have c4b0 : decide (x10_1 < (l0.length : Int)) = true := decide_eq_true c4
            clear c4
            replace H := Option.bind_eq_some_iff.mp H
            obtain ⟨t466, A50, H⟩ := H
            replace H : (if t466 = true then (if x5_1 = true then (if 0 ≤ (wrap64 ((x3_1.length : Int) - 1)) then (if (wrap64 ((x3_1.length : Int) - 1)) < (x3_1.length : Int) then (pick_Rows.l0 k1 (x3_1.set ((wrap64 ((x3_1.length : Int) - 1)) : Int).toNat (⟨(rd_Range x3_1 (wrap64 ((x3_1.length : Int) - 1))).f0, x4_1⟩ : Range)) (wrap64 (x4_1 + 1)) true l0 (l0.length : Int) (wrap64 (x10_1 + 1))) else (none)) else (none)) else (if x3_1.length < 8796093022208 then ((some (x3_1 ++ [(⟨x4_1, 0⟩ : Range)] : List (Range))).bind fun y468 => (if 0 ≤ (wrap64 ((y468.length : Int) - 1)) then (if (wrap64 ((y468.length : Int) - 1)) < (y468.length : Int) then (pick_Rows.l0 k1 (y468.set ((wrap64 ((y468.length : Int) - 1)) : Int).toNat (⟨(rd_Range y468 (wrap64 ((y468.length : Int) - 1))).f0, x4_1⟩ : Range)) (wrap64 (x4_1 + 1)) true l0 (l0.length : Int) (wrap64 (x10_1 + 1))) else (none)) else (none))) else (none))) else (pick_Rows.l0 k1 x3_1 x4_1 false l0 (l0.length : Int) (wrap64 (x10_1 + 1)))) = some r := H
            have A5 := Aside0.mk A50
            clear A50
            by_cases c6 : t466 = true
            · subst c6
              have H1 : (if x5_1 = true then (if 0 ≤ (wrap64 ((x3_1.length : Int) - 1)) then (if (wrap64 ((x3_1.length : Int) - 1)) < (x3_1.length : Int) then (pick_Rows.l0 k1 (x3_1.set ((wrap64 ((x3_1.length : Int) - 1)) : Int).toNat (⟨(rd_Range x3_1 (wrap64 ((x3_1.length : Int) - 1))).f0, x4_1⟩ : Range)) (wrap64 (x4_1 + 1)) true l0 (l0.length : Int) (wrap64 (x10_1 + 1))) else (none)) else (none)) else (if x3_1.length < 8796093022208 then ((some (x3_1 ++ [(⟨x4_1, 0⟩ : Range)] : List (Range))).bind fun y468 => (if 0 ≤ (wrap64 ((y468.length : Int) - 1)) then (if (wrap64 ((y468.length : Int) - 1)) < (y468.length : Int) then (pick_Rows.l0 k1 (y468.set ((wrap64 ((y468.length : Int) - 1)) : Int).toNat (⟨(rd_Range y468 (wrap64 ((y468.length : Int) - 1))).f0, x4_1⟩ : Range)) (wrap64 (x4_1 + 1)) true l0 (l0.length : Int) (wrap64 (x10_1 + 1))) else (none)) else (none))) else (none))) = some r := by rw [if_pos rfl] at H; exact H
              clear H
              have H := H1
              clear H1
              by_cases c7 : x5_1 = true
              · subst c7
                have H1 : (if 0 ≤ (wrap64 ((x3_1.length : Int) - 1)) then (if (wrap64 ((x3_1.length : Int) - 1)) < (x3_1.length : Int) then (pick_Rows.l0 k1 (x3_1.set ((wrap64 ((x3_1.length : Int) - 1)) : Int).toNat (⟨(rd_Range x3_1 (wrap64 ((x3_1.length : Int) - 1))).f0, x4_1⟩ : Range)) (wrap64 (x4_1 + 1)) true l0 (l0.length : Int) (wrap64 (x10_1 + 1))) else (none)) else (none)) = some r := by rw [if_pos rfl] at H; exact H
                clear H
                have H := H1
                clear H1
                obtain ⟨ji8, hji8⟩ : ∃ j_ : Int, (wrap64 ((x3_1.length : Int) - 1)) = j_ := ⟨_, rfl⟩
                replace H : (if 0 ≤ (ji8) then (if (ji8) < (x3_1.length : Int) then (pick_Rows.l0 k1 (x3_1.set ((ji8) : Int).toNat (⟨(rd_Range x3_1 (ji8)).f0, x4_1⟩ : Range)) (wrap64 (x4_1 + 1)) true l0 (l0.length : Int) (wrap64 (x10_1 + 1))) else (none)) else (none)) = some r := by first | (rw [hji8] at H; exact H) | (simp only [hji8] at H ⊢; exact H)
                (try rw [hji8] at A5)
                have hji8w : (IntKind.i64.wrap ((x3_1.length : Int) - 1)) = ji8 := (i64_w _).trans hji8
                by_cases c9 : 0 ≤ (ji8)
                · rw [if_pos c9] at H
                  have c9b0 : decide (0 ≤ (ji8)) = true := decide_eq_true c9
                  clear c9
                  by_cases c10 : (ji8) < (x3_1.length : Int)
                  · rw [if_pos c10] at H
                    have c10b0 : decide ((ji8) < (x3_1.length : Int)) = true := decide_eq_true c10
                    clear c10
                    obtain ⟨y467, hy467⟩ : ∃ y_ : List (Range), y_ = (x3_1.set ((ji8) : Int).toNat (⟨(rd_Range x3_1 (ji8)).f0, x4_1⟩ : Range)) := ⟨_, rfl⟩
                    replace H : (pick_Rows.l0 k1 y467 (wrap64 (x4_1 + 1)) true l0 (l0.length : Int) (wrap64 (x10_1 + 1))) = some r := by first | (rw [hy467]; with_reducible exact H) | (have H2_ := (Option.bind_some _ _).symm.trans H; rw [hy467]; with_reducible exact H2_) | (have H2_ := (Option.bind_some _ _).symm.trans H; with_reducible exact H2_) | with_reducible exact H | (rw [hy467]; exact H) | exact H
                    have Ny467 := Aside0.mk hy467
                    clear hy467
                    have H' := Aside0.mk H
                    clear H
                    have p464 : 0 ≤ (x10_1 : Int) := of_decide_eq_true (by first | (with_reducible assumption) | assumption)
                    have q464 : x10_1 < (l0.length : Int) := of_decide_eq_true (by first | (with_reducible assumption) | assumption)
                    obtain ⟨ad464, e464, hx464_0, hx464_1, hx464_2⟩ := at_Op HR0.out x10_1 p464 q464
                    cases e464
                    replace hx464_0 := (HB.out.cell (World.block_lt_of_cell? w _ hx464_0)).trans hx464_0
                    replace hx464_1 := (HB.out.cell (World.block_lt_of_cell? w _ hx464_1)).trans hx464_1
                    replace hx464_2 := (HB.out.cell (World.block_lt_of_cell? w _ hx464_2)).trans hx464_2
                    replace p464 := eq_true p464
                    replace q464 := eq_true q464
                    go_wp2_with (first | ((with_reducible refine gate_dst (N := 7) rfl ?_); refine box_event ?hg (N := 7) ?hd (cs := #[.int .i64 0, .int .i64 0, .string (⟨#[]⟩ : ByteArray)]) (t := 36) ?hr ?_; (case hd => rfl); (case hg => rfl); (case hr => first | (go_simp; done) | (go_simp; rfl)); intro gb465 hg w12 hbox hb; have n0_ := Aside0.mk (Kd.R_below (by (with_reducible repeat (first | apply Kd.R_alloc | apply Kd.R_drewN | apply Kd.R_drew)); exact HO_3.out) hb); have n1_ := Aside0.mk (below_step (by repeat (first | (with_reducible first | exact HB.out | apply below_alloc | apply pw_below_drewN | apply below_drew1) | exact HB.out)) hb); have n2_ := Aside0.mk (hbox); have n3_ := Aside0.mk ((by rw [hg]; exact (below_size (by repeat (first | (with_reducible first | exact HB.out | apply below_alloc | apply pw_below_drewN | apply below_drew1) | exact HB.out))) : w.heap.size ≤ gb465)); have n4_ := Aside0.mk ((by rw [hg]; exact (below_size (by repeat (first | (with_reducible first | exact HB.out | apply below_alloc | apply pw_below_drewN | apply below_drew1) | exact HB.out))) : w.heap.size ≤ gb465)); clear HO_3; clear HB; have HO_3 := n0_; have HB := n1_; have BK465 := n2_; have GW465 := n3_; have GE465 := n4_; clear n0_ n1_ n2_ n3_ n4_; clear hb hbox hg; have hcz13_0 : w12.cell? ⟨gb465, 0, none⟩ = some (.int .i64 0) := (blk_cell BK465.out 0).trans rfl; have hcz13_1 : w12.cell? ⟨gb465, 1, none⟩ = some (.int .i64 0) := (blk_cell BK465.out 1).trans rfl; have hcz13_2 : w12.cell? ⟨gb465, 2, none⟩ = some (.string (⟨#[]⟩ : ByteArray)) := (blk_cell BK465.out 2).trans rfl; have hfz13_0 := blk_frozen BK465.out 0; have hfz13_1 := blk_frozen BK465.out 1; have hfz13_2 := blk_frozen BK465.out 2) | ((with_reducible refine gate_store (t := 36) (p := 7) rfl ?_); refine store_event (t := 36) (p := 7) (v := ?vo_w14) (w1 := (((w12.setCell ⟨gb465, 0, none⟩ (.int .i64 ((rd_Op l0 x10_1).f0))).setCell ⟨gb465, 1, none⟩ (.int .i64 ((rd_Op l0 x10_1).f1))).setCell ⟨gb465, 2, none⟩ (.string ((rd_Op l0 x10_1).f2)))) ?hg ?ho ?hn ?hr ?_; (case ho => rfl); (case hg => rfl); (case hn => rfl); (case hr => first | (go_simp; done) | (go_simp; rfl)); intro w14 hw; have n0_ : Aside0 (Kd.R kRange 48 w14 w.heap.size (fun _ => True) u3 x3_1) := ⟨(by rw [hw]; exact (by (with_reducible repeat (first | apply Kd.R_alloc | apply Kd.R_drewN | apply Kd.R_drew)); exact Kd.R_mono (Kd.R_far (p := ⟨gb465, 2, none⟩) (Kd.R_far (p := ⟨gb465, 1, none⟩) (Kd.R_far (p := ⟨gb465, 0, none⟩) (Kd.R_types HO_3.out BK465.out (by decide)) (fun _ hk => hk.2) (.int .i64 ((rd_Op l0 x10_1).f0))) (fun _ hk => hk.2) (.int .i64 ((rd_Op l0 x10_1).f1))) (fun _ hk => hk.2) (.string ((rd_Op l0 x10_1).f2))) (fun _ hk => trivial)))⟩; have n1_ : Aside0 (w14.heap[gb465]? = some (.cells #[.int .i64 ((rd_Op l0 x10_1).f0), .int .i64 ((rd_Op l0 x10_1).f1), .string ((rd_Op l0 x10_1).f2)] 36 (0, 0))) := ⟨(by rw [hw]; exact (by (with_reducible repeat (first | refine blk_drewN ?_ _ | refine blk_drew ?_ | refine blk_alloc ?_ _)); refine blk_put (cs := #[.int .i64 ((rd_Op l0 x10_1).f0), .int .i64 ((rd_Op l0 x10_1).f1), .string (⟨#[]⟩ : ByteArray)]) ?_ 2 _ rfl; (with_reducible repeat (first | refine blk_drewN ?_ _ | refine blk_drew ?_ | refine blk_alloc ?_ _)); refine blk_put (cs := #[.int .i64 ((rd_Op l0 x10_1).f0), .int .i64 0, .string (⟨#[]⟩ : ByteArray)]) ?_ 1 _ rfl; (with_reducible repeat (first | refine blk_drewN ?_ _ | refine blk_drew ?_ | refine blk_alloc ?_ _)); refine blk_put (cs := #[.int .i64 0, .int .i64 0, .string (⟨#[]⟩ : ByteArray)]) ?_ 0 _ rfl; (with_reducible repeat (first | refine blk_drewN ?_ _ | refine blk_drew ?_ | refine blk_alloc ?_ _)); exact BK465.out))⟩; have n2_ : Aside0 (Below w.heap.size w w14) := ⟨(by rw [hw]; exact (by repeat (first | (with_reducible first | exact HB.out | apply below_alloc | apply pw_below_drewN | apply below_drew1 | refine below_set ?_ GE465.out) | exact HB.out)))⟩; clear hw; clear HO_3; clear BK465; clear HB; have HO_3 := n0_; have BK465 := n1_; have HB := n2_; clear n0_ n1_ n2_; have hcz15_0 : w14.cell? ⟨gb465, 0, none⟩ = some (.int .i64 ((rd_Op l0 x10_1).f0)) := (blk_cell BK465.out 0).trans rfl; have hcz15_1 : w14.cell? ⟨gb465, 1, none⟩ = some (.int .i64 ((rd_Op l0 x10_1).f1)) := (blk_cell BK465.out 1).trans rfl; have hcz15_2 : w14.cell? ⟨gb465, 2, none⟩ = some (.string ((rd_Op l0 x10_1).f2)) := (blk_cell BK465.out 2).trans rfl; have hfz15_0 := blk_frozen BK465.out 0; have hfz15_1 := blk_frozen BK465.out 1; have hfz15_2 := blk_frozen BK465.out 2) | ((with_reducible refine gate_callee (f := 42) rfl ?_); refine goesL_ (some 16) rfl rfl Try.func42 (by kernel_rfl) rfl #[.int .i64 ((rd_Op l0 x10_1).f0)] rfl (by (try simp only [List.map_toArray, List.map_cons, List.map_nil]); first | done | rfl | (simp only [List.length_drop, List.length_take]; rfl)) ?_; (with_reducible refine (ops_Change.calls ((rd_Op l0 x10_1).f0) true _ A5.out).mono ?_); rintro e w' ⟨rfl, ⟨nd, rfl⟩⟩; refine ⟨_, rfl, ?_⟩; (try (rw [drewN_self w14]; generalize hq_ : World.drewN w14 _ = w14; have n0_ : Aside0 (Kd.R kRange 48 w14 w.heap.size (fun _ => True) u3 x3_1) := ⟨by rw [← hq_]; exact (by (with_reducible repeat (first | apply Kd.R_alloc | apply Kd.R_drewN | apply Kd.R_drew)); exact HO_3.out)⟩; have n1_ : Aside0 (w14.heap[gb465]? = some (.cells #[.int .i64 ((rd_Op l0 x10_1).f0), .int .i64 ((rd_Op l0 x10_1).f1), .string ((rd_Op l0 x10_1).f2)] 36 (0, 0))) := ⟨by rw [← hq_]; exact (by (with_reducible repeat (first | refine blk_drewN ?_ _ | refine blk_drew ?_ | refine blk_alloc ?_ _)); exact BK465.out)⟩; have n2_ : Aside0 (Below w.heap.size w w14) := ⟨by rw [← hq_]; exact (by repeat (first | (with_reducible first | exact HB.out | apply below_alloc | apply pw_below_drewN | apply below_drew1 | refine below_set ?_ GE465.out) | exact HB.out))⟩; clear HO_3 BK465 HB hq_; have HO_3 := n0_; have BK465 := n1_; have HB := n2_; clear n0_ n1_ n2_)); obtain ⟨Ao16, co16, eo16⟩ := Kd.R_slice HO_3.out; subst eo16; have p11 : 0 ≤ ((ji8) : Int) := of_decide_eq_true (by first | (with_reducible assumption) | assumption); have q11 : ((ji8) : Int) < ((x3_1.length : Int) : Int) := of_decide_eq_true (by first | (with_reducible assumption) | assumption); obtain ⟨go11, co11, eo11, gb11, gl11, cl11, HG11⟩ := Kd.R_form HO_3.out (by omega); (first | cases eo11 | (injection eo11 with ea_ en_ ec_; (first | subst ea_ | (injection ea_ with ea_; subst ea_)); subst ec_; clear en_)); have GB11 := Aside0.mk gb11; have GG11 := Aside0.mk HG11; clear gb11 gl11 HG11; obtain ⟨ce11, hcl11, hM11, hcc11, hfr11⟩ := Kd.R_elem HO_3.out zRange ((ji8) : Int) p11 q11; obtain rfl := kRange_openM hM11; have hx11_0 : w14.cell? ⟨go11, ((ji8) : Int).toNat * 2, none⟩ = some (.int .i64 ((rd_Range x3_1 (ji8)).f0)) := hcc11 0 _ rfl; have hx11_1 : w14.cell? ⟨go11, ((ji8) : Int).toNat * 2 + 1, none⟩ = some (.int .i64 ((rd_Range x3_1 (ji8)).f1)) := hcc11 1 _ rfl; have hf11_0 : w14.frozen? ⟨go11, ((ji8) : Int).toNat * 2, none⟩ = false := hfr11 0; have hf11_1 : w14.frozen? ⟨go11, ((ji8) : Int).toNat * 2 + 1, none⟩ = false := hfr11 1; clear hcl11 hcc11 hfr11 hM11; replace p11 := eq_true p11; replace q11 := eq_true q11; have HX17 := Aside0.mk (show Kd.R kRange 48 w14 w.heap.size (fun _ => True) (.slice (some ⟨go11, 0, none⟩) x3_1.length co16) x3_1 from (by (with_reducible repeat (first | apply Kd.R_alloc | apply Kd.R_drewN | apply Kd.R_drew)); exact HO_3.out)); obtain ⟨ce17, hcl17, hM17, hcc17, hfr17⟩ := Kd.R_elem HX17.out zRange ((ji8) : Int) (of_decide_eq_true (by first | (with_reducible assumption) | assumption)) (by have h_ : ((ji8) : Int) < ((x3_1.length : Int) : Int) := of_decide_eq_true (by first | (with_reducible assumption) | assumption); first | exact h_ | (have e_ := (Kd.R_reads' HO_3.out).1; omega) | simpa using h_); obtain rfl := kRange_openM hM17; have HP17 := Kd.R_seg HX17.out ((ji8) : Int) (of_decide_eq_true (by first | (with_reducible assumption) | assumption)) (by have h_ : ((ji8) : Int) < ((x3_1.length : Int) : Int) := of_decide_eq_true (by first | (with_reducible assumption) | assumption); first | exact h_ | (have e_ := (Kd.R_reads' HO_3.out).1; omega) | simpa using h_) (seg := [.int .i64 x4_1]) (j := 1) hcl17 hcc17 (show 2 ≤ 2 from by decide) (x' := (⟨(rd_Range x3_1 (ji8)).f0, x4_1⟩ : Range)) (kRange_mkM _ _ _ (⟨(rd_Range x3_1 (ji8)).f0, x4_1⟩ : Range) ) (fun _ hk => hk); have hx17_1 := hcc17 1 _ rfl; (try simp only [show (kRange).sz = 2 from rfl, Nat.mul_one, Nat.add_zero] at hx17_1); have hf17_1 := hfr17 1; (try simp only [show (kRange).sz = 2 from rfl, Nat.mul_one, Nat.add_zero] at hf17_1); clear hcl17 hcc17 hfr17 hM17) | ((with_reducible refine gate_store (t := 3) (p := 31) rfl ?_); refine store_event (t := 3) (p := 31) (v := ?vo_w18) (w1 := (w14.setCell ⟨go11, ((ji8) : Int).toNat * 2 + 1, none⟩ (.int .i64 x4_1))) ?hg ?ho ?hn ?hr ?_; (case ho => rfl); (case hg => rfl); (case hn => rfl); (case hr => first | (go_simp; done) | (go_simp; rfl)); intro w18 hw; have hg : w14.grownBy w18 (some go11) := (by rw [hw]; exact HP17.2); have hp_ : Kd.R kRange 48 w18 w.heap.size (fun _ => True) (.slice (some ⟨go11, 0, none⟩) x3_1.length co16) y467 := (by rw [hw, Ny467.out]; exact HP17.1); clear HP17; have n0_ := Aside0.mk (hp_); have n1_ := Aside0.mk (blk_grown (g := gb465) (o := .cells #[.int .i64 ((rd_Op l0 x10_1).f0), .int .i64 ((rd_Op l0 x10_1).f1), .string ((rd_Op l0 x10_1).f2)] 36 (0, 0)) (by (with_reducible repeat (first | refine blk_drewN ?_ _ | refine blk_drew ?_ | refine blk_alloc ?_ _)); exact BK465.out) hg (Kd.R_ne HO_3.out BK465.out (by decide))); have n2_ := Aside0.mk ((by rw [hw]; exact below_set (HB.out) GB11.out : Below w.heap.size w w18)); clear HO_3; clear BK465; clear HB; have HO_3 := n0_; have BK465 := n1_; have HB := n2_; clear n0_ n1_ n2_; clear hg hw hp_))
                    go_roundg k1
                    case measure => have := HK1.out; omega
                    case rel => exact ⟨(y467), (wrap64 (x4_1 + 1)), (true), (wrap64 (x10_1 + 1)), (by first | rfl | (simp; done) | (simp [*]; done)), (by first | rfl | (simp; done) | (simp [*]; done)), (by first | rfl | (simp; done) | (simp [*]; done)), H', ⟨by have := HK1.out; omega⟩, ⟨by (with_reducible repeat (first | apply Kd.R_alloc | apply Kd.R_drewN | apply Kd.R_drew)); exact HO_3.out⟩, ⟨by repeat (first | (with_reducible first | exact HB.out | apply below_alloc | apply pw_below_drewN | apply below_drew1 | refine below_set ?_ GE465.out) | exact HB.out)⟩⟩
                  · rw [if_neg c10] at H
                    exact absurd H (by simp)
                · rw [if_neg c9] at H
                  exact absurd H (by simp)
              · replace c7 := Bool.eq_false_iff.mpr c7
                subst c7
                have H1 : (if x3_1.length < 8796093022208 then ((some (x3_1 ++ [(⟨x4_1, 0⟩ : Range)] : List (Range))).bind fun y468 => (if 0 ≤ (wrap64 ((y468.length : Int) - 1)) then (if (wrap64 ((y468.length : Int) - 1)) < (y468.length : Int) then (pick_Rows.l0 k1 (y468.set ((wrap64 ((y468.length : Int) - 1)) : Int).toNat (⟨(rd_Range y468 (wrap64 ((y468.length : Int) - 1))).f0, x4_1⟩ : Range)) (wrap64 (x4_1 + 1)) true l0 (l0.length : Int) (wrap64 (x10_1 + 1))) else (none)) else (none))) else (none)) = some r := by rw [if_neg (show ¬ (false = true) by decide)] at H; exact H
                clear H
                have H := H1
                clear H1
                by_cases c19 : x3_1.length < 8796093022208
                · rw [if_pos c19] at H
                  have LMc19 := Aside0.mk c19
                  clear c19
                  obtain ⟨y468, hy468⟩ : ∃ y_ : List (Range), y_ = (x3_1 ++ [(⟨x4_1, 0⟩ : Range)]) := ⟨_, rfl⟩
                  replace H : (if 0 ≤ (wrap64 ((y468.length : Int) - 1)) then (if (wrap64 ((y468.length : Int) - 1)) < (y468.length : Int) then (pick_Rows.l0 k1 (y468.set ((wrap64 ((y468.length : Int) - 1)) : Int).toNat (⟨(rd_Range y468 (wrap64 ((y468.length : Int) - 1))).f0, x4_1⟩ : Range)) (wrap64 (x4_1 + 1)) true l0 (l0.length : Int) (wrap64 (x10_1 + 1))) else (none)) else (none)) = some r := by first | (rw [hy468]; with_reducible exact H) | (have H2_ := (Option.bind_some _ _).symm.trans H; rw [hy468]; with_reducible exact H2_) | (have H2_ := (Option.bind_some _ _).symm.trans H; with_reducible exact H2_) | with_reducible exact H | (rw [hy468]; exact H) | exact H
                  have Ny468 := Aside0.mk hy468
                  clear hy468
                  obtain ⟨ji20, hji20⟩ : ∃ j_ : Int, (wrap64 ((y468.length : Int) - 1)) = j_ := ⟨_, rfl⟩
                  replace H : (if 0 ≤ (ji20) then (if (ji20) < (y468.length : Int) then (pick_Rows.l0 k1 (y468.set ((ji20) : Int).toNat (⟨(rd_Range y468 (ji20)).f0, x4_1⟩ : Range)) (wrap64 (x4_1 + 1)) true l0 (l0.length : Int) (wrap64 (x10_1 + 1))) else (none)) else (none)) = some r := by first | (rw [hji20] at H; exact H) | (simp only [hji20] at H ⊢; exact H)
                  (try rw [hji20] at A5)
                  have hji20w : (IntKind.i64.wrap ((y468.length : Int) - 1)) = ji20 := (i64_w _).trans hji20
                  by_cases c21 : 0 ≤ (ji20)
                  · rw [if_pos c21] at H
                    have c21b0 : decide (0 ≤ (ji20)) = true := decide_eq_true c21
                    clear c21
                    by_cases c22 : (ji20) < (y468.length : Int)
                    · rw [if_pos c22] at H
                      have c22b0 : decide ((ji20) < (y468.length : Int)) = true := decide_eq_true c22
                      clear c22
                      obtain ⟨y471, hy471⟩ : ∃ y_ : List (Range), y_ = (y468.set ((ji20) : Int).toNat (⟨(rd_Range y468 (ji20)).f0, x4_1⟩ : Range)) := ⟨_, rfl⟩
                      replace H : (pick_Rows.l0 k1 y471 (wrap64 (x4_1 + 1)) true l0 (l0.length : Int) (wrap64 (x10_1 + 1))) = some r := by first | (rw [hy471]; with_reducible exact H) | (have H2_ := (Option.bind_some _ _).symm.trans H; rw [hy471]; with_reducible exact H2_) | (have H2_ := (Option.bind_some _ _).symm.trans H; with_reducible exact H2_) | with_reducible exact H | (rw [hy471]; exact H) | exact H
                      have Ny471 := Aside0.mk hy471
                      clear hy471
                      have H' := Aside0.mk H
                      clear H
                      have p464 : 0 ≤ (x10_1 : Int) := of_decide_eq_true (by first | (with_reducible assumption) | assumption)
                      have q464 : x10_1 < (l0.length : Int) := of_decide_eq_true (by first | (with_reducible assumption) | assumption)
                      obtain ⟨ad464, e464, hx464_0, hx464_1, hx464_2⟩ := at_Op HR0.out x10_1 p464 q464
                      cases e464
                      replace hx464_0 := (HB.out.cell (World.block_lt_of_cell? w _ hx464_0)).trans hx464_0
                      replace hx464_1 := (HB.out.cell (World.block_lt_of_cell? w _ hx464_1)).trans hx464_1
                      replace hx464_2 := (HB.out.cell (World.block_lt_of_cell? w _ hx464_2)).trans hx464_2
                      replace p464 := eq_true p464
                      replace q464 := eq_true q464
                      go_wp2_with (first | ((with_reducible refine gate_dst (N := 7) rfl ?_); refine box_event ?hg (N := 7) ?hd (cs := #[.int .i64 0, .int .i64 0, .string (⟨#[]⟩ : ByteArray)]) (t := 36) ?hr ?_; (case hd => rfl); (case hg => rfl); (case hr => first | (go_simp; done) | (go_simp; rfl)); intro gb465 hg w24 hbox hb; have n0_ := Aside0.mk (Kd.R_below (by (with_reducible repeat (first | apply Kd.R_alloc | apply Kd.R_drewN | apply Kd.R_drew)); exact HO_3.out) hb); have n1_ := Aside0.mk (below_step (by repeat (first | (with_reducible first | exact HB.out | apply below_alloc | apply pw_below_drewN | apply below_drew1) | exact HB.out)) hb); have n2_ := Aside0.mk (hbox); have n3_ := Aside0.mk ((by rw [hg]; exact (below_size (by repeat (first | (with_reducible first | exact HB.out | apply below_alloc | apply pw_below_drewN | apply below_drew1) | exact HB.out))) : w.heap.size ≤ gb465)); have n4_ := Aside0.mk ((by rw [hg]; exact (below_size (by repeat (first | (with_reducible first | exact HB.out | apply below_alloc | apply pw_below_drewN | apply below_drew1) | exact HB.out))) : w.heap.size ≤ gb465)); clear HO_3; clear HB; have HO_3 := n0_; have HB := n1_; have BK465 := n2_; have GW465 := n3_; have GE465 := n4_; clear n0_ n1_ n2_ n3_ n4_; clear hb hbox hg; have hcz25_0 : w24.cell? ⟨gb465, 0, none⟩ = some (.int .i64 0) := (blk_cell BK465.out 0).trans rfl; have hcz25_1 : w24.cell? ⟨gb465, 1, none⟩ = some (.int .i64 0) := (blk_cell BK465.out 1).trans rfl; have hcz25_2 : w24.cell? ⟨gb465, 2, none⟩ = some (.string (⟨#[]⟩ : ByteArray)) := (blk_cell BK465.out 2).trans rfl; have hfz25_0 := blk_frozen BK465.out 0; have hfz25_1 := blk_frozen BK465.out 1; have hfz25_2 := blk_frozen BK465.out 2) | ((with_reducible refine gate_callee (f := 42) rfl ?_); refine goesL_ (some 16) rfl rfl Try.func42 (by kernel_rfl) rfl #[.int .i64 ((rd_Op l0 x10_1).f0)] rfl (by (try simp only [List.map_toArray, List.map_cons, List.map_nil]); first | done | rfl | (simp only [List.length_drop, List.length_take]; rfl)) ?_; (with_reducible refine (ops_Change.calls ((rd_Op l0 x10_1).f0) true _ A5.out).mono ?_); rintro e w' ⟨rfl, ⟨nd, rfl⟩⟩; refine ⟨_, rfl, ?_⟩) | ((with_reducible refine gate_builtin (b := .append) (xs := #[.tmp 20, .tmp 23]) rfl ?_); at_builtin; refine Kd.R_append kRange (w0 := w) w.heap.size rfl (.tmp 20) (.tmp 23) 43 48 (.agg #[(.int .i64 0), (.int .i64 0)]) 16 rfl Try.underlying43 info48 rfl (by decide) (by omega) u3 x3_1 (⟨x4_1, 0⟩ : Range) [.int .i64 x4_1, .int .i64 0] (fun _ => True) (fun _ => False) rfl (by first | (go_simp; done) | (go_simp; rfl)) ?aP (fun _ hk => hk.elim) ?aF ?aO ?aB ?aS ?aL ?_; (case aP => exact kRange_mkM _ _ _ (⟨x4_1, 0⟩ : Range)); (case aB => exact (by repeat (first | (with_reducible first | exact HB.out | apply below_alloc | apply pw_below_drewN | apply below_drew1 | refine below_set ?_ GE465.out) | exact HB.out))); (case aF => exact (fun _ _ => trivial)); (case aO => exact (by (with_reducible repeat (first | apply Kd.R_alloc | apply Kd.R_drewN | apply Kd.R_drew)); exact Kd.R_mono (Kd.R_far (p := ⟨gb465, 2, none⟩) (Kd.R_far (p := ⟨gb465, 1, none⟩) (Kd.R_far (p := ⟨gb465, 0, none⟩) (Kd.R_types HO_3.out BK465.out (by decide)) (fun _ hk => hk.2) (.int .i64 ((rd_Op l0 x10_1).f0))) (fun _ hk => hk.2) (.int .i64 ((rd_Op l0 x10_1).f1))) (fun _ hk => hk.2) (.string ((rd_Op l0 x10_1).f2))) (fun _ hk => trivial))); (case aS => exact (below_size (by repeat (first | (with_reducible first | exact HB.out | apply below_alloc | apply pw_below_drewN | apply below_drew1 | refine below_set ?_ GE465.out) | exact HB.out)))); (case aL => have := LMc19.out; omega); intro v469 w26 ho hb hg hat; rw [← Ny468.out] at ho; have n0_ := Aside0.mk (blk_grown (g := gb465) (o := .cells #[.int .i64 ((rd_Op l0 x10_1).f0), .int .i64 ((rd_Op l0 x10_1).f1), .string ((rd_Op l0 x10_1).f2)] 36 (0, 0)) (by (with_reducible repeat (first | refine blk_drewN ?_ _ | refine blk_drew ?_ | refine blk_alloc ?_ _)); refine blk_put (cs := #[.int .i64 ((rd_Op l0 x10_1).f0), .int .i64 ((rd_Op l0 x10_1).f1), .string (⟨#[]⟩ : ByteArray)]) ?_ 2 _ rfl; (with_reducible repeat (first | refine blk_drewN ?_ _ | refine blk_drew ?_ | refine blk_alloc ?_ _)); refine blk_put (cs := #[.int .i64 ((rd_Op l0 x10_1).f0), .int .i64 0, .string (⟨#[]⟩ : ByteArray)]) ?_ 1 _ rfl; (with_reducible repeat (first | refine blk_drewN ?_ _ | refine blk_drew ?_ | refine blk_alloc ?_ _)); refine blk_put (cs := #[.int .i64 0, .int .i64 0, .string (⟨#[]⟩ : ByteArray)]) ?_ 0 _ rfl; (with_reducible repeat (first | refine blk_drewN ?_ _ | refine blk_drew ?_ | refine blk_alloc ?_ _)); exact BK465.out) hg (Kd.R_ne HO_3.out BK465.out (by decide))); have n1_ := Aside0.mk (hb); have n2_ := Aside0.mk (ho); clear BK465; clear HB; clear HO_3; have BK465 := n0_; have HB := n1_; have HO470 := n2_; clear n0_ n1_ n2_; clear ho hb hg hat; obtain ⟨Ao27, co27, eo27⟩ := Kd.R_slice HO470.out; subst eo27; have p23 : 0 ≤ ((ji20) : Int) := of_decide_eq_true (by first | (with_reducible assumption) | assumption); have q23 : ((ji20) : Int) < ((y468.length : Int) : Int) := of_decide_eq_true (by first | (with_reducible assumption) | assumption); obtain ⟨go23, co23, eo23, gb23, gl23, cl23, HG23⟩ := Kd.R_form HO470.out (by omega); (first | cases eo23 | (injection eo23 with ea_ en_ ec_; (first | subst ea_ | (injection ea_ with ea_; subst ea_)); subst ec_; clear en_)); have GB23 := Aside0.mk gb23; have GG23 := Aside0.mk HG23; clear gb23 gl23 HG23; obtain ⟨ce23, hcl23, hM23, hcc23, hfr23⟩ := Kd.R_elem HO470.out zRange ((ji20) : Int) p23 q23; obtain rfl := kRange_openM hM23; have hx23_0 : w26.cell? ⟨go23, ((ji20) : Int).toNat * 2, none⟩ = some (.int .i64 ((rd_Range y468 (ji20)).f0)) := hcc23 0 _ rfl; have hx23_1 : w26.cell? ⟨go23, ((ji20) : Int).toNat * 2 + 1, none⟩ = some (.int .i64 ((rd_Range y468 (ji20)).f1)) := hcc23 1 _ rfl; have hf23_0 : w26.frozen? ⟨go23, ((ji20) : Int).toNat * 2, none⟩ = false := hfr23 0; have hf23_1 : w26.frozen? ⟨go23, ((ji20) : Int).toNat * 2 + 1, none⟩ = false := hfr23 1; clear hcl23 hcc23 hfr23 hM23; replace p23 := eq_true p23; replace q23 := eq_true q23; have HX28 := Aside0.mk (show Kd.R kRange 48 w26 w.heap.size (fun _ => True) (.slice (some ⟨go23, 0, none⟩) y468.length co27) y468 from (by (with_reducible repeat (first | apply Kd.R_alloc | apply Kd.R_drewN | apply Kd.R_drew)); exact HO470.out)); obtain ⟨ce28, hcl28, hM28, hcc28, hfr28⟩ := Kd.R_elem HX28.out zRange ((ji20) : Int) (of_decide_eq_true (by first | (with_reducible assumption) | assumption)) (by have h_ : ((ji20) : Int) < ((y468.length : Int) : Int) := of_decide_eq_true (by first | (with_reducible assumption) | assumption); first | exact h_ | (have e_ := (Kd.R_reads' HO470.out).1; omega) | simpa using h_); obtain rfl := kRange_openM hM28; have HP28 := Kd.R_seg HX28.out ((ji20) : Int) (of_decide_eq_true (by first | (with_reducible assumption) | assumption)) (by have h_ : ((ji20) : Int) < ((y468.length : Int) : Int) := of_decide_eq_true (by first | (with_reducible assumption) | assumption); first | exact h_ | (have e_ := (Kd.R_reads' HO470.out).1; omega) | simpa using h_) (seg := [.int .i64 x4_1]) (j := 1) hcl28 hcc28 (show 2 ≤ 2 from by decide) (x' := (⟨(rd_Range y468 (ji20)).f0, x4_1⟩ : Range)) (kRange_mkM _ _ _ (⟨(rd_Range y468 (ji20)).f0, x4_1⟩ : Range) ) (fun _ hk => hk); have hx28_1 := hcc28 1 _ rfl; (try simp only [show (kRange).sz = 2 from rfl, Nat.mul_one, Nat.add_zero] at hx28_1); have hf28_1 := hfr28 1; (try simp only [show (kRange).sz = 2 from rfl, Nat.mul_one, Nat.add_zero] at hf28_1); clear hcl28 hcc28 hfr28 hM28) | ((with_reducible refine gate_store (t := 3) (p := 31) rfl ?_); refine store_event (t := 3) (p := 31) (v := ?vo_w29) (w1 := (w26.setCell ⟨go23, ((ji20) : Int).toNat * 2 + 1, none⟩ (.int .i64 x4_1))) ?hg ?ho ?hn ?hr ?_; (case ho => rfl); (case hg => rfl); (case hn => rfl); (case hr => first | (go_simp; done) | (go_simp; rfl)); intro w29 hw; have hg : w26.grownBy w29 (some go23) := (by rw [hw]; exact HP28.2); have hp_ : Kd.R kRange 48 w29 w.heap.size (fun _ => True) (.slice (some ⟨go23, 0, none⟩) y468.length co27) y471 := (by rw [hw, Ny471.out]; exact HP28.1); clear HP28; have n0_ := Aside0.mk (blk_grown (g := gb465) (o := .cells #[.int .i64 ((rd_Op l0 x10_1).f0), .int .i64 ((rd_Op l0 x10_1).f1), .string ((rd_Op l0 x10_1).f2)] 36 (0, 0)) (by (with_reducible repeat (first | refine blk_drewN ?_ _ | refine blk_drew ?_ | refine blk_alloc ?_ _)); exact BK465.out) hg (Kd.R_ne HO470.out BK465.out (by decide))); have n1_ := Aside0.mk (hp_); have n2_ := Aside0.mk ((by rw [hw]; exact below_set (HB.out) GB23.out : Below w.heap.size w w29)); clear BK465; clear HO470; clear HB; have BK465 := n0_; have HO470 := n1_; have HB := n2_; clear n0_ n1_ n2_; clear hg hw hp_))
                      go_roundg k1
                      case measure => have := HK1.out; omega
                      case rel => exact ⟨(y471), (wrap64 (x4_1 + 1)), (true), (wrap64 (x10_1 + 1)), (by first | rfl | (simp; done) | (simp [*]; done)), (by first | rfl | (simp; done) | (simp [*]; done)), (by first | rfl | (simp; done) | (simp [*]; done)), H', ⟨by have := HK1.out; omega⟩, ⟨by (with_reducible repeat (first | apply Kd.R_alloc | apply Kd.R_drewN | apply Kd.R_drew)); exact HO470.out⟩, ⟨by repeat (first | (with_reducible first | exact HB.out | apply below_alloc | apply pw_below_drewN | apply below_drew1 | refine below_set ?_ GE465.out) | exact HB.out)⟩⟩
                    · rw [if_neg c22] at H
                      exact absurd H (by simp)
                  · rw [if_neg c21] at H
                    exact absurd H (by simp)
                · rw [if_neg c19] at H
                  exact absurd H (by simp)
            · replace c6 := Bool.eq_false_iff.mpr c6
              subst c6
              have H1 : (pick_Rows.l0 k1 x3_1 x4_1 false l0 (l0.length : Int) (wrap64 (x10_1 + 1))) = some r := by rw [if_neg (show ¬ (false = true) by decide)] at H; exact H
              clear H
              have H := H1
              clear H1
              have H' := Aside0.mk H
              clear H
              have p464 : 0 ≤ (x10_1 : Int) := of_decide_eq_true (by first | (with_reducible assumption) | assumption)
              have q464 : x10_1 < (l0.length : Int) := of_decide_eq_true (by first | (with_reducible assumption) | assumption)
              obtain ⟨ad464, e464, hx464_0, hx464_1, hx464_2⟩ := at_Op HR0.out x10_1 p464 q464
              cases e464
              replace hx464_0 := (HB.out.cell (World.block_lt_of_cell? w _ hx464_0)).trans hx464_0
              replace hx464_1 := (HB.out.cell (World.block_lt_of_cell? w _ hx464_1)).trans hx464_1
              replace hx464_2 := (HB.out.cell (World.block_lt_of_cell? w _ hx464_2)).trans hx464_2
              replace p464 := eq_true p464
              replace q464 := eq_true q464
              go_wp2_with (first | ((with_reducible refine gate_dst (N := 7) rfl ?_); refine box_event ?hg (N := 7) ?hd (cs := #[.int .i64 0, .int .i64 0, .string (⟨#[]⟩ : ByteArray)]) (t := 36) ?hr ?_; (case hd => rfl); (case hg => rfl); (case hr => first | (go_simp; done) | (go_simp; rfl)); intro gb465 hg w30 hbox hb; have n0_ := Aside0.mk (Kd.R_below (by (with_reducible repeat (first | apply Kd.R_alloc | apply Kd.R_drewN | apply Kd.R_drew)); exact HO_3.out) hb); have n1_ := Aside0.mk (below_step (by repeat (first | (with_reducible first | exact HB.out | apply below_alloc | apply pw_below_drewN | apply below_drew1) | exact HB.out)) hb); have n2_ := Aside0.mk (hbox); have n3_ := Aside0.mk ((by rw [hg]; exact (below_size (by repeat (first | (with_reducible first | exact HB.out | apply below_alloc | apply pw_below_drewN | apply below_drew1) | exact HB.out))) : w.heap.size ≤ gb465)); have n4_ := Aside0.mk ((by rw [hg]; exact (below_size (by repeat (first | (with_reducible first | exact HB.out | apply below_alloc | apply pw_below_drewN | apply below_drew1) | exact HB.out))) : w.heap.size ≤ gb465)); clear HO_3; clear HB; have HO_3 := n0_; have HB := n1_; have BK465 := n2_; have GW465 := n3_; have GE465 := n4_; clear n0_ n1_ n2_ n3_ n4_; clear hb hbox hg; have hcz31_0 : w30.cell? ⟨gb465, 0, none⟩ = some (.int .i64 0) := (blk_cell BK465.out 0).trans rfl; have hcz31_1 : w30.cell? ⟨gb465, 1, none⟩ = some (.int .i64 0) := (blk_cell BK465.out 1).trans rfl; have hcz31_2 : w30.cell? ⟨gb465, 2, none⟩ = some (.string (⟨#[]⟩ : ByteArray)) := (blk_cell BK465.out 2).trans rfl; have hfz31_0 := blk_frozen BK465.out 0; have hfz31_1 := blk_frozen BK465.out 1; have hfz31_2 := blk_frozen BK465.out 2) | ((with_reducible refine gate_callee (f := 42) rfl ?_); refine goesL_ (some 16) rfl rfl Try.func42 (by kernel_rfl) rfl #[.int .i64 ((rd_Op l0 x10_1).f0)] rfl (by (try simp only [List.map_toArray, List.map_cons, List.map_nil]); first | done | rfl | (simp only [List.length_drop, List.length_take]; rfl)) ?_; (with_reducible refine (ops_Change.calls ((rd_Op l0 x10_1).f0) false _ A5.out).mono ?_); rintro e w' ⟨rfl, ⟨nd, rfl⟩⟩; refine ⟨_, rfl, ?_⟩))
              go_roundg k1
              case measure => have := HK1.out; omega
              case rel => exact ⟨(x3_1), (x4_1), (false), (wrap64 (x10_1 + 1)), (by first | rfl | (simp; done) | (simp [*]; done)), (by first | rfl | (simp; done) | (simp [*]; done)), (by first | rfl | (simp; done) | (simp [*]; done)), H', ⟨by have := HK1.out; omega⟩, ⟨by (with_reducible repeat (first | apply Kd.R_alloc | apply Kd.R_drewN | apply Kd.R_drew)); exact Kd.R_mono (Kd.R_far (p := ⟨gb465, 2, none⟩) (Kd.R_far (p := ⟨gb465, 1, none⟩) (Kd.R_far (p := ⟨gb465, 0, none⟩) (Kd.R_types HO_3.out BK465.out (by decide)) (fun _ hk => hk.2) (.int .i64 ((rd_Op l0 x10_1).f0))) (fun _ hk => hk.2) (.int .i64 ((rd_Op l0 x10_1).f1))) (fun _ hk => hk.2) (.string ((rd_Op l0 x10_1).f2))) (fun _ hk => trivial)⟩, ⟨by repeat (first | (with_reducible first | exact HB.out | apply below_alloc | apply pw_below_drewN | apply below_drew1 | refine below_set ?_ GE465.out) | exact HB.out)⟩⟩
          · rw [if_neg c4] at H
            exact absurd H (by simp)
        · rw [if_neg c3] at H
          exact absurd H (by simp)
      · rw [if_neg c2] at H
        have c2b0 : decide (x10_1 < (l0.length : Int)) = false := decide_eq_false c2
        clear c2
        obtain rfl := Option.some.inj H
        go_wp2
        go_ret
        exact ⟨_, by first | rfl | (simp [errW_none, errW_some] <;> rfl) | (simp [*, errW_none, errW_some] <;> rfl), by (with_reducible repeat (first | apply Kd.R_alloc | apply Kd.R_drewN | apply Kd.R_drew)); exact HO_3.out, by repeat (first | (with_reducible first | exact HB.out | apply below_alloc | apply pw_below_drewN | apply below_drew1) | exact HB.out)⟩

/-! ### patchworklaw16_alive: function 25 -/

set_option maxHeartbeats 8000000 in
set_option maxRecDepth 100000 in
theorem patchworklaw16_alive.calls (k : Nat)  (r : Bool) (w : World) (h : patchworklaw16_alive.f k  = some r) :
    Calls Try.prog 25 #[] w fun e w' => e = .returned (.bool r) ∧ Below w.heap.size w w' := by
  have hu36 := Try.underlying36
  have HB := Aside0.mk (Below.refl w.heap.size w)
  have H : ((some (([(⟨3, 0, (⟨#[97, 10]⟩ : ByteArray)⟩ : Op), (⟨4, 0, (⟨#[98, 10]⟩ : ByteArray)⟩ : Op)] : List (Op)) : List (Op))).bind fun y472 => ((pick_Ops.f k y472 (([true] : List Bool))).bind fun bt478 => ((pick_Rows.f k ([] : List (Op))).bind fun t484 => (if (t484.length : Int) = 0 then ((pick_Rows.f k y472).bind fun t487 => (if (t487.length : Int) = 1 then (if (bt478.1.length : Int) = 1 then (if (bt478.2.length : Int) = 1 then (if 0 < (bt478.1.length : Int) then (if ((rd_Op bt478.1 0).f0) = 3 then (if 0 < (bt478.2.length : Int) then (some (((rd_Op bt478.2 0).f0) == 4)) else (none)) else (some false)) else (none)) else (some false)) else (some false)) else (some false))) else (some false))))) = some r := h
  clear h
  obtain ⟨y472, hy472⟩ : ∃ y_ : List (Op), y_ = (([(⟨3, 0, (⟨#[97, 10]⟩ : ByteArray)⟩ : Op), (⟨4, 0, (⟨#[98, 10]⟩ : ByteArray)⟩ : Op)] : List (Op))) := ⟨_, rfl⟩
  replace H : ((pick_Ops.f k y472 (([true] : List Bool))).bind fun bt478 => ((pick_Rows.f k ([] : List (Op))).bind fun t484 => (if (t484.length : Int) = 0 then ((pick_Rows.f k y472).bind fun t487 => (if (t487.length : Int) = 1 then (if (bt478.1.length : Int) = 1 then (if (bt478.2.length : Int) = 1 then (if 0 < (bt478.1.length : Int) then (if ((rd_Op bt478.1 0).f0) = 3 then (if 0 < (bt478.2.length : Int) then (some (((rd_Op bt478.2 0).f0) == 4)) else (none)) else (some false)) else (none)) else (some false)) else (some false)) else (some false))) else (some false)))) = some r := by first | (rw [hy472]; with_reducible exact H) | (have H2_ := (Option.bind_some _ _).symm.trans H; rw [hy472]; with_reducible exact H2_) | (have H2_ := (Option.bind_some _ _).symm.trans H; with_reducible exact H2_) | with_reducible exact H | (rw [hy472]; exact H) | exact H
  have Ny472 := Aside0.mk hy472
  clear hy472
  obtain ⟨y475, hy475⟩ : ∃ y_ : List Bool, y_ = (([true] : List Bool)) := ⟨_, rfl⟩
  replace H : ((pick_Ops.f k y472 y475).bind fun bt478 => ((pick_Rows.f k ([] : List (Op))).bind fun t484 => (if (t484.length : Int) = 0 then ((pick_Rows.f k y472).bind fun t487 => (if (t487.length : Int) = 1 then (if (bt478.1.length : Int) = 1 then (if (bt478.2.length : Int) = 1 then (if 0 < (bt478.1.length : Int) then (if ((rd_Op bt478.1 0).f0) = 3 then (if 0 < (bt478.2.length : Int) then (some (((rd_Op bt478.2 0).f0) == 4)) else (none)) else (some false)) else (none)) else (some false)) else (some false)) else (some false))) else (some false)))) = some r := by first | (rw [hy475]; with_reducible exact H) | (have H2_ := (Option.bind_some _ _).symm.trans H; rw [hy475]; with_reducible exact H2_) | (have H2_ := (Option.bind_some _ _).symm.trans H; with_reducible exact H2_) | with_reducible exact H | (rw [hy475]; exact H) | exact H
  have Ny475 := Aside0.mk hy475
  clear hy475
  replace H := Option.bind_eq_some_iff.mp H
  obtain ⟨⟨t478, t479⟩, A10, H⟩ := H
  replace H : ((pick_Rows.f k ([] : List (Op))).bind fun t484 => (if (t484.length : Int) = 0 then ((pick_Rows.f k y472).bind fun t487 => (if (t487.length : Int) = 1 then (if (t478.length : Int) = 1 then (if (t479.length : Int) = 1 then (if 0 < (t478.length : Int) then (if ((rd_Op t478 0).f0) = 3 then (if 0 < (t479.length : Int) then (some (((rd_Op t479 0).f0) == 4)) else (none)) else (some false)) else (none)) else (some false)) else (some false)) else (some false))) else (some false))) = some r := H
  have A1 := Aside0.mk A10
  clear A10
  replace H := Option.bind_eq_some_iff.mp H
  obtain ⟨t484, A20, H⟩ := H
  replace H : (if (t484.length : Int) = 0 then ((pick_Rows.f k y472).bind fun t487 => (if (t487.length : Int) = 1 then (if (t478.length : Int) = 1 then (if (t479.length : Int) = 1 then (if 0 < (t478.length : Int) then (if ((rd_Op t478 0).f0) = 3 then (if 0 < (t479.length : Int) then (some (((rd_Op t479 0).f0) == 4)) else (none)) else (some false)) else (none)) else (some false)) else (some false)) else (some false))) else (some false)) = some r := H
  have A2 := Aside0.mk A20
  clear A20
  by_cases c3 : (t484.length : Int) = 0
  · rw [if_pos c3] at H
    have c3b0 : ((t484.length : Int) == 0) = true := beq_iff_eq.mpr c3
    have c3b1 : ((t484.length : Int) != 0) = false := bne_eq_false_iff_eq.mpr c3
    clear c3
    replace H := Option.bind_eq_some_iff.mp H
    obtain ⟨t487, A40, H⟩ := H
    replace H : (if (t487.length : Int) = 1 then (if (t478.length : Int) = 1 then (if (t479.length : Int) = 1 then (if 0 < (t478.length : Int) then (if ((rd_Op t478 0).f0) = 3 then (if 0 < (t479.length : Int) then (some (((rd_Op t479 0).f0) == 4)) else (none)) else (some false)) else (none)) else (some false)) else (some false)) else (some false)) = some r := H
    have A4 := Aside0.mk A40
    clear A40
    by_cases c5 : (t487.length : Int) = 1
    · rw [if_pos c5] at H
      have c5b0 : ((t487.length : Int) == 1) = true := beq_iff_eq.mpr c5
      have c5b1 : ((t487.length : Int) != 1) = false := bne_eq_false_iff_eq.mpr c5
      clear c5
      by_cases c6 : (t478.length : Int) = 1
      · rw [if_pos c6] at H
        have c6b0 : ((t478.length : Int) == 1) = true := beq_iff_eq.mpr c6
        have c6b1 : ((t478.length : Int) != 1) = false := bne_eq_false_iff_eq.mpr c6
        clear c6
        by_cases c7 : (t479.length : Int) = 1
        · rw [if_pos c7] at H
          have c7b0 : ((t479.length : Int) == 1) = true := beq_iff_eq.mpr c7
          have c7b1 : ((t479.length : Int) != 1) = false := bne_eq_false_iff_eq.mpr c7
          clear c7
          by_cases c8 : 0 < (t478.length : Int)
          · rw [if_pos c8] at H
            have c8b0 : decide (0 < (t478.length : Int)) = true := decide_eq_true c8
            have c8b1 : decide (0 < t478.length) = true := decide_eq_true (by omega)
            clear c8
            by_cases c9 : ((rd_Op t478 0).f0) = 3
            · rw [if_pos c9] at H
              have c9b0 : (((rd_Op t478 0).f0) == 3) = true := beq_iff_eq.mpr c9
              have c9b1 : (((rd_Op t478 0).f0) != 3) = false := bne_eq_false_iff_eq.mpr c9
              clear c9
              by_cases c10 : 0 < (t479.length : Int)
              · rw [if_pos c10] at H
                have c10b0 : decide (0 < (t479.length : Int)) = true := decide_eq_true c10
                have c10b1 : decide (0 < t479.length) = true := decide_eq_true (by omega)
                clear c10
                obtain rfl := Option.some.inj H
                go_enter Try.func25, Try.ntmps25
                go_wp2_with (first | ((with_reducible refine gate_dst (N := 6) rfl ?_); (try (refine gate_guard (by rfl) ?_; dsimp only)); refine Kd.R_lit kOp _ 36 ?hg (N := 6) ?hd (xs := ([(⟨3, 0, (⟨#[97, 10]⟩ : ByteArray)⟩ : Op), (⟨4, 0, (⟨#[98, 10]⟩ : ByteArray)⟩ : Op)] : List (Op))) (inner := [.int .i64 3, .int .i64 0, .string (⟨#[97, 10]⟩ : ByteArray), .int .i64 4, .int .i64 0, .string (⟨#[98, 10]⟩ : ByteArray)]) (ok := fun _ => True) (okp := fun _ => True) ?hr ?hp (fun _ hk => hk) trivial (Below.refl _ _) (Nat.le_refl _) (by simp) ?_; (case hd => rfl); (case hg => rfl); (case hr => first | (go_simp; done) | (go_simp; rfl)); (case hp => exact (Reps.c3 (show Kd.M kOp _ _ _ (⟨3, 0, (⟨#[97, 10]⟩ : ByteArray)⟩ : Op) [.int .i64 3, .int .i64 0, .string (⟨#[97, 10]⟩ : ByteArray)] from (kOp_mkM _ _ _ (⟨3, 0, (⟨#[97, 10]⟩ : ByteArray)⟩ : Op) )) (Reps.c3 (show Kd.M kOp _ _ _ (⟨4, 0, (⟨#[98, 10]⟩ : ByteArray)⟩ : Op) [.int .i64 4, .int .i64 0, .string (⟨#[98, 10]⟩ : ByteArray)] from (kOp_mkM _ _ _ (⟨4, 0, (⟨#[98, 10]⟩ : ByteArray)⟩ : Op) )) (Reps.none _ _)))); intro v473 w11 ho12 hb hg_ hnew_; clear hg_ hnew_; (first | rw [← Ny472.out] at ho12 | (simp only [Int.reduceToNat] at ho12; rw [← Ny472.out] at ho12)); have n0_ := Aside0.mk (Kd.R_lower ho12 (below_size (by repeat (first | (with_reducible first | exact HB.out | apply below_alloc | apply pw_below_drewN | apply below_drew1) | exact HB.out)))); have n1_ := Aside0.mk (below_step (by repeat (first | (with_reducible first | exact HB.out | apply below_alloc | apply pw_below_drewN | apply below_drew1) | exact HB.out)) hb); clear HB; have HO474 := n0_; have HB := n1_; clear n0_ n1_; clear hb ho12) | ((with_reducible refine gate_dst (N := 9) rfl ?_); (try (refine gate_guard (by rfl) ?_; dsimp only)); refine Kd.R_lit Kd.bool _ 4 ?hg (N := 9) ?hd (xs := ([true] : List Bool)) (inner := [.bool true]) (ok := fun _ => True) (okp := fun _ => True) ?hr ?hp (fun _ hk => hk) trivial (Below.refl _ _) (Nat.le_refl _) (by simp) ?_; (case hd => rfl); (case hg => rfl); (case hr => first | (go_simp; done) | (go_simp; rfl)); (case hp => exact (Reps.one (show Kd.M Kd.bool _ _ _ true [.bool true] from rfl) (Reps.none _ _))); intro v476 w13 ho14 hb hg_ hnew_; clear hg_ hnew_; (first | rw [← Ny475.out] at ho14 | (simp only [Int.reduceToNat] at ho14; rw [← Ny475.out] at ho14)); have n0_ := Aside0.mk (Kd.R_below (by (with_reducible repeat (first | apply Kd.R_alloc | apply Kd.R_drewN | apply Kd.R_drew)); exact HO474.out) hb); have n1_ := Aside0.mk (Kd.R_lower ho14 (below_size (by repeat (first | (with_reducible first | exact HB.out | apply below_alloc | apply pw_below_drewN | apply below_drew1) | exact HB.out)))); have n2_ := Aside0.mk (below_step (by repeat (first | (with_reducible first | exact HB.out | apply below_alloc | apply pw_below_drewN | apply below_drew1) | exact HB.out)) hb); clear HO474; clear HB; have HO474 := n0_; have HO477 := n1_; have HB := n2_; clear n0_ n1_ n2_; clear hb ho14; obtain ⟨Ao15, co15, eo15⟩ := Kd.R_slice HO474.out; subst eo15; obtain ⟨Ao16, co16, eo16⟩ := Kd.R_slice HO477.out; subst eo16) | ((with_reducible refine gate_callee (f := 26) rfl ?_); refine goesL_ (some 10) rfl rfl Try.func26 (by kernel_rfl) rfl #[.slice Ao15 y472.length co15, .slice Ao16 y475.length co16] rfl (by (try simp only [List.map_toArray, List.map_cons, List.map_nil]); first | done | rfl | (simp only [List.length_drop, List.length_take]; rfl)) ?_; (with_reducible refine (pick_Ops.calls k _ _ y472 _ _ y475 t478 t479 _ ?side1 ?side2 ?side3 ?side4 A1.out).mono ?_); (case side1 => repeat (first | exact (Kd.R_reads' HO474.out).2.2 | (with_reducible refine Kd.C_alloc ?_ _) | (with_reducible refine Kd.C_drewN ?_ _) | (with_reducible refine Kd.C_drew ?_))); (case side2 => exact (Kd.R_reads' HO474.out).2.1); (case side3 => repeat (first | exact (Kd.R_reads' HO477.out).2.2 | (with_reducible refine Kd.C_alloc ?_ _) | (with_reducible refine Kd.C_drewN ?_ _) | (with_reducible refine Kd.C_drew ?_))); (case side4 => exact (Kd.R_reads' HO477.out).2.1); rintro e w17 ⟨v480, v482, rfl, ho0, ho1, hb⟩; refine ⟨_, rfl, ?_⟩; have n0_ := Aside0.mk (Kd.R_mono (Kd.R_told (Kd.R_told (Kd.R_old (by (with_reducible repeat (first | apply Kd.R_alloc | apply Kd.R_drewN | apply Kd.R_drew)); exact HO474.out) hb) (Kd.R_base ho0)) (Kd.R_base ho1)) (fun _ h_ => h_.1)); have n1_ := Aside0.mk (Kd.R_below (by (with_reducible repeat (first | apply Kd.R_alloc | apply Kd.R_drewN | apply Kd.R_drew)); exact HO477.out) hb); have n2_ := Aside0.mk (Kd.R_lower (Kd.R_new' ho0 (Kd.R_lt (by (with_reducible repeat (first | apply Kd.R_alloc | apply Kd.R_drewN | apply Kd.R_drew)); exact HO474.out))) (below_size (by repeat (first | (with_reducible first | exact HB.out | apply below_alloc | apply pw_below_drewN | apply below_drew1) | exact HB.out)))); have n3_ := Aside0.mk (Kd.R_lower (Kd.R_new' ho1 (Kd.R_lt (by (with_reducible repeat (first | apply Kd.R_alloc | apply Kd.R_drewN | apply Kd.R_drew)); exact HO474.out))) (below_size (by repeat (first | (with_reducible first | exact HB.out | apply below_alloc | apply pw_below_drewN | apply below_drew1) | exact HB.out)))); have n4_ := Aside0.mk (below_step (by repeat (first | (with_reducible first | exact HB.out | apply below_alloc | apply pw_below_drewN | apply below_drew1) | exact HB.out)) hb); clear HO474; clear HO477; clear HB; have HO474 := n0_; have HO477 := n1_; have HO481 := n2_; have HO483 := n3_; have HB := n4_; clear n0_ n1_ n2_ n3_ n4_; (try clear hb); (try clear hb2); (try clear hk); (try clear hi); (try clear ho0); (try clear ho1)) | ((with_reducible refine gate_callee (f := 29) rfl ?_); refine goesL_ (some 13) rfl rfl Try.func29 (by kernel_rfl) rfl #[.slice none 0 0] rfl (by (try simp only [List.map_toArray, List.map_cons, List.map_nil]); first | done | rfl | (simp only [List.length_drop, List.length_take]; rfl)) ?_; (refine (pick_Rows.calls k _ _ ([] : List (Op)) t484 _ ?side1 ?side2 A2.out).mono ?_); (case side1 => exact Kd.C_nil _ _); (case side2 => exact Nat.le_refl _); rintro e w18 ⟨v485, rfl, ho0, hb⟩; refine ⟨_, rfl, ?_⟩; have n0_ := Aside0.mk (Kd.R_below (by (with_reducible repeat (first | apply Kd.R_alloc | apply Kd.R_drewN | apply Kd.R_drew)); exact HO474.out) hb); have n1_ := Aside0.mk (Kd.R_below (by (with_reducible repeat (first | apply Kd.R_alloc | apply Kd.R_drewN | apply Kd.R_drew)); exact HO477.out) hb); have n2_ := Aside0.mk (Kd.R_below (by (with_reducible repeat (first | apply Kd.R_alloc | apply Kd.R_drewN | apply Kd.R_drew)); exact HO481.out) hb); have n3_ := Aside0.mk (Kd.R_below (by (with_reducible repeat (first | apply Kd.R_alloc | apply Kd.R_drewN | apply Kd.R_drew)); exact HO483.out) hb); have n4_ := Aside0.mk (Kd.R_lower ho0 (below_size (by repeat (first | (with_reducible first | exact HB.out | apply below_alloc | apply pw_below_drewN | apply below_drew1) | exact HB.out)))); have n5_ := Aside0.mk (below_step (by repeat (first | (with_reducible first | exact HB.out | apply below_alloc | apply pw_below_drewN | apply below_drew1) | exact HB.out)) hb); clear HO474; clear HO477; clear HO481; clear HO483; clear HB; have HO474 := n0_; have HO477 := n1_; have HO481 := n2_; have HO483 := n3_; have HO486 := n4_; have HB := n5_; clear n0_ n1_ n2_ n3_ n4_ n5_; (try clear hb); (try clear hb2); (try clear hk); (try clear hi); (try clear ho0); obtain ⟨Ao19, co19, eo19⟩ := Kd.R_slice HO486.out; subst eo19) | (go_at_call 29; (with_reducible refine (pick_Rows.calls k _ _ y472 t487 _ ?side1 ?side2 A4.out).mono ?_); (case side1 => repeat (first | exact (Kd.R_reads' HO474.out).2.2 | (with_reducible refine Kd.C_alloc ?_ _) | (with_reducible refine Kd.C_drewN ?_ _) | (with_reducible refine Kd.C_drew ?_))); (case side2 => exact (Kd.R_reads' HO474.out).2.1); rintro e w20 ⟨v488, rfl, ho0, hb⟩; have n0_ := Aside0.mk (Kd.R_below (by (with_reducible repeat (first | apply Kd.R_alloc | apply Kd.R_drewN | apply Kd.R_drew)); exact HO474.out) hb); have n1_ := Aside0.mk (Kd.R_below (by (with_reducible repeat (first | apply Kd.R_alloc | apply Kd.R_drewN | apply Kd.R_drew)); exact HO477.out) hb); have n2_ := Aside0.mk (Kd.R_below (by (with_reducible repeat (first | apply Kd.R_alloc | apply Kd.R_drewN | apply Kd.R_drew)); exact HO481.out) hb); have n3_ := Aside0.mk (Kd.R_below (by (with_reducible repeat (first | apply Kd.R_alloc | apply Kd.R_drewN | apply Kd.R_drew)); exact HO483.out) hb); have n4_ := Aside0.mk (Kd.R_elder' (by (with_reducible repeat (first | apply Kd.R_alloc | apply Kd.R_drewN | apply Kd.R_drew)); exact HO486.out) (Kd.R_base ho0) hb); have n5_ := Aside0.mk (Kd.R_lower (Kd.R_new' ho0 (Kd.R_lt (by (with_reducible repeat (first | apply Kd.R_alloc | apply Kd.R_drewN | apply Kd.R_drew)); exact HO486.out))) (below_size (by repeat (first | (with_reducible first | exact HB.out | apply below_alloc | apply pw_below_drewN | apply below_drew1) | exact HB.out)))); have n6_ := Aside0.mk (below_step (by repeat (first | (with_reducible first | exact HB.out | apply below_alloc | apply pw_below_drewN | apply below_drew1) | exact HB.out)) hb); clear HO474; clear HO477; clear HO481; clear HO483; clear HO486; clear HB; have HO474 := n0_; have HO477 := n1_; have HO481 := n2_; have HO483 := n3_; have HO486 := n4_; have HO489 := n5_; have HB := n6_; clear n0_ n1_ n2_ n3_ n4_ n5_ n6_; (try clear hb); (try clear hb2); (try clear hk); (try clear hi); (try clear ho0); obtain ⟨Ao21, co21, eo21⟩ := Kd.R_slice HO489.out; subst eo21; obtain ⟨Ao22, co22, eo22⟩ := Kd.R_slice HO481.out; subst eo22; obtain ⟨Ao23, co23, eo23⟩ := Kd.R_slice HO483.out; subst eo23; have p490 : 0 ≤ (0 : Int) := (by omega); have q490 : 0 < (t478.length : Int) := of_decide_eq_true (by first | (with_reducible assumption) | assumption); obtain ⟨ad490, e490, hx490_0, hx490_1, hx490_2⟩ := at_Op (Kd.R_reads' HO481.out).2.2 0 p490 q490; cases e490; have qi490 : (0 < t478.length) = True := eq_true (by omega); (try rw [show ((0 : Int)).toNat = 0 from rfl] at hx490_0); (try rw [show 0 * 3 = 0 from rfl] at hx490_0); (try rw [Addr.add_zero'] at hx490_0); (try rw [show ((0 : Int)).toNat = 0 from rfl] at hx490_1); (try rw [show 0 * 3 = 0 from rfl] at hx490_1); (try rw [Addr.add_zero'] at hx490_1); (try rw [show ((0 : Int)).toNat = 0 from rfl] at hx490_2); (try rw [show 0 * 3 = 0 from rfl] at hx490_2); (try rw [Addr.add_zero'] at hx490_2); replace p490 := eq_true p490; replace q490 := eq_true q490; have p491 : 0 ≤ (0 : Int) := (by omega); have q491 : 0 < (t479.length : Int) := of_decide_eq_true (by first | (with_reducible assumption) | assumption); obtain ⟨ad491, e491, hx491_0, hx491_1, hx491_2⟩ := at_Op (Kd.R_reads' HO483.out).2.2 0 p491 q491; cases e491; have qi491 : (0 < t479.length) = True := eq_true (by omega); (try rw [show ((0 : Int)).toNat = 0 from rfl] at hx491_0); (try rw [show 0 * 3 = 0 from rfl] at hx491_0); (try rw [Addr.add_zero'] at hx491_0); (try rw [show ((0 : Int)).toNat = 0 from rfl] at hx491_1); (try rw [show 0 * 3 = 0 from rfl] at hx491_1); (try rw [Addr.add_zero'] at hx491_1); (try rw [show ((0 : Int)).toNat = 0 from rfl] at hx491_2); (try rw [show 0 * 3 = 0 from rfl] at hx491_2); (try rw [Addr.add_zero'] at hx491_2); replace p491 := eq_true p491; replace q491 := eq_true q491))
                go_ret
                exact ⟨by first | rfl | (simp [errW_none, errW_some] <;> rfl) | (simp [*, errW_none, errW_some] <;> rfl), by repeat (first | (with_reducible first | exact HB.out | apply below_alloc | apply pw_below_drewN | apply below_drew1) | exact HB.out)⟩
              · rw [if_neg c10] at H
                exact absurd H (by simp)
            · rw [if_neg c9] at H
              have c9b0 : (((rd_Op t478 0).f0) == 3) = false := beq_eq_false_iff_ne.mpr c9
              have c9b1 : (((rd_Op t478 0).f0) != 3) = true := bne_iff_ne.mpr c9
              obtain rfl := Option.some.inj H
              go_enter Try.func25, Try.ntmps25
              go_wp2_with (first | ((with_reducible refine gate_dst (N := 6) rfl ?_); (try (refine gate_guard (by rfl) ?_; dsimp only)); refine Kd.R_lit kOp _ 36 ?hg (N := 6) ?hd (xs := ([(⟨3, 0, (⟨#[97, 10]⟩ : ByteArray)⟩ : Op), (⟨4, 0, (⟨#[98, 10]⟩ : ByteArray)⟩ : Op)] : List (Op))) (inner := [.int .i64 3, .int .i64 0, .string (⟨#[97, 10]⟩ : ByteArray), .int .i64 4, .int .i64 0, .string (⟨#[98, 10]⟩ : ByteArray)]) (ok := fun _ => True) (okp := fun _ => True) ?hr ?hp (fun _ hk => hk) trivial (Below.refl _ _) (Nat.le_refl _) (by simp) ?_; (case hd => rfl); (case hg => rfl); (case hr => first | (go_simp; done) | (go_simp; rfl)); (case hp => exact (Reps.c3 (show Kd.M kOp _ _ _ (⟨3, 0, (⟨#[97, 10]⟩ : ByteArray)⟩ : Op) [.int .i64 3, .int .i64 0, .string (⟨#[97, 10]⟩ : ByteArray)] from (kOp_mkM _ _ _ (⟨3, 0, (⟨#[97, 10]⟩ : ByteArray)⟩ : Op) )) (Reps.c3 (show Kd.M kOp _ _ _ (⟨4, 0, (⟨#[98, 10]⟩ : ByteArray)⟩ : Op) [.int .i64 4, .int .i64 0, .string (⟨#[98, 10]⟩ : ByteArray)] from (kOp_mkM _ _ _ (⟨4, 0, (⟨#[98, 10]⟩ : ByteArray)⟩ : Op) )) (Reps.none _ _)))); intro v473 w24 ho25 hb hg_ hnew_; clear hg_ hnew_; (first | rw [← Ny472.out] at ho25 | (simp only [Int.reduceToNat] at ho25; rw [← Ny472.out] at ho25)); have n0_ := Aside0.mk (Kd.R_lower ho25 (below_size (by repeat (first | (with_reducible first | exact HB.out | apply below_alloc | apply pw_below_drewN | apply below_drew1) | exact HB.out)))); have n1_ := Aside0.mk (below_step (by repeat (first | (with_reducible first | exact HB.out | apply below_alloc | apply pw_below_drewN | apply below_drew1) | exact HB.out)) hb); clear HB; have HO474 := n0_; have HB := n1_; clear n0_ n1_; clear hb ho25) | ((with_reducible refine gate_dst (N := 9) rfl ?_); (try (refine gate_guard (by rfl) ?_; dsimp only)); refine Kd.R_lit Kd.bool _ 4 ?hg (N := 9) ?hd (xs := ([true] : List Bool)) (inner := [.bool true]) (ok := fun _ => True) (okp := fun _ => True) ?hr ?hp (fun _ hk => hk) trivial (Below.refl _ _) (Nat.le_refl _) (by simp) ?_; (case hd => rfl); (case hg => rfl); (case hr => first | (go_simp; done) | (go_simp; rfl)); (case hp => exact (Reps.one (show Kd.M Kd.bool _ _ _ true [.bool true] from rfl) (Reps.none _ _))); intro v476 w26 ho27 hb hg_ hnew_; clear hg_ hnew_; (first | rw [← Ny475.out] at ho27 | (simp only [Int.reduceToNat] at ho27; rw [← Ny475.out] at ho27)); have n0_ := Aside0.mk (Kd.R_below (by (with_reducible repeat (first | apply Kd.R_alloc | apply Kd.R_drewN | apply Kd.R_drew)); exact HO474.out) hb); have n1_ := Aside0.mk (Kd.R_lower ho27 (below_size (by repeat (first | (with_reducible first | exact HB.out | apply below_alloc | apply pw_below_drewN | apply below_drew1) | exact HB.out)))); have n2_ := Aside0.mk (below_step (by repeat (first | (with_reducible first | exact HB.out | apply below_alloc | apply pw_below_drewN | apply below_drew1) | exact HB.out)) hb); clear HO474; clear HB; have HO474 := n0_; have HO477 := n1_; have HB := n2_; clear n0_ n1_ n2_; clear hb ho27; obtain ⟨Ao28, co28, eo28⟩ := Kd.R_slice HO474.out; subst eo28; obtain ⟨Ao29, co29, eo29⟩ := Kd.R_slice HO477.out; subst eo29) | ((with_reducible refine gate_callee (f := 26) rfl ?_); refine goesL_ (some 10) rfl rfl Try.func26 (by kernel_rfl) rfl #[.slice Ao28 y472.length co28, .slice Ao29 y475.length co29] rfl (by (try simp only [List.map_toArray, List.map_cons, List.map_nil]); first | done | rfl | (simp only [List.length_drop, List.length_take]; rfl)) ?_; (with_reducible refine (pick_Ops.calls k _ _ y472 _ _ y475 t478 t479 _ ?side1 ?side2 ?side3 ?side4 A1.out).mono ?_); (case side1 => repeat (first | exact (Kd.R_reads' HO474.out).2.2 | (with_reducible refine Kd.C_alloc ?_ _) | (with_reducible refine Kd.C_drewN ?_ _) | (with_reducible refine Kd.C_drew ?_))); (case side2 => exact (Kd.R_reads' HO474.out).2.1); (case side3 => repeat (first | exact (Kd.R_reads' HO477.out).2.2 | (with_reducible refine Kd.C_alloc ?_ _) | (with_reducible refine Kd.C_drewN ?_ _) | (with_reducible refine Kd.C_drew ?_))); (case side4 => exact (Kd.R_reads' HO477.out).2.1); rintro e w30 ⟨v480, v482, rfl, ho0, ho1, hb⟩; refine ⟨_, rfl, ?_⟩; have n0_ := Aside0.mk (Kd.R_mono (Kd.R_told (Kd.R_told (Kd.R_old (by (with_reducible repeat (first | apply Kd.R_alloc | apply Kd.R_drewN | apply Kd.R_drew)); exact HO474.out) hb) (Kd.R_base ho0)) (Kd.R_base ho1)) (fun _ h_ => h_.1)); have n1_ := Aside0.mk (Kd.R_below (by (with_reducible repeat (first | apply Kd.R_alloc | apply Kd.R_drewN | apply Kd.R_drew)); exact HO477.out) hb); have n2_ := Aside0.mk (Kd.R_lower (Kd.R_new' ho0 (Kd.R_lt (by (with_reducible repeat (first | apply Kd.R_alloc | apply Kd.R_drewN | apply Kd.R_drew)); exact HO474.out))) (below_size (by repeat (first | (with_reducible first | exact HB.out | apply below_alloc | apply pw_below_drewN | apply below_drew1) | exact HB.out)))); have n3_ := Aside0.mk (Kd.R_lower (Kd.R_new' ho1 (Kd.R_lt (by (with_reducible repeat (first | apply Kd.R_alloc | apply Kd.R_drewN | apply Kd.R_drew)); exact HO474.out))) (below_size (by repeat (first | (with_reducible first | exact HB.out | apply below_alloc | apply pw_below_drewN | apply below_drew1) | exact HB.out)))); have n4_ := Aside0.mk (below_step (by repeat (first | (with_reducible first | exact HB.out | apply below_alloc | apply pw_below_drewN | apply below_drew1) | exact HB.out)) hb); clear HO474; clear HO477; clear HB; have HO474 := n0_; have HO477 := n1_; have HO481 := n2_; have HO483 := n3_; have HB := n4_; clear n0_ n1_ n2_ n3_ n4_; (try clear hb); (try clear hb2); (try clear hk); (try clear hi); (try clear ho0); (try clear ho1)) | ((with_reducible refine gate_callee (f := 29) rfl ?_); refine goesL_ (some 13) rfl rfl Try.func29 (by kernel_rfl) rfl #[.slice none 0 0] rfl (by (try simp only [List.map_toArray, List.map_cons, List.map_nil]); first | done | rfl | (simp only [List.length_drop, List.length_take]; rfl)) ?_; (refine (pick_Rows.calls k _ _ ([] : List (Op)) t484 _ ?side1 ?side2 A2.out).mono ?_); (case side1 => exact Kd.C_nil _ _); (case side2 => exact Nat.le_refl _); rintro e w31 ⟨v485, rfl, ho0, hb⟩; refine ⟨_, rfl, ?_⟩; have n0_ := Aside0.mk (Kd.R_below (by (with_reducible repeat (first | apply Kd.R_alloc | apply Kd.R_drewN | apply Kd.R_drew)); exact HO474.out) hb); have n1_ := Aside0.mk (Kd.R_below (by (with_reducible repeat (first | apply Kd.R_alloc | apply Kd.R_drewN | apply Kd.R_drew)); exact HO477.out) hb); have n2_ := Aside0.mk (Kd.R_below (by (with_reducible repeat (first | apply Kd.R_alloc | apply Kd.R_drewN | apply Kd.R_drew)); exact HO481.out) hb); have n3_ := Aside0.mk (Kd.R_below (by (with_reducible repeat (first | apply Kd.R_alloc | apply Kd.R_drewN | apply Kd.R_drew)); exact HO483.out) hb); have n4_ := Aside0.mk (Kd.R_lower ho0 (below_size (by repeat (first | (with_reducible first | exact HB.out | apply below_alloc | apply pw_below_drewN | apply below_drew1) | exact HB.out)))); have n5_ := Aside0.mk (below_step (by repeat (first | (with_reducible first | exact HB.out | apply below_alloc | apply pw_below_drewN | apply below_drew1) | exact HB.out)) hb); clear HO474; clear HO477; clear HO481; clear HO483; clear HB; have HO474 := n0_; have HO477 := n1_; have HO481 := n2_; have HO483 := n3_; have HO486 := n4_; have HB := n5_; clear n0_ n1_ n2_ n3_ n4_ n5_; (try clear hb); (try clear hb2); (try clear hk); (try clear hi); (try clear ho0); obtain ⟨Ao32, co32, eo32⟩ := Kd.R_slice HO486.out; subst eo32) | (go_at_call 29; (with_reducible refine (pick_Rows.calls k _ _ y472 t487 _ ?side1 ?side2 A4.out).mono ?_); (case side1 => repeat (first | exact (Kd.R_reads' HO474.out).2.2 | (with_reducible refine Kd.C_alloc ?_ _) | (with_reducible refine Kd.C_drewN ?_ _) | (with_reducible refine Kd.C_drew ?_))); (case side2 => exact (Kd.R_reads' HO474.out).2.1); rintro e w33 ⟨v488, rfl, ho0, hb⟩; have n0_ := Aside0.mk (Kd.R_below (by (with_reducible repeat (first | apply Kd.R_alloc | apply Kd.R_drewN | apply Kd.R_drew)); exact HO474.out) hb); have n1_ := Aside0.mk (Kd.R_below (by (with_reducible repeat (first | apply Kd.R_alloc | apply Kd.R_drewN | apply Kd.R_drew)); exact HO477.out) hb); have n2_ := Aside0.mk (Kd.R_below (by (with_reducible repeat (first | apply Kd.R_alloc | apply Kd.R_drewN | apply Kd.R_drew)); exact HO481.out) hb); have n3_ := Aside0.mk (Kd.R_below (by (with_reducible repeat (first | apply Kd.R_alloc | apply Kd.R_drewN | apply Kd.R_drew)); exact HO483.out) hb); have n4_ := Aside0.mk (Kd.R_elder' (by (with_reducible repeat (first | apply Kd.R_alloc | apply Kd.R_drewN | apply Kd.R_drew)); exact HO486.out) (Kd.R_base ho0) hb); have n5_ := Aside0.mk (Kd.R_lower (Kd.R_new' ho0 (Kd.R_lt (by (with_reducible repeat (first | apply Kd.R_alloc | apply Kd.R_drewN | apply Kd.R_drew)); exact HO486.out))) (below_size (by repeat (first | (with_reducible first | exact HB.out | apply below_alloc | apply pw_below_drewN | apply below_drew1) | exact HB.out)))); have n6_ := Aside0.mk (below_step (by repeat (first | (with_reducible first | exact HB.out | apply below_alloc | apply pw_below_drewN | apply below_drew1) | exact HB.out)) hb); clear HO474; clear HO477; clear HO481; clear HO483; clear HO486; clear HB; have HO474 := n0_; have HO477 := n1_; have HO481 := n2_; have HO483 := n3_; have HO486 := n4_; have HO489 := n5_; have HB := n6_; clear n0_ n1_ n2_ n3_ n4_ n5_ n6_; (try clear hb); (try clear hb2); (try clear hk); (try clear hi); (try clear ho0); obtain ⟨Ao34, co34, eo34⟩ := Kd.R_slice HO489.out; subst eo34; obtain ⟨Ao35, co35, eo35⟩ := Kd.R_slice HO481.out; subst eo35; obtain ⟨Ao36, co36, eo36⟩ := Kd.R_slice HO483.out; subst eo36; have p490 : 0 ≤ (0 : Int) := (by omega); have q490 : 0 < (t478.length : Int) := of_decide_eq_true (by first | (with_reducible assumption) | assumption); obtain ⟨ad490, e490, hx490_0, hx490_1, hx490_2⟩ := at_Op (Kd.R_reads' HO481.out).2.2 0 p490 q490; cases e490; have qi490 : (0 < t478.length) = True := eq_true (by omega); (try rw [show ((0 : Int)).toNat = 0 from rfl] at hx490_0); (try rw [show 0 * 3 = 0 from rfl] at hx490_0); (try rw [Addr.add_zero'] at hx490_0); (try rw [show ((0 : Int)).toNat = 0 from rfl] at hx490_1); (try rw [show 0 * 3 = 0 from rfl] at hx490_1); (try rw [Addr.add_zero'] at hx490_1); (try rw [show ((0 : Int)).toNat = 0 from rfl] at hx490_2); (try rw [show 0 * 3 = 0 from rfl] at hx490_2); (try rw [Addr.add_zero'] at hx490_2); replace p490 := eq_true p490; replace q490 := eq_true q490))
              go_ret
              exact ⟨by first | rfl | (simp [errW_none, errW_some] <;> rfl) | (simp [*, errW_none, errW_some] <;> rfl), by repeat (first | (with_reducible first | exact HB.out | apply below_alloc | apply pw_below_drewN | apply below_drew1) | exact HB.out)⟩
          · rw [if_neg c8] at H
            exact absurd H (by simp)
        · rw [if_neg c7] at H
          have c7b0 : ((t479.length : Int) == 1) = false := beq_eq_false_iff_ne.mpr c7
          have c7b1 : ((t479.length : Int) != 1) = true := bne_iff_ne.mpr c7
          obtain rfl := Option.some.inj H
          go_enter Try.func25, Try.ntmps25
          go_wp2_with (first | ((with_reducible refine gate_dst (N := 6) rfl ?_); (try (refine gate_guard (by rfl) ?_; dsimp only)); refine Kd.R_lit kOp _ 36 ?hg (N := 6) ?hd (xs := ([(⟨3, 0, (⟨#[97, 10]⟩ : ByteArray)⟩ : Op), (⟨4, 0, (⟨#[98, 10]⟩ : ByteArray)⟩ : Op)] : List (Op))) (inner := [.int .i64 3, .int .i64 0, .string (⟨#[97, 10]⟩ : ByteArray), .int .i64 4, .int .i64 0, .string (⟨#[98, 10]⟩ : ByteArray)]) (ok := fun _ => True) (okp := fun _ => True) ?hr ?hp (fun _ hk => hk) trivial (Below.refl _ _) (Nat.le_refl _) (by simp) ?_; (case hd => rfl); (case hg => rfl); (case hr => first | (go_simp; done) | (go_simp; rfl)); (case hp => exact (Reps.c3 (show Kd.M kOp _ _ _ (⟨3, 0, (⟨#[97, 10]⟩ : ByteArray)⟩ : Op) [.int .i64 3, .int .i64 0, .string (⟨#[97, 10]⟩ : ByteArray)] from (kOp_mkM _ _ _ (⟨3, 0, (⟨#[97, 10]⟩ : ByteArray)⟩ : Op) )) (Reps.c3 (show Kd.M kOp _ _ _ (⟨4, 0, (⟨#[98, 10]⟩ : ByteArray)⟩ : Op) [.int .i64 4, .int .i64 0, .string (⟨#[98, 10]⟩ : ByteArray)] from (kOp_mkM _ _ _ (⟨4, 0, (⟨#[98, 10]⟩ : ByteArray)⟩ : Op) )) (Reps.none _ _)))); intro v473 w37 ho38 hb hg_ hnew_; clear hg_ hnew_; (first | rw [← Ny472.out] at ho38 | (simp only [Int.reduceToNat] at ho38; rw [← Ny472.out] at ho38)); have n0_ := Aside0.mk (Kd.R_lower ho38 (below_size (by repeat (first | (with_reducible first | exact HB.out | apply below_alloc | apply pw_below_drewN | apply below_drew1) | exact HB.out)))); have n1_ := Aside0.mk (below_step (by repeat (first | (with_reducible first | exact HB.out | apply below_alloc | apply pw_below_drewN | apply below_drew1) | exact HB.out)) hb); clear HB; have HO474 := n0_; have HB := n1_; clear n0_ n1_; clear hb ho38) | ((with_reducible refine gate_dst (N := 9) rfl ?_); (try (refine gate_guard (by rfl) ?_; dsimp only)); refine Kd.R_lit Kd.bool _ 4 ?hg (N := 9) ?hd (xs := ([true] : List Bool)) (inner := [.bool true]) (ok := fun _ => True) (okp := fun _ => True) ?hr ?hp (fun _ hk => hk) trivial (Below.refl _ _) (Nat.le_refl _) (by simp) ?_; (case hd => rfl); (case hg => rfl); (case hr => first | (go_simp; done) | (go_simp; rfl)); (case hp => exact (Reps.one (show Kd.M Kd.bool _ _ _ true [.bool true] from rfl) (Reps.none _ _))); intro v476 w39 ho40 hb hg_ hnew_; clear hg_ hnew_; (first | rw [← Ny475.out] at ho40 | (simp only [Int.reduceToNat] at ho40; rw [← Ny475.out] at ho40)); have n0_ := Aside0.mk (Kd.R_below (by (with_reducible repeat (first | apply Kd.R_alloc | apply Kd.R_drewN | apply Kd.R_drew)); exact HO474.out) hb); have n1_ := Aside0.mk (Kd.R_lower ho40 (below_size (by repeat (first | (with_reducible first | exact HB.out | apply below_alloc | apply pw_below_drewN | apply below_drew1) | exact HB.out)))); have n2_ := Aside0.mk (below_step (by repeat (first | (with_reducible first | exact HB.out | apply below_alloc | apply pw_below_drewN | apply below_drew1) | exact HB.out)) hb); clear HO474; clear HB; have HO474 := n0_; have HO477 := n1_; have HB := n2_; clear n0_ n1_ n2_; clear hb ho40; obtain ⟨Ao41, co41, eo41⟩ := Kd.R_slice HO474.out; subst eo41; obtain ⟨Ao42, co42, eo42⟩ := Kd.R_slice HO477.out; subst eo42) | ((with_reducible refine gate_callee (f := 26) rfl ?_); refine goesL_ (some 10) rfl rfl Try.func26 (by kernel_rfl) rfl #[.slice Ao41 y472.length co41, .slice Ao42 y475.length co42] rfl (by (try simp only [List.map_toArray, List.map_cons, List.map_nil]); first | done | rfl | (simp only [List.length_drop, List.length_take]; rfl)) ?_; (with_reducible refine (pick_Ops.calls k _ _ y472 _ _ y475 t478 t479 _ ?side1 ?side2 ?side3 ?side4 A1.out).mono ?_); (case side1 => repeat (first | exact (Kd.R_reads' HO474.out).2.2 | (with_reducible refine Kd.C_alloc ?_ _) | (with_reducible refine Kd.C_drewN ?_ _) | (with_reducible refine Kd.C_drew ?_))); (case side2 => exact (Kd.R_reads' HO474.out).2.1); (case side3 => repeat (first | exact (Kd.R_reads' HO477.out).2.2 | (with_reducible refine Kd.C_alloc ?_ _) | (with_reducible refine Kd.C_drewN ?_ _) | (with_reducible refine Kd.C_drew ?_))); (case side4 => exact (Kd.R_reads' HO477.out).2.1); rintro e w43 ⟨v480, v482, rfl, ho0, ho1, hb⟩; refine ⟨_, rfl, ?_⟩; have n0_ := Aside0.mk (Kd.R_mono (Kd.R_told (Kd.R_told (Kd.R_old (by (with_reducible repeat (first | apply Kd.R_alloc | apply Kd.R_drewN | apply Kd.R_drew)); exact HO474.out) hb) (Kd.R_base ho0)) (Kd.R_base ho1)) (fun _ h_ => h_.1)); have n1_ := Aside0.mk (Kd.R_below (by (with_reducible repeat (first | apply Kd.R_alloc | apply Kd.R_drewN | apply Kd.R_drew)); exact HO477.out) hb); have n2_ := Aside0.mk (Kd.R_lower (Kd.R_new' ho0 (Kd.R_lt (by (with_reducible repeat (first | apply Kd.R_alloc | apply Kd.R_drewN | apply Kd.R_drew)); exact HO474.out))) (below_size (by repeat (first | (with_reducible first | exact HB.out | apply below_alloc | apply pw_below_drewN | apply below_drew1) | exact HB.out)))); have n3_ := Aside0.mk (Kd.R_lower (Kd.R_new' ho1 (Kd.R_lt (by (with_reducible repeat (first | apply Kd.R_alloc | apply Kd.R_drewN | apply Kd.R_drew)); exact HO474.out))) (below_size (by repeat (first | (with_reducible first | exact HB.out | apply below_alloc | apply pw_below_drewN | apply below_drew1) | exact HB.out)))); have n4_ := Aside0.mk (below_step (by repeat (first | (with_reducible first | exact HB.out | apply below_alloc | apply pw_below_drewN | apply below_drew1) | exact HB.out)) hb); clear HO474; clear HO477; clear HB; have HO474 := n0_; have HO477 := n1_; have HO481 := n2_; have HO483 := n3_; have HB := n4_; clear n0_ n1_ n2_ n3_ n4_; (try clear hb); (try clear hb2); (try clear hk); (try clear hi); (try clear ho0); (try clear ho1)) | ((with_reducible refine gate_callee (f := 29) rfl ?_); refine goesL_ (some 13) rfl rfl Try.func29 (by kernel_rfl) rfl #[.slice none 0 0] rfl (by (try simp only [List.map_toArray, List.map_cons, List.map_nil]); first | done | rfl | (simp only [List.length_drop, List.length_take]; rfl)) ?_; (refine (pick_Rows.calls k _ _ ([] : List (Op)) t484 _ ?side1 ?side2 A2.out).mono ?_); (case side1 => exact Kd.C_nil _ _); (case side2 => exact Nat.le_refl _); rintro e w44 ⟨v485, rfl, ho0, hb⟩; refine ⟨_, rfl, ?_⟩; have n0_ := Aside0.mk (Kd.R_below (by (with_reducible repeat (first | apply Kd.R_alloc | apply Kd.R_drewN | apply Kd.R_drew)); exact HO474.out) hb); have n1_ := Aside0.mk (Kd.R_below (by (with_reducible repeat (first | apply Kd.R_alloc | apply Kd.R_drewN | apply Kd.R_drew)); exact HO477.out) hb); have n2_ := Aside0.mk (Kd.R_below (by (with_reducible repeat (first | apply Kd.R_alloc | apply Kd.R_drewN | apply Kd.R_drew)); exact HO481.out) hb); have n3_ := Aside0.mk (Kd.R_below (by (with_reducible repeat (first | apply Kd.R_alloc | apply Kd.R_drewN | apply Kd.R_drew)); exact HO483.out) hb); have n4_ := Aside0.mk (Kd.R_lower ho0 (below_size (by repeat (first | (with_reducible first | exact HB.out | apply below_alloc | apply pw_below_drewN | apply below_drew1) | exact HB.out)))); have n5_ := Aside0.mk (below_step (by repeat (first | (with_reducible first | exact HB.out | apply below_alloc | apply pw_below_drewN | apply below_drew1) | exact HB.out)) hb); clear HO474; clear HO477; clear HO481; clear HO483; clear HB; have HO474 := n0_; have HO477 := n1_; have HO481 := n2_; have HO483 := n3_; have HO486 := n4_; have HB := n5_; clear n0_ n1_ n2_ n3_ n4_ n5_; (try clear hb); (try clear hb2); (try clear hk); (try clear hi); (try clear ho0); obtain ⟨Ao45, co45, eo45⟩ := Kd.R_slice HO486.out; subst eo45) | (go_at_call 29; (with_reducible refine (pick_Rows.calls k _ _ y472 t487 _ ?side1 ?side2 A4.out).mono ?_); (case side1 => repeat (first | exact (Kd.R_reads' HO474.out).2.2 | (with_reducible refine Kd.C_alloc ?_ _) | (with_reducible refine Kd.C_drewN ?_ _) | (with_reducible refine Kd.C_drew ?_))); (case side2 => exact (Kd.R_reads' HO474.out).2.1); rintro e w46 ⟨v488, rfl, ho0, hb⟩; have n0_ := Aside0.mk (Kd.R_below (by (with_reducible repeat (first | apply Kd.R_alloc | apply Kd.R_drewN | apply Kd.R_drew)); exact HO474.out) hb); have n1_ := Aside0.mk (Kd.R_below (by (with_reducible repeat (first | apply Kd.R_alloc | apply Kd.R_drewN | apply Kd.R_drew)); exact HO477.out) hb); have n2_ := Aside0.mk (Kd.R_below (by (with_reducible repeat (first | apply Kd.R_alloc | apply Kd.R_drewN | apply Kd.R_drew)); exact HO481.out) hb); have n3_ := Aside0.mk (Kd.R_below (by (with_reducible repeat (first | apply Kd.R_alloc | apply Kd.R_drewN | apply Kd.R_drew)); exact HO483.out) hb); have n4_ := Aside0.mk (Kd.R_elder' (by (with_reducible repeat (first | apply Kd.R_alloc | apply Kd.R_drewN | apply Kd.R_drew)); exact HO486.out) (Kd.R_base ho0) hb); have n5_ := Aside0.mk (Kd.R_lower (Kd.R_new' ho0 (Kd.R_lt (by (with_reducible repeat (first | apply Kd.R_alloc | apply Kd.R_drewN | apply Kd.R_drew)); exact HO486.out))) (below_size (by repeat (first | (with_reducible first | exact HB.out | apply below_alloc | apply pw_below_drewN | apply below_drew1) | exact HB.out)))); have n6_ := Aside0.mk (below_step (by repeat (first | (with_reducible first | exact HB.out | apply below_alloc | apply pw_below_drewN | apply below_drew1) | exact HB.out)) hb); clear HO474; clear HO477; clear HO481; clear HO483; clear HO486; clear HB; have HO474 := n0_; have HO477 := n1_; have HO481 := n2_; have HO483 := n3_; have HO486 := n4_; have HO489 := n5_; have HB := n6_; clear n0_ n1_ n2_ n3_ n4_ n5_ n6_; (try clear hb); (try clear hb2); (try clear hk); (try clear hi); (try clear ho0); obtain ⟨Ao47, co47, eo47⟩ := Kd.R_slice HO489.out; subst eo47; obtain ⟨Ao48, co48, eo48⟩ := Kd.R_slice HO481.out; subst eo48; obtain ⟨Ao49, co49, eo49⟩ := Kd.R_slice HO483.out; subst eo49))
          go_ret
          exact ⟨by first | rfl | (simp [errW_none, errW_some] <;> rfl) | (simp [*, errW_none, errW_some] <;> rfl), by repeat (first | (with_reducible first | exact HB.out | apply below_alloc | apply pw_below_drewN | apply below_drew1) | exact HB.out)⟩
      · rw [if_neg c6] at H
        have c6b0 : ((t478.length : Int) == 1) = false := beq_eq_false_iff_ne.mpr c6
        have c6b1 : ((t478.length : Int) != 1) = true := bne_iff_ne.mpr c6
        obtain rfl := Option.some.inj H
        go_enter Try.func25, Try.ntmps25
        go_wp2_with (first | ((with_reducible refine gate_dst (N := 6) rfl ?_); (try (refine gate_guard (by rfl) ?_; dsimp only)); refine Kd.R_lit kOp _ 36 ?hg (N := 6) ?hd (xs := ([(⟨3, 0, (⟨#[97, 10]⟩ : ByteArray)⟩ : Op), (⟨4, 0, (⟨#[98, 10]⟩ : ByteArray)⟩ : Op)] : List (Op))) (inner := [.int .i64 3, .int .i64 0, .string (⟨#[97, 10]⟩ : ByteArray), .int .i64 4, .int .i64 0, .string (⟨#[98, 10]⟩ : ByteArray)]) (ok := fun _ => True) (okp := fun _ => True) ?hr ?hp (fun _ hk => hk) trivial (Below.refl _ _) (Nat.le_refl _) (by simp) ?_; (case hd => rfl); (case hg => rfl); (case hr => first | (go_simp; done) | (go_simp; rfl)); (case hp => exact (Reps.c3 (show Kd.M kOp _ _ _ (⟨3, 0, (⟨#[97, 10]⟩ : ByteArray)⟩ : Op) [.int .i64 3, .int .i64 0, .string (⟨#[97, 10]⟩ : ByteArray)] from (kOp_mkM _ _ _ (⟨3, 0, (⟨#[97, 10]⟩ : ByteArray)⟩ : Op) )) (Reps.c3 (show Kd.M kOp _ _ _ (⟨4, 0, (⟨#[98, 10]⟩ : ByteArray)⟩ : Op) [.int .i64 4, .int .i64 0, .string (⟨#[98, 10]⟩ : ByteArray)] from (kOp_mkM _ _ _ (⟨4, 0, (⟨#[98, 10]⟩ : ByteArray)⟩ : Op) )) (Reps.none _ _)))); intro v473 w50 ho51 hb hg_ hnew_; clear hg_ hnew_; (first | rw [← Ny472.out] at ho51 | (simp only [Int.reduceToNat] at ho51; rw [← Ny472.out] at ho51)); have n0_ := Aside0.mk (Kd.R_lower ho51 (below_size (by repeat (first | (with_reducible first | exact HB.out | apply below_alloc | apply pw_below_drewN | apply below_drew1) | exact HB.out)))); have n1_ := Aside0.mk (below_step (by repeat (first | (with_reducible first | exact HB.out | apply below_alloc | apply pw_below_drewN | apply below_drew1) | exact HB.out)) hb); clear HB; have HO474 := n0_; have HB := n1_; clear n0_ n1_; clear hb ho51) | ((with_reducible refine gate_dst (N := 9) rfl ?_); (try (refine gate_guard (by rfl) ?_; dsimp only)); refine Kd.R_lit Kd.bool _ 4 ?hg (N := 9) ?hd (xs := ([true] : List Bool)) (inner := [.bool true]) (ok := fun _ => True) (okp := fun _ => True) ?hr ?hp (fun _ hk => hk) trivial (Below.refl _ _) (Nat.le_refl _) (by simp) ?_; (case hd => rfl); (case hg => rfl); (case hr => first | (go_simp; done) | (go_simp; rfl)); (case hp => exact (Reps.one (show Kd.M Kd.bool _ _ _ true [.bool true] from rfl) (Reps.none _ _))); intro v476 w52 ho53 hb hg_ hnew_; clear hg_ hnew_; (first | rw [← Ny475.out] at ho53 | (simp only [Int.reduceToNat] at ho53; rw [← Ny475.out] at ho53)); have n0_ := Aside0.mk (Kd.R_below (by (with_reducible repeat (first | apply Kd.R_alloc | apply Kd.R_drewN | apply Kd.R_drew)); exact HO474.out) hb); have n1_ := Aside0.mk (Kd.R_lower ho53 (below_size (by repeat (first | (with_reducible first | exact HB.out | apply below_alloc | apply pw_below_drewN | apply below_drew1) | exact HB.out)))); have n2_ := Aside0.mk (below_step (by repeat (first | (with_reducible first | exact HB.out | apply below_alloc | apply pw_below_drewN | apply below_drew1) | exact HB.out)) hb); clear HO474; clear HB; have HO474 := n0_; have HO477 := n1_; have HB := n2_; clear n0_ n1_ n2_; clear hb ho53; obtain ⟨Ao54, co54, eo54⟩ := Kd.R_slice HO474.out; subst eo54; obtain ⟨Ao55, co55, eo55⟩ := Kd.R_slice HO477.out; subst eo55) | ((with_reducible refine gate_callee (f := 26) rfl ?_); refine goesL_ (some 10) rfl rfl Try.func26 (by kernel_rfl) rfl #[.slice Ao54 y472.length co54, .slice Ao55 y475.length co55] rfl (by (try simp only [List.map_toArray, List.map_cons, List.map_nil]); first | done | rfl | (simp only [List.length_drop, List.length_take]; rfl)) ?_; (with_reducible refine (pick_Ops.calls k _ _ y472 _ _ y475 t478 t479 _ ?side1 ?side2 ?side3 ?side4 A1.out).mono ?_); (case side1 => repeat (first | exact (Kd.R_reads' HO474.out).2.2 | (with_reducible refine Kd.C_alloc ?_ _) | (with_reducible refine Kd.C_drewN ?_ _) | (with_reducible refine Kd.C_drew ?_))); (case side2 => exact (Kd.R_reads' HO474.out).2.1); (case side3 => repeat (first | exact (Kd.R_reads' HO477.out).2.2 | (with_reducible refine Kd.C_alloc ?_ _) | (with_reducible refine Kd.C_drewN ?_ _) | (with_reducible refine Kd.C_drew ?_))); (case side4 => exact (Kd.R_reads' HO477.out).2.1); rintro e w56 ⟨v480, v482, rfl, ho0, ho1, hb⟩; refine ⟨_, rfl, ?_⟩; have n0_ := Aside0.mk (Kd.R_mono (Kd.R_told (Kd.R_told (Kd.R_old (by (with_reducible repeat (first | apply Kd.R_alloc | apply Kd.R_drewN | apply Kd.R_drew)); exact HO474.out) hb) (Kd.R_base ho0)) (Kd.R_base ho1)) (fun _ h_ => h_.1)); have n1_ := Aside0.mk (Kd.R_below (by (with_reducible repeat (first | apply Kd.R_alloc | apply Kd.R_drewN | apply Kd.R_drew)); exact HO477.out) hb); have n2_ := Aside0.mk (Kd.R_lower (Kd.R_new' ho0 (Kd.R_lt (by (with_reducible repeat (first | apply Kd.R_alloc | apply Kd.R_drewN | apply Kd.R_drew)); exact HO474.out))) (below_size (by repeat (first | (with_reducible first | exact HB.out | apply below_alloc | apply pw_below_drewN | apply below_drew1) | exact HB.out)))); have n3_ := Aside0.mk (Kd.R_lower (Kd.R_new' ho1 (Kd.R_lt (by (with_reducible repeat (first | apply Kd.R_alloc | apply Kd.R_drewN | apply Kd.R_drew)); exact HO474.out))) (below_size (by repeat (first | (with_reducible first | exact HB.out | apply below_alloc | apply pw_below_drewN | apply below_drew1) | exact HB.out)))); have n4_ := Aside0.mk (below_step (by repeat (first | (with_reducible first | exact HB.out | apply below_alloc | apply pw_below_drewN | apply below_drew1) | exact HB.out)) hb); clear HO474; clear HO477; clear HB; have HO474 := n0_; have HO477 := n1_; have HO481 := n2_; have HO483 := n3_; have HB := n4_; clear n0_ n1_ n2_ n3_ n4_; (try clear hb); (try clear hb2); (try clear hk); (try clear hi); (try clear ho0); (try clear ho1)) | ((with_reducible refine gate_callee (f := 29) rfl ?_); refine goesL_ (some 13) rfl rfl Try.func29 (by kernel_rfl) rfl #[.slice none 0 0] rfl (by (try simp only [List.map_toArray, List.map_cons, List.map_nil]); first | done | rfl | (simp only [List.length_drop, List.length_take]; rfl)) ?_; (refine (pick_Rows.calls k _ _ ([] : List (Op)) t484 _ ?side1 ?side2 A2.out).mono ?_); (case side1 => exact Kd.C_nil _ _); (case side2 => exact Nat.le_refl _); rintro e w57 ⟨v485, rfl, ho0, hb⟩; refine ⟨_, rfl, ?_⟩; have n0_ := Aside0.mk (Kd.R_below (by (with_reducible repeat (first | apply Kd.R_alloc | apply Kd.R_drewN | apply Kd.R_drew)); exact HO474.out) hb); have n1_ := Aside0.mk (Kd.R_below (by (with_reducible repeat (first | apply Kd.R_alloc | apply Kd.R_drewN | apply Kd.R_drew)); exact HO477.out) hb); have n2_ := Aside0.mk (Kd.R_below (by (with_reducible repeat (first | apply Kd.R_alloc | apply Kd.R_drewN | apply Kd.R_drew)); exact HO481.out) hb); have n3_ := Aside0.mk (Kd.R_below (by (with_reducible repeat (first | apply Kd.R_alloc | apply Kd.R_drewN | apply Kd.R_drew)); exact HO483.out) hb); have n4_ := Aside0.mk (Kd.R_lower ho0 (below_size (by repeat (first | (with_reducible first | exact HB.out | apply below_alloc | apply pw_below_drewN | apply below_drew1) | exact HB.out)))); have n5_ := Aside0.mk (below_step (by repeat (first | (with_reducible first | exact HB.out | apply below_alloc | apply pw_below_drewN | apply below_drew1) | exact HB.out)) hb); clear HO474; clear HO477; clear HO481; clear HO483; clear HB; have HO474 := n0_; have HO477 := n1_; have HO481 := n2_; have HO483 := n3_; have HO486 := n4_; have HB := n5_; clear n0_ n1_ n2_ n3_ n4_ n5_; (try clear hb); (try clear hb2); (try clear hk); (try clear hi); (try clear ho0); obtain ⟨Ao58, co58, eo58⟩ := Kd.R_slice HO486.out; subst eo58) | (go_at_call 29; (with_reducible refine (pick_Rows.calls k _ _ y472 t487 _ ?side1 ?side2 A4.out).mono ?_); (case side1 => repeat (first | exact (Kd.R_reads' HO474.out).2.2 | (with_reducible refine Kd.C_alloc ?_ _) | (with_reducible refine Kd.C_drewN ?_ _) | (with_reducible refine Kd.C_drew ?_))); (case side2 => exact (Kd.R_reads' HO474.out).2.1); rintro e w59 ⟨v488, rfl, ho0, hb⟩; have n0_ := Aside0.mk (Kd.R_below (by (with_reducible repeat (first | apply Kd.R_alloc | apply Kd.R_drewN | apply Kd.R_drew)); exact HO474.out) hb); have n1_ := Aside0.mk (Kd.R_below (by (with_reducible repeat (first | apply Kd.R_alloc | apply Kd.R_drewN | apply Kd.R_drew)); exact HO477.out) hb); have n2_ := Aside0.mk (Kd.R_below (by (with_reducible repeat (first | apply Kd.R_alloc | apply Kd.R_drewN | apply Kd.R_drew)); exact HO481.out) hb); have n3_ := Aside0.mk (Kd.R_below (by (with_reducible repeat (first | apply Kd.R_alloc | apply Kd.R_drewN | apply Kd.R_drew)); exact HO483.out) hb); have n4_ := Aside0.mk (Kd.R_elder' (by (with_reducible repeat (first | apply Kd.R_alloc | apply Kd.R_drewN | apply Kd.R_drew)); exact HO486.out) (Kd.R_base ho0) hb); have n5_ := Aside0.mk (Kd.R_lower (Kd.R_new' ho0 (Kd.R_lt (by (with_reducible repeat (first | apply Kd.R_alloc | apply Kd.R_drewN | apply Kd.R_drew)); exact HO486.out))) (below_size (by repeat (first | (with_reducible first | exact HB.out | apply below_alloc | apply pw_below_drewN | apply below_drew1) | exact HB.out)))); have n6_ := Aside0.mk (below_step (by repeat (first | (with_reducible first | exact HB.out | apply below_alloc | apply pw_below_drewN | apply below_drew1) | exact HB.out)) hb); clear HO474; clear HO477; clear HO481; clear HO483; clear HO486; clear HB; have HO474 := n0_; have HO477 := n1_; have HO481 := n2_; have HO483 := n3_; have HO486 := n4_; have HO489 := n5_; have HB := n6_; clear n0_ n1_ n2_ n3_ n4_ n5_ n6_; (try clear hb); (try clear hb2); (try clear hk); (try clear hi); (try clear ho0); obtain ⟨Ao60, co60, eo60⟩ := Kd.R_slice HO489.out; subst eo60; obtain ⟨Ao61, co61, eo61⟩ := Kd.R_slice HO481.out; subst eo61))
        go_ret
        exact ⟨by first | rfl | (simp [errW_none, errW_some] <;> rfl) | (simp [*, errW_none, errW_some] <;> rfl), by repeat (first | (with_reducible first | exact HB.out | apply below_alloc | apply pw_below_drewN | apply below_drew1) | exact HB.out)⟩
    · rw [if_neg c5] at H
      have c5b0 : ((t487.length : Int) == 1) = false := beq_eq_false_iff_ne.mpr c5
      have c5b1 : ((t487.length : Int) != 1) = true := bne_iff_ne.mpr c5
      obtain rfl := Option.some.inj H
      go_enter Try.func25, Try.ntmps25
      go_wp2_with (first | ((with_reducible refine gate_dst (N := 6) rfl ?_); (try (refine gate_guard (by rfl) ?_; dsimp only)); refine Kd.R_lit kOp _ 36 ?hg (N := 6) ?hd (xs := ([(⟨3, 0, (⟨#[97, 10]⟩ : ByteArray)⟩ : Op), (⟨4, 0, (⟨#[98, 10]⟩ : ByteArray)⟩ : Op)] : List (Op))) (inner := [.int .i64 3, .int .i64 0, .string (⟨#[97, 10]⟩ : ByteArray), .int .i64 4, .int .i64 0, .string (⟨#[98, 10]⟩ : ByteArray)]) (ok := fun _ => True) (okp := fun _ => True) ?hr ?hp (fun _ hk => hk) trivial (Below.refl _ _) (Nat.le_refl _) (by simp) ?_; (case hd => rfl); (case hg => rfl); (case hr => first | (go_simp; done) | (go_simp; rfl)); (case hp => exact (Reps.c3 (show Kd.M kOp _ _ _ (⟨3, 0, (⟨#[97, 10]⟩ : ByteArray)⟩ : Op) [.int .i64 3, .int .i64 0, .string (⟨#[97, 10]⟩ : ByteArray)] from (kOp_mkM _ _ _ (⟨3, 0, (⟨#[97, 10]⟩ : ByteArray)⟩ : Op) )) (Reps.c3 (show Kd.M kOp _ _ _ (⟨4, 0, (⟨#[98, 10]⟩ : ByteArray)⟩ : Op) [.int .i64 4, .int .i64 0, .string (⟨#[98, 10]⟩ : ByteArray)] from (kOp_mkM _ _ _ (⟨4, 0, (⟨#[98, 10]⟩ : ByteArray)⟩ : Op) )) (Reps.none _ _)))); intro v473 w62 ho63 hb hg_ hnew_; clear hg_ hnew_; (first | rw [← Ny472.out] at ho63 | (simp only [Int.reduceToNat] at ho63; rw [← Ny472.out] at ho63)); have n0_ := Aside0.mk (Kd.R_lower ho63 (below_size (by repeat (first | (with_reducible first | exact HB.out | apply below_alloc | apply pw_below_drewN | apply below_drew1) | exact HB.out)))); have n1_ := Aside0.mk (below_step (by repeat (first | (with_reducible first | exact HB.out | apply below_alloc | apply pw_below_drewN | apply below_drew1) | exact HB.out)) hb); clear HB; have HO474 := n0_; have HB := n1_; clear n0_ n1_; clear hb ho63) | ((with_reducible refine gate_dst (N := 9) rfl ?_); (try (refine gate_guard (by rfl) ?_; dsimp only)); refine Kd.R_lit Kd.bool _ 4 ?hg (N := 9) ?hd (xs := ([true] : List Bool)) (inner := [.bool true]) (ok := fun _ => True) (okp := fun _ => True) ?hr ?hp (fun _ hk => hk) trivial (Below.refl _ _) (Nat.le_refl _) (by simp) ?_; (case hd => rfl); (case hg => rfl); (case hr => first | (go_simp; done) | (go_simp; rfl)); (case hp => exact (Reps.one (show Kd.M Kd.bool _ _ _ true [.bool true] from rfl) (Reps.none _ _))); intro v476 w64 ho65 hb hg_ hnew_; clear hg_ hnew_; (first | rw [← Ny475.out] at ho65 | (simp only [Int.reduceToNat] at ho65; rw [← Ny475.out] at ho65)); have n0_ := Aside0.mk (Kd.R_below (by (with_reducible repeat (first | apply Kd.R_alloc | apply Kd.R_drewN | apply Kd.R_drew)); exact HO474.out) hb); have n1_ := Aside0.mk (Kd.R_lower ho65 (below_size (by repeat (first | (with_reducible first | exact HB.out | apply below_alloc | apply pw_below_drewN | apply below_drew1) | exact HB.out)))); have n2_ := Aside0.mk (below_step (by repeat (first | (with_reducible first | exact HB.out | apply below_alloc | apply pw_below_drewN | apply below_drew1) | exact HB.out)) hb); clear HO474; clear HB; have HO474 := n0_; have HO477 := n1_; have HB := n2_; clear n0_ n1_ n2_; clear hb ho65; obtain ⟨Ao66, co66, eo66⟩ := Kd.R_slice HO474.out; subst eo66; obtain ⟨Ao67, co67, eo67⟩ := Kd.R_slice HO477.out; subst eo67) | ((with_reducible refine gate_callee (f := 26) rfl ?_); refine goesL_ (some 10) rfl rfl Try.func26 (by kernel_rfl) rfl #[.slice Ao66 y472.length co66, .slice Ao67 y475.length co67] rfl (by (try simp only [List.map_toArray, List.map_cons, List.map_nil]); first | done | rfl | (simp only [List.length_drop, List.length_take]; rfl)) ?_; (with_reducible refine (pick_Ops.calls k _ _ y472 _ _ y475 t478 t479 _ ?side1 ?side2 ?side3 ?side4 A1.out).mono ?_); (case side1 => repeat (first | exact (Kd.R_reads' HO474.out).2.2 | (with_reducible refine Kd.C_alloc ?_ _) | (with_reducible refine Kd.C_drewN ?_ _) | (with_reducible refine Kd.C_drew ?_))); (case side2 => exact (Kd.R_reads' HO474.out).2.1); (case side3 => repeat (first | exact (Kd.R_reads' HO477.out).2.2 | (with_reducible refine Kd.C_alloc ?_ _) | (with_reducible refine Kd.C_drewN ?_ _) | (with_reducible refine Kd.C_drew ?_))); (case side4 => exact (Kd.R_reads' HO477.out).2.1); rintro e w68 ⟨v480, v482, rfl, ho0, ho1, hb⟩; refine ⟨_, rfl, ?_⟩; have n0_ := Aside0.mk (Kd.R_mono (Kd.R_told (Kd.R_told (Kd.R_old (by (with_reducible repeat (first | apply Kd.R_alloc | apply Kd.R_drewN | apply Kd.R_drew)); exact HO474.out) hb) (Kd.R_base ho0)) (Kd.R_base ho1)) (fun _ h_ => h_.1)); have n1_ := Aside0.mk (Kd.R_below (by (with_reducible repeat (first | apply Kd.R_alloc | apply Kd.R_drewN | apply Kd.R_drew)); exact HO477.out) hb); have n2_ := Aside0.mk (Kd.R_lower (Kd.R_new' ho0 (Kd.R_lt (by (with_reducible repeat (first | apply Kd.R_alloc | apply Kd.R_drewN | apply Kd.R_drew)); exact HO474.out))) (below_size (by repeat (first | (with_reducible first | exact HB.out | apply below_alloc | apply pw_below_drewN | apply below_drew1) | exact HB.out)))); have n3_ := Aside0.mk (Kd.R_lower (Kd.R_new' ho1 (Kd.R_lt (by (with_reducible repeat (first | apply Kd.R_alloc | apply Kd.R_drewN | apply Kd.R_drew)); exact HO474.out))) (below_size (by repeat (first | (with_reducible first | exact HB.out | apply below_alloc | apply pw_below_drewN | apply below_drew1) | exact HB.out)))); have n4_ := Aside0.mk (below_step (by repeat (first | (with_reducible first | exact HB.out | apply below_alloc | apply pw_below_drewN | apply below_drew1) | exact HB.out)) hb); clear HO474; clear HO477; clear HB; have HO474 := n0_; have HO477 := n1_; have HO481 := n2_; have HO483 := n3_; have HB := n4_; clear n0_ n1_ n2_ n3_ n4_; (try clear hb); (try clear hb2); (try clear hk); (try clear hi); (try clear ho0); (try clear ho1)) | ((with_reducible refine gate_callee (f := 29) rfl ?_); refine goesL_ (some 13) rfl rfl Try.func29 (by kernel_rfl) rfl #[.slice none 0 0] rfl (by (try simp only [List.map_toArray, List.map_cons, List.map_nil]); first | done | rfl | (simp only [List.length_drop, List.length_take]; rfl)) ?_; (refine (pick_Rows.calls k _ _ ([] : List (Op)) t484 _ ?side1 ?side2 A2.out).mono ?_); (case side1 => exact Kd.C_nil _ _); (case side2 => exact Nat.le_refl _); rintro e w69 ⟨v485, rfl, ho0, hb⟩; refine ⟨_, rfl, ?_⟩; have n0_ := Aside0.mk (Kd.R_below (by (with_reducible repeat (first | apply Kd.R_alloc | apply Kd.R_drewN | apply Kd.R_drew)); exact HO474.out) hb); have n1_ := Aside0.mk (Kd.R_below (by (with_reducible repeat (first | apply Kd.R_alloc | apply Kd.R_drewN | apply Kd.R_drew)); exact HO477.out) hb); have n2_ := Aside0.mk (Kd.R_below (by (with_reducible repeat (first | apply Kd.R_alloc | apply Kd.R_drewN | apply Kd.R_drew)); exact HO481.out) hb); have n3_ := Aside0.mk (Kd.R_below (by (with_reducible repeat (first | apply Kd.R_alloc | apply Kd.R_drewN | apply Kd.R_drew)); exact HO483.out) hb); have n4_ := Aside0.mk (Kd.R_lower ho0 (below_size (by repeat (first | (with_reducible first | exact HB.out | apply below_alloc | apply pw_below_drewN | apply below_drew1) | exact HB.out)))); have n5_ := Aside0.mk (below_step (by repeat (first | (with_reducible first | exact HB.out | apply below_alloc | apply pw_below_drewN | apply below_drew1) | exact HB.out)) hb); clear HO474; clear HO477; clear HO481; clear HO483; clear HB; have HO474 := n0_; have HO477 := n1_; have HO481 := n2_; have HO483 := n3_; have HO486 := n4_; have HB := n5_; clear n0_ n1_ n2_ n3_ n4_ n5_; (try clear hb); (try clear hb2); (try clear hk); (try clear hi); (try clear ho0); obtain ⟨Ao70, co70, eo70⟩ := Kd.R_slice HO486.out; subst eo70) | (go_at_call 29; (with_reducible refine (pick_Rows.calls k _ _ y472 t487 _ ?side1 ?side2 A4.out).mono ?_); (case side1 => repeat (first | exact (Kd.R_reads' HO474.out).2.2 | (with_reducible refine Kd.C_alloc ?_ _) | (with_reducible refine Kd.C_drewN ?_ _) | (with_reducible refine Kd.C_drew ?_))); (case side2 => exact (Kd.R_reads' HO474.out).2.1); rintro e w71 ⟨v488, rfl, ho0, hb⟩; have n0_ := Aside0.mk (Kd.R_below (by (with_reducible repeat (first | apply Kd.R_alloc | apply Kd.R_drewN | apply Kd.R_drew)); exact HO474.out) hb); have n1_ := Aside0.mk (Kd.R_below (by (with_reducible repeat (first | apply Kd.R_alloc | apply Kd.R_drewN | apply Kd.R_drew)); exact HO477.out) hb); have n2_ := Aside0.mk (Kd.R_below (by (with_reducible repeat (first | apply Kd.R_alloc | apply Kd.R_drewN | apply Kd.R_drew)); exact HO481.out) hb); have n3_ := Aside0.mk (Kd.R_below (by (with_reducible repeat (first | apply Kd.R_alloc | apply Kd.R_drewN | apply Kd.R_drew)); exact HO483.out) hb); have n4_ := Aside0.mk (Kd.R_elder' (by (with_reducible repeat (first | apply Kd.R_alloc | apply Kd.R_drewN | apply Kd.R_drew)); exact HO486.out) (Kd.R_base ho0) hb); have n5_ := Aside0.mk (Kd.R_lower (Kd.R_new' ho0 (Kd.R_lt (by (with_reducible repeat (first | apply Kd.R_alloc | apply Kd.R_drewN | apply Kd.R_drew)); exact HO486.out))) (below_size (by repeat (first | (with_reducible first | exact HB.out | apply below_alloc | apply pw_below_drewN | apply below_drew1) | exact HB.out)))); have n6_ := Aside0.mk (below_step (by repeat (first | (with_reducible first | exact HB.out | apply below_alloc | apply pw_below_drewN | apply below_drew1) | exact HB.out)) hb); clear HO474; clear HO477; clear HO481; clear HO483; clear HO486; clear HB; have HO474 := n0_; have HO477 := n1_; have HO481 := n2_; have HO483 := n3_; have HO486 := n4_; have HO489 := n5_; have HB := n6_; clear n0_ n1_ n2_ n3_ n4_ n5_ n6_; (try clear hb); (try clear hb2); (try clear hk); (try clear hi); (try clear ho0); obtain ⟨Ao72, co72, eo72⟩ := Kd.R_slice HO489.out; subst eo72))
      go_ret
      exact ⟨by first | rfl | (simp [errW_none, errW_some] <;> rfl) | (simp [*, errW_none, errW_some] <;> rfl), by repeat (first | (with_reducible first | exact HB.out | apply below_alloc | apply pw_below_drewN | apply below_drew1) | exact HB.out)⟩
  · rw [if_neg c3] at H
    have c3b0 : ((t484.length : Int) == 0) = false := beq_eq_false_iff_ne.mpr c3
    have c3b1 : ((t484.length : Int) != 0) = true := bne_iff_ne.mpr c3
    have c3b2 : ¬ (t484 = []) := fun h_ => c3 (by rw [h_]; rfl)
    obtain rfl := Option.some.inj H
    go_enter Try.func25, Try.ntmps25
    go_wp2_with (first | ((with_reducible refine gate_dst (N := 6) rfl ?_); (try (refine gate_guard (by rfl) ?_; dsimp only)); refine Kd.R_lit kOp _ 36 ?hg (N := 6) ?hd (xs := ([(⟨3, 0, (⟨#[97, 10]⟩ : ByteArray)⟩ : Op), (⟨4, 0, (⟨#[98, 10]⟩ : ByteArray)⟩ : Op)] : List (Op))) (inner := [.int .i64 3, .int .i64 0, .string (⟨#[97, 10]⟩ : ByteArray), .int .i64 4, .int .i64 0, .string (⟨#[98, 10]⟩ : ByteArray)]) (ok := fun _ => True) (okp := fun _ => True) ?hr ?hp (fun _ hk => hk) trivial (Below.refl _ _) (Nat.le_refl _) (by simp) ?_; (case hd => rfl); (case hg => rfl); (case hr => first | (go_simp; done) | (go_simp; rfl)); (case hp => exact (Reps.c3 (show Kd.M kOp _ _ _ (⟨3, 0, (⟨#[97, 10]⟩ : ByteArray)⟩ : Op) [.int .i64 3, .int .i64 0, .string (⟨#[97, 10]⟩ : ByteArray)] from (kOp_mkM _ _ _ (⟨3, 0, (⟨#[97, 10]⟩ : ByteArray)⟩ : Op) )) (Reps.c3 (show Kd.M kOp _ _ _ (⟨4, 0, (⟨#[98, 10]⟩ : ByteArray)⟩ : Op) [.int .i64 4, .int .i64 0, .string (⟨#[98, 10]⟩ : ByteArray)] from (kOp_mkM _ _ _ (⟨4, 0, (⟨#[98, 10]⟩ : ByteArray)⟩ : Op) )) (Reps.none _ _)))); intro v473 w73 ho74 hb hg_ hnew_; clear hg_ hnew_; (first | rw [← Ny472.out] at ho74 | (simp only [Int.reduceToNat] at ho74; rw [← Ny472.out] at ho74)); have n0_ := Aside0.mk (Kd.R_lower ho74 (below_size (by repeat (first | (with_reducible first | exact HB.out | apply below_alloc | apply pw_below_drewN | apply below_drew1) | exact HB.out)))); have n1_ := Aside0.mk (below_step (by repeat (first | (with_reducible first | exact HB.out | apply below_alloc | apply pw_below_drewN | apply below_drew1) | exact HB.out)) hb); clear HB; have HO474 := n0_; have HB := n1_; clear n0_ n1_; clear hb ho74) | ((with_reducible refine gate_dst (N := 9) rfl ?_); (try (refine gate_guard (by rfl) ?_; dsimp only)); refine Kd.R_lit Kd.bool _ 4 ?hg (N := 9) ?hd (xs := ([true] : List Bool)) (inner := [.bool true]) (ok := fun _ => True) (okp := fun _ => True) ?hr ?hp (fun _ hk => hk) trivial (Below.refl _ _) (Nat.le_refl _) (by simp) ?_; (case hd => rfl); (case hg => rfl); (case hr => first | (go_simp; done) | (go_simp; rfl)); (case hp => exact (Reps.one (show Kd.M Kd.bool _ _ _ true [.bool true] from rfl) (Reps.none _ _))); intro v476 w75 ho76 hb hg_ hnew_; clear hg_ hnew_; (first | rw [← Ny475.out] at ho76 | (simp only [Int.reduceToNat] at ho76; rw [← Ny475.out] at ho76)); have n0_ := Aside0.mk (Kd.R_below (by (with_reducible repeat (first | apply Kd.R_alloc | apply Kd.R_drewN | apply Kd.R_drew)); exact HO474.out) hb); have n1_ := Aside0.mk (Kd.R_lower ho76 (below_size (by repeat (first | (with_reducible first | exact HB.out | apply below_alloc | apply pw_below_drewN | apply below_drew1) | exact HB.out)))); have n2_ := Aside0.mk (below_step (by repeat (first | (with_reducible first | exact HB.out | apply below_alloc | apply pw_below_drewN | apply below_drew1) | exact HB.out)) hb); clear HO474; clear HB; have HO474 := n0_; have HO477 := n1_; have HB := n2_; clear n0_ n1_ n2_; clear hb ho76; obtain ⟨Ao77, co77, eo77⟩ := Kd.R_slice HO474.out; subst eo77; obtain ⟨Ao78, co78, eo78⟩ := Kd.R_slice HO477.out; subst eo78) | ((with_reducible refine gate_callee (f := 26) rfl ?_); refine goesL_ (some 10) rfl rfl Try.func26 (by kernel_rfl) rfl #[.slice Ao77 y472.length co77, .slice Ao78 y475.length co78] rfl (by (try simp only [List.map_toArray, List.map_cons, List.map_nil]); first | done | rfl | (simp only [List.length_drop, List.length_take]; rfl)) ?_; (with_reducible refine (pick_Ops.calls k _ _ y472 _ _ y475 t478 t479 _ ?side1 ?side2 ?side3 ?side4 A1.out).mono ?_); (case side1 => repeat (first | exact (Kd.R_reads' HO474.out).2.2 | (with_reducible refine Kd.C_alloc ?_ _) | (with_reducible refine Kd.C_drewN ?_ _) | (with_reducible refine Kd.C_drew ?_))); (case side2 => exact (Kd.R_reads' HO474.out).2.1); (case side3 => repeat (first | exact (Kd.R_reads' HO477.out).2.2 | (with_reducible refine Kd.C_alloc ?_ _) | (with_reducible refine Kd.C_drewN ?_ _) | (with_reducible refine Kd.C_drew ?_))); (case side4 => exact (Kd.R_reads' HO477.out).2.1); rintro e w79 ⟨v480, v482, rfl, ho0, ho1, hb⟩; refine ⟨_, rfl, ?_⟩; have n0_ := Aside0.mk (Kd.R_mono (Kd.R_told (Kd.R_told (Kd.R_old (by (with_reducible repeat (first | apply Kd.R_alloc | apply Kd.R_drewN | apply Kd.R_drew)); exact HO474.out) hb) (Kd.R_base ho0)) (Kd.R_base ho1)) (fun _ h_ => h_.1)); have n1_ := Aside0.mk (Kd.R_below (by (with_reducible repeat (first | apply Kd.R_alloc | apply Kd.R_drewN | apply Kd.R_drew)); exact HO477.out) hb); have n2_ := Aside0.mk (Kd.R_lower (Kd.R_new' ho0 (Kd.R_lt (by (with_reducible repeat (first | apply Kd.R_alloc | apply Kd.R_drewN | apply Kd.R_drew)); exact HO474.out))) (below_size (by repeat (first | (with_reducible first | exact HB.out | apply below_alloc | apply pw_below_drewN | apply below_drew1) | exact HB.out)))); have n3_ := Aside0.mk (Kd.R_lower (Kd.R_new' ho1 (Kd.R_lt (by (with_reducible repeat (first | apply Kd.R_alloc | apply Kd.R_drewN | apply Kd.R_drew)); exact HO474.out))) (below_size (by repeat (first | (with_reducible first | exact HB.out | apply below_alloc | apply pw_below_drewN | apply below_drew1) | exact HB.out)))); have n4_ := Aside0.mk (below_step (by repeat (first | (with_reducible first | exact HB.out | apply below_alloc | apply pw_below_drewN | apply below_drew1) | exact HB.out)) hb); clear HO474; clear HO477; clear HB; have HO474 := n0_; have HO477 := n1_; have HO481 := n2_; have HO483 := n3_; have HB := n4_; clear n0_ n1_ n2_ n3_ n4_; (try clear hb); (try clear hb2); (try clear hk); (try clear hi); (try clear ho0); (try clear ho1)) | ((with_reducible refine gate_callee (f := 29) rfl ?_); refine goesL_ (some 13) rfl rfl Try.func29 (by kernel_rfl) rfl #[.slice none 0 0] rfl (by (try simp only [List.map_toArray, List.map_cons, List.map_nil]); first | done | rfl | (simp only [List.length_drop, List.length_take]; rfl)) ?_; (refine (pick_Rows.calls k _ _ ([] : List (Op)) t484 _ ?side1 ?side2 A2.out).mono ?_); (case side1 => exact Kd.C_nil _ _); (case side2 => exact Nat.le_refl _); rintro e w80 ⟨v485, rfl, ho0, hb⟩; refine ⟨_, rfl, ?_⟩; have n0_ := Aside0.mk (Kd.R_below (by (with_reducible repeat (first | apply Kd.R_alloc | apply Kd.R_drewN | apply Kd.R_drew)); exact HO474.out) hb); have n1_ := Aside0.mk (Kd.R_below (by (with_reducible repeat (first | apply Kd.R_alloc | apply Kd.R_drewN | apply Kd.R_drew)); exact HO477.out) hb); have n2_ := Aside0.mk (Kd.R_below (by (with_reducible repeat (first | apply Kd.R_alloc | apply Kd.R_drewN | apply Kd.R_drew)); exact HO481.out) hb); have n3_ := Aside0.mk (Kd.R_below (by (with_reducible repeat (first | apply Kd.R_alloc | apply Kd.R_drewN | apply Kd.R_drew)); exact HO483.out) hb); have n4_ := Aside0.mk (Kd.R_lower ho0 (below_size (by repeat (first | (with_reducible first | exact HB.out | apply below_alloc | apply pw_below_drewN | apply below_drew1) | exact HB.out)))); have n5_ := Aside0.mk (below_step (by repeat (first | (with_reducible first | exact HB.out | apply below_alloc | apply pw_below_drewN | apply below_drew1) | exact HB.out)) hb); clear HO474; clear HO477; clear HO481; clear HO483; clear HB; have HO474 := n0_; have HO477 := n1_; have HO481 := n2_; have HO483 := n3_; have HO486 := n4_; have HB := n5_; clear n0_ n1_ n2_ n3_ n4_ n5_; (try clear hb); (try clear hb2); (try clear hk); (try clear hi); (try clear ho0); obtain ⟨Ao81, co81, eo81⟩ := Kd.R_slice HO486.out; subst eo81))
    go_ret
    exact ⟨by first | rfl | (simp [errW_none, errW_some] <;> rfl) | (simp [*, errW_none, errW_some] <;> rfl), by repeat (first | (with_reducible first | exact HB.out | apply below_alloc | apply pw_below_drewN | apply below_drew1) | exact HB.out)⟩

end Go.Proofs.Ythognikhmbabhaa.P
