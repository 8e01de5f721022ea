/- Own and printed texts that the theorem of InterEach reaches, put together. -/
import Derived.Test.YtfoponahdidddaaqInterEach4
import Derived.Test.YtfoponahdidddaaqInterEach3
import Derived.Test.YtfoponahdidddaaqInterEach6
import Derived.Test.YtfoponahdidddaaqInterEach10
import Derived.Test.YtfoponahdidddaaqInterEach9
set_option linter.unusedVariables false
set_option linter.unusedSimpArgs false
namespace Go.Proofs.Ytfoponahdidddaa.P
open Go.RowKit Go.Proofs.YtfoponahdidddaaW.PrintWords Go.Proofs.YtfoponahdidddaaW.PrintLast Go.Proofs.YtfoponahdidddaaW.PrintMore
open Go.Proofs.YtfoponahdidddaaW.PrintWords.Aside0 renaming mk → aM
open Option renaming bind_eq_some_iff → bS
open List renaming setIfInBounds_toArray → sI, set_cons_zero → sZ, set_cons_succ → sS, length_drop → lD, length_take → lT
attribute [local go_sem] max2_int min2_int max_two min_two max_three min_three max_four min_four
set_option maxHeartbeats 8000000 in
set_option maxRecDepth 100000 in
theorem compose_Then.calls (k : Nat) (A0 : Option Addr) (c0 : Nat) (l0 : List (Op)) (A1 : Option Addr) (c1 : Nat) (l1 : List (Op)) (r1 : List (Op)) (r2 : Bool) (w : World) (hr0 : Kd.C kOp w A0 l0.length l0) (hc0 : l0.length ≤ c0) (hr1 : Kd.C kOp w A1 l1.length l1) (hc1 : l1.length ≤ c1) (h : compose_Then.f k l0 l1 = some (r1, r2)) :
  Calls Try.prog 49 #[.slice A0 l0.length c0, .slice A1 l1.length c1] w fun e w' => ∃ v0_ : Value, e = .returned (.tuple #[v0_, .bool r2]) ∧ Kd.R kOp 41 w' w.heap.size (fun _ => True) v0_ r1 ∧ Below w.heap.size w w' := by
 have HR0 := aM hr0
 have HC0 := aM hc0
 clear hr0 hc0
 have HR1 := aM hr1
 have HC1 := aM hc1
 clear hr1 hc1
 have HB := aM (Below.refl w.heap.size w)
 have H : ((compose_Walk.f k l0 l1).bind fun bt680 => (if bt680.2 = true then ((compose_told.f k bt680.1).bind fun bt684 => ((ops_Norm.f k bt684.1).bind fun t688 => (some (t688, true)))) else (some (([] : List (Op)), false)))) = some (r1, r2) := h
 clear h
 replace H := bS.mp H
 obtain ⟨⟨t680, t681⟩, A30, H⟩ := H
 replace H : (if t681 = true then ((compose_told.f k t680).bind fun bt684 => ((ops_Norm.f k bt684.1).bind fun t688 => (some (t688, true)))) else (some (([] : List (Op)), false))) = some (r1, r2) := H
 have A3 := aM A30
 clear A30
 by_cases c4 : t681 = true
 ·subst c4
  replace H := iT H; replace H := bS.mp H; obtain ⟨⟨t684, t685⟩, A50, H⟩ := H; replace H : ((ops_Norm.f k t684).bind fun t688 => (some (t688, true))) = some (r1, r2) := H; have A5 := aM A50; clear A50; replace H := bS.mp H; obtain ⟨t688, A60, H⟩ := H; replace H : (some (t688, true)) = some (r1, r2) := H; have A6 := aM A60; clear A60; simp only [Option.some.injEq, Prod.mk.injEq] at H; obtain ⟨rfl, rfl⟩ := H
  go_enter Try.func49, Try.ntmps49
  go_wp2_with (first | ((with_reducible refine gate_callee (f := 36) rfl ?_); refine goesL_ (some 13) rfl rfl Try.func36 yK rfl #[.slice A0 l0.length c0, .slice A1 l1.length c1] rfl yG ?_; (with_reducible refine (compose_Walk.calls k _ _ l0 _ _ l1 t680 true _ (yC HR0.out) HC0.out (yC HR1.out) HC1.out A3.out).mono ?_); rintro e w7 ⟨v682, rfl, ho0, hb⟩; refine ⟨_, rfl, ?_⟩; have HO683 := aM (Kd.R_lower ho0 yW); replace HB := aM (below_step yB hb); clear hb ho0; obtain ⟨Ao8, co8, eo8⟩ := Kd.R_slice HO683.out; subst eo8) | ((with_reducible refine gate_callee (f := 70) rfl ?_); refine goesL_ (some 20) rfl rfl Try.func70 yK rfl #[.slice Ao8 t680.length co8] rfl yG ?_; (with_reducible refine (compose_told.calls k _ _ t680 t684 t685 _ (yC (Kd.R_reads' HO683.out).2.2) ((Kd.R_reads' HO683.out).2.1) A5.out).mono ?_); rintro e w9 ⟨v686, rfl, ho0, hb⟩; refine ⟨_, rfl, ?_⟩; replace HO683 := aM (Kd.R_below (yH HO683.out) hb); have HO687 := aM (Kd.R_lower ho0 yW); replace HB := aM (below_step yB hb); clear hb ho0; obtain ⟨Ao10, co10, eo10⟩ := Kd.R_slice HO687.out; subst eo10) | ((with_reducible refine gate_callee (f := 39) rfl ?_); refine goesL_ (some 24) rfl rfl Try.func39 yK rfl #[.slice Ao10 t684.length co10] rfl yG ?_; (with_reducible refine (ops_Norm.calls k _ _ t684 t688 _ (yC (Kd.R_reads' HO687.out).2.2) ((Kd.R_reads' HO687.out).2.1) A6.out).mono ?_); rintro e w11 ⟨v689, rfl, ho0, hb⟩; refine ⟨_, rfl, ?_⟩; replace HO683 := aM (Kd.R_below (yH HO683.out) hb); have HO690 := aM (Kd.R_lower (Kd.R_new' ho0 (Kd.R_lt (yH HO687.out))) yW); replace HO687 := aM (Kd.R_elder' (yH HO687.out) (Kd.R_base ho0) hb); replace HB := aM (below_step yB hb); clear hb ho0))
  go_ret2
  exact ⟨_, by first | rfl | (simp [errW_none, errW_some] <;> rfl) | (simp [*, errW_none, errW_some] <;> rfl), by (with_reducible repeat (first | apply Kd.R_alloc | apply Kd.R_drewN | apply Kd.R_drew)); exact Kd.R_mono HO690.out (fun _ hk => trivial), yB⟩
 ·replace c4 := Bool.eq_false_iff.mpr c4
  subst c4; replace H := iF H; simp only [Option.some.injEq, Prod.mk.injEq] at H; obtain ⟨rfl, rfl⟩ := H
  go_enter Try.func49, Try.ntmps49
  go_wp2_with (first | ((with_reducible refine gate_callee (f := 36) rfl ?_); refine goesL_ (some 13) rfl rfl Try.func36 yK rfl #[.slice A0 l0.length c0, .slice A1 l1.length c1] rfl yG ?_; (with_reducible refine (compose_Walk.calls k _ _ l0 _ _ l1 t680 false _ (yC HR0.out) HC0.out (yC HR1.out) HC1.out A3.out).mono ?_); rintro e w12 ⟨v682, rfl, ho0, hb⟩; refine ⟨_, rfl, ?_⟩; have HO683 := aM (Kd.R_lower ho0 yW); replace HB := aM (below_step yB hb); clear hb ho0))
  go_ret2
  exact ⟨_, by first | rfl | (simp [errW_none, errW_some] <;> rfl) | (simp [*, errW_none, errW_some] <;> rfl), by first | exact Kd.R_nil _ _ _ _ _ | exact Kd.N_nil _ _ _ _ _ | exact Kd.V_nil _ _ _ _ _ | exact Kd.Q_nil _ _ _ _ _ | exact Kd.S_nil _ _ _ _ _, yB⟩
theorem lcs_Diff.calls (A0 : Option Addr) (c0 : Nat) (l0 : List ByteArray) (A1 : Option Addr) (c1 : Nat) (l1 : List ByteArray) (r : List (Op)) (w : World) (hr0 : Kd.C Kd.string w A0 l0.length l0) (hc0 : l0.length ≤ c0) (hr1 : Kd.C Kd.string w A1 l1.length l1) (hc1 : l1.length ≤ c1) (h : lcs_Diff.f l0 l1 = some r) :
  Calls Try.prog 74 #[.slice A0 l0.length c0, .slice A1 l1.length c1] w fun e w' => ∃ v0_ : Value, e = .returned (v0_) ∧ Kd.R kOp 41 w' w.heap.size (fun _ => True) v0_ r ∧ Below w.heap.size w w' := by
 unfold lcs_Diff.f at h
 split at h
 ·rename_i hb
  obtain rfl := Option.some.inj h
  exact lcs_Diff_walk A0 c0 l0 A1 c1 l1 w hr0 hc0 hr1 hc1 hb.1 hb.2
 ·exact absurd h (by simp)
set_option maxHeartbeats 8000000 in
set_option maxRecDepth 100000 in
theorem tidy_Ops.calls (k : Nat) (A0 : Option Addr) (c0 : Nat) (l0 : List (Op)) (r : List (Op)) (w : World) (hr0 : Kd.C kOp w A0 l0.length l0) (hc0 : l0.length ≤ c0) (h : tidy_Ops.f k l0 = some r) :
  Calls Try.prog 51 #[.slice A0 l0.length c0] w fun e w' => ∃ v0_ : Value, e = .returned (v0_) ∧ Kd.R kOp 41 w' w.heap.size (fun _ => True) v0_ r ∧ Below w.heap.size w w' := by
 have hu41 := Try.underlying41
 have HR0 := aM hr0
 have HC0 := aM hc0
 clear hr0 hc0
 have HB := aM (Below.refl w.heap.size w)
 have H : ((ops_Right.f k l0).bind fun t720 => (if t720 = true then (tidy_Ops.l0 k l0 ([] : List (Op)) 0) else (some ([] : List (Op))))) = some r := h
 clear h
 replace H := oB H; obtain ⟨t720, A2, H⟩ := H
 by_cases c3 : t720 = true
 ·subst c3
  have H' := aM (iT H); clear H
  go_enter Try.func51, Try.ntmps51
  go_wp2_with (first | ((with_reducible refine gate_callee (f := 35) rfl ?_); refine goesL_ (some 7) rfl rfl Try.func35 yK rfl #[.slice A0 l0.length c0] rfl yG ?_; (with_reducible refine (ops_Right.calls k _ _ l0 true _ (yC HR0.out) HC0.out A2.out).mono ?_); rintro e w4 ⟨rfl, hb⟩; refine ⟨_, rfl, ?_⟩; replace HB := aM (below_step yB hb); clear hb))
  go_loopg [3, 4] k (fun kq v3 v4 w' => ∃ (x3_1 : List (Op)) (x4_1 : Int), v4 = .int .i64 x4_1 ∧ Aside0 (tidy_Ops.l0 kq l0 x3_1 x4_1 = some r) ∧ Aside0 (kq ≤ k) ∧ Aside0 (Kd.R kOp 41 w' w.heap.size (fun _ => True) v3 x3_1) ∧ Aside0 (Below w.heap.size w w'))
  case atStart => exact ⟨(([] : List (Op))), (0), yE, H', ⟨Nat.le_refl _⟩, ⟨by first | exact Kd.R_nil _ _ _ _ _ | exact Kd.N_nil _ _ _ _ _ | exact Kd.V_nil _ _ _ _ _ | exact Kd.Q_nil _ _ _ _ _ | exact Kd.S_nil _ _ _ _ _⟩, ⟨yB⟩⟩
  case round =>
   clear H'; (try clear p2); (try clear c3); obtain ⟨x3_1, x4_1, rfl, HA, HK1, HO_3, HB⟩ := hrel; cases gk with
   | zero => exact absurd HA.out (by simp [tidy_Ops.l0])
   | succ k1 =>
    have H := HA.out; clear HA; simp only [tidy_Ops.l0] at H
    by_cases c5 : x4_1 < (l0.length : Int)
    ·rw [if_pos c5] at H
     have c5b0 := decide_eq_true c5; clear c5; have HC6 := aM H; clear H
     go_upto_block 2 with (fail)
     go_cut [4] (fun v4 wc => ∃ (kq : Nat) (x4_5 : Int), v4 = .int .i64 x4_5 ∧ Aside0 (tidy_Ops.j2 kq l0 x3_1 x4_5 x4_1 = some r) ∧ Aside0 (kq ≤ k1) ∧ Aside0 (Kd.R kOp 41 wc w.heap.size (fun _ => True) u3 x3_1) ∧ Aside0 (Below w.heap.size w wc))
     case first =>
      have H := HC6.out; clear HC6; have H' := aM H; clear H
      go_wp2
      go_loopg [4] k1 (fun kq v4 w' => ∃ (x4_2 : Int), v4 = .int .i64 x4_2 ∧ Aside0 (tidy_Ops.l1 kq l0 x3_1 x4_2 x4_1 = some r) ∧ Aside0 (kq ≤ k1) ∧ Aside0 (Kd.R kOp 41 w' w.heap.size (fun _ => True) u3 x3_1) ∧ Aside0 (Below w.heap.size w w'))
      case atStart => exact ⟨(x4_1), yE, H', ⟨Nat.le_refl _⟩, ⟨yH HO_3.out⟩, ⟨yB⟩⟩
      case round =>
       clear H'; (try clear p2); (try clear c3); (try clear c5); (try clear c5b0); (try clear p2); obtain ⟨x4_2, rfl, HA, HK2, HO_3, HB⟩ := hrel; cases gk with
       | zero => exact absurd HA.out (by simp [tidy_Ops.l1])
       | succ k2 =>
        have H := HA.out; clear HA; simp only [tidy_Ops.l1] at H
        by_cases c7 : x4_2 < (l0.length : Int)
        ·rw [if_pos c7] at H
         have c7b0 := decide_eq_true c7; clear c7
         (first | rw [c7b0] | (simp only [i64_w, i32_w]; rw [c7b0]) | skip)
         by_cases c8 : 0 ≤ x4_2
         ·rw [if_pos c8] at H
          have c8b0 := decide_eq_true c8; clear c8
          by_cases c9 : ((rd_Op l0 x4_2).f0) = 1
          ·rw [if_pos c9] at H
           have c9b0 := beq_iff_eq.mpr c9; have c9b1 := bne_eq_false_iff_eq.mpr c9; clear c9; have H' := aM H; clear H; have p724 : 0 ≤ (x4_2 : Int) := yO; have q724 : x4_2 < (l0.length : Int) := yO; obtain ⟨ad724, e724, hx724_0, hx724_1, hx724_2⟩ := at_OpB HB.out HR0.out x4_2 p724 q724; cases e724; replace p724 := eq_true p724; replace q724 := eq_true q724
           go_wp2
           go_meet
           case rel => exact ⟨_, (x4_2), yE, H', ⟨by have := HK1.out; have := HK2.out; first | omega | exact Nat.le_refl _⟩, ⟨yH HO_3.out⟩, ⟨yB⟩⟩
          ·rw [if_neg c9] at H
           have c9b0 := beq_eq_false_iff_ne.mpr c9; have c9b1 := bne_iff_ne.mpr c9; have H' := aM H; clear H; have p724 : 0 ≤ (x4_2 : Int) := yO; have q724 : x4_2 < (l0.length : Int) := yO; obtain ⟨ad724, e724, hx724_0, hx724_1, hx724_2⟩ := at_OpB HB.out HR0.out x4_2 p724 q724; cases e724; replace p724 := eq_true p724; replace q724 := eq_true q724
           go_wp2
           go_roundg k2
           case measure => have := HK1.out; have := HK2.out; omega
           case rel => exact ⟨(wrap64 (x4_2 + 1)), yE, H', ⟨by have := HK1.out; have := HK2.out; omega⟩, ⟨yH HO_3.out⟩, ⟨yB⟩⟩
         ·rw [if_neg c8] at H
          exact absurd H (by simp)
        ·rw [if_neg c7] at H
         have c7b0 := decide_eq_false c7; clear c7
         (first | rw [c7b0] | (simp only [i64_w, i32_w]; rw [c7b0]) | skip)
         have H' := aM H; clear H
         go_wp2
         go_meet
         case rel => exact ⟨_, (x4_2), yE, H', ⟨by have := HK1.out; have := HK2.out; first | omega | exact Nat.le_refl _⟩, ⟨yH HO_3.out⟩, ⟨yB⟩⟩
     case rest =>
      clear HC6; (try clear p2); (try clear c3); (try clear c5); (try clear c5b0); (try clear p6); (try clear c7); (try clear c7b0); (try clear p7); (try clear q7); (try clear hx7); (try clear c8); (try clear c8b0); (try clear c9); (try clear c9b0); (try clear c9b1); (try clear hx724_0); (try clear hx724_1); (try clear hx724_2); (try clear p2); (try clear p724); (try clear q724); obtain ⟨kq, x4_5, rfl, HA, HJ5, HO_3, HB⟩ := hcut; cases kq with
      | zero => exact absurd HA.out (by simp [tidy_Ops.j2])
      | succ kj5 =>
       have H := HA.out; clear HA; simp only [tidy_Ops.j2] at H
       by_cases c10 : 0 ≤ x4_1
       ·rw [if_pos c10] at H
        have c10b0 := eq_true c10; have c10b1 := decide_eq_true c10; clear c10
        by_cases c11 : x4_1 ≤ x4_5
        ·rw [if_pos c11] at H
         have c11b0 := eq_true c11; have c11b1 := decide_eq_true c11; clear c11
         by_cases c12 : x4_5 ≤ (l0.length : Int)
         ·rw [if_pos c12] at H
          have c12b0 := eq_true c12; have c12b1 := decide_eq_true c12; clear c12; obtain ⟨y725, hy725⟩ : ∃ y_ : List (Op), y_ = ((l0.take (x4_5 : Int).toNat).drop (x4_1 : Int).toNat) := ⟨_, rfl⟩; replace H : ((tidy_texts_ops_Old.f kj5 y725).bind fun t729 => ((tidy_texts_ops_New.f kj5 ((l0.take (x4_5 : Int).toNat).drop (x4_1 : Int).toNat)).bind fun t736 => ((lcs_Diff.f t729 t736).bind fun t739 => (if x3_1.length + t739.length < 4398046511104 then ((some (x3_1 ++ t739 : List (Op))).bind fun y742 => (if x4_5 < (l0.length : Int) then (if 0 ≤ x4_5 then (if y742.length < 4398046511104 then (tidy_Ops.l0 kj5 l0 (y742 ++ [(⟨(rd_Op l0 x4_5).f0, (rd_Op l0 x4_5).f1, (rd_Op l0 x4_5).f2⟩ : Op)]) (wrap64 (x4_5 + 1))) else (none)) else (none)) else (tidy_Ops.l0 kj5 l0 y742 (wrap64 (x4_5 + 1))))) else (none))))) = some r := yN hy725 H
          have Ny725 := aM hy725; clear hy725; replace H := oB H; obtain ⟨t729, A13, H⟩ := H; have c14b0 := eq_true (yO : 0 ≤ x4_1); have c15b0 := eq_true (yO : x4_1 ≤ x4_5); have c16b0 := eq_true (yO : x4_5 ≤ (l0.length : Int)); obtain ⟨y732, hy732⟩ : ∃ y_ : List (Op), y_ = ((l0.take (x4_5 : Int).toNat).drop (x4_1 : Int).toNat) := ⟨_, rfl⟩; replace H : ((tidy_texts_ops_New.f kj5 y732).bind fun t736 => ((lcs_Diff.f t729 t736).bind fun t739 => (if x3_1.length + t739.length < 4398046511104 then ((some (x3_1 ++ t739 : List (Op))).bind fun y742 => (if x4_5 < (l0.length : Int) then (if 0 ≤ x4_5 then (if y742.length < 4398046511104 then (tidy_Ops.l0 kj5 l0 (y742 ++ [(⟨(rd_Op l0 x4_5).f0, (rd_Op l0 x4_5).f1, (rd_Op l0 x4_5).f2⟩ : Op)]) (wrap64 (x4_5 + 1))) else (none)) else (none)) else (tidy_Ops.l0 kj5 l0 y742 (wrap64 (x4_5 + 1))))) else (none)))) = some r := yN hy732 H
          have Ny732 := aM hy732; clear hy732; replace H := oB H; obtain ⟨t736, A17, H⟩ := H; replace H := oB H; obtain ⟨t739, A18, H⟩ := H
          by_cases c19 : x3_1.length + t739.length < 4398046511104
          ·rw [if_pos c19] at H
           have LMc19 := aM c19; clear c19; replace H := oS H; obtain ⟨y742, Ny742, H⟩ := H
           by_cases c20 : x4_5 < (l0.length : Int)
           ·rw [if_pos c20] at H
            have c20b0 := decide_eq_true c20; clear c20
            by_cases c21 : 0 ≤ x4_5
            ·rw [if_pos c21] at H
             have c21b0 := decide_eq_true c21; clear c21
             by_cases c22 : y742.length < 4398046511104
             ·rw [if_pos c22] at H
              have LMc22 := aM c22; clear c22; obtain ⟨y746, hy746⟩ : ∃ y_ : List (Op), y_ = (y742 ++ [(⟨(rd_Op l0 x4_5).f0, (rd_Op l0 x4_5).f1, (rd_Op l0 x4_5).f2⟩ : Op)]) := ⟨_, rfl⟩; replace H : (tidy_Ops.l0 kj5 l0 y746 (wrap64 (x4_5 + 1))) = some r := yN hy746 H
              have Ny746 := aM hy746; clear hy746; have H' := aM H; clear H
              try go_wp2
              replace HO_3 := aM (Kd.R_drew HO_3.out); replace HB := aM (below_drew1 HB.out); have q24 : (x4_5 : Int) ≤ ((l0.length : Int) : Int) := yO; obtain ⟨i024, hi024, _, hsz24, _⟩ := info_parts info41; have hroom24 : l0.length ≤ c0 := HC0.out; have hC24 : Kd.C kOp _ A0 l0.length l0 := HR0.out; have ql24 : (x4_1 : Int) ≤ (x4_5 : Int) := yO; have q024 : (0 : Int) ≤ (x4_1 : Int) := yO; have hcut24 := cut_mid (P := Try.prog) 22 41 .i64 .i64 Try.underlying22 hi024 3 hsz24 A0 l0.length c0 x4_1 x4_5 q024 ql24 q24 hroom24; have hr24 := Kd.C_mid (lo := (x4_1 : Int).toNat) (hi := (x4_5 : Int).toNat) (c := c0) hC24 (by omega) (by omega) hroom24; obtain ⟨A24, hA24⟩ : ∃ A1, A1 = (if c0 = (x4_1 : Int).toNat then A0 else (A0 : Option Addr).map (·.add ((x4_1 : Int).toNat * 3))) := ⟨_, rfl⟩; obtain ⟨c24, hc24⟩ : ∃ c1, c1 = c0 - (x4_1 : Int).toNat := ⟨_, rfl⟩; have hy24 : y725.length = (x4_5 : Int).toNat - (x4_1 : Int).toNat := (by rw [Ny725.out, lD, lT] <;> omega); rw [show ((l0).take (x4_5 : Int).toNat).drop (x4_1 : Int).toNat = y725 from Ny725.out.symm] at hr24; replace hr24 : Kd.C kOp _ A24 y725.length y725 := (by rw [hA24]; exact hr24); rw [← hy24, ← hA24, ← hc24] at hcut24; have HR728 := aM hr24; have HC728 := aM (show y725.length ≤ c24 from by rw [hy24, hc24]; exact Nat.sub_le_sub_right (Nat.le_trans (by omega) hroom24) _); have KC24 := aM hc24; clear hr24 hC24 hroom24 hi024 hsz24 hc24; have KY24 := aM hy24; have KA24 := aM hA24; clear hy24 hA24; replace q24 := eq_true q24; have q25 : (x4_5 : Int) ≤ ((l0.length : Int) : Int) := yO; obtain ⟨i025, hi025, _, hsz25, _⟩ := info_parts info41; have hroom25 : l0.length ≤ c0 := HC0.out; have hC25 : Kd.C kOp _ A0 l0.length l0 := HR0.out; have ql25 : (x4_1 : Int) ≤ (x4_5 : Int) := yO; have q025 : (0 : Int) ≤ (x4_1 : Int) := yO; have hcut25 := cut_mid (P := Try.prog) 22 41 .i64 .i64 Try.underlying22 hi025 3 hsz25 A0 l0.length c0 x4_1 x4_5 q025 ql25 q25 hroom25; have hr25 := Kd.C_mid (lo := (x4_1 : Int).toNat) (hi := (x4_5 : Int).toNat) (c := c0) hC25 (by omega) (by omega) hroom25; obtain ⟨A25, hA25⟩ : ∃ A1, A1 = (if c0 = (x4_1 : Int).toNat then A0 else (A0 : Option Addr).map (·.add ((x4_1 : Int).toNat * 3))) := ⟨_, rfl⟩; obtain ⟨c25, hc25⟩ : ∃ c1, c1 = c0 - (x4_1 : Int).toNat := ⟨_, rfl⟩; have hy25 : y732.length = (x4_5 : Int).toNat - (x4_1 : Int).toNat := (by rw [Ny732.out, lD, lT] <;> omega); rw [show ((l0).take (x4_5 : Int).toNat).drop (x4_1 : Int).toNat = y732 from Ny732.out.symm] at hr25; replace hr25 : Kd.C kOp _ A25 y732.length y732 := (by rw [hA25]; exact hr25); rw [← hy25, ← hA25, ← hc25] at hcut25; have HR735 := aM hr25; have HC735 := aM (show y732.length ≤ c25 from by rw [hy25, hc25]; exact Nat.sub_le_sub_right (Nat.le_trans (by omega) hroom25) _); have KC25 := aM hc25; clear hr25 hC25 hroom25 hi025 hsz25 hc25; have KY25 := aM hy25; have KA25 := aM hA25; clear hy25 hA25; replace q25 := eq_true q25
              refine start_ (n := 14) (S := fun w' => True) (ds := []) #[false, false, false, false, false, false, false, false, false, false, false, false, false, false] yK rfl rfl trivial (fun hHeld => ?_); refine with_tabW tidy_Ops.tab10 tidy_Ops.bits10 (fun HT_ HW_ => ?_)
              generalize wc.drew = w23 at HO_3 HB HR728 HR735 hHeld ⊢
              refine pure_ (i := 0) (N := some 30) (v := ?_) (a' := ?_) #[true, false, false, false, false, false, false, false, false, false, false, false, false, false] rfl rfl (any_of HT_.out yK) yI (Or.inl ⟨by rfl, ?_⟩) ?_ ?_
              rotate_left; exact yP1; rotate_left; exact yP2
              refine pure_ (i := 1) (N := some 31) (v := ?_) (a' := ?_) #[true, true, false, false, false, false, false, false, false, false, false, false, false, false] rfl rfl (any_of HT_.out yK) yI (Or.inl ⟨by rfl, ?_⟩) ?_ ?_
              rotate_left; exact yP1; rotate_left; exact yP2
              refine pure_ (i := 2) (N := some 32) (v := ?_) (a' := ?_) #[true, true, true, false, false, false, false, false, false, false, false, false, false, false] rfl rfl (any_of HT_.out yK) yI (Or.inl ⟨by rfl, ?_⟩) ?_ ?_
              rotate_left; exact yP1; rotate_left; exact yP2
              refine pure_ (i := 3) (N := some 33) (v := ?_) (a' := ?_) #[true, true, true, true, false, false, false, false, false, false, false, false, false, false] rfl rfl (any_of HT_.out yK) yI (Or.inl ⟨by rfl, ?_⟩) ?_ ?_
              rotate_left; exact yP1; rotate_left; exact yP2
              refine pure_ (i := 4) (N := some 34) (v := ?_) (a' := ?_) #[true, true, true, true, true, false, false, false, false, false, false, false, false, false] rfl rfl (any_of HT_.out yK) yI (Or.inl ⟨by rfl, ?_⟩) ?_ ?_
              rotate_left; exact yP1; rotate_left; exact yP2
              refine pure_ (i := 6) (N := some 36) (v := ?_) (a' := ?_) #[true, true, true, true, true, false, true, false, false, false, false, false, false, false] rfl rfl (any_of HT_.out yK) yI (Or.inl ⟨by rfl, ?_⟩) ?_ ?_
              rotate_left; exact yP1; rotate_left; exact yP2
              refine pure_ (i := 7) (N := some 37) (v := ?_) (a' := ?_) #[true, true, true, true, true, false, true, true, false, false, false, false, false, false] rfl rfl (any_of HT_.out yK) yI (Or.inl ⟨by rfl, ?_⟩) ?_ ?_
              rotate_left; exact yP1; rotate_left; exact yP2
              refine pure_ (i := 8) (N := some 38) (v := ?_) (a' := ?_) #[true, true, true, true, true, false, true, true, true, false, false, false, false, false] rfl rfl (any_of HT_.out yK) yI (Or.inl ⟨by rfl, ?_⟩) ?_ ?_
              rotate_left; exact yP1; rotate_left; exact yP2
              refine pure_ (i := 9) (N := some 39) (v := ?_) (a' := ?_) #[true, true, true, true, true, false, true, true, true, true, false, false, false, false] rfl rfl (any_of HT_.out yK) yI (Or.inl ⟨by rfl, ?_⟩) ?_ ?_
              rotate_left; exact yP1; rotate_left; exact yP2
              refine one_ (i := 5) (N := some 35) #[true, true, true, true, true, true, true, true, true, true, false, false, false, false] rfl rfl (one_of HT_.out yK) (by decide) (fun K hK => ?_)
              refine goes_ Try.func75 yK rfl #[.slice A24 y725.length c24, .func (.func 65) #[] #[]] (by rfl) rfl rfl yG ?_
              with_reducible refine (tidy_texts_ops_Old.calls kj5 _ _ y725  t729 _ ?side1 ?side2 A13.out).mono ?_
              (case side1 => repeat (first | exact (Kd.C_below HR728.out HB.out) | (with_reducible first | refine Kd.C_alloc ?_ _ | refine Kd.C_drewN ?_ _ | refine Kd.C_drew ?_)))
              (case side2 => exact HC728.out)
              rintro e w26 ⟨v730, rfl, ho0, hb⟩
              refine ⟨_, rfl, ?_⟩
              replace HO_3 := aM (Kd.R_below (yH HO_3.out) hb); have HO731 := aM (Kd.R_lower ho0 yW); replace HB := aM (below_step yB hb)
              (try clear hb)
              (try clear hb2)
              (try clear hk)
              (try clear hi)
              (try clear ho0)
              refine hK.out _ _ trivial (fun hHeld => ?_)
              clear hK K
              refine norm_ (a' := ?_) ?_ ?_
              rotate_left
              ·show Act.put _ (some 35) _ = _
               simp only [Act.put, sI, sZ, sS, i64_w, i32_w]
               rfl
              refine one_ (i := 10) (N := some 40) #[true, true, true, true, true, true, true, true, true, true, true, false, false, false] rfl rfl (one_of HT_.out yK) (by decide) (fun K hK => ?_)
              refine goes_ Try.func75 yK rfl #[.slice A24 y725.length c24, .func (.func 66) #[] #[]] (by rfl) rfl rfl yG ?_
              refine calls_of_args (args' := #[.slice A25 y732.length c25, .func (.func 66) #[] #[]]) (by rw [show A25 = A24 from KA25.out.trans KA24.out.symm, show c25 = c24 from KC25.out.trans KC24.out.symm, show y732 = y725 from Ny732.out.trans Ny725.out.symm]) ?_
              with_reducible refine (tidy_texts_ops_New.calls kj5 _ _ y732  t736 _ ?side1 ?side2 A17.out).mono ?_
              (case side1 => repeat (first | exact (Kd.C_below HR735.out HB.out) | (with_reducible first | refine Kd.C_alloc ?_ _ | refine Kd.C_drewN ?_ _ | refine Kd.C_drew ?_)))
              (case side2 => exact HC735.out)
              rintro e w27 ⟨v737, rfl, ho0, hb⟩
              refine ⟨_, rfl, ?_⟩
              replace HO_3 := aM (Kd.R_below (yH HO_3.out) hb); have HO738 := aM (Kd.R_lower (Kd.R_new' ho0 (Kd.R_lt (yH HO731.out))) yW); replace HO731 := aM (Kd.R_elder' (yH HO731.out) (Kd.R_base ho0) hb); replace HB := aM (below_step yB hb)
              (try clear hb)
              (try clear hb2)
              (try clear hk)
              (try clear hi)
              (try clear ho0)
              obtain ⟨Ao28, co28, eo28⟩ := Kd.R_slice HO731.out
              (first | subst eo28 | (injection eo28 with f1_ f2_ f3_; have f4_ := f1_.symm; have f5_ := f3_.symm; clear f1_ f2_ f3_; subst f4_; subst f5_))
              obtain ⟨Ao29, co29, eo29⟩ := Kd.R_slice HO738.out
              (first | subst eo29 | (injection eo29 with f1_ f2_ f3_; have f4_ := f1_.symm; have f5_ := f3_.symm; clear f1_ f2_ f3_; subst f4_; subst f5_))
              refine hK.out _ _ trivial (fun hHeld => ?_)
              clear hK K
              refine norm_ (a' := ?_) ?_ ?_
              rotate_left
              ·show Act.put _ (some 40) _ = _
               simp only [Act.put, sI, sZ, sS, i64_w, i32_w]
               rfl
              refine one_ (i := 11) (N := some 41) #[true, true, true, true, true, true, true, true, true, true, true, true, false, false] rfl rfl (one_of HT_.out yK) (by decide) (fun K hK => ?_)
              refine goes_ Try.func74 yK rfl #[.slice Ao28 t729.length co28, .slice Ao29 t736.length co29] (by rfl) rfl rfl yG ?_
              with_reducible refine (lcs_Diff.calls _ _ t729 _ _ t736 t739 _ ?side1 ?side2 ?side3 ?side4 A18.out).mono ?_
              (case side1 => repeat (first | exact (Kd.R_reads' HO731.out).2.2 | (with_reducible first | refine Kd.C_alloc ?_ _ | refine Kd.C_drewN ?_ _ | refine Kd.C_drew ?_)))
              (case side2 => exact (Kd.R_reads' HO731.out).2.1)
              (case side3 => repeat (first | exact (Kd.R_reads' HO738.out).2.2 | (with_reducible first | refine Kd.C_alloc ?_ _ | refine Kd.C_drewN ?_ _ | refine Kd.C_drew ?_)))
              (case side4 => exact (Kd.R_reads' HO738.out).2.1)
              rintro e w30 ⟨v740, rfl, ho0, hb⟩
              refine ⟨_, rfl, ?_⟩
              replace HO731 := aM (Kd.R_below (yH HO731.out) hb); replace HO738 := aM (Kd.R_below (yH HO738.out) hb); have HO741 := aM (Kd.R_lower (Kd.R_new' ho0 (Kd.R_lt (yH HO_3.out))) yW); replace HO_3 := aM (Kd.R_elder' (yH HO_3.out) (Kd.R_base ho0) hb); replace HB := aM (below_step yB hb)
              (try clear hb)
              (try clear hb2)
              (try clear hk)
              (try clear hi)
              (try clear ho0)
              obtain ⟨Ao32, co32, eo32⟩ := Kd.R_slice HO741.out
              (first | subst eo32 | (injection eo32 with f1_ f2_ f3_; have f4_ := f1_.symm; have f5_ := f3_.symm; clear f1_ f2_ f3_; subst f4_; subst f5_))
              refine hK.out _ _ trivial (fun hHeld => ?_)
              clear hK K
              refine norm_ (a' := ?_) ?_ ?_
              rotate_left
              ·show Act.put _ (some 41) _ = _
               simp only [Act.put, sI, sZ, sS, i64_w, i32_w]
               rfl
              refine one_ (i := 12) (N := some 42) #[true, true, true, true, true, true, true, true, true, true, true, true, true, false] rfl rfl (one_of HT_.out yK) (by decide) (fun K hK => ?_)
              refine Kd.R_append_rows_step kOp (w0 := w) w.heap.size (by rfl) (.tmp 30) (.tmp 41) 22 41 (.agg #[(.int .i64 0), (.int .i64 0), (.string ⟨#[]⟩)]) 32 rfl Try.underlying22 info41 rfl (by decide) (by omega) u3 x3_1 t739 _ _ _ (fun k_ => some k_ ≠ (.slice Ao32 t739.length co32 : Value).ownBlock) (fun _ => False) rfl rfl ?aO ?aR (fun _ _ h => h) (fun _ h => h.elim) ?aF ?aB ?aS ?aL ?_
              (case aR => repeat (first | exact (Kd.R_reads' HO741.out).2.2 | (with_reducible first | refine Kd.C_alloc ?_ _ | refine Kd.C_drewN ?_ _ | refine Kd.C_drew ?_)))
              (case aB => exact yB)
              (case aF => exact (fun k_ hk => Kd.fresh' (Kd.R_lt (yH HO741.out)) k_ hk))
              (case aO => exact (by (with_reducible repeat (first | apply Kd.R_alloc | apply Kd.R_drewN | apply Kd.R_drew)); exact Kd.R_mono HO_3.out (fun _ hk => hk.2)))
              (case aS => exact yW)
              (case aL => have := LMc19.out; omega)
              intro v743 w31 ho hb hg hat
              rw [← Ny742.out] at ho; have n0_ := aM (Kd.R_over' (yH HO731.out) (Kd.R_typed (yH HO_3.out)) (by decide) hg); have n1_ := aM (Kd.R_over' (yH HO738.out) (Kd.R_typed (yH HO_3.out)) (by decide) hg); have n2_ := aM (Kd.R_after (ok := (fun _ => True)) (yH HO741.out) hg hat); have n3_ := aM (hb); have n4_ := aM (ho); clear HO731; clear HO738; clear HO741; clear HB; clear HO_3; have HO731 := n0_; have HO738 := n1_; have HO741 := n2_; have HB := n3_; have HO744 := n4_; clear n0_ n1_ n2_ n3_ n4_; clear ho hb hg hat
              refine hK.out _ _ trivial (fun hHeld => ?_)
              clear hK K
              refine norm_ (a' := ?_) ?_ ?_
              rotate_left
              ·show Act.put _ (some 42) _ = _
               simp only [Act.put, sI, sZ, sS, i64_w, i32_w]
               rfl
              refine pure_ (i := 13) (N := some 3) (v := ?_) (a' := ?_) #[true, true, true, true, true, true, true, true, true, true, true, true, true, true] rfl rfl (any_of HT_.out yK) yI (Or.inl ⟨by rfl, ?_⟩) ?_ ?_
              rotate_left; exact yP1; rotate_left; exact yP2
              refine done_ (done_of HT_.out yK) ?_
              have p745 : 0 ≤ (x4_5 : Int) := yO; have q745 : x4_5 < (l0.length : Int) := yO; obtain ⟨ad745, e745, hx745_0, hx745_1, hx745_2⟩ := at_OpB HB.out HR0.out x4_5 p745 q745; cases e745; replace p745 := eq_true p745; replace q745 := eq_true q745
              try go_wp2_with (first | ((with_reducible refine gate_builtin (b := .append) (xs := #[.tmp 47, .tmp 52]) rfl ?_); at_builtin; refine Kd.R_append kOp (w0 := w) w.heap.size rfl (.tmp 47) (.tmp 52) 22 41 (.agg #[(.int .i64 0), (.int .i64 0), (.string ⟨#[]⟩)]) 32 rfl Try.underlying22 info41 rfl (by decide) (by omega) v743 y742 (⟨(rd_Op l0 x4_5).f0, (rd_Op l0 x4_5).f1, (rd_Op l0 x4_5).f2⟩ : Op) [.int .i64 ((rd_Op l0 x4_5).f0), .int .i64 ((rd_Op l0 x4_5).f1), .string ((rd_Op l0 x4_5).f2)] (fun k_ => some k_ ≠ (.slice Ao32 t739.length co32 : Value).ownBlock) (fun _ => False) rfl rfl ?aP (fun _ hk => hk.elim) ?aF ?aO ?aB ?aS ?aL ?_; (case aP => exact kOp_mkM _ _ _ (⟨(rd_Op l0 x4_5).f0, (rd_Op l0 x4_5).f1, (rd_Op l0 x4_5).f2⟩ : Op)); (case aB => exact yB); (case aF => exact (fun k_ hk => Kd.fresh' (Kd.R_lt (yH HO741.out)) k_ hk)); (case aO => exact (yH HO744.out)); (case aS => exact yW); (case aL => have := LMc22.out; omega); intro v747 w33 ho hb hg hat; rw [← Ny746.out] at ho; have n0_ := aM (Kd.R_over' (yH HO731.out) (Kd.R_typed (yH HO744.out)) (by decide) hg); have n1_ := aM (Kd.R_over' (yH HO738.out) (Kd.R_typed (yH HO744.out)) (by decide) hg); have n2_ := aM (Kd.R_after (ok := (fun _ => True)) (yH HO741.out) hg hat); have n3_ := aM (hb); have n4_ := aM (ho); clear HO731; clear HO738; clear HO741; clear HB; clear HO744; have HO731 := n0_; have HO738 := n1_; have HO741 := n2_; have HB := n3_; have HO748 := n4_; clear n0_ n1_ n2_ n3_ n4_; clear ho hb hg hat))
              go_roundg kj5
              case measure => have := HK1.out; have := HJ5.out; omega
              case rel => exact ⟨(y746), (wrap64 (x4_5 + 1)), yE, H', ⟨by have := HK1.out; have := HJ5.out; omega⟩, ⟨by (with_reducible repeat (first | apply Kd.R_alloc | apply Kd.R_drewN | apply Kd.R_drew)); exact Kd.R_mono HO748.out (fun _ hk => trivial)⟩, ⟨yB⟩⟩
             ·rw [if_neg c22] at H
              exact absurd H (by simp)
            ·rw [if_neg c21] at H
             exact absurd H (by simp)
           ·rw [if_neg c20] at H
            have c20b0 := decide_eq_false c20; clear c20; have H' := aM H; clear H
            try go_wp2
            replace HO_3 := aM (Kd.R_drew HO_3.out); replace HB := aM (below_drew1 HB.out); have q35 : (x4_5 : Int) ≤ ((l0.length : Int) : Int) := yO; obtain ⟨i035, hi035, _, hsz35, _⟩ := info_parts info41; have hroom35 : l0.length ≤ c0 := HC0.out; have hC35 : Kd.C kOp _ A0 l0.length l0 := HR0.out; have ql35 : (x4_1 : Int) ≤ (x4_5 : Int) := yO; have q035 : (0 : Int) ≤ (x4_1 : Int) := yO; have hcut35 := cut_mid (P := Try.prog) 22 41 .i64 .i64 Try.underlying22 hi035 3 hsz35 A0 l0.length c0 x4_1 x4_5 q035 ql35 q35 hroom35; have hr35 := Kd.C_mid (lo := (x4_1 : Int).toNat) (hi := (x4_5 : Int).toNat) (c := c0) hC35 (by omega) (by omega) hroom35; obtain ⟨A35, hA35⟩ : ∃ A1, A1 = (if c0 = (x4_1 : Int).toNat then A0 else (A0 : Option Addr).map (·.add ((x4_1 : Int).toNat * 3))) := ⟨_, rfl⟩; obtain ⟨c35, hc35⟩ : ∃ c1, c1 = c0 - (x4_1 : Int).toNat := ⟨_, rfl⟩; have hy35 : y725.length = (x4_5 : Int).toNat - (x4_1 : Int).toNat := (by rw [Ny725.out, lD, lT] <;> omega); rw [show ((l0).take (x4_5 : Int).toNat).drop (x4_1 : Int).toNat = y725 from Ny725.out.symm] at hr35; replace hr35 : Kd.C kOp _ A35 y725.length y725 := (by rw [hA35]; exact hr35); rw [← hy35, ← hA35, ← hc35] at hcut35; have HR728 := aM hr35; have HC728 := aM (show y725.length ≤ c35 from by rw [hy35, hc35]; exact Nat.sub_le_sub_right (Nat.le_trans (by omega) hroom35) _); have KC35 := aM hc35; clear hr35 hC35 hroom35 hi035 hsz35 hc35; have KY35 := aM hy35; have KA35 := aM hA35; clear hy35 hA35; replace q35 := eq_true q35; have q36 : (x4_5 : Int) ≤ ((l0.length : Int) : Int) := yO; obtain ⟨i036, hi036, _, hsz36, _⟩ := info_parts info41; have hroom36 : l0.length ≤ c0 := HC0.out; have hC36 : Kd.C kOp _ A0 l0.length l0 := HR0.out; have ql36 : (x4_1 : Int) ≤ (x4_5 : Int) := yO; have q036 : (0 : Int) ≤ (x4_1 : Int) := yO; have hcut36 := cut_mid (P := Try.prog) 22 41 .i64 .i64 Try.underlying22 hi036 3 hsz36 A0 l0.length c0 x4_1 x4_5 q036 ql36 q36 hroom36; have hr36 := Kd.C_mid (lo := (x4_1 : Int).toNat) (hi := (x4_5 : Int).toNat) (c := c0) hC36 (by omega) (by omega) hroom36; obtain ⟨A36, hA36⟩ : ∃ A1, A1 = (if c0 = (x4_1 : Int).toNat then A0 else (A0 : Option Addr).map (·.add ((x4_1 : Int).toNat * 3))) := ⟨_, rfl⟩; obtain ⟨c36, hc36⟩ : ∃ c1, c1 = c0 - (x4_1 : Int).toNat := ⟨_, rfl⟩; have hy36 : y732.length = (x4_5 : Int).toNat - (x4_1 : Int).toNat := (by rw [Ny732.out, lD, lT] <;> omega); rw [show ((l0).take (x4_5 : Int).toNat).drop (x4_1 : Int).toNat = y732 from Ny732.out.symm] at hr36; replace hr36 : Kd.C kOp _ A36 y732.length y732 := (by rw [hA36]; exact hr36); rw [← hy36, ← hA36, ← hc36] at hcut36; have HR735 := aM hr36; have HC735 := aM (show y732.length ≤ c36 from by rw [hy36, hc36]; exact Nat.sub_le_sub_right (Nat.le_trans (by omega) hroom36) _); have KC36 := aM hc36; clear hr36 hC36 hroom36 hi036 hsz36 hc36; have KY36 := aM hy36; have KA36 := aM hA36; clear hy36 hA36; replace q36 := eq_true q36
            refine start_ (n := 14) (S := fun w' => True) (ds := []) #[false, false, false, false, false, false, false, false, false, false, false, false, false, false] yK rfl rfl trivial (fun hHeld => ?_); refine with_tabW tidy_Ops.tab10 tidy_Ops.bits10 (fun HT_ HW_ => ?_)
            generalize wc.drew = w34 at HO_3 HB HR728 HR735 hHeld ⊢
            refine pure_ (i := 0) (N := some 30) (v := ?_) (a' := ?_) #[true, false, false, false, false, false, false, false, false, false, false, false, false, false] rfl rfl (any_of HT_.out yK) yI (Or.inl ⟨by rfl, ?_⟩) ?_ ?_
            rotate_left; exact yP1; rotate_left; exact yP2
            refine pure_ (i := 1) (N := some 31) (v := ?_) (a' := ?_) #[true, true, false, false, false, false, false, false, false, false, false, false, false, false] rfl rfl (any_of HT_.out yK) yI (Or.inl ⟨by rfl, ?_⟩) ?_ ?_
            rotate_left; exact yP1; rotate_left; exact yP2
            refine pure_ (i := 2) (N := some 32) (v := ?_) (a' := ?_) #[true, true, true, false, false, false, false, false, false, false, false, false, false, false] rfl rfl (any_of HT_.out yK) yI (Or.inl ⟨by rfl, ?_⟩) ?_ ?_
            rotate_left; exact yP1; rotate_left; exact yP2
            refine pure_ (i := 3) (N := some 33) (v := ?_) (a' := ?_) #[true, true, true, true, false, false, false, false, false, false, false, false, false, false] rfl rfl (any_of HT_.out yK) yI (Or.inl ⟨by rfl, ?_⟩) ?_ ?_
            rotate_left; exact yP1; rotate_left; exact yP2
            refine pure_ (i := 4) (N := some 34) (v := ?_) (a' := ?_) #[true, true, true, true, true, false, false, false, false, false, false, false, false, false] rfl rfl (any_of HT_.out yK) yI (Or.inl ⟨by rfl, ?_⟩) ?_ ?_
            rotate_left; exact yP1; rotate_left; exact yP2
            refine pure_ (i := 6) (N := some 36) (v := ?_) (a' := ?_) #[true, true, true, true, true, false, true, false, false, false, false, false, false, false] rfl rfl (any_of HT_.out yK) yI (Or.inl ⟨by rfl, ?_⟩) ?_ ?_
            rotate_left; exact yP1; rotate_left; exact yP2
            refine pure_ (i := 7) (N := some 37) (v := ?_) (a' := ?_) #[true, true, true, true, true, false, true, true, false, false, false, false, false, false] rfl rfl (any_of HT_.out yK) yI (Or.inl ⟨by rfl, ?_⟩) ?_ ?_
            rotate_left; exact yP1; rotate_left; exact yP2
            refine pure_ (i := 8) (N := some 38) (v := ?_) (a' := ?_) #[true, true, true, true, true, false, true, true, true, false, false, false, false, false] rfl rfl (any_of HT_.out yK) yI (Or.inl ⟨by rfl, ?_⟩) ?_ ?_
            rotate_left; exact yP1; rotate_left; exact yP2
            refine pure_ (i := 9) (N := some 39) (v := ?_) (a' := ?_) #[true, true, true, true, true, false, true, true, true, true, false, false, false, false] rfl rfl (any_of HT_.out yK) yI (Or.inl ⟨by rfl, ?_⟩) ?_ ?_
            rotate_left; exact yP1; rotate_left; exact yP2
            refine one_ (i := 5) (N := some 35) #[true, true, true, true, true, true, true, true, true, true, false, false, false, false] rfl rfl (one_of HT_.out yK) (by decide) (fun K hK => ?_)
            refine goes_ Try.func75 yK rfl #[.slice A35 y725.length c35, .func (.func 65) #[] #[]] (by rfl) rfl rfl yG ?_
            with_reducible refine (tidy_texts_ops_Old.calls kj5 _ _ y725  t729 _ ?side1 ?side2 A13.out).mono ?_
            (case side1 => repeat (first | exact (Kd.C_below HR728.out HB.out) | (with_reducible first | refine Kd.C_alloc ?_ _ | refine Kd.C_drewN ?_ _ | refine Kd.C_drew ?_)))
            (case side2 => exact HC728.out)
            rintro e w37 ⟨v730, rfl, ho0, hb⟩
            refine ⟨_, rfl, ?_⟩
            replace HO_3 := aM (Kd.R_below (yH HO_3.out) hb); have HO731 := aM (Kd.R_lower ho0 yW); replace HB := aM (below_step yB hb)
            (try clear hb)
            (try clear hb2)
            (try clear hk)
            (try clear hi)
            (try clear ho0)
            refine hK.out _ _ trivial (fun hHeld => ?_)
            clear hK K
            refine norm_ (a' := ?_) ?_ ?_
            rotate_left
            ·show Act.put _ (some 35) _ = _
             simp only [Act.put, sI, sZ, sS, i64_w, i32_w]
             rfl
            refine one_ (i := 10) (N := some 40) #[true, true, true, true, true, true, true, true, true, true, true, false, false, false] rfl rfl (one_of HT_.out yK) (by decide) (fun K hK => ?_)
            refine goes_ Try.func75 yK rfl #[.slice A35 y725.length c35, .func (.func 66) #[] #[]] (by rfl) rfl rfl yG ?_
            refine calls_of_args (args' := #[.slice A36 y732.length c36, .func (.func 66) #[] #[]]) (by rw [show A36 = A35 from KA36.out.trans KA35.out.symm, show c36 = c35 from KC36.out.trans KC35.out.symm, show y732 = y725 from Ny732.out.trans Ny725.out.symm]) ?_
            with_reducible refine (tidy_texts_ops_New.calls kj5 _ _ y732  t736 _ ?side1 ?side2 A17.out).mono ?_
            (case side1 => repeat (first | exact (Kd.C_below HR735.out HB.out) | (with_reducible first | refine Kd.C_alloc ?_ _ | refine Kd.C_drewN ?_ _ | refine Kd.C_drew ?_)))
            (case side2 => exact HC735.out)
            rintro e w38 ⟨v737, rfl, ho0, hb⟩
            refine ⟨_, rfl, ?_⟩
            replace HO_3 := aM (Kd.R_below (yH HO_3.out) hb); have HO738 := aM (Kd.R_lower (Kd.R_new' ho0 (Kd.R_lt (yH HO731.out))) yW); replace HO731 := aM (Kd.R_elder' (yH HO731.out) (Kd.R_base ho0) hb); replace HB := aM (below_step yB hb)
            (try clear hb)
            (try clear hb2)
            (try clear hk)
            (try clear hi)
            (try clear ho0)
            obtain ⟨Ao39, co39, eo39⟩ := Kd.R_slice HO731.out
            (first | subst eo39 | (injection eo39 with f1_ f2_ f3_; have f4_ := f1_.symm; have f5_ := f3_.symm; clear f1_ f2_ f3_; subst f4_; subst f5_))
            obtain ⟨Ao40, co40, eo40⟩ := Kd.R_slice HO738.out
            (first | subst eo40 | (injection eo40 with f1_ f2_ f3_; have f4_ := f1_.symm; have f5_ := f3_.symm; clear f1_ f2_ f3_; subst f4_; subst f5_))
            refine hK.out _ _ trivial (fun hHeld => ?_)
            clear hK K
            refine norm_ (a' := ?_) ?_ ?_
            rotate_left
            ·show Act.put _ (some 40) _ = _
             simp only [Act.put, sI, sZ, sS, i64_w, i32_w]
             rfl
            refine one_ (i := 11) (N := some 41) #[true, true, true, true, true, true, true, true, true, true, true, true, false, false] rfl rfl (one_of HT_.out yK) (by decide) (fun K hK => ?_)
            refine goes_ Try.func74 yK rfl #[.slice Ao39 t729.length co39, .slice Ao40 t736.length co40] (by rfl) rfl rfl yG ?_
            with_reducible refine (lcs_Diff.calls _ _ t729 _ _ t736 t739 _ ?side1 ?side2 ?side3 ?side4 A18.out).mono ?_
            (case side1 => repeat (first | exact (Kd.R_reads' HO731.out).2.2 | (with_reducible first | refine Kd.C_alloc ?_ _ | refine Kd.C_drewN ?_ _ | refine Kd.C_drew ?_)))
            (case side2 => exact (Kd.R_reads' HO731.out).2.1)
            (case side3 => repeat (first | exact (Kd.R_reads' HO738.out).2.2 | (with_reducible first | refine Kd.C_alloc ?_ _ | refine Kd.C_drewN ?_ _ | refine Kd.C_drew ?_)))
            (case side4 => exact (Kd.R_reads' HO738.out).2.1)
            rintro e w41 ⟨v740, rfl, ho0, hb⟩
            refine ⟨_, rfl, ?_⟩
            replace HO731 := aM (Kd.R_below (yH HO731.out) hb); replace HO738 := aM (Kd.R_below (yH HO738.out) hb); have HO741 := aM (Kd.R_lower (Kd.R_new' ho0 (Kd.R_lt (yH HO_3.out))) yW); replace HO_3 := aM (Kd.R_elder' (yH HO_3.out) (Kd.R_base ho0) hb); replace HB := aM (below_step yB hb)
            (try clear hb)
            (try clear hb2)
            (try clear hk)
            (try clear hi)
            (try clear ho0)
            obtain ⟨Ao43, co43, eo43⟩ := Kd.R_slice HO741.out
            (first | subst eo43 | (injection eo43 with f1_ f2_ f3_; have f4_ := f1_.symm; have f5_ := f3_.symm; clear f1_ f2_ f3_; subst f4_; subst f5_))
            refine hK.out _ _ trivial (fun hHeld => ?_)
            clear hK K
            refine norm_ (a' := ?_) ?_ ?_
            rotate_left
            ·show Act.put _ (some 41) _ = _
             simp only [Act.put, sI, sZ, sS, i64_w, i32_w]
             rfl
            refine one_ (i := 12) (N := some 42) #[true, true, true, true, true, true, true, true, true, true, true, true, true, false] rfl rfl (one_of HT_.out yK) (by decide) (fun K hK => ?_)
            refine Kd.R_append_rows_step kOp (w0 := w) w.heap.size (by rfl) (.tmp 30) (.tmp 41) 22 41 (.agg #[(.int .i64 0), (.int .i64 0), (.string ⟨#[]⟩)]) 32 rfl Try.underlying22 info41 rfl (by decide) (by omega) u3 x3_1 t739 _ _ _ (fun k_ => some k_ ≠ (.slice Ao43 t739.length co43 : Value).ownBlock) (fun _ => False) rfl rfl ?aO ?aR (fun _ _ h => h) (fun _ h => h.elim) ?aF ?aB ?aS ?aL ?_
            (case aR => repeat (first | exact (Kd.R_reads' HO741.out).2.2 | (with_reducible first | refine Kd.C_alloc ?_ _ | refine Kd.C_drewN ?_ _ | refine Kd.C_drew ?_)))
            (case aB => exact yB)
            (case aF => exact (fun k_ hk => Kd.fresh' (Kd.R_lt (yH HO741.out)) k_ hk))
            (case aO => exact (by (with_reducible repeat (first | apply Kd.R_alloc | apply Kd.R_drewN | apply Kd.R_drew)); exact Kd.R_mono HO_3.out (fun _ hk => hk.2)))
            (case aS => exact yW)
            (case aL => have := LMc19.out; omega)
            intro v743 w42 ho hb hg hat
            rw [← Ny742.out] at ho; have n0_ := aM (Kd.R_over' (yH HO731.out) (Kd.R_typed (yH HO_3.out)) (by decide) hg); have n1_ := aM (Kd.R_over' (yH HO738.out) (Kd.R_typed (yH HO_3.out)) (by decide) hg); have n2_ := aM (Kd.R_after (ok := (fun _ => True)) (yH HO741.out) hg hat); have n3_ := aM (hb); have n4_ := aM (ho); clear HO731; clear HO738; clear HO741; clear HB; clear HO_3; have HO731 := n0_; have HO738 := n1_; have HO741 := n2_; have HB := n3_; have HO744 := n4_; clear n0_ n1_ n2_ n3_ n4_; clear ho hb hg hat
            refine hK.out _ _ trivial (fun hHeld => ?_)
            clear hK K
            refine norm_ (a' := ?_) ?_ ?_
            rotate_left
            ·show Act.put _ (some 42) _ = _
             simp only [Act.put, sI, sZ, sS, i64_w, i32_w]
             rfl
            refine pure_ (i := 13) (N := some 3) (v := ?_) (a' := ?_) #[true, true, true, true, true, true, true, true, true, true, true, true, true, true] rfl rfl (any_of HT_.out yK) yI (Or.inl ⟨by rfl, ?_⟩) ?_ ?_
            rotate_left; exact yP1; rotate_left; exact yP2
            refine done_ (done_of HT_.out yK) ?_
            try go_wp2
            go_roundg kj5
            case measure => have := HK1.out; have := HJ5.out; omega
            case rel => exact ⟨(y742), (wrap64 (x4_5 + 1)), yE, H', ⟨by have := HK1.out; have := HJ5.out; omega⟩, ⟨by (with_reducible repeat (first | apply Kd.R_alloc | apply Kd.R_drewN | apply Kd.R_drew)); exact Kd.R_mono HO744.out (fun _ hk => trivial)⟩, ⟨yB⟩⟩
          ·rw [if_neg c19] at H
           exact absurd H (by simp)
         ·rw [if_neg c12] at H
          exact absurd H (by simp)
        ·rw [if_neg c11] at H
         exact absurd H (by simp)
       ·rw [if_neg c10] at H
        exact absurd H (by simp)
    ·rw [if_neg c5] at H
     have c5b0 := decide_eq_false c5; clear c5; replace H := oB H; obtain ⟨t721, A44, H⟩ := H; obtain rfl := Option.some.inj H; obtain ⟨Ao45, co45, eo45⟩ := Kd.R_slice HO_3.out; subst eo45
     go_wp2_with (first | ((with_reducible refine gate_callee (f := 39) rfl ?_); refine goesL_ (some 55) rfl rfl Try.func39 yK rfl #[.slice Ao45 x3_1.length co45] rfl yG ?_; (with_reducible refine (ops_Norm.calls k1 _ _ x3_1 t721 _ (yC (Kd.R_reads' HO_3.out).2.2) ((Kd.R_reads' HO_3.out).2.1) A44.out).mono ?_); rintro e w46 ⟨v722, rfl, ho0, hb⟩; refine ⟨_, rfl, ?_⟩; have HO723 := aM (Kd.R_lower (Kd.R_new' ho0 (Kd.R_lt (yH HO_3.out))) yW); replace HO_3 := aM (Kd.R_elder' (yH HO_3.out) (Kd.R_base ho0) hb); replace HB := aM (below_step yB hb); clear hb ho0))
     go_ret
     exact ⟨_, by first | rfl | (simp [errW_none, errW_some] <;> rfl) | (simp [*, errW_none, errW_some] <;> rfl), by (with_reducible repeat (first | apply Kd.R_alloc | apply Kd.R_drewN | apply Kd.R_drew)); exact Kd.R_mono HO723.out (fun _ hk => trivial), yB⟩
 ·replace c3 := Bool.eq_false_iff.mpr c3
  subst c3; replace H := iF H; obtain rfl := Option.some.inj H
  go_enter Try.func51, Try.ntmps51
  go_wp2_with (first | ((with_reducible refine gate_callee (f := 35) rfl ?_); refine goesL_ (some 7) rfl rfl Try.func35 yK rfl #[.slice A0 l0.length c0] rfl yG ?_; (with_reducible refine (ops_Right.calls k _ _ l0 false _ (yC HR0.out) HC0.out A2.out).mono ?_); rintro e w47 ⟨rfl, hb⟩; refine ⟨_, rfl, ?_⟩; replace HB := aM (below_step yB hb); clear hb))
  go_ret
  exact ⟨_, by first | rfl | (simp [errW_none, errW_some] <;> rfl) | (simp [*, errW_none, errW_some] <;> rfl), by first | exact Kd.R_nil _ _ _ _ _ | exact Kd.N_nil _ _ _ _ _ | exact Kd.V_nil _ _ _ _ _ | exact Kd.Q_nil _ _ _ _ _ | exact Kd.S_nil _ _ _ _ _, yB⟩
set_option maxHeartbeats 8000000 in
set_option maxRecDepth 100000 in
theorem inter_Ops.calls (k : Nat) (A0 : Option Addr) (c0 : Nat) (l0 : List (Op)) (A1 : Option Addr) (c1 : Nat) (l1 : List (Op)) (r1 : List (Op)) (r2 : Bool) (w : World) (hr0 : Kd.C kOp w A0 l0.length l0) (hc0 : l0.length ≤ c0) (hr1 : Kd.C kOp w A1 l1.length l1) (hc1 : l1.length ≤ c1) (h : inter_Ops.f k l0 l1 = some (r1, r2)) :
  Calls Try.prog 30 #[.slice A0 l0.length c0, .slice A1 l1.length c1] w fun e w' => ∃ v0_ : Value, e = .returned (.tuple #[v0_, .bool r2]) ∧ Kd.R kOp 41 w' w.heap.size (fun _ => True) v0_ r1 ∧ Below w.heap.size w w' := by
 have HR0 := aM hr0
 have HC0 := aM hc0
 clear hr0 hc0
 have HR1 := aM hr1
 have HC1 := aM hc1
 clear hr1 hc1
 have HB := aM (Below.refl w.heap.size w)
 have H : ((ops_Right.f k l0).bind fun t749 => (if t749 = true then ((flip_Ops.f k l0).bind fun t750 => ((compose_Then.f k t750 l1).bind fun bt753 => (if bt753.2 = true then ((tidy_Ops.f k bt753.1).bind fun t757 => (some (t757, true))) else (some (([] : List (Op)), false))))) else (some (([] : List (Op)), false)))) = some (r1, r2) := h
 clear h
 replace H := bS.mp H
 obtain ⟨t749, A30, H⟩ := H
 replace H : (if t749 = true then ((flip_Ops.f k l0).bind fun t750 => ((compose_Then.f k t750 l1).bind fun bt753 => (if bt753.2 = true then ((tidy_Ops.f k bt753.1).bind fun t757 => (some (t757, true))) else (some (([] : List (Op)), false))))) else (some (([] : List (Op)), false))) = some (r1, r2) := H
 have A3 := aM A30
 clear A30
 by_cases c4 : t749 = true
 ·subst c4
  replace H := iT H; replace H := bS.mp H; obtain ⟨t750, A50, H⟩ := H; replace H : ((compose_Then.f k t750 l1).bind fun bt753 => (if bt753.2 = true then ((tidy_Ops.f k bt753.1).bind fun t757 => (some (t757, true))) else (some (([] : List (Op)), false)))) = some (r1, r2) := H; have A5 := aM A50; clear A50; replace H := bS.mp H; obtain ⟨⟨t753, t754⟩, A60, H⟩ := H; replace H : (if t754 = true then ((tidy_Ops.f k t753).bind fun t757 => (some (t757, true))) else (some (([] : List (Op)), false))) = some (r1, r2) := H; have A6 := aM A60; clear A60
  by_cases c7 : t754 = true
  ·subst c7
   replace H := iT H; replace H := bS.mp H; obtain ⟨t757, A80, H⟩ := H; replace H : (some (t757, true)) = some (r1, r2) := H; have A8 := aM A80; clear A80; simp only [Option.some.injEq, Prod.mk.injEq] at H; obtain ⟨rfl, rfl⟩ := H
   go_enter Try.func30, Try.ntmps30
   go_wp2_with (first | ((with_reducible refine gate_callee (f := 35) rfl ?_); refine goesL_ (some 9) rfl rfl Try.func35 yK rfl #[.slice A0 l0.length c0] rfl yG ?_; (with_reducible refine (ops_Right.calls k _ _ l0 true _ (yC HR0.out) HC0.out A3.out).mono ?_); rintro e w9 ⟨rfl, hb⟩; refine ⟨_, rfl, ?_⟩; replace HB := aM (below_step yB hb); clear hb) | ((with_reducible refine gate_callee (f := 50) rfl ?_); refine goesL_ (some 13) rfl rfl Try.func50 yK rfl #[.slice A0 l0.length c0] rfl yG ?_; (with_reducible refine (flip_Ops.calls k _ _ l0 t750 _ (yC (Kd.C_below HR0.out HB.out)) HC0.out A5.out).mono ?_); rintro e w10 ⟨v751, rfl, ho0, hb⟩; refine ⟨_, rfl, ?_⟩; have HO752 := aM (Kd.R_lower ho0 yW); replace HB := aM (below_step yB hb); clear hb ho0; obtain ⟨Ao11, co11, eo11⟩ := Kd.R_slice HO752.out; subst eo11) | ((with_reducible refine gate_callee (f := 49) rfl ?_); refine goesL_ (some 15) rfl rfl Try.func49 yK rfl #[.slice Ao11 t750.length co11, .slice A1 l1.length c1] rfl yG ?_; (with_reducible refine (compose_Then.calls k _ _ t750 _ _ l1 t753 true _ (yC (Kd.R_reads' HO752.out).2.2) ((Kd.R_reads' HO752.out).2.1) (yC (Kd.C_below HR1.out HB.out)) HC1.out A6.out).mono ?_); rintro e w12 ⟨v755, rfl, ho0, hb⟩; refine ⟨_, rfl, ?_⟩; have HO756 := aM (Kd.R_lower (Kd.R_new' ho0 (Kd.R_lt (yH HO752.out))) yW); replace HO752 := aM (Kd.R_elder' (yH HO752.out) (Kd.R_base ho0) hb); replace HB := aM (below_step yB hb); clear hb ho0; obtain ⟨Ao13, co13, eo13⟩ := Kd.R_slice HO756.out; subst eo13) | ((with_reducible refine gate_callee (f := 51) rfl ?_); refine goesL_ (some 21) rfl rfl Try.func51 yK rfl #[.slice Ao13 t753.length co13] rfl yG ?_; (with_reducible refine (tidy_Ops.calls k _ _ t753 t757 _ (yC (Kd.R_reads' HO756.out).2.2) ((Kd.R_reads' HO756.out).2.1) A8.out).mono ?_); rintro e w14 ⟨v758, rfl, ho0, hb⟩; refine ⟨_, rfl, ?_⟩; have HO759 := aM (Kd.R_lower (Kd.R_new' (Kd.R_new' ho0 (Kd.R_lt (yH HO752.out))) (Kd.R_lt (yH HO756.out))) yW); replace HO752 := aM (Kd.R_elder' (yH HO752.out) (Kd.R_base ho0) hb); replace HO756 := aM (Kd.R_elder' (yH HO756.out) (Kd.R_base ho0) hb); replace HB := aM (below_step yB hb); clear hb ho0))
   go_ret2
   exact ⟨_, by first | rfl | (simp [errW_none, errW_some] <;> rfl) | (simp [*, errW_none, errW_some] <;> rfl), by (with_reducible repeat (first | apply Kd.R_alloc | apply Kd.R_drewN | apply Kd.R_drew)); exact Kd.R_mono HO759.out (fun _ hk => trivial), yB⟩
  ·replace c7 := Bool.eq_false_iff.mpr c7
   subst c7; replace H := iF H; simp only [Option.some.injEq, Prod.mk.injEq] at H; obtain ⟨rfl, rfl⟩ := H
   go_enter Try.func30, Try.ntmps30
   go_wp2_with (first | ((with_reducible refine gate_callee (f := 35) rfl ?_); refine goesL_ (some 9) rfl rfl Try.func35 yK rfl #[.slice A0 l0.length c0] rfl yG ?_; (with_reducible refine (ops_Right.calls k _ _ l0 true _ (yC HR0.out) HC0.out A3.out).mono ?_); rintro e w15 ⟨rfl, hb⟩; refine ⟨_, rfl, ?_⟩; replace HB := aM (below_step yB hb); clear hb) | ((with_reducible refine gate_callee (f := 50) rfl ?_); refine goesL_ (some 13) rfl rfl Try.func50 yK rfl #[.slice A0 l0.length c0] rfl yG ?_; (with_reducible refine (flip_Ops.calls k _ _ l0 t750 _ (yC (Kd.C_below HR0.out HB.out)) HC0.out A5.out).mono ?_); rintro e w16 ⟨v751, rfl, ho0, hb⟩; refine ⟨_, rfl, ?_⟩; have HO752 := aM (Kd.R_lower ho0 yW); replace HB := aM (below_step yB hb); clear hb ho0; obtain ⟨Ao17, co17, eo17⟩ := Kd.R_slice HO752.out; subst eo17) | ((with_reducible refine gate_callee (f := 49) rfl ?_); refine goesL_ (some 15) rfl rfl Try.func49 yK rfl #[.slice Ao17 t750.length co17, .slice A1 l1.length c1] rfl yG ?_; (with_reducible refine (compose_Then.calls k _ _ t750 _ _ l1 t753 false _ (yC (Kd.R_reads' HO752.out).2.2) ((Kd.R_reads' HO752.out).2.1) (yC (Kd.C_below HR1.out HB.out)) HC1.out A6.out).mono ?_); rintro e w18 ⟨v755, rfl, ho0, hb⟩; refine ⟨_, rfl, ?_⟩; have HO756 := aM (Kd.R_lower (Kd.R_new' ho0 (Kd.R_lt (yH HO752.out))) yW); replace HO752 := aM (Kd.R_elder' (yH HO752.out) (Kd.R_base ho0) hb); replace HB := aM (below_step yB hb); clear hb ho0))
   go_ret2
   exact ⟨_, by first | rfl | (simp [errW_none, errW_some] <;> rfl) | (simp [*, errW_none, errW_some] <;> rfl), by first | exact Kd.R_nil _ _ _ _ _ | exact Kd.N_nil _ _ _ _ _ | exact Kd.V_nil _ _ _ _ _ | exact Kd.Q_nil _ _ _ _ _ | exact Kd.S_nil _ _ _ _ _, yB⟩
 ·replace c4 := Bool.eq_false_iff.mpr c4
  subst c4; replace H := iF H; simp only [Option.some.injEq, Prod.mk.injEq] at H; obtain ⟨rfl, rfl⟩ := H
  go_enter Try.func30, Try.ntmps30
  go_wp2_with (first | ((with_reducible refine gate_callee (f := 35) rfl ?_); refine goesL_ (some 9) rfl rfl Try.func35 yK rfl #[.slice A0 l0.length c0] rfl yG ?_; (with_reducible refine (ops_Right.calls k _ _ l0 false _ (yC HR0.out) HC0.out A3.out).mono ?_); rintro e w19 ⟨rfl, hb⟩; refine ⟨_, rfl, ?_⟩; replace HB := aM (below_step yB hb); clear hb))
  go_ret2
  exact ⟨_, by first | rfl | (simp [errW_none, errW_some] <;> rfl) | (simp [*, errW_none, errW_some] <;> rfl), by first | exact Kd.R_nil _ _ _ _ _ | exact Kd.N_nil _ _ _ _ _ | exact Kd.V_nil _ _ _ _ _ | exact Kd.Q_nil _ _ _ _ _ | exact Kd.S_nil _ _ _ _ _, yB⟩
set_option maxHeartbeats 8000000 in
set_option maxRecDepth 100000 in
theorem patchworklaw14_alive.calls (k : Nat)  (r : Bool) (w : World) (h : patchworklaw14_alive.f k  = some r) :
  Calls Try.prog 29 #[] w fun e w' => e = .returned (.bool r) ∧ Below w.heap.size w w' := by
 have hu41 := Try.underlying41
 have HB := aM (Below.refl w.heap.size w)
 have H : ((inter_Ops.f k ([] : List (Op)) ([] : List (Op))).bind fun bt760 => ((inter_Ops.f k (([(⟨4, 0, (⟨#[97, 10]⟩ : ByteArray)⟩ : Op)] : List (Op))) (([(⟨4, 0, (⟨#[98, 10]⟩ : ByteArray)⟩ : Op)] : List (Op)))).bind fun bt770 => (if (bt760.1.length : Int) = 0 then (if bt760.2 = true then (if (bt770.1.length : Int) = 2 then (if bt770.2 = true then (if 0 < (bt770.1.length : Int) then (some (((rd_Op bt770.1 0).f0) == 3)) else (none)) else (some false)) else (some false)) else (some false)) else (some false)))) = some r := h
 clear h
 replace H := bS.mp H
 obtain ⟨⟨t760, t761⟩, A10, H⟩ := H
 replace H : ((inter_Ops.f k (([(⟨4, 0, (⟨#[97, 10]⟩ : ByteArray)⟩ : Op)] : List (Op))) (([(⟨4, 0, (⟨#[98, 10]⟩ : ByteArray)⟩ : Op)] : List (Op)))).bind fun bt770 => (if (t760.length : Int) = 0 then (if t761 = true then (if (bt770.1.length : Int) = 2 then (if bt770.2 = true then (if 0 < (bt770.1.length : Int) then (some (((rd_Op bt770.1 0).f0) == 3)) else (none)) else (some false)) else (some false)) else (some false)) else (some false))) = some r := H
 have A1 := aM A10
 clear A10
 obtain ⟨y764, hy764⟩ : ∃ y_ : List (Op), y_ = (([(⟨4, 0, (⟨#[97, 10]⟩ : ByteArray)⟩ : Op)] : List (Op))) := ⟨_, rfl⟩
 replace H : ((inter_Ops.f k y764 (([(⟨4, 0, (⟨#[98, 10]⟩ : ByteArray)⟩ : Op)] : List (Op)))).bind fun bt770 => (if (t760.length : Int) = 0 then (if t761 = true then (if (bt770.1.length : Int) = 2 then (if bt770.2 = true then (if 0 < (bt770.1.length : Int) then (some (((rd_Op bt770.1 0).f0) == 3)) else (none)) else (some false)) else (some false)) else (some false)) else (some false))) = some r := yN hy764 H
 have Ny764 := aM hy764
 clear hy764
 obtain ⟨y767, hy767⟩ : ∃ y_ : List (Op), y_ = (([(⟨4, 0, (⟨#[98, 10]⟩ : ByteArray)⟩ : Op)] : List (Op))) := ⟨_, rfl⟩
 replace H : ((inter_Ops.f k y764 y767).bind fun bt770 => (if (t760.length : Int) = 0 then (if t761 = true then (if (bt770.1.length : Int) = 2 then (if bt770.2 = true then (if 0 < (bt770.1.length : Int) then (some (((rd_Op bt770.1 0).f0) == 3)) else (none)) else (some false)) else (some false)) else (some false)) else (some false))) = some r := yN hy767 H
 have Ny767 := aM hy767
 clear hy767
 replace H := bS.mp H
 obtain ⟨⟨t770, t771⟩, A20, H⟩ := H
 replace H : (if (t760.length : Int) = 0 then (if t761 = true then (if (t770.length : Int) = 2 then (if t771 = true then (if 0 < (t770.length : Int) then (some (((rd_Op t770 0).f0) == 3)) else (none)) else (some false)) else (some false)) else (some false)) else (some false)) = some r := H
 have A2 := aM A20
 clear A20
 by_cases c3 : (t760.length : Int) = 0
 ·rw [if_pos c3] at H
  have c3b0 := beq_iff_eq.mpr c3; have c3b1 := bne_eq_false_iff_eq.mpr c3; clear c3
  by_cases c4 : t761 = true
  ·subst c4
   replace H := iT H
   by_cases c5 : (t770.length : Int) = 2
   ·rw [if_pos c5] at H
    have c5b0 := beq_iff_eq.mpr c5; have c5b1 := bne_eq_false_iff_eq.mpr c5; clear c5
    by_cases c6 : t771 = true
    ·subst c6
     replace H := iT H
     by_cases c7 : 0 < (t770.length : Int)
     ·rw [if_pos c7] at H
      have c7b0 := decide_eq_true c7; have c7b1 : decide (0 < t770.length) = true := decide_eq_true (by omega); clear c7; obtain rfl := Option.some.inj H
      go_enter Try.func29, Try.ntmps29
      go_wp2_with (first | ((with_reducible refine gate_callee (f := 30) rfl ?_); refine goesL_ (some 6) rfl rfl Try.func30 yK rfl #[.slice none 0 0, .slice none 0 0] rfl yG ?_; (refine (inter_Ops.calls k _ _ ([] : List (Op)) _ _ ([] : List (Op)) t760 true _ ?side1 ?side2 ?side3 ?side4 A1.out).mono ?_); (case side1 => exact Kd.C_nil _ _); (case side2 => exact Nat.le_refl _); (case side3 => exact Kd.C_nil _ _); (case side4 => exact Nat.le_refl _); rintro e w8 ⟨v762, rfl, ho0, hb⟩; refine ⟨_, rfl, ?_⟩; have HO763 := aM (Kd.R_lower ho0 yW); replace HB := aM (below_step yB hb); clear hb ho0) | ((with_reducible refine gate_dst (N := 11) rfl ?_); (try (refine gate_guard (by rfl) ?_; dsimp only)); refine Kd.R_lit kOp _ 41 ?hg (N := 11) ?hd (xs := ([(⟨4, 0, (⟨#[97, 10]⟩ : ByteArray)⟩ : Op)] : List (Op))) (inner := [.int .i64 4, .int .i64 0, .string (⟨#[97, 10]⟩ : ByteArray)]) (ok := fun _ => True) (okp := fun _ => True) ?hr ?hp (fun _ hk => hk) trivial (Below.refl _ _) (Nat.le_refl _) (by simp) ?_; (case hd => rfl); (case hg => rfl); (case hr => first | (go_simp; done) | (go_simp; rfl)); (case hp => exact (Reps.c3 (show Kd.M kOp _ _ _ (⟨4, 0, (⟨#[97, 10]⟩ : ByteArray)⟩ : Op) [.int .i64 4, .int .i64 0, .string (⟨#[97, 10]⟩ : ByteArray)] from (kOp_mkM _ _ _ (⟨4, 0, (⟨#[97, 10]⟩ : ByteArray)⟩ : Op) )) (Reps.none _ _))); intro v765 w9 ho10 hb hg_ hnew_; clear hg_ hnew_; (first | rw [← Ny764.out] at ho10 | (simp only [Int.reduceToNat] at ho10; rw [← Ny764.out] at ho10)); have HO766 := aM (Kd.R_lower (Kd.R_new' ho10 (Kd.R_lt (yH HO763.out))) yW); replace HO763 := aM (Kd.R_elder' (yH HO763.out) (Kd.R_base ho10) hb); replace HB := aM (below_step yB hb); clear hb ho10) | ((with_reducible refine gate_dst (N := 13) rfl ?_); (try (refine gate_guard (by rfl) ?_; dsimp only)); refine Kd.R_lit kOp _ 41 ?hg (N := 13) ?hd (xs := ([(⟨4, 0, (⟨#[98, 10]⟩ : ByteArray)⟩ : Op)] : List (Op))) (inner := [.int .i64 4, .int .i64 0, .string (⟨#[98, 10]⟩ : ByteArray)]) (ok := fun _ => True) (okp := fun _ => True) ?hr ?hp (fun _ hk => hk) trivial (Below.refl _ _) (Nat.le_refl _) (by simp) ?_; (case hd => rfl); (case hg => rfl); (case hr => first | (go_simp; done) | (go_simp; rfl)); (case hp => exact (Reps.c3 (show Kd.M kOp _ _ _ (⟨4, 0, (⟨#[98, 10]⟩ : ByteArray)⟩ : Op) [.int .i64 4, .int .i64 0, .string (⟨#[98, 10]⟩ : ByteArray)] from (kOp_mkM _ _ _ (⟨4, 0, (⟨#[98, 10]⟩ : ByteArray)⟩ : Op) )) (Reps.none _ _))); intro v768 w11 ho12 hb hg_ hnew_; clear hg_ hnew_; (first | rw [← Ny767.out] at ho12 | (simp only [Int.reduceToNat] at ho12; rw [← Ny767.out] at ho12)); have HO769 := aM (Kd.R_lower (Kd.R_new' (Kd.R_new' ho12 (Kd.R_lt (yH HO763.out))) (Kd.R_lt (yH HO766.out))) yW); replace HO763 := aM (Kd.R_elder' (yH HO763.out) (Kd.R_base ho12) hb); replace HO766 := aM (Kd.R_elder' (yH HO766.out) (Kd.R_base ho12) hb); replace HB := aM (below_step yB hb); clear hb ho12; obtain ⟨Ao13, co13, eo13⟩ := Kd.R_slice HO766.out; subst eo13; obtain ⟨Ao14, co14, eo14⟩ := Kd.R_slice HO769.out; subst eo14) | ((with_reducible refine gate_callee (f := 30) rfl ?_); refine goesL_ (some 14) rfl rfl Try.func30 yK rfl #[.slice Ao13 y764.length co13, .slice Ao14 y767.length co14] rfl yG ?_; (with_reducible refine (inter_Ops.calls k _ _ y764 _ _ y767 t770 true _ (yC (Kd.R_reads' HO766.out).2.2) ((Kd.R_reads' HO766.out).2.1) (yC (Kd.R_reads' HO769.out).2.2) ((Kd.R_reads' HO769.out).2.1) A2.out).mono ?_); rintro e w15 ⟨v772, rfl, ho0, hb⟩; refine ⟨_, rfl, ?_⟩; have HO773 := aM (Kd.R_lower (Kd.R_new' (Kd.R_new' (Kd.R_new' ho0 (Kd.R_lt (yH HO763.out))) (Kd.R_lt (yH HO766.out))) (Kd.R_lt (yH HO769.out))) yW); replace HO763 := aM (Kd.R_elder' (yH HO763.out) (Kd.R_base ho0) hb); replace HO766 := aM (Kd.R_elder' (yH HO766.out) (Kd.R_base ho0) hb); replace HO769 := aM (Kd.R_elder' (yH HO769.out) (Kd.R_base ho0) hb); replace HB := aM (below_step yB hb); clear hb ho0; obtain ⟨Ao16, co16, eo16⟩ := Kd.R_slice HO763.out; subst eo16; obtain ⟨Ao17, co17, eo17⟩ := Kd.R_slice HO773.out; subst eo17; have p774 : 0 ≤ (0 : Int) := (by omega); have q774 : 0 < (t770.length : Int) := yO; obtain ⟨ad774, e774, hx774_0, hx774_1, hx774_2⟩ := at_Op (Kd.R_reads' HO773.out).2.2 0 p774 q774; cases e774; have qi774 : (0 < t770.length) = True := eq_true (by omega); (try rw [show ((0 : Int)).toNat = 0 from rfl] at hx774_0); (try rw [show 0 * 3 = 0 from rfl] at hx774_0); (try rw [Addr.add_zero'] at hx774_0); (try rw [show ((0 : Int)).toNat = 0 from rfl] at hx774_1); (try rw [show 0 * 3 = 0 from rfl] at hx774_1); (try rw [Addr.add_zero'] at hx774_1); (try rw [show ((0 : Int)).toNat = 0 from rfl] at hx774_2); (try rw [show 0 * 3 = 0 from rfl] at hx774_2); (try rw [Addr.add_zero'] at hx774_2); replace p774 := eq_true p774; replace q774 := eq_true q774))
      go_ret
      exact ⟨yE2, yB⟩
     ·rw [if_neg c7] at H
      exact absurd H (by simp)
    ·replace c6 := Bool.eq_false_iff.mpr c6
     subst c6; replace H := iF H; obtain rfl := Option.some.inj H
     go_enter Try.func29, Try.ntmps29
     go_wp2_with (first | ((with_reducible refine gate_callee (f := 30) rfl ?_); refine goesL_ (some 6) rfl rfl Try.func30 yK rfl #[.slice none 0 0, .slice none 0 0] rfl yG ?_; (refine (inter_Ops.calls k _ _ ([] : List (Op)) _ _ ([] : List (Op)) t760 true _ ?side1 ?side2 ?side3 ?side4 A1.out).mono ?_); (case side1 => exact Kd.C_nil _ _); (case side2 => exact Nat.le_refl _); (case side3 => exact Kd.C_nil _ _); (case side4 => exact Nat.le_refl _); rintro e w18 ⟨v762, rfl, ho0, hb⟩; refine ⟨_, rfl, ?_⟩; have HO763 := aM (Kd.R_lower ho0 yW); replace HB := aM (below_step yB hb); clear hb ho0) | ((with_reducible refine gate_dst (N := 11) rfl ?_); (try (refine gate_guard (by rfl) ?_; dsimp only)); refine Kd.R_lit kOp _ 41 ?hg (N := 11) ?hd (xs := ([(⟨4, 0, (⟨#[97, 10]⟩ : ByteArray)⟩ : Op)] : List (Op))) (inner := [.int .i64 4, .int .i64 0, .string (⟨#[97, 10]⟩ : ByteArray)]) (ok := fun _ => True) (okp := fun _ => True) ?hr ?hp (fun _ hk => hk) trivial (Below.refl _ _) (Nat.le_refl _) (by simp) ?_; (case hd => rfl); (case hg => rfl); (case hr => first | (go_simp; done) | (go_simp; rfl)); (case hp => exact (Reps.c3 (show Kd.M kOp _ _ _ (⟨4, 0, (⟨#[97, 10]⟩ : ByteArray)⟩ : Op) [.int .i64 4, .int .i64 0, .string (⟨#[97, 10]⟩ : ByteArray)] from (kOp_mkM _ _ _ (⟨4, 0, (⟨#[97, 10]⟩ : ByteArray)⟩ : Op) )) (Reps.none _ _))); intro v765 w19 ho20 hb hg_ hnew_; clear hg_ hnew_; (first | rw [← Ny764.out] at ho20 | (simp only [Int.reduceToNat] at ho20; rw [← Ny764.out] at ho20)); have HO766 := aM (Kd.R_lower (Kd.R_new' ho20 (Kd.R_lt (yH HO763.out))) yW); replace HO763 := aM (Kd.R_elder' (yH HO763.out) (Kd.R_base ho20) hb); replace HB := aM (below_step yB hb); clear hb ho20) | ((with_reducible refine gate_dst (N := 13) rfl ?_); (try (refine gate_guard (by rfl) ?_; dsimp only)); refine Kd.R_lit kOp _ 41 ?hg (N := 13) ?hd (xs := ([(⟨4, 0, (⟨#[98, 10]⟩ : ByteArray)⟩ : Op)] : List (Op))) (inner := [.int .i64 4, .int .i64 0, .string (⟨#[98, 10]⟩ : ByteArray)]) (ok := fun _ => True) (okp := fun _ => True) ?hr ?hp (fun _ hk => hk) trivial (Below.refl _ _) (Nat.le_refl _) (by simp) ?_; (case hd => rfl); (case hg => rfl); (case hr => first | (go_simp; done) | (go_simp; rfl)); (case hp => exact (Reps.c3 (show Kd.M kOp _ _ _ (⟨4, 0, (⟨#[98, 10]⟩ : ByteArray)⟩ : Op) [.int .i64 4, .int .i64 0, .string (⟨#[98, 10]⟩ : ByteArray)] from (kOp_mkM _ _ _ (⟨4, 0, (⟨#[98, 10]⟩ : ByteArray)⟩ : Op) )) (Reps.none _ _))); intro v768 w21 ho22 hb hg_ hnew_; clear hg_ hnew_; (first | rw [← Ny767.out] at ho22 | (simp only [Int.reduceToNat] at ho22; rw [← Ny767.out] at ho22)); have HO769 := aM (Kd.R_lower (Kd.R_new' (Kd.R_new' ho22 (Kd.R_lt (yH HO763.out))) (Kd.R_lt (yH HO766.out))) yW); replace HO763 := aM (Kd.R_elder' (yH HO763.out) (Kd.R_base ho22) hb); replace HO766 := aM (Kd.R_elder' (yH HO766.out) (Kd.R_base ho22) hb); replace HB := aM (below_step yB hb); clear hb ho22; obtain ⟨Ao23, co23, eo23⟩ := Kd.R_slice HO766.out; subst eo23; obtain ⟨Ao24, co24, eo24⟩ := Kd.R_slice HO769.out; subst eo24) | ((with_reducible refine gate_callee (f := 30) rfl ?_); refine goesL_ (some 14) rfl rfl Try.func30 yK rfl #[.slice Ao23 y764.length co23, .slice Ao24 y767.length co24] rfl yG ?_; (with_reducible refine (inter_Ops.calls k _ _ y764 _ _ y767 t770 false _ (yC (Kd.R_reads' HO766.out).2.2) ((Kd.R_reads' HO766.out).2.1) (yC (Kd.R_reads' HO769.out).2.2) ((Kd.R_reads' HO769.out).2.1) A2.out).mono ?_); rintro e w25 ⟨v772, rfl, ho0, hb⟩; refine ⟨_, rfl, ?_⟩; have HO773 := aM (Kd.R_lower (Kd.R_new' (Kd.R_new' (Kd.R_new' ho0 (Kd.R_lt (yH HO763.out))) (Kd.R_lt (yH HO766.out))) (Kd.R_lt (yH HO769.out))) yW); replace HO763 := aM (Kd.R_elder' (yH HO763.out) (Kd.R_base ho0) hb); replace HO766 := aM (Kd.R_elder' (yH HO766.out) (Kd.R_base ho0) hb); replace HO769 := aM (Kd.R_elder' (yH HO769.out) (Kd.R_base ho0) hb); replace HB := aM (below_step yB hb); clear hb ho0; obtain ⟨Ao26, co26, eo26⟩ := Kd.R_slice HO763.out; subst eo26; obtain ⟨Ao27, co27, eo27⟩ := Kd.R_slice HO773.out; subst eo27))
     go_ret
     exact ⟨yE2, yB⟩
   ·rw [if_neg c5] at H
    have c5b0 := beq_eq_false_iff_ne.mpr c5; have c5b1 := bne_iff_ne.mpr c5; obtain rfl := Option.some.inj H
    go_enter Try.func29, Try.ntmps29
    go_wp2_with (first | ((with_reducible refine gate_callee (f := 30) rfl ?_); refine goesL_ (some 6) rfl rfl Try.func30 yK rfl #[.slice none 0 0, .slice none 0 0] rfl yG ?_; (refine (inter_Ops.calls k _ _ ([] : List (Op)) _ _ ([] : List (Op)) t760 true _ ?side1 ?side2 ?side3 ?side4 A1.out).mono ?_); (case side1 => exact Kd.C_nil _ _); (case side2 => exact Nat.le_refl _); (case side3 => exact Kd.C_nil _ _); (case side4 => exact Nat.le_refl _); rintro e w28 ⟨v762, rfl, ho0, hb⟩; refine ⟨_, rfl, ?_⟩; have HO763 := aM (Kd.R_lower ho0 yW); replace HB := aM (below_step yB hb); clear hb ho0) | ((with_reducible refine gate_dst (N := 11) rfl ?_); (try (refine gate_guard (by rfl) ?_; dsimp only)); refine Kd.R_lit kOp _ 41 ?hg (N := 11) ?hd (xs := ([(⟨4, 0, (⟨#[97, 10]⟩ : ByteArray)⟩ : Op)] : List (Op))) (inner := [.int .i64 4, .int .i64 0, .string (⟨#[97, 10]⟩ : ByteArray)]) (ok := fun _ => True) (okp := fun _ => True) ?hr ?hp (fun _ hk => hk) trivial (Below.refl _ _) (Nat.le_refl _) (by simp) ?_; (case hd => rfl); (case hg => rfl); (case hr => first | (go_simp; done) | (go_simp; rfl)); (case hp => exact (Reps.c3 (show Kd.M kOp _ _ _ (⟨4, 0, (⟨#[97, 10]⟩ : ByteArray)⟩ : Op) [.int .i64 4, .int .i64 0, .string (⟨#[97, 10]⟩ : ByteArray)] from (kOp_mkM _ _ _ (⟨4, 0, (⟨#[97, 10]⟩ : ByteArray)⟩ : Op) )) (Reps.none _ _))); intro v765 w29 ho30 hb hg_ hnew_; clear hg_ hnew_; (first | rw [← Ny764.out] at ho30 | (simp only [Int.reduceToNat] at ho30; rw [← Ny764.out] at ho30)); have HO766 := aM (Kd.R_lower (Kd.R_new' ho30 (Kd.R_lt (yH HO763.out))) yW); replace HO763 := aM (Kd.R_elder' (yH HO763.out) (Kd.R_base ho30) hb); replace HB := aM (below_step yB hb); clear hb ho30) | ((with_reducible refine gate_dst (N := 13) rfl ?_); (try (refine gate_guard (by rfl) ?_; dsimp only)); refine Kd.R_lit kOp _ 41 ?hg (N := 13) ?hd (xs := ([(⟨4, 0, (⟨#[98, 10]⟩ : ByteArray)⟩ : Op)] : List (Op))) (inner := [.int .i64 4, .int .i64 0, .string (⟨#[98, 10]⟩ : ByteArray)]) (ok := fun _ => True) (okp := fun _ => True) ?hr ?hp (fun _ hk => hk) trivial (Below.refl _ _) (Nat.le_refl _) (by simp) ?_; (case hd => rfl); (case hg => rfl); (case hr => first | (go_simp; done) | (go_simp; rfl)); (case hp => exact (Reps.c3 (show Kd.M kOp _ _ _ (⟨4, 0, (⟨#[98, 10]⟩ : ByteArray)⟩ : Op) [.int .i64 4, .int .i64 0, .string (⟨#[98, 10]⟩ : ByteArray)] from (kOp_mkM _ _ _ (⟨4, 0, (⟨#[98, 10]⟩ : ByteArray)⟩ : Op) )) (Reps.none _ _))); intro v768 w31 ho32 hb hg_ hnew_; clear hg_ hnew_; (first | rw [← Ny767.out] at ho32 | (simp only [Int.reduceToNat] at ho32; rw [← Ny767.out] at ho32)); have HO769 := aM (Kd.R_lower (Kd.R_new' (Kd.R_new' ho32 (Kd.R_lt (yH HO763.out))) (Kd.R_lt (yH HO766.out))) yW); replace HO763 := aM (Kd.R_elder' (yH HO763.out) (Kd.R_base ho32) hb); replace HO766 := aM (Kd.R_elder' (yH HO766.out) (Kd.R_base ho32) hb); replace HB := aM (below_step yB hb); clear hb ho32; obtain ⟨Ao33, co33, eo33⟩ := Kd.R_slice HO766.out; subst eo33; obtain ⟨Ao34, co34, eo34⟩ := Kd.R_slice HO769.out; subst eo34) | ((with_reducible refine gate_callee (f := 30) rfl ?_); refine goesL_ (some 14) rfl rfl Try.func30 yK rfl #[.slice Ao33 y764.length co33, .slice Ao34 y767.length co34] rfl yG ?_; (with_reducible refine (inter_Ops.calls k _ _ y764 _ _ y767 t770 t771 _ (yC (Kd.R_reads' HO766.out).2.2) ((Kd.R_reads' HO766.out).2.1) (yC (Kd.R_reads' HO769.out).2.2) ((Kd.R_reads' HO769.out).2.1) A2.out).mono ?_); rintro e w35 ⟨v772, rfl, ho0, hb⟩; refine ⟨_, rfl, ?_⟩; have HO773 := aM (Kd.R_lower (Kd.R_new' (Kd.R_new' (Kd.R_new' ho0 (Kd.R_lt (yH HO763.out))) (Kd.R_lt (yH HO766.out))) (Kd.R_lt (yH HO769.out))) yW); replace HO763 := aM (Kd.R_elder' (yH HO763.out) (Kd.R_base ho0) hb); replace HO766 := aM (Kd.R_elder' (yH HO766.out) (Kd.R_base ho0) hb); replace HO769 := aM (Kd.R_elder' (yH HO769.out) (Kd.R_base ho0) hb); replace HB := aM (below_step yB hb); clear hb ho0; obtain ⟨Ao36, co36, eo36⟩ := Kd.R_slice HO763.out; subst eo36; obtain ⟨Ao37, co37, eo37⟩ := Kd.R_slice HO773.out; subst eo37))
    go_ret
    exact ⟨yE2, yB⟩
  ·replace c4 := Bool.eq_false_iff.mpr c4
   subst c4; replace H := iF H; obtain rfl := Option.some.inj H
   go_enter Try.func29, Try.ntmps29
   go_wp2_with (first | ((with_reducible refine gate_callee (f := 30) rfl ?_); refine goesL_ (some 6) rfl rfl Try.func30 yK rfl #[.slice none 0 0, .slice none 0 0] rfl yG ?_; (refine (inter_Ops.calls k _ _ ([] : List (Op)) _ _ ([] : List (Op)) t760 false _ ?side1 ?side2 ?side3 ?side4 A1.out).mono ?_); (case side1 => exact Kd.C_nil _ _); (case side2 => exact Nat.le_refl _); (case side3 => exact Kd.C_nil _ _); (case side4 => exact Nat.le_refl _); rintro e w38 ⟨v762, rfl, ho0, hb⟩; refine ⟨_, rfl, ?_⟩; have HO763 := aM (Kd.R_lower ho0 yW); replace HB := aM (below_step yB hb); clear hb ho0) | ((with_reducible refine gate_dst (N := 11) rfl ?_); (try (refine gate_guard (by rfl) ?_; dsimp only)); refine Kd.R_lit kOp _ 41 ?hg (N := 11) ?hd (xs := ([(⟨4, 0, (⟨#[97, 10]⟩ : ByteArray)⟩ : Op)] : List (Op))) (inner := [.int .i64 4, .int .i64 0, .string (⟨#[97, 10]⟩ : ByteArray)]) (ok := fun _ => True) (okp := fun _ => True) ?hr ?hp (fun _ hk => hk) trivial (Below.refl _ _) (Nat.le_refl _) (by simp) ?_; (case hd => rfl); (case hg => rfl); (case hr => first | (go_simp; done) | (go_simp; rfl)); (case hp => exact (Reps.c3 (show Kd.M kOp _ _ _ (⟨4, 0, (⟨#[97, 10]⟩ : ByteArray)⟩ : Op) [.int .i64 4, .int .i64 0, .string (⟨#[97, 10]⟩ : ByteArray)] from (kOp_mkM _ _ _ (⟨4, 0, (⟨#[97, 10]⟩ : ByteArray)⟩ : Op) )) (Reps.none _ _))); intro v765 w39 ho40 hb hg_ hnew_; clear hg_ hnew_; (first | rw [← Ny764.out] at ho40 | (simp only [Int.reduceToNat] at ho40; rw [← Ny764.out] at ho40)); have HO766 := aM (Kd.R_lower (Kd.R_new' ho40 (Kd.R_lt (yH HO763.out))) yW); replace HO763 := aM (Kd.R_elder' (yH HO763.out) (Kd.R_base ho40) hb); replace HB := aM (below_step yB hb); clear hb ho40) | ((with_reducible refine gate_dst (N := 13) rfl ?_); (try (refine gate_guard (by rfl) ?_; dsimp only)); refine Kd.R_lit kOp _ 41 ?hg (N := 13) ?hd (xs := ([(⟨4, 0, (⟨#[98, 10]⟩ : ByteArray)⟩ : Op)] : List (Op))) (inner := [.int .i64 4, .int .i64 0, .string (⟨#[98, 10]⟩ : ByteArray)]) (ok := fun _ => True) (okp := fun _ => True) ?hr ?hp (fun _ hk => hk) trivial (Below.refl _ _) (Nat.le_refl _) (by simp) ?_; (case hd => rfl); (case hg => rfl); (case hr => first | (go_simp; done) | (go_simp; rfl)); (case hp => exact (Reps.c3 (show Kd.M kOp _ _ _ (⟨4, 0, (⟨#[98, 10]⟩ : ByteArray)⟩ : Op) [.int .i64 4, .int .i64 0, .string (⟨#[98, 10]⟩ : ByteArray)] from (kOp_mkM _ _ _ (⟨4, 0, (⟨#[98, 10]⟩ : ByteArray)⟩ : Op) )) (Reps.none _ _))); intro v768 w41 ho42 hb hg_ hnew_; clear hg_ hnew_; (first | rw [← Ny767.out] at ho42 | (simp only [Int.reduceToNat] at ho42; rw [← Ny767.out] at ho42)); have HO769 := aM (Kd.R_lower (Kd.R_new' (Kd.R_new' ho42 (Kd.R_lt (yH HO763.out))) (Kd.R_lt (yH HO766.out))) yW); replace HO763 := aM (Kd.R_elder' (yH HO763.out) (Kd.R_base ho42) hb); replace HO766 := aM (Kd.R_elder' (yH HO766.out) (Kd.R_base ho42) hb); replace HB := aM (below_step yB hb); clear hb ho42; obtain ⟨Ao43, co43, eo43⟩ := Kd.R_slice HO766.out; subst eo43; obtain ⟨Ao44, co44, eo44⟩ := Kd.R_slice HO769.out; subst eo44) | ((with_reducible refine gate_callee (f := 30) rfl ?_); refine goesL_ (some 14) rfl rfl Try.func30 yK rfl #[.slice Ao43 y764.length co43, .slice Ao44 y767.length co44] rfl yG ?_; (with_reducible refine (inter_Ops.calls k _ _ y764 _ _ y767 t770 t771 _ (yC (Kd.R_reads' HO766.out).2.2) ((Kd.R_reads' HO766.out).2.1) (yC (Kd.R_reads' HO769.out).2.2) ((Kd.R_reads' HO769.out).2.1) A2.out).mono ?_); rintro e w45 ⟨v772, rfl, ho0, hb⟩; refine ⟨_, rfl, ?_⟩; have HO773 := aM (Kd.R_lower (Kd.R_new' (Kd.R_new' (Kd.R_new' ho0 (Kd.R_lt (yH HO763.out))) (Kd.R_lt (yH HO766.out))) (Kd.R_lt (yH HO769.out))) yW); replace HO763 := aM (Kd.R_elder' (yH HO763.out) (Kd.R_base ho0) hb); replace HO766 := aM (Kd.R_elder' (yH HO766.out) (Kd.R_base ho0) hb); replace HO769 := aM (Kd.R_elder' (yH HO769.out) (Kd.R_base ho0) hb); replace HB := aM (below_step yB hb); clear hb ho0; obtain ⟨Ao46, co46, eo46⟩ := Kd.R_slice HO763.out; subst eo46))
   go_ret
   exact ⟨yE2, yB⟩
 ·rw [if_neg c3] at H
  have c3b0 := beq_eq_false_iff_ne.mpr c3; have c3b1 := bne_iff_ne.mpr c3; have c3b2 : ¬ (t760 = []) := fun h_ => c3 (by rw [h_]; rfl); obtain rfl := Option.some.inj H
  go_enter Try.func29, Try.ntmps29
  go_wp2_with (first | ((with_reducible refine gate_callee (f := 30) rfl ?_); refine goesL_ (some 6) rfl rfl Try.func30 yK rfl #[.slice none 0 0, .slice none 0 0] rfl yG ?_; (refine (inter_Ops.calls k _ _ ([] : List (Op)) _ _ ([] : List (Op)) t760 t761 _ ?side1 ?side2 ?side3 ?side4 A1.out).mono ?_); (case side1 => exact Kd.C_nil _ _); (case side2 => exact Nat.le_refl _); (case side3 => exact Kd.C_nil _ _); (case side4 => exact Nat.le_refl _); rintro e w47 ⟨v762, rfl, ho0, hb⟩; refine ⟨_, rfl, ?_⟩; have HO763 := aM (Kd.R_lower ho0 yW); replace HB := aM (below_step yB hb); clear hb ho0) | ((with_reducible refine gate_dst (N := 11) rfl ?_); (try (refine gate_guard (by rfl) ?_; dsimp only)); refine Kd.R_lit kOp _ 41 ?hg (N := 11) ?hd (xs := ([(⟨4, 0, (⟨#[97, 10]⟩ : ByteArray)⟩ : Op)] : List (Op))) (inner := [.int .i64 4, .int .i64 0, .string (⟨#[97, 10]⟩ : ByteArray)]) (ok := fun _ => True) (okp := fun _ => True) ?hr ?hp (fun _ hk => hk) trivial (Below.refl _ _) (Nat.le_refl _) (by simp) ?_; (case hd => rfl); (case hg => rfl); (case hr => first | (go_simp; done) | (go_simp; rfl)); (case hp => exact (Reps.c3 (show Kd.M kOp _ _ _ (⟨4, 0, (⟨#[97, 10]⟩ : ByteArray)⟩ : Op) [.int .i64 4, .int .i64 0, .string (⟨#[97, 10]⟩ : ByteArray)] from (kOp_mkM _ _ _ (⟨4, 0, (⟨#[97, 10]⟩ : ByteArray)⟩ : Op) )) (Reps.none _ _))); intro v765 w48 ho49 hb hg_ hnew_; clear hg_ hnew_; (first | rw [← Ny764.out] at ho49 | (simp only [Int.reduceToNat] at ho49; rw [← Ny764.out] at ho49)); have HO766 := aM (Kd.R_lower (Kd.R_new' ho49 (Kd.R_lt (yH HO763.out))) yW); replace HO763 := aM (Kd.R_elder' (yH HO763.out) (Kd.R_base ho49) hb); replace HB := aM (below_step yB hb); clear hb ho49) | ((with_reducible refine gate_dst (N := 13) rfl ?_); (try (refine gate_guard (by rfl) ?_; dsimp only)); refine Kd.R_lit kOp _ 41 ?hg (N := 13) ?hd (xs := ([(⟨4, 0, (⟨#[98, 10]⟩ : ByteArray)⟩ : Op)] : List (Op))) (inner := [.int .i64 4, .int .i64 0, .string (⟨#[98, 10]⟩ : ByteArray)]) (ok := fun _ => True) (okp := fun _ => True) ?hr ?hp (fun _ hk => hk) trivial (Below.refl _ _) (Nat.le_refl _) (by simp) ?_; (case hd => rfl); (case hg => rfl); (case hr => first | (go_simp; done) | (go_simp; rfl)); (case hp => exact (Reps.c3 (show Kd.M kOp _ _ _ (⟨4, 0, (⟨#[98, 10]⟩ : ByteArray)⟩ : Op) [.int .i64 4, .int .i64 0, .string (⟨#[98, 10]⟩ : ByteArray)] from (kOp_mkM _ _ _ (⟨4, 0, (⟨#[98, 10]⟩ : ByteArray)⟩ : Op) )) (Reps.none _ _))); intro v768 w50 ho51 hb hg_ hnew_; clear hg_ hnew_; (first | rw [← Ny767.out] at ho51 | (simp only [Int.reduceToNat] at ho51; rw [← Ny767.out] at ho51)); have HO769 := aM (Kd.R_lower (Kd.R_new' (Kd.R_new' ho51 (Kd.R_lt (yH HO763.out))) (Kd.R_lt (yH HO766.out))) yW); replace HO763 := aM (Kd.R_elder' (yH HO763.out) (Kd.R_base ho51) hb); replace HO766 := aM (Kd.R_elder' (yH HO766.out) (Kd.R_base ho51) hb); replace HB := aM (below_step yB hb); clear hb ho51; obtain ⟨Ao52, co52, eo52⟩ := Kd.R_slice HO766.out; subst eo52; obtain ⟨Ao53, co53, eo53⟩ := Kd.R_slice HO769.out; subst eo53) | ((with_reducible refine gate_callee (f := 30) rfl ?_); refine goesL_ (some 14) rfl rfl Try.func30 yK rfl #[.slice Ao52 y764.length co52, .slice Ao53 y767.length co53] rfl yG ?_; (with_reducible refine (inter_Ops.calls k _ _ y764 _ _ y767 t770 t771 _ (yC (Kd.R_reads' HO766.out).2.2) ((Kd.R_reads' HO766.out).2.1) (yC (Kd.R_reads' HO769.out).2.2) ((Kd.R_reads' HO769.out).2.1) A2.out).mono ?_); rintro e w54 ⟨v772, rfl, ho0, hb⟩; refine ⟨_, rfl, ?_⟩; have HO773 := aM (Kd.R_lower (Kd.R_new' (Kd.R_new' (Kd.R_new' ho0 (Kd.R_lt (yH HO763.out))) (Kd.R_lt (yH HO766.out))) (Kd.R_lt (yH HO769.out))) yW); replace HO763 := aM (Kd.R_elder' (yH HO763.out) (Kd.R_base ho0) hb); replace HO766 := aM (Kd.R_elder' (yH HO766.out) (Kd.R_base ho0) hb); replace HO769 := aM (Kd.R_elder' (yH HO769.out) (Kd.R_base ho0) hb); replace HB := aM (below_step yB hb); clear hb ho0; obtain ⟨Ao55, co55, eo55⟩ := Kd.R_slice HO763.out; subst eo55))
  go_ret
  exact ⟨yE2, yB⟩
end Go.Proofs.Ytfoponahdidddaa.P
