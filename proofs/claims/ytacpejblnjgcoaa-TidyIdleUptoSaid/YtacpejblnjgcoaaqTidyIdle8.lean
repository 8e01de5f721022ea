/- Own and printed texts that the theorem of TidyIdle reaches, put together. -/
import Derived.Test.YtacpejblnjgcoaaqTidyIdle4
import Derived.Test.YtacpejblnjgcoaaqTidyIdle3
import Derived.Test.YtacpejblnjgcoaaqTidyIdle5
import Derived.Test.YtacpejblnjgcoaaqTidyIdle6
import Derived.Test.YtacpejblnjgcoaaqTidyIdle7
set_option linter.unusedVariables false
set_option linter.unusedSimpArgs false
namespace Go.Proofs.Ytacpejblnjgcoaa.P
open Go.RowKit Go.Proofs.YtacpejblnjgcoaaW.PrintWords Go.Proofs.YtacpejblnjgcoaaW.PrintLast Go.Proofs.YtacpejblnjgcoaaW.PrintMore
open Go.Proofs.YtacpejblnjgcoaaW.PrintWords.Aside0 renaming mk → aM
open List renaming setIfInBounds_toArray → sI, set_cons_zero → sZ, set_cons_succ → sS, length_drop → lD, length_take → lT
attribute [local go_sem] max2_int min2_int max_two min_two max_three min_three max_four min_four
attribute [local go_sem high] eqAOp
theorem lcs_Diff.calls (A0 : Option Addr) (c0 : Nat) (l0 : List ByteArray) (A1 : Option Addr) (c1 : Nat) (l1 : List ByteArray) (r : List (Op)) (w : World) (hr0 : Kd.C Kd.string w A0 l0.length l0) (hc0 : l0.length ≤ c0) (hr1 : Kd.C Kd.string w A1 l1.length l1) (hc1 : l1.length ≤ c1) (h : lcs_Diff.f l0 l1 = some r) :
  Calls Try.prog 41 #[.slice A0 l0.length c0, .slice A1 l1.length c1] w fun e w' => ∃ v0_ : Value, e = .returned (v0_) ∧ Kd.R kOp 36 w' w.heap.size (fun _ => True) v0_ r ∧ Below w.heap.size w w' := by
 unfold lcs_Diff.f at h
 split at h
 ·rename_i hb
  obtain rfl := Option.some.inj h
  exact lcs_Diff_walk A0 c0 l0 A1 c1 l1 w hr0 hc0 hr1 hc1 hb.1 hb.2
 ·exact absurd h (by simp)
set_option maxHeartbeats 8000000 in
set_option maxRecDepth 100000 in
theorem tidy_Ops.calls (k : Nat) (A0 : Option Addr) (c0 : Nat) (l0 : List (Op)) (r : List (Op)) (w : World) (hr0 : Kd.C kOp w A0 l0.length l0) (hc0 : l0.length ≤ c0) (h : tidy_Ops.f k l0 = some r) :
  Calls Try.prog 16 #[.slice A0 l0.length c0] w fun e w' => ∃ v0_ : Value, e = .returned (v0_) ∧ Kd.R kOp 36 w' w.heap.size (fun _ => True) v0_ r ∧ Below w.heap.size w w' := by
 have hu36 := Try.underlying36
 have HR0 := aM hr0
 have HC0 := aM hc0
 clear hr0 hc0
 have HB := aM (Below.refl w.heap.size w)
 have H : ((ops_Right.f k l0).bind fun t188 => (if t188 = true then (tidy_Ops.l0 k l0 ([] : List (Op)) 0) else (some ([] : List (Op))))) = some r := h
 clear h
 replace H := oB H; obtain ⟨t188, A2, H⟩ := H
 by_cases c3 : t188 = true
 ·subst c3
  have H' := aM (iT H); clear H
  go_enter Try.func16, Try.ntmps16
  go_wp2_with (first | ((with_reducible refine gate_callee (f := 40) rfl ?_); refine goesL_ (some 7) rfl rfl Try.func40 yK rfl #[.slice A0 l0.length c0] rfl yG ?_; (with_reducible refine (ops_Right.calls k _ _ l0 true _ (yC HR0.out) HC0.out A2.out).mono ?_); rintro e w4 ⟨rfl, hb⟩; refine ⟨_, rfl, ?_⟩; replace HB := aM (below_step yB hb); clear hb))
  go_loopg [3, 4] k (fun kq v3 v4 w' => ∃ (x3_1 : List (Op)) (x4_1 : Int), v4 = .int .i64 x4_1 ∧ Aside0 (tidy_Ops.l0 kq l0 x3_1 x4_1 = some r) ∧ Aside0 (kq ≤ k) ∧ Aside0 (Kd.R kOp 36 w' w.heap.size (fun _ => True) v3 x3_1) ∧ Aside0 (Below w.heap.size w w'))
  case atStart => exact ⟨(([] : List (Op))), (0), yE, H', ⟨Nat.le_refl _⟩, ⟨by first | exact Kd.R_nil _ _ _ _ _ | exact Kd.N_nil _ _ _ _ _ | exact Kd.V_nil _ _ _ _ _ | exact Kd.Q_nil _ _ _ _ _ | exact Kd.S_nil _ _ _ _ _⟩, ⟨yB⟩⟩
  case round =>
   clear H'; (try clear c1); (try clear p2); (try clear c3); (try clear c4); obtain ⟨x3_1, x4_1, rfl, HA, HK1, HO_3, HB⟩ := hrel; cases gk with
   | zero => exact absurd HA.out (by simp [tidy_Ops.l0])
   | succ k1 =>
    have H := HA.out; clear HA; simp only [tidy_Ops.l0] at H
    by_cases c5 : x4_1 < (l0.length : Int)
    ·rw [if_pos c5] at H
     have c5b0 := decide_eq_true c5; clear c5; have HC6 := aM H; clear H
     go_upto_block 2 with (fail)
     go_cut [4] (fun v4 wc => ∃ (kq : Nat) (x4_5 : Int), v4 = .int .i64 x4_5 ∧ Aside0 (tidy_Ops.j2 kq l0 x3_1 x4_5 x4_1 = some r) ∧ Aside0 (kq ≤ k1) ∧ Aside0 (Kd.R kOp 36 wc w.heap.size (fun _ => True) u3 x3_1) ∧ Aside0 (Below w.heap.size w wc))
     case first =>
      have H := HC6.out; clear HC6; have H' := aM H; clear H
      go_wp2
      go_loopg [4] k1 (fun kq v4 w' => ∃ (x4_2 : Int), v4 = .int .i64 x4_2 ∧ Aside0 (tidy_Ops.l1 kq l0 x3_1 x4_2 x4_1 = some r) ∧ Aside0 (kq ≤ k1) ∧ Aside0 (Kd.R kOp 36 w' w.heap.size (fun _ => True) u3 x3_1) ∧ Aside0 (Below w.heap.size w w'))
      case atStart => exact ⟨(x4_1), yE, H', ⟨Nat.le_refl _⟩, ⟨yH HO_3.out⟩, ⟨yB⟩⟩
      case round =>
       clear H'; (try clear c1); (try clear p2); (try clear c3); (try clear c4); (try clear c5); (try clear c5b0); (try clear p2); obtain ⟨x4_2, rfl, HA, HK2, HO_3, HB⟩ := hrel; cases gk with
       | zero => exact absurd HA.out (by simp [tidy_Ops.l1])
       | succ k2 =>
        have H := HA.out; clear HA; simp only [tidy_Ops.l1] at H
        by_cases c7 : x4_2 < (l0.length : Int)
        ·rw [if_pos c7] at H
         have c7b0 := decide_eq_true c7; clear c7
         (first | rw [c7b0] | (simp only [i64_w, i32_w]; rw [c7b0]) | skip)
         by_cases c8 : 0 ≤ x4_2
         ·rw [if_pos c8] at H
          have c8b0 := decide_eq_true c8; clear c8
          by_cases c9 : ((rd_Op l0 x4_2).f0) = 1
          ·rw [if_pos c9] at H
           have c9b0 := beq_iff_eq.mpr c9; have c9b1 := bne_eq_false_iff_eq.mpr c9; clear c9; have H' := aM H; clear H; have p192 : 0 ≤ (x4_2 : Int) := yO; have q192 : x4_2 < (l0.length : Int) := yO; obtain ⟨ad192, e192, hx192_0, hx192_1, hx192_2⟩ := at_OpB HB.out HR0.out x4_2 p192 q192; cases e192; replace p192 := eq_true p192; replace q192 := eq_true q192
           go_wp2
           go_meet
           case rel => exact ⟨_, (x4_2), yE, H', ⟨by have := HK1.out; have := HK2.out; first | omega | exact Nat.le_refl _⟩, ⟨yH HO_3.out⟩, ⟨yB⟩⟩
          ·rw [if_neg c9] at H
           have c9b0 := beq_eq_false_iff_ne.mpr c9; have c9b1 := bne_iff_ne.mpr c9; have H' := aM H; clear H; have p192 : 0 ≤ (x4_2 : Int) := yO; have q192 : x4_2 < (l0.length : Int) := yO; obtain ⟨ad192, e192, hx192_0, hx192_1, hx192_2⟩ := at_OpB HB.out HR0.out x4_2 p192 q192; cases e192; replace p192 := eq_true p192; replace q192 := eq_true q192
           go_wp2
           go_roundg k2
           case measure => have := HK1.out; have := HK2.out; omega
           case rel => exact ⟨(wrap64 (x4_2 + 1)), yE, H', ⟨by have := HK1.out; have := HK2.out; omega⟩, ⟨yH HO_3.out⟩, ⟨yB⟩⟩
         ·rw [if_neg c8] at H
          exact absurd H (by simp)
        ·rw [if_neg c7] at H
         have c7b0 := decide_eq_false c7; clear c7
         (first | rw [c7b0] | (simp only [i64_w, i32_w]; rw [c7b0]) | skip)
         have H' := aM H; clear H
         go_wp2
         go_meet
         case rel => exact ⟨_, (x4_2), yE, H', ⟨by have := HK1.out; have := HK2.out; first | omega | exact Nat.le_refl _⟩, ⟨yH HO_3.out⟩, ⟨yB⟩⟩
     case rest =>
      clear HC6; (try clear c1); (try clear p1); (try clear q1); (try clear hx1); (try clear p2); (try clear c3); (try clear c4); (try clear c5); (try clear c5b0); (try clear p6); (try clear c7); (try clear c7b0); (try clear c8); (try clear c8b0); (try clear c9); (try clear c9b0); (try clear c9b1); (try clear hx192_0); (try clear hx192_1); (try clear hx192_2); (try clear p192); (try clear p2); (try clear q192); obtain ⟨kq, x4_5, rfl, HA, HJ5, HO_3, HB⟩ := hcut; cases kq with
      | zero => exact absurd HA.out (by simp [tidy_Ops.j2])
      | succ kj5 =>
       have H := HA.out; clear HA; simp only [tidy_Ops.j2] at H
       by_cases c10 : 0 ≤ x4_1
       ·rw [if_pos c10] at H
        have c10b0 := eq_true c10; have c10b1 := decide_eq_true c10; clear c10
        by_cases c11 : x4_1 ≤ x4_5
        ·rw [if_pos c11] at H
         have c11b0 := eq_true c11; have c11b1 := decide_eq_true c11; clear c11
         by_cases c12 : x4_5 ≤ (l0.length : Int)
         ·rw [if_pos c12] at H
          have c12b0 := eq_true c12; have c12b1 := decide_eq_true c12; clear c12; obtain ⟨y193, hy193⟩ : ∃ y_ : List (Op), y_ = ((l0.take (x4_5 : Int).toNat).drop (x4_1 : Int).toNat) := ⟨_, rfl⟩; replace H : ((tidy_texts_ops_Old.f kj5 y193).bind fun t197 => ((tidy_texts_ops_New.f kj5 ((l0.take (x4_5 : Int).toNat).drop (x4_1 : Int).toNat)).bind fun t204 => ((lcs_Diff.f t197 t204).bind fun t207 => (if x3_1.length + t207.length < 4398046511104 then ((some (x3_1 ++ t207 : List (Op))).bind fun y210 => (if x4_5 < (l0.length : Int) then (if 0 ≤ x4_5 then (if y210.length < 4398046511104 then (tidy_Ops.l0 kj5 l0 (y210 ++ [(⟨(rd_Op l0 x4_5).f0, (rd_Op l0 x4_5).f1, (rd_Op l0 x4_5).f2⟩ : Op)]) (wrap64 (x4_5 + 1))) else (none)) else (none)) else (tidy_Ops.l0 kj5 l0 y210 (wrap64 (x4_5 + 1))))) else (none))))) = some r := yN hy193 H
          have Ny193 := aM hy193; clear hy193; replace H := oB H; obtain ⟨t197, A13, H⟩ := H; have c14b0 := eq_true (yO : 0 ≤ x4_1); have c15b0 := eq_true (yO : x4_1 ≤ x4_5); have c16b0 := eq_true (yO : x4_5 ≤ (l0.length : Int)); obtain ⟨y200, hy200⟩ : ∃ y_ : List (Op), y_ = ((l0.take (x4_5 : Int).toNat).drop (x4_1 : Int).toNat) := ⟨_, rfl⟩; replace H : ((tidy_texts_ops_New.f kj5 y200).bind fun t204 => ((lcs_Diff.f t197 t204).bind fun t207 => (if x3_1.length + t207.length < 4398046511104 then ((some (x3_1 ++ t207 : List (Op))).bind fun y210 => (if x4_5 < (l0.length : Int) then (if 0 ≤ x4_5 then (if y210.length < 4398046511104 then (tidy_Ops.l0 kj5 l0 (y210 ++ [(⟨(rd_Op l0 x4_5).f0, (rd_Op l0 x4_5).f1, (rd_Op l0 x4_5).f2⟩ : Op)]) (wrap64 (x4_5 + 1))) else (none)) else (none)) else (tidy_Ops.l0 kj5 l0 y210 (wrap64 (x4_5 + 1))))) else (none)))) = some r := yN hy200 H
          have Ny200 := aM hy200; clear hy200; replace H := oB H; obtain ⟨t204, A17, H⟩ := H; replace H := oB H; obtain ⟨t207, A18, H⟩ := H
          by_cases c19 : x3_1.length + t207.length < 4398046511104
          ·rw [if_pos c19] at H
           have LMc19 := aM c19; clear c19; replace H := oS H; obtain ⟨y210, Ny210, H⟩ := H
           by_cases c20 : x4_5 < (l0.length : Int)
           ·rw [if_pos c20] at H
            have c20b0 := decide_eq_true c20; clear c20
            by_cases c21 : 0 ≤ x4_5
            ·rw [if_pos c21] at H
             have c21b0 := decide_eq_true c21; clear c21
             by_cases c22 : y210.length < 4398046511104
             ·rw [if_pos c22] at H
              have LMc22 := aM c22; clear c22; obtain ⟨y214, hy214⟩ : ∃ y_ : List (Op), y_ = (y210 ++ [(⟨(rd_Op l0 x4_5).f0, (rd_Op l0 x4_5).f1, (rd_Op l0 x4_5).f2⟩ : Op)]) := ⟨_, rfl⟩; replace H : (tidy_Ops.l0 kj5 l0 y214 (wrap64 (x4_5 + 1))) = some r := yN hy214 H
              have Ny214 := aM hy214; clear hy214; have H' := aM H; clear H
              try go_wp2
              replace HO_3 := aM (Kd.R_drew HO_3.out); replace HB := aM (below_drew1 HB.out); have q24 : (x4_5 : Int) ≤ ((l0.length : Int) : Int) := yO; obtain ⟨i024, hi024, _, hsz24, _⟩ := info_parts info36; have hroom24 : l0.length ≤ c0 := HC0.out; have hC24 : Kd.C kOp _ A0 l0.length l0 := HR0.out; have ql24 : (x4_1 : Int) ≤ (x4_5 : Int) := yO; have q024 : (0 : Int) ≤ (x4_1 : Int) := yO; have hcut24 := cut_mid (P := Try.prog) 22 36 .i64 .i64 Try.underlying22 hi024 3 hsz24 A0 l0.length c0 x4_1 x4_5 q024 ql24 q24 hroom24; have hr24 := Kd.C_mid (lo := (x4_1 : Int).toNat) (hi := (x4_5 : Int).toNat) (c := c0) hC24 (by omega) (by omega) hroom24; obtain ⟨A24, hA24⟩ : ∃ A1, A1 = (if c0 = (x4_1 : Int).toNat then A0 else (A0 : Option Addr).map (·.add ((x4_1 : Int).toNat * 3))) := ⟨_, rfl⟩; obtain ⟨c24, hc24⟩ : ∃ c1, c1 = c0 - (x4_1 : Int).toNat := ⟨_, rfl⟩; have hy24 : y193.length = (x4_5 : Int).toNat - (x4_1 : Int).toNat := (by rw [Ny193.out, lD, lT] <;> omega); rw [show ((l0).take (x4_5 : Int).toNat).drop (x4_1 : Int).toNat = y193 from Ny193.out.symm] at hr24; replace hr24 : Kd.C kOp _ A24 y193.length y193 := (by rw [hA24]; exact hr24); rw [← hy24, ← hA24, ← hc24] at hcut24; have HR196 := aM hr24; have HC196 := aM (show y193.length ≤ c24 from by rw [hy24, hc24]; exact Nat.sub_le_sub_right (Nat.le_trans (by omega) hroom24) _); have KC24 := aM hc24; clear hr24 hC24 hroom24 hi024 hsz24 hc24; have KY24 := aM hy24; have KA24 := aM hA24; clear hy24 hA24; replace q24 := eq_true q24; have q25 : (x4_5 : Int) ≤ ((l0.length : Int) : Int) := yO; obtain ⟨i025, hi025, _, hsz25, _⟩ := info_parts info36; have hroom25 : l0.length ≤ c0 := HC0.out; have hC25 : Kd.C kOp _ A0 l0.length l0 := HR0.out; have ql25 : (x4_1 : Int) ≤ (x4_5 : Int) := yO; have q025 : (0 : Int) ≤ (x4_1 : Int) := yO; have hcut25 := cut_mid (P := Try.prog) 22 36 .i64 .i64 Try.underlying22 hi025 3 hsz25 A0 l0.length c0 x4_1 x4_5 q025 ql25 q25 hroom25; have hr25 := Kd.C_mid (lo := (x4_1 : Int).toNat) (hi := (x4_5 : Int).toNat) (c := c0) hC25 (by omega) (by omega) hroom25; obtain ⟨A25, hA25⟩ : ∃ A1, A1 = (if c0 = (x4_1 : Int).toNat then A0 else (A0 : Option Addr).map (·.add ((x4_1 : Int).toNat * 3))) := ⟨_, rfl⟩; obtain ⟨c25, hc25⟩ : ∃ c1, c1 = c0 - (x4_1 : Int).toNat := ⟨_, rfl⟩; have hy25 : y200.length = (x4_5 : Int).toNat - (x4_1 : Int).toNat := (by rw [Ny200.out, lD, lT] <;> omega); rw [show ((l0).take (x4_5 : Int).toNat).drop (x4_1 : Int).toNat = y200 from Ny200.out.symm] at hr25; replace hr25 : Kd.C kOp _ A25 y200.length y200 := (by rw [hA25]; exact hr25); rw [← hy25, ← hA25, ← hc25] at hcut25; have HR203 := aM hr25; have HC203 := aM (show y200.length ≤ c25 from by rw [hy25, hc25]; exact Nat.sub_le_sub_right (Nat.le_trans (by omega) hroom25) _); have KC25 := aM hc25; clear hr25 hC25 hroom25 hi025 hsz25 hc25; have KY25 := aM hy25; have KA25 := aM hA25; clear hy25 hA25; replace q25 := eq_true q25
              refine start_ (n := 14) (S := fun w' => True) (ds := []) #[false, false, false, false, false, false, false, false, false, false, false, false, false, false] yK rfl rfl trivial (fun hHeld => ?_); refine with_tabW tidy_Ops.tab10 tidy_Ops.bits10 (fun HT_ HW_ => ?_)
              generalize wc.drew = w23 at HO_3 HB HR196 HR203 hHeld ⊢
              refine pure_ (i := 0) (N := some 30) (v := ?_) (a' := ?_) #[true, false, false, false, false, false, false, false, false, false, false, false, false, false] rfl rfl (any_of HT_.out yK) yI (Or.inl ⟨by rfl, ?_⟩) ?_ ?_
              rotate_left; exact yP1; rotate_left; exact yP2
              refine pure_ (i := 1) (N := some 31) (v := ?_) (a' := ?_) #[true, true, false, false, false, false, false, false, false, false, false, false, false, false] rfl rfl (any_of HT_.out yK) yI (Or.inl ⟨by rfl, ?_⟩) ?_ ?_
              rotate_left; exact yP1; rotate_left; exact yP2
              refine pure_ (i := 2) (N := some 32) (v := ?_) (a' := ?_) #[true, true, true, false, false, false, false, false, false, false, false, false, false, false] rfl rfl (any_of HT_.out yK) yI (Or.inl ⟨by rfl, ?_⟩) ?_ ?_
              rotate_left; exact yP1; rotate_left; exact yP2
              refine pure_ (i := 3) (N := some 33) (v := ?_) (a' := ?_) #[true, true, true, true, false, false, false, false, false, false, false, false, false, false] rfl rfl (any_of HT_.out yK) yI (Or.inl ⟨by rfl, ?_⟩) ?_ ?_
              rotate_left; exact yP1; rotate_left; exact yP2
              refine pure_ (i := 4) (N := some 34) (v := ?_) (a' := ?_) #[true, true, true, true, true, false, false, false, false, false, false, false, false, false] rfl rfl (any_of HT_.out yK) yI (Or.inl ⟨by rfl, ?_⟩) ?_ ?_
              rotate_left; exact yP1; rotate_left; exact yP2
              refine pure_ (i := 6) (N := some 36) (v := ?_) (a' := ?_) #[true, true, true, true, true, false, true, false, false, false, false, false, false, false] rfl rfl (any_of HT_.out yK) yI (Or.inl ⟨by rfl, ?_⟩) ?_ ?_
              rotate_left; exact yP1; rotate_left; exact yP2
              refine pure_ (i := 7) (N := some 37) (v := ?_) (a' := ?_) #[true, true, true, true, true, false, true, true, false, false, false, false, false, false] rfl rfl (any_of HT_.out yK) yI (Or.inl ⟨by rfl, ?_⟩) ?_ ?_
              rotate_left; exact yP1; rotate_left; exact yP2
              refine pure_ (i := 8) (N := some 38) (v := ?_) (a' := ?_) #[true, true, true, true, true, false, true, true, true, false, false, false, false, false] rfl rfl (any_of HT_.out yK) yI (Or.inl ⟨by rfl, ?_⟩) ?_ ?_
              rotate_left; exact yP1; rotate_left; exact yP2
              refine pure_ (i := 9) (N := some 39) (v := ?_) (a' := ?_) #[true, true, true, true, true, false, true, true, true, true, false, false, false, false] rfl rfl (any_of HT_.out yK) yI (Or.inl ⟨by rfl, ?_⟩) ?_ ?_
              rotate_left; exact yP1; rotate_left; exact yP2
              refine one_ (i := 5) (N := some 35) #[true, true, true, true, true, true, true, true, true, true, false, false, false, false] rfl rfl (one_of HT_.out yK) (by decide) (fun K hK => ?_)
              refine goes_ Try.func42 yK rfl #[.slice A24 y193.length c24, .func (.func 43) #[] #[]] (by rfl) rfl rfl yG ?_
              with_reducible refine (tidy_texts_ops_Old.calls kj5 _ _ y193  t197 _ ?side1 ?side2 A13.out).mono ?_
              (case side1 => repeat (first | exact (Kd.C_below HR196.out HB.out) | (with_reducible first | refine Kd.C_alloc ?_ _ | refine Kd.C_drewN ?_ _ | refine Kd.C_drew ?_)))
              (case side2 => exact HC196.out)
              rintro e w26 ⟨v198, rfl, ho0, hb⟩
              refine ⟨_, rfl, ?_⟩
              replace HO_3 := aM (Kd.R_below (yH HO_3.out) hb); have HO199 := aM (Kd.R_lower ho0 yW); replace HB := aM (below_step yB hb)
              (try clear hb)
              (try clear hb2)
              (try clear hk)
              (try clear hi)
              (try clear ho0)
              refine hK.out _ _ trivial (fun hHeld => ?_)
              clear hK K
              refine norm_ (a' := ?_) ?_ ?_
              rotate_left
              ·show Act.put _ (some 35) _ = _
               simp only [Act.put, sI, sZ, sS, i64_w, i32_w]
               rfl
              refine one_ (i := 10) (N := some 40) #[true, true, true, true, true, true, true, true, true, true, true, false, false, false] rfl rfl (one_of HT_.out yK) (by decide) (fun K hK => ?_)
              refine goes_ Try.func42 yK rfl #[.slice A24 y193.length c24, .func (.func 44) #[] #[]] (by rfl) rfl rfl yG ?_
              refine calls_of_args (args' := #[.slice A25 y200.length c25, .func (.func 44) #[] #[]]) (by rw [show A25 = A24 from KA25.out.trans KA24.out.symm, show c25 = c24 from KC25.out.trans KC24.out.symm, show y200 = y193 from Ny200.out.trans Ny193.out.symm]) ?_
              with_reducible refine (tidy_texts_ops_New.calls kj5 _ _ y200  t204 _ ?side1 ?side2 A17.out).mono ?_
              (case side1 => repeat (first | exact (Kd.C_below HR203.out HB.out) | (with_reducible first | refine Kd.C_alloc ?_ _ | refine Kd.C_drewN ?_ _ | refine Kd.C_drew ?_)))
              (case side2 => exact HC203.out)
              rintro e w27 ⟨v205, rfl, ho0, hb⟩
              refine ⟨_, rfl, ?_⟩
              replace HO_3 := aM (Kd.R_below (yH HO_3.out) hb); have HO206 := aM (Kd.R_lower (Kd.R_new' ho0 (Kd.R_lt (yH HO199.out))) yW); replace HO199 := aM (Kd.R_elder' (yH HO199.out) (Kd.R_base ho0) hb); replace HB := aM (below_step yB hb)
              (try clear hb)
              (try clear hb2)
              (try clear hk)
              (try clear hi)
              (try clear ho0)
              obtain ⟨Ao28, co28, eo28⟩ := Kd.R_slice HO199.out
              (first | subst eo28 | (injection eo28 with f1_ f2_ f3_; have f4_ := f1_.symm; have f5_ := f3_.symm; clear f1_ f2_ f3_; subst f4_; subst f5_))
              obtain ⟨Ao29, co29, eo29⟩ := Kd.R_slice HO206.out
              (first | subst eo29 | (injection eo29 with f1_ f2_ f3_; have f4_ := f1_.symm; have f5_ := f3_.symm; clear f1_ f2_ f3_; subst f4_; subst f5_))
              refine hK.out _ _ trivial (fun hHeld => ?_)
              clear hK K
              refine norm_ (a' := ?_) ?_ ?_
              rotate_left
              ·show Act.put _ (some 40) _ = _
               simp only [Act.put, sI, sZ, sS, i64_w, i32_w]
               rfl
              refine one_ (i := 11) (N := some 41) #[true, true, true, true, true, true, true, true, true, true, true, true, false, false] rfl rfl (one_of HT_.out yK) (by decide) (fun K hK => ?_)
              refine goes_ Try.func41 yK rfl #[.slice Ao28 t197.length co28, .slice Ao29 t204.length co29] (by rfl) rfl rfl yG ?_
              with_reducible refine (lcs_Diff.calls _ _ t197 _ _ t204 t207 _ ?side1 ?side2 ?side3 ?side4 A18.out).mono ?_
              (case side1 => repeat (first | exact (Kd.R_reads' HO199.out).2.2 | (with_reducible first | refine Kd.C_alloc ?_ _ | refine Kd.C_drewN ?_ _ | refine Kd.C_drew ?_)))
              (case side2 => exact (Kd.R_reads' HO199.out).2.1)
              (case side3 => repeat (first | exact (Kd.R_reads' HO206.out).2.2 | (with_reducible first | refine Kd.C_alloc ?_ _ | refine Kd.C_drewN ?_ _ | refine Kd.C_drew ?_)))
              (case side4 => exact (Kd.R_reads' HO206.out).2.1)
              rintro e w30 ⟨v208, rfl, ho0, hb⟩
              refine ⟨_, rfl, ?_⟩
              replace HO199 := aM (Kd.R_below (yH HO199.out) hb); replace HO206 := aM (Kd.R_below (yH HO206.out) hb); have HO209 := aM (Kd.R_lower (Kd.R_new' ho0 (Kd.R_lt (yH HO_3.out))) yW); replace HO_3 := aM (Kd.R_elder' (yH HO_3.out) (Kd.R_base ho0) hb); replace HB := aM (below_step yB hb)
              (try clear hb)
              (try clear hb2)
              (try clear hk)
              (try clear hi)
              (try clear ho0)
              obtain ⟨Ao32, co32, eo32⟩ := Kd.R_slice HO209.out
              (first | subst eo32 | (injection eo32 with f1_ f2_ f3_; have f4_ := f1_.symm; have f5_ := f3_.symm; clear f1_ f2_ f3_; subst f4_; subst f5_))
              refine hK.out _ _ trivial (fun hHeld => ?_)
              clear hK K
              refine norm_ (a' := ?_) ?_ ?_
              rotate_left
              ·show Act.put _ (some 41) _ = _
               simp only [Act.put, sI, sZ, sS, i64_w, i32_w]
               rfl
              refine one_ (i := 12) (N := some 42) #[true, true, true, true, true, true, true, true, true, true, true, true, true, false] rfl rfl (one_of HT_.out yK) (by decide) (fun K hK => ?_)
              refine Kd.R_append_rows_step kOp (w0 := w) w.heap.size (by rfl) (.tmp 30) (.tmp 41) 22 36 (.agg #[(.int .i64 0), (.int .i64 0), (.string ⟨#[]⟩)]) 32 rfl Try.underlying22 info36 rfl (by decide) (by omega) u3 x3_1 t207 _ _ _ (fun k_ => some k_ ≠ (.slice Ao32 t207.length co32 : Value).ownBlock) (fun _ => False) rfl rfl ?aO ?aR (fun _ _ h => h) (fun _ h => h.elim) ?aF ?aB ?aS ?aL ?_
              (case aR => repeat (first | exact (Kd.R_reads' HO209.out).2.2 | (with_reducible first | refine Kd.C_alloc ?_ _ | refine Kd.C_drewN ?_ _ | refine Kd.C_drew ?_)))
              (case aB => exact yB)
              (case aF => exact (fun k_ hk => Kd.fresh' (Kd.R_lt (yH HO209.out)) k_ hk))
              (case aO => exact (by (with_reducible repeat (first | apply Kd.R_alloc | apply Kd.R_drewN | apply Kd.R_drew)); exact Kd.R_mono HO_3.out (fun _ hk => hk.2)))
              (case aS => exact yW)
              (case aL => have := LMc19.out; omega)
              intro v211 w31 ho hb hg hat
              rw [← Ny210.out] at ho; have n0_ := aM (Kd.R_over' (yH HO199.out) (Kd.R_typed (yH HO_3.out)) (by decide) hg); have n1_ := aM (Kd.R_over' (yH HO206.out) (Kd.R_typed (yH HO_3.out)) (by decide) hg); have n2_ := aM (Kd.R_after (ok := (fun _ => True)) (yH HO209.out) hg hat); have n3_ := aM (hb); have n4_ := aM (ho); clear HO199; clear HO206; clear HO209; clear HB; clear HO_3; have HO199 := n0_; have HO206 := n1_; have HO209 := n2_; have HB := n3_; have HO212 := n4_; clear n0_ n1_ n2_ n3_ n4_; clear ho hb hg hat
              refine hK.out _ _ trivial (fun hHeld => ?_)
              clear hK K
              refine norm_ (a' := ?_) ?_ ?_
              rotate_left
              ·show Act.put _ (some 42) _ = _
               simp only [Act.put, sI, sZ, sS, i64_w, i32_w]
               rfl
              refine pure_ (i := 13) (N := some 3) (v := ?_) (a' := ?_) #[true, true, true, true, true, true, true, true, true, true, true, true, true, true] rfl rfl (any_of HT_.out yK) yI (Or.inl ⟨by rfl, ?_⟩) ?_ ?_
              rotate_left; exact yP1; rotate_left; exact yP2
              refine done_ (done_of HT_.out yK) ?_
              have p213 : 0 ≤ (x4_5 : Int) := yO; have q213 : x4_5 < (l0.length : Int) := yO; obtain ⟨ad213, e213, hx213_0, hx213_1, hx213_2⟩ := at_OpB HB.out HR0.out x4_5 p213 q213; cases e213; replace p213 := eq_true p213; replace q213 := eq_true q213
              try go_wp2_with (first | ((with_reducible refine gate_builtin (b := .append) (xs := #[.tmp 47, .tmp 52]) rfl ?_); at_builtin; refine Kd.R_append kOp (w0 := w) w.heap.size rfl (.tmp 47) (.tmp 52) 22 36 (.agg #[(.int .i64 0), (.int .i64 0), (.string ⟨#[]⟩)]) 32 rfl Try.underlying22 info36 rfl (by decide) (by omega) v211 y210 (⟨(rd_Op l0 x4_5).f0, (rd_Op l0 x4_5).f1, (rd_Op l0 x4_5).f2⟩ : Op) [.int .i64 ((rd_Op l0 x4_5).f0), .int .i64 ((rd_Op l0 x4_5).f1), .string ((rd_Op l0 x4_5).f2)] (fun k_ => some k_ ≠ (.slice Ao32 t207.length co32 : Value).ownBlock) (fun _ => False) rfl rfl ?aP (fun _ hk => hk.elim) ?aF ?aO ?aB ?aS ?aL ?_; (case aP => exact kOp_mkM _ _ _ (⟨(rd_Op l0 x4_5).f0, (rd_Op l0 x4_5).f1, (rd_Op l0 x4_5).f2⟩ : Op)); (case aB => exact yB); (case aF => exact (fun k_ hk => Kd.fresh' (Kd.R_lt (yH HO209.out)) k_ hk)); (case aO => exact (yH HO212.out)); (case aS => exact yW); (case aL => have := LMc22.out; omega); intro v215 w33 ho hb hg hat; rw [← Ny214.out] at ho; have n0_ := aM (Kd.R_over' (yH HO199.out) (Kd.R_typed (yH HO212.out)) (by decide) hg); have n1_ := aM (Kd.R_over' (yH HO206.out) (Kd.R_typed (yH HO212.out)) (by decide) hg); have n2_ := aM (Kd.R_after (ok := (fun _ => True)) (yH HO209.out) hg hat); have n3_ := aM (hb); have n4_ := aM (ho); clear HO199; clear HO206; clear HO209; clear HB; clear HO212; have HO199 := n0_; have HO206 := n1_; have HO209 := n2_; have HB := n3_; have HO216 := n4_; clear n0_ n1_ n2_ n3_ n4_; clear ho hb hg hat))
              go_roundg kj5
              case measure => have := HK1.out; have := HJ5.out; omega
              case rel => exact ⟨(y214), (wrap64 (x4_5 + 1)), yE, H', ⟨by have := HK1.out; have := HJ5.out; omega⟩, ⟨by (with_reducible repeat (first | apply Kd.R_alloc | apply Kd.R_drewN | apply Kd.R_drew)); exact Kd.R_mono HO216.out (fun _ hk => trivial)⟩, ⟨yB⟩⟩
             ·rw [if_neg c22] at H
              exact absurd H (by simp)
            ·rw [if_neg c21] at H
             exact absurd H (by simp)
           ·rw [if_neg c20] at H
            have c20b0 := decide_eq_false c20; clear c20; have H' := aM H; clear H
            try go_wp2
            replace HO_3 := aM (Kd.R_drew HO_3.out); replace HB := aM (below_drew1 HB.out); have q35 : (x4_5 : Int) ≤ ((l0.length : Int) : Int) := yO; obtain ⟨i035, hi035, _, hsz35, _⟩ := info_parts info36; have hroom35 : l0.length ≤ c0 := HC0.out; have hC35 : Kd.C kOp _ A0 l0.length l0 := HR0.out; have ql35 : (x4_1 : Int) ≤ (x4_5 : Int) := yO; have q035 : (0 : Int) ≤ (x4_1 : Int) := yO; have hcut35 := cut_mid (P := Try.prog) 22 36 .i64 .i64 Try.underlying22 hi035 3 hsz35 A0 l0.length c0 x4_1 x4_5 q035 ql35 q35 hroom35; have hr35 := Kd.C_mid (lo := (x4_1 : Int).toNat) (hi := (x4_5 : Int).toNat) (c := c0) hC35 (by omega) (by omega) hroom35; obtain ⟨A35, hA35⟩ : ∃ A1, A1 = (if c0 = (x4_1 : Int).toNat then A0 else (A0 : Option Addr).map (·.add ((x4_1 : Int).toNat * 3))) := ⟨_, rfl⟩; obtain ⟨c35, hc35⟩ : ∃ c1, c1 = c0 - (x4_1 : Int).toNat := ⟨_, rfl⟩; have hy35 : y193.length = (x4_5 : Int).toNat - (x4_1 : Int).toNat := (by rw [Ny193.out, lD, lT] <;> omega); rw [show ((l0).take (x4_5 : Int).toNat).drop (x4_1 : Int).toNat = y193 from Ny193.out.symm] at hr35; replace hr35 : Kd.C kOp _ A35 y193.length y193 := (by rw [hA35]; exact hr35); rw [← hy35, ← hA35, ← hc35] at hcut35; have HR196 := aM hr35; have HC196 := aM (show y193.length ≤ c35 from by rw [hy35, hc35]; exact Nat.sub_le_sub_right (Nat.le_trans (by omega) hroom35) _); have KC35 := aM hc35; clear hr35 hC35 hroom35 hi035 hsz35 hc35; have KY35 := aM hy35; have KA35 := aM hA35; clear hy35 hA35; replace q35 := eq_true q35; have q36 : (x4_5 : Int) ≤ ((l0.length : Int) : Int) := yO; obtain ⟨i036, hi036, _, hsz36, _⟩ := info_parts info36; have hroom36 : l0.length ≤ c0 := HC0.out; have hC36 : Kd.C kOp _ A0 l0.length l0 := HR0.out; have ql36 : (x4_1 : Int) ≤ (x4_5 : Int) := yO; have q036 : (0 : Int) ≤ (x4_1 : Int) := yO; have hcut36 := cut_mid (P := Try.prog) 22 36 .i64 .i64 Try.underlying22 hi036 3 hsz36 A0 l0.length c0 x4_1 x4_5 q036 ql36 q36 hroom36; have hr36 := Kd.C_mid (lo := (x4_1 : Int).toNat) (hi := (x4_5 : Int).toNat) (c := c0) hC36 (by omega) (by omega) hroom36; obtain ⟨A36, hA36⟩ : ∃ A1, A1 = (if c0 = (x4_1 : Int).toNat then A0 else (A0 : Option Addr).map (·.add ((x4_1 : Int).toNat * 3))) := ⟨_, rfl⟩; obtain ⟨c36, hc36⟩ : ∃ c1, c1 = c0 - (x4_1 : Int).toNat := ⟨_, rfl⟩; have hy36 : y200.length = (x4_5 : Int).toNat - (x4_1 : Int).toNat := (by rw [Ny200.out, lD, lT] <;> omega); rw [show ((l0).take (x4_5 : Int).toNat).drop (x4_1 : Int).toNat = y200 from Ny200.out.symm] at hr36; replace hr36 : Kd.C kOp _ A36 y200.length y200 := (by rw [hA36]; exact hr36); rw [← hy36, ← hA36, ← hc36] at hcut36; have HR203 := aM hr36; have HC203 := aM (show y200.length ≤ c36 from by rw [hy36, hc36]; exact Nat.sub_le_sub_right (Nat.le_trans (by omega) hroom36) _); have KC36 := aM hc36; clear hr36 hC36 hroom36 hi036 hsz36 hc36; have KY36 := aM hy36; have KA36 := aM hA36; clear hy36 hA36; replace q36 := eq_true q36
            refine start_ (n := 14) (S := fun w' => True) (ds := []) #[false, false, false, false, false, false, false, false, false, false, false, false, false, false] yK rfl rfl trivial (fun hHeld => ?_); refine with_tabW tidy_Ops.tab10 tidy_Ops.bits10 (fun HT_ HW_ => ?_)
            generalize wc.drew = w34 at HO_3 HB HR196 HR203 hHeld ⊢
            refine pure_ (i := 0) (N := some 30) (v := ?_) (a' := ?_) #[true, false, false, false, false, false, false, false, false, false, false, false, false, false] rfl rfl (any_of HT_.out yK) yI (Or.inl ⟨by rfl, ?_⟩) ?_ ?_
            rotate_left; exact yP1; rotate_left; exact yP2
            refine pure_ (i := 1) (N := some 31) (v := ?_) (a' := ?_) #[true, true, false, false, false, false, false, false, false, false, false, false, false, false] rfl rfl (any_of HT_.out yK) yI (Or.inl ⟨by rfl, ?_⟩) ?_ ?_
            rotate_left; exact yP1; rotate_left; exact yP2
            refine pure_ (i := 2) (N := some 32) (v := ?_) (a' := ?_) #[true, true, true, false, false, false, false, false, false, false, false, false, false, false] rfl rfl (any_of HT_.out yK) yI (Or.inl ⟨by rfl, ?_⟩) ?_ ?_
            rotate_left; exact yP1; rotate_left; exact yP2
            refine pure_ (i := 3) (N := some 33) (v := ?_) (a' := ?_) #[true, true, true, true, false, false, false, false, false, false, false, false, false, false] rfl rfl (any_of HT_.out yK) yI (Or.inl ⟨by rfl, ?_⟩) ?_ ?_
            rotate_left; exact yP1; rotate_left; exact yP2
            refine pure_ (i := 4) (N := some 34) (v := ?_) (a' := ?_) #[true, true, true, true, true, false, false, false, false, false, false, false, false, false] rfl rfl (any_of HT_.out yK) yI (Or.inl ⟨by rfl, ?_⟩) ?_ ?_
            rotate_left; exact yP1; rotate_left; exact yP2
            refine pure_ (i := 6) (N := some 36) (v := ?_) (a' := ?_) #[true, true, true, true, true, false, true, false, false, false, false, false, false, false] rfl rfl (any_of HT_.out yK) yI (Or.inl ⟨by rfl, ?_⟩) ?_ ?_
            rotate_left; exact yP1; rotate_left; exact yP2
            refine pure_ (i := 7) (N := some 37) (v := ?_) (a' := ?_) #[true, true, true, true, true, false, true, true, false, false, false, false, false, false] rfl rfl (any_of HT_.out yK) yI (Or.inl ⟨by rfl, ?_⟩) ?_ ?_
            rotate_left; exact yP1; rotate_left; exact yP2
            refine pure_ (i := 8) (N := some 38) (v := ?_) (a' := ?_) #[true, true, true, true, true, false, true, true, true, false, false, false, false, false] rfl rfl (any_of HT_.out yK) yI (Or.inl ⟨by rfl, ?_⟩) ?_ ?_
            rotate_left; exact yP1; rotate_left; exact yP2
            refine pure_ (i := 9) (N := some 39) (v := ?_) (a' := ?_) #[true, true, true, true, true, false, true, true, true, true, false, false, false, false] rfl rfl (any_of HT_.out yK) yI (Or.inl ⟨by rfl, ?_⟩) ?_ ?_
            rotate_left; exact yP1; rotate_left; exact yP2
            refine one_ (i := 5) (N := some 35) #[true, true, true, true, true, true, true, true, true, true, false, false, false, false] rfl rfl (one_of HT_.out yK) (by decide) (fun K hK => ?_)
            refine goes_ Try.func42 yK rfl #[.slice A35 y193.length c35, .func (.func 43) #[] #[]] (by rfl) rfl rfl yG ?_
            with_reducible refine (tidy_texts_ops_Old.calls kj5 _ _ y193  t197 _ ?side1 ?side2 A13.out).mono ?_
            (case side1 => repeat (first | exact (Kd.C_below HR196.out HB.out) | (with_reducible first | refine Kd.C_alloc ?_ _ | refine Kd.C_drewN ?_ _ | refine Kd.C_drew ?_)))
            (case side2 => exact HC196.out)
            rintro e w37 ⟨v198, rfl, ho0, hb⟩
            refine ⟨_, rfl, ?_⟩
            replace HO_3 := aM (Kd.R_below (yH HO_3.out) hb); have HO199 := aM (Kd.R_lower ho0 yW); replace HB := aM (below_step yB hb)
            (try clear hb)
            (try clear hb2)
            (try clear hk)
            (try clear hi)
            (try clear ho0)
            refine hK.out _ _ trivial (fun hHeld => ?_)
            clear hK K
            refine norm_ (a' := ?_) ?_ ?_
            rotate_left
            ·show Act.put _ (some 35) _ = _
             simp only [Act.put, sI, sZ, sS, i64_w, i32_w]
             rfl
            refine one_ (i := 10) (N := some 40) #[true, true, true, true, true, true, true, true, true, true, true, false, false, false] rfl rfl (one_of HT_.out yK) (by decide) (fun K hK => ?_)
            refine goes_ Try.func42 yK rfl #[.slice A35 y193.length c35, .func (.func 44) #[] #[]] (by rfl) rfl rfl yG ?_
            refine calls_of_args (args' := #[.slice A36 y200.length c36, .func (.func 44) #[] #[]]) (by rw [show A36 = A35 from KA36.out.trans KA35.out.symm, show c36 = c35 from KC36.out.trans KC35.out.symm, show y200 = y193 from Ny200.out.trans Ny193.out.symm]) ?_
            with_reducible refine (tidy_texts_ops_New.calls kj5 _ _ y200  t204 _ ?side1 ?side2 A17.out).mono ?_
            (case side1 => repeat (first | exact (Kd.C_below HR203.out HB.out) | (with_reducible first | refine Kd.C_alloc ?_ _ | refine Kd.C_drewN ?_ _ | refine Kd.C_drew ?_)))
            (case side2 => exact HC203.out)
            rintro e w38 ⟨v205, rfl, ho0, hb⟩
            refine ⟨_, rfl, ?_⟩
            replace HO_3 := aM (Kd.R_below (yH HO_3.out) hb); have HO206 := aM (Kd.R_lower (Kd.R_new' ho0 (Kd.R_lt (yH HO199.out))) yW); replace HO199 := aM (Kd.R_elder' (yH HO199.out) (Kd.R_base ho0) hb); replace HB := aM (below_step yB hb)
            (try clear hb)
            (try clear hb2)
            (try clear hk)
            (try clear hi)
            (try clear ho0)
            obtain ⟨Ao39, co39, eo39⟩ := Kd.R_slice HO199.out
            (first | subst eo39 | (injection eo39 with f1_ f2_ f3_; have f4_ := f1_.symm; have f5_ := f3_.symm; clear f1_ f2_ f3_; subst f4_; subst f5_))
            obtain ⟨Ao40, co40, eo40⟩ := Kd.R_slice HO206.out
            (first | subst eo40 | (injection eo40 with f1_ f2_ f3_; have f4_ := f1_.symm; have f5_ := f3_.symm; clear f1_ f2_ f3_; subst f4_; subst f5_))
            refine hK.out _ _ trivial (fun hHeld => ?_)
            clear hK K
            refine norm_ (a' := ?_) ?_ ?_
            rotate_left
            ·show Act.put _ (some 40) _ = _
             simp only [Act.put, sI, sZ, sS, i64_w, i32_w]
             rfl
            refine one_ (i := 11) (N := some 41) #[true, true, true, true, true, true, true, true, true, true, true, true, false, false] rfl rfl (one_of HT_.out yK) (by decide) (fun K hK => ?_)
            refine goes_ Try.func41 yK rfl #[.slice Ao39 t197.length co39, .slice Ao40 t204.length co40] (by rfl) rfl rfl yG ?_
            with_reducible refine (lcs_Diff.calls _ _ t197 _ _ t204 t207 _ ?side1 ?side2 ?side3 ?side4 A18.out).mono ?_
            (case side1 => repeat (first | exact (Kd.R_reads' HO199.out).2.2 | (with_reducible first | refine Kd.C_alloc ?_ _ | refine Kd.C_drewN ?_ _ | refine Kd.C_drew ?_)))
            (case side2 => exact (Kd.R_reads' HO199.out).2.1)
            (case side3 => repeat (first | exact (Kd.R_reads' HO206.out).2.2 | (with_reducible first | refine Kd.C_alloc ?_ _ | refine Kd.C_drewN ?_ _ | refine Kd.C_drew ?_)))
            (case side4 => exact (Kd.R_reads' HO206.out).2.1)
            rintro e w41 ⟨v208, rfl, ho0, hb⟩
            refine ⟨_, rfl, ?_⟩
            replace HO199 := aM (Kd.R_below (yH HO199.out) hb); replace HO206 := aM (Kd.R_below (yH HO206.out) hb); have HO209 := aM (Kd.R_lower (Kd.R_new' ho0 (Kd.R_lt (yH HO_3.out))) yW); replace HO_3 := aM (Kd.R_elder' (yH HO_3.out) (Kd.R_base ho0) hb); replace HB := aM (below_step yB hb)
            (try clear hb)
            (try clear hb2)
            (try clear hk)
            (try clear hi)
            (try clear ho0)
            obtain ⟨Ao43, co43, eo43⟩ := Kd.R_slice HO209.out
            (first | subst eo43 | (injection eo43 with f1_ f2_ f3_; have f4_ := f1_.symm; have f5_ := f3_.symm; clear f1_ f2_ f3_; subst f4_; subst f5_))
            refine hK.out _ _ trivial (fun hHeld => ?_)
            clear hK K
            refine norm_ (a' := ?_) ?_ ?_
            rotate_left
            ·show Act.put _ (some 41) _ = _
             simp only [Act.put, sI, sZ, sS, i64_w, i32_w]
             rfl
            refine one_ (i := 12) (N := some 42) #[true, true, true, true, true, true, true, true, true, true, true, true, true, false] rfl rfl (one_of HT_.out yK) (by decide) (fun K hK => ?_)
            refine Kd.R_append_rows_step kOp (w0 := w) w.heap.size (by rfl) (.tmp 30) (.tmp 41) 22 36 (.agg #[(.int .i64 0), (.int .i64 0), (.string ⟨#[]⟩)]) 32 rfl Try.underlying22 info36 rfl (by decide) (by omega) u3 x3_1 t207 _ _ _ (fun k_ => some k_ ≠ (.slice Ao43 t207.length co43 : Value).ownBlock) (fun _ => False) rfl rfl ?aO ?aR (fun _ _ h => h) (fun _ h => h.elim) ?aF ?aB ?aS ?aL ?_
            (case aR => repeat (first | exact (Kd.R_reads' HO209.out).2.2 | (with_reducible first | refine Kd.C_alloc ?_ _ | refine Kd.C_drewN ?_ _ | refine Kd.C_drew ?_)))
            (case aB => exact yB)
            (case aF => exact (fun k_ hk => Kd.fresh' (Kd.R_lt (yH HO209.out)) k_ hk))
            (case aO => exact (by (with_reducible repeat (first | apply Kd.R_alloc | apply Kd.R_drewN | apply Kd.R_drew)); exact Kd.R_mono HO_3.out (fun _ hk => hk.2)))
            (case aS => exact yW)
            (case aL => have := LMc19.out; omega)
            intro v211 w42 ho hb hg hat
            rw [← Ny210.out] at ho; have n0_ := aM (Kd.R_over' (yH HO199.out) (Kd.R_typed (yH HO_3.out)) (by decide) hg); have n1_ := aM (Kd.R_over' (yH HO206.out) (Kd.R_typed (yH HO_3.out)) (by decide) hg); have n2_ := aM (Kd.R_after (ok := (fun _ => True)) (yH HO209.out) hg hat); have n3_ := aM (hb); have n4_ := aM (ho); clear HO199; clear HO206; clear HO209; clear HB; clear HO_3; have HO199 := n0_; have HO206 := n1_; have HO209 := n2_; have HB := n3_; have HO212 := n4_; clear n0_ n1_ n2_ n3_ n4_; clear ho hb hg hat
            refine hK.out _ _ trivial (fun hHeld => ?_)
            clear hK K
            refine norm_ (a' := ?_) ?_ ?_
            rotate_left
            ·show Act.put _ (some 42) _ = _
             simp only [Act.put, sI, sZ, sS, i64_w, i32_w]
             rfl
            refine pure_ (i := 13) (N := some 3) (v := ?_) (a' := ?_) #[true, true, true, true, true, true, true, true, true, true, true, true, true, true] rfl rfl (any_of HT_.out yK) yI (Or.inl ⟨by rfl, ?_⟩) ?_ ?_
            rotate_left; exact yP1; rotate_left; exact yP2
            refine done_ (done_of HT_.out yK) ?_
            try go_wp2
            go_roundg kj5
            case measure => have := HK1.out; have := HJ5.out; omega
            case rel => exact ⟨(y210), (wrap64 (x4_5 + 1)), yE, H', ⟨by have := HK1.out; have := HJ5.out; omega⟩, ⟨by (with_reducible repeat (first | apply Kd.R_alloc | apply Kd.R_drewN | apply Kd.R_drew)); exact Kd.R_mono HO212.out (fun _ hk => trivial)⟩, ⟨yB⟩⟩
          ·rw [if_neg c19] at H
           exact absurd H (by simp)
         ·rw [if_neg c12] at H
          exact absurd H (by simp)
        ·rw [if_neg c11] at H
         exact absurd H (by simp)
       ·rw [if_neg c10] at H
        exact absurd H (by simp)
    ·rw [if_neg c5] at H
     have c5b0 := decide_eq_false c5; clear c5; replace H := oB H; obtain ⟨t189, A44, H⟩ := H; obtain rfl := Option.some.inj H; obtain ⟨Ao45, co45, eo45⟩ := Kd.R_slice HO_3.out; subst eo45
     go_wp2_with (first | ((with_reducible refine gate_callee (f := 45) rfl ?_); refine goesL_ (some 55) rfl rfl Try.func45 yK rfl #[.slice Ao45 x3_1.length co45] rfl yG ?_; (with_reducible refine (ops_Norm.calls k1 _ _ x3_1 t189 _ (yC (Kd.R_reads' HO_3.out).2.2) ((Kd.R_reads' HO_3.out).2.1) A44.out).mono ?_); rintro e w46 ⟨v190, rfl, ho0, hb⟩; refine ⟨_, rfl, ?_⟩; have HO191 := aM (Kd.R_lower (Kd.R_new' ho0 (Kd.R_lt (yH HO_3.out))) yW); replace HO_3 := aM (Kd.R_elder' (yH HO_3.out) (Kd.R_base ho0) hb); replace HB := aM (below_step yB hb); clear hb ho0))
     go_ret
     exact ⟨_, by first | rfl | (simp [errW_none, errW_some] <;> rfl) | (simp [*, errW_none, errW_some] <;> rfl), by (with_reducible repeat (first | apply Kd.R_alloc | apply Kd.R_drewN | apply Kd.R_drew)); exact Kd.R_mono HO191.out (fun _ hk => trivial), yB⟩
 ·replace c3 := Bool.eq_false_iff.mpr c3
  subst c3; replace H := iF H; obtain rfl := Option.some.inj H
  go_enter Try.func16, Try.ntmps16
  go_wp2_with (first | ((with_reducible refine gate_callee (f := 40) rfl ?_); refine goesL_ (some 7) rfl rfl Try.func40 yK rfl #[.slice A0 l0.length c0] rfl yG ?_; (with_reducible refine (ops_Right.calls k _ _ l0 false _ (yC HR0.out) HC0.out A2.out).mono ?_); rintro e w47 ⟨rfl, hb⟩; refine ⟨_, rfl, ?_⟩; replace HB := aM (below_step yB hb); clear hb))
  go_ret
  exact ⟨_, by first | rfl | (simp [errW_none, errW_some] <;> rfl) | (simp [*, errW_none, errW_some] <;> rfl), by first | exact Kd.R_nil _ _ _ _ _ | exact Kd.N_nil _ _ _ _ _ | exact Kd.V_nil _ _ _ _ _ | exact Kd.Q_nil _ _ _ _ _ | exact Kd.S_nil _ _ _ _ _, yB⟩
set_option maxHeartbeats 8000000 in
set_option maxRecDepth 100000 in
theorem tidy_Idle.calls (k : Nat) (A0 : Option Addr) (c0 : Nat) (l0 : List (Op)) (r : Bool) (w : World) (hr0 : Kd.C kOp w A0 l0.length l0) (hc0 : l0.length ≤ c0) (h : tidy_Idle.f k l0 = some r) :
  Calls Try.prog 18 #[.slice A0 l0.length c0] w fun e w' => e = .returned (.bool r) ∧ Below w.heap.size w w' := by
 have HR0 := aM hr0
 have HC0 := aM hc0
 clear hr0 hc0
 have HB := aM (Below.refl w.heap.size w)
 have H : ((tidy_Ops.f k l0).bind fun t220 => ((ops_Changes.f k t220).bind fun t223 => (some (t223 == 0)))) = some r := h
 clear h
 replace H := oB H; obtain ⟨t220, A2, H⟩ := H
 replace H := oB H; obtain ⟨t223, A3, H⟩ := H
 obtain rfl := Option.some.inj H
 go_enter Try.func18, Try.ntmps18
 go_wp2_with (first | ((with_reducible refine gate_callee (f := 16) rfl ?_); refine goesL_ (some 4) rfl rfl Try.func16 yK rfl #[.slice A0 l0.length c0] rfl yG ?_; (with_reducible refine (tidy_Ops.calls k _ _ l0 t220 _ (yC HR0.out) HC0.out A2.out).mono ?_); rintro e w4 ⟨v221, rfl, ho0, hb⟩; refine ⟨_, rfl, ?_⟩; have HO222 := aM (Kd.R_lower ho0 yW); replace HB := aM (below_step yB hb); clear hb ho0; obtain ⟨Ao5, co5, eo5⟩ := Kd.R_slice HO222.out; subst eo5) | ((with_reducible refine gate_callee (f := 48) rfl ?_); refine goesL_ (some 5) rfl rfl Try.func48 yK rfl #[.slice Ao5 t220.length co5] rfl yG ?_; (with_reducible refine (ops_Changes.calls k _ _ t220 t223 _ (yC (Kd.R_reads' HO222.out).2.2) ((Kd.R_reads' HO222.out).2.1) A3.out).mono ?_); rintro e w6 ⟨rfl, hb⟩; refine ⟨_, rfl, ?_⟩; replace HO222 := aM (Kd.R_below (yH HO222.out) hb); replace HB := aM (below_step yB hb); clear hb))
 go_ret
 exact ⟨yE2, yB⟩
set_option maxHeartbeats 8000000 in
set_option maxRecDepth 100000 in
theorem patchworklaw13_alive.calls (k : Nat)  (r : Bool) (w : World) (h : patchworklaw13_alive.f k  = some r) :
  Calls Try.prog 13 #[] w fun e w' => e = .returned (.bool r) ∧ Below w.heap.size w w' := by
 have hu36 := Try.underlying36
 have HB := aM (Below.refl w.heap.size w)
 have H : ((some (([(⟨3, 0, (⟨#[97, 10]⟩ : ByteArray)⟩ : Op), (⟨4, 0, (⟨#[97, 10]⟩ : ByteArray)⟩ : Op)] : List (Op)) : List (Op))).bind fun y224 => ((tidy_Idle.f k ([] : List (Op))).bind fun t227 => (if t227 = true then ((tidy_Idle.f k y224).bind fun t228 => (if t228 = true then ((tidy_Ops.f k y224).bind fun t229 => (if (t229.length : Int) = 1 then (if 1 ≤ (y224.length : Int) then ((tidy_Idle.f k (y224.take 1)).bind fun t236 => (some (!t236))) else (none)) else (some false))) else (some false))) else (some false)))) = some r := h
 clear h
 replace H := oS H; obtain ⟨y224, Ny224, H⟩ := H
 replace H := oB H; obtain ⟨t227, A1, H⟩ := H
 by_cases c2 : t227 = true
 ·subst c2
  replace H := iT H; replace H := oB H; obtain ⟨t228, A3, H⟩ := H
  by_cases c4 : t228 = true
  ·subst c4
   replace H := iT H; replace H := oB H; obtain ⟨t229, A5, H⟩ := H
   by_cases c6 : (t229.length : Int) = 1
   ·rw [if_pos c6] at H
    have c6b0 := beq_iff_eq.mpr c6; have c6b1 := bne_eq_false_iff_eq.mpr c6; clear c6
    by_cases c7 : 1 ≤ (y224.length : Int)
    ·rw [if_pos c7] at H
     have c7b0 := eq_true c7; have c7b1 := decide_eq_true c7; clear c7; obtain ⟨y232, hy232⟩ : ∃ y_ : List (Op), y_ = (y224.take 1) := ⟨_, rfl⟩; replace H : ((tidy_Idle.f k y232).bind fun t236 => (some (!t236))) = some r := yN hy232 H
     have Ny232 := aM hy232; clear hy232; replace H := oB H; obtain ⟨t236, A8, H⟩ := H; obtain rfl := Option.some.inj H
     go_enter Try.func13, Try.ntmps13
     go_wp2_with (first | ((with_reducible refine gate_dst (N := 4) rfl ?_); (try (refine gate_guard (by rfl) ?_; dsimp only)); refine Kd.R_lit kOp _ 36 ?hg (N := 4) ?hd (xs := ([(⟨3, 0, (⟨#[97, 10]⟩ : ByteArray)⟩ : Op), (⟨4, 0, (⟨#[97, 10]⟩ : ByteArray)⟩ : Op)] : List (Op))) (inner := [.int .i64 3, .int .i64 0, .string (⟨#[97, 10]⟩ : ByteArray), .int .i64 4, .int .i64 0, .string (⟨#[97, 10]⟩ : ByteArray)]) (ok := fun _ => True) (okp := fun _ => True) ?hr ?hp (fun _ hk => hk) trivial (Below.refl _ _) (Nat.le_refl _) (by simp) ?_; (case hd => rfl); (case hg => rfl); (case hr => first | (go_simp; done) | (go_simp; rfl)); (case hp => exact (Reps.c3 (show Kd.M kOp _ _ _ (⟨3, 0, (⟨#[97, 10]⟩ : ByteArray)⟩ : Op) [.int .i64 3, .int .i64 0, .string (⟨#[97, 10]⟩ : ByteArray)] from (kOp_mkM _ _ _ (⟨3, 0, (⟨#[97, 10]⟩ : ByteArray)⟩ : Op) )) (Reps.c3 (show Kd.M kOp _ _ _ (⟨4, 0, (⟨#[97, 10]⟩ : ByteArray)⟩ : Op) [.int .i64 4, .int .i64 0, .string (⟨#[97, 10]⟩ : ByteArray)] from (kOp_mkM _ _ _ (⟨4, 0, (⟨#[97, 10]⟩ : ByteArray)⟩ : Op) )) (Reps.none _ _)))); intro v225 w9 ho10 hb hg_ hnew_; clear hg_ hnew_; (first | rw [← Ny224.out] at ho10 | (simp only [Int.reduceToNat] at ho10; rw [← Ny224.out] at ho10)); have HO226 := aM (Kd.R_lower ho10 yW); replace HB := aM (below_step yB hb); clear hb ho10) | ((with_reducible refine gate_callee (f := 18) rfl ?_); refine goesL_ (some 5) rfl rfl Try.func18 yK rfl #[.slice none 0 0] rfl yG ?_; (refine (tidy_Idle.calls k _ _ ([] : List (Op)) true _ ?side1 ?side2 A1.out).mono ?_); (case side1 => exact Kd.C_nil _ _); (case side2 => exact Nat.le_refl _); rintro e w11 ⟨rfl, hb⟩; refine ⟨_, rfl, ?_⟩; replace HO226 := aM (Kd.R_below (yH HO226.out) hb); replace HB := aM (below_step yB hb); clear hb; obtain ⟨Ao12, co12, eo12⟩ := Kd.R_slice HO226.out; subst eo12) | (go_at_call 18; (with_reducible refine (tidy_Idle.calls k _ _ y224 true _ (yC (Kd.R_reads' HO226.out).2.2) ((Kd.R_reads' HO226.out).2.1) A3.out).mono ?_); rintro e w13 ⟨rfl, hb⟩; replace HO226 := aM (Kd.R_below (yH HO226.out) hb); replace HB := aM (below_step yB hb); clear hb) | (go_at_call 16; (with_reducible refine (tidy_Ops.calls k _ _ y224 t229 _ (yC (Kd.R_reads' HO226.out).2.2) ((Kd.R_reads' HO226.out).2.1) A5.out).mono ?_); rintro e w14 ⟨v230, rfl, ho0, hb⟩; have HO231 := aM (Kd.R_lower (Kd.R_new' ho0 (Kd.R_lt (yH HO226.out))) yW); replace HO226 := aM (Kd.R_elder' (yH HO226.out) (Kd.R_base ho0) hb); replace HB := aM (below_step yB hb); clear hb ho0; obtain ⟨Ao15, co15, eo15⟩ := Kd.R_slice HO231.out; subst eo15; have q16 : (1 : Int) ≤ ((y224.length : Int) : Int) := yO; obtain ⟨i016, hi016, _, hsz16, _⟩ := info_parts info36; have hroom16 : y224.length ≤ co12 := (Kd.R_reads' HO226.out).2.1; have hC16 : Kd.C kOp _ Ao12 y224.length y224 := (Kd.R_reads' HO226.out).2.2; have hcut16 := cut_to (P := Try.prog) 22 36 .i64 Try.underlying22 hi016 Ao12 y224.length co12 1 (by omega) q16 hroom16; have hr16 := Kd.C_take (m := 1) hC16 (by omega); have hy16 : y232.length = (1 : Int).toNat := (by rw [Ny232.out, lT]; omega); rw [← Ny232.out] at hr16; rw [← hy16] at hcut16; have HR235 := aM hr16; have HC235 := aM (show y232.length ≤ co12 from by omega); clear hr16 hC16 hroom16 hi016 hsz16; have KY16 := aM hy16; clear hy16; have KL16 := aM (show 1 ≤ y224.length from by omega); replace q16 := eq_true q16) | (go_at_call 18; (with_reducible refine (tidy_Idle.calls k _ _ y232 t236 _ ?side1 ?side2 A8.out).mono ?_); (case side1 => repeat (first | exact (by repeat (first | (with_reducible exact HR235.out) | (with_reducible first | refine Kd.C_alloc ?_ _ | refine Kd.C_drewN ?_ _ | refine Kd.C_drew ?_) | exact HR235.out)) | (with_reducible first | refine Kd.C_alloc ?_ _ | refine Kd.C_drewN ?_ _ | refine Kd.C_drew ?_))); (case side2 => exact HC235.out); rintro e w17 ⟨rfl, hb⟩; replace HO226 := aM (Kd.R_below (yH HO226.out) hb); replace HO231 := aM (Kd.R_below (yH HO231.out) hb); replace HR235 := aM (Kd.C_below (by repeat (first | (with_reducible exact HR235.out) | (with_reducible first | refine Kd.C_alloc ?_ _ | refine Kd.C_drewN ?_ _ | refine Kd.C_drew ?_) | exact HR235.out)) hb); replace HB := aM (below_step yB hb); clear hb))
     go_ret
     exact ⟨yE2, yB⟩
    ·rw [if_neg c7] at H
     exact absurd H (by simp)
   ·rw [if_neg c6] at H
    have c6b0 := beq_eq_false_iff_ne.mpr c6; have c6b1 := bne_iff_ne.mpr c6; obtain rfl := Option.some.inj H
    go_enter Try.func13, Try.ntmps13
    go_wp2_with (first | ((with_reducible refine gate_dst (N := 4) rfl ?_); (try (refine gate_guard (by rfl) ?_; dsimp only)); refine Kd.R_lit kOp _ 36 ?hg (N := 4) ?hd (xs := ([(⟨3, 0, (⟨#[97, 10]⟩ : ByteArray)⟩ : Op), (⟨4, 0, (⟨#[97, 10]⟩ : ByteArray)⟩ : Op)] : List (Op))) (inner := [.int .i64 3, .int .i64 0, .string (⟨#[97, 10]⟩ : ByteArray), .int .i64 4, .int .i64 0, .string (⟨#[97, 10]⟩ : ByteArray)]) (ok := fun _ => True) (okp := fun _ => True) ?hr ?hp (fun _ hk => hk) trivial (Below.refl _ _) (Nat.le_refl _) (by simp) ?_; (case hd => rfl); (case hg => rfl); (case hr => first | (go_simp; done) | (go_simp; rfl)); (case hp => exact (Reps.c3 (show Kd.M kOp _ _ _ (⟨3, 0, (⟨#[97, 10]⟩ : ByteArray)⟩ : Op) [.int .i64 3, .int .i64 0, .string (⟨#[97, 10]⟩ : ByteArray)] from (kOp_mkM _ _ _ (⟨3, 0, (⟨#[97, 10]⟩ : ByteArray)⟩ : Op) )) (Reps.c3 (show Kd.M kOp _ _ _ (⟨4, 0, (⟨#[97, 10]⟩ : ByteArray)⟩ : Op) [.int .i64 4, .int .i64 0, .string (⟨#[97, 10]⟩ : ByteArray)] from (kOp_mkM _ _ _ (⟨4, 0, (⟨#[97, 10]⟩ : ByteArray)⟩ : Op) )) (Reps.none _ _)))); intro v225 w18 ho19 hb hg_ hnew_; clear hg_ hnew_; (first | rw [← Ny224.out] at ho19 | (simp only [Int.reduceToNat] at ho19; rw [← Ny224.out] at ho19)); have HO226 := aM (Kd.R_lower ho19 yW); replace HB := aM (below_step yB hb); clear hb ho19) | ((with_reducible refine gate_callee (f := 18) rfl ?_); refine goesL_ (some 5) rfl rfl Try.func18 yK rfl #[.slice none 0 0] rfl yG ?_; (refine (tidy_Idle.calls k _ _ ([] : List (Op)) true _ ?side1 ?side2 A1.out).mono ?_); (case side1 => exact Kd.C_nil _ _); (case side2 => exact Nat.le_refl _); rintro e w20 ⟨rfl, hb⟩; refine ⟨_, rfl, ?_⟩; replace HO226 := aM (Kd.R_below (yH HO226.out) hb); replace HB := aM (below_step yB hb); clear hb; obtain ⟨Ao21, co21, eo21⟩ := Kd.R_slice HO226.out; subst eo21) | (go_at_call 18; (with_reducible refine (tidy_Idle.calls k _ _ y224 true _ (yC (Kd.R_reads' HO226.out).2.2) ((Kd.R_reads' HO226.out).2.1) A3.out).mono ?_); rintro e w22 ⟨rfl, hb⟩; replace HO226 := aM (Kd.R_below (yH HO226.out) hb); replace HB := aM (below_step yB hb); clear hb) | (go_at_call 16; (with_reducible refine (tidy_Ops.calls k _ _ y224 t229 _ (yC (Kd.R_reads' HO226.out).2.2) ((Kd.R_reads' HO226.out).2.1) A5.out).mono ?_); rintro e w23 ⟨v230, rfl, ho0, hb⟩; have HO231 := aM (Kd.R_lower (Kd.R_new' ho0 (Kd.R_lt (yH HO226.out))) yW); replace HO226 := aM (Kd.R_elder' (yH HO226.out) (Kd.R_base ho0) hb); replace HB := aM (below_step yB hb); clear hb ho0; obtain ⟨Ao24, co24, eo24⟩ := Kd.R_slice HO231.out; subst eo24))
    go_ret
    exact ⟨yE2, yB⟩
  ·replace c4 := Bool.eq_false_iff.mpr c4
   subst c4; replace H := iF H; obtain rfl := Option.some.inj H
   go_enter Try.func13, Try.ntmps13
   go_wp2_with (first | ((with_reducible refine gate_dst (N := 4) rfl ?_); (try (refine gate_guard (by rfl) ?_; dsimp only)); refine Kd.R_lit kOp _ 36 ?hg (N := 4) ?hd (xs := ([(⟨3, 0, (⟨#[97, 10]⟩ : ByteArray)⟩ : Op), (⟨4, 0, (⟨#[97, 10]⟩ : ByteArray)⟩ : Op)] : List (Op))) (inner := [.int .i64 3, .int .i64 0, .string (⟨#[97, 10]⟩ : ByteArray), .int .i64 4, .int .i64 0, .string (⟨#[97, 10]⟩ : ByteArray)]) (ok := fun _ => True) (okp := fun _ => True) ?hr ?hp (fun _ hk => hk) trivial (Below.refl _ _) (Nat.le_refl _) (by simp) ?_; (case hd => rfl); (case hg => rfl); (case hr => first | (go_simp; done) | (go_simp; rfl)); (case hp => exact (Reps.c3 (show Kd.M kOp _ _ _ (⟨3, 0, (⟨#[97, 10]⟩ : ByteArray)⟩ : Op) [.int .i64 3, .int .i64 0, .string (⟨#[97, 10]⟩ : ByteArray)] from (kOp_mkM _ _ _ (⟨3, 0, (⟨#[97, 10]⟩ : ByteArray)⟩ : Op) )) (Reps.c3 (show Kd.M kOp _ _ _ (⟨4, 0, (⟨#[97, 10]⟩ : ByteArray)⟩ : Op) [.int .i64 4, .int .i64 0, .string (⟨#[97, 10]⟩ : ByteArray)] from (kOp_mkM _ _ _ (⟨4, 0, (⟨#[97, 10]⟩ : ByteArray)⟩ : Op) )) (Reps.none _ _)))); intro v225 w25 ho26 hb hg_ hnew_; clear hg_ hnew_; (first | rw [← Ny224.out] at ho26 | (simp only [Int.reduceToNat] at ho26; rw [← Ny224.out] at ho26)); have HO226 := aM (Kd.R_lower ho26 yW); replace HB := aM (below_step yB hb); clear hb ho26) | ((with_reducible refine gate_callee (f := 18) rfl ?_); refine goesL_ (some 5) rfl rfl Try.func18 yK rfl #[.slice none 0 0] rfl yG ?_; (refine (tidy_Idle.calls k _ _ ([] : List (Op)) true _ ?side1 ?side2 A1.out).mono ?_); (case side1 => exact Kd.C_nil _ _); (case side2 => exact Nat.le_refl _); rintro e w27 ⟨rfl, hb⟩; refine ⟨_, rfl, ?_⟩; replace HO226 := aM (Kd.R_below (yH HO226.out) hb); replace HB := aM (below_step yB hb); clear hb; obtain ⟨Ao28, co28, eo28⟩ := Kd.R_slice HO226.out; subst eo28) | (go_at_call 18; (with_reducible refine (tidy_Idle.calls k _ _ y224 false _ (yC (Kd.R_reads' HO226.out).2.2) ((Kd.R_reads' HO226.out).2.1) A3.out).mono ?_); rintro e w29 ⟨rfl, hb⟩; replace HO226 := aM (Kd.R_below (yH HO226.out) hb); replace HB := aM (below_step yB hb); clear hb))
   go_ret
   exact ⟨yE2, yB⟩
 ·replace c2 := Bool.eq_false_iff.mpr c2
  subst c2; replace H := iF H; obtain rfl := Option.some.inj H
  go_enter Try.func13, Try.ntmps13
  go_wp2_with (first | ((with_reducible refine gate_dst (N := 4) rfl ?_); (try (refine gate_guard (by rfl) ?_; dsimp only)); refine Kd.R_lit kOp _ 36 ?hg (N := 4) ?hd (xs := ([(⟨3, 0, (⟨#[97, 10]⟩ : ByteArray)⟩ : Op), (⟨4, 0, (⟨#[97, 10]⟩ : ByteArray)⟩ : Op)] : List (Op))) (inner := [.int .i64 3, .int .i64 0, .string (⟨#[97, 10]⟩ : ByteArray), .int .i64 4, .int .i64 0, .string (⟨#[97, 10]⟩ : ByteArray)]) (ok := fun _ => True) (okp := fun _ => True) ?hr ?hp (fun _ hk => hk) trivial (Below.refl _ _) (Nat.le_refl _) (by simp) ?_; (case hd => rfl); (case hg => rfl); (case hr => first | (go_simp; done) | (go_simp; rfl)); (case hp => exact (Reps.c3 (show Kd.M kOp _ _ _ (⟨3, 0, (⟨#[97, 10]⟩ : ByteArray)⟩ : Op) [.int .i64 3, .int .i64 0, .string (⟨#[97, 10]⟩ : ByteArray)] from (kOp_mkM _ _ _ (⟨3, 0, (⟨#[97, 10]⟩ : ByteArray)⟩ : Op) )) (Reps.c3 (show Kd.M kOp _ _ _ (⟨4, 0, (⟨#[97, 10]⟩ : ByteArray)⟩ : Op) [.int .i64 4, .int .i64 0, .string (⟨#[97, 10]⟩ : ByteArray)] from (kOp_mkM _ _ _ (⟨4, 0, (⟨#[97, 10]⟩ : ByteArray)⟩ : Op) )) (Reps.none _ _)))); intro v225 w30 ho31 hb hg_ hnew_; clear hg_ hnew_; (first | rw [← Ny224.out] at ho31 | (simp only [Int.reduceToNat] at ho31; rw [← Ny224.out] at ho31)); have HO226 := aM (Kd.R_lower ho31 yW); replace HB := aM (below_step yB hb); clear hb ho31) | ((with_reducible refine gate_callee (f := 18) rfl ?_); refine goesL_ (some 5) rfl rfl Try.func18 yK rfl #[.slice none 0 0] rfl yG ?_; (refine (tidy_Idle.calls k _ _ ([] : List (Op)) false _ ?side1 ?side2 A1.out).mono ?_); (case side1 => exact Kd.C_nil _ _); (case side2 => exact Nat.le_refl _); rintro e w32 ⟨rfl, hb⟩; refine ⟨_, rfl, ?_⟩; replace HO226 := aM (Kd.R_below (yH HO226.out) hb); replace HB := aM (below_step yB hb); clear hb))
  go_ret
  exact ⟨yE2, yB⟩
end Go.Proofs.Ytacpejblnjgcoaa.P
