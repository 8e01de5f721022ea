/- Own and printed texts that the theorem of WitnessBoth reaches, put together. -/
import Derived.Test.YtkiklmmpflndbaaDoorqWitnessBoth4
import Derived.Test.YtkiklmmpflndbaaDoorqWitnessBoth3
import Derived.Test.YtkiklmmpflndbaaDoorqWitnessBoth9
set_option linter.unusedVariables false
set_option linter.unusedSimpArgs false
namespace Go.Proofs.YtkiklmmpflndbaaDoor.P
open Go.RowKit Go.Proofs.YtkiklmmpflndbaaDoorW.PrintWords Go.Proofs.YtkiklmmpflndbaaDoorW.PrintLast Go.Proofs.YtkiklmmpflndbaaDoorW.PrintMore
open Go.Proofs.YtkiklmmpflndbaaDoorW.PrintWords.Aside0 renaming mk → aM
open Go.World renaming block_lt_of_cell? → bL
open List renaming setIfInBounds_toArray → sI, set_cons_zero → sZ, set_cons_succ → sS, length_drop → lD
attribute [local go_sem] max2_int min2_int max_two min_two max_three min_three max_four min_four
set_option maxHeartbeats 8000000 in
set_option maxRecDepth 100000 in
theorem patchworkref8_on.calls (P0_ : Nat → Prop) (A0 : Option Addr) (c0 : Nat) (l0 : List (Op)) (a1 : Int) (r : List (Op)) (w : World) (hs0 : Kd.V kOp 32 w w.heap.size (fun k_ => P0_ k_) (.slice A0 l0.length c0) l0) (h : patchworkref8_on.f l0 a1 = some r) :
  Calls Tryd.prog 47 #[.slice A0 l0.length c0, .int .i64 a1] w fun e w' => ∃ v0_ : Value, e = .returned (v0_) ∧ Kd.V kOp 32 w' w.heap.size (fun k_ => (P0_ k_ ∨ w.heap.size ≤ k_)) v0_ r ∧ Below w.heap.size w w' := by
 have hu32 := Tryd.underlying32
 have HO0 := aM (show Kd.V kOp 32 w w.heap.size (fun k_ => (P0_ k_ ∨ w.heap.size ≤ k_)) (.slice A0 l0.length c0) l0 from Kd.V_mono hs0 (fun k_ hk => .inl hk))
 have HB := aM (Below.refl w.heap.size w)
 have H : (if (l0.length : Int) = 0 then (some l0) else (if 0 < (l0.length : Int) then (if ((rd_Op l0 0).f0) = 1 then (if ((rd_Op l0 0).f1) > a1 then ((some (([(⟨1, wrap64 (((rd_Op l0 0).f1) - a1), (⟨#[]⟩ : ByteArray)⟩ : Op)] : List (Op)) : List (Op))).bind fun y360 => (if 1 ≤ (l0.length : Int) then ((some (l0.drop 1 : List (Op))).bind fun y363 => (if y360.length + y363.length < 4398046511104 then (some (y360 ++ y363)) else (none))) else (none))) else (if 1 ≤ (l0.length : Int) then (some (l0.drop 1)) else (none))) else (if 1 ≤ (l0.length : Int) then (some (l0.drop 1)) else (none))) else (none))) = some r := h
 clear h
 by_cases c3 : (l0.length : Int) = 0
 ·rw [if_pos c3] at H
  have c3b0 := beq_iff_eq.mpr c3; have c3b1 := bne_eq_false_iff_eq.mpr c3; clear c3; obtain rfl := Option.some.inj H
  go_enter Tryd.func47, Tryd.ntmps47
  go_wp2
  go_ret
  exact ⟨_, by first | rfl | (simp [errW_none, errW_some] <;> rfl) | (simp [*, errW_none, errW_some] <;> rfl), by (with_reducible repeat (first | apply Kd.V_alloc | apply Kd.V_drewN | apply Kd.V_drew)); exact HO0.out, yB⟩
 ·rw [if_neg c3] at H
  have c3b0 := beq_eq_false_iff_ne.mpr c3; have c3b1 := bne_iff_ne.mpr c3; have c3b2 : ¬ (l0 = []) := fun h_ => c3 (by rw [h_]; rfl)
  by_cases c4 : 0 < (l0.length : Int)
  ·rw [if_pos c4] at H
   have c4b0 := decide_eq_true c4; have c4b1 : decide (0 < l0.length) = true := decide_eq_true (by omega); clear c4
   by_cases c5 : ((rd_Op l0 0).f0) = 1
   ·rw [if_pos c5] at H
    have c5b0 := beq_iff_eq.mpr c5; have c5b1 := bne_eq_false_iff_eq.mpr c5; clear c5
    by_cases c6 : ((rd_Op l0 0).f1) > a1
    ·rw [if_pos c6] at H
     have c6b0 := decide_eq_true c6; clear c6; replace H := oS H; obtain ⟨y360, Ny360, H⟩ := H
     by_cases c7 : 1 ≤ (l0.length : Int)
     ·rw [if_pos c7] at H
      have c7b0 := eq_true c7; have c7b1 := decide_eq_true c7; clear c7; replace H := oS H; obtain ⟨y363, Ny363, H⟩ := H
      by_cases c8 : y360.length + y363.length < 4398046511104
      ·rw [if_pos c8] at H
       have LMc8 := aM c8; clear c8; obtain ⟨y368, hy368⟩ : ∃ y_ : List (Op), y_ = (y360 ++ y363) := ⟨_, rfl⟩; replace H : (some y368) = some r := yN hy368 H
       have Ny368 := aM hy368; clear hy368; obtain rfl := Option.some.inj H; have p357 : 0 ≤ (0 : Int) := (by omega); have q357 : 0 < (l0.length : Int) := yO; obtain ⟨ad357, e357, hx357_0, hx357_1, hx357_2⟩ := at_Op (Kd.V_reads' HO0.out).2.2 0 p357 q357; cases e357; have qi357 : (0 < l0.length) = True := eq_true (by omega)
       (try rw [show ((0 : Int)).toNat = 0 from rfl] at hx357_0)
       (try rw [show 0 * 3 = 0 from rfl] at hx357_0)
       (try rw [Addr.add_zero'] at hx357_0)
       (try rw [show ((0 : Int)).toNat = 0 from rfl] at hx357_1)
       (try rw [show 0 * 3 = 0 from rfl] at hx357_1)
       (try rw [Addr.add_zero'] at hx357_1)
       (try rw [show ((0 : Int)).toNat = 0 from rfl] at hx357_2)
       (try rw [show 0 * 3 = 0 from rfl] at hx357_2)
       (try rw [Addr.add_zero'] at hx357_2)
       replace p357 := eq_true p357; replace q357 := eq_true q357; have p358 : 0 ≤ (0 : Int) := (by omega); have q358 : 0 < (l0.length : Int) := yO; obtain ⟨ad358, e358, hx358_0, hx358_1, hx358_2⟩ := at_Op (Kd.V_reads' HO0.out).2.2 0 p358 q358; obtain rfl : ad357 = ad358 := (by injection e358); have qi358 : (0 < l0.length) = True := eq_true (by omega)
       (try rw [show ((0 : Int)).toNat = 0 from rfl] at hx358_0)
       (try rw [show 0 * 3 = 0 from rfl] at hx358_0)
       (try rw [Addr.add_zero'] at hx358_0)
       (try rw [show ((0 : Int)).toNat = 0 from rfl] at hx358_1)
       (try rw [show 0 * 3 = 0 from rfl] at hx358_1)
       (try rw [Addr.add_zero'] at hx358_1)
       (try rw [show ((0 : Int)).toNat = 0 from rfl] at hx358_2)
       (try rw [show 0 * 3 = 0 from rfl] at hx358_2)
       (try rw [Addr.add_zero'] at hx358_2)
       replace p358 := eq_true p358; replace q358 := eq_true q358
       go_enter Tryd.func47, Tryd.ntmps47
       try go_wp2
       replace HO0 := aM (Kd.V_drew HO0.out); replace HB := aM (below_drew1 HB.out); have p359 : 0 ≤ (0 : Int) := (by omega); have q359 : 0 < (l0.length : Int) := yO; obtain ⟨ad359, e359, hx359_0, hx359_1, hx359_2⟩ := at_Op (Kd.V_reads' HO0.out).2.2 0 p359 q359; obtain rfl : ad357 = ad359 := (by injection e359); have qi359 : (0 < l0.length) = True := eq_true (by omega)
       (try rw [show ((0 : Int)).toNat = 0 from rfl] at hx359_0)
       (try rw [show 0 * 3 = 0 from rfl] at hx359_0)
       (try rw [Addr.add_zero'] at hx359_0)
       (try rw [show ((0 : Int)).toNat = 0 from rfl] at hx359_1)
       (try rw [show 0 * 3 = 0 from rfl] at hx359_1)
       (try rw [Addr.add_zero'] at hx359_1)
       (try rw [show ((0 : Int)).toNat = 0 from rfl] at hx359_2)
       (try rw [show 0 * 3 = 0 from rfl] at hx359_2)
       (try rw [Addr.add_zero'] at hx359_2)
       replace p359 := eq_true p359; replace q359 := eq_true q359; have q10 : (1 : Int) ≤ ((l0.length : Int) : Int) := yO; obtain ⟨i010, hi010, _, hsz10, _⟩ := info_parts info32; have hroom10 : l0.length ≤ c0 := (Kd.V_reads' HO0.out).2.1; have hC10 : Kd.F kOp _ _ (some ad357) l0.length l0 := (Kd.V_at (base := w.heap.size) HO0.out).2.2; have hcut10 := cut_from (P := Tryd.prog) 22 32 .i64 Tryd.underlying22 hi010 3 hsz10 (some ad357) l0.length c0 1 (by omega) q10; have hr10 := Kd.F_cut (m := (1 : Int).toNat) (c := c0) hC10 (by omega) hroom10; obtain ⟨A10, hA10⟩ : ∃ A1, A1 = (if c0 = (1 : Int).toNat then (some ad357) else ((some ad357) : Option Addr).map (·.add ((1 : Int).toNat * 3))) := ⟨_, rfl⟩; obtain ⟨c10, hc10⟩ : ∃ c1, c1 = c0 - (1 : Int).toNat := ⟨_, rfl⟩; have hy10 : y363.length = l0.length - (1 : Int).toNat := (by rw [Ny363.out, lD] <;> omega); rw [show (l0).drop (1 : Int).toNat = y363 from Ny363.out.symm] at hr10; replace hr10 : Kd.F kOp _ _ A10 y363.length y363 := (by rw [hA10]; exact hr10); rw [← hy10, ← hA10, ← hc10] at hcut10; have HO367 := aM (show Kd.V kOp 32 _ w.heap.size _ (.slice A10 y363.length c10) y363 from Kd.V_mk (by rw [hy10, hc10]; exact Nat.sub_le_sub_right hroom10 _) hr10); have HC367 := aM (show y363.length ≤ c10 from by rw [hy10, hc10]; exact Nat.sub_le_sub_right hroom10 _); clear hr10 hC10 hroom10 hi010 hsz10 hc10; have KY10 := aM hy10; have KA10 := aM hA10; clear hy10 hA10; replace q10 := eq_true q10
       refine start_ (n := 12) (S := fun w' => w'.cell? ad357 = some (.int .i64 ((rd_Op l0 0).f0)) ∧ w'.cell? ⟨ad357.block, ad357.off + 1, none⟩ = some (.int .i64 ((rd_Op l0 0).f1)) ∧ w'.cell? ⟨ad357.block, ad357.off + 2, none⟩ = some (.string ((rd_Op l0 0).f2))) (ds := [10]) #[false, false, false, false, false, false, false, false, false, false, false, false] yK rfl rfl ⟨hx359_0, hx359_1, hx359_2⟩ (fun hHeld => ?_); refine with_tabW patchworkref8_on.tab4 patchworkref8_on.bits4 (fun HT_ HW_ => ?_)
       generalize w.drew = w9 at HO0 HB HO367 hx359_0 hx359_1 hx359_2 hHeld ⊢
       refine pure_ (i := 0) (N := some 22) (v := ?_) (a' := ?_) #[true, false, false, false, false, false, false, false, false, false, false, false] rfl rfl (any_of HT_.out yK) yI (Or.inl ⟨by rfl, ?_⟩) ?_ ?_
       rotate_left; exact yP1; rotate_left; exact yP2
       refine pure_ (i := 1) (N := some 23) (v := ?_) (a' := ?_) #[true, true, false, false, false, false, false, false, false, false, false, false] rfl rfl (any_of HT_.out yK) yI (Or.inl ⟨by rfl, ?_⟩) ?_ ?_
       rotate_left; exact yP1; rotate_left; exact yP2
       refine pure_ (i := 2) (N := some 24) (v := ?_) (a' := ?_) #[true, true, true, false, false, false, false, false, false, false, false, false] rfl rfl (any_of HT_.out yK) yI (Or.inl ⟨by rfl, ?_⟩) ?_ ?_
       rotate_left; exact yP1; rotate_left; exact yP2
       refine pure_ (i := 4) (N := some 26) (v := ?_) (a' := ?_) #[true, true, true, false, true, false, false, false, false, false, false, false] rfl rfl (any_of HT_.out yK) yI (Or.inl ⟨by rfl, ?_⟩) ?_ ?_
       rotate_left; exact yP1; rotate_left; exact yP2
       refine pure_ (i := 8) (N := some 30) (v := ?_) (a' := ?_) #[true, true, true, false, true, false, false, false, true, false, false, false] rfl rfl (any_of HT_.out yK) yI (Or.inl ⟨by rfl, ?_⟩) ?_ ?_
       rotate_left; exact yP1; rotate_left; exact yP2
       refine pure_ (i := 9) (N := some 31) (v := ?_) (a' := ?_) #[true, true, true, false, true, false, false, false, true, true, false, false] rfl rfl (any_of HT_.out yK) yI (Or.inl ⟨by rfl, ?_⟩) ?_ ?_
       rotate_left; exact yP1; rotate_left; exact yP2
       refine take_ (i := 3) (N := some 25) (v := ?_) (a' := ?_) #[true, true, true, true, true, false, false, false, true, true, false, false] rfl rfl (take_ofW HT_.out HW_.out yK) (fun _ _ _ h => h) (Or.inl ⟨by rfl, ?_⟩) hHeld ?_ ?_
       rotate_left
       ·rintro w' ⟨s0, s1, s2⟩
        go_simp
        with_reducible rfl
       rotate_left
       ·simp only [Act.put, sI, sZ, sS, i64_w, i32_w]
        rfl
       refine pure_ (i := 5) (N := some 27) (v := ?_) (a' := ?_) #[true, true, true, true, true, true, false, false, true, true, false, false] rfl rfl (any_of HT_.out yK) yI (Or.inl ⟨by rfl, ?_⟩) ?_ ?_
       rotate_left; exact yP1; rotate_left; exact yP2
       refine pure_ (i := 6) (N := some 28) (v := ?_) (a' := ?_) #[true, true, true, true, true, true, true, false, true, true, false, false] rfl rfl (any_of HT_.out yK) yI (Or.inl ⟨by rfl, ?_⟩) ?_ ?_
       rotate_left; exact yP1; rotate_left; exact yP2
       refine one_ (i := 7) (N := some 29) #[true, true, true, true, true, true, true, true, true, true, false, false] rfl rfl (one_of HT_.out yK) (by decide) (fun K hK => ?_)
       refine Kd.R_lit_step kOp _ 32 ?hg (N := 29) ?hd (xs := ([(⟨1, wrap64 (((rd_Op l0 0).f1) - a1), (⟨#[]⟩ : ByteArray)⟩ : Op)] : List (Op))) (inner := [.int .i64 1, .int .i64 (wrap64 (((rd_Op l0 0).f1) - a1)), .string (⟨#[]⟩ : ByteArray)]) (ok := fun _ => True) (okp := fun _ => True) ?hr ?hp (fun _ hk => hk) trivial (Below.refl _ _) (Nat.le_refl _) (by simp) ?_; (case hd => rfl); (case hg => rfl); (case hr => first | (go_simp; done) | (go_simp; rfl)); (case hp => exact (Reps.c3 (show Kd.M kOp _ _ _ (⟨1, wrap64 (((rd_Op l0 0).f1) - a1), (⟨#[]⟩ : ByteArray)⟩ : Op) [.int .i64 1, .int .i64 (wrap64 (((rd_Op l0 0).f1) - a1)), .string (⟨#[]⟩ : ByteArray)] from (kOp_mkM _ _ _ (⟨1, wrap64 (((rd_Op l0 0).f1) - a1), (⟨#[]⟩ : ByteArray)⟩ : Op) )) (Reps.none _ _)))
       intro v361 w11 ho12 hb hg_ hnew_
       have HS0_ := (hb.cell (bL _ _ (hHeld.1))).trans (hHeld.1); have HS1_ := (hb.cell (bL _ _ (hHeld.2.1))).trans (hHeld.2.1); have HS2_ := (hb.cell (bL _ _ (hHeld.2.2))).trans (hHeld.2.2); clear hg_ hnew_
       (first | rw [← Ny360.out] at ho12 | (simp only [Int.reduceToNat] at ho12; rw [← Ny360.out] at ho12))
       replace HO0 := aM (Kd.V_elder' (by (with_reducible repeat (first | apply Kd.V_alloc | apply Kd.V_drewN | apply Kd.V_drew)); exact HO0.out) (Kd.R_base ho12) hb); replace HO367 := aM (Kd.V_elder' (by (with_reducible repeat (first | apply Kd.V_alloc | apply Kd.V_drewN | apply Kd.V_drew)); exact HO367.out) (Kd.R_base ho12) hb); have HO362 := aM (Kd.R_lower (Kd.R_newM (M := fun k_ => (w.heap.size ≤ k_)) ho12 yW (fun k_ h_ => h_)) yW); replace HB := aM (below_step yB hb); clear hb ho12
       refine hK.out _ _ ⟨HS0_, HS1_, HS2_⟩ (fun hHeld => ?_)
       clear hK K
       refine norm_ (a' := ?_) ?_ ?_
       rotate_left
       ·show Act.put _ (some 29) _ = _
        simp only [Act.put, sI, sZ, sS, i64_w, i32_w]
        rfl
       refine last_ (i := 10) (N := some 32) #[true, true, true, true, true, true, true, true, true, true, true, false] rfl rfl (one_of HT_.out yK) (by decide) (fun K hK => ?_)
       refine Kd.R_append_rows_step kOp (w0 := w) w.heap.size (by rfl) (.tmp 29) (.tmp 31) 22 32 (.agg #[(.int .i64 0), (.int .i64 0), (.string ⟨#[]⟩)]) 32 rfl Tryd.underlying22 info32 rfl (by decide) (by omega) v361 y360 y363 _ _ _ (fun k_ => (w.heap.size ≤ k_)) (fun _ => False) rfl rfl ?aO ?aR (fun _ _ h => h) (fun _ h => h.elim) ?aF ?aB ?aS ?aL ?_
       (case aR => repeat (first | exact (Kd.V_reads' HO367.out).2.2 | (with_reducible first | refine Kd.C_alloc ?_ _ | refine Kd.C_drewN ?_ _ | refine Kd.C_drew ?_)))
       (case aB => exact yB)
       (case aF => exact (fun k_ hk => (Nat.le_trans yW hk)))
       (case aO => exact (by (with_reducible repeat (first | apply Kd.R_alloc | apply Kd.R_drewN | apply Kd.R_drew)); exact Kd.R_mono HO362.out (fun _ hk => hk.1)))
       (case aS => exact yW)
       (case aL => have := LMc8.out; omega)
       intro v369 w13 ho hb hg hat
       rw [← Ny368.out] at ho; have n0_ := aM (Kd.V_afterv (ok := (fun k_ => (P0_ k_ ∨ w.heap.size ≤ k_))) (by (with_reducible repeat (first | apply Kd.V_alloc | apply Kd.V_drewN | apply Kd.V_drew)); exact HO0.out) hg hat); have n1_ := aM (Kd.V_afterv (ok := (fun k_ => (P0_ k_ ∨ w.heap.size ≤ k_))) (by (with_reducible repeat (first | apply Kd.V_alloc | apply Kd.V_drewN | apply Kd.V_drew)); exact HO367.out) hg hat); have n2_ := aM (hb); have n3_ := aM (ho); clear HO0; clear HO367; clear HB; clear HO362; have HO0 := n0_; have HO367 := n1_; have HB := n2_; have HO370 := n3_; clear n0_ n1_ n2_ n3_; clear ho hb hg hat
       refine hK.out _ _ ?_
       clear hK K
       refine norm_ (a' := ?_) ?_ ?_
       rotate_left
       ·show Act.put _ (some 32) _ = _
        simp only [Act.put, sI, sZ, sS, i64_w, i32_w]
        rfl
       refine pure_ (i := 11) (N := some 4) (v := ?_) (a' := ?_) #[true, true, true, true, true, true, true, true, true, true, true, true] rfl rfl (any_of HT_.out yK) yI (Or.inl ⟨by rfl, ?_⟩) ?_ ?_
       rotate_left; exact yP1; rotate_left; exact yP2
       refine done_ (done_of HT_.out yK) ?_
       try go_wp2
       go_ret
       exact ⟨_, by first | rfl | (simp [errW_none, errW_some] <;> rfl) | (simp [*, errW_none, errW_some] <;> rfl), Kd.V_mono (Kd.R_V (yH HO370.out)) (fun k_ hk => by first | exact ⟨(.inr (hk.1)), hk.2⟩ | exact (.inr (hk))), yB⟩
      ·rw [if_neg c8] at H
       exact absurd H (by simp)
     ·rw [if_neg c7] at H
      exact absurd H (by simp)
    ·rw [if_neg c6] at H
     have c6b0 := decide_eq_false c6; clear c6
     by_cases c14 : 1 ≤ (l0.length : Int)
     ·rw [if_pos c14] at H
      have c14b0 := eq_true c14; have c14b1 := decide_eq_true c14; clear c14; obtain ⟨y371, hy371⟩ : ∃ y_ : List (Op), y_ = (l0.drop 1) := ⟨_, rfl⟩; replace H : (some y371) = some r := yN hy371 H
      have Ny371 := aM hy371; clear hy371; obtain rfl := Option.some.inj H; have p357 : 0 ≤ (0 : Int) := (by omega); have q357 : 0 < (l0.length : Int) := yO; obtain ⟨ad357, e357, hx357_0, hx357_1, hx357_2⟩ := at_Op (Kd.V_reads' HO0.out).2.2 0 p357 q357; cases e357; have qi357 : (0 < l0.length) = True := eq_true (by omega)
      (try rw [show ((0 : Int)).toNat = 0 from rfl] at hx357_0)
      (try rw [show 0 * 3 = 0 from rfl] at hx357_0)
      (try rw [Addr.add_zero'] at hx357_0)
      (try rw [show ((0 : Int)).toNat = 0 from rfl] at hx357_1)
      (try rw [show 0 * 3 = 0 from rfl] at hx357_1)
      (try rw [Addr.add_zero'] at hx357_1)
      (try rw [show ((0 : Int)).toNat = 0 from rfl] at hx357_2)
      (try rw [show 0 * 3 = 0 from rfl] at hx357_2)
      (try rw [Addr.add_zero'] at hx357_2)
      replace p357 := eq_true p357; replace q357 := eq_true q357; have p358 : 0 ≤ (0 : Int) := (by omega); have q358 : 0 < (l0.length : Int) := yO; obtain ⟨ad358, e358, hx358_0, hx358_1, hx358_2⟩ := at_Op (Kd.V_reads' HO0.out).2.2 0 p358 q358; obtain rfl : ad357 = ad358 := (by injection e358); have qi358 : (0 < l0.length) = True := eq_true (by omega)
      (try rw [show ((0 : Int)).toNat = 0 from rfl] at hx358_0)
      (try rw [show 0 * 3 = 0 from rfl] at hx358_0)
      (try rw [Addr.add_zero'] at hx358_0)
      (try rw [show ((0 : Int)).toNat = 0 from rfl] at hx358_1)
      (try rw [show 0 * 3 = 0 from rfl] at hx358_1)
      (try rw [Addr.add_zero'] at hx358_1)
      (try rw [show ((0 : Int)).toNat = 0 from rfl] at hx358_2)
      (try rw [show 0 * 3 = 0 from rfl] at hx358_2)
      (try rw [Addr.add_zero'] at hx358_2)
      replace p358 := eq_true p358; replace q358 := eq_true q358; have q15 : (1 : Int) ≤ ((l0.length : Int) : Int) := yO; obtain ⟨i015, hi015, _, hsz15, _⟩ := info_parts info32; have hroom15 : l0.length ≤ c0 := (Kd.V_reads' HO0.out).2.1; have hC15 : Kd.F kOp _ _ (some ad357) l0.length l0 := (Kd.V_at (base := w.heap.size) HO0.out).2.2; have hcut15 := cut_from (P := Tryd.prog) 22 32 .i64 Tryd.underlying22 hi015 3 hsz15 (some ad357) l0.length c0 1 (by omega) q15; have hr15 := Kd.F_cut (m := (1 : Int).toNat) (c := c0) hC15 (by omega) hroom15; obtain ⟨A15, hA15⟩ : ∃ A1, A1 = (if c0 = (1 : Int).toNat then (some ad357) else ((some ad357) : Option Addr).map (·.add ((1 : Int).toNat * 3))) := ⟨_, rfl⟩; obtain ⟨c15, hc15⟩ : ∃ c1, c1 = c0 - (1 : Int).toNat := ⟨_, rfl⟩; have hy15 : y371.length = l0.length - (1 : Int).toNat := (by rw [Ny371.out, lD] <;> omega); rw [show (l0).drop (1 : Int).toNat = y371 from Ny371.out.symm] at hr15; replace hr15 : Kd.F kOp _ _ A15 y371.length y371 := (by rw [hA15]; exact hr15); rw [← hy15, ← hA15, ← hc15] at hcut15; have HO375 := aM (show Kd.V kOp 32 _ w.heap.size _ (.slice A15 y371.length c15) y371 from Kd.V_mk (by rw [hy15, hc15]; exact Nat.sub_le_sub_right hroom15 _) hr15); have HC375 := aM (show y371.length ≤ c15 from by rw [hy15, hc15]; exact Nat.sub_le_sub_right hroom15 _); clear hr15 hC15 hroom15 hi015 hsz15 hc15; have KY15 := aM hy15; have KA15 := aM hA15; clear hy15 hA15; replace q15 := eq_true q15
      go_enter Tryd.func47, Tryd.ntmps47
      go_wp2
      go_ret
      exact ⟨_, by first | rfl | (simp [errW_none, errW_some] <;> rfl) | (simp [*, errW_none, errW_some] <;> rfl), by (with_reducible repeat (first | apply Kd.V_alloc | apply Kd.V_drewN | apply Kd.V_drew)); exact HO375.out, yB⟩
     ·rw [if_neg c14] at H
      exact absurd H (by simp)
   ·rw [if_neg c5] at H
    have c5b0 := beq_eq_false_iff_ne.mpr c5; have c5b1 := bne_iff_ne.mpr c5
    by_cases c16 : 1 ≤ (l0.length : Int)
    ·rw [if_pos c16] at H
     have c16b0 := eq_true c16; have c16b1 := decide_eq_true c16; clear c16; obtain ⟨y376, hy376⟩ : ∃ y_ : List (Op), y_ = (l0.drop 1) := ⟨_, rfl⟩; replace H : (some y376) = some r := yN hy376 H
     have Ny376 := aM hy376; clear hy376; obtain rfl := Option.some.inj H; have p357 : 0 ≤ (0 : Int) := (by omega); have q357 : 0 < (l0.length : Int) := yO; obtain ⟨ad357, e357, hx357_0, hx357_1, hx357_2⟩ := at_Op (Kd.V_reads' HO0.out).2.2 0 p357 q357; cases e357; have qi357 : (0 < l0.length) = True := eq_true (by omega)
     (try rw [show ((0 : Int)).toNat = 0 from rfl] at hx357_0)
     (try rw [show 0 * 3 = 0 from rfl] at hx357_0)
     (try rw [Addr.add_zero'] at hx357_0)
     (try rw [show ((0 : Int)).toNat = 0 from rfl] at hx357_1)
     (try rw [show 0 * 3 = 0 from rfl] at hx357_1)
     (try rw [Addr.add_zero'] at hx357_1)
     (try rw [show ((0 : Int)).toNat = 0 from rfl] at hx357_2)
     (try rw [show 0 * 3 = 0 from rfl] at hx357_2)
     (try rw [Addr.add_zero'] at hx357_2)
     replace p357 := eq_true p357; replace q357 := eq_true q357; have q17 : (1 : Int) ≤ ((l0.length : Int) : Int) := yO; obtain ⟨i017, hi017, _, hsz17, _⟩ := info_parts info32; have hroom17 : l0.length ≤ c0 := (Kd.V_reads' HO0.out).2.1; have hC17 : Kd.F kOp _ _ (some ad357) l0.length l0 := (Kd.V_at (base := w.heap.size) HO0.out).2.2; have hcut17 := cut_from (P := Tryd.prog) 22 32 .i64 Tryd.underlying22 hi017 3 hsz17 (some ad357) l0.length c0 1 (by omega) q17; have hr17 := Kd.F_cut (m := (1 : Int).toNat) (c := c0) hC17 (by omega) hroom17; obtain ⟨A17, hA17⟩ : ∃ A1, A1 = (if c0 = (1 : Int).toNat then (some ad357) else ((some ad357) : Option Addr).map (·.add ((1 : Int).toNat * 3))) := ⟨_, rfl⟩; obtain ⟨c17, hc17⟩ : ∃ c1, c1 = c0 - (1 : Int).toNat := ⟨_, rfl⟩; have hy17 : y376.length = l0.length - (1 : Int).toNat := (by rw [Ny376.out, lD] <;> omega); rw [show (l0).drop (1 : Int).toNat = y376 from Ny376.out.symm] at hr17; replace hr17 : Kd.F kOp _ _ A17 y376.length y376 := (by rw [hA17]; exact hr17); rw [← hy17, ← hA17, ← hc17] at hcut17; have HO380 := aM (show Kd.V kOp 32 _ w.heap.size _ (.slice A17 y376.length c17) y376 from Kd.V_mk (by rw [hy17, hc17]; exact Nat.sub_le_sub_right hroom17 _) hr17); have HC380 := aM (show y376.length ≤ c17 from by rw [hy17, hc17]; exact Nat.sub_le_sub_right hroom17 _); clear hr17 hC17 hroom17 hi017 hsz17 hc17; have KY17 := aM hy17; have KA17 := aM hA17; clear hy17 hA17; replace q17 := eq_true q17
     go_enter Tryd.func47, Tryd.ntmps47
     go_wp2
     go_ret
     exact ⟨_, by first | rfl | (simp [errW_none, errW_some] <;> rfl) | (simp [*, errW_none, errW_some] <;> rfl), by (with_reducible repeat (first | apply Kd.V_alloc | apply Kd.V_drewN | apply Kd.V_drew)); exact HO380.out, yB⟩
    ·rw [if_neg c16] at H
     exact absurd H (by simp)
  ·rw [if_neg c4] at H
   exact absurd H (by simp)
set_option maxHeartbeats 8000000 in
set_option maxRecDepth 100000 in
theorem patchworkref8_norm.calls (k : Nat) (A0 : Option Addr) (c0 : Nat) (l0 : List (Op)) (r : List (Op)) (w : World) (hr0 : Kd.C kOp w A0 l0.length l0) (hc0 : l0.length ≤ c0) (h : patchworkref8_norm.f k l0 = some r) :
  Calls Tryd.prog 33 #[.slice A0 l0.length c0] w fun e w' => ∃ v0_ : Value, e = .returned (v0_) ∧ Kd.R kOp 32 w' w.heap.size (fun _ => True) v0_ r ∧ Below w.heap.size w w' := by
 have hu32 := Tryd.underlying32
 have HR0 := aM hr0
 have HC0 := aM hc0
 clear hr0 hc0
 have HB := aM (Below.refl w.heap.size w)
 have H : (patchworkref8_norm.l0 k l0 ([] : List (Op)) ([] : List (Op)) 0) = some r := h
 clear h
 have H' := aM H
 clear H
 go_enter Tryd.func33, Tryd.ntmps33
 go_wp2
 go_loopg [3, 4, 5] k (fun kq v3 v4 v5 w' => ∃ (x3_1 : List (Op)) (x4_1 : List (Op)) (x5_1 : Int), v5 = .int .i64 x5_1 ∧ Aside0 (patchworkref8_norm.l0 kq l0 x3_1 x4_1 x5_1 = some r) ∧ Aside0 (kq ≤ k) ∧ Aside0 (Kd.R kOp 32 w' w.heap.size (fun k_ => some k_ ≠ (v4 : Value).ownBlock) v3 x3_1) ∧ Aside0 (Kd.R kOp 32 w' w.heap.size (fun k_ => some k_ ≠ (v3 : Value).ownBlock) v4 x4_1) ∧ Aside0 (Below w.heap.size w w'))
 case atStart => exact ⟨(([] : List (Op))), (([] : List (Op))), (0), yE, H', ⟨Nat.le_refl _⟩, ⟨by first | exact Kd.R_nil _ _ _ _ _ | exact Kd.N_nil _ _ _ _ _ | exact Kd.V_nil _ _ _ _ _ | exact Kd.Q_nil _ _ _ _ _ | exact Kd.S_nil _ _ _ _ _⟩, ⟨by first | exact Kd.R_nil _ _ _ _ _ | exact Kd.N_nil _ _ _ _ _ | exact Kd.V_nil _ _ _ _ _ | exact Kd.Q_nil _ _ _ _ _ | exact Kd.S_nil _ _ _ _ _⟩, ⟨yB⟩⟩
 case round =>
  clear H'; obtain ⟨x3_1, x4_1, x5_1, rfl, HA, HK1, HO_3, HO_4, HB⟩ := hrel; cases gk with
  | zero => exact absurd HA.out (by simp [patchworkref8_norm.l0])
  | succ k1 =>
   have H := HA.out; clear HA; simp only [patchworkref8_norm.l0] at H
   by_cases c2 : x5_1 ≤ (l0.length : Int)
   ·rw [if_pos c2] at H
    have c2b0 := decide_eq_true c2; clear c2; have HC3 := aM H; clear H
    go_upto_region 5 with (fail)
    go_cut [23] (fun v23 wc => ∃ (kq : Nat) (x23_2 : Bool), v23 = .bool x23_2 ∧ Aside0 (patchworkref8_norm.j1 kq l0 x3_1 x4_1 x5_1 x23_2 = some r) ∧ Aside0 (kq ≤ k1) ∧ Aside0 (Kd.R kOp 32 wc w.heap.size (fun k_ => some k_ ≠ (u4 : Value).ownBlock) u3 x3_1) ∧ Aside0 (Kd.R kOp 32 wc w.heap.size (fun k_ => some k_ ≠ (u3 : Value).ownBlock) u4 x4_1) ∧ Aside0 (Below w.heap.size w wc))
    case first =>
     have H := HC3.out; clear HC3
     by_cases c4 : x5_1 < (l0.length : Int)
     ·rw [if_pos c4] at H
      have c4b0 := decide_eq_true c4; clear c4
      (first | rw [c4b0] | (simp only [i64_w, i32_w]; rw [c4b0]) | skip)
      by_cases c5 : 0 ≤ x5_1
      ·rw [if_pos c5] at H
       have c5b0 := decide_eq_true c5; clear c5; have H' := aM H; clear H; have p381 : 0 ≤ (x5_1 : Int) := yO; have q381 : x5_1 < (l0.length : Int) := yO; obtain ⟨ad381, e381, hx381_0, hx381_1, hx381_2⟩ := at_OpB HB.out HR0.out x5_1 p381 q381; cases e381; replace p381 := eq_true p381; replace q381 := eq_true q381
       go_wp2
       go_meet
       case rel => exact ⟨_, ((((rd_Op l0 x5_1).f0) == 4)), yE, H', ⟨by have := HK1.out; first | omega | exact Nat.le_refl _⟩, ⟨yH HO_3.out⟩, ⟨yH HO_4.out⟩, ⟨yB⟩⟩
      ·rw [if_neg c5] at H
       exact absurd H (by simp)
     ·rw [if_neg c4] at H
      have c4b0 := decide_eq_false c4; clear c4
      (first | rw [c4b0] | (simp only [i64_w, i32_w]; rw [c4b0]) | skip)
      have H' := aM H; clear H
      go_wp2
      go_meet
      case rel => exact ⟨_, (false), yE, H', ⟨by have := HK1.out; first | omega | exact Nat.le_refl _⟩, ⟨yH HO_3.out⟩, ⟨yH HO_4.out⟩, ⟨yB⟩⟩
    case rest =>
     clear HC3; (try clear c2); (try clear c2b0); (try clear p2); (try clear c3); (try clear p3); (try clear q3); (try clear hx3); (try clear c4); (try clear c4b0); (try clear c5); (try clear c5b0); (try clear hx381_0); (try clear hx381_1); (try clear hx381_2); (try clear p381); (try clear q381); obtain ⟨kq, x23_2, rfl, HA, HJ2, HO_3, HO_4, HB⟩ := hcut; cases kq with
     | zero => exact absurd HA.out (by simp [patchworkref8_norm.j1])
     | succ kj2 =>
      have H := HA.out; clear HA; simp only [patchworkref8_norm.j1] at H
      by_cases c6 : x23_2 = true
      ·subst c6
       replace H := iT H
       by_cases c7 : 0 ≤ x5_1
       ·rw [if_pos c7] at H
        have c7b0 := decide_eq_true c7; clear c7
        by_cases c8 : x5_1 < (l0.length : Int)
        ·rw [if_pos c8] at H
         have c8b0 := decide_eq_true c8; clear c8
         by_cases c9 : x4_1.length < 4398046511104
         ·rw [if_pos c9] at H
          have LMc9 := aM c9; clear c9; obtain ⟨y383, hy383⟩ : ∃ y_ : List (Op), y_ = (x4_1 ++ [(⟨(rd_Op l0 x5_1).f0, (rd_Op l0 x5_1).f1, (rd_Op l0 x5_1).f2⟩ : Op)]) := ⟨_, rfl⟩; replace H : (patchworkref8_norm.l0 kj2 l0 x3_1 y383 (wrap64 (x5_1 + 1))) = some r := yN hy383 H
          have Ny383 := aM hy383; clear hy383; have H' := aM H; clear H; have p382 : 0 ≤ (x5_1 : Int) := yO; have q382 : x5_1 < (l0.length : Int) := yO; obtain ⟨ad382, e382, hx382_0, hx382_1, hx382_2⟩ := at_OpB HB.out HR0.out x5_1 p382 q382; cases e382; replace p382 := eq_true p382; replace q382 := eq_true q382
          go_wp2_with (first | ((with_reducible refine gate_builtin (b := .append) (xs := #[.tmp 24, .tmp 29]) rfl ?_); (try (refine gate_guard (by rfl) ?_; dsimp only)); at_builtin; refine Kd.R_append kOp (w0 := w) w.heap.size rfl (.tmp 24) (.tmp 29) 22 32 (.agg #[(.int .i64 0), (.int .i64 0), (.string ⟨#[]⟩)]) 32 rfl Tryd.underlying22 info32 rfl (by decide) (by omega) u4 x4_1 (⟨(rd_Op l0 x5_1).f0, (rd_Op l0 x5_1).f1, (rd_Op l0 x5_1).f2⟩ : Op) [.int .i64 ((rd_Op l0 x5_1).f0), .int .i64 ((rd_Op l0 x5_1).f1), .string ((rd_Op l0 x5_1).f2)] (fun k_ => some k_ ≠ (u3 : Value).ownBlock) (fun _ => False) rfl rfl ?aP (fun _ hk => hk.elim) ?aF ?aO ?aB ?aS ?aL ?_; (case aP => exact kOp_mkM _ _ _ (⟨(rd_Op l0 x5_1).f0, (rd_Op l0 x5_1).f1, (rd_Op l0 x5_1).f2⟩ : Op)); (case aB => exact yB); (case aF => exact (fun k_ hk => Kd.fresh' (Kd.R_lt (yH HO_3.out)) k_ hk)); (case aO => exact (yH HO_4.out)); (case aS => exact yW); (case aL => have := LMc9.out; omega); intro v384 w10 ho hb hg hat; rw [← Ny383.out] at ho; have n0_ := aM (Kd.R_after (ok := (fun _ => True)) (by (with_reducible repeat (first | apply Kd.R_alloc | apply Kd.R_drewN | apply Kd.R_drew)); exact Kd.R_mono HO_3.out (fun _ hk => ⟨trivial, hk⟩)) hg hat); have n1_ := aM (hb); have n2_ := aM (ho); clear HO_3; clear HB; clear HO_4; have HO_3 := n0_; have HB := n1_; have HO385 := n2_; clear n0_ n1_ n2_; clear ho hb hg hat))
          go_roundg kj2
          case measure => have := HK1.out; have := HJ2.out; omega
          case rel => exact ⟨(x3_1), (y383), (wrap64 (x5_1 + 1)), yE, H', ⟨by have := HK1.out; have := HJ2.out; omega⟩, ⟨by (with_reducible repeat (first | apply Kd.R_alloc | apply Kd.R_drewN | apply Kd.R_drew)); exact Kd.R_mono HO_3.out (fun _ hk => hk.2)⟩, ⟨yH HO385.out⟩, ⟨yB⟩⟩
         ·rw [if_neg c9] at H
          exact absurd H (by simp)
        ·rw [if_neg c8] at H
         exact absurd H (by simp)
       ·rw [if_neg c7] at H
        exact absurd H (by simp)
      ·replace c6 := Bool.eq_false_iff.mpr c6
       subst c6; replace H := iF H; have HC11 := aM H; clear H
       go_upto_region 7 with (fail)
       go_cut [42] (fun v42 wc => ∃ (kq : Nat) (x42_10 : Bool), v42 = .bool x42_10 ∧ Aside0 (patchworkref8_norm.j2 kq l0 x3_1 x4_1 x5_1 x42_10 = some r) ∧ Aside0 (kq ≤ kj2) ∧ Aside0 (Kd.R kOp 32 wc w.heap.size (fun k_ => some k_ ≠ (u4 : Value).ownBlock) u3 x3_1) ∧ Aside0 (Kd.R kOp 32 wc w.heap.size (fun k_ => some k_ ≠ (u3 : Value).ownBlock) u4 x4_1) ∧ Aside0 (Below w.heap.size w wc))
       case first =>
        have H := HC11.out; clear HC11
        by_cases c12 : x5_1 = (l0.length : Int)
        ·rw [if_pos c12] at H
         have c12b0 := beq_iff_eq.mpr c12; have c12b1 := bne_eq_false_iff_eq.mpr c12; clear c12
         (first | rw [c12b0] | (simp only [i64_w, i32_w]; rw [c12b0]) | skip)
         have H' := aM H; clear H
         go_wp2
         go_meet
         case rel => exact ⟨_, (true), yE, H', ⟨by have := HK1.out; have := HJ2.out; first | omega | exact Nat.le_refl _⟩, ⟨yH HO_3.out⟩, ⟨yH HO_4.out⟩, ⟨yB⟩⟩
        ·rw [if_neg c12] at H
         have c12b0 := beq_eq_false_iff_ne.mpr c12; have c12b1 := bne_iff_ne.mpr c12
         (first | rw [c12b0] | (simp only [i64_w, i32_w]; rw [c12b0]) | skip)
         by_cases c13 : 0 ≤ x5_1
         ·rw [if_pos c13] at H
          have c13b0 := decide_eq_true c13; clear c13
          by_cases c14 : x5_1 < (l0.length : Int)
          ·rw [if_pos c14] at H
           have c14b0 := decide_eq_true c14; clear c14; have H' := aM H; clear H; have p386 : 0 ≤ (x5_1 : Int) := yO; have q386 : x5_1 < (l0.length : Int) := yO; obtain ⟨ad386, e386, hx386_0, hx386_1, hx386_2⟩ := at_OpB HB.out HR0.out x5_1 p386 q386; cases e386; replace p386 := eq_true p386; replace q386 := eq_true q386
           go_wp2
           go_meet
           case rel => exact ⟨_, ((((rd_Op l0 x5_1).f0) != 3)), yE, H', ⟨by have := HK1.out; have := HJ2.out; first | omega | exact Nat.le_refl _⟩, ⟨yH HO_3.out⟩, ⟨yH HO_4.out⟩, ⟨yB⟩⟩
          ·rw [if_neg c14] at H
           exact absurd H (by simp)
         ·rw [if_neg c13] at H
          exact absurd H (by simp)
       case rest =>
        clear HC11; (try clear c1); (try clear c2); (try clear c2b0); (try clear p2); (try clear c3); (try clear p3); (try clear q3); (try clear hx3); (try clear c4); (try clear c4b0); (try clear c5); (try clear c5b0); (try clear c6); (try clear p6); (try clear c7); (try clear c7b0); (try clear c8); (try clear c8b0); (try clear c9); (try clear c12); (try clear c12b0); (try clear c12b1); (try clear c13); (try clear c13b0); (try clear c14); (try clear c14b0); (try clear hx381_0); (try clear hx381_1); (try clear hx381_2); (try clear hx382_0); (try clear hx382_1); (try clear hx382_2); (try clear hx386_0); (try clear hx386_1); (try clear hx386_2); (try clear p2); (try clear p3); (try clear p381); (try clear p382); (try clear p386); (try clear q3); (try clear q381); (try clear q382); (try clear q386); obtain ⟨kq, x42_10, rfl, HA, HJ10, HO_3, HO_4, HB⟩ := hcut; cases kq with
        | zero => exact absurd HA.out (by simp [patchworkref8_norm.j2])
        | succ kj10 =>
         have H := HA.out; clear HA; simp only [patchworkref8_norm.j2] at H; have HC15 := aM H; clear H
         go_upto_if 42 with (fail)
         go_cut [3, 4] (fun v3 v4 wc => ∃ (kq : Nat) (x3_14 : List (Op)) (x4_14 : List (Op)), Aside0 (patchworkref8_norm.j3 kq l0 x3_14 x4_14 x5_1 = some r) ∧ Aside0 (kq ≤ kj10) ∧ Aside0 (Kd.R kOp 32 wc w.heap.size (fun k_ => some k_ ≠ (v4 : Value).ownBlock) v3 x3_14) ∧ Aside0 (Kd.R kOp 32 wc w.heap.size (fun k_ => some k_ ≠ (v3 : Value).ownBlock) v4 x4_14) ∧ Aside0 (Below w.heap.size w wc))
         case first =>
          have H := HC15.out; clear HC15
          by_cases c16 : x42_10 = true
          ·subst c16
           replace H := iT H
           by_cases c17 : x3_1.length + x4_1.length < 4398046511104
           ·rw [if_pos c17] at H
            have LMc17 := aM c17; clear c17; obtain ⟨y387, hy387⟩ : ∃ y_ : List (Op), y_ = (x3_1 ++ x4_1) := ⟨_, rfl⟩; replace H : (patchworkref8_norm.j3 kj10 l0 y387 ([] : List (Op)) x5_1) = some r := yN hy387 H
            have Ny387 := aM hy387; clear hy387; have H' := aM H; clear H; obtain ⟨Ao19, co19, eo19⟩ := Kd.R_slice HO_4.out; subst eo19
            go_wp2_with (first | ((with_reducible refine gate_builtin (b := .append) (xs := #[.tmp 43, .tmp 44]) rfl ?_); (try (refine gate_guard (by rfl) ?_; dsimp only)); at_builtin; refine Kd.R_append_rows kOp (w0 := w) w.heap.size rfl (.tmp 43) (.tmp 44) 22 32 (.agg #[(.int .i64 0), (.int .i64 0), (.string ⟨#[]⟩)]) 32 rfl Tryd.underlying22 info32 rfl (by decide) (by omega) u3 x3_1 x4_1 _ _ _ (fun k_ => some k_ ≠ (.slice Ao19 x4_1.length co19 : Value).ownBlock) (fun _ => False) rfl rfl ?aO ?aR (fun _ _ h => h) (fun _ h => h.elim) ?aF ?aB ?aS ?aL ?_; (case aR => repeat (first | exact (Kd.R_reads' HO_4.out).2.2 | (with_reducible first | refine Kd.C_alloc ?_ _ | refine Kd.C_drewN ?_ _ | refine Kd.C_drew ?_))); (case aB => exact yB); (case aF => exact (fun k_ hk => Kd.fresh' (Kd.R_lt (yH HO_4.out)) k_ hk)); (case aO => exact (yH HO_3.out)); (case aS => exact yW); (case aL => have := LMc17.out; omega); intro v388 w18 ho hb hg hat; rw [← Ny387.out] at ho; have n0_ := aM (Kd.R_after (ok := (fun _ => True)) (by (with_reducible repeat (first | apply Kd.R_alloc | apply Kd.R_drewN | apply Kd.R_drew)); exact Kd.R_mono HO_4.out (fun _ hk => ⟨trivial, hk⟩)) hg hat); have n1_ := aM (hb); have n2_ := aM (ho); clear HO_4; clear HB; clear HO_3; have HO_4 := n0_; have HB := n1_; have HO389 := n2_; clear n0_ n1_ n2_; clear ho hb hg hat))
            go_meet
            case rel => exact ⟨_, (y387), (([] : List (Op))), H', ⟨by have := HK1.out; have := HJ2.out; have := HJ10.out; first | omega | exact Nat.le_refl _⟩, ⟨by (with_reducible repeat (first | apply Kd.R_alloc | apply Kd.R_drewN | apply Kd.R_drew)); exact Kd.R_mono HO389.out (fun _ hk => (by simp [Value.ownBlock]))⟩, ⟨by first | exact Kd.R_nil _ _ _ _ _ | exact Kd.N_nil _ _ _ _ _ | exact Kd.V_nil _ _ _ _ _ | exact Kd.Q_nil _ _ _ _ _ | exact Kd.S_nil _ _ _ _ _⟩, ⟨yB⟩⟩
           ·rw [if_neg c17] at H
            exact absurd H (by simp)
          ·replace c16 := Bool.eq_false_iff.mpr c16
           subst c16; have H' := aM (iF H); clear H
           go_wp2
           go_meet
           case rel => exact ⟨_, (x3_1), (x4_1), H', ⟨by have := HK1.out; have := HJ2.out; have := HJ10.out; first | omega | exact Nat.le_refl _⟩, ⟨yH HO_3.out⟩, ⟨yH HO_4.out⟩, ⟨yB⟩⟩
         case rest =>
          clear HC15; (try clear c1); (try clear c2); (try clear c2b0); (try clear p2); (try clear c3); (try clear p3); (try clear q3); (try clear hx3); (try clear c4); (try clear c4b0); (try clear c5); (try clear c5b0); (try clear c6); (try clear p6); (try clear c7); (try clear c7b0); (try clear c8); (try clear c8b0); (try clear c9); (try clear c12); (try clear c12b0); (try clear c12b1); (try clear c13); (try clear c13b0); (try clear c14); (try clear c14b0); (try clear c16); (try clear c17); (try clear hx381_0); (try clear hx381_1); (try clear hx381_2); (try clear hx382_0); (try clear hx382_1); (try clear hx382_2); (try clear hx386_0); (try clear hx386_1); (try clear hx386_2); (try clear p2); (try clear p3); (try clear p381); (try clear p382); (try clear p386); (try clear p6); (try clear q3); (try clear q381); (try clear q382); (try clear q386); obtain ⟨kq, x3_14, x4_14, HA, HJ14, HO_3, HO_4, HB⟩ := hcut; cases kq with
          | zero => exact absurd HA.out (by simp [patchworkref8_norm.j3])
          | succ kj14 =>
           have H := HA.out; clear HA; simp only [patchworkref8_norm.j3] at H
           by_cases c20 : x5_1 = (l0.length : Int)
           ·rw [if_pos c20] at H
            have c20b0 := beq_iff_eq.mpr c20; have c20b1 := bne_eq_false_iff_eq.mpr c20; clear c20; obtain rfl := Option.some.inj H
            go_wp2
            go_ret
            exact ⟨_, by first | rfl | (simp [errW_none, errW_some] <;> rfl) | (simp [*, errW_none, errW_some] <;> rfl), by (with_reducible repeat (first | apply Kd.R_alloc | apply Kd.R_drewN | apply Kd.R_drew)); exact Kd.R_mono HO_3.out (fun _ hk => trivial), yB⟩
           ·rw [if_neg c20] at H
            have c20b0 := beq_eq_false_iff_ne.mpr c20; have c20b1 := bne_iff_ne.mpr c20
            by_cases c21 : 0 ≤ x5_1
            ·rw [if_pos c21] at H
             have c21b0 := decide_eq_true c21; clear c21
             by_cases c22 : x5_1 < (l0.length : Int)
             ·rw [if_pos c22] at H
              have c22b0 := decide_eq_true c22; clear c22
              by_cases c23 : ((rd_Op l0 x5_1).f0) = 1
              ·rw [if_pos c23] at H
               have c23b0 := beq_iff_eq.mpr c23; have c23b1 := bne_eq_false_iff_eq.mpr c23; clear c23
               by_cases c24 : (x3_14.length : Int) > 0
               ·rw [if_pos c24] at H
                have c24b0 := decide_eq_true c24; have c24b1 : decide (0 < x3_14.length) = true := decide_eq_true (by omega); clear c24; obtain ⟨ji25, hji25⟩ : ∃ j_ : Int, (wrap64 ((x3_14.length : Int) - 1)) = j_ := ⟨_, rfl⟩; replace H : (if 0 ≤ (ji25) then (if (ji25) < (x3_14.length : Int) then (if ((rd_Op x3_14 (ji25)).f0) = 1 then ((patchworkref8_plus.f ((rd_Op x3_14 (ji25)).f1) ((rd_Op l0 x5_1).f1)).bind fun t394 => (patchworkref8_norm.l0 kj14 l0 (x3_14.set ((ji25) : Int).toNat (⟨(rd_Op x3_14 (ji25)).f0, t394, (rd_Op x3_14 (ji25)).f2⟩ : Op)) x4_14 (wrap64 (x5_1 + 1)))) else (if x3_14.length < 4398046511104 then (patchworkref8_norm.l0 kj14 l0 (x3_14 ++ [(⟨(rd_Op l0 x5_1).f0, (rd_Op l0 x5_1).f1, (rd_Op l0 x5_1).f2⟩ : Op)]) x4_14 (wrap64 (x5_1 + 1))) else (none))) else (none)) else (none)) = some r := by first | (rw [hji25] at H; exact H) | (simp only [hji25] at H ⊢; exact H)
                have hji25w : (IntKind.i64.wrap ((x3_14.length : Int) - 1)) = ji25 := (i64_w _).trans hji25
                by_cases c26 : 0 ≤ (ji25)
                ·rw [if_pos c26] at H
                 have c26b0 := decide_eq_true c26; clear c26
                 by_cases c27 : (ji25) < (x3_14.length : Int)
                 ·rw [if_pos c27] at H
                  have c27b0 := decide_eq_true c27; clear c27
                  by_cases c28 : ((rd_Op x3_14 (ji25)).f0) = 1
                  ·rw [if_pos c28] at H
                   have c28b0 := beq_iff_eq.mpr c28; have c28b1 := bne_eq_false_iff_eq.mpr c28; clear c28; replace H := oB H; obtain ⟨t394, A29, H⟩ := H; obtain ⟨y395, hy395⟩ : ∃ y_ : List (Op), y_ = (x3_14.set ((ji25) : Int).toNat (⟨(rd_Op x3_14 (ji25)).f0, t394, (rd_Op x3_14 (ji25)).f2⟩ : Op)) := ⟨_, rfl⟩; replace H : (patchworkref8_norm.l0 kj14 l0 y395 x4_14 (wrap64 (x5_1 + 1))) = some r := yN hy395 H
                   have Ny395 := aM hy395; clear hy395; have H' := aM H; clear H; have p390 : 0 ≤ (x5_1 : Int) := yO; have q390 : x5_1 < (l0.length : Int) := yO; obtain ⟨ad390, e390, hx390_0, hx390_1, hx390_2⟩ := at_OpB HB.out HR0.out x5_1 p390 q390; cases e390; replace p390 := eq_true p390; replace q390 := eq_true q390; obtain ⟨Ao31, co31, eo31⟩ := Kd.R_slice HO_3.out; subst eo31; have p391 : 0 ≤ ((ji25) : Int) := yO; have q391 : (ji25) < (x3_14.length : Int) := yO; obtain ⟨ad391, e391, hx391_0, hx391_1, hx391_2⟩ := at_Op (Kd.R_reads' HO_3.out).2.2 (ji25) p391 q391; cases e391; replace p391 := eq_true p391; replace q391 := eq_true q391
                   try go_wp2
                   replace HO_3 := aM (Kd.R_drew HO_3.out); replace HO_4 := aM (Kd.R_drew HO_4.out); replace HB := aM (below_drew1 HB.out); have p392 : 0 ≤ ((ji25) : Int) := yO; have q392 : (ji25) < (x3_14.length : Int) := yO; obtain ⟨ad392, e392, hx392_0, hx392_1, hx392_2⟩ := at_Op (Kd.R_reads' HO_3.out).2.2 (ji25) p392 q392; obtain rfl : ad391 = ad392 := (by injection e392); replace p392 := eq_true p392; replace q392 := eq_true q392; have p393 : 0 ≤ (x5_1 : Int) := yO; have q393 : x5_1 < (l0.length : Int) := yO; obtain ⟨ad393, e393, hx393_0, hx393_1, hx393_2⟩ := at_Op HR0.out x5_1 p393 q393; have hw393_2 := hx393_2; have hw393_1 := hx393_1; have hw393_0 := hx393_0; obtain rfl : ad390 = ad393 := (by injection e393); replace hx393_0 := (HB.out.cell (bL w _ hx393_0)).trans hx393_0; replace hx393_1 := (HB.out.cell (bL w _ hx393_1)).trans hx393_1; replace hx393_2 := (HB.out.cell (bL w _ hx393_2)).trans hx393_2; replace p393 := eq_true p393; replace q393 := eq_true q393
                   refine start_ (n := 20) (S := fun w' => w'.cell? (ad391.add (((ji25)).toNat * 3)) = some (.int .i64 ((rd_Op x3_14 (ji25)).f0)) ∧ w'.cell? ⟨(ad391.add (((ji25)).toNat * 3)).block, (ad391.add (((ji25)).toNat * 3)).off + 1, none⟩ = some (.int .i64 ((rd_Op x3_14 (ji25)).f1)) ∧ w'.cell? ⟨(ad391.add (((ji25)).toNat * 3)).block, (ad391.add (((ji25)).toNat * 3)).off + 2, none⟩ = some (.string ((rd_Op x3_14 (ji25)).f2)) ∧ w'.cell? (ad390.add ((x5_1).toNat * 3)) = some (.int .i64 ((rd_Op l0 x5_1).f0)) ∧ w'.cell? ⟨(ad390.add ((x5_1).toNat * 3)).block, (ad390.add ((x5_1).toNat * 3)).off + 1, none⟩ = some (.int .i64 ((rd_Op l0 x5_1).f1)) ∧ w'.cell? ⟨(ad390.add ((x5_1).toNat * 3)).block, (ad390.add ((x5_1).toNat * 3)).off + 2, none⟩ = some (.string ((rd_Op l0 x5_1).f2))) (ds := [19]) #[false, false, false, false, false, false, false, false, false, false, false, false, false, false, false, false, false, false, false, false] yK rfl rfl ⟨hx392_0, hx392_1, hx392_2, ((HB.out.cell (bL w _ hw393_0)).trans hw393_0), ((HB.out.cell (bL w _ hw393_1)).trans hw393_1), ((HB.out.cell (bL w _ hw393_2)).trans hw393_2)⟩ (fun hHeld => ?_); refine with_tabW patchworkref8_norm.tab12 patchworkref8_norm.bits12 (fun HT_ HW_ => ?_)
                   generalize wc.drew = w32 at HO_3 HO_4 HB hx392_0 hx392_1 hx392_2 hx393_0 hx393_1 hx393_2 hHeld ⊢
                   refine pure_ (i := 0) (N := some 71) (v := ?_) (a' := ?_) #[true, false, false, false, false, false, false, false, false, false, false, false, false, false, false, false, false, false, false, false] rfl rfl (any_of HT_.out yK) yI (Or.inl ⟨by rfl, ?_⟩) ?_ ?_
                   rotate_left; exact yP1; rotate_left; exact yP2
                   refine pure_ (i := 1) (N := some 72) (v := ?_) (a' := ?_) #[true, true, false, false, false, false, false, false, false, false, false, false, false, false, false, false, false, false, false, false] rfl rfl (any_of HT_.out yK) yI (Or.inl ⟨by rfl, ?_⟩) ?_ ?_
                   rotate_left; exact yP1; rotate_left; exact yP2
                   refine pure_ (i := 2) (N := some 73) (v := ?_) (a' := ?_) #[true, true, true, false, false, false, false, false, false, false, false, false, false, false, false, false, false, false, false, false] rfl rfl (any_of HT_.out yK) yI (Or.inl ⟨by rfl, ?_⟩) ?_ ?_
                   rotate_left; exact yP1; rotate_left; exact yP2
                   refine pure_ (i := 3) (N := some 74) (v := ?_) (a' := ?_) #[true, true, true, true, false, false, false, false, false, false, false, false, false, false, false, false, false, false, false, false] rfl rfl (any_of HT_.out yK) yI (Or.inl ⟨by rfl, ?_⟩) ?_ ?_
                   rotate_left; exact yP1; rotate_left; exact yP2
                   refine pure_ (i := 4) (N := some 75) (v := ?_) (a' := ?_) #[true, true, true, true, true, false, false, false, false, false, false, false, false, false, false, false, false, false, false, false] rfl rfl (any_of HT_.out yK) yI (Or.inl ⟨by rfl, ?_⟩) ?_ ?_
                   rotate_left; exact yP1; rotate_left; exact yP2
                   refine pure_ (i := 5) (N := some 76) (v := ?_) (a' := ?_) #[true, true, true, true, true, true, false, false, false, false, false, false, false, false, false, false, false, false, false, false] rfl rfl (any_of HT_.out yK) yI (Or.inl ⟨by rfl, ?_⟩) ?_ ?_
                   rotate_left; exact yP1; rotate_left; exact yP2
                   refine pure_ (i := 6) (N := some 77) (v := ?_) (a' := ?_) #[true, true, true, true, true, true, true, false, false, false, false, false, false, false, false, false, false, false, false, false] rfl rfl (any_of HT_.out yK) yI (Or.inl ⟨by rfl, ?_⟩) ?_ ?_
                   rotate_left; exact yP1; rotate_left; exact yP2
                   refine pure_ (i := 7) (N := some 78) (v := ?_) (a' := ?_) #[true, true, true, true, true, true, true, true, false, false, false, false, false, false, false, false, false, false, false, false] rfl rfl (any_of HT_.out yK) yI (Or.inl ⟨by rfl, ?_⟩) ?_ ?_
                   rotate_left; exact yP1; rotate_left; exact yP2
                   refine pure_ (i := 8) (N := some 79) (v := ?_) (a' := ?_) #[true, true, true, true, true, true, true, true, true, false, false, false, false, false, false, false, false, false, false, false] rfl rfl (any_of HT_.out yK) yI (Or.inl ⟨by rfl, ?_⟩) ?_ ?_
                   rotate_left; exact yP1; rotate_left; exact yP2
                   refine pure_ (i := 9) (N := some 80) (v := ?_) (a' := ?_) #[true, true, true, true, true, true, true, true, true, true, false, false, false, false, false, false, false, false, false, false] rfl rfl (any_of HT_.out yK) yI (Or.inl ⟨by rfl, ?_⟩) ?_ ?_
                   rotate_left; exact yP1; rotate_left; exact yP2
                   refine pure_ (i := 11) (N := some 82) (v := ?_) (a' := ?_) #[true, true, true, true, true, true, true, true, true, true, false, true, false, false, false, false, false, false, false, false] rfl rfl (any_of HT_.out yK) yI (Or.inl ⟨by rfl, ?_⟩) ?_ ?_
                   rotate_left; exact yP1; rotate_left; exact yP2
                   refine pure_ (i := 12) (N := some 83) (v := ?_) (a' := ?_) #[true, true, true, true, true, true, true, true, true, true, false, true, true, false, false, false, false, false, false, false] rfl rfl (any_of HT_.out yK) yI (Or.inl ⟨by rfl, ?_⟩) ?_ ?_
                   rotate_left; exact yP1; rotate_left; exact yP2
                   refine pure_ (i := 13) (N := some 84) (v := ?_) (a' := ?_) #[true, true, true, true, true, true, true, true, true, true, false, true, true, true, false, false, false, false, false, false] rfl rfl (any_of HT_.out yK) yI (Or.inl ⟨by rfl, ?_⟩) ?_ ?_
                   rotate_left; exact yP1; rotate_left; exact yP2
                   refine pure_ (i := 14) (N := some 85) (v := ?_) (a' := ?_) #[true, true, true, true, true, true, true, true, true, true, false, true, true, true, true, false, false, false, false, false] rfl rfl (any_of HT_.out yK) yI (Or.inl ⟨by rfl, ?_⟩) ?_ ?_
                   rotate_left; exact yP1; rotate_left; exact yP2
                   refine take_ (i := 10) (N := some 81) (v := ?_) (a' := ?_) #[true, true, true, true, true, true, true, true, true, true, true, true, true, true, true, false, false, false, false, false] rfl rfl (take_ofW HT_.out HW_.out yK) (fun _ _ _ h => h) (Or.inl ⟨by rfl, ?_⟩) hHeld ?_ ?_
                   rotate_left
                   ·rintro w' ⟨s0, s1, s2, s3, s4, s5⟩
                    go_simp
                    with_reducible rfl
                   rotate_left
                   ·simp only [Act.put, sI, sZ, sS, i64_w, i32_w]
                    rfl
                   refine take_ (i := 15) (N := some 86) (v := ?_) (a' := ?_) #[true, true, true, true, true, true, true, true, true, true, true, true, true, true, true, true, false, false, false, false] rfl rfl (take_ofW HT_.out HW_.out yK) (fun _ _ _ h => h) (Or.inl ⟨by rfl, ?_⟩) hHeld ?_ ?_
                   rotate_left
                   ·rintro w' ⟨s0, s1, s2, s3, s4, s5⟩
                    go_simp
                    with_reducible rfl
                   rotate_left
                   ·simp only [Act.put, sI, sZ, sS, i64_w, i32_w]
                    rfl
                   refine one_ (i := 16) (N := some 87) #[true, true, true, true, true, true, true, true, true, true, true, true, true, true, true, true, true, false, false, false] rfl rfl (one_of HT_.out yK) (by decide) (fun K hK => ?_)
                   refine goes_ Tryd.func26 yK rfl #[.int .i64 ((rd_Op x3_14 (ji25)).f1), .int .i64 ((rd_Op l0 x5_1).f1)] (by rfl) rfl rfl (by (try simp only [List.map_toArray, List.map_cons, List.map_nil]); first | done | (simp only [hji25]; rfl) | rfl | (simp only [lD, List.length_take]; rfl)) ?_
                   with_reducible refine (patchworkref8_plus.calls ((rd_Op x3_14 (ji25)).f1) ((rd_Op l0 x5_1).f1) t394 _ A29.out).mono ?_
                   rintro e w' ⟨rfl, ⟨nd, rfl⟩⟩
                   refine ⟨_, rfl, ?_⟩
                   have p30 : 0 ≤ ((ji25) : Int) := yO; have q30 : ((ji25) : Int) < ((x3_14.length : Int) : Int) := yO; obtain ⟨go30, co30, eo30, gb30, gl30, cl30, HG30⟩ := Kd.R_form HO_3.out (by omega)
                   (first | cases eo30 | (injection eo30 with ea_ en_ ec_; (first | subst ea_ | (injection ea_ with ea_; subst ea_)); subst ec_; clear en_))
                   have GB30 := aM gb30; have GG30 := aM HG30; clear gb30 gl30 HG30
                   (first | simp only [add_plain] at hx391_0 | skip)
                   (first | simp only [add_plain] at hx391_1 | skip)
                   (first | simp only [add_plain] at hx391_2 | skip)
                   (first | simp only [add_plain] at hx392_0 | skip)
                   (first | simp only [add_plain] at hx392_1 | skip)
                   (first | simp only [add_plain] at hx392_2 | skip)
                   obtain ⟨ce30, hcl30, hM30, hcc30, hfr30⟩ := Kd.R_elem HO_3.out zOp ((ji25) : Int) p30 q30; obtain rfl := kOp_openM hM30; have hx30_0 : World.cell? _ ⟨go30, ((ji25) : Int).toNat * 3, none⟩ = some (.int .i64 ((rd_Op x3_14 (ji25)).f0)) := hcc30 0 _ rfl; have hx30_1 : World.cell? _ ⟨go30, ((ji25) : Int).toNat * 3 + 1, none⟩ = some (.int .i64 ((rd_Op x3_14 (ji25)).f1)) := hcc30 1 _ rfl; have hx30_2 : World.cell? _ ⟨go30, ((ji25) : Int).toNat * 3 + 2, none⟩ = some (.string ((rd_Op x3_14 (ji25)).f2)) := hcc30 2 _ rfl; have hf30_0 : World.frozen? _ ⟨go30, ((ji25) : Int).toNat * 3, none⟩ = false := hfr30 0; have hf30_1 : World.frozen? _ ⟨go30, ((ji25) : Int).toNat * 3 + 1, none⟩ = false := hfr30 1; have hf30_2 : World.frozen? _ ⟨go30, ((ji25) : Int).toNat * 3 + 2, none⟩ = false := hfr30 2; clear hcl30 hcc30 hfr30 hM30; replace p30 := eq_true p30; replace q30 := eq_true q30; obtain ⟨ce33, hcl33, hM33, hcc33, hfr33⟩ := Kd.R_elem HO_3.out zOp ((ji25) : Int) (yO) (by have h_ : ((ji25) : Int) < ((x3_14.length : Int) : Int) := yO; first | exact h_ | (have e_ := (Kd.R_reads' HO_3.out).1; omega) | simpa using h_); obtain rfl := kOp_openM hM33; have HP33 := (Kd.R_seg HO_3.out ((ji25) : Int) (yO) (by have h_ : ((ji25) : Int) < ((x3_14.length : Int) : Int) := yO; first | exact h_ | (have e_ := (Kd.R_reads' HO_3.out).1; omega) | simpa using h_) (seg := [.int .i64 t394]) (j := 1) hcl33 hcc33 (show 2 ≤ 3 from by decide) (x' := (⟨(rd_Op x3_14 (ji25)).f0, t394, (rd_Op x3_14 (ji25)).f2⟩ : Op)) (kOp_mkM _ _ _ (⟨(rd_Op x3_14 (ji25)).f0, t394, (rd_Op x3_14 (ji25)).f2⟩ : Op) ) (fun _ hk => hk)).1; rw [← Ny395.out] at HP33; have HQ33 := aM HP33; clear hcl33 hcc33 hfr33 hM33 HP33
                   refine hK.out _ _ ⟨hHeld.1, hHeld.2.1, hHeld.2.2.1, ((HB.out.cell (bL w _ hw393_0)).trans hw393_0), ((HB.out.cell (bL w _ hw393_1)).trans hw393_1), ((HB.out.cell (bL w _ hw393_2)).trans hw393_2)⟩ (fun hHeld => ?_)
                   clear hK K
                   refine norm_ (a' := ?_) ?_ ?_
                   rotate_left
                   ·show Act.put _ (some 87) _ = _
                    simp only [Act.put, sI, sZ, sS, i64_w, i32_w]
                    rfl
                   refine pure_ (i := 17) (N := some 88) (v := ?_) (a' := ?_) #[true, true, true, true, true, true, true, true, true, true, true, true, true, true, true, true, true, true, false, false] rfl rfl (any_of HT_.out yK) yI (Or.inl ⟨by rfl, ?_⟩) ?_ ?_
                   rotate_left; exact yP1; rotate_left; exact yP2
                   refine pure_ (i := 18) (N := some 89) (v := ?_) (a' := ?_) #[true, true, true, true, true, true, true, true, true, true, true, true, true, true, true, true, true, true, true, false] rfl rfl (any_of HT_.out yK) yI (Or.inl ⟨by rfl, ?_⟩) ?_ ?_
                   rotate_left; exact yP1; rotate_left; exact yP2
                   refine last_ (i := 19) (N := none) #[true, true, true, true, true, true, true, true, true, true, true, true, true, true, true, true, true, true, true, true] rfl rfl (one_of HT_.out yK) (by decide) (fun K hK => ?_)
                   refine skip_ (w1 := ?_) (by rfl) rfl ?_ ?_
                   rotate_left
                   ·go_simp
                    rfl
                   refine hK.out _ _ ?_
                   clear hK K
                   refine done_ (done_of HT_.out yK) ?_
                   try go_wp2
                   go_roundg kj14
                   case measure => have := HK1.out; have := HJ2.out; have := HJ10.out; have := HJ14.out; omega
                   case rel => exact ⟨(y395), (x4_14), (wrap64 (x5_1 + 1)), yE, H', ⟨by have := HK1.out; have := HJ2.out; have := HJ10.out; have := HJ14.out; omega⟩, ⟨yH HQ33.out⟩, ⟨by (with_reducible repeat (first | apply Kd.R_alloc | apply Kd.R_drewN | apply Kd.R_drew)); exact Kd.R_mono (Kd.R_far (p := ⟨go30, ((ji25) : Int).toNat * 3 + 1, none⟩) (Kd.R_mono HO_4.out (fun k_ hk => (⟨hk, fun e_ => hk (by rw [e_]; rfl)⟩ : _ ∧ k_ ≠ go30))) (fun _ hk => hk.2) (.int .i64 t394)) (fun _ hk => hk.1)⟩, ⟨yBg GB30.out⟩⟩
                  ·rw [if_neg c28] at H
                   have c28b0 := beq_eq_false_iff_ne.mpr c28; have c28b1 := bne_iff_ne.mpr c28
                   by_cases c34 : x3_14.length < 4398046511104
                   ·rw [if_pos c34] at H
                    have LMc34 := aM c34; clear c34; obtain ⟨y397, hy397⟩ : ∃ y_ : List (Op), y_ = (x3_14 ++ [(⟨(rd_Op l0 x5_1).f0, (rd_Op l0 x5_1).f1, (rd_Op l0 x5_1).f2⟩ : Op)]) := ⟨_, rfl⟩; replace H : (patchworkref8_norm.l0 kj14 l0 y397 x4_14 (wrap64 (x5_1 + 1))) = some r := yN hy397 H
                    have Ny397 := aM hy397; clear hy397; have H' := aM H; clear H; have p390 : 0 ≤ (x5_1 : Int) := yO; have q390 : x5_1 < (l0.length : Int) := yO; obtain ⟨ad390, e390, hx390_0, hx390_1, hx390_2⟩ := at_OpB HB.out HR0.out x5_1 p390 q390; cases e390; replace p390 := eq_true p390; replace q390 := eq_true q390; obtain ⟨Ao35, co35, eo35⟩ := Kd.R_slice HO_3.out; subst eo35; have p391 : 0 ≤ ((ji25) : Int) := yO; have q391 : (ji25) < (x3_14.length : Int) := yO; obtain ⟨ad391, e391, hx391_0, hx391_1, hx391_2⟩ := at_Op (Kd.R_reads' HO_3.out).2.2 (ji25) p391 q391; cases e391; replace p391 := eq_true p391; replace q391 := eq_true q391; have p396 : 0 ≤ (x5_1 : Int) := yO; have q396 : x5_1 < (l0.length : Int) := yO; obtain ⟨ad396, e396, hx396_0, hx396_1, hx396_2⟩ := at_Op HR0.out x5_1 p396 q396; obtain rfl : ad390 = ad396 := (by injection e396); replace hx396_0 := (HB.out.cell (bL w _ hx396_0)).trans hx396_0; replace hx396_1 := (HB.out.cell (bL w _ hx396_1)).trans hx396_1; replace hx396_2 := (HB.out.cell (bL w _ hx396_2)).trans hx396_2; replace p396 := eq_true p396; replace q396 := eq_true q396
                    go_wp2_with (first | ((with_reducible refine gate_builtin (b := .append) (xs := #[.tmp 90, .tmp 95]) rfl ?_); (try (refine gate_guard (by rfl) ?_; dsimp only)); at_builtin; refine Kd.R_append kOp (w0 := w) w.heap.size rfl (.tmp 90) (.tmp 95) 22 32 (.agg #[(.int .i64 0), (.int .i64 0), (.string ⟨#[]⟩)]) 32 rfl Tryd.underlying22 info32 rfl (by decide) (by omega) (.slice (some ad391) x3_14.length co35) x3_14 (⟨(rd_Op l0 x5_1).f0, (rd_Op l0 x5_1).f1, (rd_Op l0 x5_1).f2⟩ : Op) [.int .i64 ((rd_Op l0 x5_1).f0), .int .i64 ((rd_Op l0 x5_1).f1), .string ((rd_Op l0 x5_1).f2)] (fun k_ => some k_ ≠ (u4 : Value).ownBlock) (fun _ => False) rfl rfl ?aP (fun _ hk => hk.elim) ?aF ?aO ?aB ?aS ?aL ?_; (case aP => exact kOp_mkM _ _ _ (⟨(rd_Op l0 x5_1).f0, (rd_Op l0 x5_1).f1, (rd_Op l0 x5_1).f2⟩ : Op)); (case aB => exact yB); (case aF => exact (fun k_ hk => Kd.fresh' (Kd.R_lt (yH HO_4.out)) k_ hk)); (case aO => exact (yH HO_3.out)); (case aS => exact yW); (case aL => have := LMc34.out; omega); intro v398 w36 ho hb hg hat; rw [← Ny397.out] at ho; have n0_ := aM (Kd.R_after (ok := (fun _ => True)) (by (with_reducible repeat (first | apply Kd.R_alloc | apply Kd.R_drewN | apply Kd.R_drew)); exact Kd.R_mono HO_4.out (fun _ hk => ⟨trivial, hk⟩)) hg hat); have n1_ := aM (hb); have n2_ := aM (ho); clear HO_4; clear HB; clear HO_3; have HO_4 := n0_; have HB := n1_; have HO399 := n2_; clear n0_ n1_ n2_; clear ho hb hg hat))
                    go_roundg kj14
                    case measure => have := HK1.out; have := HJ2.out; have := HJ10.out; have := HJ14.out; omega
                    case rel => exact ⟨(y397), (x4_14), (wrap64 (x5_1 + 1)), yE, H', ⟨by have := HK1.out; have := HJ2.out; have := HJ10.out; have := HJ14.out; omega⟩, ⟨yH HO399.out⟩, ⟨by (with_reducible repeat (first | apply Kd.R_alloc | apply Kd.R_drewN | apply Kd.R_drew)); exact Kd.R_mono HO_4.out (fun _ hk => hk.2)⟩, ⟨yB⟩⟩
                   ·rw [if_neg c34] at H
                    exact absurd H (by simp)
                 ·rw [if_neg c27] at H
                  exact absurd H (by simp)
                ·rw [if_neg c26] at H
                 exact absurd H (by simp)
               ·rw [if_neg c24] at H
                have c24b0 := decide_eq_false c24; have c24b1 : decide (0 < x3_14.length) = false := decide_eq_false (by omega); clear c24
                by_cases c37 : x3_14.length < 4398046511104
                ·rw [if_pos c37] at H
                 have LMc37 := aM c37; clear c37; obtain ⟨y401, hy401⟩ : ∃ y_ : List (Op), y_ = (x3_14 ++ [(⟨(rd_Op l0 x5_1).f0, (rd_Op l0 x5_1).f1, (rd_Op l0 x5_1).f2⟩ : Op)]) := ⟨_, rfl⟩; replace H : (patchworkref8_norm.l0 kj14 l0 y401 x4_14 (wrap64 (x5_1 + 1))) = some r := yN hy401 H
                 have Ny401 := aM hy401; clear hy401; have H' := aM H; clear H; have p390 : 0 ≤ (x5_1 : Int) := yO; have q390 : x5_1 < (l0.length : Int) := yO; obtain ⟨ad390, e390, hx390_0, hx390_1, hx390_2⟩ := at_OpB HB.out HR0.out x5_1 p390 q390; cases e390; replace p390 := eq_true p390; replace q390 := eq_true q390; obtain ⟨Ao38, co38, eo38⟩ := Kd.R_slice HO_3.out; subst eo38; have p400 : 0 ≤ (x5_1 : Int) := yO; have q400 : x5_1 < (l0.length : Int) := yO; obtain ⟨ad400, e400, hx400_0, hx400_1, hx400_2⟩ := at_Op HR0.out x5_1 p400 q400; obtain rfl : ad390 = ad400 := (by injection e400); replace hx400_0 := (HB.out.cell (bL w _ hx400_0)).trans hx400_0; replace hx400_1 := (HB.out.cell (bL w _ hx400_1)).trans hx400_1; replace hx400_2 := (HB.out.cell (bL w _ hx400_2)).trans hx400_2; replace p400 := eq_true p400; replace q400 := eq_true q400
                 go_wp2_with (first | ((with_reducible refine gate_builtin (b := .append) (xs := #[.tmp 90, .tmp 95]) rfl ?_); (try (refine gate_guard (by rfl) ?_; dsimp only)); at_builtin; refine Kd.R_append kOp (w0 := w) w.heap.size rfl (.tmp 90) (.tmp 95) 22 32 (.agg #[(.int .i64 0), (.int .i64 0), (.string ⟨#[]⟩)]) 32 rfl Tryd.underlying22 info32 rfl (by decide) (by omega) (.slice Ao38 x3_14.length co38) x3_14 (⟨(rd_Op l0 x5_1).f0, (rd_Op l0 x5_1).f1, (rd_Op l0 x5_1).f2⟩ : Op) [.int .i64 ((rd_Op l0 x5_1).f0), .int .i64 ((rd_Op l0 x5_1).f1), .string ((rd_Op l0 x5_1).f2)] (fun k_ => some k_ ≠ (u4 : Value).ownBlock) (fun _ => False) rfl rfl ?aP (fun _ hk => hk.elim) ?aF ?aO ?aB ?aS ?aL ?_; (case aP => exact kOp_mkM _ _ _ (⟨(rd_Op l0 x5_1).f0, (rd_Op l0 x5_1).f1, (rd_Op l0 x5_1).f2⟩ : Op)); (case aB => exact yB); (case aF => exact (fun k_ hk => Kd.fresh' (Kd.R_lt (yH HO_4.out)) k_ hk)); (case aO => exact (yH HO_3.out)); (case aS => exact yW); (case aL => have := LMc37.out; omega); intro v402 w39 ho hb hg hat; rw [← Ny401.out] at ho; have n0_ := aM (Kd.R_after (ok := (fun _ => True)) (by (with_reducible repeat (first | apply Kd.R_alloc | apply Kd.R_drewN | apply Kd.R_drew)); exact Kd.R_mono HO_4.out (fun _ hk => ⟨trivial, hk⟩)) hg hat); have n1_ := aM (hb); have n2_ := aM (ho); clear HO_4; clear HB; clear HO_3; have HO_4 := n0_; have HB := n1_; have HO403 := n2_; clear n0_ n1_ n2_; clear ho hb hg hat))
                 go_roundg kj14
                 case measure => have := HK1.out; have := HJ2.out; have := HJ10.out; have := HJ14.out; omega
                 case rel => exact ⟨(y401), (x4_14), (wrap64 (x5_1 + 1)), yE, H', ⟨by have := HK1.out; have := HJ2.out; have := HJ10.out; have := HJ14.out; omega⟩, ⟨yH HO403.out⟩, ⟨by (with_reducible repeat (first | apply Kd.R_alloc | apply Kd.R_drewN | apply Kd.R_drew)); exact Kd.R_mono HO_4.out (fun _ hk => hk.2)⟩, ⟨yB⟩⟩
                ·rw [if_neg c37] at H
                 exact absurd H (by simp)
              ·rw [if_neg c23] at H
               have c23b0 := beq_eq_false_iff_ne.mpr c23; have c23b1 := bne_iff_ne.mpr c23
               by_cases c40 : x3_14.length < 4398046511104
               ·rw [if_pos c40] at H
                have LMc40 := aM c40; clear c40; obtain ⟨y405, hy405⟩ : ∃ y_ : List (Op), y_ = (x3_14 ++ [(⟨(rd_Op l0 x5_1).f0, (rd_Op l0 x5_1).f1, (rd_Op l0 x5_1).f2⟩ : Op)]) := ⟨_, rfl⟩; replace H : (patchworkref8_norm.l0 kj14 l0 y405 x4_14 (wrap64 (x5_1 + 1))) = some r := yN hy405 H
                have Ny405 := aM hy405; clear hy405; have H' := aM H; clear H; have p390 : 0 ≤ (x5_1 : Int) := yO; have q390 : x5_1 < (l0.length : Int) := yO; obtain ⟨ad390, e390, hx390_0, hx390_1, hx390_2⟩ := at_OpB HB.out HR0.out x5_1 p390 q390; cases e390; replace p390 := eq_true p390; replace q390 := eq_true q390; have p404 : 0 ≤ (x5_1 : Int) := yO; have q404 : x5_1 < (l0.length : Int) := yO; obtain ⟨ad404, e404, hx404_0, hx404_1, hx404_2⟩ := at_Op HR0.out x5_1 p404 q404; obtain rfl : ad390 = ad404 := (by injection e404); replace hx404_0 := (HB.out.cell (bL w _ hx404_0)).trans hx404_0; replace hx404_1 := (HB.out.cell (bL w _ hx404_1)).trans hx404_1; replace hx404_2 := (HB.out.cell (bL w _ hx404_2)).trans hx404_2; replace p404 := eq_true p404; replace q404 := eq_true q404
                go_wp2_with (first | ((with_reducible refine gate_builtin (b := .append) (xs := #[.tmp 90, .tmp 95]) rfl ?_); (try (refine gate_guard (by rfl) ?_; dsimp only)); at_builtin; refine Kd.R_append kOp (w0 := w) w.heap.size rfl (.tmp 90) (.tmp 95) 22 32 (.agg #[(.int .i64 0), (.int .i64 0), (.string ⟨#[]⟩)]) 32 rfl Tryd.underlying22 info32 rfl (by decide) (by omega) u3 x3_14 (⟨(rd_Op l0 x5_1).f0, (rd_Op l0 x5_1).f1, (rd_Op l0 x5_1).f2⟩ : Op) [.int .i64 ((rd_Op l0 x5_1).f0), .int .i64 ((rd_Op l0 x5_1).f1), .string ((rd_Op l0 x5_1).f2)] (fun k_ => some k_ ≠ (u4 : Value).ownBlock) (fun _ => False) rfl rfl ?aP (fun _ hk => hk.elim) ?aF ?aO ?aB ?aS ?aL ?_; (case aP => exact kOp_mkM _ _ _ (⟨(rd_Op l0 x5_1).f0, (rd_Op l0 x5_1).f1, (rd_Op l0 x5_1).f2⟩ : Op)); (case aB => exact yB); (case aF => exact (fun k_ hk => Kd.fresh' (Kd.R_lt (yH HO_4.out)) k_ hk)); (case aO => exact (yH HO_3.out)); (case aS => exact yW); (case aL => have := LMc40.out; omega); intro v406 w41 ho hb hg hat; rw [← Ny405.out] at ho; have n0_ := aM (Kd.R_after (ok := (fun _ => True)) (by (with_reducible repeat (first | apply Kd.R_alloc | apply Kd.R_drewN | apply Kd.R_drew)); exact Kd.R_mono HO_4.out (fun _ hk => ⟨trivial, hk⟩)) hg hat); have n1_ := aM (hb); have n2_ := aM (ho); clear HO_4; clear HB; clear HO_3; have HO_4 := n0_; have HB := n1_; have HO407 := n2_; clear n0_ n1_ n2_; clear ho hb hg hat))
                go_roundg kj14
                case measure => have := HK1.out; have := HJ2.out; have := HJ10.out; have := HJ14.out; omega
                case rel => exact ⟨(y405), (x4_14), (wrap64 (x5_1 + 1)), yE, H', ⟨by have := HK1.out; have := HJ2.out; have := HJ10.out; have := HJ14.out; omega⟩, ⟨yH HO407.out⟩, ⟨by (with_reducible repeat (first | apply Kd.R_alloc | apply Kd.R_drewN | apply Kd.R_drew)); exact Kd.R_mono HO_4.out (fun _ hk => hk.2)⟩, ⟨yB⟩⟩
               ·rw [if_neg c40] at H
                exact absurd H (by simp)
             ·rw [if_neg c22] at H
              exact absurd H (by simp)
            ·rw [if_neg c21] at H
             exact absurd H (by simp)
   ·rw [if_neg c2] at H
    have c2b0 := decide_eq_false c2; clear c2; obtain rfl := Option.some.inj H
    go_wp2
    go_ret
    exact ⟨_, by first | rfl | (simp [errW_none, errW_some] <;> rfl) | (simp [*, errW_none, errW_some] <;> rfl), by (with_reducible repeat (first | apply Kd.R_alloc | apply Kd.R_drewN | apply Kd.R_drew)); exact Kd.R_mono HO_3.out (fun _ hk => trivial), yB⟩
set_option maxHeartbeats 8000000 in
set_option maxRecDepth 100000 in
theorem patchworkref8_ops.calls (k : Nat) (A0 : Option Addr) (c0 : Nat) (l0 : List (By)) (r : List (Op)) (w : World) (hr0 : Kd.C kBy w A0 l0.length l0) (hc0 : l0.length ≤ c0) (h : patchworkref8_ops.f k l0 = some r) :
  Calls Tryd.prog 34 #[.slice A0 l0.length c0] w fun e w' => ∃ v0_ : Value, e = .returned (v0_) ∧ Kd.R kOp 32 w' w.heap.size (fun _ => True) v0_ r ∧ Below w.heap.size w w' := by
 have hu32 := Tryd.underlying32
 have HR0 := aM hr0
 have HC0 := aM hc0
 clear hr0 hc0
 have HB := aM (Below.refl w.heap.size w)
 have H : (patchworkref8_ops.l0 k l0 ([] : List (Op)) 0) = some r := h
 clear h
 have H' := aM H
 clear H
 go_enter Tryd.func34, Tryd.ntmps34
 go_wp2
 go_loopg [3, 4] k (fun kq v3 v4 w' => ∃ (x3_1 : List (Op)) (x4_1 : Int), v4 = .int .i64 x4_1 ∧ Aside0 (patchworkref8_ops.l0 kq l0 x3_1 x4_1 = some r) ∧ Aside0 (kq ≤ k) ∧ Aside0 (Kd.R kOp 32 w' w.heap.size (fun _ => True) v3 x3_1) ∧ Aside0 (Below w.heap.size w w'))
 case atStart => exact ⟨(([] : List (Op))), (0), yE, H', ⟨Nat.le_refl _⟩, ⟨by first | exact Kd.R_nil _ _ _ _ _ | exact Kd.N_nil _ _ _ _ _ | exact Kd.V_nil _ _ _ _ _ | exact Kd.Q_nil _ _ _ _ _ | exact Kd.S_nil _ _ _ _ _⟩, ⟨yB⟩⟩
 case round =>
  clear H'; obtain ⟨x3_1, x4_1, rfl, HA, HK1, HO_3, HB⟩ := hrel; cases gk with
  | zero => exact absurd HA.out (by simp [patchworkref8_ops.l0])
  | succ k1 =>
   have H := HA.out; clear HA; simp only [patchworkref8_ops.l0] at H
   by_cases c2 : x4_1 < (l0.length : Int)
   ·rw [if_pos c2] at H
    have c2b0 := decide_eq_true c2; clear c2
    by_cases c3 : 0 ≤ x4_1
    ·rw [if_pos c3] at H
     have c3b0 := decide_eq_true c3; clear c3
     by_cases c4 : x3_1.length < 4398046511104
     ·rw [if_pos c4] at H
      have LMc4 := aM c4; clear c4; obtain ⟨y409, hy409⟩ : ∃ y_ : List (Op), y_ = (x3_1 ++ [(⟨(rd_By l0 x4_1).f0.f0, (rd_By l0 x4_1).f0.f1, (rd_By l0 x4_1).f0.f2⟩ : Op)]) := ⟨_, rfl⟩; replace H : (patchworkref8_ops.l0 k1 l0 y409 (wrap64 (x4_1 + 1))) = some r := yN hy409 H
      have Ny409 := aM hy409; clear hy409; have H' := aM H; clear H; have p408 : 0 ≤ (x4_1 : Int) := yO; have q408 : x4_1 < (l0.length : Int) := yO; obtain ⟨ad408, e408, hx408_0, hx408_1, hx408_2, hx408_3⟩ := at_ByB HB.out HR0.out x4_1 p408 q408; cases e408; replace p408 := eq_true p408; replace q408 := eq_true q408
      go_wp2_with (first | ((with_reducible refine gate_builtin (b := .append) (xs := #[.tmp 11, .tmp 17]) rfl ?_); at_builtin; refine Kd.R_append kOp (w0 := w) w.heap.size rfl (.tmp 11) (.tmp 17) 22 32 (.agg #[(.int .i64 0), (.int .i64 0), (.string ⟨#[]⟩)]) 32 rfl Tryd.underlying22 info32 rfl (by decide) (by omega) u3 x3_1 (⟨(rd_By l0 x4_1).f0.f0, (rd_By l0 x4_1).f0.f1, (rd_By l0 x4_1).f0.f2⟩ : Op) [.int .i64 ((rd_By l0 x4_1).f0.f0), .int .i64 ((rd_By l0 x4_1).f0.f1), .string ((rd_By l0 x4_1).f0.f2)] (fun _ => True) (fun _ => False) rfl rfl ?aP (fun _ hk => hk.elim) ?aF ?aO ?aB ?aS ?aL ?_; (case aP => exact kOp_mkM _ _ _ (⟨(rd_By l0 x4_1).f0.f0, (rd_By l0 x4_1).f0.f1, (rd_By l0 x4_1).f0.f2⟩ : Op)); (case aB => exact yB); (case aF => exact (fun _ _ => trivial)); (case aO => exact (yH HO_3.out)); (case aS => exact yW); (case aL => have := LMc4.out; omega); intro v410 w5 ho hb hg hat; rw [← Ny409.out] at ho; have n0_ := aM (hb); have n1_ := aM (ho); clear HB; clear HO_3; have HB := n0_; have HO411 := n1_; clear n0_ n1_; clear ho hb hg hat))
      go_roundg k1
      case measure => have := HK1.out; omega
      case rel => exact ⟨(y409), (wrap64 (x4_1 + 1)), yE, H', ⟨by have := HK1.out; omega⟩, ⟨yH HO411.out⟩, ⟨yB⟩⟩
     ·rw [if_neg c4] at H
      exact absurd H (by simp)
    ·rw [if_neg c3] at H
     exact absurd H (by simp)
   ·rw [if_neg c2] at H
    have c2b0 := decide_eq_false c2; clear c2; obtain rfl := Option.some.inj H
    go_wp2
    go_ret
    exact ⟨_, by first | rfl | (simp [errW_none, errW_some] <;> rfl) | (simp [*, errW_none, errW_some] <;> rfl), by (with_reducible repeat (first | apply Kd.R_alloc | apply Kd.R_drewN | apply Kd.R_drew)); exact HO_3.out, yB⟩
set_option maxHeartbeats 8000000 in
set_option maxRecDepth 100000 in
theorem patchworkref1_SameTexts.calls (k : Nat) (A0 : Option Addr) (c0 : Nat) (l0 : List ByteArray) (A1 : Option Addr) (c1 : Nat) (l1 : List ByteArray) (r : Bool) (w : World) (hr0 : Kd.C Kd.string w A0 l0.length l0) (hc0 : l0.length ≤ c0) (hr1 : Kd.C Kd.string w A1 l1.length l1) (hc1 : l1.length ≤ c1) (h : patchworkref1_SameTexts.f k l0 l1 = some r) :
  Calls Tryd.prog 20 #[.slice A0 l0.length c0, .slice A1 l1.length c1] w fun e w' => e = .returned (.bool r) ∧ Drawn0 w w' := by
 have HR0 := aM hr0
 have HC0 := aM hc0
 clear hr0 hc0
 have HR1 := aM hr1
 have HC1 := aM hc1
 clear hr1 hc1
 have H : (if (l0.length : Int) = (l1.length : Int) then (patchworkref1_SameTexts.l0 k l0 l1 0) else (some false)) = some r := h
 clear h
 by_cases c3 : (l0.length : Int) = (l1.length : Int)
 ·rw [if_pos c3] at H
  have c3b0 := beq_iff_eq.mpr c3; have c3b1 := bne_eq_false_iff_eq.mpr c3; have c3b2 : (l0.length == l1.length) = true := by first | simpa using c3 | (simp at c3 ⊢; omega)
  clear c3; have H' := aM H; clear H
  go_enter Tryd.func20, Tryd.ntmps20
  go_wp2
  repeat (go_quiet (fail); try go_wp2)
  go_loopg [5] k (fun kq v5 w' => ∃ (x5_1 : Int), v5 = .int .i64 x5_1 ∧ Aside0 (patchworkref1_SameTexts.l0 kq l0 l1 x5_1 = some r) ∧ Aside0 (kq ≤ k) ∧ Drawn0 w w')
  case atStart => exact ⟨(0), yE, H', ⟨Nat.le_refl _⟩, yD⟩
  case round =>
   clear H'; (try clear c1); (try clear c2); (try clear p2); (try clear c3); (try clear c3b0); (try clear c3b1); (try clear c3b2); obtain ⟨x5_1, rfl, HA, HK1, ⟨m1, rfl⟩⟩ := hrel; cases gk with
   | zero => exact absurd HA.out (by simp [patchworkref1_SameTexts.l0])
   | succ k1 =>
    have H := HA.out; clear HA; simp only [patchworkref1_SameTexts.l0] at H
    by_cases c4 : x5_1 < (l0.length : Int)
    ·rw [if_pos c4] at H
     have c4b0 := decide_eq_true c4; clear c4
     by_cases c5 : 0 ≤ x5_1
     ·rw [if_pos c5] at H
      have c5b0 := decide_eq_true c5; clear c5
      by_cases c6 : x5_1 < (l1.length : Int)
      ·rw [if_pos c6] at H
       have c6b0 := decide_eq_true c6; clear c6
       by_cases c7 : (rdOf ByteArray.empty l0 x5_1).toList = (rdOf ByteArray.empty l1 x5_1).toList
       ·rw [if_pos c7] at H
        have c7b0 := beq_iff_eq.mpr c7; have c7b1 := bne_eq_false_iff_eq.mpr c7; clear c7; have H' := aM H; clear H; have p433 : 0 ≤ (x5_1 : Int) := yO; have q433 : x5_1 < (l0.length : Int) := yO; obtain ⟨ad433, e433, hx433_0⟩ := Kd.at_string HR0.out x5_1 p433 q433; cases e433; replace p433 := eq_true p433; replace q433 := eq_true q433; have p434 : 0 ≤ (x5_1 : Int) := yO; have q434 : x5_1 < (l1.length : Int) := yO; obtain ⟨ad434, e434, hx434_0⟩ := Kd.at_string HR1.out x5_1 p434 q434; cases e434; replace p434 := eq_true p434; replace q434 := eq_true q434
        go_wp2
        repeat (go_quiet (fail); try go_wp2)
        go_roundg k1
        case measure => have := HK1.out; omega
        case rel => exact ⟨(wrap64 (x5_1 + 1)), yE, H', ⟨by have := HK1.out; omega⟩, yD⟩
       ·rw [if_neg c7] at H
        have c7b0 := beq_eq_false_iff_ne.mpr c7; have c7b1 := bne_iff_ne.mpr c7; obtain rfl := Option.some.inj H; have p433 : 0 ≤ (x5_1 : Int) := yO; have q433 : x5_1 < (l0.length : Int) := yO; obtain ⟨ad433, e433, hx433_0⟩ := Kd.at_string HR0.out x5_1 p433 q433; cases e433; replace p433 := eq_true p433; replace q433 := eq_true q433; have p434 : 0 ≤ (x5_1 : Int) := yO; have q434 : x5_1 < (l1.length : Int) := yO; obtain ⟨ad434, e434, hx434_0⟩ := Kd.at_string HR1.out x5_1 p434 q434; cases e434; replace p434 := eq_true p434; replace q434 := eq_true q434
        go_wp2
        repeat (go_quiet (fail); try go_wp2)
        go_ret
        exact ⟨yE, yD⟩
      ·rw [if_neg c6] at H
       exact absurd H (by simp)
     ·rw [if_neg c5] at H
      exact absurd H (by simp)
    ·rw [if_neg c4] at H
     have c4b0 := decide_eq_false c4; clear c4; obtain rfl := Option.some.inj H
     go_wp2
     repeat (go_quiet (fail); try go_wp2)
     go_ret
     exact ⟨yE, yD⟩
 ·rw [if_neg c3] at H
  have c3b0 := beq_eq_false_iff_ne.mpr c3; have c3b1 := bne_iff_ne.mpr c3; have c3b2 : (l0.length == l1.length) = false := by first | simpa using c3 | (simp at c3 ⊢; omega)
  obtain rfl := Option.some.inj H
  go_enter Tryd.func20, Tryd.ntmps20
  go_wp2
  repeat (go_quiet (fail); try go_wp2)
  go_ret
  exact ⟨yE, yD⟩
end Go.Proofs.YtkiklmmpflndbaaDoor.P
