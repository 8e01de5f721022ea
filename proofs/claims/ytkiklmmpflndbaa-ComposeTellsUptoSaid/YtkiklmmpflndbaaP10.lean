-- PRINTED by print.py (a twelfth state) out of the translation. Not trusted: Lean checks it.
import Derived.Test.YtkiklmmpflndbaaD
import Derived.Test.YtkiklmmpflndbaaP0
import Derived.Test.YtkiklmmpflndbaaP1
namespace Go.Proofs.Ytkiklmmpflndbaa.P
open Go.RowKit Go.Proofs.YtkiklmmpflndbaaW.PrintWords Go.Proofs.YtkiklmmpflndbaaW.PrintLast Go.Proofs.YtkiklmmpflndbaaW.PrintMore
-- squeezed
open Go.Proofs.YtkiklmmpflndbaaW.PrintWords renaming below_alloc → bA, pw_below_drewN → bN, below_drew1 → bD
open Go.Proofs.YtkiklmmpflndbaaW.PrintWords.Aside0 renaming mk → aM
open Go.World renaming block_lt_of_cell? → bL
open List renaming setIfInBounds_toArray → sI, set_cons_zero → sZ, set_cons_succ → sS
attribute [local go_sem] max2_int min2_int max_two min_two max_three min_three max_four min_four   -- for this text's walks alone
set_option linter.unusedVariables false
set_option linter.unusedSimpArgs false

attribute [local go_sem high] eqAOp
/-! ### patchworkref8_on: function 48 -/

set_option maxHeartbeats 8000000 in
set_option maxRecDepth 100000 in
theorem patchworkref8_on.calls (P0_ : Nat → Prop) (A0 : Option Addr) (c0 : Nat) (l0 : List (Op)) (a1 : Int) (r : List (Op)) (w : World) (hs0 : Kd.V kOp 38 w w.heap.size (fun k_ => P0_ k_) (.slice A0 l0.length c0) l0) (h : patchworkref8_on.f l0 a1 = some r) :
  Calls Try.prog 48 #[.slice A0 l0.length c0, .int .i64 a1] w fun e w' => ∃ v0_ : Value, e = .returned (v0_) ∧ Kd.V kOp 38 w' w.heap.size (fun k_ => (P0_ k_ ∨ w.heap.size ≤ k_)) v0_ r ∧ Below w.heap.size w w' := by
 have hu38 := Try.underlying38
 have HO0 := aM (show Kd.V kOp 38 w w.heap.size (fun k_ => (P0_ k_ ∨ w.heap.size ≤ k_)) (.slice A0 l0.length c0) l0 from Kd.V_mono hs0 (fun k_ hk => .inl hk))
 have HB := aM (Below.refl w.heap.size w)
 have H : (if (l0.length : Int) = 0 then (some l0) else (if 0 < (l0.length : Int) then (if ((rd_Op l0 0).f0) = 1 then (if ((rd_Op l0 0).f1) > a1 then ((some (([(⟨1, wrap64 (((rd_Op l0 0).f1) - a1), (⟨#[]⟩ : ByteArray)⟩ : Op)] : List (Op)) : List (Op))).bind fun y250 => (if 1 ≤ (l0.length : Int) then ((some (l0.drop 1 : List (Op))).bind fun y253 => (if y250.length + y253.length < 4398046511104 then (some (y250 ++ y253)) else (none))) else (none))) else (if 1 ≤ (l0.length : Int) then (some (l0.drop 1)) else (none))) else (if 1 ≤ (l0.length : Int) then (some (l0.drop 1)) else (none))) else (none))) = some r := h
 clear h
 by_cases c3 : (l0.length : Int) = 0
 ·rw [if_pos c3] at H
  have c3b0 : ((l0.length : Int) == 0) = true := beq_iff_eq.mpr c3; have c3b1 : ((l0.length : Int) != 0) = false := bne_eq_false_iff_eq.mpr c3; clear c3; obtain rfl := Option.some.inj H
  go_enter Try.func48, Try.ntmps48
  go_wp2
  go_ret
  exact ⟨_, by first | rfl | (simp [errW_none, errW_some] <;> rfl) | (simp [*, errW_none, errW_some] <;> rfl), by (with_reducible repeat (first | apply Kd.V_alloc | apply Kd.V_drewN | apply Kd.V_drew)); exact HO0.out, by repeat (first | (with_reducible first | exact HB.out | apply bA | apply bN | apply bD) | exact HB.out)⟩
 ·rw [if_neg c3] at H
  have c3b0 : ((l0.length : Int) == 0) = false := beq_eq_false_iff_ne.mpr c3; have c3b1 : ((l0.length : Int) != 0) = true := bne_iff_ne.mpr c3; have c3b2 : ¬ (l0 = []) := fun h_ => c3 (by rw [h_]; rfl)
  by_cases c4 : 0 < (l0.length : Int)
  ·rw [if_pos c4] at H
   have c4b0 : decide (0 < (l0.length : Int)) = true := decide_eq_true c4; have c4b1 : decide (0 < l0.length) = true := decide_eq_true (by omega); clear c4
   by_cases c5 : ((rd_Op l0 0).f0) = 1
   ·rw [if_pos c5] at H
    have c5b0 : (((rd_Op l0 0).f0) == 1) = true := beq_iff_eq.mpr c5; have c5b1 : (((rd_Op l0 0).f0) != 1) = false := bne_eq_false_iff_eq.mpr c5; clear c5
    by_cases c6 : ((rd_Op l0 0).f1) > a1
    ·rw [if_pos c6] at H
     have c6b0 : decide (a1 < ((rd_Op l0 0).f1)) = true := decide_eq_true c6; clear c6; obtain ⟨y250, hy250⟩ : ∃ y_ : List (Op), y_ = (([(⟨1, wrap64 (((rd_Op l0 0).f1) - a1), (⟨#[]⟩ : ByteArray)⟩ : Op)] : List (Op))) := ⟨_, rfl⟩; replace H : (if 1 ≤ (l0.length : Int) then ((some (l0.drop 1 : List (Op))).bind fun y253 => (if y250.length + y253.length < 4398046511104 then (some (y250 ++ y253)) else (none))) else (none)) = some r := by first | (rw [hy250]; with_reducible exact H) | (have H2_ := (Option.bind_some _ _).symm.trans H; rw [hy250]; with_reducible exact H2_) | (have H2_ := (Option.bind_some _ _).symm.trans H; with_reducible exact H2_) | with_reducible exact H | (rw [hy250]; exact H) | exact H
     have Ny250 := aM hy250; clear hy250
     by_cases c7 : 1 ≤ (l0.length : Int)
     ·rw [if_pos c7] at H
      have c7b0 := eq_true c7; have c7b1 : decide (1 ≤ (l0.length : Int)) = true := decide_eq_true c7; clear c7; obtain ⟨y253, hy253⟩ : ∃ y_ : List (Op), y_ = (l0.drop 1) := ⟨_, rfl⟩; replace H : (if y250.length + y253.length < 4398046511104 then (some (y250 ++ y253)) else (none)) = some r := by first | (rw [hy253]; with_reducible exact H) | (have H2_ := (Option.bind_some _ _).symm.trans H; rw [hy253]; with_reducible exact H2_) | (have H2_ := (Option.bind_some _ _).symm.trans H; with_reducible exact H2_) | with_reducible exact H | (rw [hy253]; exact H) | exact H
      have Ny253 := aM hy253; clear hy253
      by_cases c8 : y250.length + y253.length < 4398046511104
      ·rw [if_pos c8] at H
       have LMc8 := aM c8; clear c8; obtain ⟨y258, hy258⟩ : ∃ y_ : List (Op), y_ = (y250 ++ y253) := ⟨_, rfl⟩; replace H : (some y258) = some r := by first | (rw [hy258]; with_reducible exact H) | (have H2_ := (Option.bind_some _ _).symm.trans H; rw [hy258]; with_reducible exact H2_) | (have H2_ := (Option.bind_some _ _).symm.trans H; with_reducible exact H2_) | with_reducible exact H | (rw [hy258]; exact H) | exact H
       have Ny258 := aM hy258; clear hy258; obtain rfl := Option.some.inj H; have p247 : 0 ≤ (0 : Int) := (by omega); have q247 : 0 < (l0.length : Int) := of_decide_eq_true (by first | (with_reducible assumption) | assumption); obtain ⟨ad247, e247, hx247_0, hx247_1, hx247_2⟩ := at_Op (Kd.V_reads' HO0.out).2.2 0 p247 q247; cases e247; have qi247 : (0 < l0.length) = True := eq_true (by omega)
       (try rw [show ((0 : Int)).toNat = 0 from rfl] at hx247_0)
       (try rw [show 0 * 3 = 0 from rfl] at hx247_0)
       (try rw [Addr.add_zero'] at hx247_0)
       (try rw [show ((0 : Int)).toNat = 0 from rfl] at hx247_1)
       (try rw [show 0 * 3 = 0 from rfl] at hx247_1)
       (try rw [Addr.add_zero'] at hx247_1)
       (try rw [show ((0 : Int)).toNat = 0 from rfl] at hx247_2)
       (try rw [show 0 * 3 = 0 from rfl] at hx247_2)
       (try rw [Addr.add_zero'] at hx247_2)
       replace p247 := eq_true p247; replace q247 := eq_true q247; have p248 : 0 ≤ (0 : Int) := (by omega); have q248 : 0 < (l0.length : Int) := of_decide_eq_true (by first | (with_reducible assumption) | assumption); obtain ⟨ad248, e248, hx248_0, hx248_1, hx248_2⟩ := at_Op (Kd.V_reads' HO0.out).2.2 0 p248 q248; obtain rfl : ad247 = ad248 := (by injection e248); have qi248 : (0 < l0.length) = True := eq_true (by omega)
       (try rw [show ((0 : Int)).toNat = 0 from rfl] at hx248_0)
       (try rw [show 0 * 3 = 0 from rfl] at hx248_0)
       (try rw [Addr.add_zero'] at hx248_0)
       (try rw [show ((0 : Int)).toNat = 0 from rfl] at hx248_1)
       (try rw [show 0 * 3 = 0 from rfl] at hx248_1)
       (try rw [Addr.add_zero'] at hx248_1)
       (try rw [show ((0 : Int)).toNat = 0 from rfl] at hx248_2)
       (try rw [show 0 * 3 = 0 from rfl] at hx248_2)
       (try rw [Addr.add_zero'] at hx248_2)
       replace p248 := eq_true p248; replace q248 := eq_true q248
       go_enter Try.func48, Try.ntmps48
       try go_wp2
       have n0_ := aM (Kd.V_drew HO0.out); have n1_ := aM (bD HB.out); clear HO0; clear HB; have HO0 := n0_; have HB := n1_; clear n0_ n1_; have p249 : 0 ≤ (0 : Int) := (by omega); have q249 : 0 < (l0.length : Int) := of_decide_eq_true (by first | (with_reducible assumption) | assumption); obtain ⟨ad249, e249, hx249_0, hx249_1, hx249_2⟩ := at_Op (Kd.V_reads' HO0.out).2.2 0 p249 q249; obtain rfl : ad247 = ad249 := (by injection e249); have qi249 : (0 < l0.length) = True := eq_true (by omega)
       (try rw [show ((0 : Int)).toNat = 0 from rfl] at hx249_0)
       (try rw [show 0 * 3 = 0 from rfl] at hx249_0)
       (try rw [Addr.add_zero'] at hx249_0)
       (try rw [show ((0 : Int)).toNat = 0 from rfl] at hx249_1)
       (try rw [show 0 * 3 = 0 from rfl] at hx249_1)
       (try rw [Addr.add_zero'] at hx249_1)
       (try rw [show ((0 : Int)).toNat = 0 from rfl] at hx249_2)
       (try rw [show 0 * 3 = 0 from rfl] at hx249_2)
       (try rw [Addr.add_zero'] at hx249_2)
       replace p249 := eq_true p249; replace q249 := eq_true q249; have q10 : (1 : Int) ≤ ((l0.length : Int) : Int) := of_decide_eq_true (by first | (with_reducible assumption) | assumption); obtain ⟨i010, hi010, _, hsz10, _⟩ := info_parts info38; have hroom10 : l0.length ≤ c0 := (Kd.V_reads' HO0.out).2.1; have hC10 : Kd.F kOp _ _ (some ad247) l0.length l0 := (Kd.V_at (base := w.heap.size) HO0.out).2.2; have hcut10 := cut_from (P := Try.prog) 22 38 .i64 Try.underlying22 hi010 3 hsz10 (some ad247) l0.length c0 1 (by omega) q10; have hr10 := Kd.F_cut (m := (1 : Int).toNat) (c := c0) hC10 (by omega) hroom10; obtain ⟨A10, hA10⟩ : ∃ A1, A1 = (if c0 = (1 : Int).toNat then (some ad247) else ((some ad247) : Option Addr).map (·.add ((1 : Int).toNat * 3))) := ⟨_, rfl⟩; obtain ⟨c10, hc10⟩ : ∃ c1, c1 = c0 - (1 : Int).toNat := ⟨_, rfl⟩; have hy10 : y253.length = l0.length - (1 : Int).toNat := (by rw [Ny253.out, List.length_drop] <;> omega); rw [show (l0).drop (1 : Int).toNat = y253 from Ny253.out.symm] at hr10; replace hr10 : Kd.F kOp _ _ A10 y253.length y253 := (by rw [hA10]; exact hr10); rw [← hy10, ← hA10, ← hc10] at hcut10; have HO257 := aM (show Kd.V kOp 38 _ w.heap.size _ (.slice A10 y253.length c10) y253 from Kd.V_mk (by rw [hy10, hc10]; exact Nat.sub_le_sub_right hroom10 _) hr10); have HC257 := aM (show y253.length ≤ c10 from by rw [hy10, hc10]; exact Nat.sub_le_sub_right hroom10 _); clear hr10 hC10 hroom10 hi010 hsz10 hc10; have KY10 := aM hy10; have KA10 := aM hA10; clear hy10 hA10; replace q10 := eq_true q10
       refine start_ (n := 12) (S := fun w' => w'.cell? ad247 = some (.int .i64 ((rd_Op l0 0).f0)) ∧ w'.cell? ⟨ad247.block, ad247.off + 1, none⟩ = some (.int .i64 ((rd_Op l0 0).f1)) ∧ w'.cell? ⟨ad247.block, ad247.off + 2, none⟩ = some (.string ((rd_Op l0 0).f2))) (ds := [10]) #[false, false, false, false, false, false, false, false, false, false, false, false] (by kernel_rfl) rfl rfl ⟨hx249_0, hx249_1, hx249_2⟩ (fun hHeld => ?_); refine with_tabW patchworkref8_on.tab4 patchworkref8_on.bits4 (fun HT_ HW_ => ?_)
       generalize w.drew = w9 at HO0 HB HO257 hx249_0 hx249_1 hx249_2 hHeld ⊢
       refine pure_ (i := 0) (N := some 22) (v := ?_) (a' := ?_) #[true, false, false, false, false, false, false, false, false, false, false, false] rfl rfl (any_of HT_.out (by kernel_rfl)) (fun _ _ _ h => h) (Or.inl ⟨by rfl, ?_⟩) ?_ ?_
       rotate_left
       ·intro w'
        go_simp
        with_reducible rfl
       rotate_left
       ·simp only [Act.put, sI, sZ, sS, i64_w, i32_w]
        rfl
       refine pure_ (i := 1) (N := some 23) (v := ?_) (a' := ?_) #[true, true, false, false, false, false, false, false, false, false, false, false] rfl rfl (any_of HT_.out (by kernel_rfl)) (fun _ _ _ h => h) (Or.inl ⟨by rfl, ?_⟩) ?_ ?_
       rotate_left
       ·intro w'
        go_simp
        with_reducible rfl
       rotate_left
       ·simp only [Act.put, sI, sZ, sS, i64_w, i32_w]
        rfl
       refine pure_ (i := 2) (N := some 24) (v := ?_) (a' := ?_) #[true, true, true, false, false, false, false, false, false, false, false, false] rfl rfl (any_of HT_.out (by kernel_rfl)) (fun _ _ _ h => h) (Or.inl ⟨by rfl, ?_⟩) ?_ ?_
       rotate_left
       ·intro w'
        go_simp
        with_reducible rfl
       rotate_left
       ·simp only [Act.put, sI, sZ, sS, i64_w, i32_w]
        rfl
       refine pure_ (i := 4) (N := some 26) (v := ?_) (a' := ?_) #[true, true, true, false, true, false, false, false, false, false, false, false] rfl rfl (any_of HT_.out (by kernel_rfl)) (fun _ _ _ h => h) (Or.inl ⟨by rfl, ?_⟩) ?_ ?_
       rotate_left
       ·intro w'
        go_simp
        with_reducible rfl
       rotate_left
       ·simp only [Act.put, sI, sZ, sS, i64_w, i32_w]
        rfl
       refine pure_ (i := 8) (N := some 30) (v := ?_) (a' := ?_) #[true, true, true, false, true, false, false, false, true, false, false, false] rfl rfl (any_of HT_.out (by kernel_rfl)) (fun _ _ _ h => h) (Or.inl ⟨by rfl, ?_⟩) ?_ ?_
       rotate_left
       ·intro w'
        go_simp
        with_reducible rfl
       rotate_left
       ·simp only [Act.put, sI, sZ, sS, i64_w, i32_w]
        rfl
       refine pure_ (i := 9) (N := some 31) (v := ?_) (a' := ?_) #[true, true, true, false, true, false, false, false, true, true, false, false] rfl rfl (any_of HT_.out (by kernel_rfl)) (fun _ _ _ h => h) (Or.inl ⟨by rfl, ?_⟩) ?_ ?_
       rotate_left
       ·intro w'
        go_simp
        with_reducible rfl
       rotate_left
       ·simp only [Act.put, sI, sZ, sS, i64_w, i32_w]
        rfl
       refine take_ (i := 3) (N := some 25) (v := ?_) (a' := ?_) #[true, true, true, true, true, false, false, false, true, true, false, false] rfl rfl (take_ofW HT_.out HW_.out (by kernel_rfl)) (fun _ _ _ h => h) (Or.inl ⟨by rfl, ?_⟩) hHeld ?_ ?_
       rotate_left
       ·rintro w' ⟨s0, s1, s2⟩
        go_simp
        with_reducible rfl
       rotate_left
       ·simp only [Act.put, sI, sZ, sS, i64_w, i32_w]
        rfl
       refine pure_ (i := 5) (N := some 27) (v := ?_) (a' := ?_) #[true, true, true, true, true, true, false, false, true, true, false, false] rfl rfl (any_of HT_.out (by kernel_rfl)) (fun _ _ _ h => h) (Or.inl ⟨by rfl, ?_⟩) ?_ ?_
       rotate_left
       ·intro w'
        go_simp
        with_reducible rfl
       rotate_left
       ·simp only [Act.put, sI, sZ, sS, i64_w, i32_w]
        rfl
       refine pure_ (i := 6) (N := some 28) (v := ?_) (a' := ?_) #[true, true, true, true, true, true, true, false, true, true, false, false] rfl rfl (any_of HT_.out (by kernel_rfl)) (fun _ _ _ h => h) (Or.inl ⟨by rfl, ?_⟩) ?_ ?_
       rotate_left
       ·intro w'
        go_simp
        with_reducible rfl
       rotate_left
       ·simp only [Act.put, sI, sZ, sS, i64_w, i32_w]
        rfl
       refine one_ (i := 7) (N := some 29) #[true, true, true, true, true, true, true, true, true, true, false, false] rfl rfl (one_of HT_.out (by kernel_rfl)) (by decide) (fun K hK => ?_)
       refine Kd.R_lit_step kOp _ 38 ?hg (N := 29) ?hd (xs := ([(⟨1, wrap64 (((rd_Op l0 0).f1) - a1), (⟨#[]⟩ : ByteArray)⟩ : Op)] : List (Op))) (inner := [.int .i64 1, .int .i64 (wrap64 (((rd_Op l0 0).f1) - a1)), .string (⟨#[]⟩ : ByteArray)]) (ok := fun _ => True) (okp := fun _ => True) ?hr ?hp (fun _ hk => hk) trivial (Below.refl _ _) (Nat.le_refl _) (by simp) ?_; (case hd => rfl); (case hg => rfl); (case hr => first | (go_simp; done) | (go_simp; rfl)); (case hp => exact (Reps.c3 (show Kd.M kOp _ _ _ (⟨1, wrap64 (((rd_Op l0 0).f1) - a1), (⟨#[]⟩ : ByteArray)⟩ : Op) [.int .i64 1, .int .i64 (wrap64 (((rd_Op l0 0).f1) - a1)), .string (⟨#[]⟩ : ByteArray)] from (kOp_mkM _ _ _ (⟨1, wrap64 (((rd_Op l0 0).f1) - a1), (⟨#[]⟩ : ByteArray)⟩ : Op) )) (Reps.none _ _)))
       intro v251 w11 ho12 hb hg_ hnew_
       have HS0_ := (hb.cell (bL _ _ (hHeld.1))).trans (hHeld.1); have HS1_ := (hb.cell (bL _ _ (hHeld.2.1))).trans (hHeld.2.1); have HS2_ := (hb.cell (bL _ _ (hHeld.2.2))).trans (hHeld.2.2); clear hg_ hnew_
       (first | rw [← Ny250.out] at ho12 | (simp only [Int.reduceToNat] at ho12; rw [← Ny250.out] at ho12))
       have n0_ := aM (Kd.V_elder' (by (with_reducible repeat (first | apply Kd.V_alloc | apply Kd.V_drewN | apply Kd.V_drew)); exact HO0.out) (Kd.R_base ho12) hb); have n1_ := aM (Kd.V_elder' (by (with_reducible repeat (first | apply Kd.V_alloc | apply Kd.V_drewN | apply Kd.V_drew)); exact HO257.out) (Kd.R_base ho12) hb); have n2_ := aM (Kd.R_lower (Kd.R_newM (M := fun k_ => (w.heap.size ≤ k_)) ho12 (below_size (by repeat (first | (with_reducible first | exact HB.out | apply bA | apply bN | apply bD) | exact HB.out))) (fun k_ h_ => h_)) (below_size (by repeat (first | (with_reducible first | exact HB.out | apply bA | apply bN | apply bD) | exact HB.out)))); have n3_ := aM (below_step (by repeat (first | (with_reducible first | exact HB.out | apply bA | apply bN | apply bD) | exact HB.out)) hb); clear HO0; clear HO257; clear HB; have HO0 := n0_; have HO257 := n1_; have HO252 := n2_; have HB := n3_; clear n0_ n1_ n2_ n3_; clear hb ho12
       refine hK.out _ _ ⟨HS0_, HS1_, HS2_⟩ (fun hHeld => ?_)
       clear hK K
       refine norm_ (a' := ?_) ?_ ?_
       rotate_left
       ·show Act.put _ (some 29) _ = _
        simp only [Act.put, sI, sZ, sS, i64_w, i32_w]
        rfl
       refine last_ (i := 10) (N := some 32) #[true, true, true, true, true, true, true, true, true, true, true, false] rfl rfl (one_of HT_.out (by kernel_rfl)) (by decide) (fun K hK => ?_)
       refine Kd.R_append_rows_step kOp (w0 := w) w.heap.size (by rfl) (.tmp 29) (.tmp 31) 22 38 (.agg #[(.int .i64 0), (.int .i64 0), (.string ⟨#[]⟩)]) 32 rfl Try.underlying22 info38 rfl (by decide) (by omega) v251 y250 y253 _ _ _ (fun k_ => (w.heap.size ≤ k_)) (fun _ => False) rfl rfl ?aO ?aR (fun _ _ h => h) (fun _ h => h.elim) ?aF ?aB ?aS ?aL ?_
       (case aR => repeat (first | exact (Kd.V_reads' HO257.out).2.2 | (with_reducible first | refine Kd.C_alloc ?_ _ | refine Kd.C_drewN ?_ _ | refine Kd.C_drew ?_)))
       (case aB => exact (by repeat (first | (with_reducible first | exact HB.out | apply bA | apply bN | apply bD) | exact HB.out)))
       (case aF => exact (fun k_ hk => (Nat.le_trans (below_size (by repeat (first | (with_reducible first | exact HB.out | apply bA | apply bN | apply bD) | exact HB.out))) hk)))
       (case aO => exact (by (with_reducible repeat (first | apply Kd.R_alloc | apply Kd.R_drewN | apply Kd.R_drew)); exact Kd.R_mono HO252.out (fun _ hk => hk.1)))
       (case aS => exact (below_size (by repeat (first | (with_reducible first | exact HB.out | apply bA | apply bN | apply bD) | exact HB.out))))
       (case aL => have := LMc8.out; omega)
       intro v259 w13 ho hb hg hat
       rw [← Ny258.out] at ho; have n0_ := aM (Kd.V_afterv (ok := (fun k_ => (P0_ k_ ∨ w.heap.size ≤ k_))) (by (with_reducible repeat (first | apply Kd.V_alloc | apply Kd.V_drewN | apply Kd.V_drew)); exact HO0.out) hg hat); have n1_ := aM (Kd.V_afterv (ok := (fun k_ => (P0_ k_ ∨ w.heap.size ≤ k_))) (by (with_reducible repeat (first | apply Kd.V_alloc | apply Kd.V_drewN | apply Kd.V_drew)); exact HO257.out) hg hat); have n2_ := aM (hb); have n3_ := aM (ho); clear HO0; clear HO257; clear HB; clear HO252; have HO0 := n0_; have HO257 := n1_; have HB := n2_; have HO260 := n3_; clear n0_ n1_ n2_ n3_; clear ho hb hg hat
       refine hK.out _ _ ?_
       clear hK K
       refine norm_ (a' := ?_) ?_ ?_
       rotate_left
       ·show Act.put _ (some 32) _ = _
        simp only [Act.put, sI, sZ, sS, i64_w, i32_w]
        rfl
       refine pure_ (i := 11) (N := some 4) (v := ?_) (a' := ?_) #[true, true, true, true, true, true, true, true, true, true, true, true] rfl rfl (any_of HT_.out (by kernel_rfl)) (fun _ _ _ h => h) (Or.inl ⟨by rfl, ?_⟩) ?_ ?_
       rotate_left
       ·intro w'
        go_simp
        with_reducible rfl
       rotate_left
       ·simp only [Act.put, sI, sZ, sS, i64_w, i32_w]
        rfl
       refine done_ (done_of HT_.out (by kernel_rfl)) ?_
       try go_wp2
       go_ret
       exact ⟨_, by first | rfl | (simp [errW_none, errW_some] <;> rfl) | (simp [*, errW_none, errW_some] <;> rfl), Kd.V_mono (Kd.R_V (by (with_reducible repeat (first | apply Kd.R_alloc | apply Kd.R_drewN | apply Kd.R_drew)); exact HO260.out)) (fun k_ hk => by first | exact ⟨(.inr (hk.1)), hk.2⟩ | exact (.inr (hk))), by repeat (first | (with_reducible first | exact HB.out | apply bA | apply bN | apply bD) | exact HB.out)⟩
      ·rw [if_neg c8] at H
       exact absurd H (by simp)
     ·rw [if_neg c7] at H
      exact absurd H (by simp)
    ·rw [if_neg c6] at H
     have c6b0 : decide (a1 < ((rd_Op l0 0).f1)) = false := decide_eq_false c6; clear c6
     by_cases c14 : 1 ≤ (l0.length : Int)
     ·rw [if_pos c14] at H
      have c14b0 := eq_true c14; have c14b1 : decide (1 ≤ (l0.length : Int)) = true := decide_eq_true c14; clear c14; obtain ⟨y261, hy261⟩ : ∃ y_ : List (Op), y_ = (l0.drop 1) := ⟨_, rfl⟩; replace H : (some y261) = some r := by first | (rw [hy261]; with_reducible exact H) | (have H2_ := (Option.bind_some _ _).symm.trans H; rw [hy261]; with_reducible exact H2_) | (have H2_ := (Option.bind_some _ _).symm.trans H; with_reducible exact H2_) | with_reducible exact H | (rw [hy261]; exact H) | exact H
      have Ny261 := aM hy261; clear hy261; obtain rfl := Option.some.inj H; have p247 : 0 ≤ (0 : Int) := (by omega); have q247 : 0 < (l0.length : Int) := of_decide_eq_true (by first | (with_reducible assumption) | assumption); obtain ⟨ad247, e247, hx247_0, hx247_1, hx247_2⟩ := at_Op (Kd.V_reads' HO0.out).2.2 0 p247 q247; cases e247; have qi247 : (0 < l0.length) = True := eq_true (by omega)
      (try rw [show ((0 : Int)).toNat = 0 from rfl] at hx247_0)
      (try rw [show 0 * 3 = 0 from rfl] at hx247_0)
      (try rw [Addr.add_zero'] at hx247_0)
      (try rw [show ((0 : Int)).toNat = 0 from rfl] at hx247_1)
      (try rw [show 0 * 3 = 0 from rfl] at hx247_1)
      (try rw [Addr.add_zero'] at hx247_1)
      (try rw [show ((0 : Int)).toNat = 0 from rfl] at hx247_2)
      (try rw [show 0 * 3 = 0 from rfl] at hx247_2)
      (try rw [Addr.add_zero'] at hx247_2)
      replace p247 := eq_true p247; replace q247 := eq_true q247; have p248 : 0 ≤ (0 : Int) := (by omega); have q248 : 0 < (l0.length : Int) := of_decide_eq_true (by first | (with_reducible assumption) | assumption); obtain ⟨ad248, e248, hx248_0, hx248_1, hx248_2⟩ := at_Op (Kd.V_reads' HO0.out).2.2 0 p248 q248; obtain rfl : ad247 = ad248 := (by injection e248); have qi248 : (0 < l0.length) = True := eq_true (by omega)
      (try rw [show ((0 : Int)).toNat = 0 from rfl] at hx248_0)
      (try rw [show 0 * 3 = 0 from rfl] at hx248_0)
      (try rw [Addr.add_zero'] at hx248_0)
      (try rw [show ((0 : Int)).toNat = 0 from rfl] at hx248_1)
      (try rw [show 0 * 3 = 0 from rfl] at hx248_1)
      (try rw [Addr.add_zero'] at hx248_1)
      (try rw [show ((0 : Int)).toNat = 0 from rfl] at hx248_2)
      (try rw [show 0 * 3 = 0 from rfl] at hx248_2)
      (try rw [Addr.add_zero'] at hx248_2)
      replace p248 := eq_true p248; replace q248 := eq_true q248; have q15 : (1 : Int) ≤ ((l0.length : Int) : Int) := of_decide_eq_true (by first | (with_reducible assumption) | assumption); obtain ⟨i015, hi015, _, hsz15, _⟩ := info_parts info38; have hroom15 : l0.length ≤ c0 := (Kd.V_reads' HO0.out).2.1; have hC15 : Kd.F kOp _ _ (some ad247) l0.length l0 := (Kd.V_at (base := w.heap.size) HO0.out).2.2; have hcut15 := cut_from (P := Try.prog) 22 38 .i64 Try.underlying22 hi015 3 hsz15 (some ad247) l0.length c0 1 (by omega) q15; have hr15 := Kd.F_cut (m := (1 : Int).toNat) (c := c0) hC15 (by omega) hroom15; obtain ⟨A15, hA15⟩ : ∃ A1, A1 = (if c0 = (1 : Int).toNat then (some ad247) else ((some ad247) : Option Addr).map (·.add ((1 : Int).toNat * 3))) := ⟨_, rfl⟩; obtain ⟨c15, hc15⟩ : ∃ c1, c1 = c0 - (1 : Int).toNat := ⟨_, rfl⟩; have hy15 : y261.length = l0.length - (1 : Int).toNat := (by rw [Ny261.out, List.length_drop] <;> omega); rw [show (l0).drop (1 : Int).toNat = y261 from Ny261.out.symm] at hr15; replace hr15 : Kd.F kOp _ _ A15 y261.length y261 := (by rw [hA15]; exact hr15); rw [← hy15, ← hA15, ← hc15] at hcut15; have HO265 := aM (show Kd.V kOp 38 _ w.heap.size _ (.slice A15 y261.length c15) y261 from Kd.V_mk (by rw [hy15, hc15]; exact Nat.sub_le_sub_right hroom15 _) hr15); have HC265 := aM (show y261.length ≤ c15 from by rw [hy15, hc15]; exact Nat.sub_le_sub_right hroom15 _); clear hr15 hC15 hroom15 hi015 hsz15 hc15; have KY15 := aM hy15; have KA15 := aM hA15; clear hy15 hA15; replace q15 := eq_true q15
      go_enter Try.func48, Try.ntmps48
      go_wp2
      go_ret
      exact ⟨_, by first | rfl | (simp [errW_none, errW_some] <;> rfl) | (simp [*, errW_none, errW_some] <;> rfl), by (with_reducible repeat (first | apply Kd.V_alloc | apply Kd.V_drewN | apply Kd.V_drew)); exact HO265.out, by repeat (first | (with_reducible first | exact HB.out | apply bA | apply bN | apply bD) | exact HB.out)⟩
     ·rw [if_neg c14] at H
      exact absurd H (by simp)
   ·rw [if_neg c5] at H
    have c5b0 : (((rd_Op l0 0).f0) == 1) = false := beq_eq_false_iff_ne.mpr c5; have c5b1 : (((rd_Op l0 0).f0) != 1) = true := bne_iff_ne.mpr c5
    by_cases c16 : 1 ≤ (l0.length : Int)
    ·rw [if_pos c16] at H
     have c16b0 := eq_true c16; have c16b1 : decide (1 ≤ (l0.length : Int)) = true := decide_eq_true c16; clear c16; obtain ⟨y266, hy266⟩ : ∃ y_ : List (Op), y_ = (l0.drop 1) := ⟨_, rfl⟩; replace H : (some y266) = some r := by first | (rw [hy266]; with_reducible exact H) | (have H2_ := (Option.bind_some _ _).symm.trans H; rw [hy266]; with_reducible exact H2_) | (have H2_ := (Option.bind_some _ _).symm.trans H; with_reducible exact H2_) | with_reducible exact H | (rw [hy266]; exact H) | exact H
     have Ny266 := aM hy266; clear hy266; obtain rfl := Option.some.inj H; have p247 : 0 ≤ (0 : Int) := (by omega); have q247 : 0 < (l0.length : Int) := of_decide_eq_true (by first | (with_reducible assumption) | assumption); obtain ⟨ad247, e247, hx247_0, hx247_1, hx247_2⟩ := at_Op (Kd.V_reads' HO0.out).2.2 0 p247 q247; cases e247; have qi247 : (0 < l0.length) = True := eq_true (by omega)
     (try rw [show ((0 : Int)).toNat = 0 from rfl] at hx247_0)
     (try rw [show 0 * 3 = 0 from rfl] at hx247_0)
     (try rw [Addr.add_zero'] at hx247_0)
     (try rw [show ((0 : Int)).toNat = 0 from rfl] at hx247_1)
     (try rw [show 0 * 3 = 0 from rfl] at hx247_1)
     (try rw [Addr.add_zero'] at hx247_1)
     (try rw [show ((0 : Int)).toNat = 0 from rfl] at hx247_2)
     (try rw [show 0 * 3 = 0 from rfl] at hx247_2)
     (try rw [Addr.add_zero'] at hx247_2)
     replace p247 := eq_true p247; replace q247 := eq_true q247; have q17 : (1 : Int) ≤ ((l0.length : Int) : Int) := of_decide_eq_true (by first | (with_reducible assumption) | assumption); obtain ⟨i017, hi017, _, hsz17, _⟩ := info_parts info38; have hroom17 : l0.length ≤ c0 := (Kd.V_reads' HO0.out).2.1; have hC17 : Kd.F kOp _ _ (some ad247) l0.length l0 := (Kd.V_at (base := w.heap.size) HO0.out).2.2; have hcut17 := cut_from (P := Try.prog) 22 38 .i64 Try.underlying22 hi017 3 hsz17 (some ad247) l0.length c0 1 (by omega) q17; have hr17 := Kd.F_cut (m := (1 : Int).toNat) (c := c0) hC17 (by omega) hroom17; obtain ⟨A17, hA17⟩ : ∃ A1, A1 = (if c0 = (1 : Int).toNat then (some ad247) else ((some ad247) : Option Addr).map (·.add ((1 : Int).toNat * 3))) := ⟨_, rfl⟩; obtain ⟨c17, hc17⟩ : ∃ c1, c1 = c0 - (1 : Int).toNat := ⟨_, rfl⟩; have hy17 : y266.length = l0.length - (1 : Int).toNat := (by rw [Ny266.out, List.length_drop] <;> omega); rw [show (l0).drop (1 : Int).toNat = y266 from Ny266.out.symm] at hr17; replace hr17 : Kd.F kOp _ _ A17 y266.length y266 := (by rw [hA17]; exact hr17); rw [← hy17, ← hA17, ← hc17] at hcut17; have HO270 := aM (show Kd.V kOp 38 _ w.heap.size _ (.slice A17 y266.length c17) y266 from Kd.V_mk (by rw [hy17, hc17]; exact Nat.sub_le_sub_right hroom17 _) hr17); have HC270 := aM (show y266.length ≤ c17 from by rw [hy17, hc17]; exact Nat.sub_le_sub_right hroom17 _); clear hr17 hC17 hroom17 hi017 hsz17 hc17; have KY17 := aM hy17; have KA17 := aM hA17; clear hy17 hA17; replace q17 := eq_true q17
     go_enter Try.func48, Try.ntmps48
     go_wp2
     go_ret
     exact ⟨_, by first | rfl | (simp [errW_none, errW_some] <;> rfl) | (simp [*, errW_none, errW_some] <;> rfl), by (with_reducible repeat (first | apply Kd.V_alloc | apply Kd.V_drewN | apply Kd.V_drew)); exact HO270.out, by repeat (first | (with_reducible first | exact HB.out | apply bA | apply bN | apply bD) | exact HB.out)⟩
    ·rw [if_neg c16] at H
     exact absurd H (by simp)
  ·rw [if_neg c4] at H
   exact absurd H (by simp)

/-! ### patchworkref8_ops: function 32 -/

set_option maxHeartbeats 8000000 in
set_option maxRecDepth 100000 in
theorem patchworkref8_ops.calls (k : Nat) (A0 : Option Addr) (c0 : Nat) (l0 : List (By)) (r : List (Op)) (w : World) (hr0 : Kd.C kBy w A0 l0.length l0) (hc0 : l0.length ≤ c0) (h : patchworkref8_ops.f k l0 = some r) :
  Calls Try.prog 32 #[.slice A0 l0.length c0] w fun e w' => ∃ v0_ : Value, e = .returned (v0_) ∧ Kd.R kOp 38 w' w.heap.size (fun _ => True) v0_ r ∧ Below w.heap.size w w' := by
 have hu38 := Try.underlying38
 have HR0 := aM hr0
 have HC0 := aM hc0
 clear hr0 hc0
 have HB := aM (Below.refl w.heap.size w)
 have H : (patchworkref8_ops.l0 k l0 ([] : List (Op)) 0) = some r := h
 clear h
 have H' := aM H
 clear H
 go_enter Try.func32, Try.ntmps32
 go_wp2
 go_loopg [3, 4] k (fun kq v3 v4 w' => ∃ (x3_1 : List (Op)) (x4_1 : Int), v4 = .int .i64 x4_1 ∧ Aside0 (patchworkref8_ops.l0 kq l0 x3_1 x4_1 = some r) ∧ Aside0 (kq ≤ k) ∧ Aside0 (Kd.R kOp 38 w' w.heap.size (fun _ => True) v3 x3_1) ∧ Aside0 (Below w.heap.size w w'))
 case atStart => exact ⟨(([] : List (Op))), (0), (by first | rfl | (simp; done) | (simp [*]; done)), H', ⟨Nat.le_refl _⟩, ⟨by first | exact Kd.R_nil _ _ _ _ _ | exact Kd.N_nil _ _ _ _ _ | exact Kd.V_nil _ _ _ _ _ | exact Kd.Q_nil _ _ _ _ _ | exact Kd.S_nil _ _ _ _ _⟩, ⟨by repeat (first | (with_reducible first | exact HB.out | apply bA | apply bN | apply bD) | exact HB.out)⟩⟩
 case round =>
  clear H'; obtain ⟨x3_1, x4_1, rfl, HA, HK1, HO_3, HB⟩ := hrel; cases gk with
  | zero => exact absurd HA.out (by simp [patchworkref8_ops.l0])
  | succ k1 =>
   have H := HA.out; clear HA; simp only [patchworkref8_ops.l0] at H
   by_cases c2 : x4_1 < (l0.length : Int)
   ·rw [if_pos c2] at H
    have c2b0 : decide (x4_1 < (l0.length : Int)) = true := decide_eq_true c2; clear c2
    by_cases c3 : 0 ≤ x4_1
    ·rw [if_pos c3] at H
     have c3b0 : decide (0 ≤ x4_1) = true := decide_eq_true c3; clear c3
     by_cases c4 : x3_1.length < 4398046511104
     ·rw [if_pos c4] at H
      have LMc4 := aM c4; clear c4; obtain ⟨y299, hy299⟩ : ∃ y_ : List (Op), y_ = (x3_1 ++ [(⟨(rd_By l0 x4_1).f0.f0, (rd_By l0 x4_1).f0.f1, (rd_By l0 x4_1).f0.f2⟩ : Op)]) := ⟨_, rfl⟩; replace H : (patchworkref8_ops.l0 k1 l0 y299 (wrap64 (x4_1 + 1))) = some r := by first | (rw [hy299]; with_reducible exact H) | (have H2_ := (Option.bind_some _ _).symm.trans H; rw [hy299]; with_reducible exact H2_) | (have H2_ := (Option.bind_some _ _).symm.trans H; with_reducible exact H2_) | with_reducible exact H | (rw [hy299]; exact H) | exact H
      have Ny299 := aM hy299; clear hy299; have H' := aM H; clear H; have p298 : 0 ≤ (x4_1 : Int) := of_decide_eq_true (by first | (with_reducible assumption) | assumption); have q298 : x4_1 < (l0.length : Int) := of_decide_eq_true (by first | (with_reducible assumption) | assumption); obtain ⟨ad298, e298, hx298_0, hx298_1, hx298_2, hx298_3⟩ := at_By HR0.out x4_1 p298 q298; cases e298; replace hx298_0 := (HB.out.cell (bL w _ hx298_0)).trans hx298_0; replace hx298_1 := (HB.out.cell (bL w _ hx298_1)).trans hx298_1; replace hx298_2 := (HB.out.cell (bL w _ hx298_2)).trans hx298_2; replace hx298_3 := (HB.out.cell (bL w _ hx298_3)).trans hx298_3; replace p298 := eq_true p298; replace q298 := eq_true q298
      go_wp2_with (first | ((with_reducible refine gate_builtin (b := .append) (xs := #[.tmp 11, .tmp 17]) rfl ?_); at_builtin; refine Kd.R_append kOp (w0 := w) w.heap.size rfl (.tmp 11) (.tmp 17) 22 38 (.agg #[(.int .i64 0), (.int .i64 0), (.string ⟨#[]⟩)]) 32 rfl Try.underlying22 info38 rfl (by decide) (by omega) u3 x3_1 (⟨(rd_By l0 x4_1).f0.f0, (rd_By l0 x4_1).f0.f1, (rd_By l0 x4_1).f0.f2⟩ : Op) [.int .i64 ((rd_By l0 x4_1).f0.f0), .int .i64 ((rd_By l0 x4_1).f0.f1), .string ((rd_By l0 x4_1).f0.f2)] (fun _ => True) (fun _ => False) rfl rfl ?aP (fun _ hk => hk.elim) ?aF ?aO ?aB ?aS ?aL ?_; (case aP => exact kOp_mkM _ _ _ (⟨(rd_By l0 x4_1).f0.f0, (rd_By l0 x4_1).f0.f1, (rd_By l0 x4_1).f0.f2⟩ : Op)); (case aB => exact (by repeat (first | (with_reducible first | exact HB.out | apply bA | apply bN | apply bD) | exact HB.out))); (case aF => exact (fun _ _ => trivial)); (case aO => exact (by (with_reducible repeat (first | apply Kd.R_alloc | apply Kd.R_drewN | apply Kd.R_drew)); exact HO_3.out)); (case aS => exact (below_size (by repeat (first | (with_reducible first | exact HB.out | apply bA | apply bN | apply bD) | exact HB.out)))); (case aL => have := LMc4.out; omega); intro v300 w5 ho hb hg hat; rw [← Ny299.out] at ho; have n0_ := aM (hb); have n1_ := aM (ho); clear HB; clear HO_3; have HB := n0_; have HO301 := n1_; clear n0_ n1_; clear ho hb hg hat))
      go_roundg k1
      case measure => have := HK1.out; omega
      case rel => exact ⟨(y299), (wrap64 (x4_1 + 1)), (by first | rfl | (simp; done) | (simp [*]; done)), H', ⟨by have := HK1.out; omega⟩, ⟨by (with_reducible repeat (first | apply Kd.R_alloc | apply Kd.R_drewN | apply Kd.R_drew)); exact HO301.out⟩, ⟨by repeat (first | (with_reducible first | exact HB.out | apply bA | apply bN | apply bD) | exact HB.out)⟩⟩
     ·rw [if_neg c4] at H
      exact absurd H (by simp)
    ·rw [if_neg c3] at H
     exact absurd H (by simp)
   ·rw [if_neg c2] at H
    have c2b0 : decide (x4_1 < (l0.length : Int)) = false := decide_eq_false c2; clear c2; obtain rfl := Option.some.inj H
    go_wp2
    go_ret
    exact ⟨_, by first | rfl | (simp [errW_none, errW_some] <;> rfl) | (simp [*, errW_none, errW_some] <;> rfl), by (with_reducible repeat (first | apply Kd.R_alloc | apply Kd.R_drewN | apply Kd.R_drew)); exact HO_3.out, by repeat (first | (with_reducible first | exact HB.out | apply bA | apply bN | apply bD) | exact HB.out)⟩

/-! ### patchworkref8_Rest: function 16 -/

set_option maxHeartbeats 8000000 in
set_option maxRecDepth 100000 in
theorem patchworkref8_Rest.calls (k : Nat) (A0 : Option Addr) (c0 : Nat) (l0 : List (Op)) (r : List (Op)) (w : World) (hr0 : Kd.C kOp w A0 l0.length l0) (hc0 : l0.length ≤ c0) (h : patchworkref8_Rest.f k l0 = some r) :
  Calls Try.prog 16 #[.slice A0 l0.length c0] w fun e w' => ∃ v0_ : Value, e = .returned (v0_) ∧ Kd.R kOp 38 w' w.heap.size (fun _ => True) v0_ r ∧ Below w.heap.size w w' := by
 have HR0 := aM hr0
 have HC0 := aM hc0
 clear hr0 hc0
 have HB := aM (Below.refl w.heap.size w)
 have H : (patchworkref8_Rest.l0 k l0 (l0.length : Int)) = some r := h
 clear h
 have H' := aM H
 clear H
 go_enter Try.func16, Try.ntmps16
 go_wp2
 go_loopg [3] k (fun kq v3 w' => ∃ (x3_1 : Int), v3 = .int .i64 x3_1 ∧ Aside0 (patchworkref8_Rest.l0 kq l0 x3_1 = some r) ∧ Aside0 (kq ≤ k) ∧ Aside0 (Below w.heap.size w w'))
 case atStart => exact ⟨((l0.length : Int)), (by first | rfl | (simp; done) | (simp [*]; done)), H', ⟨Nat.le_refl _⟩, ⟨by repeat (first | (with_reducible first | exact HB.out | apply bA | apply bN | apply bD) | exact HB.out)⟩⟩
 case round =>
  clear H'; (try clear c1); obtain ⟨x3_1, rfl, HA, HK1, HB⟩ := hrel; cases gk with
  | zero => exact absurd HA.out (by simp [patchworkref8_Rest.l0])
  | succ k1 =>
   have H := HA.out; clear HA; simp only [patchworkref8_Rest.l0] at H
   by_cases c2 : x3_1 > 0
   ·rw [if_pos c2] at H
    have c2b0 : decide (0 < x3_1) = true := decide_eq_true c2; clear c2; obtain ⟨ji3, hji3⟩ : ∃ j_ : Int, (wrap64 (x3_1 - 1)) = j_ := ⟨_, rfl⟩; replace H : (if 0 ≤ (ji3) then (if (ji3) < (l0.length : Int) then (if ((rd_Op l0 (ji3)).f0) = 1 then (patchworkref8_Rest.l0 k1 l0 ji3) else (if 0 ≤ x3_1 then (if x3_1 ≤ (l0.length : Int) then ((some (l0.take (x3_1 : Int).toNat : List (Op))).bind fun y319 => (if ([] : List (Op)).length + y319.length < 4398046511104 then (some (([] : List (Op)) ++ y319)) else (none))) else (none)) else (none))) else (none)) else (none)) = some r := by first | (rw [hji3] at H; exact H) | (simp only [hji3] at H ⊢; exact H)
    have hji3w : (IntKind.i64.wrap (x3_1 - 1)) = ji3 := (i64_w _).trans hji3
    by_cases c4 : 0 ≤ (ji3)
    ·rw [if_pos c4] at H
     have c4b0 : decide (0 ≤ (ji3)) = true := decide_eq_true c4; clear c4
     by_cases c5 : (ji3) < (l0.length : Int)
     ·rw [if_pos c5] at H
      have c5b0 : decide ((ji3) < (l0.length : Int)) = true := decide_eq_true c5; clear c5
      by_cases c6 : ((rd_Op l0 (ji3)).f0) = 1
      ·rw [if_pos c6] at H
       have c6b0 : (((rd_Op l0 (ji3)).f0) == 1) = true := beq_iff_eq.mpr c6; have c6b1 : (((rd_Op l0 (ji3)).f0) != 1) = false := bne_eq_false_iff_eq.mpr c6; clear c6; have H' := aM H; clear H; have p318 : 0 ≤ ((ji3) : Int) := of_decide_eq_true (by first | (with_reducible assumption) | assumption); have q318 : (ji3) < (l0.length : Int) := of_decide_eq_true (by first | (with_reducible assumption) | assumption); obtain ⟨ad318, e318, hx318_0, hx318_1, hx318_2⟩ := at_Op HR0.out (ji3) p318 q318; cases e318; replace hx318_0 := (HB.out.cell (bL w _ hx318_0)).trans hx318_0; replace hx318_1 := (HB.out.cell (bL w _ hx318_1)).trans hx318_1; replace hx318_2 := (HB.out.cell (bL w _ hx318_2)).trans hx318_2; replace p318 := eq_true p318; replace q318 := eq_true q318
       go_wp2
       go_roundg k1
       case measure => have := HK1.out; omega
       case rel => exact ⟨(ji3), (by first | rfl | (simp; done) | (simp only [← hji3] <;> (first | rfl | simp)) | (simp [*]; done)), H', ⟨by have := HK1.out; omega⟩, ⟨by repeat (first | (with_reducible first | exact HB.out | apply bA | apply bN | apply bD) | exact HB.out)⟩⟩
      ·rw [if_neg c6] at H
       have c6b0 : (((rd_Op l0 (ji3)).f0) == 1) = false := beq_eq_false_iff_ne.mpr c6; have c6b1 : (((rd_Op l0 (ji3)).f0) != 1) = true := bne_iff_ne.mpr c6
       by_cases c7 : 0 ≤ x3_1
       ·rw [if_pos c7] at H
        have c7b0 := eq_true c7; have c7b1 : decide (0 ≤ x3_1) = true := decide_eq_true c7; clear c7
        by_cases c8 : x3_1 ≤ (l0.length : Int)
        ·rw [if_pos c8] at H
         have c8b0 := eq_true c8; have c8b1 : decide (x3_1 ≤ (l0.length : Int)) = true := decide_eq_true c8; clear c8; obtain ⟨y319, hy319⟩ : ∃ y_ : List (Op), y_ = (l0.take (x3_1 : Int).toNat) := ⟨_, rfl⟩; replace H : (if ([] : List (Op)).length + y319.length < 4398046511104 then (some (([] : List (Op)) ++ y319)) else (none)) = some r := by first | (rw [hy319]; with_reducible exact H) | (have H2_ := (Option.bind_some _ _).symm.trans H; rw [hy319]; with_reducible exact H2_) | (have H2_ := (Option.bind_some _ _).symm.trans H; with_reducible exact H2_) | with_reducible exact H | (rw [hy319]; exact H) | exact H
         have Ny319 := aM hy319; clear hy319
         by_cases c9 : ([] : List (Op)).length + y319.length < 4398046511104
         ·rw [if_pos c9] at H
          have LMc9 := aM c9; clear c9; obtain ⟨y323, hy323⟩ : ∃ y_ : List (Op), y_ = (([] : List (Op)) ++ y319) := ⟨_, rfl⟩; replace H : (some y323) = some r := by first | (rw [hy323]; with_reducible exact H) | (have H2_ := (Option.bind_some _ _).symm.trans H; rw [hy323]; with_reducible exact H2_) | (have H2_ := (Option.bind_some _ _).symm.trans H; with_reducible exact H2_) | with_reducible exact H | (rw [hy323]; exact H) | exact H
          have Ny323 := aM hy323; clear hy323; obtain rfl := Option.some.inj H; have p318 : 0 ≤ ((ji3) : Int) := of_decide_eq_true (by first | (with_reducible assumption) | assumption); have q318 : (ji3) < (l0.length : Int) := of_decide_eq_true (by first | (with_reducible assumption) | assumption); obtain ⟨ad318, e318, hx318_0, hx318_1, hx318_2⟩ := at_Op HR0.out (ji3) p318 q318; cases e318; replace hx318_0 := (HB.out.cell (bL w _ hx318_0)).trans hx318_0; replace hx318_1 := (HB.out.cell (bL w _ hx318_1)).trans hx318_1; replace hx318_2 := (HB.out.cell (bL w _ hx318_2)).trans hx318_2; replace p318 := eq_true p318; replace q318 := eq_true q318; have q10 : (x3_1 : Int) ≤ ((l0.length : Int) : Int) := of_decide_eq_true (by first | (with_reducible assumption) | assumption); obtain ⟨i010, hi010, _, hsz10, _⟩ := info_parts info38; have hroom10 : l0.length ≤ c0 := HC0.out; have hC10 : Kd.C kOp _ (some ad318) l0.length l0 := HR0.out; have hcut10 := cut_to (P := Try.prog) 22 38 .i64 Try.underlying22 hi010 (some ad318) l0.length c0 x3_1 (of_decide_eq_true (by first | (with_reducible assumption) | assumption)) q10 hroom10; have hr10 := Kd.C_take (m := (x3_1 : Int).toNat) hC10 (by omega); have hy10 : y319.length = (x3_1 : Int).toNat := (by rw [Ny319.out, List.length_take]; omega); rw [← Ny319.out] at hr10; rw [← hy10] at hcut10; have HR322 := aM hr10; have HC322 := aM (show y319.length ≤ c0 from by omega); clear hr10 hC10 hroom10 hi010 hsz10; have KY10 := aM hy10; clear hy10; replace q10 := eq_true q10
          go_wp2_with (first | ((with_reducible refine gate_builtin (b := .append) (xs := #[.const (.slice none 0 0), .tmp 21]) rfl ?_); at_builtin; refine Kd.R_append_rows kOp (w0 := w) w.heap.size rfl (.const (.slice none 0 0)) (.tmp 21) 22 38 (.agg #[(.int .i64 0), (.int .i64 0), (.string ⟨#[]⟩)]) 32 rfl Try.underlying22 info38 rfl (by decide) (by omega) (.slice none 0 0) ([] : List (Op)) y319 _ _ _ (fun _ => True) (fun _ => False) rfl rfl ?aO ?aR (fun _ _ h => h) (fun _ h => h.elim) ?aF ?aB ?aS ?aL ?_; (case aR => repeat (first | exact (Kd.C_below HR322.out HB.out) | (with_reducible first | refine Kd.C_alloc ?_ _ | refine Kd.C_drewN ?_ _ | refine Kd.C_drew ?_))); (case aB => exact (by repeat (first | (with_reducible first | exact HB.out | apply bA | apply bN | apply bD) | exact HB.out))); (case aF => exact (fun _ _ => trivial)); (case aO => exact ((Kd.R_nil _ _ _ _ (fun _ => True)))); (case aS => exact (below_size (by repeat (first | (with_reducible first | exact HB.out | apply bA | apply bN | apply bD) | exact HB.out)))); (case aL => have := LMc9.out; omega); intro v324 w11 ho hb hg hat; rw [← Ny323.out] at ho; have n0_ := aM (hb); have n1_ := aM (ho); clear HB; have HB := n0_; have HO325 := n1_; clear n0_ n1_; clear ho hb hg hat))
          go_ret
          exact ⟨_, by first | rfl | (simp [errW_none, errW_some] <;> rfl) | (simp only [← hji3]; first | rfl | (simp [errW_none, errW_some] <;> rfl)) | (simp [*, errW_none, errW_some] <;> rfl), by (with_reducible repeat (first | apply Kd.R_alloc | apply Kd.R_drewN | apply Kd.R_drew)); exact HO325.out, by repeat (first | (with_reducible first | exact HB.out | apply bA | apply bN | apply bD) | exact HB.out)⟩
         ·rw [if_neg c9] at H
          exact absurd H (by simp)
        ·rw [if_neg c8] at H
         exact absurd H (by simp)
       ·rw [if_neg c7] at H
        exact absurd H (by simp)
     ·rw [if_neg c5] at H
      exact absurd H (by simp)
    ·rw [if_neg c4] at H
     exact absurd H (by simp)
   ·rw [if_neg c2] at H
    have c2b0 : decide (0 < x3_1) = false := decide_eq_false c2; clear c2
    by_cases c12 : 0 ≤ x3_1
    ·rw [if_pos c12] at H
     have c12b0 := eq_true c12; have c12b1 : decide (0 ≤ x3_1) = true := decide_eq_true c12; clear c12
     by_cases c13 : x3_1 ≤ (l0.length : Int)
     ·rw [if_pos c13] at H
      have c13b0 := eq_true c13; have c13b1 : decide (x3_1 ≤ (l0.length : Int)) = true := decide_eq_true c13; clear c13; obtain ⟨y326, hy326⟩ : ∃ y_ : List (Op), y_ = (l0.take (x3_1 : Int).toNat) := ⟨_, rfl⟩; replace H : (if ([] : List (Op)).length + y326.length < 4398046511104 then (some (([] : List (Op)) ++ y326)) else (none)) = some r := by first | (rw [hy326]; with_reducible exact H) | (have H2_ := (Option.bind_some _ _).symm.trans H; rw [hy326]; with_reducible exact H2_) | (have H2_ := (Option.bind_some _ _).symm.trans H; with_reducible exact H2_) | with_reducible exact H | (rw [hy326]; exact H) | exact H
      have Ny326 := aM hy326; clear hy326
      by_cases c14 : ([] : List (Op)).length + y326.length < 4398046511104
      ·rw [if_pos c14] at H
       have LMc14 := aM c14; clear c14; obtain ⟨y330, hy330⟩ : ∃ y_ : List (Op), y_ = (([] : List (Op)) ++ y326) := ⟨_, rfl⟩; replace H : (some y330) = some r := by first | (rw [hy330]; with_reducible exact H) | (have H2_ := (Option.bind_some _ _).symm.trans H; rw [hy330]; with_reducible exact H2_) | (have H2_ := (Option.bind_some _ _).symm.trans H; with_reducible exact H2_) | with_reducible exact H | (rw [hy330]; exact H) | exact H
       have Ny330 := aM hy330; clear hy330; obtain rfl := Option.some.inj H; have q15 : (x3_1 : Int) ≤ ((l0.length : Int) : Int) := of_decide_eq_true (by first | (with_reducible assumption) | assumption); obtain ⟨i015, hi015, _, hsz15, _⟩ := info_parts info38; have hroom15 : l0.length ≤ c0 := HC0.out; have hC15 : Kd.C kOp _ A0 l0.length l0 := HR0.out; have hcut15 := cut_to (P := Try.prog) 22 38 .i64 Try.underlying22 hi015 A0 l0.length c0 x3_1 (of_decide_eq_true (by first | (with_reducible assumption) | assumption)) q15 hroom15; have hr15 := Kd.C_take (m := (x3_1 : Int).toNat) hC15 (by omega); have hy15 : y326.length = (x3_1 : Int).toNat := (by rw [Ny326.out, List.length_take]; omega); rw [← Ny326.out] at hr15; rw [← hy15] at hcut15; have HR329 := aM hr15; have HC329 := aM (show y326.length ≤ c0 from by omega); clear hr15 hC15 hroom15 hi015 hsz15; have KY15 := aM hy15; clear hy15; replace q15 := eq_true q15
       go_wp2_with (first | ((with_reducible refine gate_builtin (b := .append) (xs := #[.const (.slice none 0 0), .tmp 21]) rfl ?_); at_builtin; refine Kd.R_append_rows kOp (w0 := w) w.heap.size rfl (.const (.slice none 0 0)) (.tmp 21) 22 38 (.agg #[(.int .i64 0), (.int .i64 0), (.string ⟨#[]⟩)]) 32 rfl Try.underlying22 info38 rfl (by decide) (by omega) (.slice none 0 0) ([] : List (Op)) y326 _ _ _ (fun _ => True) (fun _ => False) rfl rfl ?aO ?aR (fun _ _ h => h) (fun _ h => h.elim) ?aF ?aB ?aS ?aL ?_; (case aR => repeat (first | exact (Kd.C_below HR329.out HB.out) | (with_reducible first | refine Kd.C_alloc ?_ _ | refine Kd.C_drewN ?_ _ | refine Kd.C_drew ?_))); (case aB => exact (by repeat (first | (with_reducible first | exact HB.out | apply bA | apply bN | apply bD) | exact HB.out))); (case aF => exact (fun _ _ => trivial)); (case aO => exact ((Kd.R_nil _ _ _ _ (fun _ => True)))); (case aS => exact (below_size (by repeat (first | (with_reducible first | exact HB.out | apply bA | apply bN | apply bD) | exact HB.out)))); (case aL => have := LMc14.out; omega); intro v331 w16 ho hb hg hat; rw [← Ny330.out] at ho; have n0_ := aM (hb); have n1_ := aM (ho); clear HB; have HB := n0_; have HO332 := n1_; clear n0_ n1_; clear ho hb hg hat))
       go_ret
       exact ⟨_, by first | rfl | (simp [errW_none, errW_some] <;> rfl) | (simp [*, errW_none, errW_some] <;> rfl), by (with_reducible repeat (first | apply Kd.R_alloc | apply Kd.R_drewN | apply Kd.R_drew)); exact HO332.out, by repeat (first | (with_reducible first | exact HB.out | apply bA | apply bN | apply bD) | exact HB.out)⟩
      ·rw [if_neg c14] at H
       exact absurd H (by simp)
     ·rw [if_neg c13] at H
      exact absurd H (by simp)
    ·rw [if_neg c12] at H
     exact absurd H (by simp)

end Go.Proofs.Ytkiklmmpflndbaa.P
