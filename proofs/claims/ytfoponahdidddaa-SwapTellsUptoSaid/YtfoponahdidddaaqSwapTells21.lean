/- The law SwapTells answers true, for all arguments that hold together at most 1048576 values and letters, and leaves them as they were. -/
import Derived.Test.YtfoponahdidddaaqSwapTells4
import Derived.Test.YtfoponahdidddaaqSwapTells5
import Derived.Test.YtfoponahdidddaaqSwapTells3
import Derived.Test.YtfoponahdidddaaqSwapTells6
import Derived.Test.YtfoponahdidddaaqSwapTells17
import Derived.Test.YtfoponahdidddaaqSwapTells20
import Derived.Test.YtfoponahdidddaaqSwapTells13
import Derived.WalkKit
import Derived.ProofKit
import Derived.OpenShut
import Derived.ShutString
import Derived.ChangeOld
import Derived.Below
import Derived.SizedLaws
import Derived.JoinedCond
set_option linter.unusedVariables false
set_option linter.unusedSimpArgs false
namespace Go.Proofs.Ytfoponahdidddaa.P
open Go.RowKit Go.Proofs.YtfoponahdidddaaW.PrintWords Go.Proofs.YtfoponahdidddaaW.PrintLast Go.Proofs.YtfoponahdidddaaW.PrintMore
open Go.Proofs.YtfoponahdidddaaW.PrintWords.Aside0 renaming mk → aM
attribute [local go_sem] max2_int min2_int max_two min_two max_three min_three max_four min_four
set_option maxHeartbeats 8000000 in
set_option maxRecDepth 100000 in
theorem patchworklaw15_SwapTells.calls (k : Nat) (A0 : Option Addr) (c0 : Nat) (l0 : List (Op)) (A1 : Option Addr) (c1 : Nat) (l1 : List (Op)) (r : Bool) (w : World) (hr0 : Kd.C kOp w A0 l0.length l0) (hc0 : l0.length ≤ c0) (hr1 : Kd.C kOp w A1 l1.length l1) (hc1 : l1.length ≤ c1) (h : patchworklaw15_SwapTells.f k l0 l1 = some r) :
  Calls Try.prog 3 #[.slice A0 l0.length c0, .slice A1 l1.length c1] w fun e w' => e = .returned (.bool r) ∧ Below w.heap.size w w' := by
 have HR0 := aM hr0
 have HC0 := aM hc0
 clear hr0 hc0
 have HR1 := aM hr1
 have HC1 := aM hc1
 clear hr1 hc1
 have HB := aM (Below.refl w.heap.size w)
 have H : ((patchworklaw15_alive.f k).bind fun t358 => (if t358 = true then ((patchworklaw8_Few.f k l0).bind fun t359 => (if t359 = true then ((patchworklaw8_Few.f k l1).bind fun t360 => (patchworklaw15_SwapTells.j0 k l0 l1 t358 (!t360))) else (patchworklaw15_SwapTells.j0 k l0 l1 t358 true))) else (patchworklaw15_SwapTells.j0 k l0 l1 t358 true))) = some r := h
 clear h
 obtain ⟨t358, A3, H⟩ := oB H
 have HC4 := aM H
 clear H
 go_enter Try.func3, Try.ntmps3
 go_upto_region 2 with (first | ((with_reducible refine gate_callee (f := 14) rfl ?_); refine goesL_ (some 12) rfl rfl Try.func14 yK rfl #[] rfl yG ?_; (with_reducible refine (patchworklaw15_alive.calls k  t358 _ A3.out).mono ?_); rintro e w5 ⟨rfl, hb⟩; refine ⟨_, rfl, ?_⟩; replace HB := aM (below_step yB hb); clear hb))
 (try simp only [Act.put, List.setIfInBounds_toArray, List.set_cons_zero, List.set_cons_succ])
 go_cut [24] (fun v24 wc => ∃ (kq : Nat) (x24_3 : Bool), v24 = .bool x24_3 ∧ Aside0 (patchworklaw15_SwapTells.j0 kq l0 l1 t358 x24_3 = some r) ∧ Aside0 (kq ≤ k) ∧ Aside0 (Below w.heap.size w wc))
 case first =>
  have H := HC4.out; clear HC4
  by_cases c6 : t358 = true
  ·subst c6
   replace H := iT H; obtain ⟨t359, A7, H⟩ := oB H
   by_cases c8 : t359 = true
   ·subst c8
    replace H := iT H; obtain ⟨t360, A9, H⟩ := oB H; have H' := aM H; clear H
    go_wp2_with (first | (go_at_call 15; (with_reducible refine (patchworklaw8_Few.calls k _ _ l0 true _ (yC (Kd.C_below HR0.out HB.out)) HC0.out A7.out).mono ?_); rintro e w' ⟨rfl, ⟨nd, rfl⟩⟩) | (go_at_call 15; (with_reducible refine (patchworklaw8_Few.calls k _ _ l1 t360 _ (yC (Kd.C_below HR1.out yB)) HC1.out A9.out).mono ?_); rintro e w' ⟨rfl, ⟨nd, rfl⟩⟩))
    go_meet
    case rel => exact ⟨_, (!t360), yE, H', ⟨by first | omega | exact Nat.le_refl _⟩, ⟨yB⟩⟩
   ·replace c8 := Bool.eq_false_iff.mpr c8
    subst c8; have H' := aM (iF H); clear H
    go_wp2_with (first | (go_at_call 15; (with_reducible refine (patchworklaw8_Few.calls k _ _ l0 false _ (yC (Kd.C_below HR0.out HB.out)) HC0.out A7.out).mono ?_); rintro e w' ⟨rfl, ⟨nd, rfl⟩⟩))
    go_meet
    case rel => exact ⟨_, (true), yE, H', ⟨by first | omega | exact Nat.le_refl _⟩, ⟨yB⟩⟩
  ·replace c6 := Bool.eq_false_iff.mpr c6
   subst c6; have H' := aM (iF H); clear H
   go_wp2
   go_meet
   case rel => exact ⟨_, (true), yE, H', ⟨by first | omega | exact Nat.le_refl _⟩, ⟨yB⟩⟩
 case rest =>
  clear HC4; (try clear c1); (try clear p2); (try clear c3); (try clear c6); (try clear c8); obtain ⟨kq, x24_3, rfl, HA, HJ3, HB⟩ := hcut; cases kq with
  | zero => exact absurd HA.out (by simp [patchworklaw15_SwapTells.j0])
  | succ kj3 =>
   have H := HA.out; clear HA; simp only [patchworklaw15_SwapTells.j0] at H
   by_cases c10 : x24_3 = true
   ·subst c10
    replace H := iT H; obtain rfl := Option.some.inj H
    go_wp2
    go_ret
    exact ⟨yE2, yB⟩
   ·replace c10 := Bool.eq_false_iff.mpr c10
    subst c10; replace H := iF H
    by_cases c11 : ([] : List (Op)).length + l0.length < 4398046511104
    ·rw [if_pos c11] at H
     have LMc11 := aM c11; clear c11; obtain ⟨y361, hy361⟩ : ∃ y_ : List (Op), y_ = (([] : List (Op)) ++ l0) := ⟨_, rfl⟩; replace H : (if ([] : List (Op)).length + l1.length < 4398046511104 then ((swap_Ops.f kj3 y361 (([] : List (Op)) ++ l1)).bind fun bt367 => ((patchworkref8_Swap.f kj3 l0 l1).bind fun bt374 => ((patchworkref8_Same.f kj3 bt367.1 bt374.1).bind fun t381 => (if t381 = true then ((patchworkref8_Same.f kj3 bt367.2.1 bt374.2.1).bind fun t382 => (if t382 = true then ((patchworklaw15_num.f bt367.2.2).bind fun t383 => (some (t383 == bt374.2.2))) else (some false))) else (some false))))) else (none)) = some r := yN hy361 H
     have Ny361 := aM hy361; clear hy361
     by_cases c12 : ([] : List (Op)).length + l1.length < 4398046511104
     ·rw [if_pos c12] at H
      have LMc12 := aM c12; clear c12; obtain ⟨y364, hy364⟩ : ∃ y_ : List (Op), y_ = (([] : List (Op)) ++ l1) := ⟨_, rfl⟩; replace H : ((swap_Ops.f kj3 y361 y364).bind fun bt367 => ((patchworkref8_Swap.f kj3 l0 l1).bind fun bt374 => ((patchworkref8_Same.f kj3 bt367.1 bt374.1).bind fun t381 => (if t381 = true then ((patchworkref8_Same.f kj3 bt367.2.1 bt374.2.1).bind fun t382 => (if t382 = true then ((patchworklaw15_num.f bt367.2.2).bind fun t383 => (some (t383 == bt374.2.2))) else (some false))) else (some false))))) = some r := yN hy364 H
      have Ny364 := aM hy364; clear hy364; replace H := Option.bind_eq_some_iff.mp H; obtain ⟨⟨t367, t368, t369⟩, A130, H⟩ := H; replace H : ((patchworkref8_Swap.f kj3 l0 l1).bind fun bt374 => ((patchworkref8_Same.f kj3 t367 bt374.1).bind fun t381 => (if t381 = true then ((patchworkref8_Same.f kj3 t368 bt374.2.1).bind fun t382 => (if t382 = true then ((patchworklaw15_num.f t369).bind fun t383 => (some (t383 == bt374.2.2))) else (some false))) else (some false)))) = some r := H; have A13 := aM A130; clear A130; replace H := Option.bind_eq_some_iff.mp H; obtain ⟨⟨t374, t375, t376⟩, A140, H⟩ := H; replace H : ((patchworkref8_Same.f kj3 t367 t374).bind fun t381 => (if t381 = true then ((patchworkref8_Same.f kj3 t368 t375).bind fun t382 => (if t382 = true then ((patchworklaw15_num.f t369).bind fun t383 => (some (t383 == t376))) else (some false))) else (some false))) = some r := H; have A14 := aM A140; clear A140; obtain ⟨t381, A15, H⟩ := oB H
      by_cases c16 : t381 = true
      ·subst c16
       replace H := iT H; obtain ⟨t382, A17, H⟩ := oB H
       by_cases c18 : t382 = true
       ·subst c18
        replace H := iT H; obtain ⟨t383, A19, H⟩ := oB H; obtain rfl := Option.some.inj H
        go_wp2_with (first | ((with_reducible refine gate_builtin (b := .append) (xs := #[.const (.slice none 0 0), .tmp 27]) rfl ?_); at_builtin; refine Kd.R_append_rows kOp (w0 := w) w.heap.size rfl (.const (.slice none 0 0)) (.tmp 27) 22 41 (.agg #[(.int .i64 0), (.int .i64 0), (.string ⟨#[]⟩)]) 32 rfl Try.underlying22 info41 rfl (by decide) (by omega) (.slice none 0 0) ([] : List (Op)) l0 _ _ _ (fun _ => True) (fun _ => False) rfl rfl ?aO ?aR (fun _ _ h => h) (fun _ h => h.elim) ?aF ?aB ?aS ?aL ?_; (case aR => repeat (first | exact (Kd.C_below HR0.out HB.out) | (with_reducible first | refine Kd.C_alloc ?_ _ | refine Kd.C_drewN ?_ _ | refine Kd.C_drew ?_))); (case aB => exact yB); (case aF => exact (fun _ _ => trivial)); (case aO => exact ((Kd.R_nil _ _ _ _ (fun _ => True)))); (case aS => exact yW); (case aL => have := LMc11.out; omega); intro v362 w20 ho hb hg hat; rw [← Ny361.out] at ho; replace HB := aM (hb); have HO363 := aM (ho); clear ho hb hg hat) | ((with_reducible refine gate_builtin (b := .append) (xs := #[.const (.slice none 0 0), .tmp 29]) rfl ?_); at_builtin; refine Kd.R_append_rows kOp (w0 := w) w.heap.size rfl (.const (.slice none 0 0)) (.tmp 29) 22 41 (.agg #[(.int .i64 0), (.int .i64 0), (.string ⟨#[]⟩)]) 32 rfl Try.underlying22 info41 rfl (by decide) (by omega) (.slice none 0 0) ([] : List (Op)) l1 _ _ _ (fun k_ => some k_ ≠ (v362 : Value).ownBlock) (fun _ => False) rfl rfl ?aO ?aR (fun _ _ h => h) (fun _ h => h.elim) ?aF ?aB ?aS ?aL ?_; (case aR => repeat (first | exact (Kd.C_below HR1.out HB.out) | (with_reducible first | refine Kd.C_alloc ?_ _ | refine Kd.C_drewN ?_ _ | refine Kd.C_drew ?_))); (case aB => exact yB); (case aF => exact (fun k_ hk => Kd.fresh' (Kd.R_lt (yH HO363.out)) k_ hk)); (case aO => exact ((Kd.R_nil _ _ _ _ (fun k_ => some k_ ≠ (v362 : Value).ownBlock)))); (case aS => exact yW); (case aL => have := LMc12.out; omega); intro v365 w21 ho hb hg hat; rw [← Ny364.out] at ho; replace HO363 := aM (Kd.R_after (Kd.R_apart_nil (yH HO363.out)) hg hat); replace HB := aM (hb); have HO366 := aM (ho); clear ho hb hg hat; obtain ⟨Ao22, co22, eo22⟩ := Kd.R_slice HO363.out; subst eo22; obtain ⟨Ao23, co23, eo23⟩ := Kd.R_slice HO366.out; subst eo23) | ((with_reducible refine gate_callee (f := 16) rfl ?_); refine goesL_ (some 31) rfl rfl Try.func16 yK rfl #[.slice Ao22 y361.length co22, .slice Ao23 y364.length co23] rfl yG ?_; (with_reducible refine (swap_Ops.calls kj3 _ _ y361 _ _ y364 t367 t368 t369 _ (yC (Kd.R_reads' HO363.out).2.2) ((Kd.R_reads' HO363.out).2.1) (yC (Kd.R_reads' HO366.out).2.2) ((Kd.R_reads' HO366.out).2.1) A13.out).mono ?_); rintro e w24 ⟨v370, v372, rfl, ho0, ho1, hb⟩; refine ⟨_, rfl, ?_⟩; have HO371 := aM (Kd.R_lower (Kd.R_new' (Kd.R_new' ho0 (Kd.R_lt (yH HO363.out))) (Kd.R_lt (yH HO366.out))) yW); have HO373 := aM (Kd.R_lower (Kd.R_new' (Kd.R_new' ho1 (Kd.R_lt (yH HO363.out))) (Kd.R_lt (yH HO366.out))) yW); replace HO363 := aM (Kd.R_mono (Kd.R_told (Kd.R_told (Kd.R_old (yH HO363.out) hb) (Kd.R_base ho0)) (Kd.R_base ho1)) (fun _ h_ => h_.1)); replace HO366 := aM (Kd.R_mono (Kd.R_told (Kd.R_told (Kd.R_old (yH HO366.out) hb) (Kd.R_base ho0)) (Kd.R_base ho1)) (fun _ h_ => h_.1)); replace HB := aM (below_step yB hb); clear hb ho0 ho1) | ((with_reducible refine gate_callee (f := 17) rfl ?_); refine goesL_ (some 38) rfl rfl Try.func17 yK rfl #[.slice A0 l0.length c0, .slice A1 l1.length c1] rfl yG ?_; (with_reducible refine (patchworkref8_Swap.calls kj3 _ _ l0 _ _ l1 t374 t375 t376 _ (yC (Kd.C_below HR0.out HB.out)) HC0.out (yC (Kd.C_below HR1.out HB.out)) HC1.out A14.out).mono ?_); rintro e w25 ⟨v377, v379, rfl, ho0, ho1, hb⟩; refine ⟨_, rfl, ?_⟩; have HO378 := aM (Kd.R_lower (Kd.R_new' (Kd.R_new' (Kd.R_new' (Kd.R_new' ho0 (Kd.R_lt (yH HO363.out))) (Kd.R_lt (yH HO366.out))) (Kd.R_lt (yH HO371.out))) (Kd.R_lt (yH HO373.out))) yW); have HO380 := aM (Kd.R_lower (Kd.R_new' (Kd.R_new' (Kd.R_new' (Kd.R_new' ho1 (Kd.R_lt (yH HO363.out))) (Kd.R_lt (yH HO366.out))) (Kd.R_lt (yH HO371.out))) (Kd.R_lt (yH HO373.out))) yW); replace HO363 := aM (Kd.R_mono (Kd.R_told (Kd.R_told (Kd.R_old (yH HO363.out) hb) (Kd.R_base ho0)) (Kd.R_base ho1)) (fun _ h_ => h_.1)); replace HO366 := aM (Kd.R_mono (Kd.R_told (Kd.R_told (Kd.R_old (yH HO366.out) hb) (Kd.R_base ho0)) (Kd.R_base ho1)) (fun _ h_ => h_.1)); replace HO371 := aM (Kd.R_mono (Kd.R_told (Kd.R_told (Kd.R_old (yH HO371.out) hb) (Kd.R_base ho0)) (Kd.R_base ho1)) (fun _ h_ => h_.1)); replace HO373 := aM (Kd.R_mono (Kd.R_told (Kd.R_told (Kd.R_old (yH HO373.out) hb) (Kd.R_base ho0)) (Kd.R_base ho1)) (fun _ h_ => h_.1)); replace HB := aM (below_step yB hb); clear hb ho0 ho1; obtain ⟨Ao26, co26, eo26⟩ := Kd.R_slice HO371.out; subst eo26; obtain ⟨Ao27, co27, eo27⟩ := Kd.R_slice HO378.out; subst eo27) | ((with_reducible refine gate_callee (f := 18) rfl ?_); refine goesL_ (some 44) rfl rfl Try.func18 yK rfl #[.slice Ao26 t367.length co26, .slice Ao27 t374.length co27] rfl yG ?_; (with_reducible refine (patchworkref8_Same.calls kj3 _ _ t367 _ _ t374 true _ (yC (Kd.R_reads' HO371.out).2.2) ((Kd.R_reads' HO371.out).2.1) (yC (Kd.R_reads' HO378.out).2.2) ((Kd.R_reads' HO378.out).2.1) A15.out).mono ?_); rintro e w' ⟨rfl, ⟨nd, rfl⟩⟩; refine ⟨_, rfl, ?_⟩; obtain ⟨Ao28, co28, eo28⟩ := Kd.R_slice HO373.out; subst eo28; obtain ⟨Ao29, co29, eo29⟩ := Kd.R_slice HO380.out; subst eo29) | (go_at_call 18; (with_reducible refine (patchworkref8_Same.calls kj3 _ _ t368 _ _ t375 true _ (yC (Kd.R_reads' HO373.out).2.2) ((Kd.R_reads' HO373.out).2.1) (yC (Kd.R_reads' HO380.out).2.2) ((Kd.R_reads' HO380.out).2.1) A17.out).mono ?_); rintro e w' ⟨rfl, ⟨nd, rfl⟩⟩) | (go_at_call 19; (with_reducible refine (patchworklaw15_num.calls t369 t383 _ A19.out).mono ?_); rintro e w' ⟨rfl, ⟨nd, rfl⟩⟩))
        go_ret
        exact ⟨yE2, yB⟩
       ·replace c18 := Bool.eq_false_iff.mpr c18
        subst c18; replace H := iF H; obtain rfl := Option.some.inj H
        go_wp2_with (first | ((with_reducible refine gate_builtin (b := .append) (xs := #[.const (.slice none 0 0), .tmp 27]) rfl ?_); at_builtin; refine Kd.R_append_rows kOp (w0 := w) w.heap.size rfl (.const (.slice none 0 0)) (.tmp 27) 22 41 (.agg #[(.int .i64 0), (.int .i64 0), (.string ⟨#[]⟩)]) 32 rfl Try.underlying22 info41 rfl (by decide) (by omega) (.slice none 0 0) ([] : List (Op)) l0 _ _ _ (fun _ => True) (fun _ => False) rfl rfl ?aO ?aR (fun _ _ h => h) (fun _ h => h.elim) ?aF ?aB ?aS ?aL ?_; (case aR => repeat (first | exact (Kd.C_below HR0.out HB.out) | (with_reducible first | refine Kd.C_alloc ?_ _ | refine Kd.C_drewN ?_ _ | refine Kd.C_drew ?_))); (case aB => exact yB); (case aF => exact (fun _ _ => trivial)); (case aO => exact ((Kd.R_nil _ _ _ _ (fun _ => True)))); (case aS => exact yW); (case aL => have := LMc11.out; omega); intro v362 w30 ho hb hg hat; rw [← Ny361.out] at ho; replace HB := aM (hb); have HO363 := aM (ho); clear ho hb hg hat) | ((with_reducible refine gate_builtin (b := .append) (xs := #[.const (.slice none 0 0), .tmp 29]) rfl ?_); at_builtin; refine Kd.R_append_rows kOp (w0 := w) w.heap.size rfl (.const (.slice none 0 0)) (.tmp 29) 22 41 (.agg #[(.int .i64 0), (.int .i64 0), (.string ⟨#[]⟩)]) 32 rfl Try.underlying22 info41 rfl (by decide) (by omega) (.slice none 0 0) ([] : List (Op)) l1 _ _ _ (fun k_ => some k_ ≠ (v362 : Value).ownBlock) (fun _ => False) rfl rfl ?aO ?aR (fun _ _ h => h) (fun _ h => h.elim) ?aF ?aB ?aS ?aL ?_; (case aR => repeat (first | exact (Kd.C_below HR1.out HB.out) | (with_reducible first | refine Kd.C_alloc ?_ _ | refine Kd.C_drewN ?_ _ | refine Kd.C_drew ?_))); (case aB => exact yB); (case aF => exact (fun k_ hk => Kd.fresh' (Kd.R_lt (yH HO363.out)) k_ hk)); (case aO => exact ((Kd.R_nil _ _ _ _ (fun k_ => some k_ ≠ (v362 : Value).ownBlock)))); (case aS => exact yW); (case aL => have := LMc12.out; omega); intro v365 w31 ho hb hg hat; rw [← Ny364.out] at ho; replace HO363 := aM (Kd.R_after (Kd.R_apart_nil (yH HO363.out)) hg hat); replace HB := aM (hb); have HO366 := aM (ho); clear ho hb hg hat; obtain ⟨Ao32, co32, eo32⟩ := Kd.R_slice HO363.out; subst eo32; obtain ⟨Ao33, co33, eo33⟩ := Kd.R_slice HO366.out; subst eo33) | ((with_reducible refine gate_callee (f := 16) rfl ?_); refine goesL_ (some 31) rfl rfl Try.func16 yK rfl #[.slice Ao32 y361.length co32, .slice Ao33 y364.length co33] rfl yG ?_; (with_reducible refine (swap_Ops.calls kj3 _ _ y361 _ _ y364 t367 t368 t369 _ (yC (Kd.R_reads' HO363.out).2.2) ((Kd.R_reads' HO363.out).2.1) (yC (Kd.R_reads' HO366.out).2.2) ((Kd.R_reads' HO366.out).2.1) A13.out).mono ?_); rintro e w34 ⟨v370, v372, rfl, ho0, ho1, hb⟩; refine ⟨_, rfl, ?_⟩; have HO371 := aM (Kd.R_lower (Kd.R_new' (Kd.R_new' ho0 (Kd.R_lt (yH HO363.out))) (Kd.R_lt (yH HO366.out))) yW); have HO373 := aM (Kd.R_lower (Kd.R_new' (Kd.R_new' ho1 (Kd.R_lt (yH HO363.out))) (Kd.R_lt (yH HO366.out))) yW); replace HO363 := aM (Kd.R_mono (Kd.R_told (Kd.R_told (Kd.R_old (yH HO363.out) hb) (Kd.R_base ho0)) (Kd.R_base ho1)) (fun _ h_ => h_.1)); replace HO366 := aM (Kd.R_mono (Kd.R_told (Kd.R_told (Kd.R_old (yH HO366.out) hb) (Kd.R_base ho0)) (Kd.R_base ho1)) (fun _ h_ => h_.1)); replace HB := aM (below_step yB hb); clear hb ho0 ho1) | ((with_reducible refine gate_callee (f := 17) rfl ?_); refine goesL_ (some 38) rfl rfl Try.func17 yK rfl #[.slice A0 l0.length c0, .slice A1 l1.length c1] rfl yG ?_; (with_reducible refine (patchworkref8_Swap.calls kj3 _ _ l0 _ _ l1 t374 t375 t376 _ (yC (Kd.C_below HR0.out HB.out)) HC0.out (yC (Kd.C_below HR1.out HB.out)) HC1.out A14.out).mono ?_); rintro e w35 ⟨v377, v379, rfl, ho0, ho1, hb⟩; refine ⟨_, rfl, ?_⟩; have HO378 := aM (Kd.R_lower (Kd.R_new' (Kd.R_new' (Kd.R_new' (Kd.R_new' ho0 (Kd.R_lt (yH HO363.out))) (Kd.R_lt (yH HO366.out))) (Kd.R_lt (yH HO371.out))) (Kd.R_lt (yH HO373.out))) yW); have HO380 := aM (Kd.R_lower (Kd.R_new' (Kd.R_new' (Kd.R_new' (Kd.R_new' ho1 (Kd.R_lt (yH HO363.out))) (Kd.R_lt (yH HO366.out))) (Kd.R_lt (yH HO371.out))) (Kd.R_lt (yH HO373.out))) yW); replace HO363 := aM (Kd.R_mono (Kd.R_told (Kd.R_told (Kd.R_old (yH HO363.out) hb) (Kd.R_base ho0)) (Kd.R_base ho1)) (fun _ h_ => h_.1)); replace HO366 := aM (Kd.R_mono (Kd.R_told (Kd.R_told (Kd.R_old (yH HO366.out) hb) (Kd.R_base ho0)) (Kd.R_base ho1)) (fun _ h_ => h_.1)); replace HO371 := aM (Kd.R_mono (Kd.R_told (Kd.R_told (Kd.R_old (yH HO371.out) hb) (Kd.R_base ho0)) (Kd.R_base ho1)) (fun _ h_ => h_.1)); replace HO373 := aM (Kd.R_mono (Kd.R_told (Kd.R_told (Kd.R_old (yH HO373.out) hb) (Kd.R_base ho0)) (Kd.R_base ho1)) (fun _ h_ => h_.1)); replace HB := aM (below_step yB hb); clear hb ho0 ho1; obtain ⟨Ao36, co36, eo36⟩ := Kd.R_slice HO371.out; subst eo36; obtain ⟨Ao37, co37, eo37⟩ := Kd.R_slice HO378.out; subst eo37) | ((with_reducible refine gate_callee (f := 18) rfl ?_); refine goesL_ (some 44) rfl rfl Try.func18 yK rfl #[.slice Ao36 t367.length co36, .slice Ao37 t374.length co37] rfl yG ?_; (with_reducible refine (patchworkref8_Same.calls kj3 _ _ t367 _ _ t374 true _ (yC (Kd.R_reads' HO371.out).2.2) ((Kd.R_reads' HO371.out).2.1) (yC (Kd.R_reads' HO378.out).2.2) ((Kd.R_reads' HO378.out).2.1) A15.out).mono ?_); rintro e w' ⟨rfl, ⟨nd, rfl⟩⟩; refine ⟨_, rfl, ?_⟩; obtain ⟨Ao38, co38, eo38⟩ := Kd.R_slice HO373.out; subst eo38; obtain ⟨Ao39, co39, eo39⟩ := Kd.R_slice HO380.out; subst eo39) | (go_at_call 18; (with_reducible refine (patchworkref8_Same.calls kj3 _ _ t368 _ _ t375 false _ (yC (Kd.R_reads' HO373.out).2.2) ((Kd.R_reads' HO373.out).2.1) (yC (Kd.R_reads' HO380.out).2.2) ((Kd.R_reads' HO380.out).2.1) A17.out).mono ?_); rintro e w' ⟨rfl, ⟨nd, rfl⟩⟩))
        go_ret
        exact ⟨yE2, yB⟩
      ·replace c16 := Bool.eq_false_iff.mpr c16
       subst c16; replace H := iF H; obtain rfl := Option.some.inj H
       go_wp2_with (first | ((with_reducible refine gate_builtin (b := .append) (xs := #[.const (.slice none 0 0), .tmp 27]) rfl ?_); at_builtin; refine Kd.R_append_rows kOp (w0 := w) w.heap.size rfl (.const (.slice none 0 0)) (.tmp 27) 22 41 (.agg #[(.int .i64 0), (.int .i64 0), (.string ⟨#[]⟩)]) 32 rfl Try.underlying22 info41 rfl (by decide) (by omega) (.slice none 0 0) ([] : List (Op)) l0 _ _ _ (fun _ => True) (fun _ => False) rfl rfl ?aO ?aR (fun _ _ h => h) (fun _ h => h.elim) ?aF ?aB ?aS ?aL ?_; (case aR => repeat (first | exact (Kd.C_below HR0.out HB.out) | (with_reducible first | refine Kd.C_alloc ?_ _ | refine Kd.C_drewN ?_ _ | refine Kd.C_drew ?_))); (case aB => exact yB); (case aF => exact (fun _ _ => trivial)); (case aO => exact ((Kd.R_nil _ _ _ _ (fun _ => True)))); (case aS => exact yW); (case aL => have := LMc11.out; omega); intro v362 w40 ho hb hg hat; rw [← Ny361.out] at ho; replace HB := aM (hb); have HO363 := aM (ho); clear ho hb hg hat) | ((with_reducible refine gate_builtin (b := .append) (xs := #[.const (.slice none 0 0), .tmp 29]) rfl ?_); at_builtin; refine Kd.R_append_rows kOp (w0 := w) w.heap.size rfl (.const (.slice none 0 0)) (.tmp 29) 22 41 (.agg #[(.int .i64 0), (.int .i64 0), (.string ⟨#[]⟩)]) 32 rfl Try.underlying22 info41 rfl (by decide) (by omega) (.slice none 0 0) ([] : List (Op)) l1 _ _ _ (fun k_ => some k_ ≠ (v362 : Value).ownBlock) (fun _ => False) rfl rfl ?aO ?aR (fun _ _ h => h) (fun _ h => h.elim) ?aF ?aB ?aS ?aL ?_; (case aR => repeat (first | exact (Kd.C_below HR1.out HB.out) | (with_reducible first | refine Kd.C_alloc ?_ _ | refine Kd.C_drewN ?_ _ | refine Kd.C_drew ?_))); (case aB => exact yB); (case aF => exact (fun k_ hk => Kd.fresh' (Kd.R_lt (yH HO363.out)) k_ hk)); (case aO => exact ((Kd.R_nil _ _ _ _ (fun k_ => some k_ ≠ (v362 : Value).ownBlock)))); (case aS => exact yW); (case aL => have := LMc12.out; omega); intro v365 w41 ho hb hg hat; rw [← Ny364.out] at ho; replace HO363 := aM (Kd.R_after (Kd.R_apart_nil (yH HO363.out)) hg hat); replace HB := aM (hb); have HO366 := aM (ho); clear ho hb hg hat; obtain ⟨Ao42, co42, eo42⟩ := Kd.R_slice HO363.out; subst eo42; obtain ⟨Ao43, co43, eo43⟩ := Kd.R_slice HO366.out; subst eo43) | ((with_reducible refine gate_callee (f := 16) rfl ?_); refine goesL_ (some 31) rfl rfl Try.func16 yK rfl #[.slice Ao42 y361.length co42, .slice Ao43 y364.length co43] rfl yG ?_; (with_reducible refine (swap_Ops.calls kj3 _ _ y361 _ _ y364 t367 t368 t369 _ (yC (Kd.R_reads' HO363.out).2.2) ((Kd.R_reads' HO363.out).2.1) (yC (Kd.R_reads' HO366.out).2.2) ((Kd.R_reads' HO366.out).2.1) A13.out).mono ?_); rintro e w44 ⟨v370, v372, rfl, ho0, ho1, hb⟩; refine ⟨_, rfl, ?_⟩; have HO371 := aM (Kd.R_lower (Kd.R_new' (Kd.R_new' ho0 (Kd.R_lt (yH HO363.out))) (Kd.R_lt (yH HO366.out))) yW); have HO373 := aM (Kd.R_lower (Kd.R_new' (Kd.R_new' ho1 (Kd.R_lt (yH HO363.out))) (Kd.R_lt (yH HO366.out))) yW); replace HO363 := aM (Kd.R_mono (Kd.R_told (Kd.R_told (Kd.R_old (yH HO363.out) hb) (Kd.R_base ho0)) (Kd.R_base ho1)) (fun _ h_ => h_.1)); replace HO366 := aM (Kd.R_mono (Kd.R_told (Kd.R_told (Kd.R_old (yH HO366.out) hb) (Kd.R_base ho0)) (Kd.R_base ho1)) (fun _ h_ => h_.1)); replace HB := aM (below_step yB hb); clear hb ho0 ho1) | ((with_reducible refine gate_callee (f := 17) rfl ?_); refine goesL_ (some 38) rfl rfl Try.func17 yK rfl #[.slice A0 l0.length c0, .slice A1 l1.length c1] rfl yG ?_; (with_reducible refine (patchworkref8_Swap.calls kj3 _ _ l0 _ _ l1 t374 t375 t376 _ (yC (Kd.C_below HR0.out HB.out)) HC0.out (yC (Kd.C_below HR1.out HB.out)) HC1.out A14.out).mono ?_); rintro e w45 ⟨v377, v379, rfl, ho0, ho1, hb⟩; refine ⟨_, rfl, ?_⟩; have HO378 := aM (Kd.R_lower (Kd.R_new' (Kd.R_new' (Kd.R_new' (Kd.R_new' ho0 (Kd.R_lt (yH HO363.out))) (Kd.R_lt (yH HO366.out))) (Kd.R_lt (yH HO371.out))) (Kd.R_lt (yH HO373.out))) yW); have HO380 := aM (Kd.R_lower (Kd.R_new' (Kd.R_new' (Kd.R_new' (Kd.R_new' ho1 (Kd.R_lt (yH HO363.out))) (Kd.R_lt (yH HO366.out))) (Kd.R_lt (yH HO371.out))) (Kd.R_lt (yH HO373.out))) yW); replace HO363 := aM (Kd.R_mono (Kd.R_told (Kd.R_told (Kd.R_old (yH HO363.out) hb) (Kd.R_base ho0)) (Kd.R_base ho1)) (fun _ h_ => h_.1)); replace HO366 := aM (Kd.R_mono (Kd.R_told (Kd.R_told (Kd.R_old (yH HO366.out) hb) (Kd.R_base ho0)) (Kd.R_base ho1)) (fun _ h_ => h_.1)); replace HO371 := aM (Kd.R_mono (Kd.R_told (Kd.R_told (Kd.R_old (yH HO371.out) hb) (Kd.R_base ho0)) (Kd.R_base ho1)) (fun _ h_ => h_.1)); replace HO373 := aM (Kd.R_mono (Kd.R_told (Kd.R_told (Kd.R_old (yH HO373.out) hb) (Kd.R_base ho0)) (Kd.R_base ho1)) (fun _ h_ => h_.1)); replace HB := aM (below_step yB hb); clear hb ho0 ho1; obtain ⟨Ao46, co46, eo46⟩ := Kd.R_slice HO371.out; subst eo46; obtain ⟨Ao47, co47, eo47⟩ := Kd.R_slice HO378.out; subst eo47) | ((with_reducible refine gate_callee (f := 18) rfl ?_); refine goesL_ (some 44) rfl rfl Try.func18 yK rfl #[.slice Ao46 t367.length co46, .slice Ao47 t374.length co47] rfl yG ?_; (with_reducible refine (patchworkref8_Same.calls kj3 _ _ t367 _ _ t374 false _ (yC (Kd.R_reads' HO371.out).2.2) ((Kd.R_reads' HO371.out).2.1) (yC (Kd.R_reads' HO378.out).2.2) ((Kd.R_reads' HO378.out).2.1) A15.out).mono ?_); rintro e w' ⟨rfl, ⟨nd, rfl⟩⟩; refine ⟨_, rfl, ?_⟩))
       go_ret
       exact ⟨yE2, yB⟩
     ·rw [if_neg c12] at H
      exact absurd H (by simp)
    ·rw [if_neg c11] at H
     exact absurd H (by simp)
end Go.Proofs.Ytfoponahdidddaa.P
namespace Go.Proofs.Ytfoponahdidddaa.P
open Go.RowKit Go.Proofs.YtfoponahdidddaaW.PrintWords Go.Proofs.YtfoponahdidddaaW.PrintLast Go.Proofs.YtfoponahdidddaaW.PrintMore
def SwapTells.Pure : Prop := ∀ (l0 : List (Op)) (l1 : List (Op)), ((fun xs => ∀ y ∈ xs, okOp y) l0) → ((fun xs => ∀ y ∈ xs, okOp y) l1) → (fun xs => (xs.map wtOp).sum + 1) l0 + (fun xs => (xs.map wtOp).sum + 1) l1 ≤ 1048576 → ∃ k, patchworklaw15_SwapTells.f k l0 l1 = some true
end Go.Proofs.Ytfoponahdidddaa.P
namespace Go.Proofs.Ytfoponahdidddaa.P
open Go.RowKit Go.Proofs.YtfoponahdidddaaW.PrintWords Go.Proofs.YtfoponahdidddaaW.PrintLast Go.Proofs.YtfoponahdidddaaW.PrintMore
theorem SwapTells.out (a b : List Op) : Ev (fun k => patchworklaw15_SwapTells.j0 k a b true true) true := by
  refine Ev.step (fun k => rfl) ?_
  simp only [patchworklaw15_SwapTells.j0, if_true]
  exact Ev.now true
theorem SwapTells.proved : SwapTells.Pure := by
  intro p q _ _ hw
  simp only at hw
  have fp := fewN_le p
  have fq := fewN_le q
  refine Ev.rounds ?_
  simp only [patchworklaw15_SwapTells.f]
  refine Ev.bind' alive15 ?_
  simp only [if_true]
  refine Ev.bind' (few_ev (by omega)) ?_
  by_cases h : fewN p ≤ 600
  · simp only [h, decide_true, if_true]
    refine Ev.bind' (few_ev (by omega)) ?_
    by_cases h2 : fewN q ≤ 600
    · simp only [h2, decide_true, Bool.not_true]
      have hp := Sx.of_few h
      have hq := Sx.of_few h2
      have lp := fewN_len p
      have lq := fewN_len q
      have c1 : ([] : List Op).length + p.length < 4398046511104 := by simp only [List.length_nil]; omega
      have c2 : ([] : List Op).length + q.length < 4398046511104 := by simp only [List.length_nil]; omega
      have l1 := (swap_len hp hq).1.1
      have l2 := (swap_len hp hq).2.1
      refine Ev.step (fun k => rfl) ?_
      simp only [patchworklaw15_SwapTells.j0, Bool.false_eq_true, if_false, if_pos c1, if_pos c2, List.nil_append]
      refine Ev.bind' (pswap_ev hp hq) ?_
      refine Ev.bind' (refswap_ev hp hq) ?_
      refine Ev.bind' (same_ev _ _ (by omega)) ?_
      simp only [decide_true, if_true]
      refine Ev.bind' (same_ev _ _ (by omega)) ?_
      simp only [decide_true, if_true, num_val, Option.bind_some, beq_self_eq_true]
      exact Ev.now true
    · simp only [h2, decide_false, Bool.not_false]
      exact SwapTells.out p q
  · simp only [h, decide_false, Bool.false_eq_true, if_false]
    exact SwapTells.out p q
end Go.Proofs.Ytfoponahdidddaa.P
namespace Go.Proofs.Ytfoponahdidddaa.P.swapTells
open Go.ChangeShapes Go.WideShapes Go.ChangeAt Go.RowKit Go.Proofs.Ytfoponahdidddaa.P Go.Proofs.YtfoponahdidddaaW.PrintWords
open Go.ChangeMaps (open_string shut_string)
theorem own : ownKnob Try.prog.godebug = none := by kernel_rfl
theorem laidOut : laidOutB Try.prog = true := by kernel_rfl
theorem opens0 : Opens Try.prog 41 kOp okOp wtOp := (opens_struct3 (d0 := (Kd.int .i64)) (d1 := (Kd.int .i64)) (d2 := Kd.string) Try.underlying41 (by kernel_rfl) rfl rfl rfl rfl rfl rfl (opens_int Try.underlying3 (by kernel_rfl)) (opens_int Try.underlying3 (by kernel_rfl)) (opens_string Try.underlying9 (by kernel_rfl)) (fun x : Op => (x.f0, x.f1, x.f2)) (fun a b c => ⟨a, b, c⟩) (fun _ _ _ => rfl))
theorem opens1 : Opens Try.prog 41 kOp okOp wtOp := (opens_struct3 (d0 := (Kd.int .i64)) (d1 := (Kd.int .i64)) (d2 := Kd.string) Try.underlying41 (by kernel_rfl) rfl rfl rfl rfl rfl rfl (opens_int Try.underlying3 (by kernel_rfl)) (opens_int Try.underlying3 (by kernel_rfl)) (opens_string Try.underlying9 (by kernel_rfl)) (fun x : Op => (x.f0, x.f1, x.f2)) (fun a b c => ⟨a, b, c⟩) (fun _ _ _ => rfl))
set_option maxRecDepth 100000 in
theorem contract (H : Type) (enc : TypeId × Value → H) (W : World) (base : Nat) (args : Array Value) (ds gs : List (DataW H)) (before : List MemPlace)
    (hval : ∀ (j : Nat) t v, Try.f3.params[j]? = some t → args[j]? = some v → Value.okWide Try.prog W .any base t v)
    (hW : DataW.Whole enc Try.prog Try.f3.params.toList Rows.swapTellsSpec.vars false W args.toList ds gs before) (hk : Rows.uptoSmall H (ds ++ gs) = true) :
    Calls Try.prog 3 args W fun e W' => ∃ v, e = .returned v ∧ Rows.swapTellsSpec.post enc Try.prog Try.f3 false true false false W args v W' := by
  have hW' := hW
  obtain ⟨p, q, hA0, hV, rfl, hfz, hnd⟩ := hW
  have hA : DataW.TrodAll enc Try.prog W 0 (fun _ => true) true Try.f3.params.toList args.toList ds p := hA0
  rw [Try.params3] at hA hval
  obtain ⟨v0, vs0, d0, ds0, p0, q0, hargs, rfl, rfl, h0, r0⟩ := trodAll_cons hA
  obtain ⟨v1, vs1, d1, ds1, p1, q1, rfl, rfl, rfl, h1, r1⟩ := trodAll_cons r0
  obtain ⟨rfl, rfl, rfl⟩ := trodAll_nil r1
  obtain rfl : args = #[v0, v1] := by cases args; simp_all
  obtain ⟨rfl, rfl⟩ := trodVars_none hV
  have hb := small_all hk
  simp only [List.append_nil, Rows.uptoBulkAll] at hb
  obtain ⟨A0, len0, c0, rfl⟩ := okWide_slice Try.underlying22 (hval 0 22 v0 rfl rfl)
  have k0 := h0
  have lt0 : ∀ x ∈ p0, x.block < W.heap.size := by obtain ⟨m, hm⟩ := k0; exact DataW.trod_lt m _ _ _ hm
  obtain ⟨fuel0, hf0⟩ := h0
  obtain ⟨A0', c0', l0, hcs0, hc0, hr0, ok0, wt0⟩ := open_row Try.underlying22 opens0 hf0
  simp only [Value.cells, List.cons.injEq, Value.slice.injEq, and_true] at hcs0
  obtain ⟨rfl, rfl, rfl⟩ := hcs0
  obtain ⟨A1, len1, c1, rfl⟩ := okWide_slice Try.underlying22 (hval 1 22 v1 rfl rfl)
  have k1 := h1
  have lt1 : ∀ x ∈ p1, x.block < W.heap.size := by obtain ⟨m, hm⟩ := k1; exact DataW.trod_lt m _ _ _ hm
  obtain ⟨fuel1, hf1⟩ := h1
  obtain ⟨A1', c1', l1, hcs1, hc1, hr1, ok1, wt1⟩ := open_row Try.underlying22 opens1 hf1
  simp only [Value.cells, List.cons.injEq, Value.slice.injEq, and_true] at hcs1
  obtain ⟨rfl, rfl, rfl⟩ := hcs1
  clear hA0 hval
  obtain ⟨k, hp⟩ := SwapTells.proved l0 l1 ok0 ok1 (by simp only [] at *; omega)
  refine (patchworklaw15_SwapTells.calls k _ _ l0 _ _ l1 true W hr0 hc0 hr1 hc1 hp).mono fun e W' ⟨he, bel0⟩ => ?_
  have bel : Below W.heap.size W W' := bel0
  subst he
  exact ⟨_, rfl, _, _, _, [], _, [], hW', trodAll_mk1 (shut_bool Try.underlying4 _), (trodAll_cons_mk (Below.trod laidOut (by kernel_rfl) (of_decide_eq_true (by kernel_rfl)) k0 bel lt0) (trodAll_cons_mk (Below.trod laidOut (by kernel_rfl) (of_decide_eq_true (by kernel_rfl)) k1 bel lt1) trodAll_mk0)), rfl, bel.frame _, fun h => by cases h⟩
set_option maxRecDepth 100000 in
theorem lifted (os : Os) (started : os.Started) (H : Type) (enc : TypeId × Value → H) (F : Stop.Interp) :
    ReturnsInHanded {} Try.checked os 3 .any ((Rows.OpenSpec.upto Rows.swapTellsSpec).pre6 enc Try.prog Try.f3 Rows.swapTellsUptoRow.domain false) (((Rows.OpenSpec.upto Rows.swapTellsSpec).at F).post enc Try.prog Try.f3 false true false false) := by
  refine returnsInHanded_of_cond (C := Try.checked) (s := Rows.OpenSpec.upto Rows.swapTellsSpec) (k := Rows.uptoSmall) rfl own started (by kernel_rfl) Try.func3
    (OpenSpec.witness (enc := enc) (C := Try.checked) (s := Rows.OpenSpec.upto Rows.swapTellsSpec) (k := Rows.uptoSmall) rfl false ⟨#[], #[.slice none 0 0, .slice none 0 0], []⟩ 8 (by kernel_rfl) (by kernel_rfl) (by kernel_rfl)
      (x := ([.nil, .nil], [], [])) (by kernel_rfl) rfl (by kernel_rfl)) ?_
  intro W base args ds gs before hval hW _ hk _
  exact contract H enc W base args ds gs before hval hW hk
theorem over : Rows.swapTellsUptoRow.holds Try.pinned (Rows.OpenSpec.upto Rows.swapTellsSpec) :=
  OpenClaim.holds_of_cond 3 Try.f3 rfl rfl rfl rfl rfl rfl rfl ⟨rfl, rfl, rfl, rfl, rfl⟩ rfl rfl rfl rfl rfl (by kernel_rfl) Try.func3 (by kernel_rfl)
    (of_decide_eq_true (by kernel_rfl)) (by unfold Func.isWrapper; first | (rw [if_pos (by decide +kernel)]; kernel_rfl) | (rw [if_neg (by decide +kernel)]; exact ⟨rfl, rfl⟩))
    (fun os started H enc _ F => lifted os started H enc F)
theorem proved : Rows.SwapTellsUptoSaid := over
end Go.Proofs.Ytfoponahdidddaa.P.swapTells
namespace Go.Proofs.Ytfoponahdidddaa
theorem swapTells_holds : Rows.SwapTellsUptoSaid := P.swapTells.proved
#print axioms swapTells_holds
end Go.Proofs.Ytfoponahdidddaa
