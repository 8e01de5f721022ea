/- The law InterSelf answers true, for all arguments that hold together at most 1048576 values and letters, and leaves them as they were. -/
import Derived.Test.YtfoponahdidddaaqInterSelf4
import Derived.Test.YtfoponahdidddaaqInterSelf5
import Derived.Test.YtfoponahdidddaaqInterSelf3
import Derived.Test.YtfoponahdidddaaqInterSelf8
import Derived.Test.YtfoponahdidddaaqInterSelf12
import Derived.Test.YtfoponahdidddaaqInterSelf7
import Derived.WalkKit
import Derived.ProofKit
import Derived.OpenShut
import Derived.ShutString
import Derived.ChangeOld
import Derived.Below
import Derived.SizedLaws
import Derived.JoinedCond
set_option linter.unusedVariables false
set_option linter.unusedSimpArgs false
namespace Go.Proofs.Ytfoponahdidddaa.P
open Go.RowKit Go.Proofs.YtfoponahdidddaaW.PrintWords Go.Proofs.YtfoponahdidddaaW.PrintLast Go.Proofs.YtfoponahdidddaaW.PrintMore
open Go.Proofs.YtfoponahdidddaaW.PrintWords.Aside0 renaming mk → aM
open Option renaming bind_eq_some_iff → bS
attribute [local go_sem] max2_int min2_int max_two min_two max_three min_three max_four min_four
set_option maxHeartbeats 8000000 in
set_option maxRecDepth 100000 in
theorem patchworklaw14_InterSelf.calls (k : Nat) (A0 : Option Addr) (c0 : Nat) (l0 : List (Op)) (A1 : Option Addr) (c1 : Nat) (l1 : List (Op)) (r : Bool) (w : World) (hr0 : Kd.C kOp w A0 l0.length l0) (hc0 : l0.length ≤ c0) (hr1 : Kd.C kOp w A1 l1.length l1) (hc1 : l1.length ≤ c1) (h : patchworklaw14_InterSelf.f k l0 l1 = some r) :
  Calls Try.prog 11 #[.slice A0 l0.length c0, .slice A1 l1.length c1] w fun e w' => e = .returned (.bool r) ∧ Below w.heap.size w w' := by
 have HR0 := aM hr0
 have HC0 := aM hc0
 clear hr0 hc0
 have HR1 := aM hr1
 have HC1 := aM hc1
 clear hr1 hc1
 have HB := aM (Below.refl w.heap.size w)
 have H : ((patchworklaw14_alive.f k).bind fun t929 => (if t929 = true then ((patchworklaw8_Few.f k l0).bind fun t930 => (if t930 = true then ((patchworklaw8_Few.f k l1).bind fun t931 => (if t931 = true then ((patchworkref8_Right.f k l0).bind fun t932 => (if t932 = true then ((patchworkref8_Right.f k l1).bind fun t933 => (patchworklaw14_InterSelf.j0 k l0 l1 t929 (!t933))) else (patchworklaw14_InterSelf.j0 k l0 l1 t929 true))) else (patchworklaw14_InterSelf.j0 k l0 l1 t929 true))) else (patchworklaw14_InterSelf.j0 k l0 l1 t929 true))) else (patchworklaw14_InterSelf.j0 k l0 l1 t929 true))) = some r := h
 clear h
 obtain ⟨t929, A3, H⟩ := oB H
 have HC4 := aM H
 clear H
 go_enter Try.func11, Try.ntmps11
 go_upto_region 2 with (first | ((with_reducible refine gate_callee (f := 29) rfl ?_); refine goesL_ (some 12) rfl rfl Try.func29 yK rfl #[] rfl yG ?_; (with_reducible refine (patchworklaw14_alive.calls k  t929 _ A3.out).mono ?_); rintro e w5 ⟨rfl, hb⟩; refine ⟨_, rfl, ?_⟩; replace HB := aM (below_step yB hb); clear hb))
 (try simp only [Act.put, List.setIfInBounds_toArray, List.set_cons_zero, List.set_cons_succ])
 go_cut [34] (fun v34 wc => ∃ (kq : Nat) (x34_3 : Bool), v34 = .bool x34_3 ∧ Aside0 (patchworklaw14_InterSelf.j0 kq l0 l1 t929 x34_3 = some r) ∧ Aside0 (kq ≤ k) ∧ Aside0 (Below w.heap.size w wc))
 case first =>
  have H := HC4.out; clear HC4
  by_cases c6 : t929 = true
  ·subst c6
   replace H := iT H; obtain ⟨t930, A7, H⟩ := oB H
   by_cases c8 : t930 = true
   ·subst c8
    replace H := iT H; obtain ⟨t931, A9, H⟩ := oB H
    by_cases c10 : t931 = true
    ·subst c10
     replace H := iT H; obtain ⟨t932, A11, H⟩ := oB H
     by_cases c12 : t932 = true
     ·subst c12
      replace H := iT H; obtain ⟨t933, A13, H⟩ := oB H; have H' := aM H; clear H
      go_wp2_with (first | (go_at_call 15; (with_reducible refine (patchworklaw8_Few.calls k _ _ l0 true _ (yC (Kd.C_below HR0.out HB.out)) HC0.out A7.out).mono ?_); rintro e w' ⟨rfl, ⟨nd, rfl⟩⟩) | (go_at_call 15; (with_reducible refine (patchworklaw8_Few.calls k _ _ l1 true _ (yC (Kd.C_below HR1.out yB)) HC1.out A9.out).mono ?_); rintro e w' ⟨rfl, ⟨nd, rfl⟩⟩) | (go_at_call 32; (with_reducible refine (patchworkref8_Right.calls k _ _ l0 true _ (yC (Kd.C_below HR0.out yB)) HC0.out A11.out).mono ?_); rintro e w14 ⟨rfl, hb⟩; replace HB := aM (below_step yB hb); clear hb) | (go_at_call 32; (with_reducible refine (patchworkref8_Right.calls k _ _ l1 t933 _ (yC (Kd.C_below HR1.out HB.out)) HC1.out A13.out).mono ?_); rintro e w15 ⟨rfl, hb⟩; replace HB := aM (below_step yB hb); clear hb))
      go_meet
      case rel => exact ⟨_, (!t933), yE, H', ⟨by first | omega | exact Nat.le_refl _⟩, ⟨yB⟩⟩
     ·replace c12 := Bool.eq_false_iff.mpr c12
      subst c12; have H' := aM (iF H); clear H
      go_wp2_with (first | (go_at_call 15; (with_reducible refine (patchworklaw8_Few.calls k _ _ l0 true _ (yC (Kd.C_below HR0.out HB.out)) HC0.out A7.out).mono ?_); rintro e w' ⟨rfl, ⟨nd, rfl⟩⟩) | (go_at_call 15; (with_reducible refine (patchworklaw8_Few.calls k _ _ l1 true _ (yC (Kd.C_below HR1.out yB)) HC1.out A9.out).mono ?_); rintro e w' ⟨rfl, ⟨nd, rfl⟩⟩) | (go_at_call 32; (with_reducible refine (patchworkref8_Right.calls k _ _ l0 false _ (yC (Kd.C_below HR0.out yB)) HC0.out A11.out).mono ?_); rintro e w16 ⟨rfl, hb⟩; replace HB := aM (below_step yB hb); clear hb))
      go_meet
      case rel => exact ⟨_, (true), yE, H', ⟨by first | omega | exact Nat.le_refl _⟩, ⟨yB⟩⟩
    ·replace c10 := Bool.eq_false_iff.mpr c10
     subst c10; have H' := aM (iF H); clear H
     go_wp2_with (first | (go_at_call 15; (with_reducible refine (patchworklaw8_Few.calls k _ _ l0 true _ (yC (Kd.C_below HR0.out HB.out)) HC0.out A7.out).mono ?_); rintro e w' ⟨rfl, ⟨nd, rfl⟩⟩) | (go_at_call 15; (with_reducible refine (patchworklaw8_Few.calls k _ _ l1 false _ (yC (Kd.C_below HR1.out yB)) HC1.out A9.out).mono ?_); rintro e w' ⟨rfl, ⟨nd, rfl⟩⟩))
     go_meet
     case rel => exact ⟨_, (true), yE, H', ⟨by first | omega | exact Nat.le_refl _⟩, ⟨yB⟩⟩
   ·replace c8 := Bool.eq_false_iff.mpr c8
    subst c8; have H' := aM (iF H); clear H
    go_wp2_with (first | (go_at_call 15; (with_reducible refine (patchworklaw8_Few.calls k _ _ l0 false _ (yC (Kd.C_below HR0.out HB.out)) HC0.out A7.out).mono ?_); rintro e w' ⟨rfl, ⟨nd, rfl⟩⟩))
    go_meet
    case rel => exact ⟨_, (true), yE, H', ⟨by first | omega | exact Nat.le_refl _⟩, ⟨yB⟩⟩
  ·replace c6 := Bool.eq_false_iff.mpr c6
   subst c6; have H' := aM (iF H); clear H
   go_wp2
   go_meet
   case rel => exact ⟨_, (true), yE, H', ⟨by first | omega | exact Nat.le_refl _⟩, ⟨yB⟩⟩
 case rest =>
  clear HC4; (try clear c1); (try clear c2); (try clear p2); (try clear c6); (try clear c8); (try clear c10); (try clear c11); (try clear c12); obtain ⟨kq, x34_3, rfl, HA, HJ3, HB⟩ := hcut; cases kq with
  | zero => exact absurd HA.out (by simp [patchworklaw14_InterSelf.j0])
  | succ kj3 =>
   have H := HA.out; clear HA; simp only [patchworklaw14_InterSelf.j0] at H
   by_cases c17 : x34_3 = true
   ·subst c17
    replace H := iT H; obtain rfl := Option.some.inj H
    go_wp2
    go_ret
    exact ⟨yE2, yB⟩
   ·replace c17 := Bool.eq_false_iff.mpr c17
    subst c17; replace H := iF H; replace H := bS.mp H; obtain ⟨⟨t934, t935⟩, A180, H⟩ := H; replace H : ((inter_Ops.f kj3 l0 l1).bind fun bt938 => ((inter_Ops.f kj3 l1 l0).bind fun bt942 => (if t935 = true then ((patchworkref8_Changes.f kj3 t934).bind fun t946 => (if t946 = 0 then (some (bt938.2 == bt942.2)) else (some false))) else (some false)))) = some r := H; have A18 := aM A180; clear A180; replace H := bS.mp H; obtain ⟨⟨t938, t939⟩, A190, H⟩ := H; replace H : ((inter_Ops.f kj3 l1 l0).bind fun bt942 => (if t935 = true then ((patchworkref8_Changes.f kj3 t934).bind fun t946 => (if t946 = 0 then (some (t939 == bt942.2)) else (some false))) else (some false))) = some r := H; have A19 := aM A190; clear A190; replace H := bS.mp H; obtain ⟨⟨t942, t943⟩, A200, H⟩ := H; replace H : (if t935 = true then ((patchworkref8_Changes.f kj3 t934).bind fun t946 => (if t946 = 0 then (some (t939 == t943)) else (some false))) else (some false)) = some r := H; have A20 := aM A200; clear A200
    by_cases c21 : t935 = true
    ·subst c21
     replace H := iT H; obtain ⟨t946, A22, H⟩ := oB H
     by_cases c23 : t946 = 0
     ·rw [if_pos c23] at H
      have c23b0 := beq_iff_eq.mpr c23; have c23b1 := bne_eq_false_iff_eq.mpr c23; clear c23; obtain rfl := Option.some.inj H
      go_wp2_with (first | ((with_reducible refine gate_callee (f := 30) rfl ?_); refine goesL_ (some 39) rfl rfl Try.func30 yK rfl #[.slice A0 l0.length c0, .slice A0 l0.length c0] rfl yG ?_; (with_reducible refine (inter_Ops.calls kj3 _ _ l0 _ _ l0 t934 true _ (yC (Kd.C_below HR0.out HB.out)) HC0.out (yC (Kd.C_below HR0.out HB.out)) HC0.out A18.out).mono ?_); rintro e w24 ⟨v936, rfl, ho0, hb⟩; refine ⟨_, rfl, ?_⟩; have HO937 := aM (Kd.R_lower ho0 yW); replace HB := aM (below_step yB hb); clear hb ho0) | ((with_reducible refine gate_callee (f := 30) rfl ?_); refine goesL_ (some 45) rfl rfl Try.func30 yK rfl #[.slice A0 l0.length c0, .slice A1 l1.length c1] rfl yG ?_; (with_reducible refine (inter_Ops.calls kj3 _ _ l0 _ _ l1 t938 t939 _ (yC (Kd.C_below HR0.out HB.out)) HC0.out (yC (Kd.C_below HR1.out HB.out)) HC1.out A19.out).mono ?_); rintro e w25 ⟨v940, rfl, ho0, hb⟩; refine ⟨_, rfl, ?_⟩; have HO941 := aM (Kd.R_lower (Kd.R_new' ho0 (Kd.R_lt (yH HO937.out))) yW); replace HO937 := aM (Kd.R_elder' (yH HO937.out) (Kd.R_base ho0) hb); replace HB := aM (below_step yB hb); clear hb ho0) | ((with_reducible refine gate_callee (f := 30) rfl ?_); refine goesL_ (some 51) rfl rfl Try.func30 yK rfl #[.slice A1 l1.length c1, .slice A0 l0.length c0] rfl yG ?_; (with_reducible refine (inter_Ops.calls kj3 _ _ l1 _ _ l0 t942 t943 _ (yC (Kd.C_below HR1.out HB.out)) HC1.out (yC (Kd.C_below HR0.out HB.out)) HC0.out A20.out).mono ?_); rintro e w26 ⟨v944, rfl, ho0, hb⟩; refine ⟨_, rfl, ?_⟩; have HO945 := aM (Kd.R_lower (Kd.R_new' (Kd.R_new' ho0 (Kd.R_lt (yH HO937.out))) (Kd.R_lt (yH HO941.out))) yW); replace HO937 := aM (Kd.R_elder' (yH HO937.out) (Kd.R_base ho0) hb); replace HO941 := aM (Kd.R_elder' (yH HO941.out) (Kd.R_base ho0) hb); replace HB := aM (below_step yB hb); clear hb ho0; obtain ⟨Ao27, co27, eo27⟩ := Kd.R_slice HO937.out; subst eo27) | (go_at_call 33; (with_reducible refine (patchworkref8_Changes.calls kj3 _ _ t934 t946 _ (yC (Kd.R_reads' HO937.out).2.2) ((Kd.R_reads' HO937.out).2.1) A22.out).mono ?_); rintro e w28 ⟨rfl, hb⟩; replace HO937 := aM (Kd.R_below (yH HO937.out) hb); replace HO941 := aM (Kd.R_below (yH HO941.out) hb); replace HO945 := aM (Kd.R_below (yH HO945.out) hb); replace HB := aM (below_step yB hb); clear hb))
      go_ret
      exact ⟨yE2, yB⟩
     ·rw [if_neg c23] at H
      have c23b0 := beq_eq_false_iff_ne.mpr c23; have c23b1 := bne_iff_ne.mpr c23; obtain rfl := Option.some.inj H
      go_wp2_with (first | ((with_reducible refine gate_callee (f := 30) rfl ?_); refine goesL_ (some 39) rfl rfl Try.func30 yK rfl #[.slice A0 l0.length c0, .slice A0 l0.length c0] rfl yG ?_; (with_reducible refine (inter_Ops.calls kj3 _ _ l0 _ _ l0 t934 true _ (yC (Kd.C_below HR0.out HB.out)) HC0.out (yC (Kd.C_below HR0.out HB.out)) HC0.out A18.out).mono ?_); rintro e w29 ⟨v936, rfl, ho0, hb⟩; refine ⟨_, rfl, ?_⟩; have HO937 := aM (Kd.R_lower ho0 yW); replace HB := aM (below_step yB hb); clear hb ho0) | ((with_reducible refine gate_callee (f := 30) rfl ?_); refine goesL_ (some 45) rfl rfl Try.func30 yK rfl #[.slice A0 l0.length c0, .slice A1 l1.length c1] rfl yG ?_; (with_reducible refine (inter_Ops.calls kj3 _ _ l0 _ _ l1 t938 t939 _ (yC (Kd.C_below HR0.out HB.out)) HC0.out (yC (Kd.C_below HR1.out HB.out)) HC1.out A19.out).mono ?_); rintro e w30 ⟨v940, rfl, ho0, hb⟩; refine ⟨_, rfl, ?_⟩; have HO941 := aM (Kd.R_lower (Kd.R_new' ho0 (Kd.R_lt (yH HO937.out))) yW); replace HO937 := aM (Kd.R_elder' (yH HO937.out) (Kd.R_base ho0) hb); replace HB := aM (below_step yB hb); clear hb ho0) | ((with_reducible refine gate_callee (f := 30) rfl ?_); refine goesL_ (some 51) rfl rfl Try.func30 yK rfl #[.slice A1 l1.length c1, .slice A0 l0.length c0] rfl yG ?_; (with_reducible refine (inter_Ops.calls kj3 _ _ l1 _ _ l0 t942 t943 _ (yC (Kd.C_below HR1.out HB.out)) HC1.out (yC (Kd.C_below HR0.out HB.out)) HC0.out A20.out).mono ?_); rintro e w31 ⟨v944, rfl, ho0, hb⟩; refine ⟨_, rfl, ?_⟩; have HO945 := aM (Kd.R_lower (Kd.R_new' (Kd.R_new' ho0 (Kd.R_lt (yH HO937.out))) (Kd.R_lt (yH HO941.out))) yW); replace HO937 := aM (Kd.R_elder' (yH HO937.out) (Kd.R_base ho0) hb); replace HO941 := aM (Kd.R_elder' (yH HO941.out) (Kd.R_base ho0) hb); replace HB := aM (below_step yB hb); clear hb ho0; obtain ⟨Ao32, co32, eo32⟩ := Kd.R_slice HO937.out; subst eo32) | (go_at_call 33; (with_reducible refine (patchworkref8_Changes.calls kj3 _ _ t934 t946 _ (yC (Kd.R_reads' HO937.out).2.2) ((Kd.R_reads' HO937.out).2.1) A22.out).mono ?_); rintro e w33 ⟨rfl, hb⟩; replace HO937 := aM (Kd.R_below (yH HO937.out) hb); replace HO941 := aM (Kd.R_below (yH HO941.out) hb); replace HO945 := aM (Kd.R_below (yH HO945.out) hb); replace HB := aM (below_step yB hb); clear hb))
      go_ret
      exact ⟨yE2, yB⟩
    ·replace c21 := Bool.eq_false_iff.mpr c21
     subst c21; replace H := iF H; obtain rfl := Option.some.inj H
     go_wp2_with (first | ((with_reducible refine gate_callee (f := 30) rfl ?_); refine goesL_ (some 39) rfl rfl Try.func30 yK rfl #[.slice A0 l0.length c0, .slice A0 l0.length c0] rfl yG ?_; (with_reducible refine (inter_Ops.calls kj3 _ _ l0 _ _ l0 t934 false _ (yC (Kd.C_below HR0.out HB.out)) HC0.out (yC (Kd.C_below HR0.out HB.out)) HC0.out A18.out).mono ?_); rintro e w34 ⟨v936, rfl, ho0, hb⟩; refine ⟨_, rfl, ?_⟩; have HO937 := aM (Kd.R_lower ho0 yW); replace HB := aM (below_step yB hb); clear hb ho0) | ((with_reducible refine gate_callee (f := 30) rfl ?_); refine goesL_ (some 45) rfl rfl Try.func30 yK rfl #[.slice A0 l0.length c0, .slice A1 l1.length c1] rfl yG ?_; (with_reducible refine (inter_Ops.calls kj3 _ _ l0 _ _ l1 t938 t939 _ (yC (Kd.C_below HR0.out HB.out)) HC0.out (yC (Kd.C_below HR1.out HB.out)) HC1.out A19.out).mono ?_); rintro e w35 ⟨v940, rfl, ho0, hb⟩; refine ⟨_, rfl, ?_⟩; have HO941 := aM (Kd.R_lower (Kd.R_new' ho0 (Kd.R_lt (yH HO937.out))) yW); replace HO937 := aM (Kd.R_elder' (yH HO937.out) (Kd.R_base ho0) hb); replace HB := aM (below_step yB hb); clear hb ho0) | ((with_reducible refine gate_callee (f := 30) rfl ?_); refine goesL_ (some 51) rfl rfl Try.func30 yK rfl #[.slice A1 l1.length c1, .slice A0 l0.length c0] rfl yG ?_; (with_reducible refine (inter_Ops.calls kj3 _ _ l1 _ _ l0 t942 t943 _ (yC (Kd.C_below HR1.out HB.out)) HC1.out (yC (Kd.C_below HR0.out HB.out)) HC0.out A20.out).mono ?_); rintro e w36 ⟨v944, rfl, ho0, hb⟩; refine ⟨_, rfl, ?_⟩; have HO945 := aM (Kd.R_lower (Kd.R_new' (Kd.R_new' ho0 (Kd.R_lt (yH HO937.out))) (Kd.R_lt (yH HO941.out))) yW); replace HO937 := aM (Kd.R_elder' (yH HO937.out) (Kd.R_base ho0) hb); replace HO941 := aM (Kd.R_elder' (yH HO941.out) (Kd.R_base ho0) hb); replace HB := aM (below_step yB hb); clear hb ho0))
     go_ret
     exact ⟨yE2, yB⟩
end Go.Proofs.Ytfoponahdidddaa.P
namespace Go.Proofs.Ytfoponahdidddaa.P
open Go.RowKit Go.Proofs.YtfoponahdidddaaW.PrintWords Go.Proofs.YtfoponahdidddaaW.PrintLast Go.Proofs.YtfoponahdidddaaW.PrintMore
def InterSelf.Pure : Prop := ∀ (l0 : List (Op)) (l1 : List (Op)), ((fun xs => ∀ y ∈ xs, okOp y) l0) → ((fun xs => ∀ y ∈ xs, okOp y) l1) → (fun xs => (xs.map wtOp).sum + 1) l0 + (fun xs => (xs.map wtOp).sum + 1) l1 ≤ 1048576 → ∃ k, patchworklaw14_InterSelf.f k l0 l1 = some true
end Go.Proofs.Ytfoponahdidddaa.P
namespace Go.Proofs.Ytfoponahdidddaa.P
open Go.RowKit Go.Proofs.YtfoponahdidddaaW.PrintWords Go.Proofs.YtfoponahdidddaaW.PrintLast Go.Proofs.YtfoponahdidddaaW.PrintMore
theorem InterSelf.out (a b : List Op) : Ev (fun k => patchworklaw14_InterSelf.j0 k a b true true) true := by
 refine Ev.step (fun k => rfl) ?_
 simp only [patchworklaw14_InterSelf.j0, if_true]
 exact Ev.now true
theorem InterSelf.proved : InterSelf.Pure := by
 intro p q _ _ hw
 simp only at hw
 have fp := fewN_le p
 have fq := fewN_le q
 refine Ev.rounds ?_
 simp only [patchworklaw14_InterSelf.f]
 refine Ev.bind' alive14 ?_
 simp only [if_true]
 refine Ev.bind' (few_ev (by omega)) ?_
 by_cases h : fewN p ≤ 600
 ·simp only [h, decide_true, if_true]
  refine Ev.bind' (few_ev (by omega)) ?_
  by_cases h2 : fewN q ≤ 600
  ·simp only [h2, decide_true, if_true]
   have hp := Sx.of_few h
   have hq := Sx.of_few h2
   have lp := fewN_len p
   have lq := fewN_len q
   refine Ev.bind' (refright_ev hp.sm) ?_
   cases rp : rightL p
   ·exact InterSelf.out p q
   simp only [if_true]
   refine Ev.bind' (refright_ev hq.sm) ?_
   cases rq : rightL q
   ·exact InterSelf.out p q
   simp only [Bool.not_true]
   obtain ⟨k1, k2⟩ := inter_self rp
   have s1 := (inter_len hp hp (by omega)).2
   have c : ((0 : Nat) : Int) = 0 := rfl
   refine Ev.step (fun k => rfl) ?_
   simp only [patchworklaw14_InterSelf.j0, Bool.false_eq_true, if_false]
   refine Ev.bind' (pinter_ev hp hp (by omega)) ?_
   refine Ev.bind' (pinter_ev hp hq (by omega)) ?_
   refine Ev.bind' (pinter_ev hq hp (by omega)) ?_
   simp only [k1, if_true]
   refine Ev.bind' (changes_ev s1.sm) ?_
   simp only [k2, if_pos c, inter_both rp rq, beq_self_eq_true]
   exact Ev.now true
  ·simp only [h2, decide_false, Bool.false_eq_true, if_false]
   exact InterSelf.out p q
 ·simp only [h, decide_false, Bool.false_eq_true, if_false]
  exact InterSelf.out p q
end Go.Proofs.Ytfoponahdidddaa.P
namespace Go.Proofs.Ytfoponahdidddaa.P.interSelf
open Go.ChangeShapes Go.WideShapes Go.ChangeAt Go.RowKit Go.Proofs.Ytfoponahdidddaa.P Go.Proofs.YtfoponahdidddaaW.PrintWords
open Go.ChangeMaps (open_string shut_string)
theorem own : ownKnob Try.prog.godebug = none := by kernel_rfl
theorem laidOut : laidOutB Try.prog = true := by kernel_rfl
theorem opens0 : Opens Try.prog 41 kOp okOp wtOp := (opens_struct3 (d0 := (Kd.int .i64)) (d1 := (Kd.int .i64)) (d2 := Kd.string) Try.underlying41 (by kernel_rfl) rfl rfl rfl rfl rfl rfl (opens_int Try.underlying3 (by kernel_rfl)) (opens_int Try.underlying3 (by kernel_rfl)) (opens_string Try.underlying9 (by kernel_rfl)) (fun x : Op => (x.f0, x.f1, x.f2)) (fun a b c => ⟨a, b, c⟩) (fun _ _ _ => rfl))
theorem opens1 : Opens Try.prog 41 kOp okOp wtOp := (opens_struct3 (d0 := (Kd.int .i64)) (d1 := (Kd.int .i64)) (d2 := Kd.string) Try.underlying41 (by kernel_rfl) rfl rfl rfl rfl rfl rfl (opens_int Try.underlying3 (by kernel_rfl)) (opens_int Try.underlying3 (by kernel_rfl)) (opens_string Try.underlying9 (by kernel_rfl)) (fun x : Op => (x.f0, x.f1, x.f2)) (fun a b c => ⟨a, b, c⟩) (fun _ _ _ => rfl))
set_option maxRecDepth 100000 in
theorem contract (H : Type) (enc : TypeId × Value → H) (W : World) (base : Nat) (args : Array Value) (ds gs : List (DataW H)) (before : List MemPlace)
  (hval : ∀ (j : Nat) t v, Try.f11.params[j]? = some t → args[j]? = some v → Value.okWide Try.prog W .any base t v)
  (hW : DataW.Whole enc Try.prog Try.f11.params.toList Rows.interSelfSpec.vars false W args.toList ds gs before) (hk : Rows.uptoSmall H (ds ++ gs) = true) :
  Calls Try.prog 11 args W fun e W' => ∃ v, e = .returned v ∧ Rows.interSelfSpec.post enc Try.prog Try.f11 false true false false W args v W' := by
 have hW' := hW
 obtain ⟨p, q, hA0, hV, rfl, hfz, hnd⟩ := hW
 have hA : DataW.TrodAll enc Try.prog W 0 (fun _ => true) true Try.f11.params.toList args.toList ds p := hA0
 rw [Try.params11] at hA hval
 obtain ⟨v0, vs0, d0, ds0, p0, q0, hargs, rfl, rfl, h0, r0⟩ := trodAll_cons hA
 obtain ⟨v1, vs1, d1, ds1, p1, q1, rfl, rfl, rfl, h1, r1⟩ := trodAll_cons r0
 obtain ⟨rfl, rfl, rfl⟩ := trodAll_nil r1
 obtain rfl : args = #[v0, v1] := by cases args; simp_all
 obtain ⟨rfl, rfl⟩ := trodVars_none hV
 have hb := small_all hk
 simp only [List.append_nil, Rows.uptoBulkAll] at hb
 obtain ⟨A0, len0, c0, rfl⟩ := okWide_slice Try.underlying22 (hval 0 22 v0 rfl rfl)
 have k0 := h0
 have lt0 : ∀ x ∈ p0, x.block < W.heap.size := by obtain ⟨m, hm⟩ := k0; exact DataW.trod_lt m _ _ _ hm
 obtain ⟨fuel0, hf0⟩ := h0
 obtain ⟨A0', c0', l0, hcs0, hc0, hr0, ok0, wt0⟩ := open_row Try.underlying22 opens0 hf0
 simp only [Value.cells, List.cons.injEq, Value.slice.injEq, and_true] at hcs0
 obtain ⟨rfl, rfl, rfl⟩ := hcs0
 obtain ⟨A1, len1, c1, rfl⟩ := okWide_slice Try.underlying22 (hval 1 22 v1 rfl rfl)
 have k1 := h1
 have lt1 : ∀ x ∈ p1, x.block < W.heap.size := by obtain ⟨m, hm⟩ := k1; exact DataW.trod_lt m _ _ _ hm
 obtain ⟨fuel1, hf1⟩ := h1
 obtain ⟨A1', c1', l1, hcs1, hc1, hr1, ok1, wt1⟩ := open_row Try.underlying22 opens1 hf1
 simp only [Value.cells, List.cons.injEq, Value.slice.injEq, and_true] at hcs1
 obtain ⟨rfl, rfl, rfl⟩ := hcs1
 clear hA0 hval
 obtain ⟨k, hp⟩ := InterSelf.proved l0 l1 ok0 ok1 (by simp only [] at *; omega)
 refine (patchworklaw14_InterSelf.calls k _ _ l0 _ _ l1 true W hr0 hc0 hr1 hc1 hp).mono fun e W' ⟨he, bel0⟩ => ?_
 have bel : Below W.heap.size W W' := bel0
 subst he
 exact ⟨_, rfl, _, _, _, [], _, [], hW', trodAll_mk1 (shut_bool Try.underlying4 _), (trodAll_cons_mk (Below.trod laidOut (by kernel_rfl) (of_decide_eq_true (by kernel_rfl)) k0 bel lt0) (trodAll_cons_mk (Below.trod laidOut (by kernel_rfl) (of_decide_eq_true (by kernel_rfl)) k1 bel lt1) trodAll_mk0)), rfl, bel.frame _, fun h => by cases h⟩
set_option maxRecDepth 100000 in
theorem lifted (os : Os) (started : os.Started) (H : Type) (enc : TypeId × Value → H) (F : Stop.Interp) :
  ReturnsInHanded {} Try.checked os 11 .any ((Rows.OpenSpec.upto Rows.interSelfSpec).pre6 enc Try.prog Try.f11 Rows.interSelfUptoRow.domain false) (((Rows.OpenSpec.upto Rows.interSelfSpec).at F).post enc Try.prog Try.f11 false true false false) := by
 refine returnsInHanded_of_cond (C := Try.checked) (s := Rows.OpenSpec.upto Rows.interSelfSpec) (k := Rows.uptoSmall) rfl own started (by kernel_rfl) Try.func11
  (OpenSpec.witness (enc := enc) (C := Try.checked) (s := Rows.OpenSpec.upto Rows.interSelfSpec) (k := Rows.uptoSmall) rfl false ⟨#[], #[.slice none 0 0, .slice none 0 0], []⟩ 8 (by kernel_rfl) (by kernel_rfl) (by kernel_rfl)
   (x := ([.nil, .nil], [], [])) (by kernel_rfl) rfl (by kernel_rfl)) ?_
 intro W base args ds gs before hval hW _ hk _
 exact contract H enc W base args ds gs before hval hW hk
theorem over : Rows.interSelfUptoRow.holds Try.pinned (Rows.OpenSpec.upto Rows.interSelfSpec) :=
 OpenClaim.holds_of_cond 11 Try.f11 rfl rfl rfl rfl rfl rfl rfl ⟨rfl, rfl, rfl, rfl, rfl⟩ rfl rfl rfl rfl rfl (by kernel_rfl) Try.func11 (by kernel_rfl)
  (of_decide_eq_true (by kernel_rfl)) (by unfold Func.isWrapper; first | (rw [if_pos (by decide +kernel)]; kernel_rfl) | (rw [if_neg (by decide +kernel)]; exact ⟨rfl, rfl⟩))
  (fun os started H enc _ F => lifted os started H enc F)
theorem proved : Rows.InterSelfUptoSaid := over
end Go.Proofs.Ytfoponahdidddaa.P.interSelf
namespace Go.Proofs.Ytfoponahdidddaa
theorem interSelf_holds : Rows.InterSelfUptoSaid := P.interSelf.proved
#print axioms interSelf_holds
end Go.Proofs.Ytfoponahdidddaa
