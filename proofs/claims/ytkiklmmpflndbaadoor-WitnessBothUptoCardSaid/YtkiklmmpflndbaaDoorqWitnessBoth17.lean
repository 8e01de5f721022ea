/- The law WitnessBoth answers true, for all arguments that hold together at most 1048576 values and letters, and leaves them as they were. -/
import Derived.Test.YtkiklmmpflndbaaDoorqWitnessBoth16
import Derived.Test.YtkiklmmpflndbaaDoorqWitnessBoth14
import Derived.Test.YtkiklmmpflndbaaDoorqWitnessBoth4
import Derived.Test.YtkiklmmpflndbaaDoorqWitnessBoth3
import Derived.Test.YtkiklmmpflndbaaDoorqWitnessBoth9
import Derived.Test.YtkiklmmpflndbaaDoorqWitnessBoth13
import Derived.Test.YtkiklmmpflndbaaDoorqWitnessBoth5
import Derived.Test.YtkiklmmpflndbaaDoorqWitnessBoth11
import Derived.Test.YtkiklmmpflndbaaDoorqWitnessBoth12
import Derived.Test.YtkiklmmpflndbaaDoorqWitnessBoth7
import Derived.Test.YtkiklmmpflndbaaDoorCards
import Derived.Test.YtkiklmmpflndbaaDoorTie
import Derived.Deep.DeepHandedRow
import Derived.Lib.LaidTab
import Derived.LaidSub
import Derived.LaidLaws
import Derived.WalkKit
import Derived.ProofKit
import Derived.OpenShut
import Derived.ShutString
import Derived.ChangeOld
import Derived.Below
import Derived.SizedLaws
import Derived.JoinedCond
set_option linter.unusedVariables false
set_option linter.unusedSimpArgs false
namespace Go.Proofs.YtkiklmmpflndbaaDoor.P
open Go.RowKit Go.Proofs.YtkiklmmpflndbaaDoorW.PrintWords Go.Proofs.YtkiklmmpflndbaaDoorW.PrintLast Go.Proofs.YtkiklmmpflndbaaDoorW.PrintMore
set_option maxHeartbeats 8000000 in
set_option maxRecDepth 100000 in
theorem ref_walk_walk (A0 : Option Addr) (c0 : Nat) (l0 : List (Op)) (A1 : Option Addr) (c1 : Nat) (l1 : List (Op)) (r1 : List (By)) (r2 : Bool) (r3 : Bool) (w : World) (hr0 : Kd.C kOp w A0 l0.length l0) (hc0 : l0.length ≤ c0) (hr1 : Kd.C kOp w A1 l1.length l1) (hc1 : l1.length ≤ c1) (hok : okR l0 l1 = true)
  (h : (match walkO (l0.length + l1.length) l0 l1 false with | none => some ([], false, false) | some os => some (byS os, metS os, true)) = some (r1, r2, r3)) :
  Calls Tryd.prog 32 #[.slice A0 l0.length c0, .slice A1 l1.length c1] w (RefPost w r1 r2 r3) := by
 obtain ⟨ok0, ok1, hlen⟩ := okR_parts hok
 have HW0 := Aside0.mk (show RefW w w (.slice A0 l0.length c0) (.slice A1 l1.length c1) (.slice none 0 0) l0 l1 [] (fun _ => True) from ⟨Below.refl _ _, Kd.V_mono (Kd.V_mk hc0 (Kd.C_F kOp_hp hr0)) (fun k _ => ⟨trivial, by simp [Value.ownBlock]⟩), Kd.V_mono (Kd.V_mk hc1 (Kd.C_F kOp_hp hr1)) (fun k _ => ⟨trivial, by simp [Value.ownBlock]⟩), Kd.R_nil _ _ _ _ _⟩)
 have HOK := Aside0.mk (And.intro ok0 (And.intro ok1 hlen))
 have HH := Aside0.mk h
 clear hr0 hc0 hr1 hc1 hok h ok0 ok1 hlen
 go_enter Tryd.func32, Tryd.ntmps32
 go_wp2
 go_loopg [0, 1, 7, 8, 9] (l0.length + l1.length) (fun gk v0 v1 v7 v8 v9 wx => ∃ (ps qs : List Op) (e : Bool) (os : List Step), v8 = .bool (metS os) ∧ v9 = .bool e ∧ Aside0 (RefW w wx v0 v1 v7 ps qs (byS os) (fun _ => True)) ∧ Aside0 ((walkO gk ps qs e).map (os ++ ·) = walkO (l0.length + l1.length) l0 l1 false) ∧ Aside0 (ps.length + qs.length ≤ gk ∧ os.length + gk ≤ 1099511627776 ∧ (∀ o ∈ ps, okR1 o = true) ∧ ∀ o ∈ qs, okR1 o = true))
 case atStart => exact ⟨l0, l1, false, [], rfl, rfl, HW0, ⟨by simp⟩, ⟨Nat.le_refl _, by have := HOK.out.2.2; simpa using this, HOK.out.1, HOK.out.2.1⟩⟩
 case round =>
  clear HW0 HOK
  obtain ⟨ps, qs, e, os, rfl, rfl, HW, HM, HB⟩ := hrel
  by_cases hz : ps.length + qs.length = 0
  ·obtain rfl : ps = [] := List.length_eq_zero_iff.mp (by omega)
   obtain rfl : qs = [] := List.length_eq_zero_iff.mp (by omega)
   obtain ⟨Ap, cp, Aq, cq, Ao, co, e0, e1, e7⟩ := HW.out.len0
   subst e0
   subst e1
   subst e7
   clear hz HB
   have hM : walkO (l0.length + l1.length) l0 l1 false = some os := by
    rw [← HM.out]
    cases gk <;> simp [walkO]
   have hh := HH.out
   rw [hM] at hh
   have HH2 := Aside0.mk hh
   clear HM HH hM hh
   go_wp2
   go_ret3
   obtain ⟨e1, e2⟩ := Prod.mk.inj (Option.some.inj HH2.out)
   obtain ⟨e2, e3⟩ := Prod.mk.inj e2
   subst e1 e2 e3
   exact ⟨_, rfl, HW.out.2.2.2, HW.out.1⟩
  ·obtain ⟨n, rfl⟩ : ∃ n, gk = n + 1 := ⟨gk - 1, by have := HB.out.1; omega⟩
   have HL := Aside0.mk (show (byS os).length < 2199023255552 by have := byS_len os; have := HB.out.2.1; omega)
   have HP := Aside0.mk (show (∀ o ∈ ps, okR1 o = true) ∧ (∀ o ∈ qs, okR1 o = true) ∧ ps.length + qs.length ≤ 1099511627776 from ⟨HB.out.2.2.1, HB.out.2.2.2, by have h1 := HB.out.1; have h2 := HB.out.2.1; omega⟩)
   have HZ := Aside0.mk hz
   clear hz
   by_cases hd : hdK 3 ps = true
   ·cases ps with
    | nil => exact absurd hd (by simp [hdK])
    | cons o r =>
     have hk : o.f0 = 3 := by simpa [hdK] using hd
     have hwalk : walkO (n + 1) (o :: r) qs e = (walkO n r qs e).map (⟨o, 1, false⟩ :: ·) := by
      rw [walkO, if_neg HZ.out, if_pos hd]; rfl
     have HWK := Aside0.mk hwalk
     clear hd hwalk
     refine refDel w wr _ o r qs os HW HL hk ⟨?_⟩
     intros
     rename_i hW
     have HW2 := Aside0.mk hW
     clear hW hk HW
     go_wp2
     go_roundg n
     case measure => omega
     case rel =>
      refine ⟨r, qs, e, os ++ [⟨o, 1, false⟩], by simp [metS_app, metS], rfl, HW2, ⟨?_⟩, ⟨?_⟩⟩
      ·rw [← HM.out, HWK.out, Option.map_map]
       congr 1
       funext x
       simp
      ·have hb := HB.out
       refine ⟨by have := hb.1; simp only [List.length_cons] at this; omega, by have := hb.2.1; simp only [List.length_append, List.length_singleton]; omega, fun x hx => hb.2.2.1 x (List.mem_cons_of_mem _ hx), hb.2.2.2⟩
   ·by_cases hi : hdK 4 qs = true
    ·cases qs with
     | nil => exact absurd hi (by simp [hdK])
     | cons o r =>
      have hk : o.f0 = 4 := by simpa [hdK] using hi
      have hwalk : walkO (n + 1) ps (o :: r) e = (walkO n ps r e).map (⟨o, 2, false⟩ :: ·) := by
       rw [walkO, if_neg HZ.out, if_neg hd, if_pos hi]; rfl
      have HWK := Aside0.mk hwalk
      clear hi hwalk
      refine refIns w wr _ o r ps os HW HL hk (by simpa using hd) ⟨?_⟩
      intros
      rename_i hW
      have HW2 := Aside0.mk hW
      clear hW hk HW hd
      go_wp2
      go_roundg n
      case measure => omega
      case rel =>
       refine ⟨ps, r, e, os ++ [⟨o, 2, false⟩], by simp [metS_app, metS], rfl, HW2, ⟨?_⟩, ⟨?_⟩⟩
       ·rw [← HM.out, HWK.out, Option.map_map]
        congr 1
        funext x
        simp
       ·have hb := HB.out
        refine ⟨by have := hb.1; simp only [List.length_cons] at this; omega, by have := hb.2.1; simp only [List.length_append, List.length_singleton]; omega, hb.2.2.1, fun x hx => hb.2.2.2 x (List.mem_cons_of_mem _ hx)⟩
    ·obtain ⟨hl1, hl2⟩ := far_line HB.out.2.2.1 HB.out.2.2.2 HZ.out
     have hwalk : walkO (n + 1) ps qs e = if noneL (farL ps) (farL qs) e = true then none else (walkO n (dropL ps (lineL (farL ps) (farL qs)).2.1) (dropL qs (lineL (farL ps) (farL qs)).2.1) (opnB (lineL (farL ps) (farL qs)).1)).map ((lineL (farL ps) (farL qs)).2.2 :: ·) := by
      rw [walkO, if_neg HZ.out, if_neg hd, if_neg hi, hl1, hl2]
     have kx : (farL ps).f0 = 1 ∨ (farL ps).f0 = 2 ∨ (farL ps).f0 = 4 := by
      cases ps with
      | nil => exact .inl rfl
      | cons o r =>
       rcases okR_kind (HB.out.2.2.1 o (List.mem_cons_self ..)) with h | h | h | h
       ·exact .inl h
       ·exact .inr (.inl h)
       ·exact absurd (by simpa [hdK] using h) hd
       ·exact .inr (.inr h)
     have ky : (farL qs).f0 = 1 ∨ (farL qs).f0 = 2 ∨ (farL qs).f0 = 3 := by
      cases qs with
      | nil => exact .inl rfl
      | cons o r =>
       rcases okR_kind (HB.out.2.2.2 o (List.mem_cons_self ..)) with h | h | h | h
       ·exact .inl h
       ·exact .inr (.inl h)
       ·exact .inr (.inr h)
       ·exact absurd (by simpa [hdK] using h) hi
     have HWK := Aside0.mk hwalk
     have HX := Aside0.mk (And.intro kx ky)
     have HDR := Aside0.mk (fun (st : Step) (hno : noneL (farL ps) (farL qs) e = false) => okR_drop (st := st) HB.out HZ.out (by rw [← hl2]; exact hno))
     have HL1 := Aside0.mk hl1
     clear hwalk kx ky hl1 hl2 hd hi
     refine refA w wr _ ps qs os e (farL ps) (farL qs) HW HL HP ⟨rfl, rfl⟩ HZ HX ⟨?_⟩ ⟨?_⟩
     ·intro hno v0' v1' v7' b' e'
      intros
      rename_i hW hb he
      subst hb he
      have HW2 := Aside0.mk hW
      have HNO := Aside0.mk hno
      clear hW hno HW
      go_wp2
      go_roundg n
      case measure => omega
      case rel =>
       refine ⟨_, _, _, os ++ [(lineL (farL ps) (farL qs)).2.2], rfl, rfl, HW2, ⟨?_⟩, ⟨?_⟩⟩
       ·rw [← HM.out, HWK.out, if_neg (by rw [HNO.out]; simp), Option.map_map]
        congr 1
        funext x
        simp
       ·have := HDR.out (lineL (farL ps) (farL qs)).2.2 HNO.out
        rw [← HL1.out] at this
        exact this
     ·intro hno
      intros
      rename_i hb
      have HB2 := Aside0.mk hb
      have HNO := Aside0.mk hno
      clear hb hno HW
      go_wp2
      go_ret3
      have e1 := HM.out
      rw [HWK.out, if_pos HNO.out] at e1
      have e2 := HH.out
      rw [← e1] at e2
      obtain ⟨e3, e4⟩ := Prod.mk.inj (Option.some.inj e2)
      obtain ⟨e4, e5⟩ := Prod.mk.inj e4
      subst e3 e4 e5
      exact ⟨_, rfl, Kd.R_nil _ _ _ _ _, HB2.out⟩
end Go.Proofs.YtkiklmmpflndbaaDoor.P
namespace Go.Proofs.YtkiklmmpflndbaaDoor.P
open Go.RowKit Go.Proofs.YtkiklmmpflndbaaDoorW.PrintWords Go.Proofs.YtkiklmmpflndbaaDoorW.PrintLast Go.Proofs.YtkiklmmpflndbaaDoorW.PrintMore
open Go.Proofs.YtkiklmmpflndbaaDoorW.PrintWords.Aside0 renaming mk → aM
open Option renaming bind_eq_some_iff → bS
attribute [local go_sem] max2_int min2_int max_two min_two max_three min_three max_four min_four
theorem patchworkref8_walk.calls (A0 : Option Addr) (c0 : Nat) (l0 : List (Op)) (A1 : Option Addr) (c1 : Nat) (l1 : List (Op)) (r1 : List (By)) (r2 : Bool) (r3 : Bool) (w : World) (hr0 : Kd.C kOp w A0 l0.length l0) (hc0 : l0.length ≤ c0) (hr1 : Kd.C kOp w A1 l1.length l1) (hc1 : l1.length ≤ c1) (h : patchworkref8_walk.f l0 l1 = some (r1, r2, r3)) :
  Calls Tryd.prog 32 #[.slice A0 l0.length c0, .slice A1 l1.length c1] w fun e w' => ∃ v0_ : Value, e = .returned (.tuple #[v0_, .bool r2, .bool r3]) ∧ Kd.R kBy 61 w' w.heap.size (fun _ => True) v0_ r1 ∧ Below w.heap.size w w' := by
 unfold patchworkref8_walk.f at h
 split at h
 ·rename_i hok
  exact ref_walk_walk A0 c0 l0 A1 c1 l1 r1 r2 r3 w hr0 hc0 hr1 hc1 hok h
 ·exact absurd h (by simp)
set_option maxHeartbeats 8000000 in
set_option maxRecDepth 100000 in
theorem patchworkref8_Then.calls (k : Nat) (A0 : Option Addr) (c0 : Nat) (l0 : List (Op)) (A1 : Option Addr) (c1 : Nat) (l1 : List (Op)) (r1 : List (Op)) (r2 : Bool) (w : World) (hr0 : Kd.C kOp w A0 l0.length l0) (hc0 : l0.length ≤ c0) (hr1 : Kd.C kOp w A1 l1.length l1) (hc1 : l1.length ≤ c1) (h : patchworkref8_Then.f k l0 l1 = some (r1, r2)) :
  Calls Tryd.prog 23 #[.slice A0 l0.length c0, .slice A1 l1.length c1] w fun e w' => ∃ v0_ : Value, e = .returned (.tuple #[v0_, .bool r2]) ∧ Kd.R kOp 32 w' w.heap.size (fun _ => True) v0_ r1 ∧ Below w.heap.size w w' := by
 have HR0 := aM hr0
 have HC0 := aM hc0
 clear hr0 hc0
 have HR1 := aM hr1
 have HC1 := aM hc1
 clear hr1 hc1
 have HB := aM (Below.refl w.heap.size w)
 have H : ((patchworkref8_Right.f k l0).bind fun t412 => (if t412 = true then ((patchworkref8_Right.f k l1).bind fun t413 => (patchworkref8_Then.j0 k l0 l1 (!t413))) else (patchworkref8_Then.j0 k l0 l1 true))) = some (r1, r2) := h
 clear h
 have HC3 := aM H
 clear H
 go_enter Tryd.func23, Tryd.ntmps23
 go_upto_region 1 with (fail)
 go_cut [17] (fun v17 wc => ∃ (kq : Nat) (x17_2 : Bool), v17 = .bool x17_2 ∧ Aside0 (patchworkref8_Then.j0 kq l0 l1 x17_2 = some (r1, r2)) ∧ Aside0 (kq ≤ k) ∧ Aside0 (Below w.heap.size w wc))
 case first =>
  have H := HC3.out; clear HC3; replace H := bS.mp H; obtain ⟨t412, A40, H⟩ := H; replace H : (if t412 = true then ((patchworkref8_Right.f k l1).bind fun t413 => (patchworkref8_Then.j0 k l0 l1 (!t413))) else (patchworkref8_Then.j0 k l0 l1 true)) = some (r1, r2) := H; have A4 := aM A40; clear A40
  by_cases c5 : t412 = true
  ·subst c5
   replace H := iT H; replace H := bS.mp H; obtain ⟨t413, A60, H⟩ := H; replace H : (patchworkref8_Then.j0 k l0 l1 (!t413)) = some (r1, r2) := H; have A6 := aM A60; clear A60; have H' := aM H; clear H
   go_wp2_with (first | ((with_reducible refine gate_callee (f := 10) rfl ?_); refine goesL_ (some 11) rfl rfl Tryd.func10 yK rfl #[.slice A0 l0.length c0] rfl yG ?_; (with_reducible refine (patchworkref8_Right.calls k _ _ l0 true _ (yC (Kd.C_below HR0.out HB.out)) HC0.out A4.out).mono ?_); rintro e w7 ⟨rfl, hb⟩; refine ⟨_, rfl, ?_⟩; replace HB := aM (below_step yB hb); clear hb) | (go_at_call 10; (with_reducible refine (patchworkref8_Right.calls k _ _ l1 t413 _ (yC (Kd.C_below HR1.out HB.out)) HC1.out A6.out).mono ?_); rintro e w8 ⟨rfl, hb⟩; replace HB := aM (below_step yB hb); clear hb))
   go_meet
   case rel => exact ⟨_, (!t413), yE, H', ⟨by first | omega | exact Nat.le_refl _⟩, ⟨yB⟩⟩
  ·replace c5 := Bool.eq_false_iff.mpr c5
   subst c5; have H' := aM (iF H); clear H
   go_wp2_with (first | ((with_reducible refine gate_callee (f := 10) rfl ?_); refine goesL_ (some 11) rfl rfl Tryd.func10 yK rfl #[.slice A0 l0.length c0] rfl yG ?_; (with_reducible refine (patchworkref8_Right.calls k _ _ l0 false _ (yC (Kd.C_below HR0.out HB.out)) HC0.out A4.out).mono ?_); rintro e w9 ⟨rfl, hb⟩; refine ⟨_, rfl, ?_⟩; replace HB := aM (below_step yB hb); clear hb))
   go_meet
   case rel => exact ⟨_, (true), yE, H', ⟨by first | omega | exact Nat.le_refl _⟩, ⟨yB⟩⟩
 case rest =>
  clear HC3; (try clear c1); (try clear c2); (try clear p2); (try clear c5); obtain ⟨kq, x17_2, rfl, HA, HJ2, HB⟩ := hcut; cases kq with
  | zero => exact absurd HA.out (by simp [patchworkref8_Then.j0])
  | succ kj2 =>
   have H := HA.out; clear HA; simp only [patchworkref8_Then.j0] at H
   by_cases c10 : x17_2 = true
   ·subst c10
    replace H := iT H; simp only [Option.some.injEq, Prod.mk.injEq] at H; obtain ⟨rfl, rfl⟩ := H
    go_wp2
    go_ret2
    exact ⟨_, by first | rfl | (simp [errW_none, errW_some] <;> rfl) | (simp [*, errW_none, errW_some] <;> rfl), by first | exact Kd.R_nil _ _ _ _ _ | exact Kd.N_nil _ _ _ _ _ | exact Kd.V_nil _ _ _ _ _ | exact Kd.Q_nil _ _ _ _ _ | exact Kd.S_nil _ _ _ _ _, yB⟩
   ·replace c10 := Bool.eq_false_iff.mpr c10
    subst c10; replace H := iF H; replace H := bS.mp H; obtain ⟨⟨t414, t415, t416⟩, A110, H⟩ := H; replace H : ((patchworkref8_ops.f kj2 t414).bind fun t419 => ((patchworkref8_norm.f kj2 t419).bind fun t422 => (if t416 = true then ((patchworkref8_Right.f kj2 t422).bind fun t425 => (if t425 = true then (some (t422, true)) else (some (([] : List (Op)), false)))) else (some (([] : List (Op)), false))))) = some (r1, r2) := H; have A11 := aM A110; clear A110; replace H := bS.mp H; obtain ⟨t419, A120, H⟩ := H; replace H : ((patchworkref8_norm.f kj2 t419).bind fun t422 => (if t416 = true then ((patchworkref8_Right.f kj2 t422).bind fun t425 => (if t425 = true then (some (t422, true)) else (some (([] : List (Op)), false)))) else (some (([] : List (Op)), false)))) = some (r1, r2) := H; have A12 := aM A120; clear A120; replace H := bS.mp H; obtain ⟨t422, A130, H⟩ := H; replace H : (if t416 = true then ((patchworkref8_Right.f kj2 t422).bind fun t425 => (if t425 = true then (some (t422, true)) else (some (([] : List (Op)), false)))) else (some (([] : List (Op)), false))) = some (r1, r2) := H; have A13 := aM A130; clear A130
    by_cases c14 : t416 = true
    ·subst c14
     replace H := iT H; replace H := bS.mp H; obtain ⟨t425, A150, H⟩ := H; replace H : (if t425 = true then (some (t422, true)) else (some (([] : List (Op)), false))) = some (r1, r2) := H; have A15 := aM A150; clear A150
     by_cases c16 : t425 = true
     ·subst c16
      replace H := iT H; simp only [Option.some.injEq, Prod.mk.injEq] at H; obtain ⟨rfl, rfl⟩ := H
      go_wp2_with (first | ((with_reducible refine gate_callee (f := 32) rfl ?_); refine goesL_ (some 21) rfl rfl Tryd.func32 yK rfl #[.slice A0 l0.length c0, .slice A1 l1.length c1] rfl yG ?_; (with_reducible refine (patchworkref8_walk.calls _ _ l0 _ _ l1 t414 t415 true _ (yC (Kd.C_below HR0.out HB.out)) HC0.out (yC (Kd.C_below HR1.out HB.out)) HC1.out A11.out).mono ?_); rintro e w17 ⟨v417, rfl, ho0, hb⟩; refine ⟨_, rfl, ?_⟩; have HO418 := aM (Kd.R_lower ho0 yW); replace HB := aM (below_step yB hb); clear hb ho0; obtain ⟨Ao18, co18, eo18⟩ := Kd.R_slice HO418.out; subst eo18) | ((with_reducible refine gate_callee (f := 34) rfl ?_); refine goesL_ (some 26) rfl rfl Tryd.func34 yK rfl #[.slice Ao18 t414.length co18] rfl yG ?_; (with_reducible refine (patchworkref8_ops.calls kj2 _ _ t414 t419 _ (yC (Kd.R_reads' HO418.out).2.2) ((Kd.R_reads' HO418.out).2.1) A12.out).mono ?_); rintro e w19 ⟨v420, rfl, ho0, hb⟩; refine ⟨_, rfl, ?_⟩; replace HO418 := aM (Kd.R_below (yH HO418.out) hb); have HO421 := aM (Kd.R_lower ho0 yW); replace HB := aM (below_step yB hb); clear hb ho0; obtain ⟨Ao20, co20, eo20⟩ := Kd.R_slice HO421.out; subst eo20) | ((with_reducible refine gate_callee (f := 33) rfl ?_); refine goesL_ (some 27) rfl rfl Tryd.func33 yK rfl #[.slice Ao20 t419.length co20] rfl yG ?_; (with_reducible refine (patchworkref8_norm.calls kj2 _ _ t419 t422 _ (yC (Kd.R_reads' HO421.out).2.2) ((Kd.R_reads' HO421.out).2.1) A13.out).mono ?_); rintro e w21 ⟨v423, rfl, ho0, hb⟩; refine ⟨_, rfl, ?_⟩; replace HO418 := aM (Kd.R_below (yH HO418.out) hb); have HO424 := aM (Kd.R_lower (Kd.R_new' ho0 (Kd.R_lt (yH HO421.out))) yW); replace HO421 := aM (Kd.R_elder' (yH HO421.out) (Kd.R_base ho0) hb); replace HB := aM (below_step yB hb); clear hb ho0; obtain ⟨Ao22, co22, eo22⟩ := Kd.R_slice HO424.out; subst eo22) | (go_at_call 10; (with_reducible refine (patchworkref8_Right.calls kj2 _ _ t422 true _ (yC (Kd.R_reads' HO424.out).2.2) ((Kd.R_reads' HO424.out).2.1) A15.out).mono ?_); rintro e w23 ⟨rfl, hb⟩; replace HO418 := aM (Kd.R_below (yH HO418.out) hb); replace HO421 := aM (Kd.R_below (yH HO421.out) hb); replace HO424 := aM (Kd.R_below (yH HO424.out) hb); replace HB := aM (below_step yB hb); clear hb))
      go_ret2
      exact ⟨_, by first | rfl | (simp [errW_none, errW_some] <;> rfl) | (simp [*, errW_none, errW_some] <;> rfl), by (with_reducible repeat (first | apply Kd.R_alloc | apply Kd.R_drewN | apply Kd.R_drew)); exact Kd.R_mono HO424.out (fun _ hk => trivial), yB⟩
     ·replace c16 := Bool.eq_false_iff.mpr c16
      subst c16; replace H := iF H; simp only [Option.some.injEq, Prod.mk.injEq] at H; obtain ⟨rfl, rfl⟩ := H
      go_wp2_with (first | ((with_reducible refine gate_callee (f := 32) rfl ?_); refine goesL_ (some 21) rfl rfl Tryd.func32 yK rfl #[.slice A0 l0.length c0, .slice A1 l1.length c1] rfl yG ?_; (with_reducible refine (patchworkref8_walk.calls _ _ l0 _ _ l1 t414 t415 true _ (yC (Kd.C_below HR0.out HB.out)) HC0.out (yC (Kd.C_below HR1.out HB.out)) HC1.out A11.out).mono ?_); rintro e w24 ⟨v417, rfl, ho0, hb⟩; refine ⟨_, rfl, ?_⟩; have HO418 := aM (Kd.R_lower ho0 yW); replace HB := aM (below_step yB hb); clear hb ho0; obtain ⟨Ao25, co25, eo25⟩ := Kd.R_slice HO418.out; subst eo25) | ((with_reducible refine gate_callee (f := 34) rfl ?_); refine goesL_ (some 26) rfl rfl Tryd.func34 yK rfl #[.slice Ao25 t414.length co25] rfl yG ?_; (with_reducible refine (patchworkref8_ops.calls kj2 _ _ t414 t419 _ (yC (Kd.R_reads' HO418.out).2.2) ((Kd.R_reads' HO418.out).2.1) A12.out).mono ?_); rintro e w26 ⟨v420, rfl, ho0, hb⟩; refine ⟨_, rfl, ?_⟩; replace HO418 := aM (Kd.R_below (yH HO418.out) hb); have HO421 := aM (Kd.R_lower ho0 yW); replace HB := aM (below_step yB hb); clear hb ho0; obtain ⟨Ao27, co27, eo27⟩ := Kd.R_slice HO421.out; subst eo27) | ((with_reducible refine gate_callee (f := 33) rfl ?_); refine goesL_ (some 27) rfl rfl Tryd.func33 yK rfl #[.slice Ao27 t419.length co27] rfl yG ?_; (with_reducible refine (patchworkref8_norm.calls kj2 _ _ t419 t422 _ (yC (Kd.R_reads' HO421.out).2.2) ((Kd.R_reads' HO421.out).2.1) A13.out).mono ?_); rintro e w28 ⟨v423, rfl, ho0, hb⟩; refine ⟨_, rfl, ?_⟩; replace HO418 := aM (Kd.R_below (yH HO418.out) hb); have HO424 := aM (Kd.R_lower (Kd.R_new' ho0 (Kd.R_lt (yH HO421.out))) yW); replace HO421 := aM (Kd.R_elder' (yH HO421.out) (Kd.R_base ho0) hb); replace HB := aM (below_step yB hb); clear hb ho0; obtain ⟨Ao29, co29, eo29⟩ := Kd.R_slice HO424.out; subst eo29) | (go_at_call 10; (with_reducible refine (patchworkref8_Right.calls kj2 _ _ t422 false _ (yC (Kd.R_reads' HO424.out).2.2) ((Kd.R_reads' HO424.out).2.1) A15.out).mono ?_); rintro e w30 ⟨rfl, hb⟩; replace HO418 := aM (Kd.R_below (yH HO418.out) hb); replace HO421 := aM (Kd.R_below (yH HO421.out) hb); replace HO424 := aM (Kd.R_below (yH HO424.out) hb); replace HB := aM (below_step yB hb); clear hb))
      go_ret2
      exact ⟨_, by first | rfl | (simp [errW_none, errW_some] <;> rfl) | (simp [*, errW_none, errW_some] <;> rfl), by first | exact Kd.R_nil _ _ _ _ _ | exact Kd.N_nil _ _ _ _ _ | exact Kd.V_nil _ _ _ _ _ | exact Kd.Q_nil _ _ _ _ _ | exact Kd.S_nil _ _ _ _ _, yB⟩
    ·replace c14 := Bool.eq_false_iff.mpr c14
     subst c14; replace H := iF H; simp only [Option.some.injEq, Prod.mk.injEq] at H; obtain ⟨rfl, rfl⟩ := H
     go_wp2_with (first | ((with_reducible refine gate_callee (f := 32) rfl ?_); refine goesL_ (some 21) rfl rfl Tryd.func32 yK rfl #[.slice A0 l0.length c0, .slice A1 l1.length c1] rfl yG ?_; (with_reducible refine (patchworkref8_walk.calls _ _ l0 _ _ l1 t414 t415 false _ (yC (Kd.C_below HR0.out HB.out)) HC0.out (yC (Kd.C_below HR1.out HB.out)) HC1.out A11.out).mono ?_); rintro e w31 ⟨v417, rfl, ho0, hb⟩; refine ⟨_, rfl, ?_⟩; have HO418 := aM (Kd.R_lower ho0 yW); replace HB := aM (below_step yB hb); clear hb ho0; obtain ⟨Ao32, co32, eo32⟩ := Kd.R_slice HO418.out; subst eo32) | ((with_reducible refine gate_callee (f := 34) rfl ?_); refine goesL_ (some 26) rfl rfl Tryd.func34 yK rfl #[.slice Ao32 t414.length co32] rfl yG ?_; (with_reducible refine (patchworkref8_ops.calls kj2 _ _ t414 t419 _ (yC (Kd.R_reads' HO418.out).2.2) ((Kd.R_reads' HO418.out).2.1) A12.out).mono ?_); rintro e w33 ⟨v420, rfl, ho0, hb⟩; refine ⟨_, rfl, ?_⟩; replace HO418 := aM (Kd.R_below (yH HO418.out) hb); have HO421 := aM (Kd.R_lower ho0 yW); replace HB := aM (below_step yB hb); clear hb ho0; obtain ⟨Ao34, co34, eo34⟩ := Kd.R_slice HO421.out; subst eo34) | ((with_reducible refine gate_callee (f := 33) rfl ?_); refine goesL_ (some 27) rfl rfl Tryd.func33 yK rfl #[.slice Ao34 t419.length co34] rfl yG ?_; (with_reducible refine (patchworkref8_norm.calls kj2 _ _ t419 t422 _ (yC (Kd.R_reads' HO421.out).2.2) ((Kd.R_reads' HO421.out).2.1) A13.out).mono ?_); rintro e w35 ⟨v423, rfl, ho0, hb⟩; refine ⟨_, rfl, ?_⟩; replace HO418 := aM (Kd.R_below (yH HO418.out) hb); have HO424 := aM (Kd.R_lower (Kd.R_new' ho0 (Kd.R_lt (yH HO421.out))) yW); replace HO421 := aM (Kd.R_elder' (yH HO421.out) (Kd.R_base ho0) hb); replace HB := aM (below_step yB hb); clear hb ho0))
     go_ret2
     exact ⟨_, by first | rfl | (simp [errW_none, errW_some] <;> rfl) | (simp [*, errW_none, errW_some] <;> rfl), by first | exact Kd.R_nil _ _ _ _ _ | exact Kd.N_nil _ _ _ _ _ | exact Kd.V_nil _ _ _ _ _ | exact Kd.Q_nil _ _ _ _ _ | exact Kd.S_nil _ _ _ _ _, yB⟩
end Go.Proofs.YtkiklmmpflndbaaDoor.P
namespace Go.Proofs.YtkiklmmpflndbaaDoor.P
open Go.RowKit Go.Proofs.YtkiklmmpflndbaaDoorW.PrintWords Go.Proofs.YtkiklmmpflndbaaDoorW.PrintLast Go.Proofs.YtkiklmmpflndbaaDoorW.PrintMore
open Go.Proofs.YtkiklmmpflndbaaDoorW.PrintWords.Aside0 renaming mk → aM
open Option renaming bind_eq_some_iff → bS
attribute [local go_sem] max2_int min2_int max_two min_two max_three min_three max_four min_four
set_option maxHeartbeats 8000000 in
set_option maxRecDepth 100000 in
theorem patchworklaw18_WitnessBoth.calls (k : Nat) (A0 : Option Addr) (c0 : Nat) (l0 : List (Op)) (A1 : Option Addr) (c1 : Nat) (l1 : List (Op)) (r : Bool) (w : World) (htab : TabOk w) (hr0 : Kd.C kOp w A0 l0.length l0) (hc0 : l0.length ≤ c0) (hr1 : Kd.C kOp w A1 l1.length l1) (hc1 : l1.length ≤ c1) (h : patchworklaw18_WitnessBoth.f k l0 l1 = some r) :
  Calls Tryd.prog 7 #[.slice A0 l0.length c0, .slice A1 l1.length c1] w fun e w' => e = .returned (.bool r) ∧ Below w.heap.size w w' := by
 have HR0 := aM hr0
 have HC0 := aM hc0
 clear hr0 hc0
 have HR1 := aM hr1
 have HC1 := aM hc1
 clear hr1 hc1
 have HB := aM (Below.refl w.heap.size w)
 have HTAB := aM htab
 clear htab
 have H : ((patchworklaw18_alive.f k).bind fun t470 => (if t470 = true then ((patchworklaw8_Few.f k l0).bind fun t471 => (if t471 = true then ((patchworklaw8_Few.f k l1).bind fun t472 => (patchworklaw18_WitnessBoth.j0 k l0 l1 t470 (!t472))) else (patchworklaw18_WitnessBoth.j0 k l0 l1 t470 true))) else (patchworklaw18_WitnessBoth.j0 k l0 l1 t470 true))) = some r := h
 clear h
 replace H := oB H; obtain ⟨t470, A3, H⟩ := H
 have HC4 := aM H
 clear H
 go_enter Tryd.func7, Tryd.ntmps7
 go_upto_region 2 with (first | ((with_reducible refine gate_callee (f := 8) rfl ?_); refine goesL_ (some 16) rfl rfl Tryd.func8 yK rfl #[] rfl yG ?_; (with_reducible refine (patchworklaw18_alive.calls k  t470 _ (tabY HTAB.out) A3.out).mono ?_); rintro e w5 ⟨rfl, hb⟩; refine ⟨_, rfl, ?_⟩; replace HB := aM (below_step yB hb); clear hb))
 (try simp only [Act.put, List.setIfInBounds_toArray, List.set_cons_zero, List.set_cons_succ])
 go_cut [28] (fun v28 wc => ∃ (kq : Nat) (x28_3 : Bool), v28 = .bool x28_3 ∧ Aside0 (patchworklaw18_WitnessBoth.j0 kq l0 l1 t470 x28_3 = some r) ∧ Aside0 (kq ≤ k) ∧ Aside0 (Below w.heap.size w wc))
 case first =>
  have H := HC4.out; clear HC4
  by_cases c6 : t470 = true
  ·subst c6
   replace H := iT H; replace H := oB H; obtain ⟨t471, A7, H⟩ := H
   by_cases c8 : t471 = true
   ·subst c8
    replace H := iT H; replace H := oB H; obtain ⟨t472, A9, H⟩ := H; have H' := aM H; clear H
    go_wp2_with (first | (go_at_call 9; (with_reducible refine (patchworklaw8_Few.calls k _ _ l0 true _ (yC (Kd.C_below HR0.out HB.out)) HC0.out A7.out).mono ?_); rintro e w' ⟨rfl, ⟨nd, rfl⟩⟩) | (go_at_call 9; (with_reducible refine (patchworklaw8_Few.calls k _ _ l1 t472 _ (yC (Kd.C_below HR1.out yB)) HC1.out A9.out).mono ?_); rintro e w' ⟨rfl, ⟨nd, rfl⟩⟩))
    go_meet
    case rel => exact ⟨_, (!t472), yE, H', ⟨by first | omega | exact Nat.le_refl _⟩, ⟨yB⟩⟩
   ·replace c8 := Bool.eq_false_iff.mpr c8
    subst c8; have H' := aM (iF H); clear H
    go_wp2_with (first | (go_at_call 9; (with_reducible refine (patchworklaw8_Few.calls k _ _ l0 false _ (yC (Kd.C_below HR0.out HB.out)) HC0.out A7.out).mono ?_); rintro e w' ⟨rfl, ⟨nd, rfl⟩⟩))
    go_meet
    case rel => exact ⟨_, (true), yE, H', ⟨by first | omega | exact Nat.le_refl _⟩, ⟨yB⟩⟩
  ·replace c6 := Bool.eq_false_iff.mpr c6
   subst c6; have H' := aM (iF H); clear H
   go_wp2
   go_meet
   case rel => exact ⟨_, (true), yE, H', ⟨by first | omega | exact Nat.le_refl _⟩, ⟨yB⟩⟩
 case rest =>
  clear HC4; (try clear c1); (try clear p2); (try clear c6); (try clear c7); (try clear c8); obtain ⟨kq, x28_3, rfl, HA, HJ3, HB⟩ := hcut; cases kq with
  | zero => exact absurd HA.out (by simp [patchworklaw18_WitnessBoth.j0])
  | succ kj3 =>
   have H := HA.out; clear HA; simp only [patchworklaw18_WitnessBoth.j0] at H
   by_cases c10 : x28_3 = true
   ·subst c10
    replace H := iT H; obtain rfl := Option.some.inj H
    go_wp2
    go_ret
    exact ⟨yE2, yB⟩
   ·replace c10 := Bool.eq_false_iff.mpr c10
    subst c10; replace H := iF H; replace H := bS.mp H; obtain ⟨⟨t473, t474⟩, A110, H⟩ := H; replace H : ((patchworkref8_Then.f kj3 l0 l1).bind fun bt477 => (if t474 = true then ((patchworkref8_Olds.f kj3 bt477.1).bind fun t481 => (patchworklaw18_WitnessBoth.j1 kj3 l0 l1 t473 bt477.1 (decide (t481 > 5000)))) else (patchworklaw18_WitnessBoth.j1 kj3 l0 l1 t473 bt477.1 true))) = some r := H; have A11 := aM A110; clear A110; replace H := bS.mp H; obtain ⟨⟨t477, t478⟩, A120, H⟩ := H; replace H : (if t474 = true then ((patchworkref8_Olds.f kj3 t477).bind fun t481 => (patchworklaw18_WitnessBoth.j1 kj3 l0 l1 t473 t477 (decide (t481 > 5000)))) else (patchworklaw18_WitnessBoth.j1 kj3 l0 l1 t473 t477 true)) = some r := H; have A12 := aM A120; clear A120; have HC13 := aM H; clear H
    go_upto_region 6 with (first | ((with_reducible refine gate_callee (f := 18) rfl ?_); refine goesL_ (some 33) rfl rfl Tryd.func18 yK rfl #[.slice A0 l0.length c0, .slice A1 l1.length c1] rfl yG ?_; (with_reducible refine (witness_Both.calls kj3 _ _ l0 _ _ l1 t473 t474 _ (tabY HTAB.out) (yC (Kd.C_below HR0.out HB.out)) HC0.out (yC (Kd.C_below HR1.out HB.out)) HC1.out A11.out).mono ?_); rintro e w14 ⟨v475, rfl, ho0, hb⟩; refine ⟨_, rfl, ?_⟩; have HO476 := aM (Kd.R_lower ho0 yW); replace HB := aM (below_step yB hb); clear hb ho0) | ((with_reducible refine gate_callee (f := 23) rfl ?_); refine goesL_ (some 39) rfl rfl Tryd.func23 yK rfl #[.slice A0 l0.length c0, .slice A1 l1.length c1] rfl yG ?_; (with_reducible refine (patchworkref8_Then.calls kj3 _ _ l0 _ _ l1 t477 t478 _ (yC (Kd.C_below HR0.out HB.out)) HC0.out (yC (Kd.C_below HR1.out HB.out)) HC1.out A12.out).mono ?_); rintro e w15 ⟨v479, rfl, ho0, hb⟩; refine ⟨_, rfl, ?_⟩; replace HO476 := aM (Kd.R_below (yH HO476.out) hb); have HO480 := aM (Kd.R_lower ho0 yW); replace HB := aM (below_step yB hb); clear hb ho0))
    (try simp only [Act.put, List.setIfInBounds_toArray, List.set_cons_zero, List.set_cons_succ])
    go_cut [48] (fun v48 wc => ∃ (kq : Nat) (x48_12 : Bool), v48 = .bool x48_12 ∧ Aside0 (patchworklaw18_WitnessBoth.j1 kq l0 l1 t473 t477 x48_12 = some r) ∧ Aside0 (kq ≤ kj3) ∧ Aside0 (Kd.R Kd.string 9 wc w.heap.size (fun _ => True) v475 t473) ∧ Aside0 (Kd.R kOp 32 wc w.heap.size (fun _ => True) v479 t477) ∧ Aside0 (Below w.heap.size w wc))
    case first =>
     have H := HC13.out; clear HC13
     by_cases c16 : t474 = true
     ·subst c16
      replace H := iT H; replace H := oB H; obtain ⟨t481, A17, H⟩ := H; have H' := aM H; clear H; obtain ⟨Ao18, co18, eo18⟩ := Kd.R_slice HO480.out; subst eo18
      go_wp2_with (first | (go_at_call 12; (with_reducible refine (patchworkref8_Olds.calls kj3 _ _ t477 t481 _ (yC (Kd.R_reads' HO480.out).2.2) ((Kd.R_reads' HO480.out).2.1) A17.out).mono ?_); rintro e w19 ⟨rfl, hb⟩; replace HO476 := aM (Kd.R_below (yH HO476.out) hb); replace HO480 := aM (Kd.R_below (yH HO480.out) hb); replace HB := aM (below_step yB hb); clear hb))
      go_meet
      case rel => exact ⟨_, (decide (t481 > 5000)), yE, H', ⟨by have := HJ3.out; first | omega | exact Nat.le_refl _⟩, ⟨yH HO476.out⟩, ⟨yH HO480.out⟩, ⟨yB⟩⟩
     ·replace c16 := Bool.eq_false_iff.mpr c16
      subst c16; have H' := aM (iF H); clear H
      go_wp2
      go_meet
      case rel => exact ⟨_, (true), yE, H', ⟨by have := HJ3.out; first | omega | exact Nat.le_refl _⟩, ⟨yH HO476.out⟩, ⟨yH HO480.out⟩, ⟨yB⟩⟩
    case rest =>
     clear HC13; (try clear c1); (try clear c2); (try clear p2); (try clear c6); (try clear c7); (try clear c8); (try clear c10); (try clear c16); (try clear c18); (try clear p2); obtain ⟨kq, x48_12, rfl, HA, HJ12, HO_6, HO_8, HB⟩ := hcut; cases kq with
     | zero => exact absurd HA.out (by simp [patchworklaw18_WitnessBoth.j1])
     | succ kj12 =>
      have H := HA.out; clear HA; simp only [patchworklaw18_WitnessBoth.j1] at H
      by_cases c20 : x48_12 = true
      ·subst c20
       replace H := iT H; obtain rfl := Option.some.inj H; obtain ⟨Ao21, co21, eo21⟩ := Kd.R_slice HO_6.out; subst eo21
       go_wp2
       go_ret
       exact ⟨yE2, yB⟩
      ·replace c20 := Bool.eq_false_iff.mpr c20
       subst c20; replace H := iF H; replace H := bS.mp H; obtain ⟨⟨t482, t483⟩, A220, H⟩ := H; replace H : ((patchworkref8_Do.f kj12 l1 t482).bind fun bt486 => ((patchworkref8_Do.f kj12 t477 t473).bind fun bt490 => (if t483 = true then (if bt486.2 = true then (if bt490.2 = true then ((patchworkref1_SameTexts.f kj12 bt486.1 bt490.1).bind fun t494 => (some t494)) else (some false)) else (some false)) else (some false)))) = some r := H; have A22 := aM A220; clear A220; replace H := bS.mp H; obtain ⟨⟨t486, t487⟩, A230, H⟩ := H; replace H : ((patchworkref8_Do.f kj12 t477 t473).bind fun bt490 => (if t483 = true then (if t487 = true then (if bt490.2 = true then ((patchworkref1_SameTexts.f kj12 t486 bt490.1).bind fun t494 => (some t494)) else (some false)) else (some false)) else (some false))) = some r := H; have A23 := aM A230; clear A230; replace H := bS.mp H; obtain ⟨⟨t490, t491⟩, A240, H⟩ := H; replace H : (if t483 = true then (if t487 = true then (if t491 = true then ((patchworkref1_SameTexts.f kj12 t486 t490).bind fun t494 => (some t494)) else (some false)) else (some false)) else (some false)) = some r := H; have A24 := aM A240; clear A240
       by_cases c25 : t483 = true
       ·subst c25
        replace H := iT H
        by_cases c26 : t487 = true
        ·subst c26
         replace H := iT H
         by_cases c27 : t491 = true
         ·subst c27
          replace H := iT H; replace H := oB H; obtain ⟨t494, A28, H⟩ := H; obtain rfl := Option.some.inj H; obtain ⟨Ao29, co29, eo29⟩ := Kd.R_slice HO_6.out; subst eo29
          go_wp2_with (first | ((with_reducible refine gate_callee (f := 14) rfl ?_); refine goesL_ (some 55) rfl rfl Tryd.func14 yK rfl #[.slice A0 l0.length c0, .slice Ao29 t473.length co29] rfl yG ?_; (with_reducible refine (patchworkref8_Do.calls kj12 _ _ l0 _ _ t473 t482 true _ (yC (Kd.C_below HR0.out HB.out)) HC0.out (yC (Kd.R_reads' HO_6.out).2.2) ((Kd.R_reads' HO_6.out).2.1) A22.out).mono ?_); rintro e w30 ⟨v484, rfl, ho0, hb⟩; refine ⟨_, rfl, ?_⟩; replace HO_8 := aM (Kd.R_below (yH HO_8.out) hb); have HO485 := aM (Kd.R_lower (Kd.R_new' ho0 (Kd.R_lt (yH HO_6.out))) yW); replace HO_6 := aM (Kd.R_elder' (yH HO_6.out) (Kd.R_base ho0) hb); replace HB := aM (below_step yB hb); clear hb ho0; obtain ⟨Ao31, co31, eo31⟩ := Kd.R_slice HO485.out; subst eo31) | ((with_reducible refine gate_callee (f := 14) rfl ?_); refine goesL_ (some 61) rfl rfl Tryd.func14 yK rfl #[.slice A1 l1.length c1, .slice Ao31 t482.length co31] rfl yG ?_; (with_reducible refine (patchworkref8_Do.calls kj12 _ _ l1 _ _ t482 t486 true _ (yC (Kd.C_below HR1.out HB.out)) HC1.out (yC (Kd.R_reads' HO485.out).2.2) ((Kd.R_reads' HO485.out).2.1) A23.out).mono ?_); rintro e w32 ⟨v488, rfl, ho0, hb⟩; refine ⟨_, rfl, ?_⟩; replace HO_8 := aM (Kd.R_below (yH HO_8.out) hb); have HO489 := aM (Kd.R_lower (Kd.R_new' (Kd.R_new' ho0 (Kd.R_lt (yH HO_6.out))) (Kd.R_lt (yH HO485.out))) yW); replace HO_6 := aM (Kd.R_elder' (yH HO_6.out) (Kd.R_base ho0) hb); replace HO485 := aM (Kd.R_elder' (yH HO485.out) (Kd.R_base ho0) hb); replace HB := aM (below_step yB hb); clear hb ho0; obtain ⟨Ao33, co33, eo33⟩ := Kd.R_slice HO_8.out; subst eo33) | ((with_reducible refine gate_callee (f := 14) rfl ?_); refine goesL_ (some 67) rfl rfl Tryd.func14 yK rfl #[.slice Ao33 t477.length co33, .slice Ao29 t473.length co29] rfl yG ?_; (with_reducible refine (patchworkref8_Do.calls kj12 _ _ t477 _ _ t473 t490 true _ (yC (Kd.R_reads' HO_8.out).2.2) ((Kd.R_reads' HO_8.out).2.1) (yC (Kd.R_reads' HO_6.out).2.2) ((Kd.R_reads' HO_6.out).2.1) A24.out).mono ?_); rintro e w34 ⟨v492, rfl, ho0, hb⟩; refine ⟨_, rfl, ?_⟩; replace HO_8 := aM (Kd.R_below (yH HO_8.out) hb); have HO493 := aM (Kd.R_lower (Kd.R_new' (Kd.R_new' (Kd.R_new' ho0 (Kd.R_lt (yH HO_6.out))) (Kd.R_lt (yH HO485.out))) (Kd.R_lt (yH HO489.out))) yW); replace HO_6 := aM (Kd.R_elder' (yH HO_6.out) (Kd.R_base ho0) hb); replace HO485 := aM (Kd.R_elder' (yH HO485.out) (Kd.R_base ho0) hb); replace HO489 := aM (Kd.R_elder' (yH HO489.out) (Kd.R_base ho0) hb); replace HB := aM (below_step yB hb); clear hb ho0; obtain ⟨Ao35, co35, eo35⟩ := Kd.R_slice HO489.out; subst eo35; obtain ⟨Ao36, co36, eo36⟩ := Kd.R_slice HO493.out; subst eo36) | (go_at_call 20; (with_reducible refine (patchworkref1_SameTexts.calls kj12 _ _ t486 _ _ t490 t494 _ (yC (Kd.R_reads' HO489.out).2.2) ((Kd.R_reads' HO489.out).2.1) (yC (Kd.R_reads' HO493.out).2.2) ((Kd.R_reads' HO493.out).2.1) A28.out).mono ?_); rintro e w' ⟨rfl, ⟨nd, rfl⟩⟩))
          go_ret
          exact ⟨yE2, yB⟩
         ·replace c27 := Bool.eq_false_iff.mpr c27
          subst c27; replace H := iF H; obtain rfl := Option.some.inj H; obtain ⟨Ao37, co37, eo37⟩ := Kd.R_slice HO_6.out; subst eo37
          go_wp2_with (first | ((with_reducible refine gate_callee (f := 14) rfl ?_); refine goesL_ (some 55) rfl rfl Tryd.func14 yK rfl #[.slice A0 l0.length c0, .slice Ao37 t473.length co37] rfl yG ?_; (with_reducible refine (patchworkref8_Do.calls kj12 _ _ l0 _ _ t473 t482 true _ (yC (Kd.C_below HR0.out HB.out)) HC0.out (yC (Kd.R_reads' HO_6.out).2.2) ((Kd.R_reads' HO_6.out).2.1) A22.out).mono ?_); rintro e w38 ⟨v484, rfl, ho0, hb⟩; refine ⟨_, rfl, ?_⟩; replace HO_8 := aM (Kd.R_below (yH HO_8.out) hb); have HO485 := aM (Kd.R_lower (Kd.R_new' ho0 (Kd.R_lt (yH HO_6.out))) yW); replace HO_6 := aM (Kd.R_elder' (yH HO_6.out) (Kd.R_base ho0) hb); replace HB := aM (below_step yB hb); clear hb ho0; obtain ⟨Ao39, co39, eo39⟩ := Kd.R_slice HO485.out; subst eo39) | ((with_reducible refine gate_callee (f := 14) rfl ?_); refine goesL_ (some 61) rfl rfl Tryd.func14 yK rfl #[.slice A1 l1.length c1, .slice Ao39 t482.length co39] rfl yG ?_; (with_reducible refine (patchworkref8_Do.calls kj12 _ _ l1 _ _ t482 t486 true _ (yC (Kd.C_below HR1.out HB.out)) HC1.out (yC (Kd.R_reads' HO485.out).2.2) ((Kd.R_reads' HO485.out).2.1) A23.out).mono ?_); rintro e w40 ⟨v488, rfl, ho0, hb⟩; refine ⟨_, rfl, ?_⟩; replace HO_8 := aM (Kd.R_below (yH HO_8.out) hb); have HO489 := aM (Kd.R_lower (Kd.R_new' (Kd.R_new' ho0 (Kd.R_lt (yH HO_6.out))) (Kd.R_lt (yH HO485.out))) yW); replace HO_6 := aM (Kd.R_elder' (yH HO_6.out) (Kd.R_base ho0) hb); replace HO485 := aM (Kd.R_elder' (yH HO485.out) (Kd.R_base ho0) hb); replace HB := aM (below_step yB hb); clear hb ho0; obtain ⟨Ao41, co41, eo41⟩ := Kd.R_slice HO_8.out; subst eo41) | ((with_reducible refine gate_callee (f := 14) rfl ?_); refine goesL_ (some 67) rfl rfl Tryd.func14 yK rfl #[.slice Ao41 t477.length co41, .slice Ao37 t473.length co37] rfl yG ?_; (with_reducible refine (patchworkref8_Do.calls kj12 _ _ t477 _ _ t473 t490 false _ (yC (Kd.R_reads' HO_8.out).2.2) ((Kd.R_reads' HO_8.out).2.1) (yC (Kd.R_reads' HO_6.out).2.2) ((Kd.R_reads' HO_6.out).2.1) A24.out).mono ?_); rintro e w42 ⟨v492, rfl, ho0, hb⟩; refine ⟨_, rfl, ?_⟩; replace HO_8 := aM (Kd.R_below (yH HO_8.out) hb); have HO493 := aM (Kd.R_lower (Kd.R_new' (Kd.R_new' (Kd.R_new' ho0 (Kd.R_lt (yH HO_6.out))) (Kd.R_lt (yH HO485.out))) (Kd.R_lt (yH HO489.out))) yW); replace HO_6 := aM (Kd.R_elder' (yH HO_6.out) (Kd.R_base ho0) hb); replace HO485 := aM (Kd.R_elder' (yH HO485.out) (Kd.R_base ho0) hb); replace HO489 := aM (Kd.R_elder' (yH HO489.out) (Kd.R_base ho0) hb); replace HB := aM (below_step yB hb); clear hb ho0))
          go_ret
          exact ⟨yE2, yB⟩
        ·replace c26 := Bool.eq_false_iff.mpr c26
         subst c26; replace H := iF H; obtain rfl := Option.some.inj H; obtain ⟨Ao43, co43, eo43⟩ := Kd.R_slice HO_6.out; subst eo43
         go_wp2_with (first | ((with_reducible refine gate_callee (f := 14) rfl ?_); refine goesL_ (some 55) rfl rfl Tryd.func14 yK rfl #[.slice A0 l0.length c0, .slice Ao43 t473.length co43] rfl yG ?_; (with_reducible refine (patchworkref8_Do.calls kj12 _ _ l0 _ _ t473 t482 true _ (yC (Kd.C_below HR0.out HB.out)) HC0.out (yC (Kd.R_reads' HO_6.out).2.2) ((Kd.R_reads' HO_6.out).2.1) A22.out).mono ?_); rintro e w44 ⟨v484, rfl, ho0, hb⟩; refine ⟨_, rfl, ?_⟩; replace HO_8 := aM (Kd.R_below (yH HO_8.out) hb); have HO485 := aM (Kd.R_lower (Kd.R_new' ho0 (Kd.R_lt (yH HO_6.out))) yW); replace HO_6 := aM (Kd.R_elder' (yH HO_6.out) (Kd.R_base ho0) hb); replace HB := aM (below_step yB hb); clear hb ho0; obtain ⟨Ao45, co45, eo45⟩ := Kd.R_slice HO485.out; subst eo45) | ((with_reducible refine gate_callee (f := 14) rfl ?_); refine goesL_ (some 61) rfl rfl Tryd.func14 yK rfl #[.slice A1 l1.length c1, .slice Ao45 t482.length co45] rfl yG ?_; (with_reducible refine (patchworkref8_Do.calls kj12 _ _ l1 _ _ t482 t486 false _ (yC (Kd.C_below HR1.out HB.out)) HC1.out (yC (Kd.R_reads' HO485.out).2.2) ((Kd.R_reads' HO485.out).2.1) A23.out).mono ?_); rintro e w46 ⟨v488, rfl, ho0, hb⟩; refine ⟨_, rfl, ?_⟩; replace HO_8 := aM (Kd.R_below (yH HO_8.out) hb); have HO489 := aM (Kd.R_lower (Kd.R_new' (Kd.R_new' ho0 (Kd.R_lt (yH HO_6.out))) (Kd.R_lt (yH HO485.out))) yW); replace HO_6 := aM (Kd.R_elder' (yH HO_6.out) (Kd.R_base ho0) hb); replace HO485 := aM (Kd.R_elder' (yH HO485.out) (Kd.R_base ho0) hb); replace HB := aM (below_step yB hb); clear hb ho0; obtain ⟨Ao47, co47, eo47⟩ := Kd.R_slice HO_8.out; subst eo47) | ((with_reducible refine gate_callee (f := 14) rfl ?_); refine goesL_ (some 67) rfl rfl Tryd.func14 yK rfl #[.slice Ao47 t477.length co47, .slice Ao43 t473.length co43] rfl yG ?_; (with_reducible refine (patchworkref8_Do.calls kj12 _ _ t477 _ _ t473 t490 t491 _ (yC (Kd.R_reads' HO_8.out).2.2) ((Kd.R_reads' HO_8.out).2.1) (yC (Kd.R_reads' HO_6.out).2.2) ((Kd.R_reads' HO_6.out).2.1) A24.out).mono ?_); rintro e w48 ⟨v492, rfl, ho0, hb⟩; refine ⟨_, rfl, ?_⟩; replace HO_8 := aM (Kd.R_below (yH HO_8.out) hb); have HO493 := aM (Kd.R_lower (Kd.R_new' (Kd.R_new' (Kd.R_new' ho0 (Kd.R_lt (yH HO_6.out))) (Kd.R_lt (yH HO485.out))) (Kd.R_lt (yH HO489.out))) yW); replace HO_6 := aM (Kd.R_elder' (yH HO_6.out) (Kd.R_base ho0) hb); replace HO485 := aM (Kd.R_elder' (yH HO485.out) (Kd.R_base ho0) hb); replace HO489 := aM (Kd.R_elder' (yH HO489.out) (Kd.R_base ho0) hb); replace HB := aM (below_step yB hb); clear hb ho0))
         go_ret
         exact ⟨yE2, yB⟩
       ·replace c25 := Bool.eq_false_iff.mpr c25
        subst c25; replace H := iF H; obtain rfl := Option.some.inj H; obtain ⟨Ao49, co49, eo49⟩ := Kd.R_slice HO_6.out; subst eo49
        go_wp2_with (first | ((with_reducible refine gate_callee (f := 14) rfl ?_); refine goesL_ (some 55) rfl rfl Tryd.func14 yK rfl #[.slice A0 l0.length c0, .slice Ao49 t473.length co49] rfl yG ?_; (with_reducible refine (patchworkref8_Do.calls kj12 _ _ l0 _ _ t473 t482 false _ (yC (Kd.C_below HR0.out HB.out)) HC0.out (yC (Kd.R_reads' HO_6.out).2.2) ((Kd.R_reads' HO_6.out).2.1) A22.out).mono ?_); rintro e w50 ⟨v484, rfl, ho0, hb⟩; refine ⟨_, rfl, ?_⟩; replace HO_8 := aM (Kd.R_below (yH HO_8.out) hb); have HO485 := aM (Kd.R_lower (Kd.R_new' ho0 (Kd.R_lt (yH HO_6.out))) yW); replace HO_6 := aM (Kd.R_elder' (yH HO_6.out) (Kd.R_base ho0) hb); replace HB := aM (below_step yB hb); clear hb ho0; obtain ⟨Ao51, co51, eo51⟩ := Kd.R_slice HO485.out; subst eo51) | ((with_reducible refine gate_callee (f := 14) rfl ?_); refine goesL_ (some 61) rfl rfl Tryd.func14 yK rfl #[.slice A1 l1.length c1, .slice Ao51 t482.length co51] rfl yG ?_; (with_reducible refine (patchworkref8_Do.calls kj12 _ _ l1 _ _ t482 t486 t487 _ (yC (Kd.C_below HR1.out HB.out)) HC1.out (yC (Kd.R_reads' HO485.out).2.2) ((Kd.R_reads' HO485.out).2.1) A23.out).mono ?_); rintro e w52 ⟨v488, rfl, ho0, hb⟩; refine ⟨_, rfl, ?_⟩; replace HO_8 := aM (Kd.R_below (yH HO_8.out) hb); have HO489 := aM (Kd.R_lower (Kd.R_new' (Kd.R_new' ho0 (Kd.R_lt (yH HO_6.out))) (Kd.R_lt (yH HO485.out))) yW); replace HO_6 := aM (Kd.R_elder' (yH HO_6.out) (Kd.R_base ho0) hb); replace HO485 := aM (Kd.R_elder' (yH HO485.out) (Kd.R_base ho0) hb); replace HB := aM (below_step yB hb); clear hb ho0; obtain ⟨Ao53, co53, eo53⟩ := Kd.R_slice HO_8.out; subst eo53) | ((with_reducible refine gate_callee (f := 14) rfl ?_); refine goesL_ (some 67) rfl rfl Tryd.func14 yK rfl #[.slice Ao53 t477.length co53, .slice Ao49 t473.length co49] rfl yG ?_; (with_reducible refine (patchworkref8_Do.calls kj12 _ _ t477 _ _ t473 t490 t491 _ (yC (Kd.R_reads' HO_8.out).2.2) ((Kd.R_reads' HO_8.out).2.1) (yC (Kd.R_reads' HO_6.out).2.2) ((Kd.R_reads' HO_6.out).2.1) A24.out).mono ?_); rintro e w54 ⟨v492, rfl, ho0, hb⟩; refine ⟨_, rfl, ?_⟩; replace HO_8 := aM (Kd.R_below (yH HO_8.out) hb); have HO493 := aM (Kd.R_lower (Kd.R_new' (Kd.R_new' (Kd.R_new' ho0 (Kd.R_lt (yH HO_6.out))) (Kd.R_lt (yH HO485.out))) (Kd.R_lt (yH HO489.out))) yW); replace HO_6 := aM (Kd.R_elder' (yH HO_6.out) (Kd.R_base ho0) hb); replace HO485 := aM (Kd.R_elder' (yH HO485.out) (Kd.R_base ho0) hb); replace HO489 := aM (Kd.R_elder' (yH HO489.out) (Kd.R_base ho0) hb); replace HB := aM (below_step yB hb); clear hb ho0))
        go_ret
        exact ⟨yE2, yB⟩
end Go.Proofs.YtkiklmmpflndbaaDoor.P
namespace Go.Proofs.YtkiklmmpflndbaaDoor.P
open Go.RowKit Go.Proofs.YtkiklmmpflndbaaDoorW.PrintWords Go.Proofs.YtkiklmmpflndbaaDoorW.PrintLast Go.Proofs.YtkiklmmpflndbaaDoorW.PrintMore
def WitnessBoth.Pure : Prop := ∀ (l0 : List (Op)) (l1 : List (Op)), ((fun xs => ∀ y ∈ xs, okOp y) l0) → ((fun xs => ∀ y ∈ xs, okOp y) l1) → (fun xs => (xs.map wtOp).sum + 1) l0 + (fun xs => (xs.map wtOp).sum + 1) l1 ≤ 1048576 → ∃ k, patchworklaw18_WitnessBoth.f k l0 l1 = some true
end Go.Proofs.YtkiklmmpflndbaaDoor.P
namespace Go.Proofs.YtkiklmmpflndbaaDoor.P
open Go.RowKit Go.Proofs.YtkiklmmpflndbaaDoorW.PrintWords Go.Proofs.YtkiklmmpflndbaaDoorW.PrintLast Go.Proofs.YtkiklmmpflndbaaDoorW.PrintMore
theorem WitnessBoth.out (a b : List Op) : Ev (fun k => patchworklaw18_WitnessBoth.j0 k a b true true) true := by
 refine Ev.step (fun k => rfl) ?_
 simp only [patchworklaw18_WitnessBoth.j0, if_true]
 exact Ev.now true
theorem WitnessBoth.none (a b c : List Op) : Ev (fun k => patchworklaw18_WitnessBoth.j1 k a b [] c true) true := by
 refine Ev.step (fun k => rfl) ?_
 simp only [patchworklaw18_WitnessBoth.j1, if_true]
 exact Ev.now true
theorem WitnessBoth.proved : WitnessBoth.Pure := by
 intro p q _ _ hw
 simp only at hw
 have fp := fewN_le p
 have fq := fewN_le q
 have lp := fewN_len p
 have lq := fewN_len q
 refine Ev.rounds ?_
 simp only [patchworklaw18_WitnessBoth.f]
 refine Ev.bind' alive18 ?_
 simp only [if_true]
 refine Ev.bind' (few_ev (by omega)) ?_
 by_cases h : fewN p ≤ 600
 ·simp only [h, decide_true, if_true]
  refine Ev.bind' (few_ev (by omega)) ?_
  by_cases h2 : fewN q ≤ 600
  ·simp only [h2, decide_true, Bool.not_true]
   have hp := Sx.of_few h
   have hq := Sx.of_few h2
   have hl : p.length + q.length ≤ 274877906944 := by omega
   have ht := hp.then hq hl
   refine Ev.step (fun k => rfl) ?_
   simp only [patchworklaw18_WitnessBoth.j0, Bool.false_eq_true, if_false]
   refine Ev.bind' (pboth_ev hp hq hl) ?_
   refine Ev.bind' (refthen_ev hp hq) ?_
   cases hh : (thenL p q).2
   ·have e : bothL p q = ([], false) := by unfold bothL; rw [hh]; simp
    rw [e]
    simp only [Bool.false_eq_true, if_false]
    exact WitnessBoth.none ..
   have e : bothL p q = (witL (thenL p q).1, true) := by unfold bothL; rw [hh]; simp
   rw [e]
   simp only [if_true]
   refine Ev.bind' (refolds_ev ht.sm) ?_
   by_cases hc : capd 3 (thenL p q).1 ≤ 5000
   ·have c : ¬ capd 3 (thenL p q).1 > 5000 := by omega
    simp only [c, decide_false]
    obtain ⟨m, r, e1, e2, e3⟩ := both_do hh hc
    have sw := wit_SmT ht.sm
    have sm : SmT m := by
     have := doL_SmT (l := p) (ls := witL (thenL p q).1) (by omega) hp.sm (by have := wit_le (thenL p q).1; omega) sw
     rw [e1] at this; exact this
    have sr : r.length < 4611686018427387904 := by
     have := doL_SmT (l := (thenL p q).1) (ls := witL (thenL p q).1) (by have := (thenL_len hp hq).1; omega) ht.sm (by have := wit_le (thenL p q).1; omega) sw
     rw [e3] at this
     have s2 : SmT r := this
     have := s2.1
     omega
    refine Ev.step (fun k => rfl) ?_
    simp only [patchworklaw18_WitnessBoth.j1, Bool.false_eq_true, if_false]
    refine Ev.bind' (refdo_ev hp.sm sw) ?_
    rw [e1]
    refine Ev.bind' (refdo_ev hq.sm sm) ?_
    rw [e2]
    refine Ev.bind' (refdo_ev ht.sm sw) ?_
    rw [e3]
    simp only [if_true]
    refine Ev.bind' (texts_ev _ _ sr) ?_
    simp only [decide_true]
    exact Ev.now _
   ·have c : capd 3 (thenL p q).1 > 5000 := by omega
    simp only [c, decide_true]
    have w0 : witL (thenL p q).1 = [] := by
     unfold witL
     rw [if_neg (fun hx => hc hx.2)]
    rw [w0]
    exact WitnessBoth.none ..
  ·simp only [h2, decide_false, Bool.not_false]; exact WitnessBoth.out p q
 ·simp only [h, decide_false, Bool.false_eq_true, if_false]; exact WitnessBoth.out p q
end Go.Proofs.YtkiklmmpflndbaaDoor.P
namespace Go.Proofs.YtkiklmmpflndbaaDoor.P.witnessBoth
open Go.ChangeShapes Go.WideShapes Go.ChangeAt Go.RowKit Go.Proofs.YtkiklmmpflndbaaDoor.P Go.Proofs.YtkiklmmpflndbaaDoorW.PrintWords
open Go.ChangeMaps (open_string shut_string)
theorem own : ownKnob Tryd.prog.godebug = none := by kernel_rfl
theorem laidOut : laidOutB Tryd.prog = true := by kernel_rfl
theorem opens0 : Opens Tryd.prog 32 kOp okOp wtOp := (opens_struct3 (d0 := (Kd.int .i64)) (d1 := (Kd.int .i64)) (d2 := Kd.string) Tryd.underlying32 (by kernel_rfl) rfl rfl rfl rfl rfl rfl (opens_int Tryd.underlying3 (by kernel_rfl)) (opens_int Tryd.underlying3 (by kernel_rfl)) (opens_string Tryd.underlying9 (by kernel_rfl)) (fun x : Op => (x.f0, x.f1, x.f2)) (fun a b c => ⟨a, b, c⟩) (fun _ _ _ => rfl))
theorem opens1 : Opens Tryd.prog 32 kOp okOp wtOp := (opens_struct3 (d0 := (Kd.int .i64)) (d1 := (Kd.int .i64)) (d2 := Kd.string) Tryd.underlying32 (by kernel_rfl) rfl rfl rfl rfl rfl rfl (opens_int Tryd.underlying3 (by kernel_rfl)) (opens_int Tryd.underlying3 (by kernel_rfl)) (opens_string Tryd.underlying9 (by kernel_rfl)) (fun x : Op => (x.f0, x.f1, x.f2)) (fun a b c => ⟨a, b, c⟩) (fun _ _ _ => rfl))
set_option maxRecDepth 100000 in
theorem table {W : World} (h : laidMetH Tryd.prog Rows.witnessBothUptoRow.laid W) : TabOk W :=
 Lib.tabIs_of_head (P := Tryd.prog) (name := "internal/strconv.uint64pow10") (k := .u64) (zs := Lib.pow10Tab) (rest := []) (g := 0) (t := 83) (e := 76) (n := 20) (by kernel_rfl) (by kernel_rfl) Tryd.underlying83 Tryd.underlying76 (by kernel_rfl) (by kernel_rfl)
  (show laidMetH Tryd.prog (Rows.witnessBothUptoRow.laid.filter fun x => x.1 == "internal/strconv.uint64pow10") W from h.filter _)
set_option maxRecDepth 100000 in
theorem contract (H : Type) (enc : TypeId × Value → H) (W : World) (base : Nat) (args : Array Value) (ds gs : List (DataW H)) (before : List MemPlace)
  (hval : ∀ (j : Nat) t v, Tryd.f7.params[j]? = some t → args[j]? = some v → Value.okWide Tryd.prog W .any base t v)
  (hW : DataW.Whole enc Tryd.prog Tryd.f7.params.toList Rows.witnessBothSpec.vars false W args.toList ds gs before) (hk : Rows.uptoSmall H (ds ++ gs) = true) (hL : laidMetH Tryd.prog Rows.witnessBothUptoRow.laid W) :
  Calls Tryd.prog 7 args W fun e W' => ∃ v, e = .returned v ∧ Rows.witnessBothSpec.post enc Tryd.prog Tryd.f7 false true false false W args v W' := by
 have hW' := hW
 obtain ⟨p, q, hA0, hV, rfl, hfz, hnd⟩ := hW
 have hA : DataW.TrodAll enc Tryd.prog W 0 (fun _ => true) true Tryd.f7.params.toList args.toList ds p := hA0
 rw [Tryd.params7] at hA hval
 obtain ⟨v0, vs0, d0, ds0, p0, q0, hargs, rfl, rfl, h0, r0⟩ := trodAll_cons hA
 obtain ⟨v1, vs1, d1, ds1, p1, q1, rfl, rfl, rfl, h1, r1⟩ := trodAll_cons r0
 obtain ⟨rfl, rfl, rfl⟩ := trodAll_nil r1
 obtain rfl : args = #[v0, v1] := by cases args; simp_all
 obtain ⟨rfl, rfl⟩ := trodVars_none hV
 have hb := small_all hk
 simp only [List.append_nil, Rows.uptoBulkAll] at hb
 obtain ⟨A0, len0, c0, rfl⟩ := okWide_slice Tryd.underlying22 (hval 0 22 v0 rfl rfl)
 have k0 := h0
 have lt0 : ∀ x ∈ p0, x.block < W.heap.size := by obtain ⟨m, hm⟩ := k0; exact DataW.trod_lt m _ _ _ hm
 obtain ⟨fuel0, hf0⟩ := h0
 obtain ⟨A0', c0', l0, hcs0, hc0, hr0, ok0, wt0⟩ := open_row Tryd.underlying22 opens0 hf0
 simp only [Value.cells, List.cons.injEq, Value.slice.injEq, and_true] at hcs0
 obtain ⟨rfl, rfl, rfl⟩ := hcs0
 obtain ⟨A1, len1, c1, rfl⟩ := okWide_slice Tryd.underlying22 (hval 1 22 v1 rfl rfl)
 have k1 := h1
 have lt1 : ∀ x ∈ p1, x.block < W.heap.size := by obtain ⟨m, hm⟩ := k1; exact DataW.trod_lt m _ _ _ hm
 obtain ⟨fuel1, hf1⟩ := h1
 obtain ⟨A1', c1', l1, hcs1, hc1, hr1, ok1, wt1⟩ := open_row Tryd.underlying22 opens1 hf1
 simp only [Value.cells, List.cons.injEq, Value.slice.injEq, and_true] at hcs1
 obtain ⟨rfl, rfl, rfl⟩ := hcs1
 clear hA0 hval
 obtain ⟨k, hp⟩ := WitnessBoth.proved l0 l1 ok0 ok1 (by simp only [] at *; omega)
 refine (patchworklaw18_WitnessBoth.calls k _ _ l0 _ _ l1 true W (table hL) hr0 hc0 hr1 hc1 hp).mono fun e W' ⟨he, bel0⟩ => ?_
 have bel : Below W.heap.size W W' := bel0
 subst he
 exact ⟨_, rfl, _, _, _, [], _, [], hW', trodAll_mk1 (shut_bool Tryd.underlying4 _), (trodAll_cons_mk (Below.trod laidOut (by kernel_rfl) (of_decide_eq_true (by kernel_rfl)) k0 bel lt0) (trodAll_cons_mk (Below.trod laidOut (by kernel_rfl) (of_decide_eq_true (by kernel_rfl)) k1 bel lt1) trodAll_mk0)), rfl, bel.frame _, fun h => by cases h⟩
noncomputable def laidWorld (os : Os) : World := { World.holding Tryd.prog os ⟨#[], #[], []⟩ with heap := ((((World.holding Tryd.prog os ⟨#[], #[], []⟩).heap).modify 2 (fun o => match o with | .cells _ t frozen => .cells #[.int .u8 0, .int .u8 1, .int .u8 28, .int .u8 2, .int .u8 29, .int .u8 14, .int .u8 24, .int .u8 3, .int .u8 30, .int .u8 22, .int .u8 20, .int .u8 15, .int .u8 25, .int .u8 17, .int .u8 4, .int .u8 8, .int .u8 31, .int .u8 27, .int .u8 13, .int .u8 23, .int .u8 21, .int .u8 19, .int .u8 16, .int .u8 7, .int .u8 26, .int .u8 12, .int .u8 18, .int .u8 6, .int .u8 11, .int .u8 5, .int .u8 10, .int .u8 9] t frozen | o => o)).modify 3 (fun o => match o with | .cells _ t frozen => .cells #[.int .u8 0, .int .u8 1, .int .u8 56, .int .u8 2, .int .u8 57, .int .u8 49, .int .u8 28, .int .u8 3, .int .u8 61, .int .u8 58, .int .u8 42, .int .u8 50, .int .u8 38, .int .u8 29, .int .u8 17, .int .u8 4, .int .u8 62, .int .u8 47, .int .u8 59, .int .u8 36, .int .u8 45, .int .u8 43, .int .u8 51, .int .u8 22, .int .u8 53, .int .u8 39, .int .u8 33, .int .u8 30, .int .u8 24, .int .u8 18, .int .u8 12, .int .u8 5, .int .u8 63, .int .u8 55, .int .u8 48, .int .u8 27, .int .u8 60, .int .u8 41, .int .u8 37, .int .u8 16, .int .u8 46, .int .u8 35, .int .u8 44, .int .u8 21, .int .u8 52, .int .u8 32, .int .u8 23, .int .u8 11, .int .u8 54, .int .u8 26, .int .u8 40, .int .u8 15, .int .u8 34, .int .u8 20, .int .u8 31, .int .u8 10, .int .u8 25, .int .u8 14, .int .u8 19, .int .u8 9, .int .u8 13, .int .u8 8, .int .u8 7, .int .u8 6] t frozen | o => o)).modify 0 (fun o => match o with | .cells _ t frozen => .cells #[.int .u64 1, .int .u64 10, .int .u64 100, .int .u64 1000, .int .u64 10000, .int .u64 100000, .int .u64 1000000, .int .u64 10000000, .int .u64 100000000, .int .u64 1000000000, .int .u64 10000000000, .int .u64 100000000000, .int .u64 1000000000000, .int .u64 10000000000000, .int .u64 100000000000000, .int .u64 1000000000000000, .int .u64 10000000000000000, .int .u64 100000000000000000, .int .u64 1000000000000000000, .int .u64 10000000000000000000] t frozen | o => o) }
set_option maxRecDepth 100000 in
theorem laid_met (os : Os) : laidMet Tryd.prog Rows.witnessBothUptoRow.laid ((laidWorld os).forCall (fun _ _ => 0) ⟨#[], #[.slice none 0 0, .slice none 0 0], []⟩).memory :=
 laidMet_of_run' 8 (by kernel_rfl) (by kernel_rfl)
set_option maxRecDepth 100000 in
theorem reads (os : Os) {H : Type} (enc : TypeId × Value → H) : ∃ places, DataW.whole enc Tryd.prog ((laidWorld os).forCall (fun _ _ => 0) ⟨#[], #[.slice none 0 0, .slice none 0 0], []⟩).memory Tryd.f7.params.toList Rows.witnessBothSpec.vars false (#[.slice none 0 0, .slice none 0 0] : Array Value).toList 8 = some ([.nil, .nil], [], places) :=
 ⟨[], by kernel_rfl⟩
set_option maxRecDepth 100000 in
theorem lifted (os : Os) (started : os.Started) (H : Type) (enc : TypeId × Value → H) (F : Stop.Interp) :
  ReturnsInHanded {} Tryd.checked os 7 .any ((Rows.OpenSpec.upto Rows.witnessBothSpec).preRow enc Tryd.prog Tryd.f7 Rows.witnessBothUptoRow.domain false Rows.witnessBothUptoRow.laid) (((Rows.OpenSpec.upto Rows.witnessBothSpec).at F).post enc Tryd.prog Tryd.f7 false true false false) := by
 obtain ⟨places, hx⟩ := reads os enc
 refine returnsInHanded_of_row (C := Tryd.checked) (s := Rows.OpenSpec.upto Rows.witnessBothSpec) own started (by kernel_rfl) Tryd.func7
  (witness_row_at (enc := enc) (C := Tryd.checked) false (laidWorld os) #[.slice none 0 0, .slice none 0 0] rfl (by kernel_rfl) (by kernel_rfl) (by kernel_rfl)
   (OpenSpec.preRow_of_cond 8 hx (by kernel_rfl) (fun k hk => by cases hk; kernel_rfl) (by kernel_rfl) (laid_met os))) ?_
 intro W base args ds gs before hval hW _ hcond _ hL _ _
 exact contract H enc W base args ds gs before hval hW (hcond _ rfl) hL
theorem over : Rows.WitnessBothUptoSaid :=
 OpenClaim.holds_of_cond 7 Tryd.f7 rfl rfl rfl rfl rfl rfl rfl ⟨rfl, rfl, rfl, rfl, rfl⟩ rfl rfl rfl rfl rfl (by kernel_rfl) Tryd.func7 (by kernel_rfl)
  (of_decide_eq_true (by kernel_rfl)) (by unfold Func.isWrapper; first | (rw [if_pos (by decide +kernel)]; kernel_rfl) | (rw [if_neg (by decide +kernel)]; exact ⟨rfl, rfl⟩))
  (fun os started H enc _ F => by rw [OpenClaim.pre_eq_preRow]; exact lifted os started H enc F)
theorem plain (f : FuncId) (fn : Func) (hf : Tryd.pinned.checked.prog.funcNamed "patchwork/patchworklaw18.WitnessBoth" = some f) (hfn : Tryd.pinned.checked.prog.funcs[f]? = some fn) :
  false = Tryd.pinned.checked.prog.looks [] ∧ ∀ (j : Nat) t, fn.params[j]? = some t → Tryd.pinned.checked.prog.wantsStandIn t = false := by
 obtain rfl : f = 7 := Option.some.inj ((show Tryd.prog.funcNamed "patchwork/patchworklaw18.WitnessBoth" = some 7 by kernel_rfl).symm.trans hf) |>.symm
 obtain rfl : fn = Tryd.f7 := (Option.some.inj (Tryd.func7.symm.trans hfn)).symm
 refine ⟨by kernel_rfl, fun j t ht => ?_⟩
 rw [Tryd.params7] at ht
 have hm := Array.mem_of_getElem? ht
 have all : ∀ x ∈ #[22, 22], Tryd.prog.wantsStandIn x = false := by
  intro x hx
  simp only [List.mem_toArray, List.mem_cons, List.not_mem_nil, or_false] at hx
  rcases hx with rfl | rfl <;> kernel_rfl
 exact all t hm
theorem proved : Rows.WitnessBothUptoCardSaid :=
 Claim7.holds_tied_plain_at .later [] _ _ _ _ over (fun _ h => by cases h) (by kernel_rfl) (fun _ h => by cases h) witnessBothUpto_row_tie rfl ⟨rfl, rfl⟩ (by kernel_rfl) rfl plain (by kernel_rfl)
end Go.Proofs.YtkiklmmpflndbaaDoor.P.witnessBoth
namespace Go.Proofs.YtkiklmmpflndbaaDoor
theorem witnessBoth_holds : Rows.WitnessBothUptoCardSaid := P.witnessBoth.proved
#print axioms witnessBoth_holds
end Go.Proofs.YtkiklmmpflndbaaDoor
