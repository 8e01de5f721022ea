/- Own and printed texts that the theorem of InterThree reaches, put together. -/
import Derived.Test.YtfoponahdidddaaqInterThree17
import Derived.Test.YtfoponahdidddaaqInterThree15
import Derived.Test.YtfoponahdidddaaqInterThree4
import Derived.Test.YtfoponahdidddaaqInterThree3
import Derived.Test.YtfoponahdidddaaqInterThree10
import Derived.Test.YtfoponahdidddaaqInterThree5
import Derived.Test.YtfoponahdidddaaqInterThree11
set_option linter.unusedVariables false
set_option linter.unusedSimpArgs false
namespace Go.Proofs.Ytfoponahdidddaa.P
open Go.RowKit Go.Proofs.YtfoponahdidddaaW.PrintWords Go.Proofs.YtfoponahdidddaaW.PrintLast Go.Proofs.YtfoponahdidddaaW.PrintMore
set_option maxHeartbeats 8000000 in
set_option maxRecDepth 100000 in
theorem ref_walk_walk (A0 : Option Addr) (c0 : Nat) (l0 : List (Op)) (A1 : Option Addr) (c1 : Nat) (l1 : List (Op)) (r1 : List (By)) (r2 : Bool) (r3 : Bool) (w : World) (hr0 : Kd.C kOp w A0 l0.length l0) (hc0 : l0.length ≤ c0) (hr1 : Kd.C kOp w A1 l1.length l1) (hc1 : l1.length ≤ c1) (hok : okR l0 l1 = true)
  (h : (match walkO (l0.length + l1.length) l0 l1 false with | none => some ([], false, false) | some os => some (byS os, metS os, true)) = some (r1, r2, r3)) :
  Calls Try.prog 40 #[.slice A0 l0.length c0, .slice A1 l1.length c1] w (RefPost w r1 r2 r3) := by
 obtain ⟨ok0, ok1, hlen⟩ := okR_parts hok
 have HW0 := Aside0.mk (show RefW w w (.slice A0 l0.length c0) (.slice A1 l1.length c1) (.slice none 0 0) l0 l1 [] (fun _ => True) from ⟨Below.refl _ _, Kd.V_mono (Kd.V_mk hc0 (Kd.C_F kOp_hp hr0)) (fun k _ => ⟨trivial, by simp [Value.ownBlock]⟩), Kd.V_mono (Kd.V_mk hc1 (Kd.C_F kOp_hp hr1)) (fun k _ => ⟨trivial, by simp [Value.ownBlock]⟩), Kd.R_nil _ _ _ _ _⟩)
 have HOK := Aside0.mk (And.intro ok0 (And.intro ok1 hlen))
 have HH := Aside0.mk h
 clear hr0 hc0 hr1 hc1 hok h ok0 ok1 hlen
 go_enter Try.func40, Try.ntmps40
 go_wp2
 go_loopg [0, 1, 7, 8, 9] (l0.length + l1.length) (fun gk v0 v1 v7 v8 v9 wx => ∃ (ps qs : List Op) (e : Bool) (os : List Step), v8 = .bool (metS os) ∧ v9 = .bool e ∧ Aside0 (RefW w wx v0 v1 v7 ps qs (byS os) (fun _ => True)) ∧ Aside0 ((walkO gk ps qs e).map (os ++ ·) = walkO (l0.length + l1.length) l0 l1 false) ∧ Aside0 (ps.length + qs.length ≤ gk ∧ os.length + gk ≤ 1099511627776 ∧ (∀ o ∈ ps, okR1 o = true) ∧ ∀ o ∈ qs, okR1 o = true))
 case atStart => exact ⟨l0, l1, false, [], rfl, rfl, HW0, ⟨by simp⟩, ⟨Nat.le_refl _, by have := HOK.out.2.2; simpa using this, HOK.out.1, HOK.out.2.1⟩⟩
 case round =>
  clear HW0 HOK
  obtain ⟨ps, qs, e, os, rfl, rfl, HW, HM, HB⟩ := hrel
  by_cases hz : ps.length + qs.length = 0
  ·obtain rfl : ps = [] := List.length_eq_zero_iff.mp (by omega)
   obtain rfl : qs = [] := List.length_eq_zero_iff.mp (by omega)
   obtain ⟨Ap, cp, Aq, cq, Ao, co, e0, e1, e7⟩ := HW.out.len0
   subst e0
   subst e1
   subst e7
   clear hz HB
   have hM : walkO (l0.length + l1.length) l0 l1 false = some os := by
    rw [← HM.out]
    cases gk <;> simp [walkO]
   have hh := HH.out
   rw [hM] at hh
   have HH2 := Aside0.mk hh
   clear HM HH hM hh
   go_wp2
   go_ret3
   obtain ⟨e1, e2⟩ := Prod.mk.inj (Option.some.inj HH2.out)
   obtain ⟨e2, e3⟩ := Prod.mk.inj e2
   subst e1 e2 e3
   exact ⟨_, rfl, HW.out.2.2.2, HW.out.1⟩
  ·obtain ⟨n, rfl⟩ : ∃ n, gk = n + 1 := ⟨gk - 1, by have := HB.out.1; omega⟩
   have HL := Aside0.mk (show (byS os).length < 2199023255552 by have := byS_len os; have := HB.out.2.1; omega)
   have HP := Aside0.mk (show (∀ o ∈ ps, okR1 o = true) ∧ (∀ o ∈ qs, okR1 o = true) ∧ ps.length + qs.length ≤ 1099511627776 from ⟨HB.out.2.2.1, HB.out.2.2.2, by have h1 := HB.out.1; have h2 := HB.out.2.1; omega⟩)
   have HZ := Aside0.mk hz
   clear hz
   by_cases hd : hdK 3 ps = true
   ·cases ps with
    | nil => exact absurd hd (by simp [hdK])
    | cons o r =>
     have hk : o.f0 = 3 := by simpa [hdK] using hd
     have hwalk : walkO (n + 1) (o :: r) qs e = (walkO n r qs e).map (⟨o, 1, false⟩ :: ·) := by
      rw [walkO, if_neg HZ.out, if_pos hd]; rfl
     have HWK := Aside0.mk hwalk
     clear hd hwalk
     refine refDel w wr _ o r qs os HW HL hk ⟨?_⟩
     intros
     rename_i hW
     have HW2 := Aside0.mk hW
     clear hW hk HW
     go_wp2
     go_roundg n
     case measure => omega
     case rel =>
      refine ⟨r, qs, e, os ++ [⟨o, 1, false⟩], by simp [metS_app, metS], rfl, HW2, ⟨?_⟩, ⟨?_⟩⟩
      ·rw [← HM.out, HWK.out, Option.map_map]
       congr 1
       funext x
       simp
      ·have hb := HB.out
       refine ⟨by have := hb.1; simp only [List.length_cons] at this; omega, by have := hb.2.1; simp only [List.length_append, List.length_singleton]; omega, fun x hx => hb.2.2.1 x (List.mem_cons_of_mem _ hx), hb.2.2.2⟩
   ·by_cases hi : hdK 4 qs = true
    ·cases qs with
     | nil => exact absurd hi (by simp [hdK])
     | cons o r =>
      have hk : o.f0 = 4 := by simpa [hdK] using hi
      have hwalk : walkO (n + 1) ps (o :: r) e = (walkO n ps r e).map (⟨o, 2, false⟩ :: ·) := by
       rw [walkO, if_neg HZ.out, if_neg hd, if_pos hi]; rfl
      have HWK := Aside0.mk hwalk
      clear hi hwalk
      refine refIns w wr _ o r ps os HW HL hk (by simpa using hd) ⟨?_⟩
      intros
      rename_i hW
      have HW2 := Aside0.mk hW
      clear hW hk HW hd
      go_wp2
      go_roundg n
      case measure => omega
      case rel =>
       refine ⟨ps, r, e, os ++ [⟨o, 2, false⟩], by simp [metS_app, metS], rfl, HW2, ⟨?_⟩, ⟨?_⟩⟩
       ·rw [← HM.out, HWK.out, Option.map_map]
        congr 1
        funext x
        simp
       ·have hb := HB.out
        refine ⟨by have := hb.1; simp only [List.length_cons] at this; omega, by have := hb.2.1; simp only [List.length_append, List.length_singleton]; omega, hb.2.2.1, fun x hx => hb.2.2.2 x (List.mem_cons_of_mem _ hx)⟩
    ·obtain ⟨hl1, hl2⟩ := far_line HB.out.2.2.1 HB.out.2.2.2 HZ.out
     have hwalk : walkO (n + 1) ps qs e = if noneL (farL ps) (farL qs) e = true then none else (walkO n (dropL ps (lineL (farL ps) (farL qs)).2.1) (dropL qs (lineL (farL ps) (farL qs)).2.1) (opnB (lineL (farL ps) (farL qs)).1)).map ((lineL (farL ps) (farL qs)).2.2 :: ·) := by
      rw [walkO, if_neg HZ.out, if_neg hd, if_neg hi, hl1, hl2]
     have kx : (farL ps).f0 = 1 ∨ (farL ps).f0 = 2 ∨ (farL ps).f0 = 4 := by
      cases ps with
      | nil => exact .inl rfl
      | cons o r =>
       rcases okR_kind (HB.out.2.2.1 o (List.mem_cons_self ..)) with h | h | h | h
       ·exact .inl h
       ·exact .inr (.inl h)
       ·exact absurd (by simpa [hdK] using h) hd
       ·exact .inr (.inr h)
     have ky : (farL qs).f0 = 1 ∨ (farL qs).f0 = 2 ∨ (farL qs).f0 = 3 := by
      cases qs with
      | nil => exact .inl rfl
      | cons o r =>
       rcases okR_kind (HB.out.2.2.2 o (List.mem_cons_self ..)) with h | h | h | h
       ·exact .inl h
       ·exact .inr (.inl h)
       ·exact .inr (.inr h)
       ·exact absurd (by simpa [hdK] using h) hi
     have HWK := Aside0.mk hwalk
     have HX := Aside0.mk (And.intro kx ky)
     have HDR := Aside0.mk (fun (st : Step) (hno : noneL (farL ps) (farL qs) e = false) => okR_drop (st := st) HB.out HZ.out (by rw [← hl2]; exact hno))
     have HL1 := Aside0.mk hl1
     clear hwalk kx ky hl1 hl2 hd hi
     refine refA w wr _ ps qs os e (farL ps) (farL qs) HW HL HP ⟨rfl, rfl⟩ HZ HX ⟨?_⟩ ⟨?_⟩
     ·intro hno v0' v1' v7' b' e'
      intros
      rename_i hW hb he
      subst hb he
      have HW2 := Aside0.mk hW
      have HNO := Aside0.mk hno
      clear hW hno HW
      go_wp2
      go_roundg n
      case measure => omega
      case rel =>
       refine ⟨_, _, _, os ++ [(lineL (farL ps) (farL qs)).2.2], rfl, rfl, HW2, ⟨?_⟩, ⟨?_⟩⟩
       ·rw [← HM.out, HWK.out, if_neg (by rw [HNO.out]; simp), Option.map_map]
        congr 1
        funext x
        simp
       ·have := HDR.out (lineL (farL ps) (farL qs)).2.2 HNO.out
        rw [← HL1.out] at this
        exact this
     ·intro hno
      intros
      rename_i hb
      have HB2 := Aside0.mk hb
      have HNO := Aside0.mk hno
      clear hb hno HW
      go_wp2
      go_ret3
      have e1 := HM.out
      rw [HWK.out, if_pos HNO.out] at e1
      have e2 := HH.out
      rw [← e1] at e2
      obtain ⟨e3, e4⟩ := Prod.mk.inj (Option.some.inj e2)
      obtain ⟨e4, e5⟩ := Prod.mk.inj e4
      subst e3 e4 e5
      exact ⟨_, rfl, Kd.R_nil _ _ _ _ _, HB2.out⟩
end Go.Proofs.Ytfoponahdidddaa.P
namespace Go.Proofs.Ytfoponahdidddaa.P
open Go.RowKit Go.Proofs.YtfoponahdidddaaW.PrintWords Go.Proofs.YtfoponahdidddaaW.PrintLast Go.Proofs.YtfoponahdidddaaW.PrintMore
attribute [local go_sem] max2_int min2_int max_two min_two max_three min_three max_four min_four
theorem patchworkref8_walk.calls (A0 : Option Addr) (c0 : Nat) (l0 : List (Op)) (A1 : Option Addr) (c1 : Nat) (l1 : List (Op)) (r1 : List (By)) (r2 : Bool) (r3 : Bool) (w : World) (hr0 : Kd.C kOp w A0 l0.length l0) (hc0 : l0.length ≤ c0) (hr1 : Kd.C kOp w A1 l1.length l1) (hc1 : l1.length ≤ c1) (h : patchworkref8_walk.f l0 l1 = some (r1, r2, r3)) :
  Calls Try.prog 40 #[.slice A0 l0.length c0, .slice A1 l1.length c1] w fun e w' => ∃ v0_ : Value, e = .returned (.tuple #[v0_, .bool r2, .bool r3]) ∧ Kd.R kBy 61 w' w.heap.size (fun _ => True) v0_ r1 ∧ Below w.heap.size w w' := by
 unfold patchworkref8_walk.f at h
 split at h
 ·rename_i hok
  exact ref_walk_walk A0 c0 l0 A1 c1 l1 r1 r2 r3 w hr0 hc0 hr1 hc1 hok h
 ·exact absurd h (by simp)
end Go.Proofs.Ytfoponahdidddaa.P
namespace Go.Proofs.Ytfoponahdidddaa.P
open Go.RowKit Go.Proofs.YtfoponahdidddaaW.PrintWords Go.Proofs.YtfoponahdidddaaW.PrintLast Go.Proofs.YtfoponahdidddaaW.PrintMore
open Go.Proofs.YtfoponahdidddaaW.PrintWords.Aside0 renaming mk → aM
open Option renaming bind_eq_some_iff → bS
attribute [local go_sem] max2_int min2_int max_two min_two max_three min_three max_four min_four
set_option maxHeartbeats 8000000 in
set_option maxRecDepth 100000 in
theorem patchworkref8_Then.calls (k : Nat) (A0 : Option Addr) (c0 : Nat) (l0 : List (Op)) (A1 : Option Addr) (c1 : Nat) (l1 : List (Op)) (r1 : List (Op)) (r2 : Bool) (w : World) (hr0 : Kd.C kOp w A0 l0.length l0) (hc0 : l0.length ≤ c0) (hr1 : Kd.C kOp w A1 l1.length l1) (hc1 : l1.length ≤ c1) (h : patchworkref8_Then.f k l0 l1 = some (r1, r2)) :
  Calls Try.prog 34 #[.slice A0 l0.length c0, .slice A1 l1.length c1] w fun e w' => ∃ v0_ : Value, e = .returned (.tuple #[v0_, .bool r2]) ∧ Kd.R kOp 41 w' w.heap.size (fun _ => True) v0_ r1 ∧ Below w.heap.size w w' := by
 have HR0 := aM hr0
 have HC0 := aM hc0
 clear hr0 hc0
 have HR1 := aM hr1
 have HC1 := aM hc1
 clear hr1 hc1
 have HB := aM (Below.refl w.heap.size w)
 have H : ((patchworkref8_Right.f k l0).bind fun t775 => (if t775 = true then ((patchworkref8_Right.f k l1).bind fun t776 => (patchworkref8_Then.j0 k l0 l1 (!t776))) else (patchworkref8_Then.j0 k l0 l1 true))) = some (r1, r2) := h
 clear h
 have HC3 := aM H
 clear H
 go_enter Try.func34, Try.ntmps34
 go_upto_region 1 with (fail)
 go_cut [17] (fun v17 wc => ∃ (kq : Nat) (x17_2 : Bool), v17 = .bool x17_2 ∧ Aside0 (patchworkref8_Then.j0 kq l0 l1 x17_2 = some (r1, r2)) ∧ Aside0 (kq ≤ k) ∧ Aside0 (Below w.heap.size w wc))
 case first =>
  have H := HC3.out; clear HC3; replace H := bS.mp H; obtain ⟨t775, A40, H⟩ := H; replace H : (if t775 = true then ((patchworkref8_Right.f k l1).bind fun t776 => (patchworkref8_Then.j0 k l0 l1 (!t776))) else (patchworkref8_Then.j0 k l0 l1 true)) = some (r1, r2) := H; have A4 := aM A40; clear A40
  by_cases c5 : t775 = true
  ·subst c5
   replace H := iT H; replace H := bS.mp H; obtain ⟨t776, A60, H⟩ := H; replace H : (patchworkref8_Then.j0 k l0 l1 (!t776)) = some (r1, r2) := H; have A6 := aM A60; clear A60; have H' := aM H; clear H
   go_wp2_with (first | ((with_reducible refine gate_callee (f := 32) rfl ?_); refine goesL_ (some 11) rfl rfl Try.func32 yK rfl #[.slice A0 l0.length c0] rfl yG ?_; (with_reducible refine (patchworkref8_Right.calls k _ _ l0 true _ (yC (Kd.C_below HR0.out HB.out)) HC0.out A4.out).mono ?_); rintro e w7 ⟨rfl, hb⟩; refine ⟨_, rfl, ?_⟩; replace HB := aM (below_step yB hb); clear hb) | (go_at_call 32; (with_reducible refine (patchworkref8_Right.calls k _ _ l1 t776 _ (yC (Kd.C_below HR1.out HB.out)) HC1.out A6.out).mono ?_); rintro e w8 ⟨rfl, hb⟩; replace HB := aM (below_step yB hb); clear hb))
   go_meet
   case rel => exact ⟨_, (!t776), yE, H', ⟨by first | omega | exact Nat.le_refl _⟩, ⟨yB⟩⟩
  ·replace c5 := Bool.eq_false_iff.mpr c5
   subst c5; have H' := aM (iF H); clear H
   go_wp2_with (first | ((with_reducible refine gate_callee (f := 32) rfl ?_); refine goesL_ (some 11) rfl rfl Try.func32 yK rfl #[.slice A0 l0.length c0] rfl yG ?_; (with_reducible refine (patchworkref8_Right.calls k _ _ l0 false _ (yC (Kd.C_below HR0.out HB.out)) HC0.out A4.out).mono ?_); rintro e w9 ⟨rfl, hb⟩; refine ⟨_, rfl, ?_⟩; replace HB := aM (below_step yB hb); clear hb))
   go_meet
   case rel => exact ⟨_, (true), yE, H', ⟨by first | omega | exact Nat.le_refl _⟩, ⟨yB⟩⟩
 case rest =>
  clear HC3; (try clear c1); (try clear p2); (try clear c3); (try clear c5); obtain ⟨kq, x17_2, rfl, HA, HJ2, HB⟩ := hcut; cases kq with
  | zero => exact absurd HA.out (by simp [patchworkref8_Then.j0])
  | succ kj2 =>
   have H := HA.out; clear HA; simp only [patchworkref8_Then.j0] at H
   by_cases c10 : x17_2 = true
   ·subst c10
    replace H := iT H; simp only [Option.some.injEq, Prod.mk.injEq] at H; obtain ⟨rfl, rfl⟩ := H
    go_wp2
    go_ret2
    exact ⟨_, by first | rfl | (simp [errW_none, errW_some] <;> rfl) | (simp [*, errW_none, errW_some] <;> rfl), by first | exact Kd.R_nil _ _ _ _ _ | exact Kd.N_nil _ _ _ _ _ | exact Kd.V_nil _ _ _ _ _ | exact Kd.Q_nil _ _ _ _ _ | exact Kd.S_nil _ _ _ _ _, yB⟩
   ·replace c10 := Bool.eq_false_iff.mpr c10
    subst c10; replace H := iF H; replace H := bS.mp H; obtain ⟨⟨t777, t778, t779⟩, A110, H⟩ := H; replace H : ((patchworkref8_ops.f kj2 t777).bind fun t782 => ((patchworkref8_norm.f kj2 t782).bind fun t785 => (if t779 = true then ((patchworkref8_Right.f kj2 t785).bind fun t788 => (if t788 = true then (some (t785, true)) else (some (([] : List (Op)), false)))) else (some (([] : List (Op)), false))))) = some (r1, r2) := H; have A11 := aM A110; clear A110; replace H := bS.mp H; obtain ⟨t782, A120, H⟩ := H; replace H : ((patchworkref8_norm.f kj2 t782).bind fun t785 => (if t779 = true then ((patchworkref8_Right.f kj2 t785).bind fun t788 => (if t788 = true then (some (t785, true)) else (some (([] : List (Op)), false)))) else (some (([] : List (Op)), false)))) = some (r1, r2) := H; have A12 := aM A120; clear A120; replace H := bS.mp H; obtain ⟨t785, A130, H⟩ := H; replace H : (if t779 = true then ((patchworkref8_Right.f kj2 t785).bind fun t788 => (if t788 = true then (some (t785, true)) else (some (([] : List (Op)), false)))) else (some (([] : List (Op)), false))) = some (r1, r2) := H; have A13 := aM A130; clear A130
    by_cases c14 : t779 = true
    ·subst c14
     replace H := iT H; replace H := bS.mp H; obtain ⟨t788, A150, H⟩ := H; replace H : (if t788 = true then (some (t785, true)) else (some (([] : List (Op)), false))) = some (r1, r2) := H; have A15 := aM A150; clear A150
     by_cases c16 : t788 = true
     ·subst c16
      replace H := iT H; simp only [Option.some.injEq, Prod.mk.injEq] at H; obtain ⟨rfl, rfl⟩ := H
      go_wp2_with (first | ((with_reducible refine gate_callee (f := 40) rfl ?_); refine goesL_ (some 21) rfl rfl Try.func40 yK rfl #[.slice A0 l0.length c0, .slice A1 l1.length c1] rfl yG ?_; (with_reducible refine (patchworkref8_walk.calls _ _ l0 _ _ l1 t777 t778 true _ (yC (Kd.C_below HR0.out HB.out)) HC0.out (yC (Kd.C_below HR1.out HB.out)) HC1.out A11.out).mono ?_); rintro e w17 ⟨v780, rfl, ho0, hb⟩; refine ⟨_, rfl, ?_⟩; have HO781 := aM (Kd.R_lower ho0 yW); replace HB := aM (below_step yB hb); clear hb ho0; obtain ⟨Ao18, co18, eo18⟩ := Kd.R_slice HO781.out; subst eo18) | ((with_reducible refine gate_callee (f := 42) rfl ?_); refine goesL_ (some 26) rfl rfl Try.func42 yK rfl #[.slice Ao18 t777.length co18] rfl yG ?_; (with_reducible refine (patchworkref8_ops.calls kj2 _ _ t777 t782 _ (yC (Kd.R_reads' HO781.out).2.2) ((Kd.R_reads' HO781.out).2.1) A12.out).mono ?_); rintro e w19 ⟨v783, rfl, ho0, hb⟩; refine ⟨_, rfl, ?_⟩; replace HO781 := aM (Kd.R_below (yH HO781.out) hb); have HO784 := aM (Kd.R_lower ho0 yW); replace HB := aM (below_step yB hb); clear hb ho0; obtain ⟨Ao20, co20, eo20⟩ := Kd.R_slice HO784.out; subst eo20) | ((with_reducible refine gate_callee (f := 41) rfl ?_); refine goesL_ (some 27) rfl rfl Try.func41 yK rfl #[.slice Ao20 t782.length co20] rfl yG ?_; (with_reducible refine (patchworkref8_norm.calls kj2 _ _ t782 t785 _ (yC (Kd.R_reads' HO784.out).2.2) ((Kd.R_reads' HO784.out).2.1) A13.out).mono ?_); rintro e w21 ⟨v786, rfl, ho0, hb⟩; refine ⟨_, rfl, ?_⟩; replace HO781 := aM (Kd.R_below (yH HO781.out) hb); have HO787 := aM (Kd.R_lower (Kd.R_new' ho0 (Kd.R_lt (yH HO784.out))) yW); replace HO784 := aM (Kd.R_elder' (yH HO784.out) (Kd.R_base ho0) hb); replace HB := aM (below_step yB hb); clear hb ho0; obtain ⟨Ao22, co22, eo22⟩ := Kd.R_slice HO787.out; subst eo22) | (go_at_call 32; (with_reducible refine (patchworkref8_Right.calls kj2 _ _ t785 true _ (yC (Kd.R_reads' HO787.out).2.2) ((Kd.R_reads' HO787.out).2.1) A15.out).mono ?_); rintro e w23 ⟨rfl, hb⟩; replace HO781 := aM (Kd.R_below (yH HO781.out) hb); replace HO784 := aM (Kd.R_below (yH HO784.out) hb); replace HO787 := aM (Kd.R_below (yH HO787.out) hb); replace HB := aM (below_step yB hb); clear hb))
      go_ret2
      exact ⟨_, by first | rfl | (simp [errW_none, errW_some] <;> rfl) | (simp [*, errW_none, errW_some] <;> rfl), by (with_reducible repeat (first | apply Kd.R_alloc | apply Kd.R_drewN | apply Kd.R_drew)); exact Kd.R_mono HO787.out (fun _ hk => trivial), yB⟩
     ·replace c16 := Bool.eq_false_iff.mpr c16
      subst c16; replace H := iF H; simp only [Option.some.injEq, Prod.mk.injEq] at H; obtain ⟨rfl, rfl⟩ := H
      go_wp2_with (first | ((with_reducible refine gate_callee (f := 40) rfl ?_); refine goesL_ (some 21) rfl rfl Try.func40 yK rfl #[.slice A0 l0.length c0, .slice A1 l1.length c1] rfl yG ?_; (with_reducible refine (patchworkref8_walk.calls _ _ l0 _ _ l1 t777 t778 true _ (yC (Kd.C_below HR0.out HB.out)) HC0.out (yC (Kd.C_below HR1.out HB.out)) HC1.out A11.out).mono ?_); rintro e w24 ⟨v780, rfl, ho0, hb⟩; refine ⟨_, rfl, ?_⟩; have HO781 := aM (Kd.R_lower ho0 yW); replace HB := aM (below_step yB hb); clear hb ho0; obtain ⟨Ao25, co25, eo25⟩ := Kd.R_slice HO781.out; subst eo25) | ((with_reducible refine gate_callee (f := 42) rfl ?_); refine goesL_ (some 26) rfl rfl Try.func42 yK rfl #[.slice Ao25 t777.length co25] rfl yG ?_; (with_reducible refine (patchworkref8_ops.calls kj2 _ _ t777 t782 _ (yC (Kd.R_reads' HO781.out).2.2) ((Kd.R_reads' HO781.out).2.1) A12.out).mono ?_); rintro e w26 ⟨v783, rfl, ho0, hb⟩; refine ⟨_, rfl, ?_⟩; replace HO781 := aM (Kd.R_below (yH HO781.out) hb); have HO784 := aM (Kd.R_lower ho0 yW); replace HB := aM (below_step yB hb); clear hb ho0; obtain ⟨Ao27, co27, eo27⟩ := Kd.R_slice HO784.out; subst eo27) | ((with_reducible refine gate_callee (f := 41) rfl ?_); refine goesL_ (some 27) rfl rfl Try.func41 yK rfl #[.slice Ao27 t782.length co27] rfl yG ?_; (with_reducible refine (patchworkref8_norm.calls kj2 _ _ t782 t785 _ (yC (Kd.R_reads' HO784.out).2.2) ((Kd.R_reads' HO784.out).2.1) A13.out).mono ?_); rintro e w28 ⟨v786, rfl, ho0, hb⟩; refine ⟨_, rfl, ?_⟩; replace HO781 := aM (Kd.R_below (yH HO781.out) hb); have HO787 := aM (Kd.R_lower (Kd.R_new' ho0 (Kd.R_lt (yH HO784.out))) yW); replace HO784 := aM (Kd.R_elder' (yH HO784.out) (Kd.R_base ho0) hb); replace HB := aM (below_step yB hb); clear hb ho0; obtain ⟨Ao29, co29, eo29⟩ := Kd.R_slice HO787.out; subst eo29) | (go_at_call 32; (with_reducible refine (patchworkref8_Right.calls kj2 _ _ t785 false _ (yC (Kd.R_reads' HO787.out).2.2) ((Kd.R_reads' HO787.out).2.1) A15.out).mono ?_); rintro e w30 ⟨rfl, hb⟩; replace HO781 := aM (Kd.R_below (yH HO781.out) hb); replace HO784 := aM (Kd.R_below (yH HO784.out) hb); replace HO787 := aM (Kd.R_below (yH HO787.out) hb); replace HB := aM (below_step yB hb); clear hb))
      go_ret2
      exact ⟨_, by first | rfl | (simp [errW_none, errW_some] <;> rfl) | (simp [*, errW_none, errW_some] <;> rfl), by first | exact Kd.R_nil _ _ _ _ _ | exact Kd.N_nil _ _ _ _ _ | exact Kd.V_nil _ _ _ _ _ | exact Kd.Q_nil _ _ _ _ _ | exact Kd.S_nil _ _ _ _ _, yB⟩
    ·replace c14 := Bool.eq_false_iff.mpr c14
     subst c14; replace H := iF H; simp only [Option.some.injEq, Prod.mk.injEq] at H; obtain ⟨rfl, rfl⟩ := H
     go_wp2_with (first | ((with_reducible refine gate_callee (f := 40) rfl ?_); refine goesL_ (some 21) rfl rfl Try.func40 yK rfl #[.slice A0 l0.length c0, .slice A1 l1.length c1] rfl yG ?_; (with_reducible refine (patchworkref8_walk.calls _ _ l0 _ _ l1 t777 t778 false _ (yC (Kd.C_below HR0.out HB.out)) HC0.out (yC (Kd.C_below HR1.out HB.out)) HC1.out A11.out).mono ?_); rintro e w31 ⟨v780, rfl, ho0, hb⟩; refine ⟨_, rfl, ?_⟩; have HO781 := aM (Kd.R_lower ho0 yW); replace HB := aM (below_step yB hb); clear hb ho0; obtain ⟨Ao32, co32, eo32⟩ := Kd.R_slice HO781.out; subst eo32) | ((with_reducible refine gate_callee (f := 42) rfl ?_); refine goesL_ (some 26) rfl rfl Try.func42 yK rfl #[.slice Ao32 t777.length co32] rfl yG ?_; (with_reducible refine (patchworkref8_ops.calls kj2 _ _ t777 t782 _ (yC (Kd.R_reads' HO781.out).2.2) ((Kd.R_reads' HO781.out).2.1) A12.out).mono ?_); rintro e w33 ⟨v783, rfl, ho0, hb⟩; refine ⟨_, rfl, ?_⟩; replace HO781 := aM (Kd.R_below (yH HO781.out) hb); have HO784 := aM (Kd.R_lower ho0 yW); replace HB := aM (below_step yB hb); clear hb ho0; obtain ⟨Ao34, co34, eo34⟩ := Kd.R_slice HO784.out; subst eo34) | ((with_reducible refine gate_callee (f := 41) rfl ?_); refine goesL_ (some 27) rfl rfl Try.func41 yK rfl #[.slice Ao34 t782.length co34] rfl yG ?_; (with_reducible refine (patchworkref8_norm.calls kj2 _ _ t782 t785 _ (yC (Kd.R_reads' HO784.out).2.2) ((Kd.R_reads' HO784.out).2.1) A13.out).mono ?_); rintro e w35 ⟨v786, rfl, ho0, hb⟩; refine ⟨_, rfl, ?_⟩; replace HO781 := aM (Kd.R_below (yH HO781.out) hb); have HO787 := aM (Kd.R_lower (Kd.R_new' ho0 (Kd.R_lt (yH HO784.out))) yW); replace HO784 := aM (Kd.R_elder' (yH HO784.out) (Kd.R_base ho0) hb); replace HB := aM (below_step yB hb); clear hb ho0))
     go_ret2
     exact ⟨_, by first | rfl | (simp [errW_none, errW_some] <;> rfl) | (simp [*, errW_none, errW_some] <;> rfl), by first | exact Kd.R_nil _ _ _ _ _ | exact Kd.N_nil _ _ _ _ _ | exact Kd.V_nil _ _ _ _ _ | exact Kd.Q_nil _ _ _ _ _ | exact Kd.S_nil _ _ _ _ _, yB⟩
end Go.Proofs.Ytfoponahdidddaa.P
