/- Own and printed texts that the theorem of InterThree reaches, put together. -/
import Derived.Test.YtfoponahdidddaaqInterThree4
import Derived.Test.YtfoponahdidddaaqInterThree3
import Derived.Test.YtfoponahdidddaaqInterThree10
set_option linter.unusedVariables false
set_option linter.unusedSimpArgs false
namespace Go.Proofs.Ytfoponahdidddaa.P
open Go.RowKit Go.Proofs.YtfoponahdidddaaW.PrintWords Go.Proofs.YtfoponahdidddaaW.PrintLast Go.Proofs.YtfoponahdidddaaW.PrintMore
open Go.Proofs.YtfoponahdidddaaW.PrintWords renaming blk_alloc → kA, blk_drewN → kN, blk_drew → kD
open Go.Proofs.YtfoponahdidddaaW.PrintWords.Aside0 renaming mk → aM
open Go.World renaming block_lt_of_cell? → bL
open Option renaming bind_eq_some_iff → bS
open List renaming length_drop → lD, length_take → lT
attribute [local go_sem] max2_int min2_int max_two min_two max_three min_three max_four min_four
set_option maxHeartbeats 8000000 in
set_option maxRecDepth 100000 in
theorem patchworkref1_Join.calls (k : Nat) (A0 : Option Addr) (c0 : Nat) (l0 : List ByteArray) (r : ByteArray) (w : World) (hr0 : Kd.C Kd.string w A0 l0.length l0) (hc0 : l0.length ≤ c0) (h : patchworkref1_Join.f k l0 = some r) :
  Calls Try.prog 43 #[.slice A0 l0.length c0] w fun e w' => e = .returned (.string r) ∧ Below w.heap.size w w' := by
 have HR0 := aM hr0
 have HC0 := aM hc0
 clear hr0 hc0
 have HB := aM (Below.refl w.heap.size w)
 have H : (patchworkref1_Join.l0 k l0 ([] : List Int) 0) = some r := h
 clear h
 have H' := aM H
 clear H
 go_enter Try.func43, Try.ntmps43
 go_wp2
 go_loopg [3, 4] k (fun kq v3 v4 w' => ∃ (x3_1 : List Int) (x4_1 : Int), v4 = .int .i64 x4_1 ∧ Aside0 (patchworkref1_Join.l0 kq l0 x3_1 x4_1 = some r) ∧ Aside0 (kq ≤ k) ∧ Aside0 (Kd.R (Kd.int .u8) 5 w' w.heap.size (fun _ => True) v3 x3_1) ∧ Aside0 (Below w.heap.size w w'))
 case atStart => exact ⟨(([] : List Int)), (0), yE, H', ⟨Nat.le_refl _⟩, ⟨by first | exact Kd.R_nil _ _ _ _ _ | exact Kd.N_nil _ _ _ _ _ | exact Kd.V_nil _ _ _ _ _ | exact Kd.Q_nil _ _ _ _ _ | exact Kd.S_nil _ _ _ _ _⟩, ⟨yB⟩⟩
 case round =>
  clear H'; obtain ⟨x3_1, x4_1, rfl, HA, HK1, HO_3, HB⟩ := hrel; cases gk with
  | zero => exact absurd HA.out (by simp [patchworkref1_Join.l0])
  | succ k1 =>
   have H := HA.out; clear HA; simp only [patchworkref1_Join.l0] at H
   by_cases c2 : x4_1 < (l0.length : Int)
   ·rw [if_pos c2] at H
    have c2b0 := decide_eq_true c2; clear c2
    by_cases c3 : 0 ≤ x4_1
    ·rw [if_pos c3] at H
     have c3b0 := decide_eq_true c3; clear c3
     by_cases c4 : x3_1.length + (rdOf ByteArray.empty l0 x4_1).size < 140737488355328
     ·rw [if_pos c4] at H
      have LMc4 := aM c4; clear c4; obtain ⟨y385, hy385⟩ : ∃ y_ : List Int, y_ = (x3_1 ++ bytesOf (rdOf ByteArray.empty l0 x4_1)) := ⟨_, rfl⟩; replace H : (patchworkref1_Join.l0 k1 l0 y385 (wrap64 (x4_1 + 1))) = some r := yN hy385 H
      have Ny385 := aM hy385; clear hy385; have H' := aM H; clear H; have p384 : 0 ≤ (x4_1 : Int) := yO; have q384 : x4_1 < (l0.length : Int) := yO; obtain ⟨ad384, e384, hx384_0⟩ := Kd.at_string HR0.out x4_1 p384 q384; cases e384; replace hx384_0 := (HB.out.cell (bL w _ hx384_0)).trans hx384_0; replace p384 := eq_true p384; replace q384 := eq_true q384
      go_wp2_with (first | (at_builtin; refine print_append_str (w0 := w) w.heap.size rfl (.tmp 11) _ 78 9 5 rfl Try.underlying78 Try.underlying9 info5 u3 x3_1 (rdOf ByteArray.empty l0 x4_1) rfl rfl ?aO ?aB ?aS ?aL ?_; (case aB => exact yB); (case aO => exact (Kd.own_of_R (yH HO_3.out))); (case aS => exact yW); (case aL => have := LMc4.out; omega); intro v386 w5 ho0 hb hg; have ho := Kd.R_of_own (h1 := fun _ => rfl) (ok := fun _ => True) ho0 (fun _ _ => trivial); clear ho0; have hat := True.intro; rw [← Ny385.out] at ho; change Kd.R (Kd.int .u8) 5 w5 w.heap.size (fun _ => True) v386 y385 at ho; have n0_ := aM (hb); have n1_ := aM (ho); clear HB; clear HO_3; have HB := n0_; have HO387 := n1_; clear n0_ n1_; clear ho hb hg hat))
      go_roundg k1
      case measure => have := HK1.out; omega
      case rel => exact ⟨(y385), (wrap64 (x4_1 + 1)), yE, H', ⟨by have := HK1.out; omega⟩, ⟨yH HO387.out⟩, ⟨yB⟩⟩
     ·rw [if_neg c4] at H
      exact absurd H (by simp)
    ·rw [if_neg c3] at H
     exact absurd H (by simp)
   ·rw [if_neg c2] at H
    have c2b0 := decide_eq_false c2; clear c2; obtain rfl := Option.some.inj H; have hcv6 := own_string (P := Try.prog) Try.underlying78 Try.underlying5 Try.underlying9 (Kd.own_of_R HO_3.out)
    go_wp2
    go_ret
    exact ⟨yE2, yB⟩
set_option maxHeartbeats 8000000 in
set_option maxRecDepth 100000 in
theorem patchworklaw9_Short.calls (k : Nat) (A0 : Option Addr) (c0 : Nat) (l0 : List ByteArray) (r : Bool) (w : World) (hr0 : Kd.C Kd.string w A0 l0.length l0) (hc0 : l0.length ≤ c0) (h : patchworklaw9_Short.f k l0 = some r) :
  Calls Try.prog 20 #[.slice A0 l0.length c0] w fun e w' => e = .returned (.bool r) ∧ Below w.heap.size w w' := by
 have HR0 := aM hr0
 have HC0 := aM hc0
 clear hr0 hc0
 have HB := aM (Below.refl w.heap.size w)
 have H : (if (l0.length : Int) ≤ 300 then ((patchworkref1_Join.f k l0).bind fun t388 => (some (decide ((t388.size : Int) ≤ 2000)))) else (some false)) = some r := h
 clear h
 by_cases c2 : (l0.length : Int) ≤ 300
 ·rw [if_pos c2] at H
  have c2b0 := decide_eq_true c2; have c2b1 : decide (l0.length ≤ 300) = true := decide_eq_true (by omega); clear c2; obtain ⟨t388, A3, H⟩ := oB H; obtain rfl := Option.some.inj H
  go_enter Try.func20, Try.ntmps20
  go_wp2_with (first | (go_at_call 43; (with_reducible refine (patchworkref1_Join.calls k _ _ l0 t388 _ (yC HR0.out) HC0.out A3.out).mono ?_); rintro e w4 ⟨rfl, hb⟩; replace HB := aM (below_step yB hb); clear hb))
  go_ret
  exact ⟨yE2, yB⟩
 ·rw [if_neg c2] at H
  have c2b0 := decide_eq_false c2; have c2b1 : decide (l0.length ≤ 300) = false := decide_eq_false (by omega); clear c2; obtain rfl := Option.some.inj H
  go_enter Try.func20, Try.ntmps20
  go_wp2
  go_ret
  exact ⟨yE2, yB⟩
set_option maxHeartbeats 8000000 in
set_option maxRecDepth 100000 in
theorem patchworkref1_Whole.calls (k : Nat) (A0 : Option Addr) (c0 : Nat) (l0 : List ByteArray) (r : Bool) (w : World) (hr0 : Kd.C Kd.string w A0 l0.length l0) (hc0 : l0.length ≤ c0) (h : patchworkref1_Whole.f k l0 = some r) :
  Calls Try.prog 44 #[.slice A0 l0.length c0] w fun e w' => e = .returned (.bool r) ∧ Drawn0 w w' := by
 have HR0 := aM hr0
 have HC0 := aM hc0
 clear hr0 hc0
 have H : (patchworkref1_Whole.l0 k l0 0) = some r := h
 clear h
 have H' := aM H
 clear H
 go_enter Try.func44, Try.ntmps44
 go_wp2
 go_loopg [3] k (fun kq v3 w' => ∃ (x3_1 : Int), v3 = .int .i64 x3_1 ∧ Aside0 (patchworkref1_Whole.l0 kq l0 x3_1 = some r) ∧ Aside0 (kq ≤ k) ∧ Drawn0 w w')
 case atStart => exact ⟨(0), yE, H', ⟨Nat.le_refl _⟩, yD⟩
 case round =>
  clear H'; obtain ⟨x3_1, rfl, HA, HK1, ⟨m1, rfl⟩⟩ := hrel; cases gk with
  | zero => exact absurd HA.out (by simp [patchworkref1_Whole.l0])
  | succ k1 =>
   have H := HA.out; clear HA; simp only [patchworkref1_Whole.l0] at H
   by_cases c2 : x3_1 < (l0.length : Int)
   ·rw [if_pos c2] at H
    have c2b0 := decide_eq_true c2; clear c2
    by_cases c3 : 0 ≤ x3_1
    ·rw [if_pos c3] at H
     have c3b0 := decide_eq_true c3; clear c3; obtain ⟨t390, A4, H⟩ := oB H
     by_cases c5 : t390 = true
     ·subst c5
      replace H := iT H; obtain ⟨t392, A6, H⟩ := oB H
      by_cases c7 : t392 = true
      ·subst c7
       replace H := iT H
       by_cases c8 : (wrap64 (x3_1 + 1)) < (l0.length : Int)
       ·rw [if_pos c8] at H
        have c8b0 := decide_eq_true c8; clear c8; obtain rfl := Option.some.inj H; have p389 : 0 ≤ (x3_1 : Int) := yO; have q389 : x3_1 < (l0.length : Int) := yO; obtain ⟨ad389, e389, hx389_0⟩ := Kd.at_string HR0.out x3_1 p389 q389; cases e389; replace p389 := eq_true p389; replace q389 := eq_true q389
        go_wp2_with (first | ((with_reducible refine gate_callee (f := 55) rfl ?_); refine goesL_ (some 14) rfl rfl Try.func55 yK rfl #[.string (rdOf ByteArray.empty l0 x3_1)] rfl yG ?_; (with_reducible refine (patchworkref1_RightLine.calls k1 (rdOf ByteArray.empty l0 x3_1) true _ A4.out).mono ?_); rintro e w' ⟨rfl, ⟨nd, rfl⟩⟩; refine ⟨_, rfl, ?_⟩; have p391 : 0 ≤ (x3_1 : Int) := yO; have q391 : x3_1 < (l0.length : Int) := yO; obtain ⟨ad391, e391, hx391_0⟩ := Kd.at_string HR0.out x3_1 p391 q391; obtain rfl : ad389 = ad391 := (by injection e391); replace p391 := eq_true p391; replace q391 := eq_true q391) | (go_at_call 56; (with_reducible refine (patchworkref1_Open.calls (rdOf ByteArray.empty l0 x3_1) true _ A6.out).mono ?_); rintro e w' ⟨rfl, ⟨nd, rfl⟩⟩))
        go_ret
        exact ⟨yE, yD⟩
       ·rw [if_neg c8] at H
        have c8b0 := decide_eq_false c8; clear c8; have H' := aM H; clear H; have p389 : 0 ≤ (x3_1 : Int) := yO; have q389 : x3_1 < (l0.length : Int) := yO; obtain ⟨ad389, e389, hx389_0⟩ := Kd.at_string HR0.out x3_1 p389 q389; cases e389; replace p389 := eq_true p389; replace q389 := eq_true q389
        go_wp2_with (first | ((with_reducible refine gate_callee (f := 55) rfl ?_); refine goesL_ (some 14) rfl rfl Try.func55 yK rfl #[.string (rdOf ByteArray.empty l0 x3_1)] rfl yG ?_; (with_reducible refine (patchworkref1_RightLine.calls k1 (rdOf ByteArray.empty l0 x3_1) true _ A4.out).mono ?_); rintro e w' ⟨rfl, ⟨nd, rfl⟩⟩; refine ⟨_, rfl, ?_⟩; have p391 : 0 ≤ (x3_1 : Int) := yO; have q391 : x3_1 < (l0.length : Int) := yO; obtain ⟨ad391, e391, hx391_0⟩ := Kd.at_string HR0.out x3_1 p391 q391; obtain rfl : ad389 = ad391 := (by injection e391); replace p391 := eq_true p391; replace q391 := eq_true q391) | (go_at_call 56; (with_reducible refine (patchworkref1_Open.calls (rdOf ByteArray.empty l0 x3_1) true _ A6.out).mono ?_); rintro e w' ⟨rfl, ⟨nd, rfl⟩⟩))
        go_roundg k1
        case measure => have := HK1.out; omega
        case rel => exact ⟨(wrap64 (x3_1 + 1)), yE, H', ⟨by have := HK1.out; omega⟩, yD⟩
      ·replace c7 := Bool.eq_false_iff.mpr c7
       subst c7; have H' := aM (iF H); clear H; have p389 : 0 ≤ (x3_1 : Int) := yO; have q389 : x3_1 < (l0.length : Int) := yO; obtain ⟨ad389, e389, hx389_0⟩ := Kd.at_string HR0.out x3_1 p389 q389; cases e389; replace p389 := eq_true p389; replace q389 := eq_true q389
       go_wp2_with (first | ((with_reducible refine gate_callee (f := 55) rfl ?_); refine goesL_ (some 14) rfl rfl Try.func55 yK rfl #[.string (rdOf ByteArray.empty l0 x3_1)] rfl yG ?_; (with_reducible refine (patchworkref1_RightLine.calls k1 (rdOf ByteArray.empty l0 x3_1) true _ A4.out).mono ?_); rintro e w' ⟨rfl, ⟨nd, rfl⟩⟩; refine ⟨_, rfl, ?_⟩; have p391 : 0 ≤ (x3_1 : Int) := yO; have q391 : x3_1 < (l0.length : Int) := yO; obtain ⟨ad391, e391, hx391_0⟩ := Kd.at_string HR0.out x3_1 p391 q391; obtain rfl : ad389 = ad391 := (by injection e391); replace p391 := eq_true p391; replace q391 := eq_true q391) | (go_at_call 56; (with_reducible refine (patchworkref1_Open.calls (rdOf ByteArray.empty l0 x3_1) false _ A6.out).mono ?_); rintro e w' ⟨rfl, ⟨nd, rfl⟩⟩))
       go_roundg k1
       case measure => have := HK1.out; omega
       case rel => exact ⟨(wrap64 (x3_1 + 1)), yE, H', ⟨by have := HK1.out; omega⟩, yD⟩
     ·replace c5 := Bool.eq_false_iff.mpr c5
      subst c5; replace H := iF H; obtain rfl := Option.some.inj H; have p389 : 0 ≤ (x3_1 : Int) := yO; have q389 : x3_1 < (l0.length : Int) := yO; obtain ⟨ad389, e389, hx389_0⟩ := Kd.at_string HR0.out x3_1 p389 q389; cases e389; replace p389 := eq_true p389; replace q389 := eq_true q389
      go_wp2_with (first | ((with_reducible refine gate_callee (f := 55) rfl ?_); refine goesL_ (some 14) rfl rfl Try.func55 yK rfl #[.string (rdOf ByteArray.empty l0 x3_1)] rfl yG ?_; (with_reducible refine (patchworkref1_RightLine.calls k1 (rdOf ByteArray.empty l0 x3_1) false _ A4.out).mono ?_); rintro e w' ⟨rfl, ⟨nd, rfl⟩⟩; refine ⟨_, rfl, ?_⟩))
      go_ret
      exact ⟨yE, yD⟩
    ·rw [if_neg c3] at H
     exact absurd H (by simp)
   ·rw [if_neg c2] at H
    have c2b0 := decide_eq_false c2; clear c2; obtain rfl := Option.some.inj H
    go_wp2
    go_ret
    exact ⟨yE, yD⟩
set_option maxHeartbeats 8000000 in
set_option maxRecDepth 100000 in
theorem patchworkref8_Do.calls (k : Nat) (A0 : Option Addr) (c0 : Nat) (l0 : List (Op)) (A1 : Option Addr) (c1 : Nat) (l1 : List ByteArray) (r1 : List ByteArray) (r2 : Bool) (w : World) (hr0 : Kd.C kOp w A0 l0.length l0) (hc0 : l0.length ≤ c0) (hr1 : Kd.C Kd.string w A1 l1.length l1) (hc1 : l1.length ≤ c1) (h : patchworkref8_Do.f k l0 l1 = some (r1, r2)) :
  Calls Try.prog 21 #[.slice A0 l0.length c0, .slice A1 l1.length c1] w fun e w' => ∃ v0_ : Value, e = .returned (.tuple #[v0_, .bool r2]) ∧ Kd.R Kd.string 9 w' w.heap.size (fun _ => True) v0_ r1 ∧ Below w.heap.size w w' := by
 have hu41 := Try.underlying41
 have HR0 := aM hr0
 have HC0 := aM hc0
 clear hr0 hc0
 have HR1 := aM hr1
 have HC1 := aM hc1
 clear hr1 hc1
 have HB := aM (Below.refl w.heap.size w)
 have H : ((patchworkref8_Right.f k l0).bind fun t393 => (if t393 = true then ((patchworkref1_Whole.f k l1).bind fun t394 => (patchworkref8_Do.j0 k l0 l1 (!t394))) else (patchworkref8_Do.j0 k l0 l1 true))) = some (r1, r2) := h
 clear h
 have HC3 := aM H
 clear H
 go_enter Try.func21, Try.ntmps21
 go_upto_region 1 with (fail)
 repeat (go_quiet (fail); go_upto_region 1 with (fail))
 go_cut [17] (fun v17 wc => ∃ (kq : Nat) (x17_2 : Bool), v17 = .bool x17_2 ∧ Aside0 (patchworkref8_Do.j0 kq l0 l1 x17_2 = some (r1, r2)) ∧ Aside0 (kq ≤ k) ∧ Aside0 (Below w.heap.size w wc))
 case first =>
  have H := HC3.out; clear HC3; replace H := bS.mp H; obtain ⟨t393, A40, H⟩ := H; replace H : (if t393 = true then ((patchworkref1_Whole.f k l1).bind fun t394 => (patchworkref8_Do.j0 k l0 l1 (!t394))) else (patchworkref8_Do.j0 k l0 l1 true)) = some (r1, r2) := H; have A4 := aM A40; clear A40
  by_cases c5 : t393 = true
  ·subst c5
   replace H := iT H; replace H := bS.mp H; obtain ⟨t394, A60, H⟩ := H; replace H : (patchworkref8_Do.j0 k l0 l1 (!t394)) = some (r1, r2) := H; have A6 := aM A60; clear A60; have H' := aM H; clear H
   go_wp2_with (first | (go_at_call 32; (with_reducible refine (patchworkref8_Right.calls k _ _ l0 true _ (yC (Kd.C_below HR0.out HB.out)) HC0.out A4.out).mono ?_); rintro e w7 ⟨rfl, hb⟩; replace HB := aM (below_step yB hb); clear hb) | (go_at_call 44; (with_reducible refine (patchworkref1_Whole.calls k _ _ l1 t394 _ (yC (Kd.C_below HR1.out HB.out)) HC1.out A6.out).mono ?_); rintro e w' ⟨rfl, ⟨nd, rfl⟩⟩; (try first | exact ⟨rfl, _, World.drewN_drewN _ _ _⟩ | exact ⟨rfl, _, Eq.trans (World.drewN_drewN _ _ _) (congrArg (World.drewN _) (Nat.add_assoc _ _ _))⟩)))
   repeat (go_quiet (first | (go_at_call 32; (with_reducible refine (patchworkref8_Right.calls k _ _ l0 true _ (yC (Kd.C_below HR0.out HB.out)) HC0.out A4.out).mono ?_); rintro e w7 ⟨rfl, hb⟩; replace HB := aM (below_step yB hb); clear hb) | (go_at_call 44; (with_reducible refine (patchworkref1_Whole.calls k _ _ l1 t394 _ (yC (Kd.C_below HR1.out HB.out)) HC1.out A6.out).mono ?_); rintro e w' ⟨rfl, ⟨nd, rfl⟩⟩; (try first | exact ⟨rfl, _, World.drewN_drewN _ _ _⟩ | exact ⟨rfl, _, Eq.trans (World.drewN_drewN _ _ _) (congrArg (World.drewN _) (Nat.add_assoc _ _ _))⟩))); try go_wp2_with (first | (go_at_call 32; (with_reducible refine (patchworkref8_Right.calls k _ _ l0 true _ (yC (Kd.C_below HR0.out HB.out)) HC0.out A4.out).mono ?_); rintro e w7 ⟨rfl, hb⟩; replace HB := aM (below_step yB hb); clear hb) | (go_at_call 44; (with_reducible refine (patchworkref1_Whole.calls k _ _ l1 t394 _ (yC (Kd.C_below HR1.out HB.out)) HC1.out A6.out).mono ?_); rintro e w' ⟨rfl, ⟨nd, rfl⟩⟩; (try first | exact ⟨rfl, _, World.drewN_drewN _ _ _⟩ | exact ⟨rfl, _, Eq.trans (World.drewN_drewN _ _ _) (congrArg (World.drewN _) (Nat.add_assoc _ _ _))⟩))))
   go_meet
   case rel => exact ⟨_, (!t394), yE, H', ⟨by first | omega | exact Nat.le_refl _⟩, ⟨yB⟩⟩
  ·replace c5 := Bool.eq_false_iff.mpr c5
   subst c5; have H' := aM (iF H); clear H
   go_wp2_with (first | (go_at_call 32; (with_reducible refine (patchworkref8_Right.calls k _ _ l0 false _ (yC (Kd.C_below HR0.out HB.out)) HC0.out A4.out).mono ?_); rintro e w8 ⟨rfl, hb⟩; replace HB := aM (below_step yB hb); clear hb))
   repeat (go_quiet (first | (go_at_call 32; (with_reducible refine (patchworkref8_Right.calls k _ _ l0 false _ (yC (Kd.C_below HR0.out HB.out)) HC0.out A4.out).mono ?_); rintro e w8 ⟨rfl, hb⟩; replace HB := aM (below_step yB hb); clear hb)); try go_wp2_with (first | (go_at_call 32; (with_reducible refine (patchworkref8_Right.calls k _ _ l0 false _ (yC (Kd.C_below HR0.out HB.out)) HC0.out A4.out).mono ?_); rintro e w8 ⟨rfl, hb⟩; replace HB := aM (below_step yB hb); clear hb)))
   go_meet
   case rel => exact ⟨_, (true), yE, H', ⟨by first | omega | exact Nat.le_refl _⟩, ⟨yB⟩⟩
 case rest =>
  clear HC3; (try clear c1); (try clear c2); (try clear p2); (try clear c5); obtain ⟨kq, x17_2, rfl, HA, HJ2, HB⟩ := hcut; cases kq with
  | zero => exact absurd HA.out (by simp [patchworkref8_Do.j0])
  | succ kj2 =>
   have H := HA.out; clear HA; simp only [patchworkref8_Do.j0] at H
   by_cases c9 : x17_2 = true
   ·subst c9
    replace H := iT H; simp only [Option.some.injEq, Prod.mk.injEq] at H; obtain ⟨rfl, rfl⟩ := H
    go_wp2
    repeat (go_quiet (fail); try go_wp2)
    go_ret2
    exact ⟨_, by first | rfl | (simp [errW_none, errW_some] <;> rfl) | (simp [*, errW_none, errW_some] <;> rfl), by first | exact Kd.R_nil _ _ _ _ _ | exact Kd.N_nil _ _ _ _ _ | exact Kd.V_nil _ _ _ _ _ | exact Kd.Q_nil _ _ _ _ _ | exact Kd.S_nil _ _ _ _ _, yB⟩
   ·replace c9 := Bool.eq_false_iff.mpr c9
    subst c9; have H' := aM (iF H); clear H
    go_wp2
    repeat (go_quiet (fail); try go_wp2)
    go_loopg [6, 7, 8] kj2 (fun kq v6 v7 v8 w' => ∃ (x6_2 : List ByteArray) (x7_2 : Int) (x8_2 : Int), v7 = .int .i64 x7_2 ∧ v8 = .int .i64 x8_2 ∧ Aside0 (patchworkref8_Do.l0 kq l0 l1 x6_2 x7_2 x8_2 = some (r1, r2)) ∧ Aside0 (kq ≤ kj2) ∧ Aside0 (Kd.R Kd.string 9 w' w.heap.size (fun _ => True) v6 x6_2) ∧ Aside0 (Below w.heap.size w w'))
    case atStart => exact ⟨(([] : List ByteArray)), (0), (0), yE, yE, H', ⟨Nat.le_refl _⟩, ⟨by first | exact Kd.R_nil _ _ _ _ _ | exact Kd.N_nil _ _ _ _ _ | exact Kd.V_nil _ _ _ _ _ | exact Kd.Q_nil _ _ _ _ _ | exact Kd.S_nil _ _ _ _ _⟩, ⟨yB⟩⟩
    case round =>
     clear H'; (try clear c1); (try clear c2); (try clear p2); (try clear c5); (try clear c9); (try clear p2); obtain ⟨x6_2, x7_2, x8_2, rfl, rfl, HA, HK2, HO_6, HB⟩ := hrel; cases gk with
     | zero => exact absurd HA.out (by simp [patchworkref8_Do.l0])
     | succ k2 =>
      have H := HA.out; clear HA; simp only [patchworkref8_Do.l0] at H
      by_cases c10 : x8_2 < (l0.length : Int)
      ·rw [if_pos c10] at H
       have c10b0 := decide_eq_true c10; clear c10
       by_cases c11 : 0 ≤ x8_2
       ·rw [if_pos c11] at H
        have c11b0 := decide_eq_true c11; clear c11
        by_cases c12 : ((rd_Op l0 x8_2).f0) = 1
        ·rw [if_pos c12] at H
         have c12b0 := beq_iff_eq.mpr c12; have c12b1 := bne_eq_false_iff_eq.mpr c12; clear c12
         by_cases c13 : (wrap64 ((l1.length : Int) - x7_2)) < ((rd_Op l0 x8_2).f1)
         ·rw [if_pos c13] at H
          have c13b0 := decide_eq_true c13; clear c13; simp only [Option.some.injEq, Prod.mk.injEq] at H; obtain ⟨rfl, rfl⟩ := H; have p400 : 0 ≤ (x8_2 : Int) := yO; have q400 : x8_2 < (l0.length : Int) := yO; obtain ⟨ad400, e400, hx400_0, hx400_1, hx400_2⟩ := at_OpB HB.out HR0.out x8_2 p400 q400; cases e400; replace p400 := eq_true p400; replace q400 := eq_true q400
          go_wp2_with (first | ((with_reducible refine gate_dst (N := 9) rfl ?_); refine box_event yR (N := 9) yR (cs := #[.int .i64 0, .int .i64 0, .string (⟨#[]⟩ : ByteArray)]) (t := 41) yQ ?_; intro gb401 hg w14 hbox hb; replace HO_6 := aM (Kd.R_below (yH HO_6.out) hb); have BK401 := aM (hbox); have GW401 := aM ((yS : w.heap.size ≤ gb401)); have GE401 := aM ((yS : w.heap.size ≤ gb401)); replace HB := aM (below_step yB hb); clear hb hbox hg; obtain ⟨hcz15_0, hcz15_1, hcz15_2, hfz15_0, hfz15_1, hfz15_2⟩ := blk3 BK401.out))
          repeat (go_quiet (first | ((with_reducible refine gate_dst (N := 9) rfl ?_); refine box_event yR (N := 9) yR (cs := #[.int .i64 0, .int .i64 0, .string (⟨#[]⟩ : ByteArray)]) (t := 41) yQ ?_; intro gb401 hg w14 hbox hb; replace HO_6 := aM (Kd.R_below (yH HO_6.out) hb); have BK401 := aM (hbox); have GW401 := aM ((yS : w.heap.size ≤ gb401)); have GE401 := aM ((yS : w.heap.size ≤ gb401)); replace HB := aM (below_step yB hb); clear hb hbox hg; obtain ⟨hcz15_0, hcz15_1, hcz15_2, hfz15_0, hfz15_1, hfz15_2⟩ := blk3 BK401.out)); try go_wp2_with (first | ((with_reducible refine gate_dst (N := 9) rfl ?_); refine box_event yR (N := 9) yR (cs := #[.int .i64 0, .int .i64 0, .string (⟨#[]⟩ : ByteArray)]) (t := 41) yQ ?_; intro gb401 hg w14 hbox hb; replace HO_6 := aM (Kd.R_below (yH HO_6.out) hb); have BK401 := aM (hbox); have GW401 := aM ((yS : w.heap.size ≤ gb401)); have GE401 := aM ((yS : w.heap.size ≤ gb401)); replace HB := aM (below_step yB hb); clear hb hbox hg; obtain ⟨hcz15_0, hcz15_1, hcz15_2, hfz15_0, hfz15_1, hfz15_2⟩ := blk3 BK401.out)))
          go_ret2
          exact ⟨_, by first | rfl | (simp [errW_none, errW_some] <;> rfl) | (simp [*, errW_none, errW_some] <;> rfl), by first | exact Kd.R_nil _ _ _ _ _ | exact Kd.N_nil _ _ _ _ _ | exact Kd.V_nil _ _ _ _ _ | exact Kd.Q_nil _ _ _ _ _ | exact Kd.S_nil _ _ _ _ _, yBg GE401.out⟩
         ·rw [if_neg c13] at H
          have c13b0 := decide_eq_false c13; clear c13
          by_cases c16 : 0 ≤ x7_2
          ·rw [if_pos c16] at H
           have c16b0 := eq_true c16; have c16b1 := decide_eq_true c16; clear c16
           by_cases c17 : x7_2 ≤ (wrap64 (x7_2 + ((rd_Op l0 x8_2).f1)))
           ·rw [if_pos c17] at H
            have c17b0 := eq_true c17; have c17b1 := decide_eq_true c17
            by_cases c18 : (wrap64 (x7_2 + ((rd_Op l0 x8_2).f1))) ≤ (l1.length : Int)
            ·rw [if_pos c18] at H
             have c18b0 := eq_true c18; have c18b1 := decide_eq_true c18
             by_cases c19 : x6_2.length + ((l1.take ((wrap64 (x7_2 + ((rd_Op l0 x8_2).f1))) : Int).toNat).drop (x7_2 : Int).toNat).length < 8796093022208
             ·rw [if_pos c19] at H
              have LMc19 := aM c19; clear c19; obtain ⟨y403, hy403⟩ : ∃ y_ : List ByteArray, y_ = (x6_2 ++ ((l1.take ((wrap64 (x7_2 + ((rd_Op l0 x8_2).f1))) : Int).toNat).drop (x7_2 : Int).toNat)) := ⟨_, rfl⟩; replace H : (patchworkref8_Do.l0 k2 l0 l1 y403 (wrap64 (x7_2 + ((rd_Op l0 x8_2).f1))) (wrap64 (x8_2 + 1))) = some (r1, r2) := by first | (rw [hy403]; with_reducible exact H) | (have H2_ := (Option.bind_some _ _).symm.trans H; rw [hy403]; with_reducible exact H2_) | (have H2_ := (Option.bind_some _ _).symm.trans H; with_reducible exact H2_) | with_reducible exact H | (rw [hy403]; exact H) | exact H
              have Ny403 := aM hy403; clear hy403; have H' := aM H; clear H; have p400 : 0 ≤ (x8_2 : Int) := yO; have q400 : x8_2 < (l0.length : Int) := yO; obtain ⟨ad400, e400, hx400_0, hx400_1, hx400_2⟩ := at_OpB HB.out HR0.out x8_2 p400 q400; cases e400; replace p400 := eq_true p400; replace q400 := eq_true q400
              go_wp2_with (first | ((with_reducible refine gate_dst (N := 9) rfl ?_); refine box_event yR (N := 9) yR (cs := #[.int .i64 0, .int .i64 0, .string (⟨#[]⟩ : ByteArray)]) (t := 41) yQ ?_; intro gb401 hg w20 hbox hb; replace HO_6 := aM (Kd.R_below (yH HO_6.out) hb); have BK401 := aM (hbox); have GW401 := aM ((yS : w.heap.size ≤ gb401)); have GE401 := aM ((yS : w.heap.size ≤ gb401)); replace HB := aM (below_step yB hb); clear hb hbox hg; obtain ⟨hcz21_0, hcz21_1, hcz21_2, hfz21_0, hfz21_1, hfz21_2⟩ := blk3 BK401.out; obtain ⟨i022, hi022, _, hsz22, _⟩ := info_parts info9; obtain ⟨A22, hcut22, hA22, hC22⟩ := print_mid_of (P := Try.prog) Value.string (⟨#[]⟩ : ByteArray) 32 9 .i64 .i64 Try.underlying32 hi022 hsz22 A1 c1 l1 x7_2 (wrap64 (x7_2 + ((rd_Op l0 x8_2).f1))) (yO) (by first | omega | exact yO) (yO) HC1.out; have HR402 := aM (Kd.C_of_reads (h1 := fun _ => rfl) (hA22 _ (Kd.reads_of_C HR1.out))); have HC402 := aM hC22; clear hA22 hC22 hi022 hsz22) | ((with_reducible refine gate_builtin (b := .append) (xs := #[.tmp 62, .tmp 69]) rfl ?_); at_builtin; refine Kd.R_append_rows Kd.string (w0 := w) w.heap.size rfl (.tmp 62) (.tmp 69) 32 9 (.string ⟨#[]⟩) 16 rfl Try.underlying32 info9 rfl (by decide) (by omega) u6 x6_2 ((l1.take ((wrap64 (x7_2 + ((rd_Op l0 x8_2).f1))) : Int).toNat).drop (x7_2 : Int).toNat) _ _ _ (fun _ => True) (fun _ => False) rfl rfl ?aO ?aR (fun _ _ h => h) (fun _ h => h.elim) ?aF ?aB ?aS ?aL ?_; (case aR => first | (rw [← show ((l1.take ((wrap64 (x7_2 + ((rd_Op l0 x8_2).f1))) : Int).toNat).drop (x7_2 : Int).toNat).length = ((wrap64 (x7_2 + ((rd_Op l0 x8_2).f1))).toNat - x7_2.toNat) from (by rw [lD, lT]; have h_ : ((wrap64 (x7_2 + ((rd_Op l0 x8_2).f1))) : Int) ≤ (l1.length : Int) := yO; omega)]; exact Kd.C_below HR402.out (yBg GE401.out)) | (exact Kd.C_below HR402.out (yBg GE401.out))); (case aB => exact (yBg GE401.out)); (case aF => exact (fun _ _ => trivial)); (case aO => exact (by (with_reducible repeat (first | apply Kd.R_alloc | apply Kd.R_drewN | apply Kd.R_drew)); exact Kd.R_mono (Kd.R_far (p := ⟨gb401, 2, none⟩) (Kd.R_far (p := ⟨gb401, 1, none⟩) (Kd.R_far (p := ⟨gb401, 0, none⟩) (Kd.R_types HO_6.out BK401.out (by decide)) (fun _ hk => hk.2) (.int .i64 ((rd_Op l0 x8_2).f0))) (fun _ hk => hk.2) (.int .i64 ((rd_Op l0 x8_2).f1))) (fun _ hk => hk.2) (.string ((rd_Op l0 x8_2).f2))) (fun _ hk => trivial))); (case aS => exact (below_size (yBg GE401.out))); (case aL => have := LMc19.out; have hlx_ := (show ((l1.take ((wrap64 (x7_2 + ((rd_Op l0 x8_2).f1))) : Int).toNat).drop (x7_2 : Int).toNat).length = ((wrap64 (x7_2 + ((rd_Op l0 x8_2).f1))).toNat - x7_2.toNat) from (by rw [lD, lT]; have h_ : ((wrap64 (x7_2 + ((rd_Op l0 x8_2).f1))) : Int) ≤ (l1.length : Int) := yO; omega)); omega); intro v404 w23 ho hb hg hat; rw [← Ny403.out] at ho; have n0_ := aM (blk_grown (g := gb401) (o := .cells #[.int .i64 ((rd_Op l0 x8_2).f0), .int .i64 ((rd_Op l0 x8_2).f1), .string ((rd_Op l0 x8_2).f2)] 41 (0, 0)) (by (with_reducible repeat (first | refine kN ?_ _ | refine kD ?_ | refine kA ?_ _)); refine blk_put (cs := #[.int .i64 ((rd_Op l0 x8_2).f0), .int .i64 ((rd_Op l0 x8_2).f1), .string (⟨#[]⟩ : ByteArray)]) ?_ 2 _ rfl; (with_reducible repeat (first | refine kN ?_ _ | refine kD ?_ | refine kA ?_ _)); refine blk_put (cs := #[.int .i64 ((rd_Op l0 x8_2).f0), .int .i64 0, .string (⟨#[]⟩ : ByteArray)]) ?_ 1 _ rfl; (with_reducible repeat (first | refine kN ?_ _ | refine kD ?_ | refine kA ?_ _)); refine blk_put (cs := #[.int .i64 0, .int .i64 0, .string (⟨#[]⟩ : ByteArray)]) ?_ 0 _ rfl; (with_reducible repeat (first | refine kN ?_ _ | refine kD ?_ | refine kA ?_ _)); exact BK401.out) hg (Kd.R_ne HO_6.out BK401.out (by decide))); have n1_ := aM (hb); have n2_ := aM (ho); clear BK401; clear HB; clear HO_6; have BK401 := n0_; have HB := n1_; have HO405 := n2_; clear n0_ n1_ n2_; clear ho hb hg hat; obtain ⟨hcz24_0, hcz24_1, hcz24_2, hfz24_0, hfz24_1, hfz24_2⟩ := blk3 BK401.out))
              repeat (go_quiet (first | ((with_reducible refine gate_dst (N := 9) rfl ?_); refine box_event yR (N := 9) yR (cs := #[.int .i64 0, .int .i64 0, .string (⟨#[]⟩ : ByteArray)]) (t := 41) yQ ?_; intro gb401 hg w20 hbox hb; replace HO_6 := aM (Kd.R_below (yH HO_6.out) hb); have BK401 := aM (hbox); have GW401 := aM ((yS : w.heap.size ≤ gb401)); have GE401 := aM ((yS : w.heap.size ≤ gb401)); replace HB := aM (below_step yB hb); clear hb hbox hg; obtain ⟨hcz21_0, hcz21_1, hcz21_2, hfz21_0, hfz21_1, hfz21_2⟩ := blk3 BK401.out; obtain ⟨i022, hi022, _, hsz22, _⟩ := info_parts info9; obtain ⟨A22, hcut22, hA22, hC22⟩ := print_mid_of (P := Try.prog) Value.string (⟨#[]⟩ : ByteArray) 32 9 .i64 .i64 Try.underlying32 hi022 hsz22 A1 c1 l1 x7_2 (wrap64 (x7_2 + ((rd_Op l0 x8_2).f1))) (yO) (by first | omega | exact yO) (yO) HC1.out; have HR402 := aM (Kd.C_of_reads (h1 := fun _ => rfl) (hA22 _ (Kd.reads_of_C HR1.out))); have HC402 := aM hC22; clear hA22 hC22 hi022 hsz22) | ((with_reducible refine gate_builtin (b := .append) (xs := #[.tmp 62, .tmp 69]) rfl ?_); at_builtin; refine Kd.R_append_rows Kd.string (w0 := w) w.heap.size rfl (.tmp 62) (.tmp 69) 32 9 (.string ⟨#[]⟩) 16 rfl Try.underlying32 info9 rfl (by decide) (by omega) u6 x6_2 ((l1.take ((wrap64 (x7_2 + ((rd_Op l0 x8_2).f1))) : Int).toNat).drop (x7_2 : Int).toNat) _ _ _ (fun _ => True) (fun _ => False) rfl rfl ?aO ?aR (fun _ _ h => h) (fun _ h => h.elim) ?aF ?aB ?aS ?aL ?_; (case aR => first | (rw [← show ((l1.take ((wrap64 (x7_2 + ((rd_Op l0 x8_2).f1))) : Int).toNat).drop (x7_2 : Int).toNat).length = ((wrap64 (x7_2 + ((rd_Op l0 x8_2).f1))).toNat - x7_2.toNat) from (by rw [lD, lT]; have h_ : ((wrap64 (x7_2 + ((rd_Op l0 x8_2).f1))) : Int) ≤ (l1.length : Int) := yO; omega)]; exact Kd.C_below HR402.out (yBg GE401.out)) | (exact Kd.C_below HR402.out (yBg GE401.out))); (case aB => exact (yBg GE401.out)); (case aF => exact (fun _ _ => trivial)); (case aO => exact (by (with_reducible repeat (first | apply Kd.R_alloc | apply Kd.R_drewN | apply Kd.R_drew)); exact Kd.R_mono (Kd.R_far (p := ⟨gb401, 2, none⟩) (Kd.R_far (p := ⟨gb401, 1, none⟩) (Kd.R_far (p := ⟨gb401, 0, none⟩) (Kd.R_types HO_6.out BK401.out (by decide)) (fun _ hk => hk.2) (.int .i64 ((rd_Op l0 x8_2).f0))) (fun _ hk => hk.2) (.int .i64 ((rd_Op l0 x8_2).f1))) (fun _ hk => hk.2) (.string ((rd_Op l0 x8_2).f2))) (fun _ hk => trivial))); (case aS => exact (below_size (yBg GE401.out))); (case aL => have := LMc19.out; have hlx_ := (show ((l1.take ((wrap64 (x7_2 + ((rd_Op l0 x8_2).f1))) : Int).toNat).drop (x7_2 : Int).toNat).length = ((wrap64 (x7_2 + ((rd_Op l0 x8_2).f1))).toNat - x7_2.toNat) from (by rw [lD, lT]; have h_ : ((wrap64 (x7_2 + ((rd_Op l0 x8_2).f1))) : Int) ≤ (l1.length : Int) := yO; omega)); omega); intro v404 w23 ho hb hg hat; rw [← Ny403.out] at ho; have n0_ := aM (blk_grown (g := gb401) (o := .cells #[.int .i64 ((rd_Op l0 x8_2).f0), .int .i64 ((rd_Op l0 x8_2).f1), .string ((rd_Op l0 x8_2).f2)] 41 (0, 0)) (by (with_reducible repeat (first | refine kN ?_ _ | refine kD ?_ | refine kA ?_ _)); refine blk_put (cs := #[.int .i64 ((rd_Op l0 x8_2).f0), .int .i64 ((rd_Op l0 x8_2).f1), .string (⟨#[]⟩ : ByteArray)]) ?_ 2 _ rfl; (with_reducible repeat (first | refine kN ?_ _ | refine kD ?_ | refine kA ?_ _)); refine blk_put (cs := #[.int .i64 ((rd_Op l0 x8_2).f0), .int .i64 0, .string (⟨#[]⟩ : ByteArray)]) ?_ 1 _ rfl; (with_reducible repeat (first | refine kN ?_ _ | refine kD ?_ | refine kA ?_ _)); refine blk_put (cs := #[.int .i64 0, .int .i64 0, .string (⟨#[]⟩ : ByteArray)]) ?_ 0 _ rfl; (with_reducible repeat (first | refine kN ?_ _ | refine kD ?_ | refine kA ?_ _)); exact BK401.out) hg (Kd.R_ne HO_6.out BK401.out (by decide))); have n1_ := aM (hb); have n2_ := aM (ho); clear BK401; clear HB; clear HO_6; have BK401 := n0_; have HB := n1_; have HO405 := n2_; clear n0_ n1_ n2_; clear ho hb hg hat; obtain ⟨hcz24_0, hcz24_1, hcz24_2, hfz24_0, hfz24_1, hfz24_2⟩ := blk3 BK401.out)); try go_wp2_with (first | ((with_reducible refine gate_dst (N := 9) rfl ?_); refine box_event yR (N := 9) yR (cs := #[.int .i64 0, .int .i64 0, .string (⟨#[]⟩ : ByteArray)]) (t := 41) yQ ?_; intro gb401 hg w20 hbox hb; replace HO_6 := aM (Kd.R_below (yH HO_6.out) hb); have BK401 := aM (hbox); have GW401 := aM ((yS : w.heap.size ≤ gb401)); have GE401 := aM ((yS : w.heap.size ≤ gb401)); replace HB := aM (below_step yB hb); clear hb hbox hg; obtain ⟨hcz21_0, hcz21_1, hcz21_2, hfz21_0, hfz21_1, hfz21_2⟩ := blk3 BK401.out; obtain ⟨i022, hi022, _, hsz22, _⟩ := info_parts info9; obtain ⟨A22, hcut22, hA22, hC22⟩ := print_mid_of (P := Try.prog) Value.string (⟨#[]⟩ : ByteArray) 32 9 .i64 .i64 Try.underlying32 hi022 hsz22 A1 c1 l1 x7_2 (wrap64 (x7_2 + ((rd_Op l0 x8_2).f1))) (yO) (by first | omega | exact yO) (yO) HC1.out; have HR402 := aM (Kd.C_of_reads (h1 := fun _ => rfl) (hA22 _ (Kd.reads_of_C HR1.out))); have HC402 := aM hC22; clear hA22 hC22 hi022 hsz22) | ((with_reducible refine gate_builtin (b := .append) (xs := #[.tmp 62, .tmp 69]) rfl ?_); at_builtin; refine Kd.R_append_rows Kd.string (w0 := w) w.heap.size rfl (.tmp 62) (.tmp 69) 32 9 (.string ⟨#[]⟩) 16 rfl Try.underlying32 info9 rfl (by decide) (by omega) u6 x6_2 ((l1.take ((wrap64 (x7_2 + ((rd_Op l0 x8_2).f1))) : Int).toNat).drop (x7_2 : Int).toNat) _ _ _ (fun _ => True) (fun _ => False) rfl rfl ?aO ?aR (fun _ _ h => h) (fun _ h => h.elim) ?aF ?aB ?aS ?aL ?_; (case aR => first | (rw [← show ((l1.take ((wrap64 (x7_2 + ((rd_Op l0 x8_2).f1))) : Int).toNat).drop (x7_2 : Int).toNat).length = ((wrap64 (x7_2 + ((rd_Op l0 x8_2).f1))).toNat - x7_2.toNat) from (by rw [lD, lT]; have h_ : ((wrap64 (x7_2 + ((rd_Op l0 x8_2).f1))) : Int) ≤ (l1.length : Int) := yO; omega)]; exact Kd.C_below HR402.out (yBg GE401.out)) | (exact Kd.C_below HR402.out (yBg GE401.out))); (case aB => exact (yBg GE401.out)); (case aF => exact (fun _ _ => trivial)); (case aO => exact (by (with_reducible repeat (first | apply Kd.R_alloc | apply Kd.R_drewN | apply Kd.R_drew)); exact Kd.R_mono (Kd.R_far (p := ⟨gb401, 2, none⟩) (Kd.R_far (p := ⟨gb401, 1, none⟩) (Kd.R_far (p := ⟨gb401, 0, none⟩) (Kd.R_types HO_6.out BK401.out (by decide)) (fun _ hk => hk.2) (.int .i64 ((rd_Op l0 x8_2).f0))) (fun _ hk => hk.2) (.int .i64 ((rd_Op l0 x8_2).f1))) (fun _ hk => hk.2) (.string ((rd_Op l0 x8_2).f2))) (fun _ hk => trivial))); (case aS => exact (below_size (yBg GE401.out))); (case aL => have := LMc19.out; have hlx_ := (show ((l1.take ((wrap64 (x7_2 + ((rd_Op l0 x8_2).f1))) : Int).toNat).drop (x7_2 : Int).toNat).length = ((wrap64 (x7_2 + ((rd_Op l0 x8_2).f1))).toNat - x7_2.toNat) from (by rw [lD, lT]; have h_ : ((wrap64 (x7_2 + ((rd_Op l0 x8_2).f1))) : Int) ≤ (l1.length : Int) := yO; omega)); omega); intro v404 w23 ho hb hg hat; rw [← Ny403.out] at ho; have n0_ := aM (blk_grown (g := gb401) (o := .cells #[.int .i64 ((rd_Op l0 x8_2).f0), .int .i64 ((rd_Op l0 x8_2).f1), .string ((rd_Op l0 x8_2).f2)] 41 (0, 0)) (by (with_reducible repeat (first | refine kN ?_ _ | refine kD ?_ | refine kA ?_ _)); refine blk_put (cs := #[.int .i64 ((rd_Op l0 x8_2).f0), .int .i64 ((rd_Op l0 x8_2).f1), .string (⟨#[]⟩ : ByteArray)]) ?_ 2 _ rfl; (with_reducible repeat (first | refine kN ?_ _ | refine kD ?_ | refine kA ?_ _)); refine blk_put (cs := #[.int .i64 ((rd_Op l0 x8_2).f0), .int .i64 0, .string (⟨#[]⟩ : ByteArray)]) ?_ 1 _ rfl; (with_reducible repeat (first | refine kN ?_ _ | refine kD ?_ | refine kA ?_ _)); refine blk_put (cs := #[.int .i64 0, .int .i64 0, .string (⟨#[]⟩ : ByteArray)]) ?_ 0 _ rfl; (with_reducible repeat (first | refine kN ?_ _ | refine kD ?_ | refine kA ?_ _)); exact BK401.out) hg (Kd.R_ne HO_6.out BK401.out (by decide))); have n1_ := aM (hb); have n2_ := aM (ho); clear BK401; clear HB; clear HO_6; have BK401 := n0_; have HB := n1_; have HO405 := n2_; clear n0_ n1_ n2_; clear ho hb hg hat; obtain ⟨hcz24_0, hcz24_1, hcz24_2, hfz24_0, hfz24_1, hfz24_2⟩ := blk3 BK401.out)))
              go_roundg k2
              case measure => have := HJ2.out; have := HK2.out; omega
              case rel => exact ⟨(y403), (wrap64 (x7_2 + ((rd_Op l0 x8_2).f1))), (wrap64 (x8_2 + 1)), yE, yE, H', ⟨by have := HJ2.out; have := HK2.out; omega⟩, ⟨yH HO405.out⟩, ⟨yBg GE401.out⟩⟩
             ·rw [if_neg c19] at H
              exact absurd H (by simp)
            ·rw [if_neg c18] at H
             exact absurd H (by simp)
           ·rw [if_neg c17] at H
            exact absurd H (by simp)
          ·rw [if_neg c16] at H
           exact absurd H (by simp)
        ·rw [if_neg c12] at H
         have c12b0 := beq_eq_false_iff_ne.mpr c12; have c12b1 := bne_iff_ne.mpr c12
         by_cases c25 : ((rd_Op l0 x8_2).f0) = 4
         ·rw [if_pos c25] at H
          have c25b0 := beq_iff_eq.mpr c25; have c25b1 := bne_eq_false_iff_eq.mpr c25; clear c25
          by_cases c26 : x6_2.length < 8796093022208
          ·rw [if_pos c26] at H
           have LMc26 := aM c26; clear c26; obtain ⟨y406, hy406⟩ : ∃ y_ : List ByteArray, y_ = (x6_2 ++ [(rd_Op l0 x8_2).f2]) := ⟨_, rfl⟩; replace H : (patchworkref8_Do.l0 k2 l0 l1 y406 x7_2 (wrap64 (x8_2 + 1))) = some (r1, r2) := by first | (rw [hy406]; with_reducible exact H) | (have H2_ := (Option.bind_some _ _).symm.trans H; rw [hy406]; with_reducible exact H2_) | (have H2_ := (Option.bind_some _ _).symm.trans H; with_reducible exact H2_) | with_reducible exact H | (rw [hy406]; exact H) | exact H
           have Ny406 := aM hy406; clear hy406; have H' := aM H; clear H; have p400 : 0 ≤ (x8_2 : Int) := yO; have q400 : x8_2 < (l0.length : Int) := yO; obtain ⟨ad400, e400, hx400_0, hx400_1, hx400_2⟩ := at_OpB HB.out HR0.out x8_2 p400 q400; cases e400; replace p400 := eq_true p400; replace q400 := eq_true q400
           go_wp2_with (first | ((with_reducible refine gate_dst (N := 9) rfl ?_); refine box_event yR (N := 9) yR (cs := #[.int .i64 0, .int .i64 0, .string (⟨#[]⟩ : ByteArray)]) (t := 41) yQ ?_; intro gb401 hg w27 hbox hb; replace HO_6 := aM (Kd.R_below (yH HO_6.out) hb); have BK401 := aM (hbox); have GW401 := aM ((yS : w.heap.size ≤ gb401)); have GE401 := aM ((yS : w.heap.size ≤ gb401)); replace HB := aM (below_step yB hb); clear hb hbox hg; obtain ⟨hcz28_0, hcz28_1, hcz28_2, hfz28_0, hfz28_1, hfz28_2⟩ := blk3 BK401.out) | ((with_reducible refine gate_builtin (b := .append) (xs := #[.tmp 77, .tmp 80]) rfl ?_); at_builtin; refine Kd.R_append Kd.string (w0 := w) w.heap.size rfl (.tmp 77) (.tmp 80) 32 9 (.string ⟨#[]⟩) 16 rfl Try.underlying32 info9 rfl (by decide) (by omega) u6 x6_2 ((rd_Op l0 x8_2).f2) [.string ((rd_Op l0 x8_2).f2)] (fun _ => True) (fun _ => False) rfl (by first | (go_simp; done) | (go_simp; rfl)) ?aP (fun _ hk => hk.elim) ?aF ?aO ?aB ?aS ?aL ?_; (case aP => exact rfl); (case aB => exact (yBg GE401.out)); (case aF => exact (fun _ _ => trivial)); (case aO => exact (by (with_reducible repeat (first | apply Kd.R_alloc | apply Kd.R_drewN | apply Kd.R_drew)); exact Kd.R_mono (Kd.R_far (p := ⟨gb401, 2, none⟩) (Kd.R_far (p := ⟨gb401, 1, none⟩) (Kd.R_far (p := ⟨gb401, 0, none⟩) (Kd.R_types HO_6.out BK401.out (by decide)) (fun _ hk => hk.2) (.int .i64 ((rd_Op l0 x8_2).f0))) (fun _ hk => hk.2) (.int .i64 ((rd_Op l0 x8_2).f1))) (fun _ hk => hk.2) (.string ((rd_Op l0 x8_2).f2))) (fun _ hk => trivial))); (case aS => exact (below_size (yBg GE401.out))); (case aL => have := LMc26.out; omega); intro v407 w29 ho hb hg hat; rw [← Ny406.out] at ho; have n0_ := aM (blk_grown (g := gb401) (o := .cells #[.int .i64 ((rd_Op l0 x8_2).f0), .int .i64 ((rd_Op l0 x8_2).f1), .string ((rd_Op l0 x8_2).f2)] 41 (0, 0)) (by (with_reducible repeat (first | refine kN ?_ _ | refine kD ?_ | refine kA ?_ _)); refine blk_put (cs := #[.int .i64 ((rd_Op l0 x8_2).f0), .int .i64 ((rd_Op l0 x8_2).f1), .string (⟨#[]⟩ : ByteArray)]) ?_ 2 _ rfl; (with_reducible repeat (first | refine kN ?_ _ | refine kD ?_ | refine kA ?_ _)); refine blk_put (cs := #[.int .i64 ((rd_Op l0 x8_2).f0), .int .i64 0, .string (⟨#[]⟩ : ByteArray)]) ?_ 1 _ rfl; (with_reducible repeat (first | refine kN ?_ _ | refine kD ?_ | refine kA ?_ _)); refine blk_put (cs := #[.int .i64 0, .int .i64 0, .string (⟨#[]⟩ : ByteArray)]) ?_ 0 _ rfl; (with_reducible repeat (first | refine kN ?_ _ | refine kD ?_ | refine kA ?_ _)); exact BK401.out) hg (Kd.R_ne HO_6.out BK401.out (by decide))); have n1_ := aM (hb); have n2_ := aM (ho); clear BK401; clear HB; clear HO_6; have BK401 := n0_; have HB := n1_; have HO408 := n2_; clear n0_ n1_ n2_; clear ho hb hg hat))
           repeat (go_quiet (first | ((with_reducible refine gate_dst (N := 9) rfl ?_); refine box_event yR (N := 9) yR (cs := #[.int .i64 0, .int .i64 0, .string (⟨#[]⟩ : ByteArray)]) (t := 41) yQ ?_; intro gb401 hg w27 hbox hb; replace HO_6 := aM (Kd.R_below (yH HO_6.out) hb); have BK401 := aM (hbox); have GW401 := aM ((yS : w.heap.size ≤ gb401)); have GE401 := aM ((yS : w.heap.size ≤ gb401)); replace HB := aM (below_step yB hb); clear hb hbox hg; obtain ⟨hcz28_0, hcz28_1, hcz28_2, hfz28_0, hfz28_1, hfz28_2⟩ := blk3 BK401.out) | ((with_reducible refine gate_builtin (b := .append) (xs := #[.tmp 77, .tmp 80]) rfl ?_); at_builtin; refine Kd.R_append Kd.string (w0 := w) w.heap.size rfl (.tmp 77) (.tmp 80) 32 9 (.string ⟨#[]⟩) 16 rfl Try.underlying32 info9 rfl (by decide) (by omega) u6 x6_2 ((rd_Op l0 x8_2).f2) [.string ((rd_Op l0 x8_2).f2)] (fun _ => True) (fun _ => False) rfl (by first | (go_simp; done) | (go_simp; rfl)) ?aP (fun _ hk => hk.elim) ?aF ?aO ?aB ?aS ?aL ?_; (case aP => exact rfl); (case aB => exact (yBg GE401.out)); (case aF => exact (fun _ _ => trivial)); (case aO => exact (by (with_reducible repeat (first | apply Kd.R_alloc | apply Kd.R_drewN | apply Kd.R_drew)); exact Kd.R_mono (Kd.R_far (p := ⟨gb401, 2, none⟩) (Kd.R_far (p := ⟨gb401, 1, none⟩) (Kd.R_far (p := ⟨gb401, 0, none⟩) (Kd.R_types HO_6.out BK401.out (by decide)) (fun _ hk => hk.2) (.int .i64 ((rd_Op l0 x8_2).f0))) (fun _ hk => hk.2) (.int .i64 ((rd_Op l0 x8_2).f1))) (fun _ hk => hk.2) (.string ((rd_Op l0 x8_2).f2))) (fun _ hk => trivial))); (case aS => exact (below_size (yBg GE401.out))); (case aL => have := LMc26.out; omega); intro v407 w29 ho hb hg hat; rw [← Ny406.out] at ho; have n0_ := aM (blk_grown (g := gb401) (o := .cells #[.int .i64 ((rd_Op l0 x8_2).f0), .int .i64 ((rd_Op l0 x8_2).f1), .string ((rd_Op l0 x8_2).f2)] 41 (0, 0)) (by (with_reducible repeat (first | refine kN ?_ _ | refine kD ?_ | refine kA ?_ _)); refine blk_put (cs := #[.int .i64 ((rd_Op l0 x8_2).f0), .int .i64 ((rd_Op l0 x8_2).f1), .string (⟨#[]⟩ : ByteArray)]) ?_ 2 _ rfl; (with_reducible repeat (first | refine kN ?_ _ | refine kD ?_ | refine kA ?_ _)); refine blk_put (cs := #[.int .i64 ((rd_Op l0 x8_2).f0), .int .i64 0, .string (⟨#[]⟩ : ByteArray)]) ?_ 1 _ rfl; (with_reducible repeat (first | refine kN ?_ _ | refine kD ?_ | refine kA ?_ _)); refine blk_put (cs := #[.int .i64 0, .int .i64 0, .string (⟨#[]⟩ : ByteArray)]) ?_ 0 _ rfl; (with_reducible repeat (first | refine kN ?_ _ | refine kD ?_ | refine kA ?_ _)); exact BK401.out) hg (Kd.R_ne HO_6.out BK401.out (by decide))); have n1_ := aM (hb); have n2_ := aM (ho); clear BK401; clear HB; clear HO_6; have BK401 := n0_; have HB := n1_; have HO408 := n2_; clear n0_ n1_ n2_; clear ho hb hg hat)); try go_wp2_with (first | ((with_reducible refine gate_dst (N := 9) rfl ?_); refine box_event yR (N := 9) yR (cs := #[.int .i64 0, .int .i64 0, .string (⟨#[]⟩ : ByteArray)]) (t := 41) yQ ?_; intro gb401 hg w27 hbox hb; replace HO_6 := aM (Kd.R_below (yH HO_6.out) hb); have BK401 := aM (hbox); have GW401 := aM ((yS : w.heap.size ≤ gb401)); have GE401 := aM ((yS : w.heap.size ≤ gb401)); replace HB := aM (below_step yB hb); clear hb hbox hg; obtain ⟨hcz28_0, hcz28_1, hcz28_2, hfz28_0, hfz28_1, hfz28_2⟩ := blk3 BK401.out) | ((with_reducible refine gate_builtin (b := .append) (xs := #[.tmp 77, .tmp 80]) rfl ?_); at_builtin; refine Kd.R_append Kd.string (w0 := w) w.heap.size rfl (.tmp 77) (.tmp 80) 32 9 (.string ⟨#[]⟩) 16 rfl Try.underlying32 info9 rfl (by decide) (by omega) u6 x6_2 ((rd_Op l0 x8_2).f2) [.string ((rd_Op l0 x8_2).f2)] (fun _ => True) (fun _ => False) rfl (by first | (go_simp; done) | (go_simp; rfl)) ?aP (fun _ hk => hk.elim) ?aF ?aO ?aB ?aS ?aL ?_; (case aP => exact rfl); (case aB => exact (yBg GE401.out)); (case aF => exact (fun _ _ => trivial)); (case aO => exact (by (with_reducible repeat (first | apply Kd.R_alloc | apply Kd.R_drewN | apply Kd.R_drew)); exact Kd.R_mono (Kd.R_far (p := ⟨gb401, 2, none⟩) (Kd.R_far (p := ⟨gb401, 1, none⟩) (Kd.R_far (p := ⟨gb401, 0, none⟩) (Kd.R_types HO_6.out BK401.out (by decide)) (fun _ hk => hk.2) (.int .i64 ((rd_Op l0 x8_2).f0))) (fun _ hk => hk.2) (.int .i64 ((rd_Op l0 x8_2).f1))) (fun _ hk => hk.2) (.string ((rd_Op l0 x8_2).f2))) (fun _ hk => trivial))); (case aS => exact (below_size (yBg GE401.out))); (case aL => have := LMc26.out; omega); intro v407 w29 ho hb hg hat; rw [← Ny406.out] at ho; have n0_ := aM (blk_grown (g := gb401) (o := .cells #[.int .i64 ((rd_Op l0 x8_2).f0), .int .i64 ((rd_Op l0 x8_2).f1), .string ((rd_Op l0 x8_2).f2)] 41 (0, 0)) (by (with_reducible repeat (first | refine kN ?_ _ | refine kD ?_ | refine kA ?_ _)); refine blk_put (cs := #[.int .i64 ((rd_Op l0 x8_2).f0), .int .i64 ((rd_Op l0 x8_2).f1), .string (⟨#[]⟩ : ByteArray)]) ?_ 2 _ rfl; (with_reducible repeat (first | refine kN ?_ _ | refine kD ?_ | refine kA ?_ _)); refine blk_put (cs := #[.int .i64 ((rd_Op l0 x8_2).f0), .int .i64 0, .string (⟨#[]⟩ : ByteArray)]) ?_ 1 _ rfl; (with_reducible repeat (first | refine kN ?_ _ | refine kD ?_ | refine kA ?_ _)); refine blk_put (cs := #[.int .i64 0, .int .i64 0, .string (⟨#[]⟩ : ByteArray)]) ?_ 0 _ rfl; (with_reducible repeat (first | refine kN ?_ _ | refine kD ?_ | refine kA ?_ _)); exact BK401.out) hg (Kd.R_ne HO_6.out BK401.out (by decide))); have n1_ := aM (hb); have n2_ := aM (ho); clear BK401; clear HB; clear HO_6; have BK401 := n0_; have HB := n1_; have HO408 := n2_; clear n0_ n1_ n2_; clear ho hb hg hat)))
           go_roundg k2
           case measure => have := HJ2.out; have := HK2.out; omega
           case rel => exact ⟨(y406), (x7_2), (wrap64 (x8_2 + 1)), yE, yE, H', ⟨by have := HJ2.out; have := HK2.out; omega⟩, ⟨yH HO408.out⟩, ⟨yBg GE401.out⟩⟩
          ·rw [if_neg c26] at H
           exact absurd H (by simp)
         ·rw [if_neg c25] at H
          have c25b0 := beq_eq_false_iff_ne.mpr c25; have c25b1 := bne_iff_ne.mpr c25; have HC30 := aM H; clear H; have p400 : 0 ≤ (x8_2 : Int) := yO; have q400 : x8_2 < (l0.length : Int) := yO; obtain ⟨ad400, e400, hx400_0, hx400_1, hx400_2⟩ := at_OpB HB.out HR0.out x8_2 p400 q400; cases e400; replace p400 := eq_true p400; replace q400 := eq_true q400
          go_upto_region 10 with (first | ((with_reducible refine gate_dst (N := 9) rfl ?_); refine box_event yR (N := 9) yR (cs := #[.int .i64 0, .int .i64 0, .string (⟨#[]⟩ : ByteArray)]) (t := 41) yQ ?_; intro gb401 hg w31 hbox hb; replace HO_6 := aM (Kd.R_below (yH HO_6.out) hb); have BK401 := aM (hbox); have GW401 := aM ((yS : w.heap.size ≤ gb401)); have GE401 := aM ((yS : w.heap.size ≤ gb401)); replace HB := aM (below_step yB hb); clear hb hbox hg; obtain ⟨hcz32_0, hcz32_1, hcz32_2, hfz32_0, hfz32_1, hfz32_2⟩ := blk3 BK401.out))
          repeat (go_quiet (first | ((with_reducible refine gate_dst (N := 9) rfl ?_); refine box_event yR (N := 9) yR (cs := #[.int .i64 0, .int .i64 0, .string (⟨#[]⟩ : ByteArray)]) (t := 41) yQ ?_; intro gb401 hg w31 hbox hb; replace HO_6 := aM (Kd.R_below (yH HO_6.out) hb); have BK401 := aM (hbox); have GW401 := aM ((yS : w.heap.size ≤ gb401)); have GE401 := aM ((yS : w.heap.size ≤ gb401)); replace HB := aM (below_step yB hb); clear hb hbox hg; obtain ⟨hcz32_0, hcz32_1, hcz32_2, hfz32_0, hfz32_1, hfz32_2⟩ := blk3 BK401.out)); go_upto_region 10 with (first | ((with_reducible refine gate_dst (N := 9) rfl ?_); refine box_event yR (N := 9) yR (cs := #[.int .i64 0, .int .i64 0, .string (⟨#[]⟩ : ByteArray)]) (t := 41) yQ ?_; intro gb401 hg w31 hbox hb; replace HO_6 := aM (Kd.R_below (yH HO_6.out) hb); have BK401 := aM (hbox); have GW401 := aM ((yS : w.heap.size ≤ gb401)); have GE401 := aM ((yS : w.heap.size ≤ gb401)); replace HB := aM (below_step yB hb); clear hb hbox hg; obtain ⟨hcz32_0, hcz32_1, hcz32_2, hfz32_0, hfz32_1, hfz32_2⟩ := blk3 BK401.out)))
          (try simp only [Act.put, List.setIfInBounds_toArray, List.set_cons_zero, List.set_cons_succ])
          go_cut [42] (fun v42 wc => ∃ (kq : Nat) (x42_29 : Bool), v42 = .bool x42_29 ∧ Aside0 (patchworkref8_Do.j2 kq l0 l1 x6_2 x7_2 x8_2 x42_29 ((rd_Op l0 x8_2).f0) ((rd_Op l0 x8_2).f1) ((rd_Op l0 x8_2).f2) = some (r1, r2)) ∧ Aside0 (kq ≤ k2) ∧ Aside0 (Kd.R Kd.string 9 wc w.heap.size (fun _ => True) u6 x6_2) ∧ Aside0 (wc.heap[gb401]? = some (.cells #[.int .i64 ((rd_Op l0 x8_2).f0), .int .i64 ((rd_Op l0 x8_2).f1), .string ((rd_Op l0 x8_2).f2)] 41 (0, 0))) ∧ Aside0 (Below w.heap.size w wc))
          case first =>
           have H := HC30.out; clear HC30
           by_cases c33 : x7_2 ≥ (l1.length : Int)
           ·rw [if_pos c33] at H
            have c33b0 := decide_eq_true c33; clear c33
            (first | rw [c33b0] | (simp only [i64_w, i32_w]; rw [c33b0]) | skip)
            have H' := aM H; clear H
            go_wp2
            repeat (go_quiet (fail); try go_wp2)
            go_meet
            case rel => exact ⟨_, (true), yE, H', ⟨by have := HJ2.out; have := HK2.out; first | omega | exact Nat.le_refl _⟩, ⟨by (with_reducible repeat (first | apply Kd.R_alloc | apply Kd.R_drewN | apply Kd.R_drew)); exact Kd.R_mono (Kd.R_far (p := ⟨gb401, 2, none⟩) (Kd.R_far (p := ⟨gb401, 1, none⟩) (Kd.R_far (p := ⟨gb401, 0, none⟩) (Kd.R_types HO_6.out BK401.out (by decide)) (fun _ hk => hk.2) (.int .i64 ((rd_Op l0 x8_2).f0))) (fun _ hk => hk.2) (.int .i64 ((rd_Op l0 x8_2).f1))) (fun _ hk => hk.2) (.string ((rd_Op l0 x8_2).f2))) (fun _ hk => trivial)⟩, ⟨by (with_reducible repeat (first | refine kN ?_ _ | refine kD ?_ | refine kA ?_ _)); refine blk_put (cs := #[.int .i64 ((rd_Op l0 x8_2).f0), .int .i64 ((rd_Op l0 x8_2).f1), .string (⟨#[]⟩ : ByteArray)]) ?_ 2 _ rfl; (with_reducible repeat (first | refine kN ?_ _ | refine kD ?_ | refine kA ?_ _)); refine blk_put (cs := #[.int .i64 ((rd_Op l0 x8_2).f0), .int .i64 0, .string (⟨#[]⟩ : ByteArray)]) ?_ 1 _ rfl; (with_reducible repeat (first | refine kN ?_ _ | refine kD ?_ | refine kA ?_ _)); refine blk_put (cs := #[.int .i64 0, .int .i64 0, .string (⟨#[]⟩ : ByteArray)]) ?_ 0 _ rfl; (with_reducible repeat (first | refine kN ?_ _ | refine kD ?_ | refine kA ?_ _)); exact BK401.out⟩, ⟨yBg GE401.out⟩⟩
           ·rw [if_neg c33] at H
            have c33b0 := decide_eq_false c33; clear c33
            (first | rw [c33b0] | (simp only [i64_w, i32_w]; rw [c33b0]) | skip)
            by_cases c34 : 0 ≤ x7_2
            ·rw [if_pos c34] at H
             have c34b0 := decide_eq_true c34; clear c34
             by_cases c35 : x7_2 < (l1.length : Int)
             ·rw [if_pos c35] at H
              have c35b0 := decide_eq_true c35; clear c35; have H' := aM H; clear H; have p409 : 0 ≤ (x7_2 : Int) := yO; have q409 : x7_2 < (l1.length : Int) := yO; obtain ⟨ad409, e409, hx409_0⟩ := Kd.at_string HR1.out x7_2 p409 q409; cases e409; have hn409_0 : ad409.block ≠ gb401 := Nat.ne_of_lt (Nat.lt_of_lt_of_le (by have := bL _ _ hx409_0; first | rwa [add_block] at this | exact this) GW401.out); have hn409_1 : ad409.block ≠ gb401 := Nat.ne_of_lt (Nat.lt_of_lt_of_le (by have := bL _ _ hx409_0; first | rwa [add_block] at this | exact this) GW401.out); have hn409_2 : ad409.block ≠ gb401 := Nat.ne_of_lt (Nat.lt_of_lt_of_le (by have := bL _ _ hx409_0; first | rwa [add_block] at this | exact this) GW401.out); replace hx409_0 := (HB.out.cell (bL w _ hx409_0)).trans hx409_0; replace hx409_0 := (cell_far (p := ⟨gb401, 0, none⟩) (by first | (rw [add_block]; exact hn409_0) | (show (Addr.add _ _).block ≠ _; rw [add_block]; exact hn409_0) | exact hn409_0) (.int .i64 ((rd_Op l0 x8_2).f0))).trans hx409_0; replace hx409_0 := (cell_far (p := ⟨gb401, 1, none⟩) (by first | (rw [add_block]; exact hn409_1) | (show (Addr.add _ _).block ≠ _; rw [add_block]; exact hn409_1) | exact hn409_1) (.int .i64 ((rd_Op l0 x8_2).f1))).trans hx409_0; replace hx409_0 := (cell_far (p := ⟨gb401, 2, none⟩) (by first | (rw [add_block]; exact hn409_2) | (show (Addr.add _ _).block ≠ _; rw [add_block]; exact hn409_2) | exact hn409_2) (.string ((rd_Op l0 x8_2).f2))).trans hx409_0
              (try have hy409_0 := fun (n_ : Nat) => (show (((((w31.drewN n_).setCell ⟨gb401, 0, none⟩ (.int .i64 ((rd_Op l0 x8_2).f0))).setCell ⟨gb401, 1, none⟩ (.int .i64 ((rd_Op l0 x8_2).f1))).setCell ⟨gb401, 2, none⟩ (.string ((rd_Op l0 x8_2).f2)))).cell? _ = some _ from hx409_0))
              clear hn409_0; clear hn409_1; clear hn409_2; replace p409 := eq_true p409; replace q409 := eq_true q409; obtain ⟨hcz36_0, hcz36_1, hcz36_2, hfz36_0, hfz36_1, hfz36_2⟩ := blk3 BK401.out
              go_wp2
              repeat (go_quiet (fail); try go_wp2)
              go_meet
              case rel => exact ⟨_, (((rdOf ByteArray.empty l1 x7_2).toList != ((rd_Op l0 x8_2).f2).toList)), yE, H', ⟨by have := HJ2.out; have := HK2.out; first | omega | exact Nat.le_refl _⟩, ⟨by (with_reducible repeat (first | apply Kd.R_alloc | apply Kd.R_drewN | apply Kd.R_drew)); exact Kd.R_mono (Kd.R_far (p := ⟨gb401, 2, none⟩) (Kd.R_far (p := ⟨gb401, 1, none⟩) (Kd.R_far (p := ⟨gb401, 0, none⟩) (Kd.R_types HO_6.out BK401.out (by decide)) (fun _ hk => hk.2) (.int .i64 ((rd_Op l0 x8_2).f0))) (fun _ hk => hk.2) (.int .i64 ((rd_Op l0 x8_2).f1))) (fun _ hk => hk.2) (.string ((rd_Op l0 x8_2).f2))) (fun _ hk => trivial)⟩, ⟨by (with_reducible repeat (first | refine kN ?_ _ | refine kD ?_ | refine kA ?_ _)); refine blk_put (cs := #[.int .i64 ((rd_Op l0 x8_2).f0), .int .i64 ((rd_Op l0 x8_2).f1), .string (⟨#[]⟩ : ByteArray)]) ?_ 2 _ rfl; (with_reducible repeat (first | refine kN ?_ _ | refine kD ?_ | refine kA ?_ _)); refine blk_put (cs := #[.int .i64 ((rd_Op l0 x8_2).f0), .int .i64 0, .string (⟨#[]⟩ : ByteArray)]) ?_ 1 _ rfl; (with_reducible repeat (first | refine kN ?_ _ | refine kD ?_ | refine kA ?_ _)); refine blk_put (cs := #[.int .i64 0, .int .i64 0, .string (⟨#[]⟩ : ByteArray)]) ?_ 0 _ rfl; (with_reducible repeat (first | refine kN ?_ _ | refine kD ?_ | refine kA ?_ _)); exact BK401.out⟩, ⟨yBg GE401.out⟩⟩
             ·rw [if_neg c35] at H
              exact absurd H (by simp)
            ·rw [if_neg c34] at H
             exact absurd H (by simp)
          case rest =>
           clear HC30; (try clear c1); (try clear c2); (try clear p2); (try clear c3); (try clear p4); (try clear q4); (try clear hx4); (try clear c5); (try clear p6); (try clear c9); (try clear c10); (try clear c10b0); (try clear c11); (try clear c11b0); (try clear c12); (try clear c12b0); (try clear c12b1); (try clear c13); (try clear c13b0); (try clear c16); (try clear c16b0); (try clear c16b1); (try clear c17); (try clear c17b0); (try clear c17b1); (try clear c18); (try clear c18b0); (try clear c18b1); (try clear c19); (try clear c21); (try clear c25); (try clear c25b0); (try clear c25b1); (try clear c26); (try clear c33); (try clear c33b0); (try clear c34); (try clear c34b0); (try clear c35); (try clear c35b0); (try clear hcz15_0); (try clear hcz15_1); (try clear hcz15_2); (try clear hcz21_0); (try clear hcz21_1); (try clear hcz21_2); (try clear hcz24_0); (try clear hcz24_1); (try clear hcz24_2); (try clear hcz28_0); (try clear hcz28_1); (try clear hcz28_2); (try clear hcz32_0); (try clear hcz32_1); (try clear hcz32_2); (try clear hcz36_0); (try clear hcz36_1); (try clear hcz36_2); (try clear hfz15_0); (try clear hfz15_1); (try clear hfz15_2); (try clear hfz21_0); (try clear hfz21_1); (try clear hfz21_2); (try clear hfz24_0); (try clear hfz24_1); (try clear hfz24_2); (try clear hfz28_0); (try clear hfz28_1); (try clear hfz28_2); (try clear hfz32_0); (try clear hfz32_1); (try clear hfz32_2); (try clear hfz36_0); (try clear hfz36_1); (try clear hfz36_2); (try clear hx400_0); (try clear hx400_1); (try clear hx400_2); (try clear hx409_0); (try clear p2); (try clear p400); (try clear p409); (try clear q400); (try clear q409); obtain ⟨kq, x42_29, rfl, HA, HJ29, HO_6, BK401, HB⟩ := hcut; cases kq with
           | zero => exact absurd HA.out (by simp [patchworkref8_Do.j2])
           | succ kj29 =>
            have H := HA.out; clear HA; simp only [patchworkref8_Do.j2] at H
            by_cases c37 : x42_29 = true
            ·subst c37
             replace H := iT H; simp only [Option.some.injEq, Prod.mk.injEq] at H; obtain ⟨rfl, rfl⟩ := H
             go_wp2
             repeat (go_quiet (fail); try go_wp2)
             go_ret2
             exact ⟨_, by first | rfl | (simp [errW_none, errW_some] <;> rfl) | (simp [*, errW_none, errW_some] <;> rfl), by first | exact Kd.R_nil _ _ _ _ _ | exact Kd.N_nil _ _ _ _ _ | exact Kd.V_nil _ _ _ _ _ | exact Kd.Q_nil _ _ _ _ _ | exact Kd.S_nil _ _ _ _ _, yBg GE401.out⟩
            ·replace c37 := Bool.eq_false_iff.mpr c37
             subst c37; replace H := iF H
             by_cases c38 : ((rd_Op l0 x8_2).f0) = 2
             ·rw [if_pos c38] at H
              have c38b0 := beq_iff_eq.mpr c38; have c38b1 := bne_eq_false_iff_eq.mpr c38; clear c38
              by_cases c39 : x6_2.length < 8796093022208
              ·rw [if_pos c39] at H
               have LMc39 := aM c39; clear c39; obtain ⟨y410, hy410⟩ : ∃ y_ : List ByteArray, y_ = (x6_2 ++ [((rd_Op l0 x8_2).f2)]) := ⟨_, rfl⟩; replace H : (patchworkref8_Do.l0 kj29 l0 l1 y410 (wrap64 (x7_2 + 1)) (wrap64 (x8_2 + 1))) = some (r1, r2) := by first | (rw [hy410]; with_reducible exact H) | (have H2_ := (Option.bind_some _ _).symm.trans H; rw [hy410]; with_reducible exact H2_) | (have H2_ := (Option.bind_some _ _).symm.trans H; with_reducible exact H2_) | with_reducible exact H | (rw [hy410]; exact H) | exact H
               have Ny410 := aM hy410; clear hy410; have H' := aM H; clear H; obtain ⟨hcz40_0, hcz40_1, hcz40_2, hfz40_0, hfz40_1, hfz40_2⟩ := blk3 BK401.out
               go_wp2_with (first | ((with_reducible refine gate_builtin (b := .append) (xs := #[.tmp 46, .tmp 49]) rfl ?_); at_builtin; refine Kd.R_append Kd.string (w0 := w) w.heap.size rfl (.tmp 46) (.tmp 49) 32 9 (.string ⟨#[]⟩) 16 rfl Try.underlying32 info9 rfl (by decide) (by omega) u6 x6_2 ((rd_Op l0 x8_2).f2) [.string ((rd_Op l0 x8_2).f2)] (fun _ => True) (fun _ => False) rfl rfl ?aP (fun _ hk => hk.elim) ?aF ?aO ?aB ?aS ?aL ?_; (case aP => exact rfl); (case aB => exact (yBg GE401.out)); (case aF => exact (fun _ _ => trivial)); (case aO => exact (yH HO_6.out)); (case aS => exact (below_size (yBg GE401.out))); (case aL => have := LMc39.out; omega); intro v411 w41 ho hb hg hat; rw [← Ny410.out] at ho; have n0_ := aM (blk_grown (g := gb401) (o := .cells #[.int .i64 ((rd_Op l0 x8_2).f0), .int .i64 ((rd_Op l0 x8_2).f1), .string ((rd_Op l0 x8_2).f2)] 41 (0, 0)) (by (with_reducible repeat (first | refine kN ?_ _ | refine kD ?_ | refine kA ?_ _)); exact BK401.out) hg (Kd.R_ne HO_6.out BK401.out (by decide))); have n1_ := aM (hb); have n2_ := aM (ho); clear BK401; clear HB; clear HO_6; have BK401 := n0_; have HB := n1_; have HO412 := n2_; clear n0_ n1_ n2_; clear ho hb hg hat))
               repeat (go_quiet (first | ((with_reducible refine gate_builtin (b := .append) (xs := #[.tmp 46, .tmp 49]) rfl ?_); at_builtin; refine Kd.R_append Kd.string (w0 := w) w.heap.size rfl (.tmp 46) (.tmp 49) 32 9 (.string ⟨#[]⟩) 16 rfl Try.underlying32 info9 rfl (by decide) (by omega) u6 x6_2 ((rd_Op l0 x8_2).f2) [.string ((rd_Op l0 x8_2).f2)] (fun _ => True) (fun _ => False) rfl rfl ?aP (fun _ hk => hk.elim) ?aF ?aO ?aB ?aS ?aL ?_; (case aP => exact rfl); (case aB => exact (yBg GE401.out)); (case aF => exact (fun _ _ => trivial)); (case aO => exact (yH HO_6.out)); (case aS => exact (below_size (yBg GE401.out))); (case aL => have := LMc39.out; omega); intro v411 w41 ho hb hg hat; rw [← Ny410.out] at ho; have n0_ := aM (blk_grown (g := gb401) (o := .cells #[.int .i64 ((rd_Op l0 x8_2).f0), .int .i64 ((rd_Op l0 x8_2).f1), .string ((rd_Op l0 x8_2).f2)] 41 (0, 0)) (by (with_reducible repeat (first | refine kN ?_ _ | refine kD ?_ | refine kA ?_ _)); exact BK401.out) hg (Kd.R_ne HO_6.out BK401.out (by decide))); have n1_ := aM (hb); have n2_ := aM (ho); clear BK401; clear HB; clear HO_6; have BK401 := n0_; have HB := n1_; have HO412 := n2_; clear n0_ n1_ n2_; clear ho hb hg hat)); try go_wp2_with (first | ((with_reducible refine gate_builtin (b := .append) (xs := #[.tmp 46, .tmp 49]) rfl ?_); at_builtin; refine Kd.R_append Kd.string (w0 := w) w.heap.size rfl (.tmp 46) (.tmp 49) 32 9 (.string ⟨#[]⟩) 16 rfl Try.underlying32 info9 rfl (by decide) (by omega) u6 x6_2 ((rd_Op l0 x8_2).f2) [.string ((rd_Op l0 x8_2).f2)] (fun _ => True) (fun _ => False) rfl rfl ?aP (fun _ hk => hk.elim) ?aF ?aO ?aB ?aS ?aL ?_; (case aP => exact rfl); (case aB => exact (yBg GE401.out)); (case aF => exact (fun _ _ => trivial)); (case aO => exact (yH HO_6.out)); (case aS => exact (below_size (yBg GE401.out))); (case aL => have := LMc39.out; omega); intro v411 w41 ho hb hg hat; rw [← Ny410.out] at ho; have n0_ := aM (blk_grown (g := gb401) (o := .cells #[.int .i64 ((rd_Op l0 x8_2).f0), .int .i64 ((rd_Op l0 x8_2).f1), .string ((rd_Op l0 x8_2).f2)] 41 (0, 0)) (by (with_reducible repeat (first | refine kN ?_ _ | refine kD ?_ | refine kA ?_ _)); exact BK401.out) hg (Kd.R_ne HO_6.out BK401.out (by decide))); have n1_ := aM (hb); have n2_ := aM (ho); clear BK401; clear HB; clear HO_6; have BK401 := n0_; have HB := n1_; have HO412 := n2_; clear n0_ n1_ n2_; clear ho hb hg hat)))
               go_roundg kj29
               case measure => have := HJ2.out; have := HK2.out; have := HJ29.out; omega
               case rel => exact ⟨(y410), (wrap64 (x7_2 + 1)), (wrap64 (x8_2 + 1)), yE, yE, H', ⟨by have := HJ2.out; have := HK2.out; have := HJ29.out; omega⟩, ⟨yH HO412.out⟩, ⟨yBg GE401.out⟩⟩
              ·rw [if_neg c39] at H
               exact absurd H (by simp)
             ·rw [if_neg c38] at H
              have c38b0 := beq_eq_false_iff_ne.mpr c38; have c38b1 := bne_iff_ne.mpr c38; have H' := aM H; clear H; obtain ⟨hcz42_0, hcz42_1, hcz42_2, hfz42_0, hfz42_1, hfz42_2⟩ := blk3 BK401.out
              go_wp2
              repeat (go_quiet (fail); try go_wp2)
              go_roundg kj29
              case measure => have := HJ2.out; have := HK2.out; have := HJ29.out; omega
              case rel => exact ⟨(x6_2), (wrap64 (x7_2 + 1)), (wrap64 (x8_2 + 1)), yE, yE, H', ⟨by have := HJ2.out; have := HK2.out; have := HJ29.out; omega⟩, ⟨yH HO_6.out⟩, ⟨yBg GE401.out⟩⟩
       ·rw [if_neg c11] at H
        exact absurd H (by simp)
      ·rw [if_neg c10] at H
       have c10b0 := decide_eq_false c10; clear c10
       by_cases c43 : 0 ≤ x7_2
       ·rw [if_pos c43] at H
        have c43b0 := eq_true c43; have c43b1 := decide_eq_true c43; clear c43
        by_cases c44 : x7_2 ≤ (l1.length : Int)
        ·rw [if_pos c44] at H
         have c44b0 := eq_true c44; have c44b1 := decide_eq_true c44; clear c44
         by_cases c45 : x6_2.length + (l1.drop (x7_2 : Int).toNat).length < 8796093022208
         ·rw [if_pos c45] at H
          have LMc45 := aM c45; clear c45; obtain ⟨y396, hy396⟩ : ∃ y_ : List ByteArray, y_ = (x6_2 ++ (l1.drop (x7_2 : Int).toNat)) := ⟨_, rfl⟩; replace H : ((patchworkref1_Whole.f k2 y396).bind fun t399 => (if t399 = true then (some (y396, true)) else (some (([] : List ByteArray), false)))) = some (r1, r2) := by first | (rw [hy396]; with_reducible exact H) | (have H2_ := (Option.bind_some _ _).symm.trans H; rw [hy396]; with_reducible exact H2_) | (have H2_ := (Option.bind_some _ _).symm.trans H; with_reducible exact H2_) | with_reducible exact H | (rw [hy396]; exact H) | exact H
          have Ny396 := aM hy396; clear hy396; replace H := bS.mp H; obtain ⟨t399, A460, H⟩ := H; replace H : (if t399 = true then (some (y396, true)) else (some (([] : List ByteArray), false))) = some (r1, r2) := H; have A46 := aM A460; clear A460
          by_cases c47 : t399 = true
          ·subst c47
           replace H := iT H; simp only [Option.some.injEq, Prod.mk.injEq] at H; obtain ⟨rfl, rfl⟩ := H; obtain ⟨i048, hi048, _, hsz48, _⟩ := info_parts info9; obtain ⟨A48, hcut48, hA48, hC48⟩ := print_drop_of (P := Try.prog) Value.string (⟨#[]⟩ : ByteArray) 32 9 .i64 Try.underlying32 hi048 hsz48 A1 c1 l1 x7_2 (yO) (yO) HC1.out; have HR395 := aM (Kd.C_of_reads (h1 := fun _ => rfl) (hA48 _ (Kd.reads_of_C HR1.out))); have HC395 := aM hC48; clear hA48 hC48 hi048 hsz48
           go_wp2_with (first | ((with_reducible refine gate_builtin (b := .append) (xs := #[.tmp 82, .tmp 85]) rfl ?_); at_builtin; refine Kd.R_append_rows Kd.string (w0 := w) w.heap.size rfl (.tmp 82) (.tmp 85) 32 9 (.string ⟨#[]⟩) 16 rfl Try.underlying32 info9 rfl (by decide) (by omega) u6 x6_2 (l1.drop (x7_2 : Int).toNat) _ _ _ (fun _ => True) (fun _ => False) rfl rfl ?aO ?aR (fun _ _ h => h) (fun _ h => h.elim) ?aF ?aB ?aS ?aL ?_; (case aR => first | (rw [← show (l1.drop (x7_2 : Int).toNat).length = (l1.length - x7_2.toNat) from lD]; repeat (first | exact (Kd.C_below HR395.out HB.out) | (with_reducible first | refine Kd.C_alloc ?_ _ | refine Kd.C_drewN ?_ _ | refine Kd.C_drew ?_))) | (repeat (first | exact (Kd.C_below HR395.out HB.out) | (with_reducible first | refine Kd.C_alloc ?_ _ | refine Kd.C_drewN ?_ _ | refine Kd.C_drew ?_)))); (case aB => exact yB); (case aF => exact (fun _ _ => trivial)); (case aO => exact (yH HO_6.out)); (case aS => exact yW); (case aL => have := LMc45.out; have hlx_ := (show (l1.drop (x7_2 : Int).toNat).length = (l1.length - x7_2.toNat) from lD); omega); intro v397 w49 ho hb hg hat; rw [← Ny396.out] at ho; have n0_ := aM (hb); have n1_ := aM (ho); clear HB; clear HO_6; have HB := n0_; have HO398 := n1_; clear n0_ n1_; clear ho hb hg hat; obtain ⟨Ao50, co50, eo50⟩ := Kd.R_slice HO398.out; subst eo50) | (go_at_call 44; (with_reducible refine (patchworkref1_Whole.calls k2 _ _ y396 true _ (yC (Kd.R_reads' HO398.out).2.2) ((Kd.R_reads' HO398.out).2.1) A46.out).mono ?_); rintro e w' ⟨rfl, ⟨nd, rfl⟩⟩; (try first | exact ⟨rfl, _, World.drewN_drewN _ _ _⟩ | exact ⟨rfl, _, Eq.trans (World.drewN_drewN _ _ _) (congrArg (World.drewN _) (Nat.add_assoc _ _ _))⟩)))
           repeat (go_quiet (first | ((with_reducible refine gate_builtin (b := .append) (xs := #[.tmp 82, .tmp 85]) rfl ?_); at_builtin; refine Kd.R_append_rows Kd.string (w0 := w) w.heap.size rfl (.tmp 82) (.tmp 85) 32 9 (.string ⟨#[]⟩) 16 rfl Try.underlying32 info9 rfl (by decide) (by omega) u6 x6_2 (l1.drop (x7_2 : Int).toNat) _ _ _ (fun _ => True) (fun _ => False) rfl rfl ?aO ?aR (fun _ _ h => h) (fun _ h => h.elim) ?aF ?aB ?aS ?aL ?_; (case aR => first | (rw [← show (l1.drop (x7_2 : Int).toNat).length = (l1.length - x7_2.toNat) from lD]; repeat (first | exact (Kd.C_below HR395.out HB.out) | (with_reducible first | refine Kd.C_alloc ?_ _ | refine Kd.C_drewN ?_ _ | refine Kd.C_drew ?_))) | (repeat (first | exact (Kd.C_below HR395.out HB.out) | (with_reducible first | refine Kd.C_alloc ?_ _ | refine Kd.C_drewN ?_ _ | refine Kd.C_drew ?_)))); (case aB => exact yB); (case aF => exact (fun _ _ => trivial)); (case aO => exact (yH HO_6.out)); (case aS => exact yW); (case aL => have := LMc45.out; have hlx_ := (show (l1.drop (x7_2 : Int).toNat).length = (l1.length - x7_2.toNat) from lD); omega); intro v397 w49 ho hb hg hat; rw [← Ny396.out] at ho; have n0_ := aM (hb); have n1_ := aM (ho); clear HB; clear HO_6; have HB := n0_; have HO398 := n1_; clear n0_ n1_; clear ho hb hg hat; obtain ⟨Ao50, co50, eo50⟩ := Kd.R_slice HO398.out; subst eo50) | (go_at_call 44; (with_reducible refine (patchworkref1_Whole.calls k2 _ _ y396 true _ (yC (Kd.R_reads' HO398.out).2.2) ((Kd.R_reads' HO398.out).2.1) A46.out).mono ?_); rintro e w' ⟨rfl, ⟨nd, rfl⟩⟩; (try first | exact ⟨rfl, _, World.drewN_drewN _ _ _⟩ | exact ⟨rfl, _, Eq.trans (World.drewN_drewN _ _ _) (congrArg (World.drewN _) (Nat.add_assoc _ _ _))⟩))); try go_wp2_with (first | ((with_reducible refine gate_builtin (b := .append) (xs := #[.tmp 82, .tmp 85]) rfl ?_); at_builtin; refine Kd.R_append_rows Kd.string (w0 := w) w.heap.size rfl (.tmp 82) (.tmp 85) 32 9 (.string ⟨#[]⟩) 16 rfl Try.underlying32 info9 rfl (by decide) (by omega) u6 x6_2 (l1.drop (x7_2 : Int).toNat) _ _ _ (fun _ => True) (fun _ => False) rfl rfl ?aO ?aR (fun _ _ h => h) (fun _ h => h.elim) ?aF ?aB ?aS ?aL ?_; (case aR => first | (rw [← show (l1.drop (x7_2 : Int).toNat).length = (l1.length - x7_2.toNat) from lD]; repeat (first | exact (Kd.C_below HR395.out HB.out) | (with_reducible first | refine Kd.C_alloc ?_ _ | refine Kd.C_drewN ?_ _ | refine Kd.C_drew ?_))) | (repeat (first | exact (Kd.C_below HR395.out HB.out) | (with_reducible first | refine Kd.C_alloc ?_ _ | refine Kd.C_drewN ?_ _ | refine Kd.C_drew ?_)))); (case aB => exact yB); (case aF => exact (fun _ _ => trivial)); (case aO => exact (yH HO_6.out)); (case aS => exact yW); (case aL => have := LMc45.out; have hlx_ := (show (l1.drop (x7_2 : Int).toNat).length = (l1.length - x7_2.toNat) from lD); omega); intro v397 w49 ho hb hg hat; rw [← Ny396.out] at ho; have n0_ := aM (hb); have n1_ := aM (ho); clear HB; clear HO_6; have HB := n0_; have HO398 := n1_; clear n0_ n1_; clear ho hb hg hat; obtain ⟨Ao50, co50, eo50⟩ := Kd.R_slice HO398.out; subst eo50) | (go_at_call 44; (with_reducible refine (patchworkref1_Whole.calls k2 _ _ y396 true _ (yC (Kd.R_reads' HO398.out).2.2) ((Kd.R_reads' HO398.out).2.1) A46.out).mono ?_); rintro e w' ⟨rfl, ⟨nd, rfl⟩⟩; (try first | exact ⟨rfl, _, World.drewN_drewN _ _ _⟩ | exact ⟨rfl, _, Eq.trans (World.drewN_drewN _ _ _) (congrArg (World.drewN _) (Nat.add_assoc _ _ _))⟩))))
           go_ret2
           exact ⟨_, by first | rfl | (simp [errW_none, errW_some] <;> rfl) | (simp [*, errW_none, errW_some] <;> rfl), by (with_reducible repeat (first | apply Kd.R_alloc | apply Kd.R_drewN | apply Kd.R_drew)); exact HO398.out, yB⟩
          ·replace c47 := Bool.eq_false_iff.mpr c47
           subst c47; replace H := iF H; simp only [Option.some.injEq, Prod.mk.injEq] at H; obtain ⟨rfl, rfl⟩ := H; obtain ⟨i051, hi051, _, hsz51, _⟩ := info_parts info9; obtain ⟨A51, hcut51, hA51, hC51⟩ := print_drop_of (P := Try.prog) Value.string (⟨#[]⟩ : ByteArray) 32 9 .i64 Try.underlying32 hi051 hsz51 A1 c1 l1 x7_2 (yO) (yO) HC1.out; have HR395 := aM (Kd.C_of_reads (h1 := fun _ => rfl) (hA51 _ (Kd.reads_of_C HR1.out))); have HC395 := aM hC51; clear hA51 hC51 hi051 hsz51
           go_wp2_with (first | ((with_reducible refine gate_builtin (b := .append) (xs := #[.tmp 82, .tmp 85]) rfl ?_); at_builtin; refine Kd.R_append_rows Kd.string (w0 := w) w.heap.size rfl (.tmp 82) (.tmp 85) 32 9 (.string ⟨#[]⟩) 16 rfl Try.underlying32 info9 rfl (by decide) (by omega) u6 x6_2 (l1.drop (x7_2 : Int).toNat) _ _ _ (fun _ => True) (fun _ => False) rfl rfl ?aO ?aR (fun _ _ h => h) (fun _ h => h.elim) ?aF ?aB ?aS ?aL ?_; (case aR => first | (rw [← show (l1.drop (x7_2 : Int).toNat).length = (l1.length - x7_2.toNat) from lD]; repeat (first | exact (Kd.C_below HR395.out HB.out) | (with_reducible first | refine Kd.C_alloc ?_ _ | refine Kd.C_drewN ?_ _ | refine Kd.C_drew ?_))) | (repeat (first | exact (Kd.C_below HR395.out HB.out) | (with_reducible first | refine Kd.C_alloc ?_ _ | refine Kd.C_drewN ?_ _ | refine Kd.C_drew ?_)))); (case aB => exact yB); (case aF => exact (fun _ _ => trivial)); (case aO => exact (yH HO_6.out)); (case aS => exact yW); (case aL => have := LMc45.out; have hlx_ := (show (l1.drop (x7_2 : Int).toNat).length = (l1.length - x7_2.toNat) from lD); omega); intro v397 w52 ho hb hg hat; rw [← Ny396.out] at ho; have n0_ := aM (hb); have n1_ := aM (ho); clear HB; clear HO_6; have HB := n0_; have HO398 := n1_; clear n0_ n1_; clear ho hb hg hat; obtain ⟨Ao53, co53, eo53⟩ := Kd.R_slice HO398.out; subst eo53) | (go_at_call 44; (with_reducible refine (patchworkref1_Whole.calls k2 _ _ y396 false _ (yC (Kd.R_reads' HO398.out).2.2) ((Kd.R_reads' HO398.out).2.1) A46.out).mono ?_); rintro e w' ⟨rfl, ⟨nd, rfl⟩⟩; (try first | exact ⟨rfl, _, World.drewN_drewN _ _ _⟩ | exact ⟨rfl, _, Eq.trans (World.drewN_drewN _ _ _) (congrArg (World.drewN _) (Nat.add_assoc _ _ _))⟩)))
           repeat (go_quiet (first | ((with_reducible refine gate_builtin (b := .append) (xs := #[.tmp 82, .tmp 85]) rfl ?_); at_builtin; refine Kd.R_append_rows Kd.string (w0 := w) w.heap.size rfl (.tmp 82) (.tmp 85) 32 9 (.string ⟨#[]⟩) 16 rfl Try.underlying32 info9 rfl (by decide) (by omega) u6 x6_2 (l1.drop (x7_2 : Int).toNat) _ _ _ (fun _ => True) (fun _ => False) rfl rfl ?aO ?aR (fun _ _ h => h) (fun _ h => h.elim) ?aF ?aB ?aS ?aL ?_; (case aR => first | (rw [← show (l1.drop (x7_2 : Int).toNat).length = (l1.length - x7_2.toNat) from lD]; repeat (first | exact (Kd.C_below HR395.out HB.out) | (with_reducible first | refine Kd.C_alloc ?_ _ | refine Kd.C_drewN ?_ _ | refine Kd.C_drew ?_))) | (repeat (first | exact (Kd.C_below HR395.out HB.out) | (with_reducible first | refine Kd.C_alloc ?_ _ | refine Kd.C_drewN ?_ _ | refine Kd.C_drew ?_)))); (case aB => exact yB); (case aF => exact (fun _ _ => trivial)); (case aO => exact (yH HO_6.out)); (case aS => exact yW); (case aL => have := LMc45.out; have hlx_ := (show (l1.drop (x7_2 : Int).toNat).length = (l1.length - x7_2.toNat) from lD); omega); intro v397 w52 ho hb hg hat; rw [← Ny396.out] at ho; have n0_ := aM (hb); have n1_ := aM (ho); clear HB; clear HO_6; have HB := n0_; have HO398 := n1_; clear n0_ n1_; clear ho hb hg hat; obtain ⟨Ao53, co53, eo53⟩ := Kd.R_slice HO398.out; subst eo53) | (go_at_call 44; (with_reducible refine (patchworkref1_Whole.calls k2 _ _ y396 false _ (yC (Kd.R_reads' HO398.out).2.2) ((Kd.R_reads' HO398.out).2.1) A46.out).mono ?_); rintro e w' ⟨rfl, ⟨nd, rfl⟩⟩; (try first | exact ⟨rfl, _, World.drewN_drewN _ _ _⟩ | exact ⟨rfl, _, Eq.trans (World.drewN_drewN _ _ _) (congrArg (World.drewN _) (Nat.add_assoc _ _ _))⟩))); try go_wp2_with (first | ((with_reducible refine gate_builtin (b := .append) (xs := #[.tmp 82, .tmp 85]) rfl ?_); at_builtin; refine Kd.R_append_rows Kd.string (w0 := w) w.heap.size rfl (.tmp 82) (.tmp 85) 32 9 (.string ⟨#[]⟩) 16 rfl Try.underlying32 info9 rfl (by decide) (by omega) u6 x6_2 (l1.drop (x7_2 : Int).toNat) _ _ _ (fun _ => True) (fun _ => False) rfl rfl ?aO ?aR (fun _ _ h => h) (fun _ h => h.elim) ?aF ?aB ?aS ?aL ?_; (case aR => first | (rw [← show (l1.drop (x7_2 : Int).toNat).length = (l1.length - x7_2.toNat) from lD]; repeat (first | exact (Kd.C_below HR395.out HB.out) | (with_reducible first | refine Kd.C_alloc ?_ _ | refine Kd.C_drewN ?_ _ | refine Kd.C_drew ?_))) | (repeat (first | exact (Kd.C_below HR395.out HB.out) | (with_reducible first | refine Kd.C_alloc ?_ _ | refine Kd.C_drewN ?_ _ | refine Kd.C_drew ?_)))); (case aB => exact yB); (case aF => exact (fun _ _ => trivial)); (case aO => exact (yH HO_6.out)); (case aS => exact yW); (case aL => have := LMc45.out; have hlx_ := (show (l1.drop (x7_2 : Int).toNat).length = (l1.length - x7_2.toNat) from lD); omega); intro v397 w52 ho hb hg hat; rw [← Ny396.out] at ho; have n0_ := aM (hb); have n1_ := aM (ho); clear HB; clear HO_6; have HB := n0_; have HO398 := n1_; clear n0_ n1_; clear ho hb hg hat; obtain ⟨Ao53, co53, eo53⟩ := Kd.R_slice HO398.out; subst eo53) | (go_at_call 44; (with_reducible refine (patchworkref1_Whole.calls k2 _ _ y396 false _ (yC (Kd.R_reads' HO398.out).2.2) ((Kd.R_reads' HO398.out).2.1) A46.out).mono ?_); rintro e w' ⟨rfl, ⟨nd, rfl⟩⟩; (try first | exact ⟨rfl, _, World.drewN_drewN _ _ _⟩ | exact ⟨rfl, _, Eq.trans (World.drewN_drewN _ _ _) (congrArg (World.drewN _) (Nat.add_assoc _ _ _))⟩))))
           go_ret2
           exact ⟨_, by first | rfl | (simp [errW_none, errW_some] <;> rfl) | (simp [*, errW_none, errW_some] <;> rfl), by first | exact Kd.R_nil _ _ _ _ _ | exact Kd.N_nil _ _ _ _ _ | exact Kd.V_nil _ _ _ _ _ | exact Kd.Q_nil _ _ _ _ _ | exact Kd.S_nil _ _ _ _ _, yB⟩
         ·rw [if_neg c45] at H
          exact absurd H (by simp)
        ·rw [if_neg c44] at H
         exact absurd H (by simp)
       ·rw [if_neg c43] at H
        exact absurd H (by simp)
set_option maxHeartbeats 8000000 in
set_option maxRecDepth 100000 in
theorem patchworkref1_SameTexts.calls (k : Nat) (A0 : Option Addr) (c0 : Nat) (l0 : List ByteArray) (A1 : Option Addr) (c1 : Nat) (l1 : List ByteArray) (r : Bool) (w : World) (hr0 : Kd.C Kd.string w A0 l0.length l0) (hc0 : l0.length ≤ c0) (hr1 : Kd.C Kd.string w A1 l1.length l1) (hc1 : l1.length ≤ c1) (h : patchworkref1_SameTexts.f k l0 l1 = some r) :
  Calls Try.prog 22 #[.slice A0 l0.length c0, .slice A1 l1.length c1] w fun e w' => e = .returned (.bool r) ∧ Drawn0 w w' := by
 have HR0 := aM hr0
 have HC0 := aM hc0
 clear hr0 hc0
 have HR1 := aM hr1
 have HC1 := aM hc1
 clear hr1 hc1
 have H : (if (l0.length : Int) = (l1.length : Int) then (patchworkref1_SameTexts.l0 k l0 l1 0) else (some false)) = some r := h
 clear h
 by_cases c3 : (l0.length : Int) = (l1.length : Int)
 ·rw [if_pos c3] at H
  have c3b0 := beq_iff_eq.mpr c3; have c3b1 := bne_eq_false_iff_eq.mpr c3; have c3b2 : (l0.length == l1.length) = true := by first | simpa using c3 | (simp at c3 ⊢; omega)
  clear c3; have H' := aM H; clear H
  go_enter Try.func22, Try.ntmps22
  go_wp2
  repeat (go_quiet (fail); try go_wp2)
  go_loopg [5] k (fun kq v5 w' => ∃ (x5_1 : Int), v5 = .int .i64 x5_1 ∧ Aside0 (patchworkref1_SameTexts.l0 kq l0 l1 x5_1 = some r) ∧ Aside0 (kq ≤ k) ∧ Drawn0 w w')
  case atStart => exact ⟨(0), yE, H', ⟨Nat.le_refl _⟩, yD⟩
  case round =>
   clear H'; (try clear c1); (try clear c2); (try clear p2); (try clear c3); (try clear c3b0); (try clear c3b1); (try clear c3b2); obtain ⟨x5_1, rfl, HA, HK1, ⟨m1, rfl⟩⟩ := hrel; cases gk with
   | zero => exact absurd HA.out (by simp [patchworkref1_SameTexts.l0])
   | succ k1 =>
    have H := HA.out; clear HA; simp only [patchworkref1_SameTexts.l0] at H
    by_cases c4 : x5_1 < (l0.length : Int)
    ·rw [if_pos c4] at H
     have c4b0 := decide_eq_true c4; clear c4
     by_cases c5 : 0 ≤ x5_1
     ·rw [if_pos c5] at H
      have c5b0 := decide_eq_true c5; clear c5
      by_cases c6 : x5_1 < (l1.length : Int)
      ·rw [if_pos c6] at H
       have c6b0 := decide_eq_true c6; clear c6
       by_cases c7 : (rdOf ByteArray.empty l0 x5_1).toList = (rdOf ByteArray.empty l1 x5_1).toList
       ·rw [if_pos c7] at H
        have c7b0 := beq_iff_eq.mpr c7; have c7b1 := bne_eq_false_iff_eq.mpr c7; clear c7; have H' := aM H; clear H; have p413 : 0 ≤ (x5_1 : Int) := yO; have q413 : x5_1 < (l0.length : Int) := yO; obtain ⟨ad413, e413, hx413_0⟩ := Kd.at_string HR0.out x5_1 p413 q413; cases e413; replace p413 := eq_true p413; replace q413 := eq_true q413; have p414 : 0 ≤ (x5_1 : Int) := yO; have q414 : x5_1 < (l1.length : Int) := yO; obtain ⟨ad414, e414, hx414_0⟩ := Kd.at_string HR1.out x5_1 p414 q414; cases e414; replace p414 := eq_true p414; replace q414 := eq_true q414
        go_wp2
        repeat (go_quiet (fail); try go_wp2)
        go_roundg k1
        case measure => have := HK1.out; omega
        case rel => exact ⟨(wrap64 (x5_1 + 1)), yE, H', ⟨by have := HK1.out; omega⟩, yD⟩
       ·rw [if_neg c7] at H
        have c7b0 := beq_eq_false_iff_ne.mpr c7; have c7b1 := bne_iff_ne.mpr c7; obtain rfl := Option.some.inj H; have p413 : 0 ≤ (x5_1 : Int) := yO; have q413 : x5_1 < (l0.length : Int) := yO; obtain ⟨ad413, e413, hx413_0⟩ := Kd.at_string HR0.out x5_1 p413 q413; cases e413; replace p413 := eq_true p413; replace q413 := eq_true q413; have p414 : 0 ≤ (x5_1 : Int) := yO; have q414 : x5_1 < (l1.length : Int) := yO; obtain ⟨ad414, e414, hx414_0⟩ := Kd.at_string HR1.out x5_1 p414 q414; cases e414; replace p414 := eq_true p414; replace q414 := eq_true q414
        go_wp2
        repeat (go_quiet (fail); try go_wp2)
        go_ret
        exact ⟨yE, yD⟩
      ·rw [if_neg c6] at H
       exact absurd H (by simp)
     ·rw [if_neg c5] at H
      exact absurd H (by simp)
    ·rw [if_neg c4] at H
     have c4b0 := decide_eq_false c4; clear c4; obtain rfl := Option.some.inj H
     go_wp2
     repeat (go_quiet (fail); try go_wp2)
     go_ret
     exact ⟨yE, yD⟩
 ·rw [if_neg c3] at H
  have c3b0 := beq_eq_false_iff_ne.mpr c3; have c3b1 := bne_iff_ne.mpr c3; have c3b2 : (l0.length == l1.length) = false := by first | simpa using c3 | (simp at c3 ⊢; omega)
  obtain rfl := Option.some.inj H
  go_enter Try.func22, Try.ntmps22
  go_wp2
  repeat (go_quiet (fail); try go_wp2)
  go_ret
  exact ⟨yE, yD⟩
end Go.Proofs.Ytfoponahdidddaa.P
