/- Own and printed texts that the theorem of WitnessLeast reaches, put together. -/
import Derived.Test.YtkiklmmpflndbaaDoorqWitnessLeast4
import Derived.Test.YtkiklmmpflndbaaDoorqWitnessLeast3
import Derived.Test.YtkiklmmpflndbaaDoorqWitnessLeast6
set_option linter.unusedVariables false
set_option linter.unusedSimpArgs false
namespace Go.Proofs.YtkiklmmpflndbaaDoor.P
open Go.RowKit Go.Proofs.YtkiklmmpflndbaaDoorW.PrintWords Go.Proofs.YtkiklmmpflndbaaDoorW.PrintLast Go.Proofs.YtkiklmmpflndbaaDoorW.PrintMore
open Go.Proofs.YtkiklmmpflndbaaDoorW.PrintWords renaming blk_alloc → kA, blk_drewN → kN, blk_drew → kD
open Go.Proofs.YtkiklmmpflndbaaDoorW.PrintWords.Aside0 renaming mk → aM
attribute [local go_sem] max2_int min2_int max_two min_two max_three min_three max_four min_four
set_option maxHeartbeats 8000000 in
set_option maxRecDepth 100000 in
theorem patchworklaw8_Few.calls (k : Nat) (A0 : Option Addr) (c0 : Nat) (l0 : List (Op)) (r : Bool) (w : World) (hr0 : Kd.C kOp w A0 l0.length l0) (hc0 : l0.length ≤ c0) (h : patchworklaw8_Few.f k l0 = some r) :
  Calls Tryd.prog 9 #[.slice A0 l0.length c0] w fun e w' => e = .returned (.bool r) ∧ Drawn0 w w' := by
 have HR0 := aM hr0
 have HC0 := aM hc0
 clear hr0 hc0
 have H : (patchworklaw8_Few.l0 k l0 0 0) = some r := h
 clear h
 have H' := aM H
 clear H
 go_enter Tryd.func9, Tryd.ntmps9
 go_wp2
 go_loopg [3, 4] k (fun kq v3 v4 w' => ∃ (x3_1 : Int) (x4_1 : Int), v3 = .int .i64 x3_1 ∧ v4 = .int .i64 x4_1 ∧ Aside0 (patchworklaw8_Few.l0 kq l0 x3_1 x4_1 = some r) ∧ Aside0 (kq ≤ k) ∧ Drawn0 w w')
 case atStart => exact ⟨(0), (0), yE, yE, H', ⟨Nat.le_refl _⟩, yD⟩
 case round =>
  clear H'; obtain ⟨x3_1, x4_1, rfl, rfl, HA, HK1, ⟨m1, rfl⟩⟩ := hrel; cases gk with
  | zero => exact absurd HA.out (by simp [patchworklaw8_Few.l0])
  | succ k1 =>
   have H := HA.out; clear HA; simp only [patchworklaw8_Few.l0] at H
   by_cases c2 : x4_1 < (l0.length : Int)
   ·rw [if_pos c2] at H
    have c2b0 := decide_eq_true c2; clear c2
    by_cases c3 : 0 ≤ x4_1
    ·rw [if_pos c3] at H
     have c3b0 := decide_eq_true c3; clear c3; have H' := aM H; clear H; have p229 : 0 ≤ (x4_1 : Int) := yO; have q229 : x4_1 < (l0.length : Int) := yO; obtain ⟨ad229, e229, hx229_0, hx229_1, hx229_2⟩ := at_Op HR0.out x4_1 p229 q229; cases e229; replace p229 := eq_true p229; replace q229 := eq_true q229
     go_wp2
     go_roundg k1
     case measure => have := HK1.out; omega
     case rel => exact ⟨(wrap64 ((wrap64 (x3_1 + 1)) + (((rd_Op l0 x4_1).f2).size : Int))), (wrap64 (x4_1 + 1)), yE, yE, H', ⟨by have := HK1.out; omega⟩, yD⟩
    ·rw [if_neg c3] at H
     exact absurd H (by simp)
   ·rw [if_neg c2] at H
    have c2b0 := decide_eq_false c2; clear c2; obtain rfl := Option.some.inj H
    go_wp2
    go_ret
    exact ⟨yE, yD⟩
set_option maxHeartbeats 8000000 in
set_option maxRecDepth 100000 in
theorem patchworkref8_old.calls (a0_0 : Int) (a0_1 : Int) (a0_2 : ByteArray) (r : Int) (w : World) (h : patchworkref8_old.f a0_0 a0_1 a0_2 = some r) :
  Calls Tryd.prog 24 #[.agg #[.int .i64 a0_0, .int .i64 a0_1, .string a0_2]] w fun e w' => e = .returned (.int .i64 r) ∧ Below w.heap.size w w' := by
 have hu32 := Tryd.underlying32
 have HB := aM (Below.refl w.heap.size w)
 have H : (if a0_0 = 1 then (if a0_1 > 0 then (some a0_1) else (some 0)) else (if a0_0 = 2 then (some 1) else (if a0_0 = 3 then (some 1) else (some 0)))) = some r := h
 clear h
 by_cases c2 : a0_0 = 1
 ·rw [if_pos c2] at H
  have c2b0 := beq_iff_eq.mpr c2; have c2b1 := bne_eq_false_iff_eq.mpr c2; clear c2
  by_cases c3 : a0_1 > 0
  ·rw [if_pos c3] at H
   have c3b0 := decide_eq_true c3; clear c3; obtain rfl := Option.some.inj H
   go_enter Tryd.func24, Tryd.ntmps24
   go_wp2_with (first | ((with_reducible refine gate_dst (N := 1) rfl ?_); refine box_event yR (N := 1) yR (cs := #[.int .i64 a0_0, .int .i64 a0_1, .string a0_2]) (t := 32) yQ ?_; intro gb230 hg w4 hbox hb; have BK230 := aM (hbox); have GW230 := aM ((yS : w.heap.size ≤ gb230)); have GE230 := aM ((yS : w.heap.size ≤ gb230)); replace HB := aM (below_step yB hb); clear hb hbox hg; obtain ⟨hcz5_0, hcz5_1, hcz5_2, hfz5_0, hfz5_1, hfz5_2⟩ := blk3 BK230.out))
   go_ret
   exact ⟨yE2, yBg GE230.out⟩
  ·rw [if_neg c3] at H
   have c3b0 := decide_eq_false c3; clear c3; obtain rfl := Option.some.inj H
   go_enter Tryd.func24, Tryd.ntmps24
   go_wp2_with (first | ((with_reducible refine gate_dst (N := 1) rfl ?_); refine box_event yR (N := 1) yR (cs := #[.int .i64 a0_0, .int .i64 a0_1, .string a0_2]) (t := 32) yQ ?_; intro gb230 hg w6 hbox hb; have BK230 := aM (hbox); have GW230 := aM ((yS : w.heap.size ≤ gb230)); have GE230 := aM ((yS : w.heap.size ≤ gb230)); replace HB := aM (below_step yB hb); clear hb hbox hg; obtain ⟨hcz7_0, hcz7_1, hcz7_2, hfz7_0, hfz7_1, hfz7_2⟩ := blk3 BK230.out))
   go_ret
   exact ⟨yE2, yBg GE230.out⟩
 ·rw [if_neg c2] at H
  have c2b0 := beq_eq_false_iff_ne.mpr c2; have c2b1 := bne_iff_ne.mpr c2
  by_cases c8 : a0_0 = 2
  ·rw [if_pos c8] at H
   have c8b0 := beq_iff_eq.mpr c8; have c8b1 := bne_eq_false_iff_eq.mpr c8; clear c8; obtain rfl := Option.some.inj H
   go_enter Tryd.func24, Tryd.ntmps24
   go_wp2_with (first | ((with_reducible refine gate_dst (N := 1) rfl ?_); refine box_event yR (N := 1) yR (cs := #[.int .i64 a0_0, .int .i64 a0_1, .string a0_2]) (t := 32) yQ ?_; intro gb230 hg w9 hbox hb; have BK230 := aM (hbox); have GW230 := aM ((yS : w.heap.size ≤ gb230)); have GE230 := aM ((yS : w.heap.size ≤ gb230)); replace HB := aM (below_step yB hb); clear hb hbox hg; obtain ⟨hcz10_0, hcz10_1, hcz10_2, hfz10_0, hfz10_1, hfz10_2⟩ := blk3 BK230.out))
   go_ret
   exact ⟨yE2, yBg GE230.out⟩
  ·rw [if_neg c8] at H
   have c8b0 := beq_eq_false_iff_ne.mpr c8; have c8b1 := bne_iff_ne.mpr c8
   by_cases c11 : a0_0 = 3
   ·rw [if_pos c11] at H
    have c11b0 := beq_iff_eq.mpr c11; have c11b1 := bne_eq_false_iff_eq.mpr c11; clear c11; obtain rfl := Option.some.inj H
    go_enter Tryd.func24, Tryd.ntmps24
    go_wp2_with (first | ((with_reducible refine gate_dst (N := 1) rfl ?_); refine box_event yR (N := 1) yR (cs := #[.int .i64 a0_0, .int .i64 a0_1, .string a0_2]) (t := 32) yQ ?_; intro gb230 hg w12 hbox hb; have BK230 := aM (hbox); have GW230 := aM ((yS : w.heap.size ≤ gb230)); have GE230 := aM ((yS : w.heap.size ≤ gb230)); replace HB := aM (below_step yB hb); clear hb hbox hg; obtain ⟨hcz13_0, hcz13_1, hcz13_2, hfz13_0, hfz13_1, hfz13_2⟩ := blk3 BK230.out))
    go_ret
    exact ⟨yE2, yBg GE230.out⟩
   ·rw [if_neg c11] at H
    have c11b0 := beq_eq_false_iff_ne.mpr c11; have c11b1 := bne_iff_ne.mpr c11; obtain rfl := Option.some.inj H
    go_enter Tryd.func24, Tryd.ntmps24
    go_wp2_with (first | ((with_reducible refine gate_dst (N := 1) rfl ?_); refine box_event yR (N := 1) yR (cs := #[.int .i64 a0_0, .int .i64 a0_1, .string a0_2]) (t := 32) yQ ?_; intro gb230 hg w14 hbox hb; have BK230 := aM (hbox); have GW230 := aM ((yS : w.heap.size ≤ gb230)); have GE230 := aM ((yS : w.heap.size ≤ gb230)); replace HB := aM (below_step yB hb); clear hb hbox hg; obtain ⟨hcz15_0, hcz15_1, hcz15_2, hfz15_0, hfz15_1, hfz15_2⟩ := blk3 BK230.out))
    go_ret
    exact ⟨yE2, yBg GE230.out⟩
set_option maxHeartbeats 8000000 in
set_option maxRecDepth 100000 in
theorem patchworkref8_plus.calls (a0 : Int) (a1 : Int) (r : Int) (w : World) (h : patchworkref8_plus.f a0 a1 = some r) :
  Calls Tryd.prog 26 #[.int .i64 a0, .int .i64 a1] w fun e w' => e = .returned (.int .i64 r) ∧ Drawn0 w w' := by
 have H : (if a0 ≥ 1099511627776 then (some 1099511627776) else (if a1 ≥ 1099511627776 then (some 1099511627776) else (if (wrap64 (a0 + a1)) > 1099511627776 then (some 1099511627776) else (some (wrap64 (a0 + a1)))))) = some r := h
 clear h
 by_cases c3 : a0 ≥ 1099511627776
 ·rw [if_pos c3] at H
  have c3b0 := decide_eq_true c3; clear c3; obtain rfl := Option.some.inj H
  go_enter Tryd.func26, Tryd.ntmps26
  go_wp2
  go_ret
  exact ⟨yE, yD⟩
 ·rw [if_neg c3] at H
  have c3b0 := decide_eq_false c3; clear c3
  by_cases c4 : a1 ≥ 1099511627776
  ·rw [if_pos c4] at H
   have c4b0 := decide_eq_true c4; clear c4; obtain rfl := Option.some.inj H
   go_enter Tryd.func26, Tryd.ntmps26
   go_wp2
   go_ret
   exact ⟨yE, yD⟩
  ·rw [if_neg c4] at H
   have c4b0 := decide_eq_false c4; clear c4
   by_cases c5 : (wrap64 (a0 + a1)) > 1099511627776
   ·rw [if_pos c5] at H
    have c5b0 := decide_eq_true c5; clear c5; obtain rfl := Option.some.inj H
    go_enter Tryd.func26, Tryd.ntmps26
    go_wp2
    go_ret
    exact ⟨yE, yD⟩
   ·rw [if_neg c5] at H
    have c5b0 := decide_eq_false c5; clear c5; obtain rfl := Option.some.inj H
    go_enter Tryd.func26, Tryd.ntmps26
    go_wp2
    go_ret
    exact ⟨yE, yD⟩
set_option maxHeartbeats 8000000 in
set_option maxRecDepth 100000 in
theorem patchworkref8_Olds.calls (k : Nat) (A0 : Option Addr) (c0 : Nat) (l0 : List (Op)) (r : Int) (w : World) (hr0 : Kd.C kOp w A0 l0.length l0) (hc0 : l0.length ≤ c0) (h : patchworkref8_Olds.f k l0 = some r) :
  Calls Tryd.prog 12 #[.slice A0 l0.length c0] w fun e w' => e = .returned (.int .i64 r) ∧ Below w.heap.size w w' := by
 have hu32 := Tryd.underlying32
 have HR0 := aM hr0
 have HC0 := aM hc0
 clear hr0 hc0
 have HB := aM (Below.refl w.heap.size w)
 have H : (patchworkref8_Olds.l0 k l0 0 0) = some r := h
 clear h
 have H' := aM H
 clear H
 go_enter Tryd.func12, Tryd.ntmps12
 go_wp2
 go_loopg [3, 4] k (fun kq v3 v4 w' => ∃ (x3_1 : Int) (x4_1 : Int), v3 = .int .i64 x3_1 ∧ v4 = .int .i64 x4_1 ∧ Aside0 (patchworkref8_Olds.l0 kq l0 x3_1 x4_1 = some r) ∧ Aside0 (kq ≤ k) ∧ Aside0 (Below w.heap.size w w'))
 case atStart => exact ⟨(0), (0), yE, yE, H', ⟨Nat.le_refl _⟩, ⟨yB⟩⟩
 case round =>
  clear H'; (try clear c1); obtain ⟨x3_1, x4_1, rfl, rfl, HA, HK1, HB⟩ := hrel; cases gk with
  | zero => exact absurd HA.out (by simp [patchworkref8_Olds.l0])
  | succ k1 =>
   have H := HA.out; clear HA; simp only [patchworkref8_Olds.l0] at H
   by_cases c2 : x4_1 < (l0.length : Int)
   ·rw [if_pos c2] at H
    have c2b0 := decide_eq_true c2; clear c2
    by_cases c3 : 0 ≤ x4_1
    ·rw [if_pos c3] at H
     have c3b0 := decide_eq_true c3; clear c3; replace H := oB H; obtain ⟨t232, A4, H⟩ := H; replace H := oB H; obtain ⟨t233, A5, H⟩ := H; have H' := aM H; clear H; have p231 : 0 ≤ (x4_1 : Int) := yO; have q231 : x4_1 < (l0.length : Int) := yO; obtain ⟨ad231, e231, hx231_0, hx231_1, hx231_2⟩ := at_OpB HB.out HR0.out x4_1 p231 q231; cases e231; replace p231 := eq_true p231; replace q231 := eq_true q231
     go_wp2_with (first | ((with_reducible refine gate_callee (f := 24) rfl ?_); refine goesL_ (some 16) rfl rfl Tryd.func24 yK rfl #[.agg #[.int .i64 ((rd_Op l0 x4_1).f0), .int .i64 ((rd_Op l0 x4_1).f1), .string ((rd_Op l0 x4_1).f2)]] rfl yG ?_; (with_reducible refine (patchworkref8_old.calls ((rd_Op l0 x4_1).f0) ((rd_Op l0 x4_1).f1) ((rd_Op l0 x4_1).f2) t232 _ A4.out).mono ?_); rintro e w6 ⟨rfl, hb⟩; refine ⟨_, rfl, ?_⟩; replace HB := aM (below_step yB hb); clear hb) | ((with_reducible refine gate_callee (f := 26) rfl ?_); refine goesL_ (some 17) rfl rfl Tryd.func26 yK rfl #[.int .i64 x3_1, .int .i64 t232] rfl yG ?_; (with_reducible refine (patchworkref8_plus.calls x3_1 t232 t233 _ A5.out).mono ?_); rintro e w' ⟨rfl, ⟨nd, rfl⟩⟩; refine ⟨_, rfl, ?_⟩))
     go_roundg k1
     case measure => have := HK1.out; omega
     case rel => exact ⟨(t233), (wrap64 (x4_1 + 1)), yE, yE, H', ⟨by have := HK1.out; omega⟩, ⟨yB⟩⟩
    ·rw [if_neg c3] at H
     exact absurd H (by simp)
   ·rw [if_neg c2] at H
    have c2b0 := decide_eq_false c2; clear c2; obtain rfl := Option.some.inj H
    go_wp2
    go_ret
    exact ⟨yE2, yB⟩
set_option maxHeartbeats 8000000 in
set_option maxRecDepth 100000 in
theorem patchworkref1_Open.calls (a0 : ByteArray) (r : Bool) (w : World) (h : patchworkref1_Open.f a0 = some r) :
  Calls Tryd.prog 15 #[.string a0] w fun e w' => e = .returned (.bool r) ∧ Drawn0 w w' := by
 have H : (if a0.toList = ([] : List UInt8) then (some true) else (if 0 ≤ (wrap64 ((a0.size : Int) - 1)) then (if (wrap64 ((a0.size : Int) - 1)) < (a0.size : Int) then (some ((bt a0 (wrap64 ((a0.size : Int) - 1))) != 10)) else (none)) else (none))) = some r := h
 clear h
 by_cases c2 : a0.toList = ([] : List UInt8)
 ·rw [if_pos c2] at H
  have c2b0 := beq_iff_eq.mpr c2; have c2b1 := bne_eq_false_iff_eq.mpr c2; clear c2; obtain rfl := Option.some.inj H
  go_enter Tryd.func15, Tryd.ntmps15
  go_wp2
  go_ret
  exact ⟨yE, yD⟩
 ·rw [if_neg c2] at H
  have c2b0 := beq_eq_false_iff_ne.mpr c2; have c2b1 := bne_iff_ne.mpr c2; obtain ⟨ji3, hji3⟩ : ∃ j_ : Int, (wrap64 ((a0.size : Int) - 1)) = j_ := ⟨_, rfl⟩; replace H : (if 0 ≤ (ji3) then (if (ji3) < (a0.size : Int) then (some ((bt a0 (ji3)) != 10)) else (none)) else (none)) = some r := by first | (rw [hji3] at H; exact H) | (simp only [hji3] at H ⊢; exact H)
  have hji3w : (IntKind.i64.wrap ((a0.size : Int) - 1)) = ji3 := (i64_w _).trans hji3
  by_cases c4 : 0 ≤ (ji3)
  ·rw [if_pos c4] at H
   have c4b0 := decide_eq_true c4; clear c4
   by_cases c5 : (ji3) < (a0.size : Int)
   ·rw [if_pos c5] at H
    have c5b0 := decide_eq_true c5; clear c5; obtain rfl := Option.some.inj H; have p6 : 0 ≤ ((ji3) : Int) := yO; have q6 : (ji3) < (a0.size : Int) := yO; have hx6 := bt_at a0 (ji3); replace p6 := eq_true p6; replace q6 := eq_true q6
    go_enter Tryd.func15, Tryd.ntmps15
    go_wp2
    go_ret
    exact ⟨by first | rfl | (simp; done) | (simp only [← hji3] <;> (first | rfl | simp)) | (simp [*]; done), yD⟩
   ·rw [if_neg c5] at H
    exact absurd H (by simp)
  ·rw [if_neg c4] at H
   exact absurd H (by simp)
set_option maxHeartbeats 8000000 in
set_option maxRecDepth 100000 in
theorem patchworkref8_fresh.calls (a0_0 : Int) (a0_1 : Int) (a0_2 : ByteArray) (r : Int) (w : World) (h : patchworkref8_fresh.f a0_0 a0_1 a0_2 = some r) :
  Calls Tryd.prog 25 #[.agg #[.int .i64 a0_0, .int .i64 a0_1, .string a0_2]] w fun e w' => e = .returned (.int .i64 r) ∧ Below w.heap.size w w' := by
 have hu32 := Tryd.underlying32
 have HB := aM (Below.refl w.heap.size w)
 have H : (if a0_0 = 3 then (some 0) else (if a0_0 = 4 then (some 1) else ((patchworkref8_old.f a0_0 a0_1 a0_2).bind fun t235 => (some t235)))) = some r := h
 clear h
 by_cases c2 : a0_0 = 3
 ·rw [if_pos c2] at H
  have c2b0 := beq_iff_eq.mpr c2; have c2b1 := bne_eq_false_iff_eq.mpr c2; clear c2; obtain rfl := Option.some.inj H
  go_enter Tryd.func25, Tryd.ntmps25
  go_wp2_with (first | ((with_reducible refine gate_dst (N := 1) rfl ?_); refine box_event yR (N := 1) yR (cs := #[.int .i64 a0_0, .int .i64 a0_1, .string a0_2]) (t := 32) yQ ?_; intro gb234 hg w3 hbox hb; have BK234 := aM (hbox); have GW234 := aM ((yS : w.heap.size ≤ gb234)); have GE234 := aM ((yS : w.heap.size ≤ gb234)); replace HB := aM (below_step yB hb); clear hb hbox hg; obtain ⟨hcz4_0, hcz4_1, hcz4_2, hfz4_0, hfz4_1, hfz4_2⟩ := blk3 BK234.out))
  go_ret
  exact ⟨yE2, yBg GE234.out⟩
 ·rw [if_neg c2] at H
  have c2b0 := beq_eq_false_iff_ne.mpr c2; have c2b1 := bne_iff_ne.mpr c2
  by_cases c5 : a0_0 = 4
  ·rw [if_pos c5] at H
   have c5b0 := beq_iff_eq.mpr c5; have c5b1 := bne_eq_false_iff_eq.mpr c5; clear c5; obtain rfl := Option.some.inj H
   go_enter Tryd.func25, Tryd.ntmps25
   go_wp2_with (first | ((with_reducible refine gate_dst (N := 1) rfl ?_); refine box_event yR (N := 1) yR (cs := #[.int .i64 a0_0, .int .i64 a0_1, .string a0_2]) (t := 32) yQ ?_; intro gb234 hg w6 hbox hb; have BK234 := aM (hbox); have GW234 := aM ((yS : w.heap.size ≤ gb234)); have GE234 := aM ((yS : w.heap.size ≤ gb234)); replace HB := aM (below_step yB hb); clear hb hbox hg; obtain ⟨hcz7_0, hcz7_1, hcz7_2, hfz7_0, hfz7_1, hfz7_2⟩ := blk3 BK234.out))
   go_ret
   exact ⟨yE2, yBg GE234.out⟩
  ·rw [if_neg c5] at H
   have c5b0 := beq_eq_false_iff_ne.mpr c5; have c5b1 := bne_iff_ne.mpr c5; replace H := oB H; obtain ⟨t235, A8, H⟩ := H; obtain rfl := Option.some.inj H
   go_enter Tryd.func25, Tryd.ntmps25
   go_wp2_with (first | ((with_reducible refine gate_dst (N := 1) rfl ?_); refine box_event yR (N := 1) yR (cs := #[.int .i64 a0_0, .int .i64 a0_1, .string a0_2]) (t := 32) yQ ?_; intro gb234 hg w9 hbox hb; have BK234 := aM (hbox); have GW234 := aM ((yS : w.heap.size ≤ gb234)); have GE234 := aM ((yS : w.heap.size ≤ gb234)); replace HB := aM (below_step yB hb); clear hb hbox hg; obtain ⟨hcz10_0, hcz10_1, hcz10_2, hfz10_0, hfz10_1, hfz10_2⟩ := blk3 BK234.out) | ((with_reducible refine gate_callee (f := 24) rfl ?_); refine goesL_ (some 10) rfl rfl Tryd.func24 yK rfl #[.agg #[.int .i64 a0_0, .int .i64 a0_1, .string a0_2]] rfl yG ?_; (with_reducible refine (patchworkref8_old.calls a0_0 a0_1 a0_2 t235 _ A8.out).mono ?_); rintro e w11 ⟨rfl, hb⟩; refine ⟨_, rfl, ?_⟩; replace BK234 := aM (blk_below (g := gb234) (o := .cells #[.int .i64 a0_0, .int .i64 a0_1, .string a0_2] 32 (0, 0)) (by (with_reducible repeat (first | refine kN ?_ _ | refine kD ?_ | refine kA ?_ _)); exact BK234.out) hb); replace HB := aM (below_step (yBg GE234.out) hb); clear hb))
   go_ret
   exact ⟨yE2, yBg GE234.out⟩
set_option maxHeartbeats 8000000 in
set_option maxRecDepth 100000 in
theorem patchworkref8_News.calls (k : Nat) (A0 : Option Addr) (c0 : Nat) (l0 : List (Op)) (r : Int) (w : World) (hr0 : Kd.C kOp w A0 l0.length l0) (hc0 : l0.length ≤ c0) (h : patchworkref8_News.f k l0 = some r) :
  Calls Tryd.prog 22 #[.slice A0 l0.length c0] w fun e w' => e = .returned (.int .i64 r) ∧ Below w.heap.size w w' := by
 have hu32 := Tryd.underlying32
 have HR0 := aM hr0
 have HC0 := aM hc0
 clear hr0 hc0
 have HB := aM (Below.refl w.heap.size w)
 have H : (patchworkref8_News.l0 k l0 0 0) = some r := h
 clear h
 have H' := aM H
 clear H
 go_enter Tryd.func22, Tryd.ntmps22
 go_wp2
 go_loopg [3, 4] k (fun kq v3 v4 w' => ∃ (x3_1 : Int) (x4_1 : Int), v3 = .int .i64 x3_1 ∧ v4 = .int .i64 x4_1 ∧ Aside0 (patchworkref8_News.l0 kq l0 x3_1 x4_1 = some r) ∧ Aside0 (kq ≤ k) ∧ Aside0 (Below w.heap.size w w'))
 case atStart => exact ⟨(0), (0), yE, yE, H', ⟨Nat.le_refl _⟩, ⟨yB⟩⟩
 case round =>
  clear H'; obtain ⟨x3_1, x4_1, rfl, rfl, HA, HK1, HB⟩ := hrel; cases gk with
  | zero => exact absurd HA.out (by simp [patchworkref8_News.l0])
  | succ k1 =>
   have H := HA.out; clear HA; simp only [patchworkref8_News.l0] at H
   by_cases c2 : x4_1 < (l0.length : Int)
   ·rw [if_pos c2] at H
    have c2b0 := decide_eq_true c2; clear c2
    by_cases c3 : 0 ≤ x4_1
    ·rw [if_pos c3] at H
     have c3b0 := decide_eq_true c3; clear c3; replace H := oB H; obtain ⟨t237, A4, H⟩ := H; replace H := oB H; obtain ⟨t238, A5, H⟩ := H; have H' := aM H; clear H; have p236 : 0 ≤ (x4_1 : Int) := yO; have q236 : x4_1 < (l0.length : Int) := yO; obtain ⟨ad236, e236, hx236_0, hx236_1, hx236_2⟩ := at_OpB HB.out HR0.out x4_1 p236 q236; cases e236; replace p236 := eq_true p236; replace q236 := eq_true q236
     go_wp2_with (first | ((with_reducible refine gate_callee (f := 25) rfl ?_); refine goesL_ (some 16) rfl rfl Tryd.func25 yK rfl #[.agg #[.int .i64 ((rd_Op l0 x4_1).f0), .int .i64 ((rd_Op l0 x4_1).f1), .string ((rd_Op l0 x4_1).f2)]] rfl yG ?_; (with_reducible refine (patchworkref8_fresh.calls ((rd_Op l0 x4_1).f0) ((rd_Op l0 x4_1).f1) ((rd_Op l0 x4_1).f2) t237 _ A4.out).mono ?_); rintro e w6 ⟨rfl, hb⟩; refine ⟨_, rfl, ?_⟩; replace HB := aM (below_step yB hb); clear hb) | ((with_reducible refine gate_callee (f := 26) rfl ?_); refine goesL_ (some 17) rfl rfl Tryd.func26 yK rfl #[.int .i64 x3_1, .int .i64 t237] rfl yG ?_; (with_reducible refine (patchworkref8_plus.calls x3_1 t237 t238 _ A5.out).mono ?_); rintro e w' ⟨rfl, ⟨nd, rfl⟩⟩; refine ⟨_, rfl, ?_⟩))
     go_roundg k1
     case measure => have := HK1.out; omega
     case rel => exact ⟨(t238), (wrap64 (x4_1 + 1)), yE, yE, H', ⟨by have := HK1.out; omega⟩, ⟨yB⟩⟩
    ·rw [if_neg c3] at H
     exact absurd H (by simp)
   ·rw [if_neg c2] at H
    have c2b0 := decide_eq_false c2; clear c2; obtain rfl := Option.some.inj H
    go_wp2
    go_ret
    exact ⟨yE2, yB⟩
set_option maxHeartbeats 8000000 in
set_option maxRecDepth 100000 in
theorem patchworkref8_Right.calls (k : Nat) (A0 : Option Addr) (c0 : Nat) (l0 : List (Op)) (r : Bool) (w : World) (hr0 : Kd.C kOp w A0 l0.length l0) (hc0 : l0.length ≤ c0) (h : patchworkref8_Right.f k l0 = some r) :
  Calls Tryd.prog 10 #[.slice A0 l0.length c0] w fun e w' => e = .returned (.bool r) ∧ Below w.heap.size w w' := by
 have hu32 := Tryd.underlying32
 have HR0 := aM hr0
 have HC0 := aM hc0
 clear hr0 hc0
 have HB := aM (Below.refl w.heap.size w)
 have H : (patchworkref8_Right.l0 k l0 false false 0) = some r := h
 clear h
 have H' := aM H
 clear H
 go_enter Tryd.func10, Tryd.ntmps10
 go_wp2
 go_loopg [3, 4, 5] k (fun kq v3 v4 v5 w' => ∃ (x3_1 : Bool) (x4_1 : Bool) (x5_1 : Int), v3 = .bool x3_1 ∧ v4 = .bool x4_1 ∧ v5 = .int .i64 x5_1 ∧ Aside0 (patchworkref8_Right.l0 kq l0 x3_1 x4_1 x5_1 = some r) ∧ Aside0 (kq ≤ k) ∧ Aside0 (Below w.heap.size w w'))
 case atStart => exact ⟨(false), (false), (0), yE, yE, yE, H', ⟨Nat.le_refl _⟩, ⟨yB⟩⟩
 case round =>
  clear H'; (try clear c1); obtain ⟨x3_1, x4_1, x5_1, rfl, rfl, rfl, HA, HK1, HB⟩ := hrel; cases gk with
  | zero => exact absurd HA.out (by simp [patchworkref8_Right.l0])
  | succ k1 =>
   have H := HA.out; clear HA; simp only [patchworkref8_Right.l0] at H
   by_cases c2 : x5_1 < (l0.length : Int)
   ·rw [if_pos c2] at H
    have c2b0 := decide_eq_true c2; clear c2
    by_cases c3 : 0 ≤ x5_1
    ·rw [if_pos c3] at H
     have c3b0 := decide_eq_true c3; clear c3; have HC4 := aM H; clear H; have p241 : 0 ≤ (x5_1 : Int) := yO; have q241 : x5_1 < (l0.length : Int) := yO; obtain ⟨ad241, e241, hx241_0, hx241_1, hx241_2⟩ := at_OpB HB.out HR0.out x5_1 p241 q241; cases e241; replace p241 := eq_true p241; replace q241 := eq_true q241
     go_upto_region 7 with (first | ((with_reducible refine gate_dst (N := 6) rfl ?_); refine box_event yR (N := 6) yR (cs := #[.int .i64 0, .int .i64 0, .string (⟨#[]⟩ : ByteArray)]) (t := 32) yQ ?_; intro gb242 hg w5 hbox hb; have BK242 := aM (hbox); have GW242 := aM ((yS : w.heap.size ≤ gb242)); have GE242 := aM ((yS : w.heap.size ≤ gb242)); replace HB := aM (below_step yB hb); clear hb hbox hg; obtain ⟨hcz6_0, hcz6_1, hcz6_2, hfz6_0, hfz6_1, hfz6_2⟩ := blk3 BK242.out))
     (try simp only [Act.put, List.setIfInBounds_toArray, List.set_cons_zero, List.set_cons_succ])
     go_cut [30] (fun v30 wc => ∃ (kq : Nat) (x30_3 : Bool), v30 = .bool x30_3 ∧ Aside0 (patchworkref8_Right.j1 kq l0 x3_1 x4_1 x5_1 x30_3 ((rd_Op l0 x5_1).f0) ((rd_Op l0 x5_1).f1) ((rd_Op l0 x5_1).f2) = some r) ∧ Aside0 (kq ≤ k1) ∧ Aside0 (wc.heap[gb242]? = some (.cells #[.int .i64 ((rd_Op l0 x5_1).f0), .int .i64 ((rd_Op l0 x5_1).f1), .string ((rd_Op l0 x5_1).f2)] 32 (0, 0))) ∧ Aside0 (Below w.heap.size w wc))
     case first =>
      have H := HC4.out; clear HC4; replace H := oB H; obtain ⟨t243, A7, H⟩ := H
      by_cases c8 : t243 > 0
      ·rw [if_pos c8] at H
       have c8b0 := decide_eq_true c8; clear c8
       (first | rw [c8b0] | (simp only [i64_w, i32_w]; rw [c8b0]) | skip)
       by_cases c9 : x3_1 = true
       ·subst c9
        have H' := aM (iT H); clear H; obtain ⟨hcz10_0, hcz10_1, hcz10_2, hfz10_0, hfz10_1, hfz10_2⟩ := blk3 BK242.out
        go_wp2_with (first | ((with_reducible refine gate_callee (f := 24) rfl ?_); refine goesL_ (some 18) rfl rfl Tryd.func24 yK rfl #[.agg #[.int .i64 ((rd_Op l0 x5_1).f0), .int .i64 ((rd_Op l0 x5_1).f1), .string ((rd_Op l0 x5_1).f2)]] rfl yG ?_; (with_reducible refine (patchworkref8_old.calls ((rd_Op l0 x5_1).f0) ((rd_Op l0 x5_1).f1) ((rd_Op l0 x5_1).f2) t243 _ A7.out).mono ?_); rintro e w11 ⟨rfl, hb⟩; refine ⟨_, rfl, ?_⟩; replace BK242 := aM (blk_below (g := gb242) (o := .cells #[.int .i64 ((rd_Op l0 x5_1).f0), .int .i64 ((rd_Op l0 x5_1).f1), .string ((rd_Op l0 x5_1).f2)] 32 (0, 0)) (by (with_reducible repeat (first | refine kN ?_ _ | refine kD ?_ | refine kA ?_ _)); refine blk_put (cs := #[.int .i64 ((rd_Op l0 x5_1).f0), .int .i64 ((rd_Op l0 x5_1).f1), .string (⟨#[]⟩ : ByteArray)]) ?_ 2 _ rfl; (with_reducible repeat (first | refine kN ?_ _ | refine kD ?_ | refine kA ?_ _)); refine blk_put (cs := #[.int .i64 ((rd_Op l0 x5_1).f0), .int .i64 0, .string (⟨#[]⟩ : ByteArray)]) ?_ 1 _ rfl; (with_reducible repeat (first | refine kN ?_ _ | refine kD ?_ | refine kA ?_ _)); refine blk_put (cs := #[.int .i64 0, .int .i64 0, .string (⟨#[]⟩ : ByteArray)]) ?_ 0 _ rfl; (with_reducible repeat (first | refine kN ?_ _ | refine kD ?_ | refine kA ?_ _)); exact BK242.out) hb); replace HB := aM (below_step (yBg GE242.out) hb); clear hb))
        go_meet
        case rel => exact ⟨_, (true), yE, H', ⟨by have := HK1.out; first | omega | exact Nat.le_refl _⟩, ⟨by (with_reducible repeat (first | refine kN ?_ _ | refine kD ?_ | refine kA ?_ _)); exact BK242.out⟩, ⟨yBg GE242.out⟩⟩
       ·replace c9 := Bool.eq_false_iff.mpr c9
        subst c9; replace H := iF H; replace H := oB H; obtain ⟨t244, A12, H⟩ := H
        by_cases c13 : t244 > 0
        ·rw [if_pos c13] at H
         have c13b0 := decide_eq_true c13; clear c13; have H' := aM H; clear H; obtain ⟨hcz14_0, hcz14_1, hcz14_2, hfz14_0, hfz14_1, hfz14_2⟩ := blk3 BK242.out
         go_wp2_with (first | ((with_reducible refine gate_callee (f := 24) rfl ?_); refine goesL_ (some 18) rfl rfl Tryd.func24 yK rfl #[.agg #[.int .i64 ((rd_Op l0 x5_1).f0), .int .i64 ((rd_Op l0 x5_1).f1), .string ((rd_Op l0 x5_1).f2)]] rfl yG ?_; (with_reducible refine (patchworkref8_old.calls ((rd_Op l0 x5_1).f0) ((rd_Op l0 x5_1).f1) ((rd_Op l0 x5_1).f2) t243 _ A7.out).mono ?_); rintro e w15 ⟨rfl, hb⟩; refine ⟨_, rfl, ?_⟩; replace BK242 := aM (blk_below (g := gb242) (o := .cells #[.int .i64 ((rd_Op l0 x5_1).f0), .int .i64 ((rd_Op l0 x5_1).f1), .string ((rd_Op l0 x5_1).f2)] 32 (0, 0)) (by (with_reducible repeat (first | refine kN ?_ _ | refine kD ?_ | refine kA ?_ _)); refine blk_put (cs := #[.int .i64 ((rd_Op l0 x5_1).f0), .int .i64 ((rd_Op l0 x5_1).f1), .string (⟨#[]⟩ : ByteArray)]) ?_ 2 _ rfl; (with_reducible repeat (first | refine kN ?_ _ | refine kD ?_ | refine kA ?_ _)); refine blk_put (cs := #[.int .i64 ((rd_Op l0 x5_1).f0), .int .i64 0, .string (⟨#[]⟩ : ByteArray)]) ?_ 1 _ rfl; (with_reducible repeat (first | refine kN ?_ _ | refine kD ?_ | refine kA ?_ _)); refine blk_put (cs := #[.int .i64 0, .int .i64 0, .string (⟨#[]⟩ : ByteArray)]) ?_ 0 _ rfl; (with_reducible repeat (first | refine kN ?_ _ | refine kD ?_ | refine kA ?_ _)); exact BK242.out) hb); replace HB := aM (below_step (yBg GE242.out) hb); clear hb; obtain ⟨hcz16_0, hcz16_1, hcz16_2, hfz16_0, hfz16_1, hfz16_2⟩ := blk3 BK242.out) | (go_at_call 25; (with_reducible refine (patchworkref8_fresh.calls ((rd_Op l0 x5_1).f0) ((rd_Op l0 x5_1).f1) ((rd_Op l0 x5_1).f2) t244 _ A12.out).mono ?_); rintro e w17 ⟨rfl, hb⟩; replace BK242 := aM (blk_below (g := gb242) (o := .cells #[.int .i64 ((rd_Op l0 x5_1).f0), .int .i64 ((rd_Op l0 x5_1).f1), .string ((rd_Op l0 x5_1).f2)] 32 (0, 0)) (by (with_reducible repeat (first | refine kN ?_ _ | refine kD ?_ | refine kA ?_ _)); exact BK242.out) hb); replace HB := aM (below_step (yBg GE242.out) hb); clear hb))
         go_meet
         case rel => exact ⟨_, (x4_1), yE, H', ⟨by have := HK1.out; first | omega | exact Nat.le_refl _⟩, ⟨by (with_reducible repeat (first | refine kN ?_ _ | refine kD ?_ | refine kA ?_ _)); exact BK242.out⟩, ⟨yBg GE242.out⟩⟩
        ·rw [if_neg c13] at H
         have c13b0 := decide_eq_false c13; clear c13; have H' := aM H; clear H; obtain ⟨hcz18_0, hcz18_1, hcz18_2, hfz18_0, hfz18_1, hfz18_2⟩ := blk3 BK242.out
         go_wp2_with (first | ((with_reducible refine gate_callee (f := 24) rfl ?_); refine goesL_ (some 18) rfl rfl Tryd.func24 yK rfl #[.agg #[.int .i64 ((rd_Op l0 x5_1).f0), .int .i64 ((rd_Op l0 x5_1).f1), .string ((rd_Op l0 x5_1).f2)]] rfl yG ?_; (with_reducible refine (patchworkref8_old.calls ((rd_Op l0 x5_1).f0) ((rd_Op l0 x5_1).f1) ((rd_Op l0 x5_1).f2) t243 _ A7.out).mono ?_); rintro e w19 ⟨rfl, hb⟩; refine ⟨_, rfl, ?_⟩; replace BK242 := aM (blk_below (g := gb242) (o := .cells #[.int .i64 ((rd_Op l0 x5_1).f0), .int .i64 ((rd_Op l0 x5_1).f1), .string ((rd_Op l0 x5_1).f2)] 32 (0, 0)) (by (with_reducible repeat (first | refine kN ?_ _ | refine kD ?_ | refine kA ?_ _)); refine blk_put (cs := #[.int .i64 ((rd_Op l0 x5_1).f0), .int .i64 ((rd_Op l0 x5_1).f1), .string (⟨#[]⟩ : ByteArray)]) ?_ 2 _ rfl; (with_reducible repeat (first | refine kN ?_ _ | refine kD ?_ | refine kA ?_ _)); refine blk_put (cs := #[.int .i64 ((rd_Op l0 x5_1).f0), .int .i64 0, .string (⟨#[]⟩ : ByteArray)]) ?_ 1 _ rfl; (with_reducible repeat (first | refine kN ?_ _ | refine kD ?_ | refine kA ?_ _)); refine blk_put (cs := #[.int .i64 0, .int .i64 0, .string (⟨#[]⟩ : ByteArray)]) ?_ 0 _ rfl; (with_reducible repeat (first | refine kN ?_ _ | refine kD ?_ | refine kA ?_ _)); exact BK242.out) hb); replace HB := aM (below_step (yBg GE242.out) hb); clear hb; obtain ⟨hcz20_0, hcz20_1, hcz20_2, hfz20_0, hfz20_1, hfz20_2⟩ := blk3 BK242.out) | (go_at_call 25; (with_reducible refine (patchworkref8_fresh.calls ((rd_Op l0 x5_1).f0) ((rd_Op l0 x5_1).f1) ((rd_Op l0 x5_1).f2) t244 _ A12.out).mono ?_); rintro e w21 ⟨rfl, hb⟩; replace BK242 := aM (blk_below (g := gb242) (o := .cells #[.int .i64 ((rd_Op l0 x5_1).f0), .int .i64 ((rd_Op l0 x5_1).f1), .string ((rd_Op l0 x5_1).f2)] 32 (0, 0)) (by (with_reducible repeat (first | refine kN ?_ _ | refine kD ?_ | refine kA ?_ _)); exact BK242.out) hb); replace HB := aM (below_step (yBg GE242.out) hb); clear hb))
         go_meet
         case rel => exact ⟨_, (false), yE, H', ⟨by have := HK1.out; first | omega | exact Nat.le_refl _⟩, ⟨by (with_reducible repeat (first | refine kN ?_ _ | refine kD ?_ | refine kA ?_ _)); exact BK242.out⟩, ⟨yBg GE242.out⟩⟩
      ·rw [if_neg c8] at H
       have c8b0 := decide_eq_false c8; clear c8
       (first | rw [c8b0] | (simp only [i64_w, i32_w]; rw [c8b0]) | skip)
       replace H := oB H; obtain ⟨t245, A22, H⟩ := H
       by_cases c23 : t245 > 0
       ·rw [if_pos c23] at H
        have c23b0 := decide_eq_true c23; clear c23; have H' := aM H; clear H; obtain ⟨hcz24_0, hcz24_1, hcz24_2, hfz24_0, hfz24_1, hfz24_2⟩ := blk3 BK242.out
        go_wp2_with (first | ((with_reducible refine gate_callee (f := 24) rfl ?_); refine goesL_ (some 18) rfl rfl Tryd.func24 yK rfl #[.agg #[.int .i64 ((rd_Op l0 x5_1).f0), .int .i64 ((rd_Op l0 x5_1).f1), .string ((rd_Op l0 x5_1).f2)]] rfl yG ?_; (with_reducible refine (patchworkref8_old.calls ((rd_Op l0 x5_1).f0) ((rd_Op l0 x5_1).f1) ((rd_Op l0 x5_1).f2) t243 _ A7.out).mono ?_); rintro e w25 ⟨rfl, hb⟩; refine ⟨_, rfl, ?_⟩; replace BK242 := aM (blk_below (g := gb242) (o := .cells #[.int .i64 ((rd_Op l0 x5_1).f0), .int .i64 ((rd_Op l0 x5_1).f1), .string ((rd_Op l0 x5_1).f2)] 32 (0, 0)) (by (with_reducible repeat (first | refine kN ?_ _ | refine kD ?_ | refine kA ?_ _)); refine blk_put (cs := #[.int .i64 ((rd_Op l0 x5_1).f0), .int .i64 ((rd_Op l0 x5_1).f1), .string (⟨#[]⟩ : ByteArray)]) ?_ 2 _ rfl; (with_reducible repeat (first | refine kN ?_ _ | refine kD ?_ | refine kA ?_ _)); refine blk_put (cs := #[.int .i64 ((rd_Op l0 x5_1).f0), .int .i64 0, .string (⟨#[]⟩ : ByteArray)]) ?_ 1 _ rfl; (with_reducible repeat (first | refine kN ?_ _ | refine kD ?_ | refine kA ?_ _)); refine blk_put (cs := #[.int .i64 0, .int .i64 0, .string (⟨#[]⟩ : ByteArray)]) ?_ 0 _ rfl; (with_reducible repeat (first | refine kN ?_ _ | refine kD ?_ | refine kA ?_ _)); exact BK242.out) hb); replace HB := aM (below_step (yBg GE242.out) hb); clear hb; obtain ⟨hcz26_0, hcz26_1, hcz26_2, hfz26_0, hfz26_1, hfz26_2⟩ := blk3 BK242.out) | (go_at_call 25; (with_reducible refine (patchworkref8_fresh.calls ((rd_Op l0 x5_1).f0) ((rd_Op l0 x5_1).f1) ((rd_Op l0 x5_1).f2) t245 _ A22.out).mono ?_); rintro e w27 ⟨rfl, hb⟩; replace BK242 := aM (blk_below (g := gb242) (o := .cells #[.int .i64 ((rd_Op l0 x5_1).f0), .int .i64 ((rd_Op l0 x5_1).f1), .string ((rd_Op l0 x5_1).f2)] 32 (0, 0)) (by (with_reducible repeat (first | refine kN ?_ _ | refine kD ?_ | refine kA ?_ _)); exact BK242.out) hb); replace HB := aM (below_step (yBg GE242.out) hb); clear hb))
        go_meet
        case rel => exact ⟨_, (x4_1), yE, H', ⟨by have := HK1.out; first | omega | exact Nat.le_refl _⟩, ⟨by (with_reducible repeat (first | refine kN ?_ _ | refine kD ?_ | refine kA ?_ _)); exact BK242.out⟩, ⟨yBg GE242.out⟩⟩
       ·rw [if_neg c23] at H
        have c23b0 := decide_eq_false c23; clear c23; have H' := aM H; clear H; obtain ⟨hcz28_0, hcz28_1, hcz28_2, hfz28_0, hfz28_1, hfz28_2⟩ := blk3 BK242.out
        go_wp2_with (first | ((with_reducible refine gate_callee (f := 24) rfl ?_); refine goesL_ (some 18) rfl rfl Tryd.func24 yK rfl #[.agg #[.int .i64 ((rd_Op l0 x5_1).f0), .int .i64 ((rd_Op l0 x5_1).f1), .string ((rd_Op l0 x5_1).f2)]] rfl yG ?_; (with_reducible refine (patchworkref8_old.calls ((rd_Op l0 x5_1).f0) ((rd_Op l0 x5_1).f1) ((rd_Op l0 x5_1).f2) t243 _ A7.out).mono ?_); rintro e w29 ⟨rfl, hb⟩; refine ⟨_, rfl, ?_⟩; replace BK242 := aM (blk_below (g := gb242) (o := .cells #[.int .i64 ((rd_Op l0 x5_1).f0), .int .i64 ((rd_Op l0 x5_1).f1), .string ((rd_Op l0 x5_1).f2)] 32 (0, 0)) (by (with_reducible repeat (first | refine kN ?_ _ | refine kD ?_ | refine kA ?_ _)); refine blk_put (cs := #[.int .i64 ((rd_Op l0 x5_1).f0), .int .i64 ((rd_Op l0 x5_1).f1), .string (⟨#[]⟩ : ByteArray)]) ?_ 2 _ rfl; (with_reducible repeat (first | refine kN ?_ _ | refine kD ?_ | refine kA ?_ _)); refine blk_put (cs := #[.int .i64 ((rd_Op l0 x5_1).f0), .int .i64 0, .string (⟨#[]⟩ : ByteArray)]) ?_ 1 _ rfl; (with_reducible repeat (first | refine kN ?_ _ | refine kD ?_ | refine kA ?_ _)); refine blk_put (cs := #[.int .i64 0, .int .i64 0, .string (⟨#[]⟩ : ByteArray)]) ?_ 0 _ rfl; (with_reducible repeat (first | refine kN ?_ _ | refine kD ?_ | refine kA ?_ _)); exact BK242.out) hb); replace HB := aM (below_step (yBg GE242.out) hb); clear hb; obtain ⟨hcz30_0, hcz30_1, hcz30_2, hfz30_0, hfz30_1, hfz30_2⟩ := blk3 BK242.out) | (go_at_call 25; (with_reducible refine (patchworkref8_fresh.calls ((rd_Op l0 x5_1).f0) ((rd_Op l0 x5_1).f1) ((rd_Op l0 x5_1).f2) t245 _ A22.out).mono ?_); rintro e w31 ⟨rfl, hb⟩; replace BK242 := aM (blk_below (g := gb242) (o := .cells #[.int .i64 ((rd_Op l0 x5_1).f0), .int .i64 ((rd_Op l0 x5_1).f1), .string ((rd_Op l0 x5_1).f2)] 32 (0, 0)) (by (with_reducible repeat (first | refine kN ?_ _ | refine kD ?_ | refine kA ?_ _)); exact BK242.out) hb); replace HB := aM (below_step (yBg GE242.out) hb); clear hb))
        go_meet
        case rel => exact ⟨_, (false), yE, H', ⟨by have := HK1.out; first | omega | exact Nat.le_refl _⟩, ⟨by (with_reducible repeat (first | refine kN ?_ _ | refine kD ?_ | refine kA ?_ _)); exact BK242.out⟩, ⟨yBg GE242.out⟩⟩
     case rest =>
      clear HC4; (try clear c1); (try clear c2); (try clear c2b0); (try clear p2); (try clear q2); (try clear hx2); (try clear c3); (try clear c3b0); (try clear c8); (try clear c8b0); (try clear c9); (try clear c10); (try clear c13); (try clear c13b0); (try clear c23); (try clear c23b0); (try clear c24); (try clear p24); (try clear q24); (try clear hx24); (try clear hcz10_0); (try clear hcz10_1); (try clear hcz10_2); (try clear hcz14_0); (try clear hcz14_1); (try clear hcz14_2); (try clear hcz16_0); (try clear hcz16_1); (try clear hcz16_2); (try clear hcz18_0); (try clear hcz18_1); (try clear hcz18_2); (try clear hcz20_0); (try clear hcz20_1); (try clear hcz20_2); (try clear hcz24_0); (try clear hcz24_1); (try clear hcz24_2); (try clear hcz26_0); (try clear hcz26_1); (try clear hcz26_2); (try clear hcz28_0); (try clear hcz28_1); (try clear hcz28_2); (try clear hcz30_0); (try clear hcz30_1); (try clear hcz30_2); (try clear hcz6_0); (try clear hcz6_1); (try clear hcz6_2); (try clear hfz10_0); (try clear hfz10_1); (try clear hfz10_2); (try clear hfz14_0); (try clear hfz14_1); (try clear hfz14_2); (try clear hfz16_0); (try clear hfz16_1); (try clear hfz16_2); (try clear hfz18_0); (try clear hfz18_1); (try clear hfz18_2); (try clear hfz20_0); (try clear hfz20_1); (try clear hfz20_2); (try clear hfz24_0); (try clear hfz24_1); (try clear hfz24_2); (try clear hfz26_0); (try clear hfz26_1); (try clear hfz26_2); (try clear hfz28_0); (try clear hfz28_1); (try clear hfz28_2); (try clear hfz30_0); (try clear hfz30_1); (try clear hfz30_2); (try clear hfz6_0); (try clear hfz6_1); (try clear hfz6_2); (try clear hx241_0); (try clear hx241_1); (try clear hx241_2); (try clear p241); (try clear q241); obtain ⟨kq, x30_3, rfl, HA, HJ3, BK242, HB⟩ := hcut; cases kq with
      | zero => exact absurd HA.out (by simp [patchworkref8_Right.j1])
      | succ kj3 =>
       have H := HA.out; clear HA; simp only [patchworkref8_Right.j1] at H
       by_cases c32 : x30_3 = true
       ·subst c32
        replace H := iT H; obtain rfl := Option.some.inj H
        go_wp2
        go_ret
        exact ⟨yE2, yBg GE242.out⟩
       ·replace c32 := Bool.eq_false_iff.mpr c32
        subst c32; replace H := iF H; have HC33 := aM H; clear H; obtain ⟨hcz34_0, hcz34_1, hcz34_2, hfz34_0, hfz34_1, hfz34_2⟩ := blk3 BK242.out
        go_upto_block 2 with (fail)
        go_cut [] (fun wc => ∃ (kq : Nat), Aside0 (patchworkref8_Right.j2 kq l0 x3_1 x4_1 x5_1 ((rd_Op l0 x5_1).f0) ((rd_Op l0 x5_1).f1) ((rd_Op l0 x5_1).f2) = some r) ∧ Aside0 (kq ≤ kj3) ∧ Aside0 (wc.heap[gb242]? = some (.cells #[.int .i64 ((rd_Op l0 x5_1).f0), .int .i64 ((rd_Op l0 x5_1).f1), .string ((rd_Op l0 x5_1).f2)] 32 (0, 0))) ∧ Aside0 (Below w.heap.size w wc))
        case first =>
         have H := HC33.out; clear HC33
         by_cases c35 : ((rd_Op l0 x5_1).f0) = 1
         ·rw [if_pos c35] at H
          have c35b0 := beq_iff_eq.mpr c35; have c35b1 := bne_eq_false_iff_eq.mpr c35; clear c35
          (first | rw [c35b0] | (simp only [i64_w, i32_w]; rw [c35b0]) | skip)
          by_cases c36 : ((rd_Op l0 x5_1).f1) < 1
          ·rw [if_pos c36] at H
           have c36b0 := decide_eq_true c36; clear c36; obtain rfl := Option.some.inj H; obtain ⟨hcz37_0, hcz37_1, hcz37_2, hfz37_0, hfz37_1, hfz37_2⟩ := blk3 BK242.out
           go_wp2
           go_ret
           exact ⟨yE2, yBg GE242.out⟩
          ·rw [if_neg c36] at H
           have c36b0 := decide_eq_false c36; clear c36
           by_cases c38 : ((rd_Op l0 x5_1).f1) > 2147483648
           ·rw [if_pos c38] at H
            have c38b0 := decide_eq_true c38; clear c38; obtain rfl := Option.some.inj H; obtain ⟨hcz39_0, hcz39_1, hcz39_2, hfz39_0, hfz39_1, hfz39_2⟩ := blk3 BK242.out
            go_wp2
            go_ret
            exact ⟨yE2, yBg GE242.out⟩
           ·rw [if_neg c38] at H
            have c38b0 := decide_eq_false c38; clear c38
            by_cases c40 : ((rd_Op l0 x5_1).f2).toList = ([] : List UInt8)
            ·rw [if_pos c40] at H
             have c40b0 := beq_iff_eq.mpr c40; have c40b1 := bne_eq_false_iff_eq.mpr c40; clear c40; have H' := aM H; clear H; obtain ⟨hcz41_0, hcz41_1, hcz41_2, hfz41_0, hfz41_1, hfz41_2⟩ := blk3 BK242.out
             go_wp2
             go_roundg kj3
             case measure => have := HK1.out; have := HJ3.out; omega
             case rel => exact ⟨(x3_1), (x4_1), (wrap64 (x5_1 + 1)), yE, yE, yE, H', ⟨by have := HK1.out; have := HJ3.out; omega⟩, ⟨yBg GE242.out⟩⟩
            ·rw [if_neg c40] at H
             have c40b0 := beq_eq_false_iff_ne.mpr c40; have c40b1 := bne_iff_ne.mpr c40; obtain rfl := Option.some.inj H; obtain ⟨hcz42_0, hcz42_1, hcz42_2, hfz42_0, hfz42_1, hfz42_2⟩ := blk3 BK242.out
             go_wp2
             go_ret
             exact ⟨yE2, yBg GE242.out⟩
         ·rw [if_neg c35] at H
          have c35b0 := beq_eq_false_iff_ne.mpr c35; have c35b1 := bne_iff_ne.mpr c35
          (first | rw [c35b0] | (simp only [i64_w, i32_w]; rw [c35b0]) | skip)
          by_cases c43 : ((rd_Op l0 x5_1).f0) = 2
          ·rw [if_pos c43] at H
           have c43b0 := beq_iff_eq.mpr c43; have c43b1 := bne_eq_false_iff_eq.mpr c43; clear c43; have H' := aM H; clear H
           go_wp2
           go_meet
           case rel => exact ⟨_, H', ⟨by have := HK1.out; have := HJ3.out; first | omega | exact Nat.le_refl _⟩, ⟨by (with_reducible repeat (first | refine kN ?_ _ | refine kD ?_ | refine kA ?_ _)); exact BK242.out⟩, ⟨yBg GE242.out⟩⟩
          ·rw [if_neg c43] at H
           have c43b0 := beq_eq_false_iff_ne.mpr c43; have c43b1 := bne_iff_ne.mpr c43
           by_cases c44 : ((rd_Op l0 x5_1).f0) = 3
           ·rw [if_pos c44] at H
            have c44b0 := beq_iff_eq.mpr c44; have c44b1 := bne_eq_false_iff_eq.mpr c44; clear c44; have H' := aM H; clear H
            go_wp2
            go_meet
            case rel => exact ⟨_, H', ⟨by have := HK1.out; have := HJ3.out; first | omega | exact Nat.le_refl _⟩, ⟨by (with_reducible repeat (first | refine kN ?_ _ | refine kD ?_ | refine kA ?_ _)); exact BK242.out⟩, ⟨yBg GE242.out⟩⟩
           ·rw [if_neg c44] at H
            have c44b0 := beq_eq_false_iff_ne.mpr c44; have c44b1 := bne_iff_ne.mpr c44
            by_cases c45 : ((rd_Op l0 x5_1).f0) = 4
            ·rw [if_pos c45] at H
             have c45b0 := beq_iff_eq.mpr c45; have c45b1 := bne_eq_false_iff_eq.mpr c45; clear c45; have H' := aM H; clear H
             go_wp2
             go_meet
             case rel => exact ⟨_, H', ⟨by have := HK1.out; have := HJ3.out; first | omega | exact Nat.le_refl _⟩, ⟨by (with_reducible repeat (first | refine kN ?_ _ | refine kD ?_ | refine kA ?_ _)); exact BK242.out⟩, ⟨yBg GE242.out⟩⟩
            ·rw [if_neg c45] at H
             have c45b0 := beq_eq_false_iff_ne.mpr c45; have c45b1 := bne_iff_ne.mpr c45; obtain rfl := Option.some.inj H
             go_wp2
             go_ret
             exact ⟨yE2, yBg GE242.out⟩
        case rest =>
         clear HC33; (try clear c1); (try clear c2); (try clear c2b0); (try clear p2); (try clear q2); (try clear hx2); (try clear c3); (try clear c3b0); (try clear c4); (try clear p6); (try clear c8); (try clear c8b0); (try clear c9); (try clear c10); (try clear c13); (try clear c13b0); (try clear c23); (try clear c23b0); (try clear c24); (try clear p24); (try clear q24); (try clear hx24); (try clear c32); (try clear c35); (try clear c35b0); (try clear c35b1); (try clear c36); (try clear c36b0); (try clear c38); (try clear c38b0); (try clear c40); (try clear c40b0); (try clear c40b1); (try clear c43); (try clear c43b0); (try clear c43b1); (try clear c44); (try clear c44b0); (try clear c44b1); (try clear c45); (try clear c45b0); (try clear c45b1); (try clear hcz10_0); (try clear hcz10_1); (try clear hcz10_2); (try clear hcz14_0); (try clear hcz14_1); (try clear hcz14_2); (try clear hcz16_0); (try clear hcz16_1); (try clear hcz16_2); (try clear hcz18_0); (try clear hcz18_1); (try clear hcz18_2); (try clear hcz20_0); (try clear hcz20_1); (try clear hcz20_2); (try clear hcz24_0); (try clear hcz24_1); (try clear hcz24_2); (try clear hcz26_0); (try clear hcz26_1); (try clear hcz26_2); (try clear hcz28_0); (try clear hcz28_1); (try clear hcz28_2); (try clear hcz30_0); (try clear hcz30_1); (try clear hcz30_2); (try clear hcz34_0); (try clear hcz34_1); (try clear hcz34_2); (try clear hcz37_0); (try clear hcz37_1); (try clear hcz37_2); (try clear hcz39_0); (try clear hcz39_1); (try clear hcz39_2); (try clear hcz41_0); (try clear hcz41_1); (try clear hcz41_2); (try clear hcz42_0); (try clear hcz42_1); (try clear hcz42_2); (try clear hcz6_0); (try clear hcz6_1); (try clear hcz6_2); (try clear hfz10_0); (try clear hfz10_1); (try clear hfz10_2); (try clear hfz14_0); (try clear hfz14_1); (try clear hfz14_2); (try clear hfz16_0); (try clear hfz16_1); (try clear hfz16_2); (try clear hfz18_0); (try clear hfz18_1); (try clear hfz18_2); (try clear hfz20_0); (try clear hfz20_1); (try clear hfz20_2); (try clear hfz24_0); (try clear hfz24_1); (try clear hfz24_2); (try clear hfz26_0); (try clear hfz26_1); (try clear hfz26_2); (try clear hfz28_0); (try clear hfz28_1); (try clear hfz28_2); (try clear hfz30_0); (try clear hfz30_1); (try clear hfz30_2); (try clear hfz34_0); (try clear hfz34_1); (try clear hfz34_2); (try clear hfz37_0); (try clear hfz37_1); (try clear hfz37_2); (try clear hfz39_0); (try clear hfz39_1); (try clear hfz39_2); (try clear hfz41_0); (try clear hfz41_1); (try clear hfz41_2); (try clear hfz42_0); (try clear hfz42_1); (try clear hfz42_2); (try clear hfz6_0); (try clear hfz6_1); (try clear hfz6_2); (try clear hx241_0); (try clear hx241_1); (try clear hx241_2); (try clear p2); (try clear p24); (try clear p241); (try clear q2); (try clear q24); (try clear q241); obtain ⟨kq, HA, HJ32, BK242, HB⟩ := hcut; cases kq with
         | zero => exact absurd HA.out (by simp [patchworkref8_Right.j2])
         | succ kj32 =>
          have H := HA.out; clear HA; simp only [patchworkref8_Right.j2] at H; have HC46 := aM H; clear H
          go_upto_region 17 with (fail)
          go_cut [60] (fun v60 wc => ∃ (kq : Nat) (x60_45 : Bool), v60 = .bool x60_45 ∧ Aside0 (patchworkref8_Right.j3 kq l0 x3_1 x4_1 x5_1 x60_45 ((rd_Op l0 x5_1).f0) ((rd_Op l0 x5_1).f1) ((rd_Op l0 x5_1).f2) = some r) ∧ Aside0 (kq ≤ kj32) ∧ Aside0 (wc.heap[gb242]? = some (.cells #[.int .i64 ((rd_Op l0 x5_1).f0), .int .i64 ((rd_Op l0 x5_1).f1), .string ((rd_Op l0 x5_1).f2)] 32 (0, 0))) ∧ Aside0 (Below w.heap.size w wc))
          case first =>
           have H := HC46.out; clear HC46
           by_cases c47 : ((rd_Op l0 x5_1).f1) = 0
           ·rw [if_pos c47] at H
            have c47b0 := beq_iff_eq.mpr c47; have c47b1 := bne_eq_false_iff_eq.mpr c47; clear c47
            (first | rw [c47b0] | (simp only [i64_w, i32_w]; rw [c47b0]) | skip)
            replace H := oB H; obtain ⟨t246, A48, H⟩ := H; have H' := aM H; clear H; obtain ⟨hcz49_0, hcz49_1, hcz49_2, hfz49_0, hfz49_1, hfz49_2⟩ := blk3 BK242.out
            go_wp2_with (first | (go_at_call 16; (with_reducible refine (patchworkref1_RightLine.calls kj32 ((rd_Op l0 x5_1).f2) t246 _ A48.out).mono ?_); rintro e w' ⟨rfl, ⟨nd, rfl⟩⟩))
            go_meet
            case rel => exact ⟨_, (!t246), yE, H', ⟨by have := HK1.out; have := HJ3.out; have := HJ32.out; first | omega | exact Nat.le_refl _⟩, ⟨by (with_reducible repeat (first | refine kN ?_ _ | refine kD ?_ | refine kA ?_ _)); exact BK242.out⟩, ⟨yBg GE242.out⟩⟩
           ·rw [if_neg c47] at H
            have c47b0 := beq_eq_false_iff_ne.mpr c47; have c47b1 := bne_iff_ne.mpr c47
            (first | rw [c47b0] | (simp only [i64_w, i32_w]; rw [c47b0]) | skip)
            have H' := aM H; clear H; obtain ⟨hcz50_0, hcz50_1, hcz50_2, hfz50_0, hfz50_1, hfz50_2⟩ := blk3 BK242.out
            go_wp2
            go_meet
            case rel => exact ⟨_, (true), yE, H', ⟨by have := HK1.out; have := HJ3.out; have := HJ32.out; first | omega | exact Nat.le_refl _⟩, ⟨by (with_reducible repeat (first | refine kN ?_ _ | refine kD ?_ | refine kA ?_ _)); exact BK242.out⟩, ⟨yBg GE242.out⟩⟩
          case rest =>
           clear HC46; (try clear c1); (try clear c2); (try clear c2b0); (try clear p2); (try clear q2); (try clear hx2); (try clear c3); (try clear c3b0); (try clear c4); (try clear p6); (try clear c8); (try clear c8b0); (try clear c9); (try clear c10); (try clear c13); (try clear c13b0); (try clear c23); (try clear c23b0); (try clear c24); (try clear p24); (try clear q24); (try clear hx24); (try clear c32); (try clear c35); (try clear c35b0); (try clear c35b1); (try clear c36); (try clear c36b0); (try clear c38); (try clear c38b0); (try clear c40); (try clear c40b0); (try clear c40b1); (try clear c43); (try clear c43b0); (try clear c43b1); (try clear c44); (try clear c44b0); (try clear c44b1); (try clear c45); (try clear c45b0); (try clear c45b1); (try clear c47); (try clear c47b0); (try clear c47b1); (try clear hcz10_0); (try clear hcz10_1); (try clear hcz10_2); (try clear hcz14_0); (try clear hcz14_1); (try clear hcz14_2); (try clear hcz16_0); (try clear hcz16_1); (try clear hcz16_2); (try clear hcz18_0); (try clear hcz18_1); (try clear hcz18_2); (try clear hcz20_0); (try clear hcz20_1); (try clear hcz20_2); (try clear hcz24_0); (try clear hcz24_1); (try clear hcz24_2); (try clear hcz26_0); (try clear hcz26_1); (try clear hcz26_2); (try clear hcz28_0); (try clear hcz28_1); (try clear hcz28_2); (try clear hcz30_0); (try clear hcz30_1); (try clear hcz30_2); (try clear hcz34_0); (try clear hcz34_1); (try clear hcz34_2); (try clear hcz37_0); (try clear hcz37_1); (try clear hcz37_2); (try clear hcz39_0); (try clear hcz39_1); (try clear hcz39_2); (try clear hcz41_0); (try clear hcz41_1); (try clear hcz41_2); (try clear hcz42_0); (try clear hcz42_1); (try clear hcz42_2); (try clear hcz49_0); (try clear hcz49_1); (try clear hcz49_2); (try clear hcz50_0); (try clear hcz50_1); (try clear hcz50_2); (try clear hcz6_0); (try clear hcz6_1); (try clear hcz6_2); (try clear hfz10_0); (try clear hfz10_1); (try clear hfz10_2); (try clear hfz14_0); (try clear hfz14_1); (try clear hfz14_2); (try clear hfz16_0); (try clear hfz16_1); (try clear hfz16_2); (try clear hfz18_0); (try clear hfz18_1); (try clear hfz18_2); (try clear hfz20_0); (try clear hfz20_1); (try clear hfz20_2); (try clear hfz24_0); (try clear hfz24_1); (try clear hfz24_2); (try clear hfz26_0); (try clear hfz26_1); (try clear hfz26_2); (try clear hfz28_0); (try clear hfz28_1); (try clear hfz28_2); (try clear hfz30_0); (try clear hfz30_1); (try clear hfz30_2); (try clear hfz34_0); (try clear hfz34_1); (try clear hfz34_2); (try clear hfz37_0); (try clear hfz37_1); (try clear hfz37_2); (try clear hfz39_0); (try clear hfz39_1); (try clear hfz39_2); (try clear hfz41_0); (try clear hfz41_1); (try clear hfz41_2); (try clear hfz42_0); (try clear hfz42_1); (try clear hfz42_2); (try clear hfz49_0); (try clear hfz49_1); (try clear hfz49_2); (try clear hfz50_0); (try clear hfz50_1); (try clear hfz50_2); (try clear hfz6_0); (try clear hfz6_1); (try clear hfz6_2); (try clear hx241_0); (try clear hx241_1); (try clear hx241_2); (try clear p2); (try clear p24); (try clear p241); (try clear p6); (try clear q2); (try clear q24); (try clear q241); obtain ⟨kq, x60_45, rfl, HA, HJ45, BK242, HB⟩ := hcut; cases kq with
           | zero => exact absurd HA.out (by simp [patchworkref8_Right.j3])
           | succ kj45 =>
            have H := HA.out; clear HA; simp only [patchworkref8_Right.j3] at H
            by_cases c51 : x60_45 = true
            ·subst c51
             replace H := iT H; obtain rfl := Option.some.inj H
             go_wp2
             go_ret
             exact ⟨yE2, yBg GE242.out⟩
            ·replace c51 := Bool.eq_false_iff.mpr c51
             subst c51; replace H := iF H; replace H := oB H; obtain ⟨t247, A52, H⟩ := H
             by_cases c53 : t247 = true
             ·subst c53
              replace H := iT H
              by_cases c54 : x3_1 = true
              ·subst c54
               replace H := iT H
               by_cases c55 : x4_1 = true
               ·subst c55
                have H' := aM (iT H); clear H; obtain ⟨hcz56_0, hcz56_1, hcz56_2, hfz56_0, hfz56_1, hfz56_2⟩ := blk3 BK242.out
                go_wp2_with (first | ((with_reducible refine gate_callee (f := 15) rfl ?_); refine goesL_ (some 63) rfl rfl Tryd.func15 yK rfl #[.string ((rd_Op l0 x5_1).f2)] rfl yG ?_; (with_reducible refine (patchworkref1_Open.calls ((rd_Op l0 x5_1).f2) true _ A52.out).mono ?_); rintro e w' ⟨rfl, ⟨nd, rfl⟩⟩; refine ⟨_, rfl, ?_⟩))
                go_roundg kj45
                case measure => have := HK1.out; have := HJ3.out; have := HJ32.out; have := HJ45.out; omega
                case rel => exact ⟨(true), (true), (wrap64 (x5_1 + 1)), yE, yE, yE, H', ⟨by have := HK1.out; have := HJ3.out; have := HJ32.out; have := HJ45.out; omega⟩, ⟨yBg GE242.out⟩⟩
               ·replace c55 := Bool.eq_false_iff.mpr c55
                subst c55; have H' := aM (iF H); clear H; obtain ⟨hcz57_0, hcz57_1, hcz57_2, hfz57_0, hfz57_1, hfz57_2⟩ := blk3 BK242.out
                go_wp2_with (first | ((with_reducible refine gate_callee (f := 15) rfl ?_); refine goesL_ (some 63) rfl rfl Tryd.func15 yK rfl #[.string ((rd_Op l0 x5_1).f2)] rfl yG ?_; (with_reducible refine (patchworkref1_Open.calls ((rd_Op l0 x5_1).f2) true _ A52.out).mono ?_); rintro e w' ⟨rfl, ⟨nd, rfl⟩⟩; refine ⟨_, rfl, ?_⟩))
                go_roundg kj45
                case measure => have := HK1.out; have := HJ3.out; have := HJ32.out; have := HJ45.out; omega
                case rel => exact ⟨(true), ((((rd_Op l0 x5_1).f0) != 3)), (wrap64 (x5_1 + 1)), yE, yE, yE, H', ⟨by have := HK1.out; have := HJ3.out; have := HJ32.out; have := HJ45.out; omega⟩, ⟨yBg GE242.out⟩⟩
              ·replace c54 := Bool.eq_false_iff.mpr c54
               subst c54; replace H := iF H
               by_cases c58 : x4_1 = true
               ·subst c58
                have H' := aM (iT H); clear H; obtain ⟨hcz59_0, hcz59_1, hcz59_2, hfz59_0, hfz59_1, hfz59_2⟩ := blk3 BK242.out
                go_wp2_with (first | ((with_reducible refine gate_callee (f := 15) rfl ?_); refine goesL_ (some 63) rfl rfl Tryd.func15 yK rfl #[.string ((rd_Op l0 x5_1).f2)] rfl yG ?_; (with_reducible refine (patchworkref1_Open.calls ((rd_Op l0 x5_1).f2) true _ A52.out).mono ?_); rintro e w' ⟨rfl, ⟨nd, rfl⟩⟩; refine ⟨_, rfl, ?_⟩))
                go_roundg kj45
                case measure => have := HK1.out; have := HJ3.out; have := HJ32.out; have := HJ45.out; omega
                case rel => exact ⟨((((rd_Op l0 x5_1).f0) != 4)), (true), (wrap64 (x5_1 + 1)), yE, yE, yE, H', ⟨by have := HK1.out; have := HJ3.out; have := HJ32.out; have := HJ45.out; omega⟩, ⟨yBg GE242.out⟩⟩
               ·replace c58 := Bool.eq_false_iff.mpr c58
                subst c58; have H' := aM (iF H); clear H; obtain ⟨hcz60_0, hcz60_1, hcz60_2, hfz60_0, hfz60_1, hfz60_2⟩ := blk3 BK242.out
                go_wp2_with (first | ((with_reducible refine gate_callee (f := 15) rfl ?_); refine goesL_ (some 63) rfl rfl Tryd.func15 yK rfl #[.string ((rd_Op l0 x5_1).f2)] rfl yG ?_; (with_reducible refine (patchworkref1_Open.calls ((rd_Op l0 x5_1).f2) true _ A52.out).mono ?_); rintro e w' ⟨rfl, ⟨nd, rfl⟩⟩; refine ⟨_, rfl, ?_⟩))
                go_roundg kj45
                case measure => have := HK1.out; have := HJ3.out; have := HJ32.out; have := HJ45.out; omega
                case rel => exact ⟨((((rd_Op l0 x5_1).f0) != 4)), ((((rd_Op l0 x5_1).f0) != 3)), (wrap64 (x5_1 + 1)), yE, yE, yE, H', ⟨by have := HK1.out; have := HJ3.out; have := HJ32.out; have := HJ45.out; omega⟩, ⟨yBg GE242.out⟩⟩
             ·replace c53 := Bool.eq_false_iff.mpr c53
              subst c53; have H' := aM (iF H); clear H; obtain ⟨hcz61_0, hcz61_1, hcz61_2, hfz61_0, hfz61_1, hfz61_2⟩ := blk3 BK242.out
              go_wp2_with (first | ((with_reducible refine gate_callee (f := 15) rfl ?_); refine goesL_ (some 63) rfl rfl Tryd.func15 yK rfl #[.string ((rd_Op l0 x5_1).f2)] rfl yG ?_; (with_reducible refine (patchworkref1_Open.calls ((rd_Op l0 x5_1).f2) false _ A52.out).mono ?_); rintro e w' ⟨rfl, ⟨nd, rfl⟩⟩; refine ⟨_, rfl, ?_⟩))
              go_roundg kj45
              case measure => have := HK1.out; have := HJ3.out; have := HJ32.out; have := HJ45.out; omega
              case rel => exact ⟨(x3_1), (x4_1), (wrap64 (x5_1 + 1)), yE, yE, yE, H', ⟨by have := HK1.out; have := HJ3.out; have := HJ32.out; have := HJ45.out; omega⟩, ⟨yBg GE242.out⟩⟩
    ·rw [if_neg c3] at H
     exact absurd H (by simp)
   ·rw [if_neg c2] at H
    have c2b0 := decide_eq_false c2; clear c2; replace H := oB H; obtain ⟨t239, A62, H⟩ := H
    by_cases c63 : t239 ≤ 2147483648
    ·rw [if_pos c63] at H
     have c63b0 := decide_eq_true c63; clear c63; replace H := oB H; obtain ⟨t240, A64, H⟩ := H; obtain rfl := Option.some.inj H
     go_wp2_with (first | ((with_reducible refine gate_callee (f := 12) rfl ?_); refine goesL_ (some 77) rfl rfl Tryd.func12 yK rfl #[.slice A0 l0.length c0] rfl yG ?_; (with_reducible refine (patchworkref8_Olds.calls k1 _ _ l0 t239 _ (yC (Kd.C_below HR0.out HB.out)) HC0.out A62.out).mono ?_); rintro e w65 ⟨rfl, hb⟩; refine ⟨_, rfl, ?_⟩; replace HB := aM (below_step yB hb); clear hb) | (go_at_call 22; (with_reducible refine (patchworkref8_News.calls k1 _ _ l0 t240 _ (yC (Kd.C_below HR0.out HB.out)) HC0.out A64.out).mono ?_); rintro e w66 ⟨rfl, hb⟩; replace HB := aM (below_step yB hb); clear hb))
     go_ret
     exact ⟨yE2, yB⟩
    ·rw [if_neg c63] at H
     have c63b0 := decide_eq_false c63; clear c63; obtain rfl := Option.some.inj H
     go_wp2_with (first | ((with_reducible refine gate_callee (f := 12) rfl ?_); refine goesL_ (some 77) rfl rfl Tryd.func12 yK rfl #[.slice A0 l0.length c0] rfl yG ?_; (with_reducible refine (patchworkref8_Olds.calls k1 _ _ l0 t239 _ (yC (Kd.C_below HR0.out HB.out)) HC0.out A62.out).mono ?_); rintro e w67 ⟨rfl, hb⟩; refine ⟨_, rfl, ?_⟩; replace HB := aM (below_step yB hb); clear hb))
     go_ret
     exact ⟨yE2, yB⟩
end Go.Proofs.YtkiklmmpflndbaaDoor.P
