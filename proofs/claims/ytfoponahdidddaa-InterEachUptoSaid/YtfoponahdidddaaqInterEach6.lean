/- Own and printed texts that the theorem of InterEach reaches, put together. -/
import Derived.Test.YtfoponahdidddaaqInterEach4
import Derived.Test.YtfoponahdidddaaqInterEach3
set_option linter.unusedVariables false
set_option linter.unusedSimpArgs false
namespace Go.Proofs.Ytfoponahdidddaa.P
open Go.RowKit Go.Proofs.YtfoponahdidddaaW.PrintWords Go.Proofs.YtfoponahdidddaaW.PrintLast Go.Proofs.YtfoponahdidddaaW.PrintMore
open Go.Proofs.YtfoponahdidddaaW.PrintWords renaming blk_alloc → kA, blk_drewN → kN, blk_drew → kD
open Go.Proofs.YtfoponahdidddaaW.PrintWords.Aside0 renaming mk → aM
open Go.World renaming block_lt_of_cell? → bL
open List renaming setIfInBounds_toArray → sI, set_cons_zero → sZ, set_cons_succ → sS, length_drop → lD, length_take → lT
attribute [local go_sem] max2_int min2_int max_two min_two max_three min_three max_four min_four
set_option maxHeartbeats 8000000 in
set_option maxRecDepth 100000 in
theorem ops_New.calls (a0 : Int) (r : Bool) (w : World) (h : ops_New.f a0 = some r) :
  Calls Try.prog 66 #[.int .i64 a0] w fun e w' => e = .returned (.bool r) ∧ Drawn0 w w' := by
 have H : (if a0 = 1 then (some true) else (if a0 = 2 then (some true) else (some (a0 == 4)))) = some r := h
 clear h
 by_cases c2 : a0 = 1
 ·rw [if_pos c2] at H
  have c2b0 := beq_iff_eq.mpr c2; have c2b1 := bne_eq_false_iff_eq.mpr c2; clear c2; obtain rfl := Option.some.inj H
  go_enter Try.func66, Try.ntmps66
  go_wp2
  go_ret
  exact ⟨yE, yD⟩
 ·rw [if_neg c2] at H
  have c2b0 := beq_eq_false_iff_ne.mpr c2; have c2b1 := bne_iff_ne.mpr c2
  by_cases c3 : a0 = 2
  ·rw [if_pos c3] at H
   have c3b0 := beq_iff_eq.mpr c3; have c3b1 := bne_eq_false_iff_eq.mpr c3; clear c3; obtain rfl := Option.some.inj H
   go_enter Try.func66, Try.ntmps66
   go_wp2
   go_ret
   exact ⟨yE, yD⟩
  ·rw [if_neg c3] at H
   have c3b0 := beq_eq_false_iff_ne.mpr c3; have c3b1 := bne_iff_ne.mpr c3; obtain rfl := Option.some.inj H
   go_enter Try.func66, Try.ntmps66
   go_wp2
   go_ret
   exact ⟨yE, yD⟩
set_option maxHeartbeats 8000000 in
set_option maxRecDepth 100000 in
theorem ops_Old.calls (a0 : Int) (r : Bool) (w : World) (h : ops_Old.f a0 = some r) :
  Calls Try.prog 65 #[.int .i64 a0] w fun e w' => e = .returned (.bool r) ∧ Drawn0 w w' := by
 have H : (if a0 = 1 then (some true) else (if a0 = 2 then (some true) else (some (a0 == 3)))) = some r := h
 clear h
 by_cases c2 : a0 = 1
 ·rw [if_pos c2] at H
  have c2b0 := beq_iff_eq.mpr c2; have c2b1 := bne_eq_false_iff_eq.mpr c2; clear c2; obtain rfl := Option.some.inj H
  go_enter Try.func65, Try.ntmps65
  go_wp2
  go_ret
  exact ⟨yE, yD⟩
 ·rw [if_neg c2] at H
  have c2b0 := beq_eq_false_iff_ne.mpr c2; have c2b1 := bne_iff_ne.mpr c2
  by_cases c3 : a0 = 2
  ·rw [if_pos c3] at H
   have c3b0 := beq_iff_eq.mpr c3; have c3b1 := bne_eq_false_iff_eq.mpr c3; clear c3; obtain rfl := Option.some.inj H
   go_enter Try.func65, Try.ntmps65
   go_wp2
   go_ret
   exact ⟨yE, yD⟩
  ·rw [if_neg c3] at H
   have c3b0 := beq_eq_false_iff_ne.mpr c3; have c3b1 := bne_iff_ne.mpr c3; obtain rfl := Option.some.inj H
   go_enter Try.func65, Try.ntmps65
   go_wp2
   go_ret
   exact ⟨yE, yD⟩
set_option maxHeartbeats 8000000 in
set_option maxRecDepth 100000 in
theorem ops_Change.calls (a0 : Int) (r : Bool) (w : World) (h : ops_Change.f a0 = some r) :
  Calls Try.prog 71 #[.int .i64 a0] w fun e w' => e = .returned (.bool r) ∧ Drawn0 w w' := by
 have H : (if a0 = 3 then (some true) else (some (a0 == 4))) = some r := h
 clear h
 by_cases c2 : a0 = 3
 ·rw [if_pos c2] at H
  have c2b0 := beq_iff_eq.mpr c2; have c2b1 := bne_eq_false_iff_eq.mpr c2; clear c2; obtain rfl := Option.some.inj H
  go_enter Try.func71, Try.ntmps71
  go_wp2
  go_ret
  exact ⟨yE, yD⟩
 ·rw [if_neg c2] at H
  have c2b0 := beq_eq_false_iff_ne.mpr c2; have c2b1 := bne_iff_ne.mpr c2; obtain rfl := Option.some.inj H
  go_enter Try.func71, Try.ntmps71
  go_wp2
  go_ret
  exact ⟨yE, yD⟩
theorem strings_Contains.calls (a0 : ByteArray) (a1 : ByteArray) (r : Bool) (w : World) (h : strings_Contains.f a0 a1 = some r) :
  Calls Try.prog 89 #[.string a0, .string a1] w fun e w' => e = .returned (.bool r) ∧ Drawn0 w w' := by
 unfold strings_Contains.f at h
 split at h
 ·rename_i c hc
  obtain rfl := Option.some.inj h
  obtain ⟨⟨l⟩⟩ := a1
  simp only at hc
  subst hc
  refine (Go.Proofs.Try.strings_Contains_one a0 c w).mono ?_
  rintro e w' ⟨rfl, rfl⟩
  exact ⟨by rw [has_byte], Drawn0.refl _⟩
 ·exact absurd h (by simp)
set_option maxHeartbeats 8000000 in
set_option maxRecDepth 100000 in
theorem stringslite_HasSuffix.calls (a0 : ByteArray) (a1 : ByteArray) (r : Bool) (w : World) (h : stringslite_HasSuffix.f a0 a1 = some r) :
  Calls Try.prog 94 #[.string a0, .string a1] w fun e w' => e = .returned (.bool r) ∧ Drawn0 w w' := by
 have H : (if (a0.size : Int) ≥ (a1.size : Int) then (if 0 ≤ (wrap64 ((a0.size : Int) - (a1.size : Int))) then (if (wrap64 ((a0.size : Int) - (a1.size : Int))) ≤ (a0.size : Int) then (some ((a0.extract ((wrap64 ((a0.size : Int) - (a1.size : Int))) : Int).toNat a0.size).toList == a1.toList)) else (none)) else (none)) else (some false)) = some r := h
 clear h
 by_cases c3 : (a0.size : Int) ≥ (a1.size : Int)
 ·rw [if_pos c3] at H
  have c3b0 := decide_eq_true c3; have c3b1 : decide (a1.size ≤ a0.size) = true := decide_eq_true (Int.ofNat_le.mp c3); clear c3; obtain ⟨ji4, hji4⟩ : ∃ j_ : Int, (wrap64 ((a0.size : Int) - (a1.size : Int))) = j_ := ⟨_, rfl⟩; replace H : (if 0 ≤ (ji4) then (if (ji4) ≤ (a0.size : Int) then (some ((a0.extract ((ji4) : Int).toNat a0.size).toList == a1.toList)) else (none)) else (none)) = some r := by first | (rw [hji4] at H; exact H) | (simp only [hji4] at H ⊢; exact H)
  have hji4w : (IntKind.i64.wrap ((a0.size : Int) - (a1.size : Int))) = ji4 := (i64_w _).trans hji4
  by_cases c5 : 0 ≤ (ji4)
  ·rw [if_pos c5] at H
   have c5b0 := eq_true c5; have c5b1 := decide_eq_true c5; clear c5
   by_cases c6 : (ji4) ≤ (a0.size : Int)
   ·rw [if_pos c6] at H
    have c6b0 := eq_true c6; have c6b1 := decide_eq_true c6; clear c6; obtain rfl := Option.some.inj H
    go_enter Try.func94, Try.ntmps94
    go_wp2
    go_ret
    exact ⟨by first | rfl | (simp; done) | (simp only [← hji4] <;> (first | rfl | simp)) | (simp [*]; done), yD⟩
   ·rw [if_neg c6] at H
    exact absurd H (by simp)
  ·rw [if_neg c5] at H
   exact absurd H (by simp)
 ·rw [if_neg c3] at H
  have c3b0 := decide_eq_false c3; have c3b1 : decide (a1.size ≤ a0.size) = false := decide_eq_false (fun h => c3 (Int.ofNat_le.mpr h)); clear c3; obtain rfl := Option.some.inj H
  go_enter Try.func94, Try.ntmps94
  go_wp2
  go_ret
  exact ⟨yE, yD⟩
set_option maxHeartbeats 8000000 in
set_option maxRecDepth 100000 in
theorem stringslite_TrimSuffix.calls (a0 : ByteArray) (a1 : ByteArray) (r : ByteArray) (w : World) (h : stringslite_TrimSuffix.f a0 a1 = some r) :
  Calls Try.prog 93 #[.string a0, .string a1] w fun e w' => e = .returned (.string r) ∧ Drawn0 w w' := by
 have H : ((stringslite_HasSuffix.f a0 a1).bind fun t101 => (if t101 = true then (if 0 ≤ (wrap64 ((a0.size : Int) - (a1.size : Int))) then (if (wrap64 ((a0.size : Int) - (a1.size : Int))) ≤ (a0.size : Int) then (some (a0.extract 0 ((wrap64 ((a0.size : Int) - (a1.size : Int))) : Int).toNat)) else (none)) else (none)) else (some a0))) = some r := h
 clear h
 replace H := oB H; obtain ⟨t101, A3, H⟩ := H
 by_cases c4 : t101 = true
 ·subst c4
  replace H := iT H; obtain ⟨ji5, hji5⟩ : ∃ j_ : Int, (wrap64 ((a0.size : Int) - (a1.size : Int))) = j_ := ⟨_, rfl⟩; replace H : (if 0 ≤ (ji5) then (if (ji5) ≤ (a0.size : Int) then (some (a0.extract 0 ((ji5) : Int).toNat)) else (none)) else (none)) = some r := by first | (rw [hji5] at H; exact H) | (simp only [hji5] at H ⊢; exact H)
  (try rw [hji5] at A3)
  have hji5w : (IntKind.i64.wrap ((a0.size : Int) - (a1.size : Int))) = ji5 := (i64_w _).trans hji5
  by_cases c6 : 0 ≤ (ji5)
  ·rw [if_pos c6] at H
   have c6b0 := eq_true c6; have c6b1 := decide_eq_true c6; clear c6
   by_cases c7 : (ji5) ≤ (a0.size : Int)
   ·rw [if_pos c7] at H
    have c7b0 := eq_true c7; have c7b1 := decide_eq_true c7; clear c7; obtain rfl := Option.some.inj H
    go_enter Try.func93, Try.ntmps93
    go_wp2_with (first | ((with_reducible refine gate_callee (f := 94) rfl ?_); refine goesL_ (some 7) rfl rfl Try.func94 yK rfl #[.string a0, .string a1] rfl yG ?_; (with_reducible refine (stringslite_HasSuffix.calls a0 a1 true _ A3.out).mono ?_); rintro e w' ⟨rfl, ⟨nd, rfl⟩⟩; refine ⟨_, rfl, ?_⟩))
    go_ret
    exact ⟨by first | rfl | (simp; done) | (simp only [← hji5] <;> (first | rfl | simp)) | (simp [*]; done), yD⟩
   ·rw [if_neg c7] at H
    exact absurd H (by simp)
  ·rw [if_neg c6] at H
   exact absurd H (by simp)
 ·replace c4 := Bool.eq_false_iff.mpr c4
  subst c4; replace H := iF H; obtain rfl := Option.some.inj H
  go_enter Try.func93, Try.ntmps93
  go_wp2_with (first | ((with_reducible refine gate_callee (f := 94) rfl ?_); refine goesL_ (some 7) rfl rfl Try.func94 yK rfl #[.string a0, .string a1] rfl yG ?_; (with_reducible refine (stringslite_HasSuffix.calls a0 a1 false _ A3.out).mono ?_); rintro e w' ⟨rfl, ⟨nd, rfl⟩⟩; refine ⟨_, rfl, ?_⟩))
  go_ret
  exact ⟨yE, yD⟩
set_option maxHeartbeats 8000000 in
set_option maxRecDepth 100000 in
theorem strings_TrimSuffix.calls (a0 : ByteArray) (a1 : ByteArray) (r : ByteArray) (w : World) (h : strings_TrimSuffix.f a0 a1 = some r) :
  Calls Try.prog 90 #[.string a0, .string a1] w fun e w' => e = .returned (.string r) ∧ Drawn0 w w' := by
 have H : ((stringslite_TrimSuffix.f a0 a1).bind fun t102 => (some t102)) = some r := h
 clear h
 replace H := oB H; obtain ⟨t102, A3, H⟩ := H
 obtain rfl := Option.some.inj H
 go_enter Try.func90, Try.ntmps90
 go_wp2_with (first | ((with_reducible refine gate_callee (f := 93) rfl ?_); refine goesL_ (some 7) rfl rfl Try.func93 yK rfl #[.string a0, .string a1] rfl yG ?_; (with_reducible refine (stringslite_TrimSuffix.calls a0 a1 t102 _ A3.out).mono ?_); rintro e w' ⟨rfl, ⟨nd, rfl⟩⟩; refine ⟨_, rfl, ?_⟩))
 go_ret
 exact ⟨yE, yD⟩
set_option maxHeartbeats 8000000 in
set_option maxRecDepth 100000 in
theorem lines_Right.calls (a0 : ByteArray) (r : Bool) (w : World) (h : lines_Right.f a0 = some r) :
  Calls Try.prog 78 #[.string a0] w fun e w' => e = .returned (.bool r) ∧ Drawn0 w w' := by
 have H : (if a0.toList = ([] : List UInt8) then (some false) else ((strings_TrimSuffix.f a0 (⟨#[10]⟩ : ByteArray)).bind fun t103 => ((strings_Contains.f t103 (⟨#[10]⟩ : ByteArray)).bind fun t104 => (some (!t104))))) = some r := h
 clear h
 by_cases c2 : a0.toList = ([] : List UInt8)
 ·rw [if_pos c2] at H
  have c2b0 := beq_iff_eq.mpr c2; have c2b1 := bne_eq_false_iff_eq.mpr c2; clear c2; obtain rfl := Option.some.inj H
  go_enter Try.func78, Try.ntmps78
  go_wp2
  go_ret
  exact ⟨yE, yD⟩
 ·rw [if_neg c2] at H
  have c2b0 := beq_eq_false_iff_ne.mpr c2; have c2b1 := bne_iff_ne.mpr c2; replace H := oB H; obtain ⟨t103, A3, H⟩ := H; replace H := oB H; obtain ⟨t104, A4, H⟩ := H; obtain rfl := Option.some.inj H
  go_enter Try.func78, Try.ntmps78
  go_wp2_with (first | (go_at_call 90; (with_reducible refine (strings_TrimSuffix.calls a0 (⟨#[10]⟩ : ByteArray) t103 _ A3.out).mono ?_); rintro e w' ⟨rfl, ⟨nd, rfl⟩⟩) | (go_at_call 89; (with_reducible refine (strings_Contains.calls t103 (⟨#[10]⟩ : ByteArray) t104 _ A4.out).mono ?_); rintro e w' ⟨rfl, ⟨nd, rfl⟩⟩))
  go_ret
  exact ⟨yE, yD⟩
set_option maxHeartbeats 8000000 in
set_option maxRecDepth 100000 in
theorem ops_one.calls (a0_0 : Int) (a0_1 : Int) (a0_2 : ByteArray) (r : Bool) (w : World) (h : ops_one.f a0_0 a0_1 a0_2 = some r) :
  Calls Try.prog 61 #[.agg #[.int .i64 a0_0, .int .i64 a0_1, .string a0_2]] w fun e w' => e = .returned (.bool r) ∧ Below w.heap.size w w' := by
 have hu41 := Try.underlying41
 have HB := aM (Below.refl w.heap.size w)
 have H : (if a0_0 = 1 then (if a0_1 ≥ 1 then (if a0_1 ≤ 2147483648 then (some (a0_2.toList == ([] : List UInt8))) else (some false)) else (some false)) else (if a0_0 = 2 then (if a0_1 = 0 then ((lines_Right.f a0_2).bind fun t106 => (some t106)) else (some false)) else ((ops_Change.f a0_0).bind fun t107 => (if t107 = true then (if a0_1 = 0 then ((lines_Right.f a0_2).bind fun t108 => (some t108)) else (some false)) else (some false))))) = some r := h
 clear h
 by_cases c2 : a0_0 = 1
 ·rw [if_pos c2] at H
  have c2b0 := beq_iff_eq.mpr c2; have c2b1 := bne_eq_false_iff_eq.mpr c2; clear c2
  by_cases c3 : a0_1 ≥ 1
  ·rw [if_pos c3] at H
   have c3b0 := decide_eq_true c3; clear c3
   by_cases c4 : a0_1 ≤ 2147483648
   ·rw [if_pos c4] at H
    have c4b0 := decide_eq_true c4; clear c4; obtain rfl := Option.some.inj H
    go_enter Try.func61, Try.ntmps61
    go_wp2_with (first | ((with_reducible refine gate_dst (N := 1) rfl ?_); refine box_event yR (N := 1) yR (cs := #[.int .i64 a0_0, .int .i64 a0_1, .string a0_2]) (t := 41) yQ ?_; intro gb105 hg w5 hbox hb; have BK105 := aM (hbox); have GW105 := aM ((yS : w.heap.size ≤ gb105)); have GE105 := aM ((yS : w.heap.size ≤ gb105)); replace HB := aM (below_step yB hb); clear hb hbox hg; obtain ⟨hcz6_0, hcz6_1, hcz6_2, hfz6_0, hfz6_1, hfz6_2⟩ := blk3 BK105.out))
    go_ret
    exact ⟨yE2, yBg GE105.out⟩
   ·rw [if_neg c4] at H
    have c4b0 := decide_eq_false c4; clear c4; obtain rfl := Option.some.inj H
    go_enter Try.func61, Try.ntmps61
    go_wp2_with (first | ((with_reducible refine gate_dst (N := 1) rfl ?_); refine box_event yR (N := 1) yR (cs := #[.int .i64 a0_0, .int .i64 a0_1, .string a0_2]) (t := 41) yQ ?_; intro gb105 hg w7 hbox hb; have BK105 := aM (hbox); have GW105 := aM ((yS : w.heap.size ≤ gb105)); have GE105 := aM ((yS : w.heap.size ≤ gb105)); replace HB := aM (below_step yB hb); clear hb hbox hg; obtain ⟨hcz8_0, hcz8_1, hcz8_2, hfz8_0, hfz8_1, hfz8_2⟩ := blk3 BK105.out))
    go_ret
    exact ⟨yE2, yBg GE105.out⟩
  ·rw [if_neg c3] at H
   have c3b0 := decide_eq_false c3; clear c3; obtain rfl := Option.some.inj H
   go_enter Try.func61, Try.ntmps61
   go_wp2_with (first | ((with_reducible refine gate_dst (N := 1) rfl ?_); refine box_event yR (N := 1) yR (cs := #[.int .i64 a0_0, .int .i64 a0_1, .string a0_2]) (t := 41) yQ ?_; intro gb105 hg w9 hbox hb; have BK105 := aM (hbox); have GW105 := aM ((yS : w.heap.size ≤ gb105)); have GE105 := aM ((yS : w.heap.size ≤ gb105)); replace HB := aM (below_step yB hb); clear hb hbox hg; obtain ⟨hcz10_0, hcz10_1, hcz10_2, hfz10_0, hfz10_1, hfz10_2⟩ := blk3 BK105.out))
   go_ret
   exact ⟨yE2, yBg GE105.out⟩
 ·rw [if_neg c2] at H
  have c2b0 := beq_eq_false_iff_ne.mpr c2; have c2b1 := bne_iff_ne.mpr c2
  by_cases c11 : a0_0 = 2
  ·rw [if_pos c11] at H
   have c11b0 := beq_iff_eq.mpr c11; have c11b1 := bne_eq_false_iff_eq.mpr c11; clear c11
   by_cases c12 : a0_1 = 0
   ·rw [if_pos c12] at H
    have c12b0 := beq_iff_eq.mpr c12; have c12b1 := bne_eq_false_iff_eq.mpr c12; clear c12; replace H := oB H; obtain ⟨t106, A13, H⟩ := H; obtain rfl := Option.some.inj H
    go_enter Try.func61, Try.ntmps61
    go_wp2_with (first | ((with_reducible refine gate_dst (N := 1) rfl ?_); refine box_event yR (N := 1) yR (cs := #[.int .i64 a0_0, .int .i64 a0_1, .string a0_2]) (t := 41) yQ ?_; intro gb105 hg w14 hbox hb; have BK105 := aM (hbox); have GW105 := aM ((yS : w.heap.size ≤ gb105)); have GE105 := aM ((yS : w.heap.size ≤ gb105)); replace HB := aM (below_step yB hb); clear hb hbox hg; obtain ⟨hcz15_0, hcz15_1, hcz15_2, hfz15_0, hfz15_1, hfz15_2⟩ := blk3 BK105.out) | (go_at_call 78; (with_reducible refine (lines_Right.calls a0_2 t106 _ A13.out).mono ?_); rintro e w' ⟨rfl, ⟨nd, rfl⟩⟩))
    go_ret
    exact ⟨yE2, yBg GE105.out⟩
   ·rw [if_neg c12] at H
    have c12b0 := beq_eq_false_iff_ne.mpr c12; have c12b1 := bne_iff_ne.mpr c12; obtain rfl := Option.some.inj H
    go_enter Try.func61, Try.ntmps61
    go_wp2_with (first | ((with_reducible refine gate_dst (N := 1) rfl ?_); refine box_event yR (N := 1) yR (cs := #[.int .i64 a0_0, .int .i64 a0_1, .string a0_2]) (t := 41) yQ ?_; intro gb105 hg w16 hbox hb; have BK105 := aM (hbox); have GW105 := aM ((yS : w.heap.size ≤ gb105)); have GE105 := aM ((yS : w.heap.size ≤ gb105)); replace HB := aM (below_step yB hb); clear hb hbox hg; obtain ⟨hcz17_0, hcz17_1, hcz17_2, hfz17_0, hfz17_1, hfz17_2⟩ := blk3 BK105.out))
    go_ret
    exact ⟨yE2, yBg GE105.out⟩
  ·rw [if_neg c11] at H
   have c11b0 := beq_eq_false_iff_ne.mpr c11; have c11b1 := bne_iff_ne.mpr c11; replace H := oB H; obtain ⟨t107, A18, H⟩ := H
   by_cases c19 : t107 = true
   ·subst c19
    replace H := iT H
    by_cases c20 : a0_1 = 0
    ·rw [if_pos c20] at H
     have c20b0 := beq_iff_eq.mpr c20; have c20b1 := bne_eq_false_iff_eq.mpr c20; clear c20; replace H := oB H; obtain ⟨t108, A21, H⟩ := H; obtain rfl := Option.some.inj H
     go_enter Try.func61, Try.ntmps61
     go_wp2_with (first | ((with_reducible refine gate_dst (N := 1) rfl ?_); refine box_event yR (N := 1) yR (cs := #[.int .i64 a0_0, .int .i64 a0_1, .string a0_2]) (t := 41) yQ ?_; intro gb105 hg w22 hbox hb; have BK105 := aM (hbox); have GW105 := aM ((yS : w.heap.size ≤ gb105)); have GE105 := aM ((yS : w.heap.size ≤ gb105)); replace HB := aM (below_step yB hb); clear hb hbox hg; obtain ⟨hcz23_0, hcz23_1, hcz23_2, hfz23_0, hfz23_1, hfz23_2⟩ := blk3 BK105.out) | (go_at_call 71; (with_reducible refine (ops_Change.calls a0_0 true _ A18.out).mono ?_); rintro e w' ⟨rfl, ⟨nd, rfl⟩⟩) | (go_at_call 78; (with_reducible refine (lines_Right.calls a0_2 t108 _ A21.out).mono ?_); rintro e w' ⟨rfl, ⟨nd, rfl⟩⟩))
     go_ret
     exact ⟨yE2, yBg GE105.out⟩
    ·rw [if_neg c20] at H
     have c20b0 := beq_eq_false_iff_ne.mpr c20; have c20b1 := bne_iff_ne.mpr c20; obtain rfl := Option.some.inj H
     go_enter Try.func61, Try.ntmps61
     go_wp2_with (first | ((with_reducible refine gate_dst (N := 1) rfl ?_); refine box_event yR (N := 1) yR (cs := #[.int .i64 a0_0, .int .i64 a0_1, .string a0_2]) (t := 41) yQ ?_; intro gb105 hg w24 hbox hb; have BK105 := aM (hbox); have GW105 := aM ((yS : w.heap.size ≤ gb105)); have GE105 := aM ((yS : w.heap.size ≤ gb105)); replace HB := aM (below_step yB hb); clear hb hbox hg; obtain ⟨hcz25_0, hcz25_1, hcz25_2, hfz25_0, hfz25_1, hfz25_2⟩ := blk3 BK105.out) | (go_at_call 71; (with_reducible refine (ops_Change.calls a0_0 true _ A18.out).mono ?_); rintro e w' ⟨rfl, ⟨nd, rfl⟩⟩))
     go_ret
     exact ⟨yE2, yBg GE105.out⟩
   ·replace c19 := Bool.eq_false_iff.mpr c19
    subst c19; replace H := iF H; obtain rfl := Option.some.inj H
    go_enter Try.func61, Try.ntmps61
    go_wp2_with (first | ((with_reducible refine gate_dst (N := 1) rfl ?_); refine box_event yR (N := 1) yR (cs := #[.int .i64 a0_0, .int .i64 a0_1, .string a0_2]) (t := 41) yQ ?_; intro gb105 hg w26 hbox hb; have BK105 := aM (hbox); have GW105 := aM ((yS : w.heap.size ≤ gb105)); have GE105 := aM ((yS : w.heap.size ≤ gb105)); replace HB := aM (below_step yB hb); clear hb hbox hg; obtain ⟨hcz27_0, hcz27_1, hcz27_2, hfz27_0, hfz27_1, hfz27_2⟩ := blk3 BK105.out) | (go_at_call 71; (with_reducible refine (ops_Change.calls a0_0 false _ A18.out).mono ?_); rintro e w' ⟨rfl, ⟨nd, rfl⟩⟩))
    go_ret
    exact ⟨yE2, yBg GE105.out⟩
set_option maxHeartbeats 8000000 in
set_option maxRecDepth 100000 in
theorem ops_Right_1.calls (a0_0 : Int) (a0_1 : Int) (a0_2 : ByteArray) (r : Bool) (w : World) (h : ops_Right_1.f a0_0 a0_1 a0_2 = some r) :
  Calls Try.prog 60 #[.agg #[.int .i64 a0_0, .int .i64 a0_1, .string a0_2]] w fun e w' => e = .returned (.bool r) ∧ Below w.heap.size w w' := by
 have hu41 := Try.underlying41
 have HB := aM (Below.refl w.heap.size w)
 have H : ((ops_one.f a0_0 a0_1 a0_2).bind fun t110 => (some (!t110))) = some r := h
 clear h
 replace H := oB H; obtain ⟨t110, A2, H⟩ := H
 obtain rfl := Option.some.inj H
 go_enter Try.func60, Try.ntmps60
 go_wp2_with (first | ((with_reducible refine gate_dst (N := 1) rfl ?_); refine box_event yR (N := 1) yR (cs := #[.int .i64 a0_0, .int .i64 a0_1, .string a0_2]) (t := 41) yQ ?_; intro gb109 hg w3 hbox hb; have BK109 := aM (hbox); have GW109 := aM ((yS : w.heap.size ≤ gb109)); have GE109 := aM ((yS : w.heap.size ≤ gb109)); replace HB := aM (below_step yB hb); clear hb hbox hg; obtain ⟨hcz4_0, hcz4_1, hcz4_2, hfz4_0, hfz4_1, hfz4_2⟩ := blk3 BK109.out) | ((with_reducible refine gate_callee (f := 61) rfl ?_); refine goesL_ (some 4) rfl rfl Try.func61 yK rfl #[.agg #[.int .i64 a0_0, .int .i64 a0_1, .string a0_2]] rfl yG ?_; (with_reducible refine (ops_one.calls a0_0 a0_1 a0_2 t110 _ A2.out).mono ?_); rintro e w5 ⟨rfl, hb⟩; refine ⟨_, rfl, ?_⟩; replace BK109 := aM (blk_below (g := gb109) (o := .cells #[.int .i64 a0_0, .int .i64 a0_1, .string a0_2] 41 (0, 0)) (by (with_reducible repeat (first | refine kN ?_ _ | refine kD ?_ | refine kA ?_ _)); exact BK109.out) hb); replace HB := aM (below_step (yBg GE109.out) hb); clear hb))
 go_ret
 exact ⟨yE2, yBg GE109.out⟩
set_option maxHeartbeats 8000000 in
set_option maxRecDepth 100000 in
theorem ops_count.calls (k : Nat) (A0 : Option Addr) (c0 : Nat) (l0 : List (Op)) (a1 : Int) (r : Int) (w : World) (hr0 : Kd.C kOp w A0 l0.length l0) (hc0 : l0.length ≤ c0) (h : ops_count.f k l0 a1 = some r) :
  Calls Try.prog 79 #[.slice A0 l0.length c0, .int .i64 a1] w fun e w' => e = .returned (.int .i64 r) ∧ Below w.heap.size w w' := by
 have hu41 := Try.underlying41
 have HR0 := aM hr0
 have HC0 := aM hc0
 clear hr0 hc0
 have HB := aM (Below.refl w.heap.size w)
 have H : (ops_count.l0 k a1 0 l0 (l0.length : Int) 0) = some r := h
 clear h
 have H' := aM H
 clear H
 go_enter Try.func79, Try.ntmps79
 go_wp2
 go_loopg [5, 10] k (fun kq v5 v10 w' => ∃ (x5_1 : Int) (x10_1 : Int), v5 = .int .i64 x5_1 ∧ v10 = .int .i64 x10_1 ∧ Aside0 (ops_count.l0 kq a1 x5_1 l0 (l0.length : Int) x10_1 = some r) ∧ Aside0 (kq ≤ k) ∧ Aside0 (Below w.heap.size w w'))
 case atStart => exact ⟨(0), (0), yE, yE, H', ⟨Nat.le_refl _⟩, ⟨yB⟩⟩
 case round =>
  clear H'; (try clear p2); obtain ⟨x5_1, x10_1, rfl, rfl, HA, HK1, HB⟩ := hrel; cases gk with
  | zero => exact absurd HA.out (by simp [ops_count.l0])
  | succ k1 =>
   have H := HA.out; clear HA; simp only [ops_count.l0] at H
   by_cases c3 : x10_1 < (l0.length : Int)
   ·rw [if_pos c3] at H
    have c3b0 := decide_eq_true c3; clear c3
    by_cases c4 : 0 ≤ x10_1
    ·rw [if_pos c4] at H
     have c4b0 := decide_eq_true c4; clear c4
     by_cases c5 : x10_1 < (l0.length : Int)
     ·rw [if_pos c5] at H
      have c5b0 := decide_eq_true c5; clear c5
      by_cases c6 : ((rd_Op l0 x10_1).f0) = 1
      ·rw [if_pos c6] at H
       have c6b0 := beq_iff_eq.mpr c6; have c6b1 := bne_eq_false_iff_eq.mpr c6; clear c6; obtain ⟨ji7, hji7⟩ : ∃ j_ : Int, (mn ((rd_Op l0 x10_1).f1) 1099511627776) = j_ := ⟨_, rfl⟩; replace H : (ops_count.l0 k1 a1 (mn (wrap64 (x5_1 + (mx 0 (ji7)))) 1099511627776) l0 (l0.length : Int) (wrap64 (x10_1 + 1))) = some r := by first | (rw [hji7] at H; exact H) | (simp only [hji7] at H ⊢; exact H)
       have hji7_ : (if 1099511627776 < ((rd_Op l0 x10_1).f1) then 1099511627776 else ((rd_Op l0 x10_1).f1)) = ji7 := hji7; obtain ⟨ji8, hji8⟩ : ∃ j_ : Int, (mx 0 (ji7)) = j_ := ⟨_, rfl⟩; replace H : (ops_count.l0 k1 a1 (mn (wrap64 (x5_1 + (ji8))) 1099511627776) l0 (l0.length : Int) (wrap64 (x10_1 + 1))) = some r := by first | (rw [hji8] at H; exact H) | (simp only [hji8] at H ⊢; exact H)
       have hji8_ : (if 0 < (ji7) then (ji7) else 0) = ji8 := hji8; obtain ⟨ji9, hji9⟩ : ∃ j_ : Int, (mn (wrap64 (x5_1 + (ji8))) 1099511627776) = j_ := ⟨_, rfl⟩; replace H : (ops_count.l0 k1 a1 ji9 l0 (l0.length : Int) (wrap64 (x10_1 + 1))) = some r := by first | (rw [hji9] at H; exact H) | (simp only [hji9] at H ⊢; exact H)
       have hji9_ : (if 1099511627776 < (wrap64 (x5_1 + (ji8))) then 1099511627776 else (wrap64 (x5_1 + (ji8)))) = ji9 := hji9; have H' := aM H; clear H; have p111 : 0 ≤ (x10_1 : Int) := yO; have q111 : x10_1 < (l0.length : Int) := yO; obtain ⟨ad111, e111, hx111_0, hx111_1, hx111_2⟩ := at_OpB HB.out HR0.out x10_1 p111 q111; cases e111; replace p111 := eq_true p111; replace q111 := eq_true q111
       go_wp2_with (first | ((with_reducible refine gate_dst (N := 7) rfl ?_); refine box_event yR (N := 7) yR (cs := #[.int .i64 0, .int .i64 0, .string (⟨#[]⟩ : ByteArray)]) (t := 41) yQ ?_; intro gb112 hg w10 hbox hb; have BK112 := aM (hbox); have GW112 := aM ((yS : w.heap.size ≤ gb112)); have GE112 := aM ((yS : w.heap.size ≤ gb112)); replace HB := aM (below_step yB hb); clear hb hbox hg; obtain ⟨hcz11_0, hcz11_1, hcz11_2, hfz11_0, hfz11_1, hfz11_2⟩ := blk3 BK112.out))
       go_roundg k1
       case measure => have := HK1.out; omega
       case rel => exact ⟨(ji9), (wrap64 (x10_1 + 1)), (by first | rfl | (simp; done) | (simp only [← hji9] <;> (first | rfl | simp)) | (simp [*]; done)), yE, H', ⟨by have := HK1.out; omega⟩, ⟨yBg GE112.out⟩⟩
      ·rw [if_neg c6] at H
       have c6b0 := beq_eq_false_iff_ne.mpr c6; have c6b1 := bne_iff_ne.mpr c6
       by_cases c12 : ((rd_Op l0 x10_1).f0) = 2
       ·rw [if_pos c12] at H
        have c12b0 := beq_iff_eq.mpr c12; have c12b1 := bne_eq_false_iff_eq.mpr c12; clear c12; obtain ⟨ji13, hji13⟩ : ∃ j_ : Int, (mn (wrap64 (x5_1 + 1)) 1099511627776) = j_ := ⟨_, rfl⟩; replace H : (ops_count.l0 k1 a1 ji13 l0 (l0.length : Int) (wrap64 (x10_1 + 1))) = some r := by first | (rw [hji13] at H; exact H) | (simp only [hji13] at H ⊢; exact H)
        have hji13_ : (if 1099511627776 < (wrap64 (x5_1 + 1)) then 1099511627776 else (wrap64 (x5_1 + 1))) = ji13 := hji13; have H' := aM H; clear H; have p111 : 0 ≤ (x10_1 : Int) := yO; have q111 : x10_1 < (l0.length : Int) := yO; obtain ⟨ad111, e111, hx111_0, hx111_1, hx111_2⟩ := at_OpB HB.out HR0.out x10_1 p111 q111; cases e111; replace p111 := eq_true p111; replace q111 := eq_true q111
        go_wp2_with (first | ((with_reducible refine gate_dst (N := 7) rfl ?_); refine box_event yR (N := 7) yR (cs := #[.int .i64 0, .int .i64 0, .string (⟨#[]⟩ : ByteArray)]) (t := 41) yQ ?_; intro gb112 hg w14 hbox hb; have BK112 := aM (hbox); have GW112 := aM ((yS : w.heap.size ≤ gb112)); have GE112 := aM ((yS : w.heap.size ≤ gb112)); replace HB := aM (below_step yB hb); clear hb hbox hg; obtain ⟨hcz15_0, hcz15_1, hcz15_2, hfz15_0, hfz15_1, hfz15_2⟩ := blk3 BK112.out))
        go_roundg k1
        case measure => have := HK1.out; omega
        case rel => exact ⟨(ji13), (wrap64 (x10_1 + 1)), (by first | rfl | (simp; done) | (simp only [← hji13] <;> (first | rfl | simp)) | (simp [*]; done)), yE, H', ⟨by have := HK1.out; omega⟩, ⟨yBg GE112.out⟩⟩
       ·rw [if_neg c12] at H
        have c12b0 := beq_eq_false_iff_ne.mpr c12; have c12b1 := bne_iff_ne.mpr c12
        by_cases c16 : ((rd_Op l0 x10_1).f0) = a1
        ·rw [if_pos c16] at H
         have c16b0 := beq_iff_eq.mpr c16; have c16b1 := bne_eq_false_iff_eq.mpr c16; clear c16; obtain ⟨ji17, hji17⟩ : ∃ j_ : Int, (mn (wrap64 (x5_1 + 1)) 1099511627776) = j_ := ⟨_, rfl⟩; replace H : (ops_count.l0 k1 a1 ji17 l0 (l0.length : Int) (wrap64 (x10_1 + 1))) = some r := by first | (rw [hji17] at H; exact H) | (simp only [hji17] at H ⊢; exact H)
         have hji17_ : (if 1099511627776 < (wrap64 (x5_1 + 1)) then 1099511627776 else (wrap64 (x5_1 + 1))) = ji17 := hji17; have H' := aM H; clear H; have p111 : 0 ≤ (x10_1 : Int) := yO; have q111 : x10_1 < (l0.length : Int) := yO; obtain ⟨ad111, e111, hx111_0, hx111_1, hx111_2⟩ := at_OpB HB.out HR0.out x10_1 p111 q111; cases e111; replace p111 := eq_true p111; replace q111 := eq_true q111
         go_wp2_with (first | ((with_reducible refine gate_dst (N := 7) rfl ?_); refine box_event yR (N := 7) yR (cs := #[.int .i64 0, .int .i64 0, .string (⟨#[]⟩ : ByteArray)]) (t := 41) yQ ?_; intro gb112 hg w18 hbox hb; have BK112 := aM (hbox); have GW112 := aM ((yS : w.heap.size ≤ gb112)); have GE112 := aM ((yS : w.heap.size ≤ gb112)); replace HB := aM (below_step yB hb); clear hb hbox hg; obtain ⟨hcz19_0, hcz19_1, hcz19_2, hfz19_0, hfz19_1, hfz19_2⟩ := blk3 BK112.out))
         go_roundg k1
         case measure => have := HK1.out; omega
         case rel => exact ⟨(ji17), (wrap64 (x10_1 + 1)), (by first | rfl | (simp; done) | (simp only [← hji17] <;> (first | rfl | simp)) | (simp [*]; done)), yE, H', ⟨by have := HK1.out; omega⟩, ⟨yBg GE112.out⟩⟩
        ·rw [if_neg c16] at H
         have c16b0 := beq_eq_false_iff_ne.mpr c16; have c16b1 := bne_iff_ne.mpr c16; obtain ⟨ji20, hji20⟩ : ∃ j_ : Int, (mn x5_1 1099511627776) = j_ := ⟨_, rfl⟩; replace H : (ops_count.l0 k1 a1 ji20 l0 (l0.length : Int) (wrap64 (x10_1 + 1))) = some r := by first | (rw [hji20] at H; exact H) | (simp only [hji20] at H ⊢; exact H)
         have hji20_ : (if 1099511627776 < x5_1 then 1099511627776 else x5_1) = ji20 := hji20; have H' := aM H; clear H; have p111 : 0 ≤ (x10_1 : Int) := yO; have q111 : x10_1 < (l0.length : Int) := yO; obtain ⟨ad111, e111, hx111_0, hx111_1, hx111_2⟩ := at_OpB HB.out HR0.out x10_1 p111 q111; cases e111; replace p111 := eq_true p111; replace q111 := eq_true q111
         go_wp2_with (first | ((with_reducible refine gate_dst (N := 7) rfl ?_); refine box_event yR (N := 7) yR (cs := #[.int .i64 0, .int .i64 0, .string (⟨#[]⟩ : ByteArray)]) (t := 41) yQ ?_; intro gb112 hg w21 hbox hb; have BK112 := aM (hbox); have GW112 := aM ((yS : w.heap.size ≤ gb112)); have GE112 := aM ((yS : w.heap.size ≤ gb112)); replace HB := aM (below_step yB hb); clear hb hbox hg; obtain ⟨hcz22_0, hcz22_1, hcz22_2, hfz22_0, hfz22_1, hfz22_2⟩ := blk3 BK112.out))
         go_roundg k1
         case measure => have := HK1.out; omega
         case rel => exact ⟨(ji20), (wrap64 (x10_1 + 1)), (by first | rfl | (simp; done) | (simp only [← hji20] <;> (first | rfl | simp)) | (simp [*]; done)), yE, H', ⟨by have := HK1.out; omega⟩, ⟨yBg GE112.out⟩⟩
     ·rw [if_neg c5] at H
      exact absurd H (by simp)
    ·rw [if_neg c4] at H
     exact absurd H (by simp)
   ·rw [if_neg c3] at H
    have c3b0 := decide_eq_false c3; clear c3; obtain rfl := Option.some.inj H
    go_wp2
    go_ret
    exact ⟨yE2, yB⟩
set_option maxHeartbeats 8000000 in
set_option maxRecDepth 100000 in
theorem ops_Olds.calls (k : Nat) (A0 : Option Addr) (c0 : Nat) (l0 : List (Op)) (r : Int) (w : World) (hr0 : Kd.C kOp w A0 l0.length l0) (hc0 : l0.length ≤ c0) (h : ops_Olds.f k l0 = some r) :
  Calls Try.prog 62 #[.slice A0 l0.length c0] w fun e w' => e = .returned (.int .i64 r) ∧ Below w.heap.size w w' := by
 have HR0 := aM hr0
 have HC0 := aM hc0
 clear hr0 hc0
 have HB := aM (Below.refl w.heap.size w)
 have H : ((ops_count.f k l0 3).bind fun t113 => (some t113)) = some r := h
 clear h
 replace H := oB H; obtain ⟨t113, A2, H⟩ := H
 obtain rfl := Option.some.inj H
 go_enter Try.func62, Try.ntmps62
 go_wp2_with (first | ((with_reducible refine gate_callee (f := 79) rfl ?_); refine goesL_ (some 4) rfl rfl Try.func79 yK rfl #[.slice A0 l0.length c0, .int .i64 3] rfl yG ?_; (with_reducible refine (ops_count.calls k _ _ l0 3 t113 _ (yC HR0.out) HC0.out A2.out).mono ?_); rintro e w3 ⟨rfl, hb⟩; refine ⟨_, rfl, ?_⟩; replace HB := aM (below_step yB hb); clear hb))
 go_ret
 exact ⟨yE2, yB⟩
set_option maxHeartbeats 8000000 in
set_option maxRecDepth 100000 in
theorem ops_News.calls (k : Nat) (A0 : Option Addr) (c0 : Nat) (l0 : List (Op)) (r : Int) (w : World) (hr0 : Kd.C kOp w A0 l0.length l0) (hc0 : l0.length ≤ c0) (h : ops_News.f k l0 = some r) :
  Calls Try.prog 63 #[.slice A0 l0.length c0] w fun e w' => e = .returned (.int .i64 r) ∧ Below w.heap.size w w' := by
 have HR0 := aM hr0
 have HC0 := aM hc0
 clear hr0 hc0
 have HB := aM (Below.refl w.heap.size w)
 have H : ((ops_count.f k l0 4).bind fun t114 => (some t114)) = some r := h
 clear h
 replace H := oB H; obtain ⟨t114, A2, H⟩ := H
 obtain rfl := Option.some.inj H
 go_enter Try.func63, Try.ntmps63
 go_wp2_with (first | ((with_reducible refine gate_callee (f := 79) rfl ?_); refine goesL_ (some 4) rfl rfl Try.func79 yK rfl #[.slice A0 l0.length c0, .int .i64 4] rfl yG ?_; (with_reducible refine (ops_count.calls k _ _ l0 4 t114 _ (yC HR0.out) HC0.out A2.out).mono ?_); rintro e w3 ⟨rfl, hb⟩; refine ⟨_, rfl, ?_⟩; replace HB := aM (below_step yB hb); clear hb))
 go_ret
 exact ⟨yE2, yB⟩
set_option maxHeartbeats 8000000 in
set_option maxRecDepth 100000 in
theorem strings_HasSuffix.calls (a0 : ByteArray) (a1 : ByteArray) (r : Bool) (w : World) (h : strings_HasSuffix.f a0 a1 = some r) :
  Calls Try.prog 91 #[.string a0, .string a1] w fun e w' => e = .returned (.bool r) ∧ Drawn0 w w' := by
 have H : ((stringslite_HasSuffix.f a0 a1).bind fun t115 => (some t115)) = some r := h
 clear h
 replace H := oB H; obtain ⟨t115, A3, H⟩ := H
 obtain rfl := Option.some.inj H
 go_enter Try.func91, Try.ntmps91
 go_wp2_with (first | ((with_reducible refine gate_callee (f := 94) rfl ?_); refine goesL_ (some 7) rfl rfl Try.func94 yK rfl #[.string a0, .string a1] rfl yG ?_; (with_reducible refine (stringslite_HasSuffix.calls a0 a1 t115 _ A3.out).mono ?_); rintro e w' ⟨rfl, ⟨nd, rfl⟩⟩; refine ⟨_, rfl, ?_⟩))
 go_ret
 exact ⟨yE, yD⟩
set_option maxHeartbeats 8000000 in
set_option maxRecDepth 100000 in
theorem lines_Closed.calls (a0 : ByteArray) (r : Bool) (w : World) (h : lines_Closed.f a0 = some r) :
  Calls Try.prog 80 #[.string a0] w fun e w' => e = .returned (.bool r) ∧ Drawn0 w w' := by
 have H : ((strings_HasSuffix.f a0 (⟨#[10]⟩ : ByteArray)).bind fun t116 => (some t116)) = some r := h
 clear h
 replace H := oB H; obtain ⟨t116, A2, H⟩ := H
 obtain rfl := Option.some.inj H
 go_enter Try.func80, Try.ntmps80
 go_wp2_with (first | ((with_reducible refine gate_callee (f := 91) rfl ?_); refine goesL_ (some 4) rfl rfl Try.func91 yK rfl #[.string a0, .string (⟨#[10]⟩ : ByteArray)] rfl yG ?_; (with_reducible refine (strings_HasSuffix.calls a0 (⟨#[10]⟩ : ByteArray) t116 _ A2.out).mono ?_); rintro e w' ⟨rfl, ⟨nd, rfl⟩⟩; refine ⟨_, rfl, ?_⟩))
 go_ret
 exact ⟨yE, yD⟩
set_option maxHeartbeats 8000000 in
set_option maxRecDepth 100000 in
theorem slices_IndexFunc_Op_ops_Right_1.calls (k : Nat) (A0 : Option Addr) (c0 : Nat) (l0 : List (Op))  (r : Int) (w : World) (hr0 : Kd.C kOp w A0 l0.length l0) (hc0 : l0.length ≤ c0) (h : slices_IndexFunc_Op_ops_Right_1.f k l0 = some r) :
  Calls Try.prog 77 #[.slice A0 l0.length c0, .func (.func 60) #[] #[]] w fun e w' => e = .returned (.int .i64 r) ∧ Below w.heap.size w w' := by
 have hu41 := Try.underlying41
 have HR0 := aM hr0
 have HC0 := aM hc0
 clear hr0 hc0
 have HB := aM (Below.refl w.heap.size w)
 have H : (slices_IndexFunc_Op_ops_Right_1.l0 k l0 (l0.length : Int) 0) = some r := h
 clear h
 have H' := aM H
 clear H
 go_enter Try.func77, Try.ntmps77
 go_wp2
 go_loopg [8] k (fun kq v8 w' => ∃ (x8_1 : Int), v8 = .int .i64 x8_1 ∧ Aside0 (slices_IndexFunc_Op_ops_Right_1.l0 kq l0 (l0.length : Int) x8_1 = some r) ∧ Aside0 (kq ≤ k) ∧ Aside0 (Below w.heap.size w w'))
 case atStart => exact ⟨(0), yE, H', ⟨Nat.le_refl _⟩, ⟨yB⟩⟩
 case round =>
  clear H'; (try clear p2); obtain ⟨x8_1, rfl, HA, HK1, HB⟩ := hrel; cases gk with
  | zero => exact absurd HA.out (by simp [slices_IndexFunc_Op_ops_Right_1.l0])
  | succ k1 =>
   have H := HA.out; clear HA; simp only [slices_IndexFunc_Op_ops_Right_1.l0] at H
   by_cases c3 : x8_1 < (l0.length : Int)
   ·rw [if_pos c3] at H
    have c3b0 := decide_eq_true c3; clear c3
    by_cases c4 : 0 ≤ x8_1
    ·rw [if_pos c4] at H
     have c4b0 := decide_eq_true c4; clear c4
     by_cases c5 : x8_1 < (l0.length : Int)
     ·rw [if_pos c5] at H
      have c5b0 := decide_eq_true c5; clear c5; replace H := oB H; obtain ⟨t118, A6, H⟩ := H
      by_cases c7 : t118 = true
      ·subst c7
       replace H := iT H; obtain rfl := Option.some.inj H; have p117 : 0 ≤ (x8_1 : Int) := yO; have q117 : x8_1 < (l0.length : Int) := yO; obtain ⟨ad117, e117, hx117_0, hx117_1, hx117_2⟩ := at_OpB HB.out HR0.out x8_1 p117 q117; cases e117; replace p117 := eq_true p117; replace q117 := eq_true q117
       go_wp2_with (first | ((with_reducible refine gate_value (c := 11) rfl ?_); refine goesV_ (c := 11) (some 16) rfl rfl Try.func60 yK rfl #[.agg #[.int .i64 ((rd_Op l0 x8_1).f0), .int .i64 ((rd_Op l0 x8_1).f1), .string ((rd_Op l0 x8_1).f2)]] rfl rfl yG ?_; (with_reducible refine (ops_Right_1.calls ((rd_Op l0 x8_1).f0) ((rd_Op l0 x8_1).f1) ((rd_Op l0 x8_1).f2) true _ A6.out).mono ?_); rintro e w8 ⟨rfl, hb⟩; refine ⟨_, rfl, ?_⟩; replace HB := aM (below_step yB hb); clear hb))
       go_ret
       exact ⟨yE2, yB⟩
      ·replace c7 := Bool.eq_false_iff.mpr c7
       subst c7; have H' := aM (iF H); clear H; have p117 : 0 ≤ (x8_1 : Int) := yO; have q117 : x8_1 < (l0.length : Int) := yO; obtain ⟨ad117, e117, hx117_0, hx117_1, hx117_2⟩ := at_OpB HB.out HR0.out x8_1 p117 q117; cases e117; replace p117 := eq_true p117; replace q117 := eq_true q117
       go_wp2_with (first | ((with_reducible refine gate_value (c := 11) rfl ?_); refine goesV_ (c := 11) (some 16) rfl rfl Try.func60 yK rfl #[.agg #[.int .i64 ((rd_Op l0 x8_1).f0), .int .i64 ((rd_Op l0 x8_1).f1), .string ((rd_Op l0 x8_1).f2)]] rfl rfl yG ?_; (with_reducible refine (ops_Right_1.calls ((rd_Op l0 x8_1).f0) ((rd_Op l0 x8_1).f1) ((rd_Op l0 x8_1).f2) false _ A6.out).mono ?_); rintro e w9 ⟨rfl, hb⟩; refine ⟨_, rfl, ?_⟩; replace HB := aM (below_step yB hb); clear hb))
       go_roundg k1
       case measure => have := HK1.out; omega
       case rel => exact ⟨(wrap64 (x8_1 + 1)), yE, H', ⟨by have := HK1.out; omega⟩, ⟨yB⟩⟩
     ·rw [if_neg c5] at H
      exact absurd H (by simp)
    ·rw [if_neg c4] at H
     exact absurd H (by simp)
   ·rw [if_neg c3] at H
    have c3b0 := decide_eq_false c3; clear c3; obtain rfl := Option.some.inj H
    go_wp2
    go_ret
    exact ⟨yE2, yB⟩
set_option maxHeartbeats 8000000 in
set_option maxRecDepth 100000 in
theorem slices_ContainsFunc_Op_ops_Right_1.calls (k : Nat) (A0 : Option Addr) (c0 : Nat) (l0 : List (Op))  (r : Bool) (w : World) (hr0 : Kd.C kOp w A0 l0.length l0) (hc0 : l0.length ≤ c0) (h : slices_ContainsFunc_Op_ops_Right_1.f k l0 = some r) :
  Calls Try.prog 59 #[.slice A0 l0.length c0, .func (.func 60) #[] #[]] w fun e w' => e = .returned (.bool r) ∧ Below w.heap.size w w' := by
 have HR0 := aM hr0
 have HC0 := aM hc0
 clear hr0 hc0
 have HB := aM (Below.refl w.heap.size w)
 have H : ((slices_IndexFunc_Op_ops_Right_1.f k l0).bind fun t119 => (some (decide (t119 ≥ 0)))) = some r := h
 clear h
 replace H := oB H; obtain ⟨t119, A3, H⟩ := H
 obtain rfl := Option.some.inj H
 go_enter Try.func59, Try.ntmps59
 go_wp2_with (first | ((with_reducible refine gate_callee (f := 77) rfl ?_); refine goesL_ (some 7) rfl rfl Try.func77 yK rfl #[.slice A0 l0.length c0, .func (.func 60) #[] #[]] rfl yG ?_; (with_reducible refine (slices_IndexFunc_Op_ops_Right_1.calls k _ _ l0  t119 _ (yC HR0.out) HC0.out A3.out).mono ?_); rintro e w4 ⟨rfl, hb⟩; refine ⟨_, rfl, ?_⟩; replace HB := aM (below_step yB hb); clear hb))
 go_ret
 exact ⟨yE2, yB⟩
set_option maxHeartbeats 8000000 in
set_option maxRecDepth 100000 in
theorem ops_closed_ops_Old.calls (k : Nat) (A0 : Option Addr) (c0 : Nat) (l0 : List (Op))  (r : Bool) (w : World) (hr0 : Kd.C kOp w A0 l0.length l0) (hc0 : l0.length ≤ c0) (h : ops_closed_ops_Old.f k l0 = some r) :
  Calls Try.prog 64 #[.slice A0 l0.length c0, .func (.func 65) #[] #[]] w fun e w' => e = .returned (.bool r) ∧ Below w.heap.size w w' := by
 have hu41 := Try.underlying41
 have HR0 := aM hr0
 have HC0 := aM hc0
 clear hr0 hc0
 have HB := aM (Below.refl w.heap.size w)
 have H : (ops_closed_ops_Old.l0 k false l0 (l0.length : Int) 0) = some r := h
 clear h
 have H' := aM H
 clear H
 go_enter Try.func64, Try.ntmps64
 go_wp2
 go_loopg [5, 10] k (fun kq v5 v10 w' => ∃ (x5_1 : Bool) (x10_1 : Int), v5 = .bool x5_1 ∧ v10 = .int .i64 x10_1 ∧ Aside0 (ops_closed_ops_Old.l0 kq x5_1 l0 (l0.length : Int) x10_1 = some r) ∧ Aside0 (kq ≤ k) ∧ Aside0 (Below w.heap.size w w'))
 case atStart => exact ⟨(false), (0), yE, yE, H', ⟨Nat.le_refl _⟩, ⟨yB⟩⟩
 case round =>
  clear H'; (try clear p2); obtain ⟨x5_1, x10_1, rfl, rfl, HA, HK1, HB⟩ := hrel; cases gk with
  | zero => exact absurd HA.out (by simp [ops_closed_ops_Old.l0])
  | succ k1 =>
   have H := HA.out; clear HA; simp only [ops_closed_ops_Old.l0] at H
   by_cases c3 : x10_1 < (l0.length : Int)
   ·rw [if_pos c3] at H
    have c3b0 := decide_eq_true c3; clear c3
    by_cases c4 : 0 ≤ x10_1
    ·rw [if_pos c4] at H
     have c4b0 := decide_eq_true c4; clear c4
     by_cases c5 : x10_1 < (l0.length : Int)
     ·rw [if_pos c5] at H
      have c5b0 := decide_eq_true c5; clear c5; replace H := oB H; obtain ⟨t122, A6, H⟩ := H
      by_cases c7 : t122 = true
      ·subst c7
       replace H := iT H
       by_cases c8 : x5_1 = true
       ·subst c8
        replace H := iT H; obtain rfl := Option.some.inj H; have p120 : 0 ≤ (x10_1 : Int) := yO; have q120 : x10_1 < (l0.length : Int) := yO; obtain ⟨ad120, e120, hx120_0, hx120_1, hx120_2⟩ := at_OpB HB.out HR0.out x10_1 p120 q120; cases e120; replace p120 := eq_true p120; replace q120 := eq_true q120
        go_wp2_with (first | ((with_reducible refine gate_dst (N := 7) rfl ?_); refine box_event yR (N := 7) yR (cs := #[.int .i64 0, .int .i64 0, .string (⟨#[]⟩ : ByteArray)]) (t := 41) yQ ?_; intro gb121 hg w9 hbox hb; have BK121 := aM (hbox); have GW121 := aM ((yS : w.heap.size ≤ gb121)); have GE121 := aM ((yS : w.heap.size ≤ gb121)); replace HB := aM (below_step yB hb); clear hb hbox hg; obtain ⟨hcz10_0, hcz10_1, hcz10_2, hfz10_0, hfz10_1, hfz10_2⟩ := blk3 BK121.out) | ((with_reducible refine gate_value (c := 14) rfl ?_); refine goesV_ (c := 14) (some 17) rfl rfl Try.func65 yK rfl #[.int .i64 ((rd_Op l0 x10_1).f0)] rfl rfl yG ?_; (with_reducible refine (ops_Old.calls ((rd_Op l0 x10_1).f0) true _ A6.out).mono ?_); rintro e w' ⟨rfl, ⟨nd, rfl⟩⟩; refine ⟨_, rfl, ?_⟩))
        go_ret
        exact ⟨yE2, yBg GE121.out⟩
       ·replace c8 := Bool.eq_false_iff.mpr c8
        subst c8; replace H := iF H
        by_cases c11 : ((rd_Op l0 x10_1).f0) = 1
        ·rw [if_pos c11] at H
         have c11b0 := beq_iff_eq.mpr c11; have c11b1 := bne_eq_false_iff_eq.mpr c11; clear c11; have H' := aM H; clear H; have p120 : 0 ≤ (x10_1 : Int) := yO; have q120 : x10_1 < (l0.length : Int) := yO; obtain ⟨ad120, e120, hx120_0, hx120_1, hx120_2⟩ := at_OpB HB.out HR0.out x10_1 p120 q120; cases e120; replace p120 := eq_true p120; replace q120 := eq_true q120
         go_wp2_with (first | ((with_reducible refine gate_dst (N := 7) rfl ?_); refine box_event yR (N := 7) yR (cs := #[.int .i64 0, .int .i64 0, .string (⟨#[]⟩ : ByteArray)]) (t := 41) yQ ?_; intro gb121 hg w12 hbox hb; have BK121 := aM (hbox); have GW121 := aM ((yS : w.heap.size ≤ gb121)); have GE121 := aM ((yS : w.heap.size ≤ gb121)); replace HB := aM (below_step yB hb); clear hb hbox hg; obtain ⟨hcz13_0, hcz13_1, hcz13_2, hfz13_0, hfz13_1, hfz13_2⟩ := blk3 BK121.out) | ((with_reducible refine gate_value (c := 14) rfl ?_); refine goesV_ (c := 14) (some 17) rfl rfl Try.func65 yK rfl #[.int .i64 ((rd_Op l0 x10_1).f0)] rfl rfl yG ?_; (with_reducible refine (ops_Old.calls ((rd_Op l0 x10_1).f0) true _ A6.out).mono ?_); rintro e w' ⟨rfl, ⟨nd, rfl⟩⟩; refine ⟨_, rfl, ?_⟩))
         go_roundg k1
         case measure => have := HK1.out; omega
         case rel => exact ⟨(false), (wrap64 (x10_1 + 1)), yE, yE, H', ⟨by have := HK1.out; omega⟩, ⟨yBg GE121.out⟩⟩
        ·rw [if_neg c11] at H
         have c11b0 := beq_eq_false_iff_ne.mpr c11; have c11b1 := bne_iff_ne.mpr c11; replace H := oB H; obtain ⟨t123, A14, H⟩ := H; have H' := aM H; clear H; have p120 : 0 ≤ (x10_1 : Int) := yO; have q120 : x10_1 < (l0.length : Int) := yO; obtain ⟨ad120, e120, hx120_0, hx120_1, hx120_2⟩ := at_OpB HB.out HR0.out x10_1 p120 q120; cases e120; replace p120 := eq_true p120; replace q120 := eq_true q120
         go_wp2_with (first | ((with_reducible refine gate_dst (N := 7) rfl ?_); refine box_event yR (N := 7) yR (cs := #[.int .i64 0, .int .i64 0, .string (⟨#[]⟩ : ByteArray)]) (t := 41) yQ ?_; intro gb121 hg w15 hbox hb; have BK121 := aM (hbox); have GW121 := aM ((yS : w.heap.size ≤ gb121)); have GE121 := aM ((yS : w.heap.size ≤ gb121)); replace HB := aM (below_step yB hb); clear hb hbox hg; obtain ⟨hcz16_0, hcz16_1, hcz16_2, hfz16_0, hfz16_1, hfz16_2⟩ := blk3 BK121.out) | ((with_reducible refine gate_value (c := 14) rfl ?_); refine goesV_ (c := 14) (some 17) rfl rfl Try.func65 yK rfl #[.int .i64 ((rd_Op l0 x10_1).f0)] rfl rfl yG ?_; (with_reducible refine (ops_Old.calls ((rd_Op l0 x10_1).f0) true _ A6.out).mono ?_); rintro e w' ⟨rfl, ⟨nd, rfl⟩⟩; refine ⟨_, rfl, ?_⟩) | (go_at_call 80; (with_reducible refine (lines_Closed.calls ((rd_Op l0 x10_1).f2) t123 _ A14.out).mono ?_); rintro e w' ⟨rfl, ⟨nd, rfl⟩⟩))
         go_roundg k1
         case measure => have := HK1.out; omega
         case rel => exact ⟨(!t123), (wrap64 (x10_1 + 1)), yE, yE, H', ⟨by have := HK1.out; omega⟩, ⟨yBg GE121.out⟩⟩
      ·replace c7 := Bool.eq_false_iff.mpr c7
       subst c7; have H' := aM (iF H); clear H; have p120 : 0 ≤ (x10_1 : Int) := yO; have q120 : x10_1 < (l0.length : Int) := yO; obtain ⟨ad120, e120, hx120_0, hx120_1, hx120_2⟩ := at_OpB HB.out HR0.out x10_1 p120 q120; cases e120; replace p120 := eq_true p120; replace q120 := eq_true q120
       go_wp2_with (first | ((with_reducible refine gate_dst (N := 7) rfl ?_); refine box_event yR (N := 7) yR (cs := #[.int .i64 0, .int .i64 0, .string (⟨#[]⟩ : ByteArray)]) (t := 41) yQ ?_; intro gb121 hg w17 hbox hb; have BK121 := aM (hbox); have GW121 := aM ((yS : w.heap.size ≤ gb121)); have GE121 := aM ((yS : w.heap.size ≤ gb121)); replace HB := aM (below_step yB hb); clear hb hbox hg; obtain ⟨hcz18_0, hcz18_1, hcz18_2, hfz18_0, hfz18_1, hfz18_2⟩ := blk3 BK121.out) | ((with_reducible refine gate_value (c := 14) rfl ?_); refine goesV_ (c := 14) (some 17) rfl rfl Try.func65 yK rfl #[.int .i64 ((rd_Op l0 x10_1).f0)] rfl rfl yG ?_; (with_reducible refine (ops_Old.calls ((rd_Op l0 x10_1).f0) false _ A6.out).mono ?_); rintro e w' ⟨rfl, ⟨nd, rfl⟩⟩; refine ⟨_, rfl, ?_⟩))
       go_roundg k1
       case measure => have := HK1.out; omega
       case rel => exact ⟨(x5_1), (wrap64 (x10_1 + 1)), yE, yE, H', ⟨by have := HK1.out; omega⟩, ⟨yBg GE121.out⟩⟩
     ·rw [if_neg c5] at H
      exact absurd H (by simp)
    ·rw [if_neg c4] at H
     exact absurd H (by simp)
   ·rw [if_neg c3] at H
    have c3b0 := decide_eq_false c3; clear c3; obtain rfl := Option.some.inj H
    go_wp2
    go_ret
    exact ⟨yE2, yB⟩
set_option maxHeartbeats 8000000 in
set_option maxRecDepth 100000 in
theorem ops_closed_ops_New.calls (k : Nat) (A0 : Option Addr) (c0 : Nat) (l0 : List (Op))  (r : Bool) (w : World) (hr0 : Kd.C kOp w A0 l0.length l0) (hc0 : l0.length ≤ c0) (h : ops_closed_ops_New.f k l0 = some r) :
  Calls Try.prog 64 #[.slice A0 l0.length c0, .func (.func 66) #[] #[]] w fun e w' => e = .returned (.bool r) ∧ Below w.heap.size w w' := by
 have hu41 := Try.underlying41
 have HR0 := aM hr0
 have HC0 := aM hc0
 clear hr0 hc0
 have HB := aM (Below.refl w.heap.size w)
 have H : (ops_closed_ops_New.l0 k false l0 (l0.length : Int) 0) = some r := h
 clear h
 have H' := aM H
 clear H
 go_enter Try.func64, Try.ntmps64
 go_wp2
 go_loopg [5, 10] k (fun kq v5 v10 w' => ∃ (x5_1 : Bool) (x10_1 : Int), v5 = .bool x5_1 ∧ v10 = .int .i64 x10_1 ∧ Aside0 (ops_closed_ops_New.l0 kq x5_1 l0 (l0.length : Int) x10_1 = some r) ∧ Aside0 (kq ≤ k) ∧ Aside0 (Below w.heap.size w w'))
 case atStart => exact ⟨(false), (0), yE, yE, H', ⟨Nat.le_refl _⟩, ⟨yB⟩⟩
 case round =>
  clear H'; (try clear p2); obtain ⟨x5_1, x10_1, rfl, rfl, HA, HK1, HB⟩ := hrel; cases gk with
  | zero => exact absurd HA.out (by simp [ops_closed_ops_New.l0])
  | succ k1 =>
   have H := HA.out; clear HA; simp only [ops_closed_ops_New.l0] at H
   by_cases c3 : x10_1 < (l0.length : Int)
   ·rw [if_pos c3] at H
    have c3b0 := decide_eq_true c3; clear c3
    by_cases c4 : 0 ≤ x10_1
    ·rw [if_pos c4] at H
     have c4b0 := decide_eq_true c4; clear c4
     by_cases c5 : x10_1 < (l0.length : Int)
     ·rw [if_pos c5] at H
      have c5b0 := decide_eq_true c5; clear c5; replace H := oB H; obtain ⟨t126, A6, H⟩ := H
      by_cases c7 : t126 = true
      ·subst c7
       replace H := iT H
       by_cases c8 : x5_1 = true
       ·subst c8
        replace H := iT H; obtain rfl := Option.some.inj H; have p124 : 0 ≤ (x10_1 : Int) := yO; have q124 : x10_1 < (l0.length : Int) := yO; obtain ⟨ad124, e124, hx124_0, hx124_1, hx124_2⟩ := at_OpB HB.out HR0.out x10_1 p124 q124; cases e124; replace p124 := eq_true p124; replace q124 := eq_true q124
        go_wp2_with (first | ((with_reducible refine gate_dst (N := 7) rfl ?_); refine box_event yR (N := 7) yR (cs := #[.int .i64 0, .int .i64 0, .string (⟨#[]⟩ : ByteArray)]) (t := 41) yQ ?_; intro gb125 hg w9 hbox hb; have BK125 := aM (hbox); have GW125 := aM ((yS : w.heap.size ≤ gb125)); have GE125 := aM ((yS : w.heap.size ≤ gb125)); replace HB := aM (below_step yB hb); clear hb hbox hg; obtain ⟨hcz10_0, hcz10_1, hcz10_2, hfz10_0, hfz10_1, hfz10_2⟩ := blk3 BK125.out) | ((with_reducible refine gate_value (c := 14) rfl ?_); refine goesV_ (c := 14) (some 17) rfl rfl Try.func66 yK rfl #[.int .i64 ((rd_Op l0 x10_1).f0)] rfl rfl yG ?_; (with_reducible refine (ops_New.calls ((rd_Op l0 x10_1).f0) true _ A6.out).mono ?_); rintro e w' ⟨rfl, ⟨nd, rfl⟩⟩; refine ⟨_, rfl, ?_⟩))
        go_ret
        exact ⟨yE2, yBg GE125.out⟩
       ·replace c8 := Bool.eq_false_iff.mpr c8
        subst c8; replace H := iF H
        by_cases c11 : ((rd_Op l0 x10_1).f0) = 1
        ·rw [if_pos c11] at H
         have c11b0 := beq_iff_eq.mpr c11; have c11b1 := bne_eq_false_iff_eq.mpr c11; clear c11; have H' := aM H; clear H; have p124 : 0 ≤ (x10_1 : Int) := yO; have q124 : x10_1 < (l0.length : Int) := yO; obtain ⟨ad124, e124, hx124_0, hx124_1, hx124_2⟩ := at_OpB HB.out HR0.out x10_1 p124 q124; cases e124; replace p124 := eq_true p124; replace q124 := eq_true q124
         go_wp2_with (first | ((with_reducible refine gate_dst (N := 7) rfl ?_); refine box_event yR (N := 7) yR (cs := #[.int .i64 0, .int .i64 0, .string (⟨#[]⟩ : ByteArray)]) (t := 41) yQ ?_; intro gb125 hg w12 hbox hb; have BK125 := aM (hbox); have GW125 := aM ((yS : w.heap.size ≤ gb125)); have GE125 := aM ((yS : w.heap.size ≤ gb125)); replace HB := aM (below_step yB hb); clear hb hbox hg; obtain ⟨hcz13_0, hcz13_1, hcz13_2, hfz13_0, hfz13_1, hfz13_2⟩ := blk3 BK125.out) | ((with_reducible refine gate_value (c := 14) rfl ?_); refine goesV_ (c := 14) (some 17) rfl rfl Try.func66 yK rfl #[.int .i64 ((rd_Op l0 x10_1).f0)] rfl rfl yG ?_; (with_reducible refine (ops_New.calls ((rd_Op l0 x10_1).f0) true _ A6.out).mono ?_); rintro e w' ⟨rfl, ⟨nd, rfl⟩⟩; refine ⟨_, rfl, ?_⟩))
         go_roundg k1
         case measure => have := HK1.out; omega
         case rel => exact ⟨(false), (wrap64 (x10_1 + 1)), yE, yE, H', ⟨by have := HK1.out; omega⟩, ⟨yBg GE125.out⟩⟩
        ·rw [if_neg c11] at H
         have c11b0 := beq_eq_false_iff_ne.mpr c11; have c11b1 := bne_iff_ne.mpr c11; replace H := oB H; obtain ⟨t127, A14, H⟩ := H; have H' := aM H; clear H; have p124 : 0 ≤ (x10_1 : Int) := yO; have q124 : x10_1 < (l0.length : Int) := yO; obtain ⟨ad124, e124, hx124_0, hx124_1, hx124_2⟩ := at_OpB HB.out HR0.out x10_1 p124 q124; cases e124; replace p124 := eq_true p124; replace q124 := eq_true q124
         go_wp2_with (first | ((with_reducible refine gate_dst (N := 7) rfl ?_); refine box_event yR (N := 7) yR (cs := #[.int .i64 0, .int .i64 0, .string (⟨#[]⟩ : ByteArray)]) (t := 41) yQ ?_; intro gb125 hg w15 hbox hb; have BK125 := aM (hbox); have GW125 := aM ((yS : w.heap.size ≤ gb125)); have GE125 := aM ((yS : w.heap.size ≤ gb125)); replace HB := aM (below_step yB hb); clear hb hbox hg; obtain ⟨hcz16_0, hcz16_1, hcz16_2, hfz16_0, hfz16_1, hfz16_2⟩ := blk3 BK125.out) | ((with_reducible refine gate_value (c := 14) rfl ?_); refine goesV_ (c := 14) (some 17) rfl rfl Try.func66 yK rfl #[.int .i64 ((rd_Op l0 x10_1).f0)] rfl rfl yG ?_; (with_reducible refine (ops_New.calls ((rd_Op l0 x10_1).f0) true _ A6.out).mono ?_); rintro e w' ⟨rfl, ⟨nd, rfl⟩⟩; refine ⟨_, rfl, ?_⟩) | (go_at_call 80; (with_reducible refine (lines_Closed.calls ((rd_Op l0 x10_1).f2) t127 _ A14.out).mono ?_); rintro e w' ⟨rfl, ⟨nd, rfl⟩⟩))
         go_roundg k1
         case measure => have := HK1.out; omega
         case rel => exact ⟨(!t127), (wrap64 (x10_1 + 1)), yE, yE, H', ⟨by have := HK1.out; omega⟩, ⟨yBg GE125.out⟩⟩
      ·replace c7 := Bool.eq_false_iff.mpr c7
       subst c7; have H' := aM (iF H); clear H; have p124 : 0 ≤ (x10_1 : Int) := yO; have q124 : x10_1 < (l0.length : Int) := yO; obtain ⟨ad124, e124, hx124_0, hx124_1, hx124_2⟩ := at_OpB HB.out HR0.out x10_1 p124 q124; cases e124; replace p124 := eq_true p124; replace q124 := eq_true q124
       go_wp2_with (first | ((with_reducible refine gate_dst (N := 7) rfl ?_); refine box_event yR (N := 7) yR (cs := #[.int .i64 0, .int .i64 0, .string (⟨#[]⟩ : ByteArray)]) (t := 41) yQ ?_; intro gb125 hg w17 hbox hb; have BK125 := aM (hbox); have GW125 := aM ((yS : w.heap.size ≤ gb125)); have GE125 := aM ((yS : w.heap.size ≤ gb125)); replace HB := aM (below_step yB hb); clear hb hbox hg; obtain ⟨hcz18_0, hcz18_1, hcz18_2, hfz18_0, hfz18_1, hfz18_2⟩ := blk3 BK125.out) | ((with_reducible refine gate_value (c := 14) rfl ?_); refine goesV_ (c := 14) (some 17) rfl rfl Try.func66 yK rfl #[.int .i64 ((rd_Op l0 x10_1).f0)] rfl rfl yG ?_; (with_reducible refine (ops_New.calls ((rd_Op l0 x10_1).f0) false _ A6.out).mono ?_); rintro e w' ⟨rfl, ⟨nd, rfl⟩⟩; refine ⟨_, rfl, ?_⟩))
       go_roundg k1
       case measure => have := HK1.out; omega
       case rel => exact ⟨(x5_1), (wrap64 (x10_1 + 1)), yE, yE, H', ⟨by have := HK1.out; omega⟩, ⟨yBg GE125.out⟩⟩
     ·rw [if_neg c5] at H
      exact absurd H (by simp)
    ·rw [if_neg c4] at H
     exact absurd H (by simp)
   ·rw [if_neg c3] at H
    have c3b0 := decide_eq_false c3; clear c3; obtain rfl := Option.some.inj H
    go_wp2
    go_ret
    exact ⟨yE2, yB⟩
set_option maxHeartbeats 8000000 in
set_option maxRecDepth 100000 in
theorem ops_Right.calls (k : Nat) (A0 : Option Addr) (c0 : Nat) (l0 : List (Op)) (r : Bool) (w : World) (hr0 : Kd.C kOp w A0 l0.length l0) (hc0 : l0.length ≤ c0) (h : ops_Right.f k l0 = some r) :
  Calls Try.prog 35 #[.slice A0 l0.length c0] w fun e w' => e = .returned (.bool r) ∧ Below w.heap.size w w' := by
 have HR0 := aM hr0
 have HC0 := aM hc0
 clear hr0 hc0
 have HB := aM (Below.refl w.heap.size w)
 have H : ((slices_ContainsFunc_Op_ops_Right_1.f k l0).bind fun t128 => (if t128 = true then (some false) else ((ops_Olds.f k l0).bind fun t129 => (if t129 ≤ 2147483648 then ((ops_News.f k l0).bind fun t130 => (if t130 ≤ 2147483648 then ((ops_closed_ops_Old.f k l0).bind fun t131 => (if t131 = true then ((ops_closed_ops_New.f k l0).bind fun t132 => (some t132)) else (some false))) else (some false))) else (some false))))) = some r := h
 clear h
 replace H := oB H; obtain ⟨t128, A2, H⟩ := H
 by_cases c3 : t128 = true
 ·subst c3
  replace H := iT H; obtain rfl := Option.some.inj H
  go_enter Try.func35, Try.ntmps35
  go_wp2_with (first | ((with_reducible refine gate_callee (f := 59) rfl ?_); refine goesL_ (some 4) rfl rfl Try.func59 yK rfl #[.slice A0 l0.length c0, .func (.func 60) #[] #[]] rfl yG ?_; (with_reducible refine (slices_ContainsFunc_Op_ops_Right_1.calls k _ _ l0  true _ (yC HR0.out) HC0.out A2.out).mono ?_); rintro e w4 ⟨rfl, hb⟩; refine ⟨_, rfl, ?_⟩; replace HB := aM (below_step yB hb); clear hb))
  go_ret
  exact ⟨yE2, yB⟩
 ·replace c3 := Bool.eq_false_iff.mpr c3
  subst c3; replace H := iF H; replace H := oB H; obtain ⟨t129, A5, H⟩ := H
  by_cases c6 : t129 ≤ 2147483648
  ·rw [if_pos c6] at H
   have c6b0 := decide_eq_true c6; clear c6; replace H := oB H; obtain ⟨t130, A7, H⟩ := H
   by_cases c8 : t130 ≤ 2147483648
   ·rw [if_pos c8] at H
    have c8b0 := decide_eq_true c8; clear c8; replace H := oB H; obtain ⟨t131, A9, H⟩ := H
    by_cases c10 : t131 = true
    ·subst c10
     replace H := iT H; replace H := oB H; obtain ⟨t132, A11, H⟩ := H; obtain rfl := Option.some.inj H
     go_enter Try.func35, Try.ntmps35
     go_wp2_with (first | ((with_reducible refine gate_callee (f := 59) rfl ?_); refine goesL_ (some 4) rfl rfl Try.func59 yK rfl #[.slice A0 l0.length c0, .func (.func 60) #[] #[]] rfl yG ?_; (with_reducible refine (slices_ContainsFunc_Op_ops_Right_1.calls k _ _ l0  false _ (yC HR0.out) HC0.out A2.out).mono ?_); rintro e w12 ⟨rfl, hb⟩; refine ⟨_, rfl, ?_⟩; replace HB := aM (below_step yB hb); clear hb) | (go_at_call 62; (with_reducible refine (ops_Olds.calls k _ _ l0 t129 _ (yC (Kd.C_below HR0.out HB.out)) HC0.out A5.out).mono ?_); rintro e w13 ⟨rfl, hb⟩; replace HB := aM (below_step yB hb); clear hb) | (go_at_call 63; (with_reducible refine (ops_News.calls k _ _ l0 t130 _ (yC (Kd.C_below HR0.out HB.out)) HC0.out A7.out).mono ?_); rintro e w14 ⟨rfl, hb⟩; replace HB := aM (below_step yB hb); clear hb) | (go_at_call 64; (with_reducible refine (ops_closed_ops_Old.calls k _ _ l0  true _ (yC (Kd.C_below HR0.out HB.out)) HC0.out A9.out).mono ?_); rintro e w15 ⟨rfl, hb⟩; replace HB := aM (below_step yB hb); clear hb) | (go_at_call 64; (with_reducible refine (ops_closed_ops_New.calls k _ _ l0  t132 _ (yC (Kd.C_below HR0.out HB.out)) HC0.out A11.out).mono ?_); rintro e w16 ⟨rfl, hb⟩; replace HB := aM (below_step yB hb); clear hb))
     go_ret
     exact ⟨yE2, yB⟩
    ·replace c10 := Bool.eq_false_iff.mpr c10
     subst c10; replace H := iF H; obtain rfl := Option.some.inj H
     go_enter Try.func35, Try.ntmps35
     go_wp2_with (first | ((with_reducible refine gate_callee (f := 59) rfl ?_); refine goesL_ (some 4) rfl rfl Try.func59 yK rfl #[.slice A0 l0.length c0, .func (.func 60) #[] #[]] rfl yG ?_; (with_reducible refine (slices_ContainsFunc_Op_ops_Right_1.calls k _ _ l0  false _ (yC HR0.out) HC0.out A2.out).mono ?_); rintro e w17 ⟨rfl, hb⟩; refine ⟨_, rfl, ?_⟩; replace HB := aM (below_step yB hb); clear hb) | (go_at_call 62; (with_reducible refine (ops_Olds.calls k _ _ l0 t129 _ (yC (Kd.C_below HR0.out HB.out)) HC0.out A5.out).mono ?_); rintro e w18 ⟨rfl, hb⟩; replace HB := aM (below_step yB hb); clear hb) | (go_at_call 63; (with_reducible refine (ops_News.calls k _ _ l0 t130 _ (yC (Kd.C_below HR0.out HB.out)) HC0.out A7.out).mono ?_); rintro e w19 ⟨rfl, hb⟩; replace HB := aM (below_step yB hb); clear hb) | (go_at_call 64; (with_reducible refine (ops_closed_ops_Old.calls k _ _ l0  false _ (yC (Kd.C_below HR0.out HB.out)) HC0.out A9.out).mono ?_); rintro e w20 ⟨rfl, hb⟩; replace HB := aM (below_step yB hb); clear hb))
     go_ret
     exact ⟨yE2, yB⟩
   ·rw [if_neg c8] at H
    have c8b0 := decide_eq_false c8; clear c8; obtain rfl := Option.some.inj H
    go_enter Try.func35, Try.ntmps35
    go_wp2_with (first | ((with_reducible refine gate_callee (f := 59) rfl ?_); refine goesL_ (some 4) rfl rfl Try.func59 yK rfl #[.slice A0 l0.length c0, .func (.func 60) #[] #[]] rfl yG ?_; (with_reducible refine (slices_ContainsFunc_Op_ops_Right_1.calls k _ _ l0  false _ (yC HR0.out) HC0.out A2.out).mono ?_); rintro e w21 ⟨rfl, hb⟩; refine ⟨_, rfl, ?_⟩; replace HB := aM (below_step yB hb); clear hb) | (go_at_call 62; (with_reducible refine (ops_Olds.calls k _ _ l0 t129 _ (yC (Kd.C_below HR0.out HB.out)) HC0.out A5.out).mono ?_); rintro e w22 ⟨rfl, hb⟩; replace HB := aM (below_step yB hb); clear hb) | (go_at_call 63; (with_reducible refine (ops_News.calls k _ _ l0 t130 _ (yC (Kd.C_below HR0.out HB.out)) HC0.out A7.out).mono ?_); rintro e w23 ⟨rfl, hb⟩; replace HB := aM (below_step yB hb); clear hb))
    go_ret
    exact ⟨yE2, yB⟩
  ·rw [if_neg c6] at H
   have c6b0 := decide_eq_false c6; clear c6; obtain rfl := Option.some.inj H
   go_enter Try.func35, Try.ntmps35
   go_wp2_with (first | ((with_reducible refine gate_callee (f := 59) rfl ?_); refine goesL_ (some 4) rfl rfl Try.func59 yK rfl #[.slice A0 l0.length c0, .func (.func 60) #[] #[]] rfl yG ?_; (with_reducible refine (slices_ContainsFunc_Op_ops_Right_1.calls k _ _ l0  false _ (yC HR0.out) HC0.out A2.out).mono ?_); rintro e w24 ⟨rfl, hb⟩; refine ⟨_, rfl, ?_⟩; replace HB := aM (below_step yB hb); clear hb) | (go_at_call 62; (with_reducible refine (ops_Olds.calls k _ _ l0 t129 _ (yC (Kd.C_below HR0.out HB.out)) HC0.out A5.out).mono ?_); rintro e w25 ⟨rfl, hb⟩; replace HB := aM (below_step yB hb); clear hb))
   go_ret
   exact ⟨yE2, yB⟩
set_option maxHeartbeats 8000000 in
set_option maxRecDepth 100000 in
theorem compose_told.calls (k : Nat) (A0 : Option Addr) (c0 : Nat) (l0 : List (Step)) (r1 : List (Op)) (r2 : Bool) (w : World) (hr0 : Kd.C kStep w A0 l0.length l0) (hc0 : l0.length ≤ c0) (h : compose_told.f k l0 = some (r1, r2)) :
  Calls Try.prog 70 #[.slice A0 l0.length c0] w fun e w' => ∃ v0_ : Value, e = .returned (.tuple #[v0_, .bool r2]) ∧ Kd.R kOp 41 w' w.heap.size (fun _ => True) v0_ r1 ∧ Below w.heap.size w w' := by
 have hu77 := Try.underlying77
 have hu41 := Try.underlying41
 have HR0 := aM hr0
 have HC0 := aM hc0
 clear hr0 hc0
 have HB := aM (Below.refl w.heap.size w)
 have H : (compose_told.l0 k ([] : List (Op)) l0 (l0.length : Int) 0) = some (r1, r2) := h
 clear h
 have H' := aM H
 clear H
 go_enter Try.func70, Try.ntmps70
 go_wp2
 go_loopg [4, 9] k (fun kq v4 v9 w' => ∃ (x4_1 : List (Op)) (x9_1 : Int), v9 = .int .i64 x9_1 ∧ Aside0 (compose_told.l0 kq x4_1 l0 (l0.length : Int) x9_1 = some (r1, r2)) ∧ Aside0 (kq ≤ k) ∧ Aside0 (Kd.R kOp 41 w' w.heap.size (fun _ => True) v4 x4_1) ∧ Aside0 (Below w.heap.size w w'))
 case atStart => exact ⟨(([] : List (Op))), (0), yE, H', ⟨Nat.le_refl _⟩, ⟨by first | exact Kd.R_nil _ _ _ _ _ | exact Kd.N_nil _ _ _ _ _ | exact Kd.V_nil _ _ _ _ _ | exact Kd.Q_nil _ _ _ _ _ | exact Kd.S_nil _ _ _ _ _⟩, ⟨yB⟩⟩
 case round =>
  clear H'; obtain ⟨x4_1, x9_1, rfl, HA, HK1, HO_4, HB⟩ := hrel; cases gk with
  | zero => exact absurd HA.out (by simp [compose_told.l0])
  | succ k1 =>
   have H := HA.out; clear HA; simp only [compose_told.l0] at H
   by_cases c2 : x9_1 < (l0.length : Int)
   ·rw [if_pos c2] at H
    have c2b0 := decide_eq_true c2; clear c2
    by_cases c3 : 0 ≤ x9_1
    ·rw [if_pos c3] at H
     have c3b0 := decide_eq_true c3; clear c3
     by_cases c4 : x9_1 < (l0.length : Int)
     ·rw [if_pos c4] at H
      have c4b0 := decide_eq_true c4; clear c4; obtain ⟨bq5, hbq5⟩ : ∃ b_ : Bool, b_ = ((rd_Step l0 x9_1).f2) := ⟨_, rfl⟩; replace H : (if (bq5 = true) then (compose_told.l0 k1 x4_1 l0 (l0.length : Int) (wrap64 (x9_1 + 1))) else (if x4_1.length < 4398046511104 then (compose_told.l0 k1 (x4_1 ++ [(⟨(rd_Step l0 x9_1).f0.f0, (rd_Step l0 x9_1).f0.f1, (rd_Step l0 x9_1).f0.f2⟩ : Op)]) l0 (l0.length : Int) (wrap64 (x9_1 + 1))) else (none))) = some (r1, r2) := by rw [← hbq5] at H; exact H
      have Nbq5 := aM hbq5; clear hbq5
      by_cases c6 : (bq5 = true)
      ·subst c6
       have H' := aM (iT H); clear H; have p133 : 0 ≤ (x9_1 : Int) := yO; have q133 : x9_1 < (l0.length : Int) := yO; obtain ⟨ad133, e133, hx133_0, hx133_1, hx133_2, hx133_3, hx133_4⟩ := at_Step HR0.out x9_1 p133 q133
       (try rw [← Nbq5.out] at hx133_4)
       cases e133; replace hx133_0 := (HB.out.cell (bL w _ hx133_0)).trans hx133_0; replace hx133_1 := (HB.out.cell (bL w _ hx133_1)).trans hx133_1; replace hx133_2 := (HB.out.cell (bL w _ hx133_2)).trans hx133_2; replace hx133_3 := (HB.out.cell (bL w _ hx133_3)).trans hx133_3; replace hx133_4 := (HB.out.cell (bL w _ hx133_4)).trans hx133_4; replace p133 := eq_true p133; replace q133 := eq_true q133
       go_wp2_with (first | ((with_reducible refine gate_dst (N := 6) rfl ?_); refine box_event yR (N := 6) yR (cs := #[.int .i64 0, .int .i64 0, .string (⟨#[]⟩ : ByteArray), .int .i64 0, .bool false]) (t := 77) yQ ?_; intro gb134 hg w7 hbox hb; replace HO_4 := aM (Kd.R_below (yH HO_4.out) hb); have BK134 := aM (hbox); have GW134 := aM ((yS : w.heap.size ≤ gb134)); have GE134 := aM ((yS : w.heap.size ≤ gb134)); replace HB := aM (below_step yB hb); clear hb hbox hg; obtain ⟨hcz8_0, hcz8_1, hcz8_2, hcz8_3, hcz8_4, hfz8_0, hfz8_1, hfz8_2, hfz8_3, hfz8_4⟩ := blk5 BK134.out))
       go_roundg k1
       case measure => have := HK1.out; omega
       case rel => exact ⟨(x4_1), (wrap64 (x9_1 + 1)), yE, H', ⟨by have := HK1.out; omega⟩, ⟨by (with_reducible repeat (first | apply Kd.R_alloc | apply Kd.R_drewN | apply Kd.R_drew)); exact Kd.R_mono (Kd.R_far (p := ⟨gb134, 4, none⟩) (Kd.R_far (p := ⟨gb134, 3, none⟩) (Kd.R_far (p := ⟨gb134, 2, none⟩) (Kd.R_far (p := ⟨gb134, 1, none⟩) (Kd.R_far (p := ⟨gb134, 0, none⟩) (Kd.R_types HO_4.out BK134.out (by decide)) (fun _ hk => hk.2) (.int .i64 ((rd_Step l0 x9_1).f0.f0))) (fun _ hk => hk.2) (.int .i64 ((rd_Step l0 x9_1).f0.f1))) (fun _ hk => hk.2) (.string ((rd_Step l0 x9_1).f0.f2))) (fun _ hk => hk.2) (.int .i64 ((rd_Step l0 x9_1).f1))) (fun _ hk => hk.2) (.bool true)) (fun _ hk => trivial)⟩, ⟨yBg GE134.out⟩⟩
      ·replace c6 := Bool.eq_false_iff.mpr c6
       subst c6; replace H := iF H
       by_cases c9 : x4_1.length < 4398046511104
       ·rw [if_pos c9] at H
        have LMc9 := aM c9; clear c9; obtain ⟨y135, hy135⟩ : ∃ y_ : List (Op), y_ = (x4_1 ++ [(⟨(rd_Step l0 x9_1).f0.f0, (rd_Step l0 x9_1).f0.f1, (rd_Step l0 x9_1).f0.f2⟩ : Op)]) := ⟨_, rfl⟩; replace H : (compose_told.l0 k1 y135 l0 (l0.length : Int) (wrap64 (x9_1 + 1))) = some (r1, r2) := by first | (rw [hy135]; with_reducible exact H) | (have H2_ := (Option.bind_some _ _).symm.trans H; rw [hy135]; with_reducible exact H2_) | (have H2_ := (Option.bind_some _ _).symm.trans H; with_reducible exact H2_) | with_reducible exact H | (rw [hy135]; exact H) | exact H
        have Ny135 := aM hy135; clear hy135; have H' := aM H; clear H; have p133 : 0 ≤ (x9_1 : Int) := yO; have q133 : x9_1 < (l0.length : Int) := yO; obtain ⟨ad133, e133, hx133_0, hx133_1, hx133_2, hx133_3, hx133_4⟩ := at_Step HR0.out x9_1 p133 q133
        (try rw [← Nbq5.out] at hx133_4)
        cases e133; replace hx133_0 := (HB.out.cell (bL w _ hx133_0)).trans hx133_0; replace hx133_1 := (HB.out.cell (bL w _ hx133_1)).trans hx133_1; replace hx133_2 := (HB.out.cell (bL w _ hx133_2)).trans hx133_2; replace hx133_3 := (HB.out.cell (bL w _ hx133_3)).trans hx133_3; replace hx133_4 := (HB.out.cell (bL w _ hx133_4)).trans hx133_4; replace p133 := eq_true p133; replace q133 := eq_true q133
        go_wp2_with (first | ((with_reducible refine gate_dst (N := 6) rfl ?_); refine box_event yR (N := 6) yR (cs := #[.int .i64 0, .int .i64 0, .string (⟨#[]⟩ : ByteArray), .int .i64 0, .bool false]) (t := 77) yQ ?_; intro gb134 hg w10 hbox hb; replace HO_4 := aM (Kd.R_below (yH HO_4.out) hb); have BK134 := aM (hbox); have GW134 := aM ((yS : w.heap.size ≤ gb134)); have GE134 := aM ((yS : w.heap.size ≤ gb134)); replace HB := aM (below_step yB hb); clear hb hbox hg; obtain ⟨hcz11_0, hcz11_1, hcz11_2, hcz11_3, hcz11_4, hfz11_0, hfz11_1, hfz11_2, hfz11_3, hfz11_4⟩ := blk5 BK134.out) | ((with_reducible refine gate_builtin (b := .append) (xs := #[.tmp 16, .tmp 19]) rfl ?_); at_builtin; refine Kd.R_append kOp (w0 := w) w.heap.size rfl (.tmp 16) (.tmp 19) 22 41 (.agg #[(.int .i64 0), (.int .i64 0), (.string ⟨#[]⟩)]) 32 rfl Try.underlying22 info41 rfl (by decide) (by omega) u4 x4_1 (⟨(rd_Step l0 x9_1).f0.f0, (rd_Step l0 x9_1).f0.f1, (rd_Step l0 x9_1).f0.f2⟩ : Op) [.int .i64 ((rd_Step l0 x9_1).f0.f0), .int .i64 ((rd_Step l0 x9_1).f0.f1), .string ((rd_Step l0 x9_1).f0.f2)] (fun _ => True) (fun _ => False) rfl (by first | (go_simp; done) | (go_simp; rfl)) ?aP (fun _ hk => hk.elim) ?aF ?aO ?aB ?aS ?aL ?_; (case aP => exact kOp_mkM _ _ _ (⟨(rd_Step l0 x9_1).f0.f0, (rd_Step l0 x9_1).f0.f1, (rd_Step l0 x9_1).f0.f2⟩ : Op)); (case aB => exact (yBg GE134.out)); (case aF => exact (fun _ _ => trivial)); (case aO => exact (by (with_reducible repeat (first | apply Kd.R_alloc | apply Kd.R_drewN | apply Kd.R_drew)); exact Kd.R_mono (Kd.R_far (p := ⟨gb134, 4, none⟩) (Kd.R_far (p := ⟨gb134, 3, none⟩) (Kd.R_far (p := ⟨gb134, 2, none⟩) (Kd.R_far (p := ⟨gb134, 1, none⟩) (Kd.R_far (p := ⟨gb134, 0, none⟩) (Kd.R_types HO_4.out BK134.out (by decide)) (fun _ hk => hk.2) (.int .i64 ((rd_Step l0 x9_1).f0.f0))) (fun _ hk => hk.2) (.int .i64 ((rd_Step l0 x9_1).f0.f1))) (fun _ hk => hk.2) (.string ((rd_Step l0 x9_1).f0.f2))) (fun _ hk => hk.2) (.int .i64 ((rd_Step l0 x9_1).f1))) (fun _ hk => hk.2) (.bool false)) (fun _ hk => trivial))); (case aS => exact (below_size (yBg GE134.out))); (case aL => have := LMc9.out; omega); intro v136 w12 ho hb hg hat; rw [← Ny135.out] at ho; have n0_ := aM (blk_grown (g := gb134) (o := .cells #[.int .i64 ((rd_Step l0 x9_1).f0.f0), .int .i64 ((rd_Step l0 x9_1).f0.f1), .string ((rd_Step l0 x9_1).f0.f2), .int .i64 ((rd_Step l0 x9_1).f1), .bool false] 77 (0, 0)) (by (with_reducible repeat (first | refine kN ?_ _ | refine kD ?_ | refine kA ?_ _)); refine blk_put (cs := #[.int .i64 ((rd_Step l0 x9_1).f0.f0), .int .i64 ((rd_Step l0 x9_1).f0.f1), .string ((rd_Step l0 x9_1).f0.f2), .int .i64 ((rd_Step l0 x9_1).f1), .bool false]) ?_ 4 _ rfl; (with_reducible repeat (first | refine kN ?_ _ | refine kD ?_ | refine kA ?_ _)); refine blk_put (cs := #[.int .i64 ((rd_Step l0 x9_1).f0.f0), .int .i64 ((rd_Step l0 x9_1).f0.f1), .string ((rd_Step l0 x9_1).f0.f2), .int .i64 0, .bool false]) ?_ 3 _ rfl; (with_reducible repeat (first | refine kN ?_ _ | refine kD ?_ | refine kA ?_ _)); refine blk_put (cs := #[.int .i64 ((rd_Step l0 x9_1).f0.f0), .int .i64 ((rd_Step l0 x9_1).f0.f1), .string (⟨#[]⟩ : ByteArray), .int .i64 0, .bool false]) ?_ 2 _ rfl; (with_reducible repeat (first | refine kN ?_ _ | refine kD ?_ | refine kA ?_ _)); refine blk_put (cs := #[.int .i64 ((rd_Step l0 x9_1).f0.f0), .int .i64 0, .string (⟨#[]⟩ : ByteArray), .int .i64 0, .bool false]) ?_ 1 _ rfl; (with_reducible repeat (first | refine kN ?_ _ | refine kD ?_ | refine kA ?_ _)); refine blk_put (cs := #[.int .i64 0, .int .i64 0, .string (⟨#[]⟩ : ByteArray), .int .i64 0, .bool false]) ?_ 0 _ rfl; (with_reducible repeat (first | refine kN ?_ _ | refine kD ?_ | refine kA ?_ _)); exact BK134.out) hg (Kd.R_ne HO_4.out BK134.out (by decide))); have n1_ := aM (hb); have n2_ := aM (ho); clear BK134; clear HB; clear HO_4; have BK134 := n0_; have HB := n1_; have HO137 := n2_; clear n0_ n1_ n2_; clear ho hb hg hat))
        go_roundg k1
        case measure => have := HK1.out; omega
        case rel => exact ⟨(y135), (wrap64 (x9_1 + 1)), yE, H', ⟨by have := HK1.out; omega⟩, ⟨yH HO137.out⟩, ⟨yBg GE134.out⟩⟩
       ·rw [if_neg c9] at H
        exact absurd H (by simp)
     ·rw [if_neg c4] at H
      exact absurd H (by simp)
    ·rw [if_neg c3] at H
     exact absurd H (by simp)
   ·rw [if_neg c2] at H
    have c2b0 := decide_eq_false c2; clear c2; replace H := Option.bind_eq_some_iff.mp H; obtain ⟨t138, A130, H⟩ := H; replace H : (some (x4_1, t138)) = some (r1, r2) := H; have A13 := aM A130; clear A130; simp only [Option.some.injEq, Prod.mk.injEq] at H; obtain ⟨rfl, rfl⟩ := H; obtain ⟨Ao14, co14, eo14⟩ := Kd.R_slice HO_4.out; subst eo14
    go_wp2_with (first | ((with_reducible refine gate_callee (f := 35) rfl ?_); refine goesL_ (some 24) rfl rfl Try.func35 yK rfl #[.slice Ao14 x4_1.length co14] rfl yG ?_; (with_reducible refine (ops_Right.calls k1 _ _ x4_1 t138 _ (yC (Kd.R_reads' HO_4.out).2.2) ((Kd.R_reads' HO_4.out).2.1) A13.out).mono ?_); rintro e w15 ⟨rfl, hb⟩; refine ⟨_, rfl, ?_⟩; replace HO_4 := aM (Kd.R_below (yH HO_4.out) hb); replace HB := aM (below_step yB hb); clear hb))
    go_ret2
    exact ⟨_, by first | rfl | (simp [errW_none, errW_some] <;> rfl) | (simp [*, errW_none, errW_some] <;> rfl), by (with_reducible repeat (first | apply Kd.R_alloc | apply Kd.R_drewN | apply Kd.R_drew)); exact HO_4.out, yB⟩
set_option maxHeartbeats 8000000 in
set_option maxRecDepth 100000 in
theorem compose_next.calls (A0 : Option Addr) (c0 : Nat) (l0 : List (Op)) (a1 : Int) (r1 : Int) (r2 : Int) (r3 : ByteArray) (w : World) (hr0 : Kd.C kOp w A0 l0.length l0) (hc0 : l0.length ≤ c0) (h : compose_next.f l0 a1 = some (r1, r2, r3)) :
  Calls Try.prog 81 #[.slice A0 l0.length c0, .int .i64 a1] w fun e w' => e = .returned (.agg #[.int .i64 r1, .int .i64 r2, .string r3]) ∧ Below w.heap.size w w' := by
 have hu41 := Try.underlying41
 have HR0 := aM hr0
 have HC0 := aM hc0
 clear hr0 hc0
 have HB := aM (Below.refl w.heap.size w)
 have H : (if (l0.length : Int) = 0 then (some (1, a1, (⟨#[]⟩ : ByteArray))) else (if 0 < (l0.length : Int) then (some ((rd_Op l0 0).f0, (rd_Op l0 0).f1, (rd_Op l0 0).f2)) else (none))) = some (r1, r2, r3) := h
 clear h
 by_cases c3 : (l0.length : Int) = 0
 ·rw [if_pos c3] at H
  have c3b0 := beq_iff_eq.mpr c3; have c3b1 := bne_eq_false_iff_eq.mpr c3; clear c3; simp only [Option.some.injEq, Prod.mk.injEq] at H; obtain ⟨rfl, rfl, rfl⟩ := H
  go_enter Try.func81, Try.ntmps81
  go_wp2_with (first | ((with_reducible refine gate_dst (N := 4) rfl ?_); refine box_event yR (N := 4) yR (cs := #[.int .i64 0, .int .i64 0, .string (⟨#[]⟩ : ByteArray)]) (t := 41) yQ ?_; intro gb139 hg w4 hbox hb; have BK139 := aM (hbox); have GW139 := aM ((yS : w.heap.size ≤ gb139)); have GE139 := aM ((yS : w.heap.size ≤ gb139)); replace HB := aM (below_step yB hb); clear hb hbox hg; obtain ⟨hcz5_0, hcz5_1, hcz5_2, hfz5_0, hfz5_1, hfz5_2⟩ := blk3 BK139.out))
  refine bodyPost_ret (results_cell_row rfl _ _ gb139 41 #[.int .i64 1, .int .i64 a1, .string (⟨#[]⟩ : ByteArray)] (0, 0) _ rfl (by (with_reducible repeat (first | refine kN ?_ _ | refine kD ?_ | refine kA ?_ _)); refine blk_put (cs := #[.int .i64 1, .int .i64 a1, .string (⟨#[]⟩ : ByteArray)]) ?_ 2 _ rfl; (with_reducible repeat (first | refine kN ?_ _ | refine kD ?_ | refine kA ?_ _)); refine blk_put (cs := #[.int .i64 1, .int .i64 0, .string (⟨#[]⟩ : ByteArray)]) ?_ 1 _ rfl; (with_reducible repeat (first | refine kN ?_ _ | refine kD ?_ | refine kA ?_ _)); refine blk_put (cs := #[.int .i64 0, .int .i64 0, .string (⟨#[]⟩ : ByteArray)]) ?_ 0 _ rfl; (with_reducible repeat (first | refine kN ?_ _ | refine kD ?_ | refine kA ?_ _)); exact BK139.out) Try.underlying41 rfl yK) rfl ?_
  exact ⟨yE2, yBg GE139.out⟩
 ·rw [if_neg c3] at H
  have c3b0 := beq_eq_false_iff_ne.mpr c3; have c3b1 := bne_iff_ne.mpr c3; have c3b2 : ¬ (l0 = []) := fun h_ => c3 (by rw [h_]; rfl)
  by_cases c6 : 0 < (l0.length : Int)
  ·rw [if_pos c6] at H
   have c6b0 := decide_eq_true c6; have c6b1 : decide (0 < l0.length) = true := decide_eq_true (by omega); clear c6; simp only [Option.some.injEq, Prod.mk.injEq] at H; obtain ⟨rfl, rfl, rfl⟩ := H
   go_enter Try.func81, Try.ntmps81
   go_wp2_with (first | ((with_reducible refine gate_dst (N := 4) rfl ?_); refine box_event yR (N := 4) yR (cs := #[.int .i64 0, .int .i64 0, .string (⟨#[]⟩ : ByteArray)]) (t := 41) yQ ?_; intro gb139 hg w7 hbox hb; have BK139 := aM (hbox); have GW139 := aM ((yS : w.heap.size ≤ gb139)); have GE139 := aM ((yS : w.heap.size ≤ gb139)); replace HB := aM (below_step yB hb); clear hb hbox hg; have p140 : 0 ≤ (0 : Int) := (by omega); have q140 : 0 < (l0.length : Int) := yO; obtain ⟨ad140, e140, hx140_0, hx140_1, hx140_2⟩ := at_Op HR0.out 0 p140 q140; cases e140; have qi140 : (0 < l0.length) = True := eq_true (by omega); (try rw [show ((0 : Int)).toNat = 0 from rfl] at hx140_0); (try rw [show 0 * 3 = 0 from rfl] at hx140_0); (try rw [Addr.add_zero'] at hx140_0); (try rw [show ((0 : Int)).toNat = 0 from rfl] at hx140_1); (try rw [show 0 * 3 = 0 from rfl] at hx140_1); (try rw [Addr.add_zero'] at hx140_1); (try rw [show ((0 : Int)).toNat = 0 from rfl] at hx140_2); (try rw [show 0 * 3 = 0 from rfl] at hx140_2); (try rw [Addr.add_zero'] at hx140_2); replace hx140_0 := (HB.out.cell (bL w _ hx140_0)).trans hx140_0; replace hx140_1 := (HB.out.cell (bL w _ hx140_1)).trans hx140_1; replace hx140_2 := (HB.out.cell (bL w _ hx140_2)).trans hx140_2; replace p140 := eq_true p140; replace q140 := eq_true q140; obtain ⟨hcz8_0, hcz8_1, hcz8_2, hfz8_0, hfz8_1, hfz8_2⟩ := blk3 BK139.out))
   refine bodyPost_ret (results_cell_row rfl _ _ gb139 41 #[.int .i64 ((rd_Op l0 0).f0), .int .i64 ((rd_Op l0 0).f1), .string ((rd_Op l0 0).f2)] (0, 0) _ rfl (by (with_reducible repeat (first | refine kN ?_ _ | refine kD ?_ | refine kA ?_ _)); refine blk_put (cs := #[.int .i64 ((rd_Op l0 0).f0), .int .i64 ((rd_Op l0 0).f1), .string (⟨#[]⟩ : ByteArray)]) ?_ 2 _ rfl; (with_reducible repeat (first | refine kN ?_ _ | refine kD ?_ | refine kA ?_ _)); refine blk_put (cs := #[.int .i64 ((rd_Op l0 0).f0), .int .i64 0, .string (⟨#[]⟩ : ByteArray)]) ?_ 1 _ rfl; (with_reducible repeat (first | refine kN ?_ _ | refine kD ?_ | refine kA ?_ _)); refine blk_put (cs := #[.int .i64 0, .int .i64 0, .string (⟨#[]⟩ : ByteArray)]) ?_ 0 _ rfl; (with_reducible repeat (first | refine kN ?_ _ | refine kD ?_ | refine kA ?_ _)); exact BK139.out) Try.underlying41 rfl yK) rfl ?_
   exact ⟨yE2, yBg GE139.out⟩
  ·rw [if_neg c6] at H
   exact absurd H (by simp)
set_option maxHeartbeats 8000000 in
set_option maxRecDepth 100000 in
theorem ops_Some.calls (k : Nat) (A0 : Option Addr) (c0 : Nat) (l0 : List (Op)) (a1 : Int) (r : List (Op)) (w : World) (hr0 : Kd.C kOp w A0 l0.length l0) (hc0 : l0.length ≤ c0) (h : ops_Some.f k l0 a1 = some r) :
  Calls Try.prog 72 #[.slice A0 l0.length c0, .int .i64 a1] w fun e w' => ∃ v0_ : Value, e = .returned (v0_) ∧ Kd.R kOp 41 w' w.heap.size (fun _ => True) v0_ r ∧ Below w.heap.size w w' := by
 have hu41 := Try.underlying41
 have HR0 := aM hr0
 have HC0 := aM hc0
 clear hr0 hc0
 have HB := aM (Below.refl w.heap.size w)
 have H : (ops_Some.l0 k a1 ([] : List (Op)) l0 (l0.length : Int) 0) = some r := h
 clear h
 have H' := aM H
 clear H
 go_enter Try.func72, Try.ntmps72
 go_wp2
 go_loopg [5, 10] k (fun kq v5 v10 w' => ∃ (x5_1 : List (Op)) (x10_1 : Int), v10 = .int .i64 x10_1 ∧ Aside0 (ops_Some.l0 kq a1 x5_1 l0 (l0.length : Int) x10_1 = some r) ∧ Aside0 (kq ≤ k) ∧ Aside0 (Kd.R kOp 41 w' w.heap.size (fun _ => True) v5 x5_1) ∧ Aside0 (Below w.heap.size w w'))
 case atStart => exact ⟨(([] : List (Op))), (0), yE, H', ⟨Nat.le_refl _⟩, ⟨by first | exact Kd.R_nil _ _ _ _ _ | exact Kd.N_nil _ _ _ _ _ | exact Kd.V_nil _ _ _ _ _ | exact Kd.Q_nil _ _ _ _ _ | exact Kd.S_nil _ _ _ _ _⟩, ⟨yB⟩⟩
 case round =>
  clear H'; (try clear p2); obtain ⟨x5_1, x10_1, rfl, HA, HK1, HO_5, HB⟩ := hrel; cases gk with
  | zero => exact absurd HA.out (by simp [ops_Some.l0])
  | succ k1 =>
   have H := HA.out; clear HA; simp only [ops_Some.l0] at H
   by_cases c3 : x10_1 < (l0.length : Int)
   ·rw [if_pos c3] at H
    have c3b0 := decide_eq_true c3; clear c3
    by_cases c4 : 0 ≤ x10_1
    ·rw [if_pos c4] at H
     have c4b0 := decide_eq_true c4; clear c4
     by_cases c5 : x10_1 < (l0.length : Int)
     ·rw [if_pos c5] at H
      have c5b0 := decide_eq_true c5; clear c5
      by_cases c6 : ((rd_Op l0 x10_1).f0) = a1
      ·rw [if_pos c6] at H
       have c6b0 := beq_iff_eq.mpr c6; have c6b1 := bne_eq_false_iff_eq.mpr c6; clear c6
       by_cases c7 : x5_1.length < 4398046511104
       ·rw [if_pos c7] at H
        have LMc7 := aM c7; clear c7; obtain ⟨y154, hy154⟩ : ∃ y_ : List (Op), y_ = (x5_1 ++ [(⟨(rd_Op l0 x10_1).f0, (rd_Op l0 x10_1).f1, (rd_Op l0 x10_1).f2⟩ : Op)]) := ⟨_, rfl⟩; replace H : (ops_Some.l0 k1 a1 y154 l0 (l0.length : Int) (wrap64 (x10_1 + 1))) = some r := yN hy154 H
        have Ny154 := aM hy154; clear hy154; have H' := aM H; clear H; have p152 : 0 ≤ (x10_1 : Int) := yO; have q152 : x10_1 < (l0.length : Int) := yO; obtain ⟨ad152, e152, hx152_0, hx152_1, hx152_2⟩ := at_OpB HB.out HR0.out x10_1 p152 q152; cases e152; replace p152 := eq_true p152; replace q152 := eq_true q152
        go_wp2_with (first | ((with_reducible refine gate_dst (N := 7) rfl ?_); refine box_event yR (N := 7) yR (cs := #[.int .i64 0, .int .i64 0, .string (⟨#[]⟩ : ByteArray)]) (t := 41) yQ ?_; intro gb153 hg w8 hbox hb; replace HO_5 := aM (Kd.R_below (Kd.R_elderB (yH HO_5.out) gb153 (Nat.le_of_eq hg.symm)) hb); have BK153 := aM (hbox); have GW153 := aM ((yS : w.heap.size ≤ gb153)); have GE153 := aM ((yS : w.heap.size ≤ gb153)); replace HB := aM (below_step yB hb); clear hb hbox hg; obtain ⟨hcz9_0, hcz9_1, hcz9_2, hfz9_0, hfz9_1, hfz9_2⟩ := blk3 BK153.out) | ((with_reducible refine gate_builtin (b := .append) (xs := #[.tmp 18, .tmp 20]) rfl ?_); at_builtin; refine Kd.R_append kOp (w0 := w) w.heap.size rfl (.tmp 18) (.tmp 20) 22 41 (.agg #[(.int .i64 0), (.int .i64 0), (.string ⟨#[]⟩)]) 32 rfl Try.underlying22 info41 rfl (by decide) (by omega) u5 x5_1 (⟨(rd_Op l0 x10_1).f0, (rd_Op l0 x10_1).f1, (rd_Op l0 x10_1).f2⟩ : Op) [.int .i64 ((rd_Op l0 x10_1).f0), .int .i64 ((rd_Op l0 x10_1).f1), .string ((rd_Op l0 x10_1).f2)] (fun k_ => k_ ≠ gb153) (fun _ => False) rfl (by first | (go_simp; done) | (go_simp; rfl)) ?aP (fun _ hk => hk.elim) ?aF ?aO ?aB ?aS ?aL ?_; (case aP => exact kOp_mkM _ _ _ (⟨(rd_Op l0 x10_1).f0, (rd_Op l0 x10_1).f1, (rd_Op l0 x10_1).f2⟩ : Op)); (case aB => exact (yBg GE153.out)); (case aF => exact (fun k_ hk => Kd.freshB (g := gb153) (o := .cells #[.int .i64 ((rd_Op l0 x10_1).f0), .int .i64 ((rd_Op l0 x10_1).f1), .string ((rd_Op l0 x10_1).f2)] 41 (0, 0)) (by (with_reducible repeat (first | refine kN ?_ _ | refine kD ?_ | refine kA ?_ _)); refine blk_put (cs := #[.int .i64 ((rd_Op l0 x10_1).f0), .int .i64 ((rd_Op l0 x10_1).f1), .string (⟨#[]⟩ : ByteArray)]) ?_ 2 _ rfl; (with_reducible repeat (first | refine kN ?_ _ | refine kD ?_ | refine kA ?_ _)); refine blk_put (cs := #[.int .i64 ((rd_Op l0 x10_1).f0), .int .i64 0, .string (⟨#[]⟩ : ByteArray)]) ?_ 1 _ rfl; (with_reducible repeat (first | refine kN ?_ _ | refine kD ?_ | refine kA ?_ _)); refine blk_put (cs := #[.int .i64 0, .int .i64 0, .string (⟨#[]⟩ : ByteArray)]) ?_ 0 _ rfl; (with_reducible repeat (first | refine kN ?_ _ | refine kD ?_ | refine kA ?_ _)); exact BK153.out) k_ hk)); (case aO => exact (by (with_reducible repeat (first | apply Kd.R_alloc | apply Kd.R_drewN | apply Kd.R_drew)); exact Kd.R_mono (Kd.R_far (p := ⟨gb153, 2, none⟩) (Kd.R_far (p := ⟨gb153, 1, none⟩) (Kd.R_far (p := ⟨gb153, 0, none⟩) (Kd.R_mono HO_5.out (fun k_ hk => (⟨hk, hk.2⟩ : _ ∧ k_ ≠ gb153))) (fun _ hk => hk.2) (.int .i64 ((rd_Op l0 x10_1).f0))) (fun _ hk => hk.2) (.int .i64 ((rd_Op l0 x10_1).f1))) (fun _ hk => hk.2) (.string ((rd_Op l0 x10_1).f2))) (fun _ hk => hk.1.2))); (case aS => exact (below_size (yBg GE153.out))); (case aL => have := LMc7.out; omega); intro v155 w10 ho hb hg hat; rw [← Ny154.out] at ho; have n0_ := aM (blk_grown (g := gb153) (o := .cells #[.int .i64 ((rd_Op l0 x10_1).f0), .int .i64 ((rd_Op l0 x10_1).f1), .string ((rd_Op l0 x10_1).f2)] 41 (0, 0)) (by (with_reducible repeat (first | refine kN ?_ _ | refine kD ?_ | refine kA ?_ _)); refine blk_put (cs := #[.int .i64 ((rd_Op l0 x10_1).f0), .int .i64 ((rd_Op l0 x10_1).f1), .string (⟨#[]⟩ : ByteArray)]) ?_ 2 _ rfl; (with_reducible repeat (first | refine kN ?_ _ | refine kD ?_ | refine kA ?_ _)); refine blk_put (cs := #[.int .i64 ((rd_Op l0 x10_1).f0), .int .i64 0, .string (⟨#[]⟩ : ByteArray)]) ?_ 1 _ rfl; (with_reducible repeat (first | refine kN ?_ _ | refine kD ?_ | refine kA ?_ _)); refine blk_put (cs := #[.int .i64 0, .int .i64 0, .string (⟨#[]⟩ : ByteArray)]) ?_ 0 _ rfl; (with_reducible repeat (first | refine kN ?_ _ | refine kD ?_ | refine kA ?_ _)); exact BK153.out) hg (Kd.R_away HO_5.out (fun _ hk => hk.2))); have n1_ := aM (hb); have n2_ := aM (ho); clear BK153; clear HB; clear HO_5; have BK153 := n0_; have HB := n1_; have HO156 := n2_; clear n0_ n1_ n2_; clear ho hb hg hat))
        go_roundg k1
        case measure => have := HK1.out; omega
        case rel => exact ⟨(y154), (wrap64 (x10_1 + 1)), yE, H', ⟨by have := HK1.out; omega⟩, ⟨by (with_reducible repeat (first | apply Kd.R_alloc | apply Kd.R_drewN | apply Kd.R_drew)); exact Kd.R_mono HO156.out (fun _ hk => trivial)⟩, ⟨yBg GE153.out⟩⟩
       ·rw [if_neg c7] at H
        exact absurd H (by simp)
      ·rw [if_neg c6] at H
       have c6b0 := beq_eq_false_iff_ne.mpr c6; have c6b1 := bne_iff_ne.mpr c6; have H' := aM H; clear H; have p152 : 0 ≤ (x10_1 : Int) := yO; have q152 : x10_1 < (l0.length : Int) := yO; obtain ⟨ad152, e152, hx152_0, hx152_1, hx152_2⟩ := at_OpB HB.out HR0.out x10_1 p152 q152; cases e152; replace p152 := eq_true p152; replace q152 := eq_true q152
       go_wp2_with (first | ((with_reducible refine gate_dst (N := 7) rfl ?_); refine box_event yR (N := 7) yR (cs := #[.int .i64 0, .int .i64 0, .string (⟨#[]⟩ : ByteArray)]) (t := 41) yQ ?_; intro gb153 hg w11 hbox hb; replace HO_5 := aM (Kd.R_below (Kd.R_elderB (yH HO_5.out) gb153 (Nat.le_of_eq hg.symm)) hb); have BK153 := aM (hbox); have GW153 := aM ((yS : w.heap.size ≤ gb153)); have GE153 := aM ((yS : w.heap.size ≤ gb153)); replace HB := aM (below_step yB hb); clear hb hbox hg; obtain ⟨hcz12_0, hcz12_1, hcz12_2, hfz12_0, hfz12_1, hfz12_2⟩ := blk3 BK153.out))
       go_roundg k1
       case measure => have := HK1.out; omega
       case rel => exact ⟨(x5_1), (wrap64 (x10_1 + 1)), yE, H', ⟨by have := HK1.out; omega⟩, ⟨by (with_reducible repeat (first | apply Kd.R_alloc | apply Kd.R_drewN | apply Kd.R_drew)); exact Kd.R_mono (Kd.R_far (p := ⟨gb153, 2, none⟩) (Kd.R_far (p := ⟨gb153, 1, none⟩) (Kd.R_far (p := ⟨gb153, 0, none⟩) (Kd.R_mono HO_5.out (fun k_ hk => (⟨hk, hk.2⟩ : _ ∧ k_ ≠ gb153))) (fun _ hk => hk.2) (.int .i64 ((rd_Op l0 x10_1).f0))) (fun _ hk => hk.2) (.int .i64 ((rd_Op l0 x10_1).f1))) (fun _ hk => hk.2) (.string ((rd_Op l0 x10_1).f2))) (fun _ hk => trivial)⟩, ⟨yBg GE153.out⟩⟩
     ·rw [if_neg c5] at H
      exact absurd H (by simp)
    ·rw [if_neg c4] at H
     exact absurd H (by simp)
   ·rw [if_neg c3] at H
    have c3b0 := decide_eq_false c3; clear c3; obtain rfl := Option.some.inj H
    go_wp2
    go_ret
    exact ⟨_, by first | rfl | (simp [errW_none, errW_some] <;> rfl) | (simp [*, errW_none, errW_some] <;> rfl), by (with_reducible repeat (first | apply Kd.R_alloc | apply Kd.R_drewN | apply Kd.R_drew)); exact HO_5.out, yB⟩
set_option maxHeartbeats 8000000 in
set_option maxRecDepth 100000 in
theorem ops_Norm.calls (k : Nat) (A0 : Option Addr) (c0 : Nat) (l0 : List (Op)) (r : List (Op)) (w : World) (hr0 : Kd.C kOp w A0 l0.length l0) (hc0 : l0.length ≤ c0) (h : ops_Norm.f k l0 = some r) :
  Calls Try.prog 39 #[.slice A0 l0.length c0] w fun e w' => ∃ v0_ : Value, e = .returned (v0_) ∧ Kd.R kOp 41 w' w.heap.size (fun _ => True) v0_ r ∧ Below w.heap.size w w' := by
 have hu41 := Try.underlying41
 have HR0 := aM hr0
 have HC0 := aM hc0
 clear hr0 hc0
 have HB := aM (Below.refl w.heap.size w)
 have H : ((ops_Right.f k l0).bind fun t157 => (if t157 = true then (ops_Norm.l0 k l0 ([] : List (Op)) 0) else (some ([] : List (Op))))) = some r := h
 clear h
 replace H := oB H; obtain ⟨t157, A2, H⟩ := H
 by_cases c3 : t157 = true
 ·subst c3
  have H' := aM (iT H); clear H
  go_enter Try.func39, Try.ntmps39
  go_wp2_with (first | ((with_reducible refine gate_callee (f := 35) rfl ?_); refine goesL_ (some 8) rfl rfl Try.func35 yK rfl #[.slice A0 l0.length c0] rfl yG ?_; (with_reducible refine (ops_Right.calls k _ _ l0 true _ (yC HR0.out) HC0.out A2.out).mono ?_); rintro e w4 ⟨rfl, hb⟩; refine ⟨_, rfl, ?_⟩; replace HB := aM (below_step yB hb); clear hb))
  go_loopg [3, 4] k (fun kq v3 v4 w' => ∃ (x3_1 : List (Op)) (x4_1 : Int), v4 = .int .i64 x4_1 ∧ Aside0 (ops_Norm.l0 kq l0 x3_1 x4_1 = some r) ∧ Aside0 (kq ≤ k) ∧ Aside0 (Kd.R kOp 41 w' w.heap.size (fun _ => True) v3 x3_1) ∧ Aside0 (Below w.heap.size w w'))
  case atStart => exact ⟨(([] : List (Op))), (0), yE, H', ⟨Nat.le_refl _⟩, ⟨by first | exact Kd.R_nil _ _ _ _ _ | exact Kd.N_nil _ _ _ _ _ | exact Kd.V_nil _ _ _ _ _ | exact Kd.Q_nil _ _ _ _ _ | exact Kd.S_nil _ _ _ _ _⟩, ⟨yB⟩⟩
  case round =>
   clear H'; (try clear p2); (try clear c3); obtain ⟨x3_1, x4_1, rfl, HA, HK1, HO_3, HB⟩ := hrel; cases gk with
   | zero => exact absurd HA.out (by simp [ops_Norm.l0])
   | succ k1 =>
    have H := HA.out; clear HA; simp only [ops_Norm.l0] at H
    by_cases c5 : x4_1 < (l0.length : Int)
    ·rw [if_pos c5] at H
     have c5b0 := decide_eq_true c5; clear c5; have HC6 := aM H; clear H
     go_upto_block 2 with (fail)
     go_cut [4] (fun v4 wc => ∃ (kq : Nat) (x4_5 : Int), v4 = .int .i64 x4_5 ∧ Aside0 (ops_Norm.j2 kq l0 x3_1 x4_5 x4_1 = some r) ∧ Aside0 (kq ≤ k1) ∧ Aside0 (Kd.R kOp 41 wc w.heap.size (fun _ => True) u3 x3_1) ∧ Aside0 (Below w.heap.size w wc))
     case first =>
      have H := HC6.out; clear HC6; have H' := aM H; clear H
      go_wp2
      go_loopg [4] k1 (fun kq v4 w' => ∃ (x4_2 : Int), v4 = .int .i64 x4_2 ∧ Aside0 (ops_Norm.l1 kq l0 x3_1 x4_2 x4_1 = some r) ∧ Aside0 (kq ≤ k1) ∧ Aside0 (Kd.R kOp 41 w' w.heap.size (fun _ => True) u3 x3_1) ∧ Aside0 (Below w.heap.size w w'))
      case atStart => exact ⟨(x4_1), yE, H', ⟨Nat.le_refl _⟩, ⟨yH HO_3.out⟩, ⟨yB⟩⟩
      case round =>
       clear H'; (try clear p2); (try clear c3); (try clear c5); (try clear c5b0); (try clear p2); obtain ⟨x4_2, rfl, HA, HK2, HO_3, HB⟩ := hrel; cases gk with
       | zero => exact absurd HA.out (by simp [ops_Norm.l1])
       | succ k2 =>
        have H := HA.out; clear HA; simp only [ops_Norm.l1] at H
        by_cases c7 : x4_2 < (l0.length : Int)
        ·rw [if_pos c7] at H
         have c7b0 := decide_eq_true c7; clear c7
         (first | rw [c7b0] | (simp only [i64_w, i32_w]; rw [c7b0]) | skip)
         by_cases c8 : 0 ≤ x4_2
         ·rw [if_pos c8] at H
          have c8b0 := decide_eq_true c8; clear c8; replace H := oB H; obtain ⟨t159, A9, H⟩ := H
          by_cases c10 : t159 = true
          ·subst c10
           have H' := aM (iT H); clear H; have p158 : 0 ≤ (x4_2 : Int) := yO; have q158 : x4_2 < (l0.length : Int) := yO; obtain ⟨ad158, e158, hx158_0, hx158_1, hx158_2⟩ := at_OpB HB.out HR0.out x4_2 p158 q158; cases e158; replace p158 := eq_true p158; replace q158 := eq_true q158
           go_wp2_with (first | (go_at_call 71; (with_reducible refine (ops_Change.calls ((rd_Op l0 x4_2).f0) true _ A9.out).mono ?_); rintro e w' ⟨rfl, ⟨nd, rfl⟩⟩))
           go_roundg k2
           case measure => have := HK1.out; have := HK2.out; omega
           case rel => exact ⟨(wrap64 (x4_2 + 1)), yE, H', ⟨by have := HK1.out; have := HK2.out; omega⟩, ⟨yH HO_3.out⟩, ⟨yB⟩⟩
          ·replace c10 := Bool.eq_false_iff.mpr c10
           subst c10; have H' := aM (iF H); clear H; have p158 : 0 ≤ (x4_2 : Int) := yO; have q158 : x4_2 < (l0.length : Int) := yO; obtain ⟨ad158, e158, hx158_0, hx158_1, hx158_2⟩ := at_OpB HB.out HR0.out x4_2 p158 q158; cases e158; replace p158 := eq_true p158; replace q158 := eq_true q158
           go_wp2_with (first | (go_at_call 71; (with_reducible refine (ops_Change.calls ((rd_Op l0 x4_2).f0) false _ A9.out).mono ?_); rintro e w' ⟨rfl, ⟨nd, rfl⟩⟩))
           go_meet
           case rel => exact ⟨_, (x4_2), yE, H', ⟨by have := HK1.out; have := HK2.out; first | omega | exact Nat.le_refl _⟩, ⟨yH HO_3.out⟩, ⟨yB⟩⟩
         ·rw [if_neg c8] at H
          exact absurd H (by simp)
        ·rw [if_neg c7] at H
         have c7b0 := decide_eq_false c7; clear c7
         (first | rw [c7b0] | (simp only [i64_w, i32_w]; rw [c7b0]) | skip)
         have H' := aM H; clear H
         go_wp2
         go_meet
         case rel => exact ⟨_, (x4_2), yE, H', ⟨by have := HK1.out; have := HK2.out; first | omega | exact Nat.le_refl _⟩, ⟨yH HO_3.out⟩, ⟨yB⟩⟩
     case rest =>
      clear HC6; (try clear c1); (try clear p1); (try clear q1); (try clear hx1); (try clear p2); (try clear c3); (try clear c5); (try clear c5b0); (try clear p6); (try clear c7); (try clear c7b0); (try clear c8); (try clear c8b0); (try clear c10); (try clear hx158_0); (try clear hx158_1); (try clear hx158_2); (try clear p158); (try clear p2); (try clear q158); obtain ⟨kq, x4_5, rfl, HA, HJ5, HO_3, HB⟩ := hcut; cases kq with
      | zero => exact absurd HA.out (by simp [ops_Norm.j2])
      | succ kj5 =>
       have H := HA.out; clear HA; simp only [ops_Norm.j2] at H
       by_cases c11 : 0 ≤ x4_1
       ·rw [if_pos c11] at H
        have c11b0 := eq_true c11; have c11b1 := decide_eq_true c11; clear c11
        by_cases c12 : x4_1 ≤ x4_5
        ·rw [if_pos c12] at H
         have c12b0 := eq_true c12; have c12b1 := decide_eq_true c12; clear c12
         by_cases c13 : x4_5 ≤ (l0.length : Int)
         ·rw [if_pos c13] at H
          have c13b0 := eq_true c13; have c13b1 := decide_eq_true c13; clear c13; obtain ⟨y160, hy160⟩ : ∃ y_ : List (Op), y_ = ((l0.take (x4_5 : Int).toNat).drop (x4_1 : Int).toNat) := ⟨_, rfl⟩; replace H : ((ops_Some.f kj5 y160 3).bind fun t164 => (if x3_1.length + t164.length < 4398046511104 then ((some (x3_1 ++ t164 : List (Op))).bind fun y167 => ((ops_Some.f kj5 ((l0.take (x4_5 : Int).toNat).drop (x4_1 : Int).toNat) 4).bind fun t174 => (if y167.length + t174.length < 4398046511104 then ((some (y167 ++ t174 : List (Op))).bind fun y177 => (if x4_5 = (l0.length : Int) then (some y177) else (if 0 ≤ x4_5 then (if x4_5 < (l0.length : Int) then (ops_Norm.l2 kj5 l0 y177 (wrap64 (x4_5 + 1)) ((rd_Op l0 x4_5).f0) ((rd_Op l0 x4_5).f1) ((rd_Op l0 x4_5).f2)) else (none)) else (none)))) else (none)))) else (none))) = some r := yN hy160 H
          have Ny160 := aM hy160; clear hy160; replace H := oB H; obtain ⟨t164, A14, H⟩ := H
          by_cases c15 : x3_1.length + t164.length < 4398046511104
          ·rw [if_pos c15] at H
           have LMc15 := aM c15; clear c15; replace H := oS H; obtain ⟨y167, Ny167, H⟩ := H; have c16b0 := eq_true (yO : 0 ≤ x4_1); have c17b0 := eq_true (yO : x4_1 ≤ x4_5); have c18b0 := eq_true (yO : x4_5 ≤ (l0.length : Int)); obtain ⟨y170, hy170⟩ : ∃ y_ : List (Op), y_ = ((l0.take (x4_5 : Int).toNat).drop (x4_1 : Int).toNat) := ⟨_, rfl⟩; replace H : ((ops_Some.f kj5 y170 4).bind fun t174 => (if y167.length + t174.length < 4398046511104 then ((some (y167 ++ t174 : List (Op))).bind fun y177 => (if x4_5 = (l0.length : Int) then (some y177) else (if 0 ≤ x4_5 then (if x4_5 < (l0.length : Int) then (ops_Norm.l2 kj5 l0 y177 (wrap64 (x4_5 + 1)) ((rd_Op l0 x4_5).f0) ((rd_Op l0 x4_5).f1) ((rd_Op l0 x4_5).f2)) else (none)) else (none)))) else (none))) = some r := yN hy170 H
           have Ny170 := aM hy170; clear hy170; replace H := oB H; obtain ⟨t174, A19, H⟩ := H
           by_cases c20 : y167.length + t174.length < 4398046511104
           ·rw [if_pos c20] at H
            have LMc20 := aM c20; clear c20; replace H := oS H; obtain ⟨y177, Ny177, H⟩ := H
            by_cases c21 : x4_5 = (l0.length : Int)
            ·rw [if_pos c21] at H
             have c21b0 := beq_iff_eq.mpr c21; have c21b1 := bne_eq_false_iff_eq.mpr c21; clear c21; obtain rfl := Option.some.inj H
             try go_wp2
             replace HO_3 := aM (Kd.R_drew HO_3.out); replace HB := aM (below_drew1 HB.out); have q23 : (x4_5 : Int) ≤ ((l0.length : Int) : Int) := yO; obtain ⟨i023, hi023, _, hsz23, _⟩ := info_parts info41; have hroom23 : l0.length ≤ c0 := HC0.out; have hC23 : Kd.C kOp _ A0 l0.length l0 := HR0.out; have ql23 : (x4_1 : Int) ≤ (x4_5 : Int) := yO; have q023 : (0 : Int) ≤ (x4_1 : Int) := yO; have hcut23 := cut_mid (P := Try.prog) 22 41 .i64 .i64 Try.underlying22 hi023 3 hsz23 A0 l0.length c0 x4_1 x4_5 q023 ql23 q23 hroom23; have hr23 := Kd.C_mid (lo := (x4_1 : Int).toNat) (hi := (x4_5 : Int).toNat) (c := c0) hC23 (by omega) (by omega) hroom23; obtain ⟨A23, hA23⟩ : ∃ A1, A1 = (if c0 = (x4_1 : Int).toNat then A0 else (A0 : Option Addr).map (·.add ((x4_1 : Int).toNat * 3))) := ⟨_, rfl⟩; obtain ⟨c23, hc23⟩ : ∃ c1, c1 = c0 - (x4_1 : Int).toNat := ⟨_, rfl⟩; have hy23 : y160.length = (x4_5 : Int).toNat - (x4_1 : Int).toNat := (by rw [Ny160.out, lD, lT] <;> omega); rw [show ((l0).take (x4_5 : Int).toNat).drop (x4_1 : Int).toNat = y160 from Ny160.out.symm] at hr23; replace hr23 : Kd.C kOp _ A23 y160.length y160 := (by rw [hA23]; exact hr23); rw [← hy23, ← hA23, ← hc23] at hcut23; have HR163 := aM hr23; have HC163 := aM (show y160.length ≤ c23 from by rw [hy23, hc23]; exact Nat.sub_le_sub_right (Nat.le_trans (by omega) hroom23) _); have KC23 := aM hc23; clear hr23 hC23 hroom23 hi023 hsz23 hc23; have KY23 := aM hy23; have KA23 := aM hA23; clear hy23 hA23; replace q23 := eq_true q23; have q24 : (x4_5 : Int) ≤ ((l0.length : Int) : Int) := yO; obtain ⟨i024, hi024, _, hsz24, _⟩ := info_parts info41; have hroom24 : l0.length ≤ c0 := HC0.out; have hC24 : Kd.C kOp _ A0 l0.length l0 := HR0.out; have ql24 : (x4_1 : Int) ≤ (x4_5 : Int) := yO; have q024 : (0 : Int) ≤ (x4_1 : Int) := yO; have hcut24 := cut_mid (P := Try.prog) 22 41 .i64 .i64 Try.underlying22 hi024 3 hsz24 A0 l0.length c0 x4_1 x4_5 q024 ql24 q24 hroom24; have hr24 := Kd.C_mid (lo := (x4_1 : Int).toNat) (hi := (x4_5 : Int).toNat) (c := c0) hC24 (by omega) (by omega) hroom24; obtain ⟨A24, hA24⟩ : ∃ A1, A1 = (if c0 = (x4_1 : Int).toNat then A0 else (A0 : Option Addr).map (·.add ((x4_1 : Int).toNat * 3))) := ⟨_, rfl⟩; obtain ⟨c24, hc24⟩ : ∃ c1, c1 = c0 - (x4_1 : Int).toNat := ⟨_, rfl⟩; have hy24 : y170.length = (x4_5 : Int).toNat - (x4_1 : Int).toNat := (by rw [Ny170.out, lD, lT] <;> omega); rw [show ((l0).take (x4_5 : Int).toNat).drop (x4_1 : Int).toNat = y170 from Ny170.out.symm] at hr24; replace hr24 : Kd.C kOp _ A24 y170.length y170 := (by rw [hA24]; exact hr24); rw [← hy24, ← hA24, ← hc24] at hcut24; have HR173 := aM hr24; have HC173 := aM (show y170.length ≤ c24 from by rw [hy24, hc24]; exact Nat.sub_le_sub_right (Nat.le_trans (by omega) hroom24) _); have KC24 := aM hc24; clear hr24 hC24 hroom24 hi024 hsz24 hc24; have KY24 := aM hy24; have KA24 := aM hA24; clear hy24 hA24; replace q24 := eq_true q24
             refine start_ (n := 14) (S := fun w' => True) (ds := []) #[false, false, false, false, false, false, false, false, false, false, false, false, false, false] yK rfl rfl trivial (fun hHeld => ?_); refine with_tabW ops_Norm.tab9 ops_Norm.bits9 (fun HT_ HW_ => ?_)
             generalize wc.drew = w22 at HO_3 HB HR163 HR173 hHeld ⊢
             refine pure_ (i := 0) (N := some 29) (v := ?_) (a' := ?_) #[true, false, false, false, false, false, false, false, false, false, false, false, false, false] rfl rfl (any_of HT_.out yK) yI (Or.inl ⟨by rfl, ?_⟩) ?_ ?_
             rotate_left; exact yP1; rotate_left; exact yP2
             refine pure_ (i := 1) (N := some 30) (v := ?_) (a' := ?_) #[true, true, false, false, false, false, false, false, false, false, false, false, false, false] rfl rfl (any_of HT_.out yK) yI (Or.inl ⟨by rfl, ?_⟩) ?_ ?_
             rotate_left; exact yP1; rotate_left; exact yP2
             refine pure_ (i := 2) (N := some 31) (v := ?_) (a' := ?_) #[true, true, true, false, false, false, false, false, false, false, false, false, false, false] rfl rfl (any_of HT_.out yK) yI (Or.inl ⟨by rfl, ?_⟩) ?_ ?_
             rotate_left; exact yP1; rotate_left; exact yP2
             refine pure_ (i := 3) (N := some 32) (v := ?_) (a' := ?_) #[true, true, true, true, false, false, false, false, false, false, false, false, false, false] rfl rfl (any_of HT_.out yK) yI (Or.inl ⟨by rfl, ?_⟩) ?_ ?_
             rotate_left; exact yP1; rotate_left; exact yP2
             refine pure_ (i := 4) (N := some 33) (v := ?_) (a' := ?_) #[true, true, true, true, true, false, false, false, false, false, false, false, false, false] rfl rfl (any_of HT_.out yK) yI (Or.inl ⟨by rfl, ?_⟩) ?_ ?_
             rotate_left; exact yP1; rotate_left; exact yP2
             refine pure_ (i := 7) (N := some 36) (v := ?_) (a' := ?_) #[true, true, true, true, true, false, false, true, false, false, false, false, false, false] rfl rfl (any_of HT_.out yK) yI (Or.inl ⟨by rfl, ?_⟩) ?_ ?_
             rotate_left; exact yP1; rotate_left; exact yP2
             refine pure_ (i := 8) (N := some 37) (v := ?_) (a' := ?_) #[true, true, true, true, true, false, false, true, true, false, false, false, false, false] rfl rfl (any_of HT_.out yK) yI (Or.inl ⟨by rfl, ?_⟩) ?_ ?_
             rotate_left; exact yP1; rotate_left; exact yP2
             refine pure_ (i := 9) (N := some 38) (v := ?_) (a' := ?_) #[true, true, true, true, true, false, false, true, true, true, false, false, false, false] rfl rfl (any_of HT_.out yK) yI (Or.inl ⟨by rfl, ?_⟩) ?_ ?_
             rotate_left; exact yP1; rotate_left; exact yP2
             refine pure_ (i := 10) (N := some 39) (v := ?_) (a' := ?_) #[true, true, true, true, true, false, false, true, true, true, true, false, false, false] rfl rfl (any_of HT_.out yK) yI (Or.inl ⟨by rfl, ?_⟩) ?_ ?_
             rotate_left; exact yP1; rotate_left; exact yP2
             refine one_ (i := 5) (N := some 34) #[true, true, true, true, true, true, false, true, true, true, true, false, false, false] rfl rfl (one_of HT_.out yK) (by decide) (fun K hK => ?_)
             refine goes_ Try.func72 yK rfl #[.slice A23 y160.length c23, .int .i64 3] (by rfl) rfl rfl yG ?_
             with_reducible refine (ops_Some.calls kj5 _ _ y160 3 t164 _ ?side1 ?side2 A14.out).mono ?_
             (case side1 => repeat (first | exact (Kd.C_below HR163.out HB.out) | (with_reducible first | refine Kd.C_alloc ?_ _ | refine Kd.C_drewN ?_ _ | refine Kd.C_drew ?_)))
             (case side2 => exact HC163.out)
             rintro e w25 ⟨v165, rfl, ho0, hb⟩
             refine ⟨_, rfl, ?_⟩
             have HO166 := aM (Kd.R_lower (Kd.R_new' ho0 (Kd.R_lt (yH HO_3.out))) yW); replace HO_3 := aM (Kd.R_elder' (yH HO_3.out) (Kd.R_base ho0) hb); replace HB := aM (below_step yB hb)
             (try clear hb)
             (try clear hb2)
             (try clear hk)
             (try clear hi)
             (try clear ho0)
             obtain ⟨Ao27, co27, eo27⟩ := Kd.R_slice HO166.out
             (first | subst eo27 | (injection eo27 with f1_ f2_ f3_; have f4_ := f1_.symm; have f5_ := f3_.symm; clear f1_ f2_ f3_; subst f4_; subst f5_))
             refine hK.out _ _ trivial (fun hHeld => ?_)
             clear hK K
             refine norm_ (a' := ?_) ?_ ?_
             rotate_left
             ·show Act.put _ (some 34) _ = _
              simp only [Act.put, sI, sZ, sS, i64_w, i32_w]
              rfl
             refine one_ (i := 6) (N := some 35) #[true, true, true, true, true, true, true, true, true, true, true, false, false, false] rfl rfl (one_of HT_.out yK) (by decide) (fun K hK => ?_)
             refine Kd.R_append_rows_step kOp (w0 := w) w.heap.size (by rfl) (.tmp 29) (.tmp 34) 22 41 (.agg #[(.int .i64 0), (.int .i64 0), (.string ⟨#[]⟩)]) 32 rfl Try.underlying22 info41 rfl (by decide) (by omega) u3 x3_1 t164 _ _ _ (fun k_ => some k_ ≠ (.slice Ao27 t164.length co27 : Value).ownBlock) (fun _ => False) rfl rfl ?aO ?aR (fun _ _ h => h) (fun _ h => h.elim) ?aF ?aB ?aS ?aL ?_
             (case aR => repeat (first | exact (Kd.R_reads' HO166.out).2.2 | (with_reducible first | refine Kd.C_alloc ?_ _ | refine Kd.C_drewN ?_ _ | refine Kd.C_drew ?_)))
             (case aB => exact yB)
             (case aF => exact (fun k_ hk => Kd.fresh' (Kd.R_lt (yH HO166.out)) k_ hk))
             (case aO => exact (by (with_reducible repeat (first | apply Kd.R_alloc | apply Kd.R_drewN | apply Kd.R_drew)); exact Kd.R_mono HO_3.out (fun _ hk => hk.2)))
             (case aS => exact yW)
             (case aL => have := LMc15.out; omega)
             intro v168 w26 ho hb hg hat
             rw [← Ny167.out] at ho; have n0_ := aM (Kd.R_after (ok := (fun _ => True)) (yH HO166.out) hg hat); have n1_ := aM (hb); have n2_ := aM (ho); clear HO166; clear HB; clear HO_3; have HO166 := n0_; have HB := n1_; have HO169 := n2_; clear n0_ n1_ n2_; clear ho hb hg hat
             refine hK.out _ _ trivial (fun hHeld => ?_)
             clear hK K
             refine norm_ (a' := ?_) ?_ ?_
             rotate_left
             ·show Act.put _ (some 35) _ = _
              simp only [Act.put, sI, sZ, sS, i64_w, i32_w]
              rfl
             refine one_ (i := 11) (N := some 40) #[true, true, true, true, true, true, true, true, true, true, true, true, false, false] rfl rfl (one_of HT_.out yK) (by decide) (fun K hK => ?_)
             refine goes_ Try.func72 yK rfl #[.slice A23 y160.length c23, .int .i64 4] (by rfl) rfl rfl yG ?_
             refine calls_of_args (args' := #[.slice A24 y170.length c24, .int .i64 4]) (by rw [show A24 = A23 from KA24.out.trans KA23.out.symm, show c24 = c23 from KC24.out.trans KC23.out.symm, show y170 = y160 from Ny170.out.trans Ny160.out.symm]) ?_
             with_reducible refine (ops_Some.calls kj5 _ _ y170 4 t174 _ ?side1 ?side2 A19.out).mono ?_
             (case side1 => repeat (first | exact (Kd.C_below HR173.out HB.out) | (with_reducible first | refine Kd.C_alloc ?_ _ | refine Kd.C_drewN ?_ _ | refine Kd.C_drew ?_)))
             (case side2 => exact HC173.out)
             rintro e w28 ⟨v175, rfl, ho0, hb⟩
             refine ⟨_, rfl, ?_⟩
             have HO176 := aM (Kd.R_lower (Kd.R_new' (Kd.R_new' ho0 (Kd.R_lt (yH HO166.out))) (Kd.R_lt (yH HO169.out))) yW); replace HO166 := aM (Kd.R_elder' (yH HO166.out) (Kd.R_base ho0) hb); replace HO169 := aM (Kd.R_elder' (yH HO169.out) (Kd.R_base ho0) hb); replace HB := aM (below_step yB hb)
             (try clear hb)
             (try clear hb2)
             (try clear hk)
             (try clear hi)
             (try clear ho0)
             obtain ⟨Ao30, co30, eo30⟩ := Kd.R_slice HO176.out
             (first | subst eo30 | (injection eo30 with f1_ f2_ f3_; have f4_ := f1_.symm; have f5_ := f3_.symm; clear f1_ f2_ f3_; subst f4_; subst f5_))
             refine hK.out _ _ trivial (fun hHeld => ?_)
             clear hK K
             refine norm_ (a' := ?_) ?_ ?_
             rotate_left
             ·show Act.put _ (some 40) _ = _
              simp only [Act.put, sI, sZ, sS, i64_w, i32_w]
              rfl
             refine one_ (i := 12) (N := some 41) #[true, true, true, true, true, true, true, true, true, true, true, true, true, false] rfl rfl (one_of HT_.out yK) (by decide) (fun K hK => ?_)
             refine Kd.R_append_rows_step kOp (w0 := w) w.heap.size (by rfl) (.tmp 35) (.tmp 40) 22 41 (.agg #[(.int .i64 0), (.int .i64 0), (.string ⟨#[]⟩)]) 32 rfl Try.underlying22 info41 rfl (by decide) (by omega) v168 y167 t174 _ _ _ (fun k_ => some k_ ≠ (.slice Ao27 t164.length co27 : Value).ownBlock ∧ some k_ ≠ (.slice Ao30 t174.length co30 : Value).ownBlock) (fun _ => False) rfl rfl ?aO ?aR (fun _ _ h => h) (fun _ h => h.elim) ?aF ?aB ?aS ?aL ?_
             (case aR => repeat (first | exact (Kd.R_reads' HO176.out).2.2 | (with_reducible first | refine Kd.C_alloc ?_ _ | refine Kd.C_drewN ?_ _ | refine Kd.C_drew ?_)))
             (case aB => exact yB)
             (case aF => exact (fun k_ hk => ⟨Kd.fresh' (Kd.R_lt (yH HO166.out)) k_ hk, Kd.fresh' (Kd.R_lt (yH HO176.out)) k_ hk⟩))
             (case aO => exact (yH HO169.out))
             (case aS => exact yW)
             (case aL => have := LMc20.out; omega)
             intro v178 w29 ho hb hg hat
             rw [← Ny177.out] at ho; have n0_ := aM (Kd.R_after (ok := (fun k_ => some k_ ≠ (.slice Ao30 t174.length co30 : Value).ownBlock)) (by (with_reducible repeat (first | apply Kd.R_alloc | apply Kd.R_drewN | apply Kd.R_drew)); exact Kd.R_mono HO166.out (fun _ hk => ⟨hk.2, hk.1.2⟩)) hg hat); have n1_ := aM (Kd.R_after (ok := (fun k_ => some k_ ≠ (.slice Ao27 t164.length co27 : Value).ownBlock)) (by (with_reducible repeat (first | apply Kd.R_alloc | apply Kd.R_drewN | apply Kd.R_drew)); exact Kd.R_mono HO176.out (fun _ hk => ⟨hk.1.2, hk.2⟩)) hg hat); have n2_ := aM (hb); have n3_ := aM (ho); clear HO166; clear HO176; clear HB; clear HO169; have HO166 := n0_; have HO176 := n1_; have HB := n2_; have HO179 := n3_; clear n0_ n1_ n2_ n3_; clear ho hb hg hat
             refine hK.out _ _ trivial (fun hHeld => ?_)
             clear hK K
             refine norm_ (a' := ?_) ?_ ?_
             rotate_left
             ·show Act.put _ (some 41) _ = _
              simp only [Act.put, sI, sZ, sS, i64_w, i32_w]
              rfl
             refine pure_ (i := 13) (N := some 3) (v := ?_) (a' := ?_) #[true, true, true, true, true, true, true, true, true, true, true, true, true, true] rfl rfl (any_of HT_.out yK) yI (Or.inl ⟨by rfl, ?_⟩) ?_ ?_
             rotate_left; exact yP1; rotate_left; exact yP2
             refine done_ (done_of HT_.out yK) ?_
             try go_wp2
             go_ret
             exact ⟨_, by first | rfl | (simp [errW_none, errW_some] <;> rfl) | (simp [*, errW_none, errW_some] <;> rfl), by (with_reducible repeat (first | apply Kd.R_alloc | apply Kd.R_drewN | apply Kd.R_drew)); exact Kd.R_mono HO179.out (fun _ hk => trivial), yB⟩
            ·rw [if_neg c21] at H
             have c21b0 := beq_eq_false_iff_ne.mpr c21; have c21b1 := bne_iff_ne.mpr c21
             by_cases c31 : 0 ≤ x4_5
             ·rw [if_pos c31] at H
              have c31b0 := decide_eq_true c31; clear c31
              by_cases c32 : x4_5 < (l0.length : Int)
              ·rw [if_pos c32] at H
               have c32b0 := decide_eq_true c32; clear c32; have H' := aM H; clear H
               try go_wp2
               replace HO_3 := aM (Kd.R_drew HO_3.out); replace HB := aM (below_drew1 HB.out); have q34 : (x4_5 : Int) ≤ ((l0.length : Int) : Int) := yO; obtain ⟨i034, hi034, _, hsz34, _⟩ := info_parts info41; have hroom34 : l0.length ≤ c0 := HC0.out; have hC34 : Kd.C kOp _ A0 l0.length l0 := HR0.out; have ql34 : (x4_1 : Int) ≤ (x4_5 : Int) := yO; have q034 : (0 : Int) ≤ (x4_1 : Int) := yO; have hcut34 := cut_mid (P := Try.prog) 22 41 .i64 .i64 Try.underlying22 hi034 3 hsz34 A0 l0.length c0 x4_1 x4_5 q034 ql34 q34 hroom34; have hr34 := Kd.C_mid (lo := (x4_1 : Int).toNat) (hi := (x4_5 : Int).toNat) (c := c0) hC34 (by omega) (by omega) hroom34; obtain ⟨A34, hA34⟩ : ∃ A1, A1 = (if c0 = (x4_1 : Int).toNat then A0 else (A0 : Option Addr).map (·.add ((x4_1 : Int).toNat * 3))) := ⟨_, rfl⟩; obtain ⟨c34, hc34⟩ : ∃ c1, c1 = c0 - (x4_1 : Int).toNat := ⟨_, rfl⟩; have hy34 : y160.length = (x4_5 : Int).toNat - (x4_1 : Int).toNat := (by rw [Ny160.out, lD, lT] <;> omega); rw [show ((l0).take (x4_5 : Int).toNat).drop (x4_1 : Int).toNat = y160 from Ny160.out.symm] at hr34; replace hr34 : Kd.C kOp _ A34 y160.length y160 := (by rw [hA34]; exact hr34); rw [← hy34, ← hA34, ← hc34] at hcut34; have HR163 := aM hr34; have HC163 := aM (show y160.length ≤ c34 from by rw [hy34, hc34]; exact Nat.sub_le_sub_right (Nat.le_trans (by omega) hroom34) _); have KC34 := aM hc34; clear hr34 hC34 hroom34 hi034 hsz34 hc34; have KY34 := aM hy34; have KA34 := aM hA34; clear hy34 hA34; replace q34 := eq_true q34; have q35 : (x4_5 : Int) ≤ ((l0.length : Int) : Int) := yO; obtain ⟨i035, hi035, _, hsz35, _⟩ := info_parts info41; have hroom35 : l0.length ≤ c0 := HC0.out; have hC35 : Kd.C kOp _ A0 l0.length l0 := HR0.out; have ql35 : (x4_1 : Int) ≤ (x4_5 : Int) := yO; have q035 : (0 : Int) ≤ (x4_1 : Int) := yO; have hcut35 := cut_mid (P := Try.prog) 22 41 .i64 .i64 Try.underlying22 hi035 3 hsz35 A0 l0.length c0 x4_1 x4_5 q035 ql35 q35 hroom35; have hr35 := Kd.C_mid (lo := (x4_1 : Int).toNat) (hi := (x4_5 : Int).toNat) (c := c0) hC35 (by omega) (by omega) hroom35; obtain ⟨A35, hA35⟩ : ∃ A1, A1 = (if c0 = (x4_1 : Int).toNat then A0 else (A0 : Option Addr).map (·.add ((x4_1 : Int).toNat * 3))) := ⟨_, rfl⟩; obtain ⟨c35, hc35⟩ : ∃ c1, c1 = c0 - (x4_1 : Int).toNat := ⟨_, rfl⟩; have hy35 : y170.length = (x4_5 : Int).toNat - (x4_1 : Int).toNat := (by rw [Ny170.out, lD, lT] <;> omega); rw [show ((l0).take (x4_5 : Int).toNat).drop (x4_1 : Int).toNat = y170 from Ny170.out.symm] at hr35; replace hr35 : Kd.C kOp _ A35 y170.length y170 := (by rw [hA35]; exact hr35); rw [← hy35, ← hA35, ← hc35] at hcut35; have HR173 := aM hr35; have HC173 := aM (show y170.length ≤ c35 from by rw [hy35, hc35]; exact Nat.sub_le_sub_right (Nat.le_trans (by omega) hroom35) _); have KC35 := aM hc35; clear hr35 hC35 hroom35 hi035 hsz35 hc35; have KY35 := aM hy35; have KA35 := aM hA35; clear hy35 hA35; replace q35 := eq_true q35
               refine start_ (n := 14) (S := fun w' => True) (ds := []) #[false, false, false, false, false, false, false, false, false, false, false, false, false, false] yK rfl rfl trivial (fun hHeld => ?_); refine with_tabW ops_Norm.tab9 ops_Norm.bits9 (fun HT_ HW_ => ?_)
               generalize wc.drew = w33 at HO_3 HB HR163 HR173 hHeld ⊢
               refine pure_ (i := 0) (N := some 29) (v := ?_) (a' := ?_) #[true, false, false, false, false, false, false, false, false, false, false, false, false, false] rfl rfl (any_of HT_.out yK) yI (Or.inl ⟨by rfl, ?_⟩) ?_ ?_
               rotate_left; exact yP1; rotate_left; exact yP2
               refine pure_ (i := 1) (N := some 30) (v := ?_) (a' := ?_) #[true, true, false, false, false, false, false, false, false, false, false, false, false, false] rfl rfl (any_of HT_.out yK) yI (Or.inl ⟨by rfl, ?_⟩) ?_ ?_
               rotate_left; exact yP1; rotate_left; exact yP2
               refine pure_ (i := 2) (N := some 31) (v := ?_) (a' := ?_) #[true, true, true, false, false, false, false, false, false, false, false, false, false, false] rfl rfl (any_of HT_.out yK) yI (Or.inl ⟨by rfl, ?_⟩) ?_ ?_
               rotate_left; exact yP1; rotate_left; exact yP2
               refine pure_ (i := 3) (N := some 32) (v := ?_) (a' := ?_) #[true, true, true, true, false, false, false, false, false, false, false, false, false, false] rfl rfl (any_of HT_.out yK) yI (Or.inl ⟨by rfl, ?_⟩) ?_ ?_
               rotate_left; exact yP1; rotate_left; exact yP2
               refine pure_ (i := 4) (N := some 33) (v := ?_) (a' := ?_) #[true, true, true, true, true, false, false, false, false, false, false, false, false, false] rfl rfl (any_of HT_.out yK) yI (Or.inl ⟨by rfl, ?_⟩) ?_ ?_
               rotate_left; exact yP1; rotate_left; exact yP2
               refine pure_ (i := 7) (N := some 36) (v := ?_) (a' := ?_) #[true, true, true, true, true, false, false, true, false, false, false, false, false, false] rfl rfl (any_of HT_.out yK) yI (Or.inl ⟨by rfl, ?_⟩) ?_ ?_
               rotate_left; exact yP1; rotate_left; exact yP2
               refine pure_ (i := 8) (N := some 37) (v := ?_) (a' := ?_) #[true, true, true, true, true, false, false, true, true, false, false, false, false, false] rfl rfl (any_of HT_.out yK) yI (Or.inl ⟨by rfl, ?_⟩) ?_ ?_
               rotate_left; exact yP1; rotate_left; exact yP2
               refine pure_ (i := 9) (N := some 38) (v := ?_) (a' := ?_) #[true, true, true, true, true, false, false, true, true, true, false, false, false, false] rfl rfl (any_of HT_.out yK) yI (Or.inl ⟨by rfl, ?_⟩) ?_ ?_
               rotate_left; exact yP1; rotate_left; exact yP2
               refine pure_ (i := 10) (N := some 39) (v := ?_) (a' := ?_) #[true, true, true, true, true, false, false, true, true, true, true, false, false, false] rfl rfl (any_of HT_.out yK) yI (Or.inl ⟨by rfl, ?_⟩) ?_ ?_
               rotate_left; exact yP1; rotate_left; exact yP2
               refine one_ (i := 5) (N := some 34) #[true, true, true, true, true, true, false, true, true, true, true, false, false, false] rfl rfl (one_of HT_.out yK) (by decide) (fun K hK => ?_)
               refine goes_ Try.func72 yK rfl #[.slice A34 y160.length c34, .int .i64 3] (by rfl) rfl rfl yG ?_
               with_reducible refine (ops_Some.calls kj5 _ _ y160 3 t164 _ ?side1 ?side2 A14.out).mono ?_
               (case side1 => repeat (first | exact (Kd.C_below HR163.out HB.out) | (with_reducible first | refine Kd.C_alloc ?_ _ | refine Kd.C_drewN ?_ _ | refine Kd.C_drew ?_)))
               (case side2 => exact HC163.out)
               rintro e w36 ⟨v165, rfl, ho0, hb⟩
               refine ⟨_, rfl, ?_⟩
               have HO166 := aM (Kd.R_lower (Kd.R_new' ho0 (Kd.R_lt (yH HO_3.out))) yW); replace HO_3 := aM (Kd.R_elder' (yH HO_3.out) (Kd.R_base ho0) hb); replace HB := aM (below_step yB hb)
               (try clear hb)
               (try clear hb2)
               (try clear hk)
               (try clear hi)
               (try clear ho0)
               obtain ⟨Ao38, co38, eo38⟩ := Kd.R_slice HO166.out
               (first | subst eo38 | (injection eo38 with f1_ f2_ f3_; have f4_ := f1_.symm; have f5_ := f3_.symm; clear f1_ f2_ f3_; subst f4_; subst f5_))
               refine hK.out _ _ trivial (fun hHeld => ?_)
               clear hK K
               refine norm_ (a' := ?_) ?_ ?_
               rotate_left
               ·show Act.put _ (some 34) _ = _
                simp only [Act.put, sI, sZ, sS, i64_w, i32_w]
                rfl
               refine one_ (i := 6) (N := some 35) #[true, true, true, true, true, true, true, true, true, true, true, false, false, false] rfl rfl (one_of HT_.out yK) (by decide) (fun K hK => ?_)
               refine Kd.R_append_rows_step kOp (w0 := w) w.heap.size (by rfl) (.tmp 29) (.tmp 34) 22 41 (.agg #[(.int .i64 0), (.int .i64 0), (.string ⟨#[]⟩)]) 32 rfl Try.underlying22 info41 rfl (by decide) (by omega) u3 x3_1 t164 _ _ _ (fun k_ => some k_ ≠ (.slice Ao38 t164.length co38 : Value).ownBlock) (fun _ => False) rfl rfl ?aO ?aR (fun _ _ h => h) (fun _ h => h.elim) ?aF ?aB ?aS ?aL ?_
               (case aR => repeat (first | exact (Kd.R_reads' HO166.out).2.2 | (with_reducible first | refine Kd.C_alloc ?_ _ | refine Kd.C_drewN ?_ _ | refine Kd.C_drew ?_)))
               (case aB => exact yB)
               (case aF => exact (fun k_ hk => Kd.fresh' (Kd.R_lt (yH HO166.out)) k_ hk))
               (case aO => exact (by (with_reducible repeat (first | apply Kd.R_alloc | apply Kd.R_drewN | apply Kd.R_drew)); exact Kd.R_mono HO_3.out (fun _ hk => hk.2)))
               (case aS => exact yW)
               (case aL => have := LMc15.out; omega)
               intro v168 w37 ho hb hg hat
               rw [← Ny167.out] at ho; have n0_ := aM (Kd.R_after (ok := (fun _ => True)) (yH HO166.out) hg hat); have n1_ := aM (hb); have n2_ := aM (ho); clear HO166; clear HB; clear HO_3; have HO166 := n0_; have HB := n1_; have HO169 := n2_; clear n0_ n1_ n2_; clear ho hb hg hat
               refine hK.out _ _ trivial (fun hHeld => ?_)
               clear hK K
               refine norm_ (a' := ?_) ?_ ?_
               rotate_left
               ·show Act.put _ (some 35) _ = _
                simp only [Act.put, sI, sZ, sS, i64_w, i32_w]
                rfl
               refine one_ (i := 11) (N := some 40) #[true, true, true, true, true, true, true, true, true, true, true, true, false, false] rfl rfl (one_of HT_.out yK) (by decide) (fun K hK => ?_)
               refine goes_ Try.func72 yK rfl #[.slice A34 y160.length c34, .int .i64 4] (by rfl) rfl rfl yG ?_
               refine calls_of_args (args' := #[.slice A35 y170.length c35, .int .i64 4]) (by rw [show A35 = A34 from KA35.out.trans KA34.out.symm, show c35 = c34 from KC35.out.trans KC34.out.symm, show y170 = y160 from Ny170.out.trans Ny160.out.symm]) ?_
               with_reducible refine (ops_Some.calls kj5 _ _ y170 4 t174 _ ?side1 ?side2 A19.out).mono ?_
               (case side1 => repeat (first | exact (Kd.C_below HR173.out HB.out) | (with_reducible first | refine Kd.C_alloc ?_ _ | refine Kd.C_drewN ?_ _ | refine Kd.C_drew ?_)))
               (case side2 => exact HC173.out)
               rintro e w39 ⟨v175, rfl, ho0, hb⟩
               refine ⟨_, rfl, ?_⟩
               have HO176 := aM (Kd.R_lower (Kd.R_new' (Kd.R_new' ho0 (Kd.R_lt (yH HO166.out))) (Kd.R_lt (yH HO169.out))) yW); replace HO166 := aM (Kd.R_elder' (yH HO166.out) (Kd.R_base ho0) hb); replace HO169 := aM (Kd.R_elder' (yH HO169.out) (Kd.R_base ho0) hb); replace HB := aM (below_step yB hb)
               (try clear hb)
               (try clear hb2)
               (try clear hk)
               (try clear hi)
               (try clear ho0)
               obtain ⟨Ao41, co41, eo41⟩ := Kd.R_slice HO176.out
               (first | subst eo41 | (injection eo41 with f1_ f2_ f3_; have f4_ := f1_.symm; have f5_ := f3_.symm; clear f1_ f2_ f3_; subst f4_; subst f5_))
               refine hK.out _ _ trivial (fun hHeld => ?_)
               clear hK K
               refine norm_ (a' := ?_) ?_ ?_
               rotate_left
               ·show Act.put _ (some 40) _ = _
                simp only [Act.put, sI, sZ, sS, i64_w, i32_w]
                rfl
               refine one_ (i := 12) (N := some 41) #[true, true, true, true, true, true, true, true, true, true, true, true, true, false] rfl rfl (one_of HT_.out yK) (by decide) (fun K hK => ?_)
               refine Kd.R_append_rows_step kOp (w0 := w) w.heap.size (by rfl) (.tmp 35) (.tmp 40) 22 41 (.agg #[(.int .i64 0), (.int .i64 0), (.string ⟨#[]⟩)]) 32 rfl Try.underlying22 info41 rfl (by decide) (by omega) v168 y167 t174 _ _ _ (fun k_ => some k_ ≠ (.slice Ao38 t164.length co38 : Value).ownBlock ∧ some k_ ≠ (.slice Ao41 t174.length co41 : Value).ownBlock) (fun _ => False) rfl rfl ?aO ?aR (fun _ _ h => h) (fun _ h => h.elim) ?aF ?aB ?aS ?aL ?_
               (case aR => repeat (first | exact (Kd.R_reads' HO176.out).2.2 | (with_reducible first | refine Kd.C_alloc ?_ _ | refine Kd.C_drewN ?_ _ | refine Kd.C_drew ?_)))
               (case aB => exact yB)
               (case aF => exact (fun k_ hk => ⟨Kd.fresh' (Kd.R_lt (yH HO166.out)) k_ hk, Kd.fresh' (Kd.R_lt (yH HO176.out)) k_ hk⟩))
               (case aO => exact (yH HO169.out))
               (case aS => exact yW)
               (case aL => have := LMc20.out; omega)
               intro v178 w40 ho hb hg hat
               rw [← Ny177.out] at ho; have n0_ := aM (Kd.R_after (ok := (fun k_ => some k_ ≠ (.slice Ao41 t174.length co41 : Value).ownBlock)) (by (with_reducible repeat (first | apply Kd.R_alloc | apply Kd.R_drewN | apply Kd.R_drew)); exact Kd.R_mono HO166.out (fun _ hk => ⟨hk.2, hk.1.2⟩)) hg hat); have n1_ := aM (Kd.R_after (ok := (fun k_ => some k_ ≠ (.slice Ao38 t164.length co38 : Value).ownBlock)) (by (with_reducible repeat (first | apply Kd.R_alloc | apply Kd.R_drewN | apply Kd.R_drew)); exact Kd.R_mono HO176.out (fun _ hk => ⟨hk.1.2, hk.2⟩)) hg hat); have n2_ := aM (hb); have n3_ := aM (ho); clear HO166; clear HO176; clear HB; clear HO169; have HO166 := n0_; have HO176 := n1_; have HB := n2_; have HO179 := n3_; clear n0_ n1_ n2_ n3_; clear ho hb hg hat
               refine hK.out _ _ trivial (fun hHeld => ?_)
               clear hK K
               refine norm_ (a' := ?_) ?_ ?_
               rotate_left
               ·show Act.put _ (some 41) _ = _
                simp only [Act.put, sI, sZ, sS, i64_w, i32_w]
                rfl
               refine pure_ (i := 13) (N := some 3) (v := ?_) (a' := ?_) #[true, true, true, true, true, true, true, true, true, true, true, true, true, true] rfl rfl (any_of HT_.out yK) yI (Or.inl ⟨by rfl, ?_⟩) ?_ ?_
               rotate_left; exact yP1; rotate_left; exact yP2
               refine done_ (done_of HT_.out yK) ?_
               have p180 : 0 ≤ (x4_5 : Int) := yO; have q180 : x4_5 < (l0.length : Int) := yO; obtain ⟨ad180, e180, hx180_0, hx180_1, hx180_2⟩ := at_OpB HB.out HR0.out x4_5 p180 q180; cases e180; replace p180 := eq_true p180; replace q180 := eq_true q180
               try go_wp2_with (first | ((with_reducible refine gate_dst (N := 6) rfl ?_); (try (refine gate_guard (by rfl) ?_; dsimp only)); refine box_event yR (N := 6) yR (cs := #[.int .i64 0, .int .i64 0, .string (⟨#[]⟩ : ByteArray)]) (t := 41) yQ ?_; intro gb181 hg w42 hbox hb; replace HO166 := aM (Kd.R_below (Kd.R_elderB (yH HO166.out) gb181 (Nat.le_of_eq hg.symm)) hb); replace HO176 := aM (Kd.R_below (Kd.R_elderB (yH HO176.out) gb181 (Nat.le_of_eq hg.symm)) hb); replace HO179 := aM (Kd.R_below (Kd.R_elderB (yH HO179.out) gb181 (Nat.le_of_eq hg.symm)) hb); have BK181 := aM (hbox); have GW181 := aM ((yS : w.heap.size ≤ gb181)); have GE181 := aM ((yS : w.heap.size ≤ gb181)); replace HB := aM (below_step yB hb); clear hb hbox hg; obtain ⟨hcz43_0, hcz43_1, hcz43_2, hfz43_0, hfz43_1, hfz43_2⟩ := blk3 BK181.out))
               go_loopg [4] kj5 (fun kq v4 w' => ∃ (x4_3 : Int) (x182001_3 : Int), v4 = .int .i64 x4_3 ∧ Aside0 (ops_Norm.l2 kq l0 y177 x4_3 ((rd_Op l0 x4_5).f0) x182001_3 ((rd_Op l0 x4_5).f2) = some r) ∧ Aside0 (kq ≤ kj5) ∧ Aside0 (Kd.R kOp 41 w' w.heap.size (fun k_ => k_ ≠ gb181) v178 y177) ∧ Aside0 (w'.heap[gb181]? = some (.cells #[.int .i64 ((rd_Op l0 x4_5).f0), .int .i64 x182001_3, .string ((rd_Op l0 x4_5).f2)] 41 (0, 0))) ∧ Aside0 (Below w.heap.size w w'))
               case atStart => exact ⟨(wrap64 (x4_5 + 1)), ((rd_Op l0 x4_5).f1), yE, H', ⟨Nat.le_refl _⟩, ⟨by (with_reducible repeat (first | apply Kd.R_alloc | apply Kd.R_drewN | apply Kd.R_drew)); exact Kd.R_mono (Kd.R_far (p := ⟨gb181, 2, none⟩) (Kd.R_far (p := ⟨gb181, 1, none⟩) (Kd.R_far (p := ⟨gb181, 0, none⟩) (Kd.R_mono HO179.out (fun k_ hk => (⟨hk, hk.2⟩ : _ ∧ k_ ≠ gb181))) (fun _ hk => hk.2) (.int .i64 ((rd_Op l0 x4_5).f0))) (fun _ hk => hk.2) (.int .i64 ((rd_Op l0 x4_5).f1))) (fun _ hk => hk.2) (.string ((rd_Op l0 x4_5).f2))) (fun _ hk => hk.1.2)⟩, ⟨by (with_reducible repeat (first | refine kN ?_ _ | refine kD ?_ | refine kA ?_ _)); refine blk_put (cs := #[.int .i64 ((rd_Op l0 x4_5).f0), .int .i64 ((rd_Op l0 x4_5).f1), .string (⟨#[]⟩ : ByteArray)]) ?_ 2 _ rfl; (with_reducible repeat (first | refine kN ?_ _ | refine kD ?_ | refine kA ?_ _)); refine blk_put (cs := #[.int .i64 ((rd_Op l0 x4_5).f0), .int .i64 0, .string (⟨#[]⟩ : ByteArray)]) ?_ 1 _ rfl; (with_reducible repeat (first | refine kN ?_ _ | refine kD ?_ | refine kA ?_ _)); refine blk_put (cs := #[.int .i64 0, .int .i64 0, .string (⟨#[]⟩ : ByteArray)]) ?_ 0 _ rfl; (with_reducible repeat (first | refine kN ?_ _ | refine kD ?_ | refine kA ?_ _)); exact BK181.out⟩, ⟨yBg GE181.out⟩⟩
               case round =>
                clear H'; (try clear c1); (try clear p1); (try clear q1); (try clear hx1); (try clear c2); (try clear p2); (try clear q2); (try clear c3); (try clear q3); (try clear p6); (try clear c7); (try clear c11); (try clear c11b0); (try clear c11b1); (try clear c12); (try clear c12b0); (try clear c12b1); (try clear c13); (try clear c13b0); (try clear c13b1); (try clear c15); (try clear c16); (try clear c16b0); (try clear c17); (try clear c17b0); (try clear c18); (try clear c18b0); (try clear p18); (try clear q18); (try clear hx18); (try clear c20); (try clear c21); (try clear c21b0); (try clear c21b1); (try clear c23); (try clear q23); (try clear c24); (try clear q24); (try clear c31); (try clear c31b0); (try clear c32); (try clear c32b0); (try clear c34); (try clear q34); (try clear c35); (try clear q35); (try clear hcz43_0); (try clear hcz43_1); (try clear hcz43_2); (try clear hfz43_0); (try clear hfz43_1); (try clear hfz43_2); (try clear hx180_0); (try clear hx180_1); (try clear hx180_2); (try clear p180); (try clear q023); (try clear q024); (try clear q034); (try clear q035); (try clear q180); (try clear q23); (try clear q24); (try clear q34); (try clear q35); obtain ⟨x4_3, x182001_3, rfl, HA, HK3, HO_3, BK181, HB⟩ := hrel; cases gk with
                | zero => exact absurd HA.out (by simp [ops_Norm.l2])
                | succ k3 =>
                 have H := HA.out; clear HA; simp only [ops_Norm.l2] at H
                 by_cases c44 : ((rd_Op l0 x4_5).f0) = 1
                 ·rw [if_pos c44] at H
                  have c44b0 := beq_iff_eq.mpr c44; have c44b1 := bne_eq_false_iff_eq.mpr c44; clear c44
                  by_cases c45 : x4_3 < (l0.length : Int)
                  ·rw [if_pos c45] at H
                   have c45b0 := decide_eq_true c45; clear c45
                   by_cases c46 : 0 ≤ x4_3
                   ·rw [if_pos c46] at H
                    have c46b0 := decide_eq_true c46; clear c46
                    by_cases c47 : ((rd_Op l0 x4_3).f0) = 1
                    ·rw [if_pos c47] at H
                     have c47b0 := beq_iff_eq.mpr c47; have c47b1 := bne_eq_false_iff_eq.mpr c47; clear c47; have H' := aM H; clear H; obtain ⟨hcz48_0, hcz48_1, hcz48_2, hfz48_0, hfz48_1, hfz48_2⟩ := blk3 BK181.out; have p182 : 0 ≤ (x4_3 : Int) := yO; have q182 : x4_3 < (l0.length : Int) := yO; obtain ⟨ad182, e182, hx182_0, hx182_1, hx182_2⟩ := at_Op HR0.out x4_3 p182 q182; obtain rfl : ad180 = ad182 := (by injection e182); replace hx182_0 := (HB.out.cell (bL w _ hx182_0)).trans hx182_0; replace hx182_1 := (HB.out.cell (bL w _ hx182_1)).trans hx182_1; replace hx182_2 := (HB.out.cell (bL w _ hx182_2)).trans hx182_2; replace p182 := eq_true p182; replace q182 := eq_true q182
                     try go_wp2
                     replace HO_3 := aM (Kd.R_drew HO_3.out); replace BK181 := aM (kD BK181.out); replace HB := aM (below_drew1 HB.out); have p183 : 0 ≤ (x4_3 : Int) := yO; have q183 : x4_3 < (l0.length : Int) := yO; obtain ⟨ad183, e183, hx183_0, hx183_1, hx183_2⟩ := at_Op HR0.out x4_3 p183 q183; have hw183_2 := hx183_2; have hw183_1 := hx183_1; have hw183_0 := hx183_0; obtain rfl : ad180 = ad183 := (by injection e183); replace hx183_0 := (HB.out.cell (bL w _ hx183_0)).trans hx183_0; replace hx183_1 := (HB.out.cell (bL w _ hx183_1)).trans hx183_1; replace hx183_2 := (HB.out.cell (bL w _ hx183_2)).trans hx183_2; replace p183 := eq_true p183; replace q183 := eq_true q183
                     refine start_ (n := 10) (S := fun w' => w'.cell? ⟨gb181, 0, none⟩ = some (.int .i64 ((rd_Op l0 x4_5).f0)) ∧ w'.cell? ⟨gb181, 1, none⟩ = some (.int .i64 x182001_3) ∧ w'.cell? ⟨gb181, 2, none⟩ = some (.string ((rd_Op l0 x4_5).f2)) ∧ w'.cell? (ad180.add ((x4_3).toNat * 3)) = some (.int .i64 ((rd_Op l0 x4_3).f0)) ∧ w'.cell? ⟨(ad180.add ((x4_3).toNat * 3)).block, (ad180.add ((x4_3).toNat * 3)).off + 1, none⟩ = some (.int .i64 ((rd_Op l0 x4_3).f1)) ∧ w'.cell? ⟨(ad180.add ((x4_3).toNat * 3)).block, (ad180.add ((x4_3).toNat * 3)).off + 2, none⟩ = some (.string ((rd_Op l0 x4_3).f2))) (ds := [9]) #[false, false, false, false, false, false, false, false, false, false] yK rfl rfl ⟨(blk_cell BK181.out 0).trans rfl, (blk_cell BK181.out 1).trans rfl, (blk_cell BK181.out 2).trans rfl, ((HB.out.cell (bL w _ hw183_0)).trans hw183_0), ((HB.out.cell (bL w _ hw183_1)).trans hw183_1), ((HB.out.cell (bL w _ hw183_2)).trans hw183_2)⟩ (fun hHeld => ?_); refine with_tabW ops_Norm.tab14 ops_Norm.bits14 (fun HT_ HW_ => ?_)
                     generalize wr.drew = w49 at HO_3 BK181 HB hx183_0 hx183_1 hx183_2 hHeld ⊢
                     refine pure_ (i := 0) (N := some 69) (v := ?_) (a' := ?_) #[true, false, false, false, false, false, false, false, false, false] rfl rfl (any_of HT_.out yK) yI (Or.inl ⟨by rfl, ?_⟩) ?_ ?_
                     rotate_left; exact yP1; rotate_left; exact yP2
                     refine pure_ (i := 2) (N := some 71) (v := ?_) (a' := ?_) #[true, false, true, false, false, false, false, false, false, false] rfl rfl (any_of HT_.out yK) yI (Or.inl ⟨by rfl, ?_⟩) ?_ ?_
                     rotate_left; exact yP1; rotate_left; exact yP2
                     refine pure_ (i := 3) (N := some 72) (v := ?_) (a' := ?_) #[true, false, true, true, false, false, false, false, false, false] rfl rfl (any_of HT_.out yK) yI (Or.inl ⟨by rfl, ?_⟩) ?_ ?_
                     rotate_left; exact yP1; rotate_left; exact yP2
                     refine pure_ (i := 4) (N := some 73) (v := ?_) (a' := ?_) #[true, false, true, true, true, false, false, false, false, false] rfl rfl (any_of HT_.out yK) yI (Or.inl ⟨by rfl, ?_⟩) ?_ ?_
                     rotate_left; exact yP1; rotate_left; exact yP2
                     refine pure_ (i := 5) (N := some 74) (v := ?_) (a' := ?_) #[true, false, true, true, true, true, false, false, false, false] rfl rfl (any_of HT_.out yK) yI (Or.inl ⟨by rfl, ?_⟩) ?_ ?_
                     rotate_left; exact yP1; rotate_left; exact yP2
                     refine take_ (i := 1) (N := some 70) (v := ?_) (a' := ?_) #[true, true, true, true, true, true, false, false, false, false] rfl rfl (take_ofW HT_.out HW_.out yK) (fun _ _ _ h => h) (Or.inl ⟨by rfl, ?_⟩) hHeld ?_ ?_
                     rotate_left
                     ·rintro w' ⟨s0, s1, s2, s3, s4, s5⟩
                      go_simp
                      with_reducible rfl
                     rotate_left
                     ·simp only [Act.put, sI, sZ, sS, i64_w, i32_w]
                      rfl
                     refine take_ (i := 6) (N := some 75) (v := ?_) (a' := ?_) #[true, true, true, true, true, true, true, false, false, false] rfl rfl (take_ofW HT_.out HW_.out yK) (fun _ _ _ h => h) (Or.inl ⟨by rfl, ?_⟩) hHeld ?_ ?_
                     rotate_left
                     ·rintro w' ⟨s0, s1, s2, s3, s4, s5⟩
                      go_simp
                      with_reducible rfl
                     rotate_left
                     ·simp only [Act.put, sI, sZ, sS, i64_w, i32_w]
                      rfl
                     refine pure_ (i := 7) (N := some 76) (v := ?_) (a' := ?_) #[true, true, true, true, true, true, true, true, false, false] rfl rfl (any_of HT_.out yK) yI (Or.inl ⟨by rfl, ?_⟩) ?_ ?_
                     rotate_left; exact yP1; rotate_left; exact yP2
                     refine pure_ (i := 8) (N := some 77) (v := ?_) (a' := ?_) #[true, true, true, true, true, true, true, true, true, false] rfl rfl (any_of HT_.out yK) yI (Or.inl ⟨by rfl, ?_⟩) ?_ ?_
                     rotate_left; exact yP1; rotate_left; exact yP2
                     refine last_ (i := 9) (N := none) #[true, true, true, true, true, true, true, true, true, true] rfl rfl (one_of HT_.out yK) (by decide) (fun K hK => ?_)
                     have hs50 : w49.cell? ⟨gb181, 1, none⟩ = some (.int .i64 x182001_3) := (blk_cell BK181.out 1).trans rfl; have hfs50 := blk_frozen BK181.out 1
                     refine skip_ (w1 := ?_) (by rfl) rfl ?_ ?_
                     rotate_left
                     ·go_simp
                      rfl
                     refine hK.out _ _ ?_
                     clear hK K
                     refine done_ (done_of HT_.out yK) ?_
                     try go_wp2
                     go_roundg k3
                     case measure => have := HK1.out; have := HJ5.out; have := HK3.out; omega
                     case rel => exact ⟨(wrap64 (x4_3 + 1)), (wrap64 (x182001_3 + ((rd_Op l0 x4_3).f1))), yE, H', ⟨by have := HK1.out; have := HJ5.out; have := HK3.out; omega⟩, ⟨by (with_reducible repeat (first | apply Kd.R_alloc | apply Kd.R_drewN | apply Kd.R_drew)); exact Kd.R_mono (Kd.R_far (p := ⟨gb181, 1, none⟩) (Kd.R_mono HO_3.out (fun k_ hk => (⟨hk, hk⟩ : _ ∧ k_ ≠ gb181))) (fun _ hk => hk.2) (.int .i64 (wrap64 (x182001_3 + ((rd_Op l0 x4_3).f1))))) (fun _ hk => hk.1)⟩, ⟨by (with_reducible repeat (first | refine kN ?_ _ | refine kD ?_ | refine kA ?_ _)); refine blk_put (cs := #[.int .i64 ((rd_Op l0 x4_5).f0), .int .i64 x182001_3, .string ((rd_Op l0 x4_5).f2)]) ?_ 1 _ rfl; (with_reducible repeat (first | refine kN ?_ _ | refine kD ?_ | refine kA ?_ _)); exact BK181.out⟩, ⟨yBg GE181.out⟩⟩
                    ·rw [if_neg c47] at H
                     have c47b0 := beq_eq_false_iff_ne.mpr c47; have c47b1 := bne_iff_ne.mpr c47
                     by_cases c51 : y177.length < 4398046511104
                     ·rw [if_pos c51] at H
                      have LMc51 := aM c51; clear c51; obtain ⟨y184, hy184⟩ : ∃ y_ : List (Op), y_ = (y177 ++ [(⟨((rd_Op l0 x4_5).f0), x182001_3, ((rd_Op l0 x4_5).f2)⟩ : Op)]) := ⟨_, rfl⟩; replace H : (ops_Norm.l0 k3 l0 y184 x4_3) = some r := yN hy184 H
                      have Ny184 := aM hy184; clear hy184; have H' := aM H; clear H; obtain ⟨hcz52_0, hcz52_1, hcz52_2, hfz52_0, hfz52_1, hfz52_2⟩ := blk3 BK181.out; have p182 : 0 ≤ (x4_3 : Int) := yO; have q182 : x4_3 < (l0.length : Int) := yO; obtain ⟨ad182, e182, hx182_0, hx182_1, hx182_2⟩ := at_Op HR0.out x4_3 p182 q182; obtain rfl : ad180 = ad182 := (by injection e182); replace hx182_0 := (HB.out.cell (bL w _ hx182_0)).trans hx182_0; replace hx182_1 := (HB.out.cell (bL w _ hx182_1)).trans hx182_1; replace hx182_2 := (HB.out.cell (bL w _ hx182_2)).trans hx182_2; replace p182 := eq_true p182; replace q182 := eq_true q182
                      go_wp2_with (first | ((with_reducible refine gate_builtin (b := .append) (xs := #[.tmp 80, .tmp 82]) rfl ?_); (try (refine gate_guard (by rfl) ?_; dsimp only)); at_builtin; refine Kd.R_append kOp (w0 := w) w.heap.size rfl (.tmp 80) (.tmp 82) 22 41 (.agg #[(.int .i64 0), (.int .i64 0), (.string ⟨#[]⟩)]) 32 rfl Try.underlying22 info41 rfl (by decide) (by omega) v178 y177 (⟨((rd_Op l0 x4_5).f0), x182001_3, ((rd_Op l0 x4_5).f2)⟩ : Op) [.int .i64 ((rd_Op l0 x4_5).f0), .int .i64 x182001_3, .string ((rd_Op l0 x4_5).f2)] (fun k_ => k_ ≠ gb181) (fun _ => False) rfl rfl ?aP (fun _ hk => hk.elim) ?aF ?aO ?aB ?aS ?aL ?_; (case aP => exact kOp_mkM _ _ _ (⟨((rd_Op l0 x4_5).f0), x182001_3, ((rd_Op l0 x4_5).f2)⟩ : Op)); (case aB => exact (yBg GE181.out)); (case aF => exact (fun k_ hk => Kd.freshB (g := gb181) (o := .cells #[.int .i64 ((rd_Op l0 x4_5).f0), .int .i64 x182001_3, .string ((rd_Op l0 x4_5).f2)] 41 (0, 0)) (by (with_reducible repeat (first | refine kN ?_ _ | refine kD ?_ | refine kA ?_ _)); exact BK181.out) k_ hk)); (case aO => exact (yH HO_3.out)); (case aS => exact (below_size (yBg GE181.out))); (case aL => have := LMc51.out; omega); intro v185 w53 ho hb hg hat; rw [← Ny184.out] at ho; have n0_ := aM (blk_grown (g := gb181) (o := .cells #[.int .i64 ((rd_Op l0 x4_5).f0), .int .i64 x182001_3, .string ((rd_Op l0 x4_5).f2)] 41 (0, 0)) (by (with_reducible repeat (first | refine kN ?_ _ | refine kD ?_ | refine kA ?_ _)); exact BK181.out) hg (Kd.R_away HO_3.out (fun _ hk => hk))); have n1_ := aM (hb); have n2_ := aM (ho); clear BK181; clear HB; clear HO_3; have BK181 := n0_; have HB := n1_; have HO186 := n2_; clear n0_ n1_ n2_; clear ho hb hg hat))
                      go_roundg k3
                      case measure => have := HK1.out; have := HJ5.out; have := HK3.out; omega
                      case rel => exact ⟨(y184), (x4_3), yE, H', ⟨by have := HK1.out; have := HJ5.out; have := HK3.out; omega⟩, ⟨by (with_reducible repeat (first | apply Kd.R_alloc | apply Kd.R_drewN | apply Kd.R_drew)); exact Kd.R_mono HO186.out (fun _ hk => trivial)⟩, ⟨yBg GE181.out⟩⟩
                     ·rw [if_neg c51] at H
                      exact absurd H (by simp)
                   ·rw [if_neg c46] at H
                    exact absurd H (by simp)
                  ·rw [if_neg c45] at H
                   have c45b0 := decide_eq_false c45; clear c45
                   by_cases c54 : y177.length < 4398046511104
                   ·rw [if_pos c54] at H
                    have LMc54 := aM c54; clear c54; obtain ⟨y187, hy187⟩ : ∃ y_ : List (Op), y_ = (y177 ++ [(⟨((rd_Op l0 x4_5).f0), x182001_3, ((rd_Op l0 x4_5).f2)⟩ : Op)]) := ⟨_, rfl⟩; replace H : (ops_Norm.l0 k3 l0 y187 x4_3) = some r := yN hy187 H
                    have Ny187 := aM hy187; clear hy187; have H' := aM H; clear H; obtain ⟨hcz55_0, hcz55_1, hcz55_2, hfz55_0, hfz55_1, hfz55_2⟩ := blk3 BK181.out
                    go_wp2_with (first | ((with_reducible refine gate_builtin (b := .append) (xs := #[.tmp 80, .tmp 82]) rfl ?_); (try (refine gate_guard (by rfl) ?_; dsimp only)); at_builtin; refine Kd.R_append kOp (w0 := w) w.heap.size rfl (.tmp 80) (.tmp 82) 22 41 (.agg #[(.int .i64 0), (.int .i64 0), (.string ⟨#[]⟩)]) 32 rfl Try.underlying22 info41 rfl (by decide) (by omega) v178 y177 (⟨((rd_Op l0 x4_5).f0), x182001_3, ((rd_Op l0 x4_5).f2)⟩ : Op) [.int .i64 ((rd_Op l0 x4_5).f0), .int .i64 x182001_3, .string ((rd_Op l0 x4_5).f2)] (fun k_ => k_ ≠ gb181) (fun _ => False) rfl rfl ?aP (fun _ hk => hk.elim) ?aF ?aO ?aB ?aS ?aL ?_; (case aP => exact kOp_mkM _ _ _ (⟨((rd_Op l0 x4_5).f0), x182001_3, ((rd_Op l0 x4_5).f2)⟩ : Op)); (case aB => exact (yBg GE181.out)); (case aF => exact (fun k_ hk => Kd.freshB (g := gb181) (o := .cells #[.int .i64 ((rd_Op l0 x4_5).f0), .int .i64 x182001_3, .string ((rd_Op l0 x4_5).f2)] 41 (0, 0)) (by (with_reducible repeat (first | refine kN ?_ _ | refine kD ?_ | refine kA ?_ _)); exact BK181.out) k_ hk)); (case aO => exact (yH HO_3.out)); (case aS => exact (below_size (yBg GE181.out))); (case aL => have := LMc54.out; omega); intro v188 w56 ho hb hg hat; rw [← Ny187.out] at ho; have n0_ := aM (blk_grown (g := gb181) (o := .cells #[.int .i64 ((rd_Op l0 x4_5).f0), .int .i64 x182001_3, .string ((rd_Op l0 x4_5).f2)] 41 (0, 0)) (by (with_reducible repeat (first | refine kN ?_ _ | refine kD ?_ | refine kA ?_ _)); exact BK181.out) hg (Kd.R_away HO_3.out (fun _ hk => hk))); have n1_ := aM (hb); have n2_ := aM (ho); clear BK181; clear HB; clear HO_3; have BK181 := n0_; have HB := n1_; have HO189 := n2_; clear n0_ n1_ n2_; clear ho hb hg hat))
                    go_roundg k3
                    case measure => have := HK1.out; have := HJ5.out; have := HK3.out; omega
                    case rel => exact ⟨(y187), (x4_3), yE, H', ⟨by have := HK1.out; have := HJ5.out; have := HK3.out; omega⟩, ⟨by (with_reducible repeat (first | apply Kd.R_alloc | apply Kd.R_drewN | apply Kd.R_drew)); exact Kd.R_mono HO189.out (fun _ hk => trivial)⟩, ⟨yBg GE181.out⟩⟩
                   ·rw [if_neg c54] at H
                    exact absurd H (by simp)
                 ·rw [if_neg c44] at H
                  have c44b0 := beq_eq_false_iff_ne.mpr c44; have c44b1 := bne_iff_ne.mpr c44
                  by_cases c57 : y177.length < 4398046511104
                  ·rw [if_pos c57] at H
                   have LMc57 := aM c57; clear c57; obtain ⟨y190, hy190⟩ : ∃ y_ : List (Op), y_ = (y177 ++ [(⟨((rd_Op l0 x4_5).f0), x182001_3, ((rd_Op l0 x4_5).f2)⟩ : Op)]) := ⟨_, rfl⟩; replace H : (ops_Norm.l0 k3 l0 y190 x4_3) = some r := yN hy190 H
                   have Ny190 := aM hy190; clear hy190; have H' := aM H; clear H; obtain ⟨hcz58_0, hcz58_1, hcz58_2, hfz58_0, hfz58_1, hfz58_2⟩ := blk3 BK181.out
                   go_wp2_with (first | ((with_reducible refine gate_builtin (b := .append) (xs := #[.tmp 80, .tmp 82]) rfl ?_); (try (refine gate_guard (by rfl) ?_; dsimp only)); at_builtin; refine Kd.R_append kOp (w0 := w) w.heap.size rfl (.tmp 80) (.tmp 82) 22 41 (.agg #[(.int .i64 0), (.int .i64 0), (.string ⟨#[]⟩)]) 32 rfl Try.underlying22 info41 rfl (by decide) (by omega) v178 y177 (⟨((rd_Op l0 x4_5).f0), x182001_3, ((rd_Op l0 x4_5).f2)⟩ : Op) [.int .i64 ((rd_Op l0 x4_5).f0), .int .i64 x182001_3, .string ((rd_Op l0 x4_5).f2)] (fun k_ => k_ ≠ gb181) (fun _ => False) rfl rfl ?aP (fun _ hk => hk.elim) ?aF ?aO ?aB ?aS ?aL ?_; (case aP => exact kOp_mkM _ _ _ (⟨((rd_Op l0 x4_5).f0), x182001_3, ((rd_Op l0 x4_5).f2)⟩ : Op)); (case aB => exact (yBg GE181.out)); (case aF => exact (fun k_ hk => Kd.freshB (g := gb181) (o := .cells #[.int .i64 ((rd_Op l0 x4_5).f0), .int .i64 x182001_3, .string ((rd_Op l0 x4_5).f2)] 41 (0, 0)) (by (with_reducible repeat (first | refine kN ?_ _ | refine kD ?_ | refine kA ?_ _)); exact BK181.out) k_ hk)); (case aO => exact (yH HO_3.out)); (case aS => exact (below_size (yBg GE181.out))); (case aL => have := LMc57.out; omega); intro v191 w59 ho hb hg hat; rw [← Ny190.out] at ho; have n0_ := aM (blk_grown (g := gb181) (o := .cells #[.int .i64 ((rd_Op l0 x4_5).f0), .int .i64 x182001_3, .string ((rd_Op l0 x4_5).f2)] 41 (0, 0)) (by (with_reducible repeat (first | refine kN ?_ _ | refine kD ?_ | refine kA ?_ _)); exact BK181.out) hg (Kd.R_away HO_3.out (fun _ hk => hk))); have n1_ := aM (hb); have n2_ := aM (ho); clear BK181; clear HB; clear HO_3; have BK181 := n0_; have HB := n1_; have HO192 := n2_; clear n0_ n1_ n2_; clear ho hb hg hat))
                   go_roundg k3
                   case measure => have := HK1.out; have := HJ5.out; have := HK3.out; omega
                   case rel => exact ⟨(y190), (x4_3), yE, H', ⟨by have := HK1.out; have := HJ5.out; have := HK3.out; omega⟩, ⟨by (with_reducible repeat (first | apply Kd.R_alloc | apply Kd.R_drewN | apply Kd.R_drew)); exact Kd.R_mono HO192.out (fun _ hk => trivial)⟩, ⟨yBg GE181.out⟩⟩
                  ·rw [if_neg c57] at H
                   exact absurd H (by simp)
              ·rw [if_neg c32] at H
               exact absurd H (by simp)
             ·rw [if_neg c31] at H
              exact absurd H (by simp)
           ·rw [if_neg c20] at H
            exact absurd H (by simp)
          ·rw [if_neg c15] at H
           exact absurd H (by simp)
         ·rw [if_neg c13] at H
          exact absurd H (by simp)
        ·rw [if_neg c12] at H
         exact absurd H (by simp)
       ·rw [if_neg c11] at H
        exact absurd H (by simp)
    ·rw [if_neg c5] at H
     have c5b0 := decide_eq_false c5; clear c5; obtain rfl := Option.some.inj H
     go_wp2
     go_ret
     exact ⟨_, by first | rfl | (simp [errW_none, errW_some] <;> rfl) | (simp [*, errW_none, errW_some] <;> rfl), by (with_reducible repeat (first | apply Kd.R_alloc | apply Kd.R_drewN | apply Kd.R_drew)); exact HO_3.out, yB⟩
 ·replace c3 := Bool.eq_false_iff.mpr c3
  subst c3; replace H := iF H; obtain rfl := Option.some.inj H
  go_enter Try.func39, Try.ntmps39
  go_wp2_with (first | ((with_reducible refine gate_callee (f := 35) rfl ?_); refine goesL_ (some 8) rfl rfl Try.func35 yK rfl #[.slice A0 l0.length c0] rfl yG ?_; (with_reducible refine (ops_Right.calls k _ _ l0 false _ (yC HR0.out) HC0.out A2.out).mono ?_); rintro e w60 ⟨rfl, hb⟩; refine ⟨_, rfl, ?_⟩; replace HB := aM (below_step yB hb); clear hb))
  go_ret
  exact ⟨_, by first | rfl | (simp [errW_none, errW_some] <;> rfl) | (simp [*, errW_none, errW_some] <;> rfl), by first | exact Kd.R_nil _ _ _ _ _ | exact Kd.N_nil _ _ _ _ _ | exact Kd.V_nil _ _ _ _ _ | exact Kd.Q_nil _ _ _ _ _ | exact Kd.S_nil _ _ _ _ _, yB⟩
end Go.Proofs.Ytfoponahdidddaa.P
