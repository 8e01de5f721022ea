/- Own and printed texts that the theorem of ApplyEach reaches, put together. -/
import Derived.Test.YtkalkickknjdhaaqApplyEach4
import Derived.Test.YtkalkickknjdhaaqApplyEach3
set_option linter.unusedVariables false
set_option linter.unusedSimpArgs false
namespace Go.Proofs.Ytkalkickknjdhaa.P
open Go.RowKit Go.Proofs.YtkalkickknjdhaaW.PrintWords Go.Proofs.YtkalkickknjdhaaW.PrintLast Go.Proofs.YtkalkickknjdhaaW.PrintMore
open Go.Proofs.YtkalkickknjdhaaW.PrintWords.Aside0 renaming mk → aM
attribute [local go_sem] max2_int min2_int max_two min_two max_three min_three max_four min_four
set_option maxHeartbeats 8000000 in
set_option maxRecDepth 100000 in
theorem ops_New.calls (a0 : Int) (r : Bool) (w : World) (h : ops_New.f a0 = some r) :
  Calls Try.prog 51 #[.int .i64 a0] w fun e w' => e = .returned (.bool r) ∧ Drawn0 w w' := by
 have H : (if a0 = 1 then (some true) else (if a0 = 2 then (some true) else (some (a0 == 4)))) = some r := h
 clear h
 by_cases c2 : a0 = 1
 ·rw [if_pos c2] at H
  have c2b0 := beq_iff_eq.mpr c2; have c2b1 := bne_eq_false_iff_eq.mpr c2; clear c2; obtain rfl := Option.some.inj H
  go_enter Try.func51, Try.ntmps51
  go_wp2
  go_ret
  exact ⟨yE, yD⟩
 ·rw [if_neg c2] at H
  have c2b0 := beq_eq_false_iff_ne.mpr c2; have c2b1 := bne_iff_ne.mpr c2
  by_cases c3 : a0 = 2
  ·rw [if_pos c3] at H
   have c3b0 := beq_iff_eq.mpr c3; have c3b1 := bne_eq_false_iff_eq.mpr c3; clear c3; obtain rfl := Option.some.inj H
   go_enter Try.func51, Try.ntmps51
   go_wp2
   go_ret
   exact ⟨yE, yD⟩
  ·rw [if_neg c3] at H
   have c3b0 := beq_eq_false_iff_ne.mpr c3; have c3b1 := bne_iff_ne.mpr c3; obtain rfl := Option.some.inj H
   go_enter Try.func51, Try.ntmps51
   go_wp2
   go_ret
   exact ⟨yE, yD⟩
set_option maxHeartbeats 8000000 in
set_option maxRecDepth 100000 in
theorem ops_Old.calls (a0 : Int) (r : Bool) (w : World) (h : ops_Old.f a0 = some r) :
  Calls Try.prog 39 #[.int .i64 a0] w fun e w' => e = .returned (.bool r) ∧ Drawn0 w w' := by
 have H : (if a0 = 1 then (some true) else (if a0 = 2 then (some true) else (some (a0 == 3)))) = some r := h
 clear h
 by_cases c2 : a0 = 1
 ·rw [if_pos c2] at H
  have c2b0 := beq_iff_eq.mpr c2; have c2b1 := bne_eq_false_iff_eq.mpr c2; clear c2; obtain rfl := Option.some.inj H
  go_enter Try.func39, Try.ntmps39
  go_wp2
  go_ret
  exact ⟨yE, yD⟩
 ·rw [if_neg c2] at H
  have c2b0 := beq_eq_false_iff_ne.mpr c2; have c2b1 := bne_iff_ne.mpr c2
  by_cases c3 : a0 = 2
  ·rw [if_pos c3] at H
   have c3b0 := beq_iff_eq.mpr c3; have c3b1 := bne_eq_false_iff_eq.mpr c3; clear c3; obtain rfl := Option.some.inj H
   go_enter Try.func39, Try.ntmps39
   go_wp2
   go_ret
   exact ⟨yE, yD⟩
  ·rw [if_neg c3] at H
   have c3b0 := beq_eq_false_iff_ne.mpr c3; have c3b1 := bne_iff_ne.mpr c3; obtain rfl := Option.some.inj H
   go_enter Try.func39, Try.ntmps39
   go_wp2
   go_ret
   exact ⟨yE, yD⟩
set_option maxHeartbeats 8000000 in
set_option maxRecDepth 100000 in
theorem ops_Change.calls (a0 : Int) (r : Bool) (w : World) (h : ops_Change.f a0 = some r) :
  Calls Try.prog 53 #[.int .i64 a0] w fun e w' => e = .returned (.bool r) ∧ Drawn0 w w' := by
 have H : (if a0 = 3 then (some true) else (some (a0 == 4))) = some r := h
 clear h
 by_cases c2 : a0 = 3
 ·rw [if_pos c2] at H
  have c2b0 := beq_iff_eq.mpr c2; have c2b1 := bne_eq_false_iff_eq.mpr c2; clear c2; obtain rfl := Option.some.inj H
  go_enter Try.func53, Try.ntmps53
  go_wp2
  go_ret
  exact ⟨yE, yD⟩
 ·rw [if_neg c2] at H
  have c2b0 := beq_eq_false_iff_ne.mpr c2; have c2b1 := bne_iff_ne.mpr c2; obtain rfl := Option.some.inj H
  go_enter Try.func53, Try.ntmps53
  go_wp2
  go_ret
  exact ⟨yE, yD⟩
theorem strings_Contains.calls (a0 : ByteArray) (a1 : ByteArray) (r : Bool) (w : World) (h : strings_Contains.f a0 a1 = some r) :
  Calls Try.prog 60 #[.string a0, .string a1] w fun e w' => e = .returned (.bool r) ∧ Drawn0 w w' := by
 unfold strings_Contains.f at h
 split at h
 ·rename_i c hc
  obtain rfl := Option.some.inj h
  obtain ⟨⟨l⟩⟩ := a1
  simp only at hc
  subst hc
  refine (Go.Proofs.Try.strings_Contains_one a0 c w).mono ?_
  rintro e w' ⟨rfl, rfl⟩
  exact ⟨by rw [has_byte], Drawn0.refl _⟩
 ·exact absurd h (by simp)
set_option maxHeartbeats 8000000 in
set_option maxRecDepth 100000 in
theorem stringslite_HasSuffix.calls (a0 : ByteArray) (a1 : ByteArray) (r : Bool) (w : World) (h : stringslite_HasSuffix.f a0 a1 = some r) :
  Calls Try.prog 65 #[.string a0, .string a1] w fun e w' => e = .returned (.bool r) ∧ Drawn0 w w' := by
 have H : (if (a0.size : Int) ≥ (a1.size : Int) then (if 0 ≤ (wrap64 ((a0.size : Int) - (a1.size : Int))) then (if (wrap64 ((a0.size : Int) - (a1.size : Int))) ≤ (a0.size : Int) then (some ((a0.extract ((wrap64 ((a0.size : Int) - (a1.size : Int))) : Int).toNat a0.size).toList == a1.toList)) else (none)) else (none)) else (some false)) = some r := h
 clear h
 by_cases c3 : (a0.size : Int) ≥ (a1.size : Int)
 ·rw [if_pos c3] at H
  have c3b0 := decide_eq_true c3; have c3b1 : decide (a1.size ≤ a0.size) = true := decide_eq_true (Int.ofNat_le.mp c3); clear c3; obtain ⟨ji4, hji4⟩ : ∃ j_ : Int, (wrap64 ((a0.size : Int) - (a1.size : Int))) = j_ := ⟨_, rfl⟩; replace H : (if 0 ≤ (ji4) then (if (ji4) ≤ (a0.size : Int) then (some ((a0.extract ((ji4) : Int).toNat a0.size).toList == a1.toList)) else (none)) else (none)) = some r := by first | (rw [hji4] at H; exact H) | (simp only [hji4] at H ⊢; exact H)
  have hji4w : (IntKind.i64.wrap ((a0.size : Int) - (a1.size : Int))) = ji4 := (i64_w _).trans hji4
  by_cases c5 : 0 ≤ (ji4)
  ·rw [if_pos c5] at H
   have c5b0 := eq_true c5; have c5b1 := decide_eq_true c5; clear c5
   by_cases c6 : (ji4) ≤ (a0.size : Int)
   ·rw [if_pos c6] at H
    have c6b0 := eq_true c6; have c6b1 := decide_eq_true c6; clear c6; obtain rfl := Option.some.inj H
    go_enter Try.func65, Try.ntmps65
    go_wp2
    go_ret
    exact ⟨by first | rfl | (simp; done) | (simp only [← hji4] <;> (first | rfl | simp)) | (simp [*]; done), yD⟩
   ·rw [if_neg c6] at H
    exact absurd H (by simp)
  ·rw [if_neg c5] at H
   exact absurd H (by simp)
 ·rw [if_neg c3] at H
  have c3b0 := decide_eq_false c3; have c3b1 : decide (a1.size ≤ a0.size) = false := decide_eq_false (fun h => c3 (Int.ofNat_le.mpr h)); clear c3; obtain rfl := Option.some.inj H
  go_enter Try.func65, Try.ntmps65
  go_wp2
  go_ret
  exact ⟨yE, yD⟩
set_option maxHeartbeats 8000000 in
set_option maxRecDepth 100000 in
theorem stringslite_TrimSuffix.calls (a0 : ByteArray) (a1 : ByteArray) (r : ByteArray) (w : World) (h : stringslite_TrimSuffix.f a0 a1 = some r) :
  Calls Try.prog 64 #[.string a0, .string a1] w fun e w' => e = .returned (.string r) ∧ Drawn0 w w' := by
 have H : ((stringslite_HasSuffix.f a0 a1).bind fun t101 => (if t101 = true then (if 0 ≤ (wrap64 ((a0.size : Int) - (a1.size : Int))) then (if (wrap64 ((a0.size : Int) - (a1.size : Int))) ≤ (a0.size : Int) then (some (a0.extract 0 ((wrap64 ((a0.size : Int) - (a1.size : Int))) : Int).toNat)) else (none)) else (none)) else (some a0))) = some r := h
 clear h
 replace H := oB H; obtain ⟨t101, A3, H⟩ := H
 by_cases c4 : t101 = true
 ·subst c4
  replace H := iT H; obtain ⟨ji5, hji5⟩ : ∃ j_ : Int, (wrap64 ((a0.size : Int) - (a1.size : Int))) = j_ := ⟨_, rfl⟩; replace H : (if 0 ≤ (ji5) then (if (ji5) ≤ (a0.size : Int) then (some (a0.extract 0 ((ji5) : Int).toNat)) else (none)) else (none)) = some r := by first | (rw [hji5] at H; exact H) | (simp only [hji5] at H ⊢; exact H)
  (try rw [hji5] at A3)
  have hji5w : (IntKind.i64.wrap ((a0.size : Int) - (a1.size : Int))) = ji5 := (i64_w _).trans hji5
  by_cases c6 : 0 ≤ (ji5)
  ·rw [if_pos c6] at H
   have c6b0 := eq_true c6; have c6b1 := decide_eq_true c6; clear c6
   by_cases c7 : (ji5) ≤ (a0.size : Int)
   ·rw [if_pos c7] at H
    have c7b0 := eq_true c7; have c7b1 := decide_eq_true c7; clear c7; obtain rfl := Option.some.inj H
    go_enter Try.func64, Try.ntmps64
    go_wp2_with (first | ((with_reducible refine gate_callee (f := 65) rfl ?_); refine goesL_ (some 7) rfl rfl Try.func65 yK rfl #[.string a0, .string a1] rfl yG ?_; (with_reducible refine (stringslite_HasSuffix.calls a0 a1 true _ A3.out).mono ?_); rintro e w' ⟨rfl, ⟨nd, rfl⟩⟩; refine ⟨_, rfl, ?_⟩))
    go_ret
    exact ⟨by first | rfl | (simp; done) | (simp only [← hji5] <;> (first | rfl | simp)) | (simp [*]; done), yD⟩
   ·rw [if_neg c7] at H
    exact absurd H (by simp)
  ·rw [if_neg c6] at H
   exact absurd H (by simp)
 ·replace c4 := Bool.eq_false_iff.mpr c4
  subst c4; replace H := iF H; obtain rfl := Option.some.inj H
  go_enter Try.func64, Try.ntmps64
  go_wp2_with (first | ((with_reducible refine gate_callee (f := 65) rfl ?_); refine goesL_ (some 7) rfl rfl Try.func65 yK rfl #[.string a0, .string a1] rfl yG ?_; (with_reducible refine (stringslite_HasSuffix.calls a0 a1 false _ A3.out).mono ?_); rintro e w' ⟨rfl, ⟨nd, rfl⟩⟩; refine ⟨_, rfl, ?_⟩))
  go_ret
  exact ⟨yE, yD⟩
set_option maxHeartbeats 8000000 in
set_option maxRecDepth 100000 in
theorem strings_TrimSuffix.calls (a0 : ByteArray) (a1 : ByteArray) (r : ByteArray) (w : World) (h : strings_TrimSuffix.f a0 a1 = some r) :
  Calls Try.prog 61 #[.string a0, .string a1] w fun e w' => e = .returned (.string r) ∧ Drawn0 w w' := by
 have H : ((stringslite_TrimSuffix.f a0 a1).bind fun t102 => (some t102)) = some r := h
 clear h
 replace H := oB H; obtain ⟨t102, A3, H⟩ := H
 obtain rfl := Option.some.inj H
 go_enter Try.func61, Try.ntmps61
 go_wp2_with (first | ((with_reducible refine gate_callee (f := 64) rfl ?_); refine goesL_ (some 7) rfl rfl Try.func64 yK rfl #[.string a0, .string a1] rfl yG ?_; (with_reducible refine (stringslite_TrimSuffix.calls a0 a1 t102 _ A3.out).mono ?_); rintro e w' ⟨rfl, ⟨nd, rfl⟩⟩; refine ⟨_, rfl, ?_⟩))
 go_ret
 exact ⟨yE, yD⟩
set_option maxHeartbeats 8000000 in
set_option maxRecDepth 100000 in
theorem lines_Right.calls (a0 : ByteArray) (r : Bool) (w : World) (h : lines_Right.f a0 = some r) :
  Calls Try.prog 57 #[.string a0] w fun e w' => e = .returned (.bool r) ∧ Drawn0 w w' := by
 have H : (if a0.toList = ([] : List UInt8) then (some false) else ((strings_TrimSuffix.f a0 (⟨#[10]⟩ : ByteArray)).bind fun t103 => ((strings_Contains.f t103 (⟨#[10]⟩ : ByteArray)).bind fun t104 => (some (!t104))))) = some r := h
 clear h
 by_cases c2 : a0.toList = ([] : List UInt8)
 ·rw [if_pos c2] at H
  have c2b0 := beq_iff_eq.mpr c2; have c2b1 := bne_eq_false_iff_eq.mpr c2; clear c2; obtain rfl := Option.some.inj H
  go_enter Try.func57, Try.ntmps57
  go_wp2
  go_ret
  exact ⟨yE, yD⟩
 ·rw [if_neg c2] at H
  have c2b0 := beq_eq_false_iff_ne.mpr c2; have c2b1 := bne_iff_ne.mpr c2; replace H := oB H; obtain ⟨t103, A3, H⟩ := H; replace H := oB H; obtain ⟨t104, A4, H⟩ := H; obtain rfl := Option.some.inj H
  go_enter Try.func57, Try.ntmps57
  go_wp2_with (first | (go_at_call 61; (with_reducible refine (strings_TrimSuffix.calls a0 (⟨#[10]⟩ : ByteArray) t103 _ A3.out).mono ?_); rintro e w' ⟨rfl, ⟨nd, rfl⟩⟩) | (go_at_call 60; (with_reducible refine (strings_Contains.calls t103 (⟨#[10]⟩ : ByteArray) t104 _ A4.out).mono ?_); rintro e w' ⟨rfl, ⟨nd, rfl⟩⟩))
  go_ret
  exact ⟨yE, yD⟩
set_option maxHeartbeats 8000000 in
set_option maxRecDepth 100000 in
theorem ops_one.calls (a0_0 : Int) (a0_1 : Int) (a0_2 : ByteArray) (r : Bool) (w : World) (h : ops_one.f a0_0 a0_1 a0_2 = some r) :
  Calls Try.prog 49 #[.agg #[.int .i64 a0_0, .int .i64 a0_1, .string a0_2]] w fun e w' => e = .returned (.bool r) ∧ Below w.heap.size w w' := by
 have hu34 := Try.underlying34
 have HB := aM (Below.refl w.heap.size w)
 have H : (if a0_0 = 1 then (if a0_1 ≥ 1 then (if a0_1 ≤ 2147483648 then (some (a0_2.toList == ([] : List UInt8))) else (some false)) else (some false)) else (if a0_0 = 2 then (if a0_1 = 0 then ((lines_Right.f a0_2).bind fun t106 => (some t106)) else (some false)) else ((ops_Change.f a0_0).bind fun t107 => (if t107 = true then (if a0_1 = 0 then ((lines_Right.f a0_2).bind fun t108 => (some t108)) else (some false)) else (some false))))) = some r := h
 clear h
 by_cases c2 : a0_0 = 1
 ·rw [if_pos c2] at H
  have c2b0 := beq_iff_eq.mpr c2; have c2b1 := bne_eq_false_iff_eq.mpr c2; clear c2
  by_cases c3 : a0_1 ≥ 1
  ·rw [if_pos c3] at H
   have c3b0 := decide_eq_true c3; clear c3
   by_cases c4 : a0_1 ≤ 2147483648
   ·rw [if_pos c4] at H
    have c4b0 := decide_eq_true c4; clear c4; obtain rfl := Option.some.inj H
    go_enter Try.func49, Try.ntmps49
    go_wp2_with (first | ((with_reducible refine gate_dst (N := 1) rfl ?_); refine box_event yR (N := 1) yR (cs := #[.int .i64 a0_0, .int .i64 a0_1, .string a0_2]) (t := 34) yQ ?_; intro gb105 hg w5 hbox hb; have BK105 := aM (hbox); have GW105 := aM ((yS : w.heap.size ≤ gb105)); have GE105 := aM ((yS : w.heap.size ≤ gb105)); replace HB := aM (below_step yB hb); clear hb hbox hg; obtain ⟨hcz6_0, hcz6_1, hcz6_2, hfz6_0, hfz6_1, hfz6_2⟩ := blk3 BK105.out))
    go_ret
    exact ⟨yE2, yBg GE105.out⟩
   ·rw [if_neg c4] at H
    have c4b0 := decide_eq_false c4; clear c4; obtain rfl := Option.some.inj H
    go_enter Try.func49, Try.ntmps49
    go_wp2_with (first | ((with_reducible refine gate_dst (N := 1) rfl ?_); refine box_event yR (N := 1) yR (cs := #[.int .i64 a0_0, .int .i64 a0_1, .string a0_2]) (t := 34) yQ ?_; intro gb105 hg w7 hbox hb; have BK105 := aM (hbox); have GW105 := aM ((yS : w.heap.size ≤ gb105)); have GE105 := aM ((yS : w.heap.size ≤ gb105)); replace HB := aM (below_step yB hb); clear hb hbox hg; obtain ⟨hcz8_0, hcz8_1, hcz8_2, hfz8_0, hfz8_1, hfz8_2⟩ := blk3 BK105.out))
    go_ret
    exact ⟨yE2, yBg GE105.out⟩
  ·rw [if_neg c3] at H
   have c3b0 := decide_eq_false c3; clear c3; obtain rfl := Option.some.inj H
   go_enter Try.func49, Try.ntmps49
   go_wp2_with (first | ((with_reducible refine gate_dst (N := 1) rfl ?_); refine box_event yR (N := 1) yR (cs := #[.int .i64 a0_0, .int .i64 a0_1, .string a0_2]) (t := 34) yQ ?_; intro gb105 hg w9 hbox hb; have BK105 := aM (hbox); have GW105 := aM ((yS : w.heap.size ≤ gb105)); have GE105 := aM ((yS : w.heap.size ≤ gb105)); replace HB := aM (below_step yB hb); clear hb hbox hg; obtain ⟨hcz10_0, hcz10_1, hcz10_2, hfz10_0, hfz10_1, hfz10_2⟩ := blk3 BK105.out))
   go_ret
   exact ⟨yE2, yBg GE105.out⟩
 ·rw [if_neg c2] at H
  have c2b0 := beq_eq_false_iff_ne.mpr c2; have c2b1 := bne_iff_ne.mpr c2
  by_cases c11 : a0_0 = 2
  ·rw [if_pos c11] at H
   have c11b0 := beq_iff_eq.mpr c11; have c11b1 := bne_eq_false_iff_eq.mpr c11; clear c11
   by_cases c12 : a0_1 = 0
   ·rw [if_pos c12] at H
    have c12b0 := beq_iff_eq.mpr c12; have c12b1 := bne_eq_false_iff_eq.mpr c12; clear c12; replace H := oB H; obtain ⟨t106, A13, H⟩ := H; obtain rfl := Option.some.inj H
    go_enter Try.func49, Try.ntmps49
    go_wp2_with (first | ((with_reducible refine gate_dst (N := 1) rfl ?_); refine box_event yR (N := 1) yR (cs := #[.int .i64 a0_0, .int .i64 a0_1, .string a0_2]) (t := 34) yQ ?_; intro gb105 hg w14 hbox hb; have BK105 := aM (hbox); have GW105 := aM ((yS : w.heap.size ≤ gb105)); have GE105 := aM ((yS : w.heap.size ≤ gb105)); replace HB := aM (below_step yB hb); clear hb hbox hg; obtain ⟨hcz15_0, hcz15_1, hcz15_2, hfz15_0, hfz15_1, hfz15_2⟩ := blk3 BK105.out) | (go_at_call 57; (with_reducible refine (lines_Right.calls a0_2 t106 _ A13.out).mono ?_); rintro e w' ⟨rfl, ⟨nd, rfl⟩⟩))
    go_ret
    exact ⟨yE2, yBg GE105.out⟩
   ·rw [if_neg c12] at H
    have c12b0 := beq_eq_false_iff_ne.mpr c12; have c12b1 := bne_iff_ne.mpr c12; obtain rfl := Option.some.inj H
    go_enter Try.func49, Try.ntmps49
    go_wp2_with (first | ((with_reducible refine gate_dst (N := 1) rfl ?_); refine box_event yR (N := 1) yR (cs := #[.int .i64 a0_0, .int .i64 a0_1, .string a0_2]) (t := 34) yQ ?_; intro gb105 hg w16 hbox hb; have BK105 := aM (hbox); have GW105 := aM ((yS : w.heap.size ≤ gb105)); have GE105 := aM ((yS : w.heap.size ≤ gb105)); replace HB := aM (below_step yB hb); clear hb hbox hg; obtain ⟨hcz17_0, hcz17_1, hcz17_2, hfz17_0, hfz17_1, hfz17_2⟩ := blk3 BK105.out))
    go_ret
    exact ⟨yE2, yBg GE105.out⟩
  ·rw [if_neg c11] at H
   have c11b0 := beq_eq_false_iff_ne.mpr c11; have c11b1 := bne_iff_ne.mpr c11; replace H := oB H; obtain ⟨t107, A18, H⟩ := H
   by_cases c19 : t107 = true
   ·subst c19
    replace H := iT H
    by_cases c20 : a0_1 = 0
    ·rw [if_pos c20] at H
     have c20b0 := beq_iff_eq.mpr c20; have c20b1 := bne_eq_false_iff_eq.mpr c20; clear c20; replace H := oB H; obtain ⟨t108, A21, H⟩ := H; obtain rfl := Option.some.inj H
     go_enter Try.func49, Try.ntmps49
     go_wp2_with (first | ((with_reducible refine gate_dst (N := 1) rfl ?_); refine box_event yR (N := 1) yR (cs := #[.int .i64 a0_0, .int .i64 a0_1, .string a0_2]) (t := 34) yQ ?_; intro gb105 hg w22 hbox hb; have BK105 := aM (hbox); have GW105 := aM ((yS : w.heap.size ≤ gb105)); have GE105 := aM ((yS : w.heap.size ≤ gb105)); replace HB := aM (below_step yB hb); clear hb hbox hg; obtain ⟨hcz23_0, hcz23_1, hcz23_2, hfz23_0, hfz23_1, hfz23_2⟩ := blk3 BK105.out) | (go_at_call 53; (with_reducible refine (ops_Change.calls a0_0 true _ A18.out).mono ?_); rintro e w' ⟨rfl, ⟨nd, rfl⟩⟩) | (go_at_call 57; (with_reducible refine (lines_Right.calls a0_2 t108 _ A21.out).mono ?_); rintro e w' ⟨rfl, ⟨nd, rfl⟩⟩))
     go_ret
     exact ⟨yE2, yBg GE105.out⟩
    ·rw [if_neg c20] at H
     have c20b0 := beq_eq_false_iff_ne.mpr c20; have c20b1 := bne_iff_ne.mpr c20; obtain rfl := Option.some.inj H
     go_enter Try.func49, Try.ntmps49
     go_wp2_with (first | ((with_reducible refine gate_dst (N := 1) rfl ?_); refine box_event yR (N := 1) yR (cs := #[.int .i64 a0_0, .int .i64 a0_1, .string a0_2]) (t := 34) yQ ?_; intro gb105 hg w24 hbox hb; have BK105 := aM (hbox); have GW105 := aM ((yS : w.heap.size ≤ gb105)); have GE105 := aM ((yS : w.heap.size ≤ gb105)); replace HB := aM (below_step yB hb); clear hb hbox hg; obtain ⟨hcz25_0, hcz25_1, hcz25_2, hfz25_0, hfz25_1, hfz25_2⟩ := blk3 BK105.out) | (go_at_call 53; (with_reducible refine (ops_Change.calls a0_0 true _ A18.out).mono ?_); rintro e w' ⟨rfl, ⟨nd, rfl⟩⟩))
     go_ret
     exact ⟨yE2, yBg GE105.out⟩
   ·replace c19 := Bool.eq_false_iff.mpr c19
    subst c19; replace H := iF H; obtain rfl := Option.some.inj H
    go_enter Try.func49, Try.ntmps49
    go_wp2_with (first | ((with_reducible refine gate_dst (N := 1) rfl ?_); refine box_event yR (N := 1) yR (cs := #[.int .i64 a0_0, .int .i64 a0_1, .string a0_2]) (t := 34) yQ ?_; intro gb105 hg w26 hbox hb; have BK105 := aM (hbox); have GW105 := aM ((yS : w.heap.size ≤ gb105)); have GE105 := aM ((yS : w.heap.size ≤ gb105)); replace HB := aM (below_step yB hb); clear hb hbox hg; obtain ⟨hcz27_0, hcz27_1, hcz27_2, hfz27_0, hfz27_1, hfz27_2⟩ := blk3 BK105.out) | (go_at_call 53; (with_reducible refine (ops_Change.calls a0_0 false _ A18.out).mono ?_); rintro e w' ⟨rfl, ⟨nd, rfl⟩⟩))
    go_ret
    exact ⟨yE2, yBg GE105.out⟩
set_option maxHeartbeats 8000000 in
set_option maxRecDepth 100000 in
theorem ops_Right_1.calls (a0_0 : Int) (a0_1 : Int) (a0_2 : ByteArray) (r : Bool) (w : World) (h : ops_Right_1.f a0_0 a0_1 a0_2 = some r) :
  Calls Try.prog 48 #[.agg #[.int .i64 a0_0, .int .i64 a0_1, .string a0_2]] w fun e w' => e = .returned (.bool r) ∧ Below w.heap.size w w' := by
 have hu34 := Try.underlying34
 have HB := aM (Below.refl w.heap.size w)
 have H : ((ops_one.f a0_0 a0_1 a0_2).bind fun t110 => (some (!t110))) = some r := h
 clear h
 replace H := oB H; obtain ⟨t110, A2, H⟩ := H
 obtain rfl := Option.some.inj H
 go_enter Try.func48, Try.ntmps48
 go_wp2_with (first | ((with_reducible refine gate_dst (N := 1) rfl ?_); refine box_event yR (N := 1) yR (cs := #[.int .i64 a0_0, .int .i64 a0_1, .string a0_2]) (t := 34) yQ ?_; intro gb109 hg w3 hbox hb; have BK109 := aM (hbox); have GW109 := aM ((yS : w.heap.size ≤ gb109)); have GE109 := aM ((yS : w.heap.size ≤ gb109)); replace HB := aM (below_step yB hb); clear hb hbox hg; obtain ⟨hcz4_0, hcz4_1, hcz4_2, hfz4_0, hfz4_1, hfz4_2⟩ := blk3 BK109.out) | ((with_reducible refine gate_callee (f := 49) rfl ?_); refine goesL_ (some 4) rfl rfl Try.func49 yK rfl #[.agg #[.int .i64 a0_0, .int .i64 a0_1, .string a0_2]] rfl yG ?_; (with_reducible refine (ops_one.calls a0_0 a0_1 a0_2 t110 _ A2.out).mono ?_); rintro e w5 ⟨rfl, hb⟩; refine ⟨_, rfl, ?_⟩; replace BK109 := aM (blk_below (g := gb109) (o := .cells #[.int .i64 a0_0, .int .i64 a0_1, .string a0_2] 34 (0, 0)) (by (with_reducible repeat (first | refine blk_drewN ?_ _ | refine blk_drew ?_ | refine blk_alloc ?_ _)); exact BK109.out) hb); replace HB := aM (below_step (yBg GE109.out) hb); clear hb))
 go_ret
 exact ⟨yE2, yBg GE109.out⟩
set_option maxHeartbeats 8000000 in
set_option maxRecDepth 100000 in
theorem ops_count.calls (k : Nat) (A0 : Option Addr) (c0 : Nat) (l0 : List (Op)) (a1 : Int) (r : Int) (w : World) (hr0 : Kd.C kOp w A0 l0.length l0) (hc0 : l0.length ≤ c0) (h : ops_count.f k l0 a1 = some r) :
  Calls Try.prog 52 #[.slice A0 l0.length c0, .int .i64 a1] w fun e w' => e = .returned (.int .i64 r) ∧ Below w.heap.size w w' := by
 have hu34 := Try.underlying34
 have HR0 := aM hr0
 have HC0 := aM hc0
 clear hr0 hc0
 have HB := aM (Below.refl w.heap.size w)
 have H : (ops_count.l0 k a1 0 l0 (l0.length : Int) 0) = some r := h
 clear h
 have H' := aM H
 clear H
 go_enter Try.func52, Try.ntmps52
 go_wp2
 go_loopg [5, 10] k (fun kq v5 v10 w' => ∃ (x5_1 : Int) (x10_1 : Int), v5 = .int .i64 x5_1 ∧ v10 = .int .i64 x10_1 ∧ Aside0 (ops_count.l0 kq a1 x5_1 l0 (l0.length : Int) x10_1 = some r) ∧ Aside0 (kq ≤ k) ∧ Aside0 (Below w.heap.size w w'))
 case atStart => exact ⟨(0), (0), yE, yE, H', ⟨Nat.le_refl _⟩, ⟨yB⟩⟩
 case round =>
  clear H'; (try clear p2); obtain ⟨x5_1, x10_1, rfl, rfl, HA, HK1, HB⟩ := hrel; cases gk with
  | zero => exact absurd HA.out (by simp [ops_count.l0])
  | succ k1 =>
   have H := HA.out; clear HA; simp only [ops_count.l0] at H
   by_cases c3 : x10_1 < (l0.length : Int)
   ·rw [if_pos c3] at H
    have c3b0 := decide_eq_true c3; clear c3
    by_cases c4 : 0 ≤ x10_1
    ·rw [if_pos c4] at H
     have c4b0 := decide_eq_true c4; clear c4
     by_cases c5 : x10_1 < (l0.length : Int)
     ·rw [if_pos c5] at H
      have c5b0 := decide_eq_true c5; clear c5
      by_cases c6 : ((rd_Op l0 x10_1).f0) = 1
      ·rw [if_pos c6] at H
       have c6b0 := beq_iff_eq.mpr c6; have c6b1 := bne_eq_false_iff_eq.mpr c6; clear c6; obtain ⟨ji7, hji7⟩ : ∃ j_ : Int, (mn ((rd_Op l0 x10_1).f1) 1099511627776) = j_ := ⟨_, rfl⟩; replace H : (ops_count.l0 k1 a1 (mn (wrap64 (x5_1 + (mx 0 (ji7)))) 1099511627776) l0 (l0.length : Int) (wrap64 (x10_1 + 1))) = some r := by first | (rw [hji7] at H; exact H) | (simp only [hji7] at H ⊢; exact H)
       have hji7_ : (if 1099511627776 < ((rd_Op l0 x10_1).f1) then 1099511627776 else ((rd_Op l0 x10_1).f1)) = ji7 := hji7; obtain ⟨ji8, hji8⟩ : ∃ j_ : Int, (mx 0 (ji7)) = j_ := ⟨_, rfl⟩; replace H : (ops_count.l0 k1 a1 (mn (wrap64 (x5_1 + (ji8))) 1099511627776) l0 (l0.length : Int) (wrap64 (x10_1 + 1))) = some r := by first | (rw [hji8] at H; exact H) | (simp only [hji8] at H ⊢; exact H)
       have hji8_ : (if 0 < (ji7) then (ji7) else 0) = ji8 := hji8; obtain ⟨ji9, hji9⟩ : ∃ j_ : Int, (mn (wrap64 (x5_1 + (ji8))) 1099511627776) = j_ := ⟨_, rfl⟩; replace H : (ops_count.l0 k1 a1 ji9 l0 (l0.length : Int) (wrap64 (x10_1 + 1))) = some r := by first | (rw [hji9] at H; exact H) | (simp only [hji9] at H ⊢; exact H)
       have hji9_ : (if 1099511627776 < (wrap64 (x5_1 + (ji8))) then 1099511627776 else (wrap64 (x5_1 + (ji8)))) = ji9 := hji9; have H' := aM H; clear H; have p111 : 0 ≤ (x10_1 : Int) := yO; have q111 : x10_1 < (l0.length : Int) := yO; obtain ⟨ad111, e111, hx111_0, hx111_1, hx111_2⟩ := at_OpB HB.out HR0.out x10_1 p111 q111; cases e111; replace p111 := eq_true p111; replace q111 := eq_true q111
       go_wp2_with (first | ((with_reducible refine gate_dst (N := 7) rfl ?_); refine box_event yR (N := 7) yR (cs := #[.int .i64 0, .int .i64 0, .string (⟨#[]⟩ : ByteArray)]) (t := 34) yQ ?_; intro gb112 hg w10 hbox hb; have BK112 := aM (hbox); have GW112 := aM ((yS : w.heap.size ≤ gb112)); have GE112 := aM ((yS : w.heap.size ≤ gb112)); replace HB := aM (below_step yB hb); clear hb hbox hg; obtain ⟨hcz11_0, hcz11_1, hcz11_2, hfz11_0, hfz11_1, hfz11_2⟩ := blk3 BK112.out))
       go_roundg k1
       case measure => have := HK1.out; omega
       case rel => exact ⟨(ji9), (wrap64 (x10_1 + 1)), (by first | rfl | (simp; done) | (simp only [← hji9] <;> (first | rfl | simp)) | (simp [*]; done)), yE, H', ⟨by have := HK1.out; omega⟩, ⟨yBg GE112.out⟩⟩
      ·rw [if_neg c6] at H
       have c6b0 := beq_eq_false_iff_ne.mpr c6; have c6b1 := bne_iff_ne.mpr c6
       by_cases c12 : ((rd_Op l0 x10_1).f0) = 2
       ·rw [if_pos c12] at H
        have c12b0 := beq_iff_eq.mpr c12; have c12b1 := bne_eq_false_iff_eq.mpr c12; clear c12; obtain ⟨ji13, hji13⟩ : ∃ j_ : Int, (mn (wrap64 (x5_1 + 1)) 1099511627776) = j_ := ⟨_, rfl⟩; replace H : (ops_count.l0 k1 a1 ji13 l0 (l0.length : Int) (wrap64 (x10_1 + 1))) = some r := by first | (rw [hji13] at H; exact H) | (simp only [hji13] at H ⊢; exact H)
        have hji13_ : (if 1099511627776 < (wrap64 (x5_1 + 1)) then 1099511627776 else (wrap64 (x5_1 + 1))) = ji13 := hji13; have H' := aM H; clear H; have p111 : 0 ≤ (x10_1 : Int) := yO; have q111 : x10_1 < (l0.length : Int) := yO; obtain ⟨ad111, e111, hx111_0, hx111_1, hx111_2⟩ := at_OpB HB.out HR0.out x10_1 p111 q111; cases e111; replace p111 := eq_true p111; replace q111 := eq_true q111
        go_wp2_with (first | ((with_reducible refine gate_dst (N := 7) rfl ?_); refine box_event yR (N := 7) yR (cs := #[.int .i64 0, .int .i64 0, .string (⟨#[]⟩ : ByteArray)]) (t := 34) yQ ?_; intro gb112 hg w14 hbox hb; have BK112 := aM (hbox); have GW112 := aM ((yS : w.heap.size ≤ gb112)); have GE112 := aM ((yS : w.heap.size ≤ gb112)); replace HB := aM (below_step yB hb); clear hb hbox hg; obtain ⟨hcz15_0, hcz15_1, hcz15_2, hfz15_0, hfz15_1, hfz15_2⟩ := blk3 BK112.out))
        go_roundg k1
        case measure => have := HK1.out; omega
        case rel => exact ⟨(ji13), (wrap64 (x10_1 + 1)), (by first | rfl | (simp; done) | (simp only [← hji13] <;> (first | rfl | simp)) | (simp [*]; done)), yE, H', ⟨by have := HK1.out; omega⟩, ⟨yBg GE112.out⟩⟩
       ·rw [if_neg c12] at H
        have c12b0 := beq_eq_false_iff_ne.mpr c12; have c12b1 := bne_iff_ne.mpr c12
        by_cases c16 : ((rd_Op l0 x10_1).f0) = a1
        ·rw [if_pos c16] at H
         have c16b0 := beq_iff_eq.mpr c16; have c16b1 := bne_eq_false_iff_eq.mpr c16; clear c16; obtain ⟨ji17, hji17⟩ : ∃ j_ : Int, (mn (wrap64 (x5_1 + 1)) 1099511627776) = j_ := ⟨_, rfl⟩; replace H : (ops_count.l0 k1 a1 ji17 l0 (l0.length : Int) (wrap64 (x10_1 + 1))) = some r := by first | (rw [hji17] at H; exact H) | (simp only [hji17] at H ⊢; exact H)
         have hji17_ : (if 1099511627776 < (wrap64 (x5_1 + 1)) then 1099511627776 else (wrap64 (x5_1 + 1))) = ji17 := hji17; have H' := aM H; clear H; have p111 : 0 ≤ (x10_1 : Int) := yO; have q111 : x10_1 < (l0.length : Int) := yO; obtain ⟨ad111, e111, hx111_0, hx111_1, hx111_2⟩ := at_OpB HB.out HR0.out x10_1 p111 q111; cases e111; replace p111 := eq_true p111; replace q111 := eq_true q111
         go_wp2_with (first | ((with_reducible refine gate_dst (N := 7) rfl ?_); refine box_event yR (N := 7) yR (cs := #[.int .i64 0, .int .i64 0, .string (⟨#[]⟩ : ByteArray)]) (t := 34) yQ ?_; intro gb112 hg w18 hbox hb; have BK112 := aM (hbox); have GW112 := aM ((yS : w.heap.size ≤ gb112)); have GE112 := aM ((yS : w.heap.size ≤ gb112)); replace HB := aM (below_step yB hb); clear hb hbox hg; obtain ⟨hcz19_0, hcz19_1, hcz19_2, hfz19_0, hfz19_1, hfz19_2⟩ := blk3 BK112.out))
         go_roundg k1
         case measure => have := HK1.out; omega
         case rel => exact ⟨(ji17), (wrap64 (x10_1 + 1)), (by first | rfl | (simp; done) | (simp only [← hji17] <;> (first | rfl | simp)) | (simp [*]; done)), yE, H', ⟨by have := HK1.out; omega⟩, ⟨yBg GE112.out⟩⟩
        ·rw [if_neg c16] at H
         have c16b0 := beq_eq_false_iff_ne.mpr c16; have c16b1 := bne_iff_ne.mpr c16; obtain ⟨ji20, hji20⟩ : ∃ j_ : Int, (mn x5_1 1099511627776) = j_ := ⟨_, rfl⟩; replace H : (ops_count.l0 k1 a1 ji20 l0 (l0.length : Int) (wrap64 (x10_1 + 1))) = some r := by first | (rw [hji20] at H; exact H) | (simp only [hji20] at H ⊢; exact H)
         have hji20_ : (if 1099511627776 < x5_1 then 1099511627776 else x5_1) = ji20 := hji20; have H' := aM H; clear H; have p111 : 0 ≤ (x10_1 : Int) := yO; have q111 : x10_1 < (l0.length : Int) := yO; obtain ⟨ad111, e111, hx111_0, hx111_1, hx111_2⟩ := at_OpB HB.out HR0.out x10_1 p111 q111; cases e111; replace p111 := eq_true p111; replace q111 := eq_true q111
         go_wp2_with (first | ((with_reducible refine gate_dst (N := 7) rfl ?_); refine box_event yR (N := 7) yR (cs := #[.int .i64 0, .int .i64 0, .string (⟨#[]⟩ : ByteArray)]) (t := 34) yQ ?_; intro gb112 hg w21 hbox hb; have BK112 := aM (hbox); have GW112 := aM ((yS : w.heap.size ≤ gb112)); have GE112 := aM ((yS : w.heap.size ≤ gb112)); replace HB := aM (below_step yB hb); clear hb hbox hg; obtain ⟨hcz22_0, hcz22_1, hcz22_2, hfz22_0, hfz22_1, hfz22_2⟩ := blk3 BK112.out))
         go_roundg k1
         case measure => have := HK1.out; omega
         case rel => exact ⟨(ji20), (wrap64 (x10_1 + 1)), (by first | rfl | (simp; done) | (simp only [← hji20] <;> (first | rfl | simp)) | (simp [*]; done)), yE, H', ⟨by have := HK1.out; omega⟩, ⟨yBg GE112.out⟩⟩
     ·rw [if_neg c5] at H
      exact absurd H (by simp)
    ·rw [if_neg c4] at H
     exact absurd H (by simp)
   ·rw [if_neg c3] at H
    have c3b0 := decide_eq_false c3; clear c3; obtain rfl := Option.some.inj H
    go_wp2
    go_ret
    exact ⟨yE2, yB⟩
set_option maxHeartbeats 8000000 in
set_option maxRecDepth 100000 in
theorem ops_Olds.calls (k : Nat) (A0 : Option Addr) (c0 : Nat) (l0 : List (Op)) (r : Int) (w : World) (hr0 : Kd.C kOp w A0 l0.length l0) (hc0 : l0.length ≤ c0) (h : ops_Olds.f k l0 = some r) :
  Calls Try.prog 29 #[.slice A0 l0.length c0] w fun e w' => e = .returned (.int .i64 r) ∧ Below w.heap.size w w' := by
 have HR0 := aM hr0
 have HC0 := aM hc0
 clear hr0 hc0
 have HB := aM (Below.refl w.heap.size w)
 have H : ((ops_count.f k l0 3).bind fun t113 => (some t113)) = some r := h
 clear h
 replace H := oB H; obtain ⟨t113, A2, H⟩ := H
 obtain rfl := Option.some.inj H
 go_enter Try.func29, Try.ntmps29
 go_wp2_with (first | ((with_reducible refine gate_callee (f := 52) rfl ?_); refine goesL_ (some 4) rfl rfl Try.func52 yK rfl #[.slice A0 l0.length c0, .int .i64 3] rfl yG ?_; (with_reducible refine (ops_count.calls k _ _ l0 3 t113 _ (yC HR0.out) HC0.out A2.out).mono ?_); rintro e w3 ⟨rfl, hb⟩; refine ⟨_, rfl, ?_⟩; replace HB := aM (below_step yB hb); clear hb))
 go_ret
 exact ⟨yE2, yB⟩
set_option maxHeartbeats 8000000 in
set_option maxRecDepth 100000 in
theorem ops_News.calls (k : Nat) (A0 : Option Addr) (c0 : Nat) (l0 : List (Op)) (r : Int) (w : World) (hr0 : Kd.C kOp w A0 l0.length l0) (hc0 : l0.length ≤ c0) (h : ops_News.f k l0 = some r) :
  Calls Try.prog 30 #[.slice A0 l0.length c0] w fun e w' => e = .returned (.int .i64 r) ∧ Below w.heap.size w w' := by
 have HR0 := aM hr0
 have HC0 := aM hc0
 clear hr0 hc0
 have HB := aM (Below.refl w.heap.size w)
 have H : ((ops_count.f k l0 4).bind fun t114 => (some t114)) = some r := h
 clear h
 replace H := oB H; obtain ⟨t114, A2, H⟩ := H
 obtain rfl := Option.some.inj H
 go_enter Try.func30, Try.ntmps30
 go_wp2_with (first | ((with_reducible refine gate_callee (f := 52) rfl ?_); refine goesL_ (some 4) rfl rfl Try.func52 yK rfl #[.slice A0 l0.length c0, .int .i64 4] rfl yG ?_; (with_reducible refine (ops_count.calls k _ _ l0 4 t114 _ (yC HR0.out) HC0.out A2.out).mono ?_); rintro e w3 ⟨rfl, hb⟩; refine ⟨_, rfl, ?_⟩; replace HB := aM (below_step yB hb); clear hb))
 go_ret
 exact ⟨yE2, yB⟩
set_option maxHeartbeats 8000000 in
set_option maxRecDepth 100000 in
theorem strings_HasSuffix.calls (a0 : ByteArray) (a1 : ByteArray) (r : Bool) (w : World) (h : strings_HasSuffix.f a0 a1 = some r) :
  Calls Try.prog 62 #[.string a0, .string a1] w fun e w' => e = .returned (.bool r) ∧ Drawn0 w w' := by
 have H : ((stringslite_HasSuffix.f a0 a1).bind fun t115 => (some t115)) = some r := h
 clear h
 replace H := oB H; obtain ⟨t115, A3, H⟩ := H
 obtain rfl := Option.some.inj H
 go_enter Try.func62, Try.ntmps62
 go_wp2_with (first | ((with_reducible refine gate_callee (f := 65) rfl ?_); refine goesL_ (some 7) rfl rfl Try.func65 yK rfl #[.string a0, .string a1] rfl yG ?_; (with_reducible refine (stringslite_HasSuffix.calls a0 a1 t115 _ A3.out).mono ?_); rintro e w' ⟨rfl, ⟨nd, rfl⟩⟩; refine ⟨_, rfl, ?_⟩))
 go_ret
 exact ⟨yE, yD⟩
set_option maxHeartbeats 8000000 in
set_option maxRecDepth 100000 in
theorem lines_Closed.calls (a0 : ByteArray) (r : Bool) (w : World) (h : lines_Closed.f a0 = some r) :
  Calls Try.prog 58 #[.string a0] w fun e w' => e = .returned (.bool r) ∧ Drawn0 w w' := by
 have H : ((strings_HasSuffix.f a0 (⟨#[10]⟩ : ByteArray)).bind fun t116 => (some t116)) = some r := h
 clear h
 replace H := oB H; obtain ⟨t116, A2, H⟩ := H
 obtain rfl := Option.some.inj H
 go_enter Try.func58, Try.ntmps58
 go_wp2_with (first | ((with_reducible refine gate_callee (f := 62) rfl ?_); refine goesL_ (some 4) rfl rfl Try.func62 yK rfl #[.string a0, .string (⟨#[10]⟩ : ByteArray)] rfl yG ?_; (with_reducible refine (strings_HasSuffix.calls a0 (⟨#[10]⟩ : ByteArray) t116 _ A2.out).mono ?_); rintro e w' ⟨rfl, ⟨nd, rfl⟩⟩; refine ⟨_, rfl, ?_⟩))
 go_ret
 exact ⟨yE, yD⟩
set_option maxHeartbeats 8000000 in
set_option maxRecDepth 100000 in
theorem slices_IndexFunc_Op_ops_Right_1.calls (k : Nat) (A0 : Option Addr) (c0 : Nat) (l0 : List (Op))  (r : Int) (w : World) (hr0 : Kd.C kOp w A0 l0.length l0) (hc0 : l0.length ≤ c0) (h : slices_IndexFunc_Op_ops_Right_1.f k l0 = some r) :
  Calls Try.prog 59 #[.slice A0 l0.length c0, .func (.func 48) #[] #[]] w fun e w' => e = .returned (.int .i64 r) ∧ Below w.heap.size w w' := by
 have hu34 := Try.underlying34
 have HR0 := aM hr0
 have HC0 := aM hc0
 clear hr0 hc0
 have HB := aM (Below.refl w.heap.size w)
 have H : (slices_IndexFunc_Op_ops_Right_1.l0 k l0 (l0.length : Int) 0) = some r := h
 clear h
 have H' := aM H
 clear H
 go_enter Try.func59, Try.ntmps59
 go_wp2
 go_loopg [8] k (fun kq v8 w' => ∃ (x8_1 : Int), v8 = .int .i64 x8_1 ∧ Aside0 (slices_IndexFunc_Op_ops_Right_1.l0 kq l0 (l0.length : Int) x8_1 = some r) ∧ Aside0 (kq ≤ k) ∧ Aside0 (Below w.heap.size w w'))
 case atStart => exact ⟨(0), yE, H', ⟨Nat.le_refl _⟩, ⟨yB⟩⟩
 case round =>
  clear H'; (try clear p2); obtain ⟨x8_1, rfl, HA, HK1, HB⟩ := hrel; cases gk with
  | zero => exact absurd HA.out (by simp [slices_IndexFunc_Op_ops_Right_1.l0])
  | succ k1 =>
   have H := HA.out; clear HA; simp only [slices_IndexFunc_Op_ops_Right_1.l0] at H
   by_cases c3 : x8_1 < (l0.length : Int)
   ·rw [if_pos c3] at H
    have c3b0 := decide_eq_true c3; clear c3
    by_cases c4 : 0 ≤ x8_1
    ·rw [if_pos c4] at H
     have c4b0 := decide_eq_true c4; clear c4
     by_cases c5 : x8_1 < (l0.length : Int)
     ·rw [if_pos c5] at H
      have c5b0 := decide_eq_true c5; clear c5; replace H := oB H; obtain ⟨t118, A6, H⟩ := H
      by_cases c7 : t118 = true
      ·subst c7
       replace H := iT H; obtain rfl := Option.some.inj H; have p117 : 0 ≤ (x8_1 : Int) := yO; have q117 : x8_1 < (l0.length : Int) := yO; obtain ⟨ad117, e117, hx117_0, hx117_1, hx117_2⟩ := at_OpB HB.out HR0.out x8_1 p117 q117; cases e117; replace p117 := eq_true p117; replace q117 := eq_true q117
       go_wp2_with (first | ((with_reducible refine gate_value (c := 11) rfl ?_); refine goesV_ (c := 11) (some 16) rfl rfl Try.func48 yK rfl #[.agg #[.int .i64 ((rd_Op l0 x8_1).f0), .int .i64 ((rd_Op l0 x8_1).f1), .string ((rd_Op l0 x8_1).f2)]] rfl rfl yG ?_; (with_reducible refine (ops_Right_1.calls ((rd_Op l0 x8_1).f0) ((rd_Op l0 x8_1).f1) ((rd_Op l0 x8_1).f2) true _ A6.out).mono ?_); rintro e w8 ⟨rfl, hb⟩; refine ⟨_, rfl, ?_⟩; replace HB := aM (below_step yB hb); clear hb))
       go_ret
       exact ⟨yE2, yB⟩
      ·replace c7 := Bool.eq_false_iff.mpr c7
       subst c7; have H' := aM (iF H); clear H; have p117 : 0 ≤ (x8_1 : Int) := yO; have q117 : x8_1 < (l0.length : Int) := yO; obtain ⟨ad117, e117, hx117_0, hx117_1, hx117_2⟩ := at_OpB HB.out HR0.out x8_1 p117 q117; cases e117; replace p117 := eq_true p117; replace q117 := eq_true q117
       go_wp2_with (first | ((with_reducible refine gate_value (c := 11) rfl ?_); refine goesV_ (c := 11) (some 16) rfl rfl Try.func48 yK rfl #[.agg #[.int .i64 ((rd_Op l0 x8_1).f0), .int .i64 ((rd_Op l0 x8_1).f1), .string ((rd_Op l0 x8_1).f2)]] rfl rfl yG ?_; (with_reducible refine (ops_Right_1.calls ((rd_Op l0 x8_1).f0) ((rd_Op l0 x8_1).f1) ((rd_Op l0 x8_1).f2) false _ A6.out).mono ?_); rintro e w9 ⟨rfl, hb⟩; refine ⟨_, rfl, ?_⟩; replace HB := aM (below_step yB hb); clear hb))
       go_roundg k1
       case measure => have := HK1.out; omega
       case rel => exact ⟨(wrap64 (x8_1 + 1)), yE, H', ⟨by have := HK1.out; omega⟩, ⟨yB⟩⟩
     ·rw [if_neg c5] at H
      exact absurd H (by simp)
    ·rw [if_neg c4] at H
     exact absurd H (by simp)
   ·rw [if_neg c3] at H
    have c3b0 := decide_eq_false c3; clear c3; obtain rfl := Option.some.inj H
    go_wp2
    go_ret
    exact ⟨yE2, yB⟩
set_option maxHeartbeats 8000000 in
set_option maxRecDepth 100000 in
theorem slices_ContainsFunc_Op_ops_Right_1.calls (k : Nat) (A0 : Option Addr) (c0 : Nat) (l0 : List (Op))  (r : Bool) (w : World) (hr0 : Kd.C kOp w A0 l0.length l0) (hc0 : l0.length ≤ c0) (h : slices_ContainsFunc_Op_ops_Right_1.f k l0 = some r) :
  Calls Try.prog 47 #[.slice A0 l0.length c0, .func (.func 48) #[] #[]] w fun e w' => e = .returned (.bool r) ∧ Below w.heap.size w w' := by
 have HR0 := aM hr0
 have HC0 := aM hc0
 clear hr0 hc0
 have HB := aM (Below.refl w.heap.size w)
 have H : ((slices_IndexFunc_Op_ops_Right_1.f k l0).bind fun t119 => (some (decide (t119 ≥ 0)))) = some r := h
 clear h
 replace H := oB H; obtain ⟨t119, A3, H⟩ := H
 obtain rfl := Option.some.inj H
 go_enter Try.func47, Try.ntmps47
 go_wp2_with (first | ((with_reducible refine gate_callee (f := 59) rfl ?_); refine goesL_ (some 7) rfl rfl Try.func59 yK rfl #[.slice A0 l0.length c0, .func (.func 48) #[] #[]] rfl yG ?_; (with_reducible refine (slices_IndexFunc_Op_ops_Right_1.calls k _ _ l0  t119 _ (yC HR0.out) HC0.out A3.out).mono ?_); rintro e w4 ⟨rfl, hb⟩; refine ⟨_, rfl, ?_⟩; replace HB := aM (below_step yB hb); clear hb))
 go_ret
 exact ⟨yE2, yB⟩
set_option maxHeartbeats 8000000 in
set_option maxRecDepth 100000 in
theorem ops_closed_ops_Old.calls (k : Nat) (A0 : Option Addr) (c0 : Nat) (l0 : List (Op))  (r : Bool) (w : World) (hr0 : Kd.C kOp w A0 l0.length l0) (hc0 : l0.length ≤ c0) (h : ops_closed_ops_Old.f k l0 = some r) :
  Calls Try.prog 50 #[.slice A0 l0.length c0, .func (.func 39) #[] #[]] w fun e w' => e = .returned (.bool r) ∧ Below w.heap.size w w' := by
 have hu34 := Try.underlying34
 have HR0 := aM hr0
 have HC0 := aM hc0
 clear hr0 hc0
 have HB := aM (Below.refl w.heap.size w)
 have H : (ops_closed_ops_Old.l0 k false l0 (l0.length : Int) 0) = some r := h
 clear h
 have H' := aM H
 clear H
 go_enter Try.func50, Try.ntmps50
 go_wp2
 go_loopg [5, 10] k (fun kq v5 v10 w' => ∃ (x5_1 : Bool) (x10_1 : Int), v5 = .bool x5_1 ∧ v10 = .int .i64 x10_1 ∧ Aside0 (ops_closed_ops_Old.l0 kq x5_1 l0 (l0.length : Int) x10_1 = some r) ∧ Aside0 (kq ≤ k) ∧ Aside0 (Below w.heap.size w w'))
 case atStart => exact ⟨(false), (0), yE, yE, H', ⟨Nat.le_refl _⟩, ⟨yB⟩⟩
 case round =>
  clear H'; (try clear p2); obtain ⟨x5_1, x10_1, rfl, rfl, HA, HK1, HB⟩ := hrel; cases gk with
  | zero => exact absurd HA.out (by simp [ops_closed_ops_Old.l0])
  | succ k1 =>
   have H := HA.out; clear HA; simp only [ops_closed_ops_Old.l0] at H
   by_cases c3 : x10_1 < (l0.length : Int)
   ·rw [if_pos c3] at H
    have c3b0 := decide_eq_true c3; clear c3
    by_cases c4 : 0 ≤ x10_1
    ·rw [if_pos c4] at H
     have c4b0 := decide_eq_true c4; clear c4
     by_cases c5 : x10_1 < (l0.length : Int)
     ·rw [if_pos c5] at H
      have c5b0 := decide_eq_true c5; clear c5; replace H := oB H; obtain ⟨t122, A6, H⟩ := H
      by_cases c7 : t122 = true
      ·subst c7
       replace H := iT H
       by_cases c8 : x5_1 = true
       ·subst c8
        replace H := iT H; obtain rfl := Option.some.inj H; have p120 : 0 ≤ (x10_1 : Int) := yO; have q120 : x10_1 < (l0.length : Int) := yO; obtain ⟨ad120, e120, hx120_0, hx120_1, hx120_2⟩ := at_OpB HB.out HR0.out x10_1 p120 q120; cases e120; replace p120 := eq_true p120; replace q120 := eq_true q120
        go_wp2_with (first | ((with_reducible refine gate_dst (N := 7) rfl ?_); refine box_event yR (N := 7) yR (cs := #[.int .i64 0, .int .i64 0, .string (⟨#[]⟩ : ByteArray)]) (t := 34) yQ ?_; intro gb121 hg w9 hbox hb; have BK121 := aM (hbox); have GW121 := aM ((yS : w.heap.size ≤ gb121)); have GE121 := aM ((yS : w.heap.size ≤ gb121)); replace HB := aM (below_step yB hb); clear hb hbox hg; obtain ⟨hcz10_0, hcz10_1, hcz10_2, hfz10_0, hfz10_1, hfz10_2⟩ := blk3 BK121.out) | ((with_reducible refine gate_value (c := 14) rfl ?_); refine goesV_ (c := 14) (some 17) rfl rfl Try.func39 yK rfl #[.int .i64 ((rd_Op l0 x10_1).f0)] rfl rfl yG ?_; (with_reducible refine (ops_Old.calls ((rd_Op l0 x10_1).f0) true _ A6.out).mono ?_); rintro e w' ⟨rfl, ⟨nd, rfl⟩⟩; refine ⟨_, rfl, ?_⟩))
        go_ret
        exact ⟨yE2, yBg GE121.out⟩
       ·replace c8 := Bool.eq_false_iff.mpr c8
        subst c8; replace H := iF H
        by_cases c11 : ((rd_Op l0 x10_1).f0) = 1
        ·rw [if_pos c11] at H
         have c11b0 := beq_iff_eq.mpr c11; have c11b1 := bne_eq_false_iff_eq.mpr c11; clear c11; have H' := aM H; clear H; have p120 : 0 ≤ (x10_1 : Int) := yO; have q120 : x10_1 < (l0.length : Int) := yO; obtain ⟨ad120, e120, hx120_0, hx120_1, hx120_2⟩ := at_OpB HB.out HR0.out x10_1 p120 q120; cases e120; replace p120 := eq_true p120; replace q120 := eq_true q120
         go_wp2_with (first | ((with_reducible refine gate_dst (N := 7) rfl ?_); refine box_event yR (N := 7) yR (cs := #[.int .i64 0, .int .i64 0, .string (⟨#[]⟩ : ByteArray)]) (t := 34) yQ ?_; intro gb121 hg w12 hbox hb; have BK121 := aM (hbox); have GW121 := aM ((yS : w.heap.size ≤ gb121)); have GE121 := aM ((yS : w.heap.size ≤ gb121)); replace HB := aM (below_step yB hb); clear hb hbox hg; obtain ⟨hcz13_0, hcz13_1, hcz13_2, hfz13_0, hfz13_1, hfz13_2⟩ := blk3 BK121.out) | ((with_reducible refine gate_value (c := 14) rfl ?_); refine goesV_ (c := 14) (some 17) rfl rfl Try.func39 yK rfl #[.int .i64 ((rd_Op l0 x10_1).f0)] rfl rfl yG ?_; (with_reducible refine (ops_Old.calls ((rd_Op l0 x10_1).f0) true _ A6.out).mono ?_); rintro e w' ⟨rfl, ⟨nd, rfl⟩⟩; refine ⟨_, rfl, ?_⟩))
         go_roundg k1
         case measure => have := HK1.out; omega
         case rel => exact ⟨(false), (wrap64 (x10_1 + 1)), yE, yE, H', ⟨by have := HK1.out; omega⟩, ⟨yBg GE121.out⟩⟩
        ·rw [if_neg c11] at H
         have c11b0 := beq_eq_false_iff_ne.mpr c11; have c11b1 := bne_iff_ne.mpr c11; replace H := oB H; obtain ⟨t123, A14, H⟩ := H; have H' := aM H; clear H; have p120 : 0 ≤ (x10_1 : Int) := yO; have q120 : x10_1 < (l0.length : Int) := yO; obtain ⟨ad120, e120, hx120_0, hx120_1, hx120_2⟩ := at_OpB HB.out HR0.out x10_1 p120 q120; cases e120; replace p120 := eq_true p120; replace q120 := eq_true q120
         go_wp2_with (first | ((with_reducible refine gate_dst (N := 7) rfl ?_); refine box_event yR (N := 7) yR (cs := #[.int .i64 0, .int .i64 0, .string (⟨#[]⟩ : ByteArray)]) (t := 34) yQ ?_; intro gb121 hg w15 hbox hb; have BK121 := aM (hbox); have GW121 := aM ((yS : w.heap.size ≤ gb121)); have GE121 := aM ((yS : w.heap.size ≤ gb121)); replace HB := aM (below_step yB hb); clear hb hbox hg; obtain ⟨hcz16_0, hcz16_1, hcz16_2, hfz16_0, hfz16_1, hfz16_2⟩ := blk3 BK121.out) | ((with_reducible refine gate_value (c := 14) rfl ?_); refine goesV_ (c := 14) (some 17) rfl rfl Try.func39 yK rfl #[.int .i64 ((rd_Op l0 x10_1).f0)] rfl rfl yG ?_; (with_reducible refine (ops_Old.calls ((rd_Op l0 x10_1).f0) true _ A6.out).mono ?_); rintro e w' ⟨rfl, ⟨nd, rfl⟩⟩; refine ⟨_, rfl, ?_⟩) | (go_at_call 58; (with_reducible refine (lines_Closed.calls ((rd_Op l0 x10_1).f2) t123 _ A14.out).mono ?_); rintro e w' ⟨rfl, ⟨nd, rfl⟩⟩))
         go_roundg k1
         case measure => have := HK1.out; omega
         case rel => exact ⟨(!t123), (wrap64 (x10_1 + 1)), yE, yE, H', ⟨by have := HK1.out; omega⟩, ⟨yBg GE121.out⟩⟩
      ·replace c7 := Bool.eq_false_iff.mpr c7
       subst c7; have H' := aM (iF H); clear H; have p120 : 0 ≤ (x10_1 : Int) := yO; have q120 : x10_1 < (l0.length : Int) := yO; obtain ⟨ad120, e120, hx120_0, hx120_1, hx120_2⟩ := at_OpB HB.out HR0.out x10_1 p120 q120; cases e120; replace p120 := eq_true p120; replace q120 := eq_true q120
       go_wp2_with (first | ((with_reducible refine gate_dst (N := 7) rfl ?_); refine box_event yR (N := 7) yR (cs := #[.int .i64 0, .int .i64 0, .string (⟨#[]⟩ : ByteArray)]) (t := 34) yQ ?_; intro gb121 hg w17 hbox hb; have BK121 := aM (hbox); have GW121 := aM ((yS : w.heap.size ≤ gb121)); have GE121 := aM ((yS : w.heap.size ≤ gb121)); replace HB := aM (below_step yB hb); clear hb hbox hg; obtain ⟨hcz18_0, hcz18_1, hcz18_2, hfz18_0, hfz18_1, hfz18_2⟩ := blk3 BK121.out) | ((with_reducible refine gate_value (c := 14) rfl ?_); refine goesV_ (c := 14) (some 17) rfl rfl Try.func39 yK rfl #[.int .i64 ((rd_Op l0 x10_1).f0)] rfl rfl yG ?_; (with_reducible refine (ops_Old.calls ((rd_Op l0 x10_1).f0) false _ A6.out).mono ?_); rintro e w' ⟨rfl, ⟨nd, rfl⟩⟩; refine ⟨_, rfl, ?_⟩))
       go_roundg k1
       case measure => have := HK1.out; omega
       case rel => exact ⟨(x5_1), (wrap64 (x10_1 + 1)), yE, yE, H', ⟨by have := HK1.out; omega⟩, ⟨yBg GE121.out⟩⟩
     ·rw [if_neg c5] at H
      exact absurd H (by simp)
    ·rw [if_neg c4] at H
     exact absurd H (by simp)
   ·rw [if_neg c3] at H
    have c3b0 := decide_eq_false c3; clear c3; obtain rfl := Option.some.inj H
    go_wp2
    go_ret
    exact ⟨yE2, yB⟩
set_option maxHeartbeats 8000000 in
set_option maxRecDepth 100000 in
theorem ops_closed_ops_New.calls (k : Nat) (A0 : Option Addr) (c0 : Nat) (l0 : List (Op))  (r : Bool) (w : World) (hr0 : Kd.C kOp w A0 l0.length l0) (hc0 : l0.length ≤ c0) (h : ops_closed_ops_New.f k l0 = some r) :
  Calls Try.prog 50 #[.slice A0 l0.length c0, .func (.func 51) #[] #[]] w fun e w' => e = .returned (.bool r) ∧ Below w.heap.size w w' := by
 have hu34 := Try.underlying34
 have HR0 := aM hr0
 have HC0 := aM hc0
 clear hr0 hc0
 have HB := aM (Below.refl w.heap.size w)
 have H : (ops_closed_ops_New.l0 k false l0 (l0.length : Int) 0) = some r := h
 clear h
 have H' := aM H
 clear H
 go_enter Try.func50, Try.ntmps50
 go_wp2
 go_loopg [5, 10] k (fun kq v5 v10 w' => ∃ (x5_1 : Bool) (x10_1 : Int), v5 = .bool x5_1 ∧ v10 = .int .i64 x10_1 ∧ Aside0 (ops_closed_ops_New.l0 kq x5_1 l0 (l0.length : Int) x10_1 = some r) ∧ Aside0 (kq ≤ k) ∧ Aside0 (Below w.heap.size w w'))
 case atStart => exact ⟨(false), (0), yE, yE, H', ⟨Nat.le_refl _⟩, ⟨yB⟩⟩
 case round =>
  clear H'; (try clear p2); obtain ⟨x5_1, x10_1, rfl, rfl, HA, HK1, HB⟩ := hrel; cases gk with
  | zero => exact absurd HA.out (by simp [ops_closed_ops_New.l0])
  | succ k1 =>
   have H := HA.out; clear HA; simp only [ops_closed_ops_New.l0] at H
   by_cases c3 : x10_1 < (l0.length : Int)
   ·rw [if_pos c3] at H
    have c3b0 := decide_eq_true c3; clear c3
    by_cases c4 : 0 ≤ x10_1
    ·rw [if_pos c4] at H
     have c4b0 := decide_eq_true c4; clear c4
     by_cases c5 : x10_1 < (l0.length : Int)
     ·rw [if_pos c5] at H
      have c5b0 := decide_eq_true c5; clear c5; replace H := oB H; obtain ⟨t126, A6, H⟩ := H
      by_cases c7 : t126 = true
      ·subst c7
       replace H := iT H
       by_cases c8 : x5_1 = true
       ·subst c8
        replace H := iT H; obtain rfl := Option.some.inj H; have p124 : 0 ≤ (x10_1 : Int) := yO; have q124 : x10_1 < (l0.length : Int) := yO; obtain ⟨ad124, e124, hx124_0, hx124_1, hx124_2⟩ := at_OpB HB.out HR0.out x10_1 p124 q124; cases e124; replace p124 := eq_true p124; replace q124 := eq_true q124
        go_wp2_with (first | ((with_reducible refine gate_dst (N := 7) rfl ?_); refine box_event yR (N := 7) yR (cs := #[.int .i64 0, .int .i64 0, .string (⟨#[]⟩ : ByteArray)]) (t := 34) yQ ?_; intro gb125 hg w9 hbox hb; have BK125 := aM (hbox); have GW125 := aM ((yS : w.heap.size ≤ gb125)); have GE125 := aM ((yS : w.heap.size ≤ gb125)); replace HB := aM (below_step yB hb); clear hb hbox hg; obtain ⟨hcz10_0, hcz10_1, hcz10_2, hfz10_0, hfz10_1, hfz10_2⟩ := blk3 BK125.out) | ((with_reducible refine gate_value (c := 14) rfl ?_); refine goesV_ (c := 14) (some 17) rfl rfl Try.func51 yK rfl #[.int .i64 ((rd_Op l0 x10_1).f0)] rfl rfl yG ?_; (with_reducible refine (ops_New.calls ((rd_Op l0 x10_1).f0) true _ A6.out).mono ?_); rintro e w' ⟨rfl, ⟨nd, rfl⟩⟩; refine ⟨_, rfl, ?_⟩))
        go_ret
        exact ⟨yE2, yBg GE125.out⟩
       ·replace c8 := Bool.eq_false_iff.mpr c8
        subst c8; replace H := iF H
        by_cases c11 : ((rd_Op l0 x10_1).f0) = 1
        ·rw [if_pos c11] at H
         have c11b0 := beq_iff_eq.mpr c11; have c11b1 := bne_eq_false_iff_eq.mpr c11; clear c11; have H' := aM H; clear H; have p124 : 0 ≤ (x10_1 : Int) := yO; have q124 : x10_1 < (l0.length : Int) := yO; obtain ⟨ad124, e124, hx124_0, hx124_1, hx124_2⟩ := at_OpB HB.out HR0.out x10_1 p124 q124; cases e124; replace p124 := eq_true p124; replace q124 := eq_true q124
         go_wp2_with (first | ((with_reducible refine gate_dst (N := 7) rfl ?_); refine box_event yR (N := 7) yR (cs := #[.int .i64 0, .int .i64 0, .string (⟨#[]⟩ : ByteArray)]) (t := 34) yQ ?_; intro gb125 hg w12 hbox hb; have BK125 := aM (hbox); have GW125 := aM ((yS : w.heap.size ≤ gb125)); have GE125 := aM ((yS : w.heap.size ≤ gb125)); replace HB := aM (below_step yB hb); clear hb hbox hg; obtain ⟨hcz13_0, hcz13_1, hcz13_2, hfz13_0, hfz13_1, hfz13_2⟩ := blk3 BK125.out) | ((with_reducible refine gate_value (c := 14) rfl ?_); refine goesV_ (c := 14) (some 17) rfl rfl Try.func51 yK rfl #[.int .i64 ((rd_Op l0 x10_1).f0)] rfl rfl yG ?_; (with_reducible refine (ops_New.calls ((rd_Op l0 x10_1).f0) true _ A6.out).mono ?_); rintro e w' ⟨rfl, ⟨nd, rfl⟩⟩; refine ⟨_, rfl, ?_⟩))
         go_roundg k1
         case measure => have := HK1.out; omega
         case rel => exact ⟨(false), (wrap64 (x10_1 + 1)), yE, yE, H', ⟨by have := HK1.out; omega⟩, ⟨yBg GE125.out⟩⟩
        ·rw [if_neg c11] at H
         have c11b0 := beq_eq_false_iff_ne.mpr c11; have c11b1 := bne_iff_ne.mpr c11; replace H := oB H; obtain ⟨t127, A14, H⟩ := H; have H' := aM H; clear H; have p124 : 0 ≤ (x10_1 : Int) := yO; have q124 : x10_1 < (l0.length : Int) := yO; obtain ⟨ad124, e124, hx124_0, hx124_1, hx124_2⟩ := at_OpB HB.out HR0.out x10_1 p124 q124; cases e124; replace p124 := eq_true p124; replace q124 := eq_true q124
         go_wp2_with (first | ((with_reducible refine gate_dst (N := 7) rfl ?_); refine box_event yR (N := 7) yR (cs := #[.int .i64 0, .int .i64 0, .string (⟨#[]⟩ : ByteArray)]) (t := 34) yQ ?_; intro gb125 hg w15 hbox hb; have BK125 := aM (hbox); have GW125 := aM ((yS : w.heap.size ≤ gb125)); have GE125 := aM ((yS : w.heap.size ≤ gb125)); replace HB := aM (below_step yB hb); clear hb hbox hg; obtain ⟨hcz16_0, hcz16_1, hcz16_2, hfz16_0, hfz16_1, hfz16_2⟩ := blk3 BK125.out) | ((with_reducible refine gate_value (c := 14) rfl ?_); refine goesV_ (c := 14) (some 17) rfl rfl Try.func51 yK rfl #[.int .i64 ((rd_Op l0 x10_1).f0)] rfl rfl yG ?_; (with_reducible refine (ops_New.calls ((rd_Op l0 x10_1).f0) true _ A6.out).mono ?_); rintro e w' ⟨rfl, ⟨nd, rfl⟩⟩; refine ⟨_, rfl, ?_⟩) | (go_at_call 58; (with_reducible refine (lines_Closed.calls ((rd_Op l0 x10_1).f2) t127 _ A14.out).mono ?_); rintro e w' ⟨rfl, ⟨nd, rfl⟩⟩))
         go_roundg k1
         case measure => have := HK1.out; omega
         case rel => exact ⟨(!t127), (wrap64 (x10_1 + 1)), yE, yE, H', ⟨by have := HK1.out; omega⟩, ⟨yBg GE125.out⟩⟩
      ·replace c7 := Bool.eq_false_iff.mpr c7
       subst c7; have H' := aM (iF H); clear H; have p124 : 0 ≤ (x10_1 : Int) := yO; have q124 : x10_1 < (l0.length : Int) := yO; obtain ⟨ad124, e124, hx124_0, hx124_1, hx124_2⟩ := at_OpB HB.out HR0.out x10_1 p124 q124; cases e124; replace p124 := eq_true p124; replace q124 := eq_true q124
       go_wp2_with (first | ((with_reducible refine gate_dst (N := 7) rfl ?_); refine box_event yR (N := 7) yR (cs := #[.int .i64 0, .int .i64 0, .string (⟨#[]⟩ : ByteArray)]) (t := 34) yQ ?_; intro gb125 hg w17 hbox hb; have BK125 := aM (hbox); have GW125 := aM ((yS : w.heap.size ≤ gb125)); have GE125 := aM ((yS : w.heap.size ≤ gb125)); replace HB := aM (below_step yB hb); clear hb hbox hg; obtain ⟨hcz18_0, hcz18_1, hcz18_2, hfz18_0, hfz18_1, hfz18_2⟩ := blk3 BK125.out) | ((with_reducible refine gate_value (c := 14) rfl ?_); refine goesV_ (c := 14) (some 17) rfl rfl Try.func51 yK rfl #[.int .i64 ((rd_Op l0 x10_1).f0)] rfl rfl yG ?_; (with_reducible refine (ops_New.calls ((rd_Op l0 x10_1).f0) false _ A6.out).mono ?_); rintro e w' ⟨rfl, ⟨nd, rfl⟩⟩; refine ⟨_, rfl, ?_⟩))
       go_roundg k1
       case measure => have := HK1.out; omega
       case rel => exact ⟨(x5_1), (wrap64 (x10_1 + 1)), yE, yE, H', ⟨by have := HK1.out; omega⟩, ⟨yBg GE125.out⟩⟩
     ·rw [if_neg c5] at H
      exact absurd H (by simp)
    ·rw [if_neg c4] at H
     exact absurd H (by simp)
   ·rw [if_neg c3] at H
    have c3b0 := decide_eq_false c3; clear c3; obtain rfl := Option.some.inj H
    go_wp2
    go_ret
    exact ⟨yE2, yB⟩
set_option maxHeartbeats 8000000 in
set_option maxRecDepth 100000 in
theorem ops_Right.calls (k : Nat) (A0 : Option Addr) (c0 : Nat) (l0 : List (Op)) (r : Bool) (w : World) (hr0 : Kd.C kOp w A0 l0.length l0) (hc0 : l0.length ≤ c0) (h : ops_Right.f k l0 = some r) :
  Calls Try.prog 28 #[.slice A0 l0.length c0] w fun e w' => e = .returned (.bool r) ∧ Below w.heap.size w w' := by
 have HR0 := aM hr0
 have HC0 := aM hc0
 clear hr0 hc0
 have HB := aM (Below.refl w.heap.size w)
 have H : ((slices_ContainsFunc_Op_ops_Right_1.f k l0).bind fun t128 => (if t128 = true then (some false) else ((ops_Olds.f k l0).bind fun t129 => (if t129 ≤ 2147483648 then ((ops_News.f k l0).bind fun t130 => (if t130 ≤ 2147483648 then ((ops_closed_ops_Old.f k l0).bind fun t131 => (if t131 = true then ((ops_closed_ops_New.f k l0).bind fun t132 => (some t132)) else (some false))) else (some false))) else (some false))))) = some r := h
 clear h
 replace H := oB H; obtain ⟨t128, A2, H⟩ := H
 by_cases c3 : t128 = true
 ·subst c3
  replace H := iT H; obtain rfl := Option.some.inj H
  go_enter Try.func28, Try.ntmps28
  go_wp2_with (first | ((with_reducible refine gate_callee (f := 47) rfl ?_); refine goesL_ (some 4) rfl rfl Try.func47 yK rfl #[.slice A0 l0.length c0, .func (.func 48) #[] #[]] rfl yG ?_; (with_reducible refine (slices_ContainsFunc_Op_ops_Right_1.calls k _ _ l0  true _ (yC HR0.out) HC0.out A2.out).mono ?_); rintro e w4 ⟨rfl, hb⟩; refine ⟨_, rfl, ?_⟩; replace HB := aM (below_step yB hb); clear hb))
  go_ret
  exact ⟨yE2, yB⟩
 ·replace c3 := Bool.eq_false_iff.mpr c3
  subst c3; replace H := iF H; replace H := oB H; obtain ⟨t129, A5, H⟩ := H
  by_cases c6 : t129 ≤ 2147483648
  ·rw [if_pos c6] at H
   have c6b0 := decide_eq_true c6; clear c6; replace H := oB H; obtain ⟨t130, A7, H⟩ := H
   by_cases c8 : t130 ≤ 2147483648
   ·rw [if_pos c8] at H
    have c8b0 := decide_eq_true c8; clear c8; replace H := oB H; obtain ⟨t131, A9, H⟩ := H
    by_cases c10 : t131 = true
    ·subst c10
     replace H := iT H; replace H := oB H; obtain ⟨t132, A11, H⟩ := H; obtain rfl := Option.some.inj H
     go_enter Try.func28, Try.ntmps28
     go_wp2_with (first | ((with_reducible refine gate_callee (f := 47) rfl ?_); refine goesL_ (some 4) rfl rfl Try.func47 yK rfl #[.slice A0 l0.length c0, .func (.func 48) #[] #[]] rfl yG ?_; (with_reducible refine (slices_ContainsFunc_Op_ops_Right_1.calls k _ _ l0  false _ (yC HR0.out) HC0.out A2.out).mono ?_); rintro e w12 ⟨rfl, hb⟩; refine ⟨_, rfl, ?_⟩; replace HB := aM (below_step yB hb); clear hb) | (go_at_call 29; (with_reducible refine (ops_Olds.calls k _ _ l0 t129 _ (yC (Kd.C_below HR0.out HB.out)) HC0.out A5.out).mono ?_); rintro e w13 ⟨rfl, hb⟩; replace HB := aM (below_step yB hb); clear hb) | (go_at_call 30; (with_reducible refine (ops_News.calls k _ _ l0 t130 _ (yC (Kd.C_below HR0.out HB.out)) HC0.out A7.out).mono ?_); rintro e w14 ⟨rfl, hb⟩; replace HB := aM (below_step yB hb); clear hb) | (go_at_call 50; (with_reducible refine (ops_closed_ops_Old.calls k _ _ l0  true _ (yC (Kd.C_below HR0.out HB.out)) HC0.out A9.out).mono ?_); rintro e w15 ⟨rfl, hb⟩; replace HB := aM (below_step yB hb); clear hb) | (go_at_call 50; (with_reducible refine (ops_closed_ops_New.calls k _ _ l0  t132 _ (yC (Kd.C_below HR0.out HB.out)) HC0.out A11.out).mono ?_); rintro e w16 ⟨rfl, hb⟩; replace HB := aM (below_step yB hb); clear hb))
     go_ret
     exact ⟨yE2, yB⟩
    ·replace c10 := Bool.eq_false_iff.mpr c10
     subst c10; replace H := iF H; obtain rfl := Option.some.inj H
     go_enter Try.func28, Try.ntmps28
     go_wp2_with (first | ((with_reducible refine gate_callee (f := 47) rfl ?_); refine goesL_ (some 4) rfl rfl Try.func47 yK rfl #[.slice A0 l0.length c0, .func (.func 48) #[] #[]] rfl yG ?_; (with_reducible refine (slices_ContainsFunc_Op_ops_Right_1.calls k _ _ l0  false _ (yC HR0.out) HC0.out A2.out).mono ?_); rintro e w17 ⟨rfl, hb⟩; refine ⟨_, rfl, ?_⟩; replace HB := aM (below_step yB hb); clear hb) | (go_at_call 29; (with_reducible refine (ops_Olds.calls k _ _ l0 t129 _ (yC (Kd.C_below HR0.out HB.out)) HC0.out A5.out).mono ?_); rintro e w18 ⟨rfl, hb⟩; replace HB := aM (below_step yB hb); clear hb) | (go_at_call 30; (with_reducible refine (ops_News.calls k _ _ l0 t130 _ (yC (Kd.C_below HR0.out HB.out)) HC0.out A7.out).mono ?_); rintro e w19 ⟨rfl, hb⟩; replace HB := aM (below_step yB hb); clear hb) | (go_at_call 50; (with_reducible refine (ops_closed_ops_Old.calls k _ _ l0  false _ (yC (Kd.C_below HR0.out HB.out)) HC0.out A9.out).mono ?_); rintro e w20 ⟨rfl, hb⟩; replace HB := aM (below_step yB hb); clear hb))
     go_ret
     exact ⟨yE2, yB⟩
   ·rw [if_neg c8] at H
    have c8b0 := decide_eq_false c8; clear c8; obtain rfl := Option.some.inj H
    go_enter Try.func28, Try.ntmps28
    go_wp2_with (first | ((with_reducible refine gate_callee (f := 47) rfl ?_); refine goesL_ (some 4) rfl rfl Try.func47 yK rfl #[.slice A0 l0.length c0, .func (.func 48) #[] #[]] rfl yG ?_; (with_reducible refine (slices_ContainsFunc_Op_ops_Right_1.calls k _ _ l0  false _ (yC HR0.out) HC0.out A2.out).mono ?_); rintro e w21 ⟨rfl, hb⟩; refine ⟨_, rfl, ?_⟩; replace HB := aM (below_step yB hb); clear hb) | (go_at_call 29; (with_reducible refine (ops_Olds.calls k _ _ l0 t129 _ (yC (Kd.C_below HR0.out HB.out)) HC0.out A5.out).mono ?_); rintro e w22 ⟨rfl, hb⟩; replace HB := aM (below_step yB hb); clear hb) | (go_at_call 30; (with_reducible refine (ops_News.calls k _ _ l0 t130 _ (yC (Kd.C_below HR0.out HB.out)) HC0.out A7.out).mono ?_); rintro e w23 ⟨rfl, hb⟩; replace HB := aM (below_step yB hb); clear hb))
    go_ret
    exact ⟨yE2, yB⟩
  ·rw [if_neg c6] at H
   have c6b0 := decide_eq_false c6; clear c6; obtain rfl := Option.some.inj H
   go_enter Try.func28, Try.ntmps28
   go_wp2_with (first | ((with_reducible refine gate_callee (f := 47) rfl ?_); refine goesL_ (some 4) rfl rfl Try.func47 yK rfl #[.slice A0 l0.length c0, .func (.func 48) #[] #[]] rfl yG ?_; (with_reducible refine (slices_ContainsFunc_Op_ops_Right_1.calls k _ _ l0  false _ (yC HR0.out) HC0.out A2.out).mono ?_); rintro e w24 ⟨rfl, hb⟩; refine ⟨_, rfl, ?_⟩; replace HB := aM (below_step yB hb); clear hb) | (go_at_call 29; (with_reducible refine (ops_Olds.calls k _ _ l0 t129 _ (yC (Kd.C_below HR0.out HB.out)) HC0.out A5.out).mono ?_); rintro e w25 ⟨rfl, hb⟩; replace HB := aM (below_step yB hb); clear hb))
   go_ret
   exact ⟨yE2, yB⟩
end Go.Proofs.Ytkalkickknjdhaa.P
