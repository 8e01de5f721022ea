-- PRINTED by print.py (a twelfth state) out of the translation. Not trusted: Lean checks it.
import Derived.Test.YtkalkickknjdhaaD
import Derived.Test.YtkalkickknjdhaaDOpsLimits
import Derived.Test.YtkalkickknjdhaaP0
import Derived.Test.YtkalkickknjdhaaP2
import Derived.Test.YtkalkickknjdhaaP6
namespace Go.Proofs.Ytkalkickknjdhaa.P
open Go.RowKit Go.Proofs.YtkalkickknjdhaaW.PrintWords Go.Proofs.YtkalkickknjdhaaW.PrintLast Go.Proofs.YtkalkickknjdhaaW.PrintMore
attribute [local go_sem] max2_int min2_int max_two min_two max_three min_three max_four min_four   -- for this text's walks alone
set_option linter.unusedVariables false
set_option linter.unusedSimpArgs false

/-! ### patchworklaw8_OpsLimits: function 11 -/

set_option maxHeartbeats 8000000 in
set_option maxRecDepth 100000 in
theorem patchworklaw8_OpsLimits.calls (k : Nat) (a0 : Int) (a1 : Int) (r : Bool) (w : World) (h : patchworklaw8_OpsLimits.f k a0 a1 = some r) :
    Calls Try.prog 11 #[.int .i64 a0, .int .i64 a1] w fun e w' => e = .returned (.bool r) ∧ Below w.heap.size w w' := by
  have hu34 := Try.underlying34
  have HB := Aside0.mk (Below.refl w.heap.size w)
  have H : ((patchworklaw8_alive.f k).bind fun t554 => (if t554 = true then ((ops_Right.f k (([(⟨1, a0, (⟨#[]⟩ : ByteArray)⟩ : Op)] : List (Op)))).bind fun t558 => (if a0 ≥ 1 then (patchworklaw8_OpsLimits.j0 k a0 a1 (t558 != (decide (a0 ≤ 2147483648)))) else (patchworklaw8_OpsLimits.j0 k a0 a1 (t558 != false)))) else (some false))) = some r := h
  clear h
  replace H := Option.bind_eq_some_iff.mp H
  obtain ⟨t554, A30, H⟩ := H
  replace H : (if t554 = true then ((ops_Right.f k (([(⟨1, a0, (⟨#[]⟩ : ByteArray)⟩ : Op)] : List (Op)))).bind fun t558 => (if a0 ≥ 1 then (patchworklaw8_OpsLimits.j0 k a0 a1 (t558 != (decide (a0 ≤ 2147483648)))) else (patchworklaw8_OpsLimits.j0 k a0 a1 (t558 != false)))) else (some false)) = some r := H
  have A3 := Aside0.mk A30
  clear A30
  by_cases c4 : t554 = true
  · subst c4
    have H1 : ((ops_Right.f k (([(⟨1, a0, (⟨#[]⟩ : ByteArray)⟩ : Op)] : List (Op)))).bind fun t558 => (if a0 ≥ 1 then (patchworklaw8_OpsLimits.j0 k a0 a1 (t558 != (decide (a0 ≤ 2147483648)))) else (patchworklaw8_OpsLimits.j0 k a0 a1 (t558 != false)))) = some r := by rw [if_pos rfl] at H; exact H
    clear H
    have H := H1
    clear H1
    obtain ⟨y555, hy555⟩ : ∃ y_ : List (Op), y_ = (([(⟨1, a0, (⟨#[]⟩ : ByteArray)⟩ : Op)] : List (Op))) := ⟨_, rfl⟩
    replace H : ((ops_Right.f k y555).bind fun t558 => (if a0 ≥ 1 then (patchworklaw8_OpsLimits.j0 k a0 a1 (t558 != (decide (a0 ≤ 2147483648)))) else (patchworklaw8_OpsLimits.j0 k a0 a1 (t558 != false)))) = some r := by first | (rw [hy555]; with_reducible exact H) | (have H2_ := (Option.bind_some _ _).symm.trans H; rw [hy555]; with_reducible exact H2_) | (have H2_ := (Option.bind_some _ _).symm.trans H; with_reducible exact H2_) | with_reducible exact H | (rw [hy555]; exact H) | exact H
    have Ny555 := Aside0.mk hy555
    clear hy555
    have HC5 := Aside0.mk H
    clear H
    go_enter Try.func11, Try.ntmps11
    go_upto_region 5 with (first | ((with_reducible refine gate_callee (f := 27) rfl ?_); refine goesL_ (some 8) rfl rfl Try.func27 (by kernel_rfl) rfl #[] rfl (by (try simp only [List.map_toArray, List.map_cons, List.map_nil]); first | done | rfl | (simp only [List.length_drop, List.length_take]; rfl)) ?_; (with_reducible refine (patchworklaw8_alive.calls k  true _ A3.out).mono ?_); rintro e w6 ⟨rfl, hb⟩; refine ⟨_, rfl, ?_⟩; have n0_ := Aside0.mk (below_step (by repeat (first | (with_reducible first | exact HB.out | apply below_alloc | apply pw_below_drewN | apply below_drew1) | exact HB.out)) hb); clear HB; have HB := n0_; clear n0_; (try clear hb); (try clear hb2); (try clear hk); (try clear hi)) | ((with_reducible refine gate_dst (N := 13) rfl ?_); refine Kd.R_lit kOp _ 34 ?hg (N := 13) ?hd (xs := ([(⟨1, a0, (⟨#[]⟩ : ByteArray)⟩ : Op)] : List (Op))) (inner := [.int .i64 1, .int .i64 a0, .string (⟨#[]⟩ : ByteArray)]) (ok := fun _ => True) (okp := fun _ => True) ?hr ?hp (fun _ hk => hk) trivial (Below.refl _ _) (Nat.le_refl _) (by simp) ?_; (case hd => rfl); (case hg => rfl); (case hr => first | (go_simp; done) | (go_simp; rfl)); (case hp => exact (Reps.c3 (show Kd.M kOp _ _ _ (⟨1, a0, (⟨#[]⟩ : ByteArray)⟩ : Op) [.int .i64 1, .int .i64 a0, .string (⟨#[]⟩ : ByteArray)] from (kOp_mkM _ _ _ (⟨1, a0, (⟨#[]⟩ : ByteArray)⟩ : Op) )) (Reps.none _ _))); intro v556 w7 ho8 hb hg_ hnew_; clear hg_ hnew_; (first | rw [← Ny555.out] at ho8 | (simp only [Int.reduceToNat] at ho8; rw [← Ny555.out] at ho8)); have n0_ := Aside0.mk (Kd.R_lower ho8 (below_size (by repeat (first | (with_reducible first | exact HB.out | apply below_alloc | apply pw_below_drewN | apply below_drew1) | exact HB.out)))); have n1_ := Aside0.mk (below_step (by repeat (first | (with_reducible first | exact HB.out | apply below_alloc | apply pw_below_drewN | apply below_drew1) | exact HB.out)) hb); clear HB; have HO557 := n0_; have HB := n1_; clear n0_ n1_; clear hb ho8))
    (try simp only [Act.put, List.setIfInBounds_toArray, List.set_cons_zero, List.set_cons_succ])
    go_cut [22] (fun v22 wc => ∃ (kq : Nat) (x22_4 : Bool), v22 = .bool x22_4 ∧ Aside0 (patchworklaw8_OpsLimits.j0 kq a0 a1 x22_4 = some r) ∧ Aside0 (kq ≤ k) ∧ Aside0 (Below w.heap.size w wc))
    case first =>
      have H := HC5.out
      clear HC5
      replace H := Option.bind_eq_some_iff.mp H
      obtain ⟨t558, A90, H⟩ := H
      replace H : (if a0 ≥ 1 then (patchworklaw8_OpsLimits.j0 k a0 a1 (t558 != (decide (a0 ≤ 2147483648)))) else (patchworklaw8_OpsLimits.j0 k a0 a1 (t558 != false))) = some r := H
      have A9 := Aside0.mk A90
      clear A90
      by_cases c10 : a0 ≥ 1
      · rw [if_pos c10] at H
        have c10b0 : decide (1 ≤ a0) = true := decide_eq_true c10
        clear c10
        (first | rw [c10b0] | (simp only [i64_w, i32_w]; rw [c10b0]) | skip)
        have H' := Aside0.mk H
        clear H
        obtain ⟨Ao11, co11, eo11⟩ := Kd.R_slice HO557.out
        subst eo11
        go_wp2_with (first | ((with_reducible refine gate_callee (f := 28) rfl ?_); refine goesL_ (some 15) rfl rfl Try.func28 (by kernel_rfl) rfl #[.slice Ao11 y555.length co11] rfl (by (try simp only [List.map_toArray, List.map_cons, List.map_nil]); first | done | rfl | (simp only [List.length_drop, List.length_take]; rfl)) ?_; (with_reducible refine (ops_Right.calls k _ _ y555 t558 _ ?side1 ?side2 A9.out).mono ?_); (case side1 => repeat (first | exact (Kd.R_reads' HO557.out).2.2 | (with_reducible refine Kd.C_alloc ?_ _) | (with_reducible refine Kd.C_drewN ?_ _) | (with_reducible refine Kd.C_drew ?_))); (case side2 => exact (Kd.R_reads' HO557.out).2.1); rintro e w12 ⟨rfl, hb⟩; refine ⟨_, rfl, ?_⟩; have n0_ := Aside0.mk (Kd.R_below (by (with_reducible repeat (first | apply Kd.R_alloc | apply Kd.R_drewN | apply Kd.R_drew)); exact HO557.out) hb); have n1_ := Aside0.mk (below_step (by repeat (first | (with_reducible first | exact HB.out | apply below_alloc | apply pw_below_drewN | apply below_drew1) | exact HB.out)) hb); clear HO557; clear HB; have HO557 := n0_; have HB := n1_; clear n0_ n1_; (try clear hb); (try clear hb2); (try clear hk); (try clear hi)))
        go_meet
        case rel => exact ⟨_, ((t558 != (decide (a0 ≤ 2147483648)))), (by first | rfl | (simp; done) | (simp [*]; done)), H', ⟨by first | omega | exact Nat.le_refl _⟩, ⟨by repeat (first | (with_reducible first | exact HB.out | apply below_alloc | apply pw_below_drewN | apply below_drew1) | exact HB.out)⟩⟩
      · rw [if_neg c10] at H
        have c10b0 : decide (1 ≤ a0) = false := decide_eq_false c10
        clear c10
        (first | rw [c10b0] | (simp only [i64_w, i32_w]; rw [c10b0]) | skip)
        have H' := Aside0.mk H
        clear H
        obtain ⟨Ao13, co13, eo13⟩ := Kd.R_slice HO557.out
        subst eo13
        go_wp2_with (first | ((with_reducible refine gate_callee (f := 28) rfl ?_); refine goesL_ (some 15) rfl rfl Try.func28 (by kernel_rfl) rfl #[.slice Ao13 y555.length co13] rfl (by (try simp only [List.map_toArray, List.map_cons, List.map_nil]); first | done | rfl | (simp only [List.length_drop, List.length_take]; rfl)) ?_; (with_reducible refine (ops_Right.calls k _ _ y555 t558 _ ?side1 ?side2 A9.out).mono ?_); (case side1 => repeat (first | exact (Kd.R_reads' HO557.out).2.2 | (with_reducible refine Kd.C_alloc ?_ _) | (with_reducible refine Kd.C_drewN ?_ _) | (with_reducible refine Kd.C_drew ?_))); (case side2 => exact (Kd.R_reads' HO557.out).2.1); rintro e w14 ⟨rfl, hb⟩; refine ⟨_, rfl, ?_⟩; have n0_ := Aside0.mk (Kd.R_below (by (with_reducible repeat (first | apply Kd.R_alloc | apply Kd.R_drewN | apply Kd.R_drew)); exact HO557.out) hb); have n1_ := Aside0.mk (below_step (by repeat (first | (with_reducible first | exact HB.out | apply below_alloc | apply pw_below_drewN | apply below_drew1) | exact HB.out)) hb); clear HO557; clear HB; have HO557 := n0_; have HB := n1_; clear n0_ n1_; (try clear hb); (try clear hb2); (try clear hk); (try clear hi)))
        go_meet
        case rel => exact ⟨_, ((t558 != false)), (by first | rfl | (simp; done) | (simp [*]; done)), H', ⟨by first | omega | exact Nat.le_refl _⟩, ⟨by repeat (first | (with_reducible first | exact HB.out | apply below_alloc | apply pw_below_drewN | apply below_drew1) | exact HB.out)⟩⟩
    case rest =>
      clear HC5
      try clear c1
      try clear c2
      try clear p2
      try clear c3
      try clear c4
      try clear c10
      try clear c10b0
      try clear c11
      obtain ⟨kq, x22_4, rfl, HA, HJ4, HB⟩ := hcut
      cases kq with
      | zero => exact absurd HA.out (by simp [patchworklaw8_OpsLimits.j0])
      | succ kj4 =>
        have H := HA.out
        clear HA
        simp only [patchworklaw8_OpsLimits.j0] at H
        by_cases c15 : x22_4 = true
        · subst c15
          have H1 : (some false) = some r := by rw [if_pos rfl] at H; exact H
          clear H
          have H := H1
          clear H1
          obtain rfl := Option.some.inj H
          go_wp2
          go_ret
          exact ⟨by first | rfl | (simp [errW_none, errW_some] <;> rfl) | (simp [*, errW_none, errW_some] <;> rfl), by repeat (first | (with_reducible first | exact HB.out | apply below_alloc | apply pw_below_drewN | apply below_drew1) | exact HB.out)⟩
        · replace c15 := Bool.eq_false_iff.mpr c15
          subst c15
          have H1 : (if a0 < 1 then (patchworklaw8_OpsLimits.j1 kj4 a0 a1 true) else (if a0 > 2147483648 then (patchworklaw8_OpsLimits.j1 kj4 a0 a1 true) else (if a1 < 1 then (patchworklaw8_OpsLimits.j1 kj4 a0 a1 true) else (patchworklaw8_OpsLimits.j1 kj4 a0 a1 (decide (a1 > 2147483648)))))) = some r := by rw [if_neg (show ¬ (false = true) by decide)] at H; exact H
          clear H
          have H := H1
          clear H1
          have HC16 := Aside0.mk H
          clear H
          go_upto_region 7 with (fail)
          go_cut [36] (fun v36 wc => ∃ (kq : Nat) (x36_15 : Bool), v36 = .bool x36_15 ∧ Aside0 (patchworklaw8_OpsLimits.j1 kq a0 a1 x36_15 = some r) ∧ Aside0 (kq ≤ kj4) ∧ Aside0 (Below w.heap.size w wc))
          case first =>
            have H := HC16.out
            clear HC16
            by_cases c17 : a0 < 1
            · rw [if_pos c17] at H
              have c17b0 : decide (a0 < 1) = true := decide_eq_true c17
              clear c17
              (first | rw [c17b0] | (simp only [i64_w, i32_w]; rw [c17b0]) | skip)
              have H' := Aside0.mk H
              clear H
              go_wp2
              go_meet
              case rel => exact ⟨_, (true), (by first | rfl | (simp; done) | (simp [*]; done)), H', ⟨by have := HJ4.out; first | omega | exact Nat.le_refl _⟩, ⟨by repeat (first | (with_reducible first | exact HB.out | apply below_alloc | apply pw_below_drewN | apply below_drew1) | exact HB.out)⟩⟩
            · rw [if_neg c17] at H
              have c17b0 : decide (a0 < 1) = false := decide_eq_false c17
              clear c17
              (first | rw [c17b0] | (simp only [i64_w, i32_w]; rw [c17b0]) | skip)
              by_cases c18 : a0 > 2147483648
              · rw [if_pos c18] at H
                have c18b0 : decide (2147483648 < a0) = true := decide_eq_true c18
                clear c18
                have H' := Aside0.mk H
                clear H
                go_wp2
                go_meet
                case rel => exact ⟨_, (true), (by first | rfl | (simp; done) | (simp [*]; done)), H', ⟨by have := HJ4.out; first | omega | exact Nat.le_refl _⟩, ⟨by repeat (first | (with_reducible first | exact HB.out | apply below_alloc | apply pw_below_drewN | apply below_drew1) | exact HB.out)⟩⟩
              · rw [if_neg c18] at H
                have c18b0 : decide (2147483648 < a0) = false := decide_eq_false c18
                clear c18
                by_cases c19 : a1 < 1
                · rw [if_pos c19] at H
                  have c19b0 : decide (a1 < 1) = true := decide_eq_true c19
                  clear c19
                  have H' := Aside0.mk H
                  clear H
                  go_wp2
                  go_meet
                  case rel => exact ⟨_, (true), (by first | rfl | (simp; done) | (simp [*]; done)), H', ⟨by have := HJ4.out; first | omega | exact Nat.le_refl _⟩, ⟨by repeat (first | (with_reducible first | exact HB.out | apply below_alloc | apply pw_below_drewN | apply below_drew1) | exact HB.out)⟩⟩
                · rw [if_neg c19] at H
                  have c19b0 : decide (a1 < 1) = false := decide_eq_false c19
                  clear c19
                  have H' := Aside0.mk H
                  clear H
                  go_wp2
                  go_meet
                  case rel => exact ⟨_, (decide (a1 > 2147483648)), (by first | rfl | (simp; done) | (simp [*]; done)), H', ⟨by have := HJ4.out; first | omega | exact Nat.le_refl _⟩, ⟨by repeat (first | (with_reducible first | exact HB.out | apply below_alloc | apply pw_below_drewN | apply below_drew1) | exact HB.out)⟩⟩
          case rest =>
            clear HC16
            try clear c1
            try clear c2
            try clear p2
            try clear c3
            try clear c4
            try clear c10
            try clear c10b0
            try clear c11
            try clear c15
            try clear c17
            try clear c17b0
            try clear c18
            try clear c18b0
            try clear c19
            try clear c19b0
            try clear p2
            obtain ⟨kq, x36_15, rfl, HA, HJ15, HB⟩ := hcut
            cases kq with
            | zero => exact absurd HA.out (by simp [patchworklaw8_OpsLimits.j1])
            | succ kj15 =>
              have H := HA.out
              clear HA
              simp only [patchworklaw8_OpsLimits.j1] at H
              by_cases c20 : x36_15 = true
              · subst c20
                have H1 : (some true) = some r := by rw [if_pos rfl] at H; exact H
                clear H
                have H := H1
                clear H1
                obtain rfl := Option.some.inj H
                go_wp2
                go_ret
                exact ⟨by first | rfl | (simp [errW_none, errW_some] <;> rfl) | (simp [*, errW_none, errW_some] <;> rfl), by repeat (first | (with_reducible first | exact HB.out | apply below_alloc | apply pw_below_drewN | apply below_drew1) | exact HB.out)⟩
              · replace c20 := Bool.eq_false_iff.mpr c20
                subst c20
                have H1 : ((some (([(⟨1, a0, (⟨#[]⟩ : ByteArray)⟩ : Op), (⟨1, a1, (⟨#[]⟩ : ByteArray)⟩ : Op)] : List (Op)) : List (Op))).bind fun y559 => ((ops_Right.f kj15 y559).bind fun t562 => (if (t562 == (decide ((wrap64 (a0 + a1)) ≤ 2147483648))) = true then ((ops_Olds.f kj15 y559).bind fun t563 => (if t563 = (wrap64 (a0 + a1)) then ((ops_News.f kj15 y559).bind fun t564 => (some (t564 == (wrap64 (a0 + a1))))) else (some false))) else (some false)))) = some r := by rw [if_neg (show ¬ (false = true) by decide)] at H; exact H
                clear H
                have H := H1
                clear H1
                obtain ⟨y559, hy559⟩ : ∃ y_ : List (Op), y_ = (([(⟨1, a0, (⟨#[]⟩ : ByteArray)⟩ : Op), (⟨1, a1, (⟨#[]⟩ : ByteArray)⟩ : Op)] : List (Op))) := ⟨_, rfl⟩
                replace H : ((ops_Right.f kj15 y559).bind fun t562 => (if (t562 == (decide ((wrap64 (a0 + a1)) ≤ 2147483648))) = true then ((ops_Olds.f kj15 y559).bind fun t563 => (if t563 = (wrap64 (a0 + a1)) then ((ops_News.f kj15 y559).bind fun t564 => (some (t564 == (wrap64 (a0 + a1))))) else (some false))) else (some false))) = some r := by first | (rw [hy559]; with_reducible exact H) | (have H2_ := (Option.bind_some _ _).symm.trans H; rw [hy559]; with_reducible exact H2_) | (have H2_ := (Option.bind_some _ _).symm.trans H; with_reducible exact H2_) | with_reducible exact H | (rw [hy559]; exact H) | exact H
                have Ny559 := Aside0.mk hy559
                clear hy559
                replace H := Option.bind_eq_some_iff.mp H
                obtain ⟨t562, A210, H⟩ := H
                replace H : (if (t562 == (decide ((wrap64 (a0 + a1)) ≤ 2147483648))) = true then ((ops_Olds.f kj15 y559).bind fun t563 => (if t563 = (wrap64 (a0 + a1)) then ((ops_News.f kj15 y559).bind fun t564 => (some (t564 == (wrap64 (a0 + a1))))) else (some false))) else (some false)) = some r := H
                have A21 := Aside0.mk A210
                clear A210
                by_cases c22 : (t562 == (decide ((wrap64 (a0 + a1)) ≤ 2147483648))) = true
                · rw [if_pos c22] at H
                  have c22b0 : (t562 == (decide ((wrap64 (a0 + a1)) ≤ 2147483648))) = true := c22
                  (try (have c22b1 : decide (t562 = (decide ((wrap64 (a0 + a1)) ≤ 2147483648))) = true := by simpa using c22))
                  (try (have c22b2 : (t562 == (decide ((wrap64 (a0 + a1)) ≤ 2147483648))) = true := by simpa using c22))
                  clear c22
                  replace H := Option.bind_eq_some_iff.mp H
                  obtain ⟨t563, A230, H⟩ := H
                  replace H : (if t563 = (wrap64 (a0 + a1)) then ((ops_News.f kj15 y559).bind fun t564 => (some (t564 == (wrap64 (a0 + a1))))) else (some false)) = some r := H
                  have A23 := Aside0.mk A230
                  clear A230
                  by_cases c24 : t563 = (wrap64 (a0 + a1))
                  · rw [if_pos c24] at H
                    have c24b0 : (t563 == (wrap64 (a0 + a1))) = true := beq_iff_eq.mpr c24
                    have c24b1 : (t563 != (wrap64 (a0 + a1))) = false := bne_eq_false_iff_eq.mpr c24
                    clear c24
                    replace H := Option.bind_eq_some_iff.mp H
                    obtain ⟨t564, A250, H⟩ := H
                    replace H : (some (t564 == (wrap64 (a0 + a1)))) = some r := H
                    have A25 := Aside0.mk A250
                    clear A250
                    obtain rfl := Option.some.inj H
                    go_wp2_with (first | ((with_reducible refine gate_dst (N := 41) rfl ?_); refine Kd.R_lit kOp _ 34 ?hg (N := 41) ?hd (xs := ([(⟨1, a0, (⟨#[]⟩ : ByteArray)⟩ : Op), (⟨1, a1, (⟨#[]⟩ : ByteArray)⟩ : Op)] : List (Op))) (inner := [.int .i64 1, .int .i64 a0, .string (⟨#[]⟩ : ByteArray), .int .i64 1, .int .i64 a1, .string (⟨#[]⟩ : ByteArray)]) (ok := fun _ => True) (okp := fun _ => True) ?hr ?hp (fun _ hk => hk) trivial (Below.refl _ _) (Nat.le_refl _) (by simp) ?_; (case hd => rfl); (case hg => rfl); (case hr => first | (go_simp; done) | (go_simp; rfl)); (case hp => exact (Reps.c3 (show Kd.M kOp _ _ _ (⟨1, a0, (⟨#[]⟩ : ByteArray)⟩ : Op) [.int .i64 1, .int .i64 a0, .string (⟨#[]⟩ : ByteArray)] from (kOp_mkM _ _ _ (⟨1, a0, (⟨#[]⟩ : ByteArray)⟩ : Op) )) (Reps.c3 (show Kd.M kOp _ _ _ (⟨1, a1, (⟨#[]⟩ : ByteArray)⟩ : Op) [.int .i64 1, .int .i64 a1, .string (⟨#[]⟩ : ByteArray)] from (kOp_mkM _ _ _ (⟨1, a1, (⟨#[]⟩ : ByteArray)⟩ : Op) )) (Reps.none _ _)))); intro v560 w26 ho27 hb hg_ hnew_; clear hg_ hnew_; (first | rw [← Ny559.out] at ho27 | (simp only [Int.reduceToNat] at ho27; rw [← Ny559.out] at ho27)); have n0_ := Aside0.mk (Kd.R_lower ho27 (below_size (by repeat (first | (with_reducible first | exact HB.out | apply below_alloc | apply pw_below_drewN | apply below_drew1) | exact HB.out)))); have n1_ := Aside0.mk (below_step (by repeat (first | (with_reducible first | exact HB.out | apply below_alloc | apply pw_below_drewN | apply below_drew1) | exact HB.out)) hb); clear HB; have HO561 := n0_; have HB := n1_; clear n0_ n1_; clear hb ho27; obtain ⟨Ao28, co28, eo28⟩ := Kd.R_slice HO561.out; subst eo28) | ((with_reducible refine gate_callee (f := 28) rfl ?_); refine goesL_ (some 43) rfl rfl Try.func28 (by kernel_rfl) rfl #[.slice Ao28 y559.length co28] rfl (by (try simp only [List.map_toArray, List.map_cons, List.map_nil]); first | done | rfl | (simp only [List.length_drop, List.length_take]; rfl)) ?_; (with_reducible refine (ops_Right.calls kj15 _ _ y559 t562 _ ?side1 ?side2 A21.out).mono ?_); (case side1 => repeat (first | exact (Kd.R_reads' HO561.out).2.2 | (with_reducible refine Kd.C_alloc ?_ _) | (with_reducible refine Kd.C_drewN ?_ _) | (with_reducible refine Kd.C_drew ?_))); (case side2 => exact (Kd.R_reads' HO561.out).2.1); rintro e w29 ⟨rfl, hb⟩; refine ⟨_, rfl, ?_⟩; have n0_ := Aside0.mk (Kd.R_below (by (with_reducible repeat (first | apply Kd.R_alloc | apply Kd.R_drewN | apply Kd.R_drew)); exact HO561.out) hb); have n1_ := Aside0.mk (below_step (by repeat (first | (with_reducible first | exact HB.out | apply below_alloc | apply pw_below_drewN | apply below_drew1) | exact HB.out)) hb); clear HO561; clear HB; have HO561 := n0_; have HB := n1_; clear n0_ n1_; (try clear hb); (try clear hb2); (try clear hk); (try clear hi)) | (go_at_call 29; (with_reducible refine (ops_Olds.calls kj15 _ _ y559 t563 _ ?side1 ?side2 A23.out).mono ?_); (case side1 => repeat (first | exact (Kd.R_reads' HO561.out).2.2 | (with_reducible refine Kd.C_alloc ?_ _) | (with_reducible refine Kd.C_drewN ?_ _) | (with_reducible refine Kd.C_drew ?_))); (case side2 => exact (Kd.R_reads' HO561.out).2.1); rintro e w30 ⟨rfl, hb⟩; have n0_ := Aside0.mk (Kd.R_below (by (with_reducible repeat (first | apply Kd.R_alloc | apply Kd.R_drewN | apply Kd.R_drew)); exact HO561.out) hb); have n1_ := Aside0.mk (below_step (by repeat (first | (with_reducible first | exact HB.out | apply below_alloc | apply pw_below_drewN | apply below_drew1) | exact HB.out)) hb); clear HO561; clear HB; have HO561 := n0_; have HB := n1_; clear n0_ n1_; (try clear hb); (try clear hb2); (try clear hk); (try clear hi)) | (go_at_call 30; (with_reducible refine (ops_News.calls kj15 _ _ y559 t564 _ ?side1 ?side2 A25.out).mono ?_); (case side1 => repeat (first | exact (Kd.R_reads' HO561.out).2.2 | (with_reducible refine Kd.C_alloc ?_ _) | (with_reducible refine Kd.C_drewN ?_ _) | (with_reducible refine Kd.C_drew ?_))); (case side2 => exact (Kd.R_reads' HO561.out).2.1); rintro e w31 ⟨rfl, hb⟩; have n0_ := Aside0.mk (Kd.R_below (by (with_reducible repeat (first | apply Kd.R_alloc | apply Kd.R_drewN | apply Kd.R_drew)); exact HO561.out) hb); have n1_ := Aside0.mk (below_step (by repeat (first | (with_reducible first | exact HB.out | apply below_alloc | apply pw_below_drewN | apply below_drew1) | exact HB.out)) hb); clear HO561; clear HB; have HO561 := n0_; have HB := n1_; clear n0_ n1_; (try clear hb); (try clear hb2); (try clear hk); (try clear hi)))
                    go_ret
                    exact ⟨by first | rfl | (simp [errW_none, errW_some] <;> rfl) | (simp [*, errW_none, errW_some] <;> rfl), by repeat (first | (with_reducible first | exact HB.out | apply below_alloc | apply pw_below_drewN | apply below_drew1) | exact HB.out)⟩
                  · rw [if_neg c24] at H
                    have c24b0 : (t563 == (wrap64 (a0 + a1))) = false := beq_eq_false_iff_ne.mpr c24
                    have c24b1 : (t563 != (wrap64 (a0 + a1))) = true := bne_iff_ne.mpr c24
                    obtain rfl := Option.some.inj H
                    go_wp2_with (first | ((with_reducible refine gate_dst (N := 41) rfl ?_); refine Kd.R_lit kOp _ 34 ?hg (N := 41) ?hd (xs := ([(⟨1, a0, (⟨#[]⟩ : ByteArray)⟩ : Op), (⟨1, a1, (⟨#[]⟩ : ByteArray)⟩ : Op)] : List (Op))) (inner := [.int .i64 1, .int .i64 a0, .string (⟨#[]⟩ : ByteArray), .int .i64 1, .int .i64 a1, .string (⟨#[]⟩ : ByteArray)]) (ok := fun _ => True) (okp := fun _ => True) ?hr ?hp (fun _ hk => hk) trivial (Below.refl _ _) (Nat.le_refl _) (by simp) ?_; (case hd => rfl); (case hg => rfl); (case hr => first | (go_simp; done) | (go_simp; rfl)); (case hp => exact (Reps.c3 (show Kd.M kOp _ _ _ (⟨1, a0, (⟨#[]⟩ : ByteArray)⟩ : Op) [.int .i64 1, .int .i64 a0, .string (⟨#[]⟩ : ByteArray)] from (kOp_mkM _ _ _ (⟨1, a0, (⟨#[]⟩ : ByteArray)⟩ : Op) )) (Reps.c3 (show Kd.M kOp _ _ _ (⟨1, a1, (⟨#[]⟩ : ByteArray)⟩ : Op) [.int .i64 1, .int .i64 a1, .string (⟨#[]⟩ : ByteArray)] from (kOp_mkM _ _ _ (⟨1, a1, (⟨#[]⟩ : ByteArray)⟩ : Op) )) (Reps.none _ _)))); intro v560 w32 ho33 hb hg_ hnew_; clear hg_ hnew_; (first | rw [← Ny559.out] at ho33 | (simp only [Int.reduceToNat] at ho33; rw [← Ny559.out] at ho33)); have n0_ := Aside0.mk (Kd.R_lower ho33 (below_size (by repeat (first | (with_reducible first | exact HB.out | apply below_alloc | apply pw_below_drewN | apply below_drew1) | exact HB.out)))); have n1_ := Aside0.mk (below_step (by repeat (first | (with_reducible first | exact HB.out | apply below_alloc | apply pw_below_drewN | apply below_drew1) | exact HB.out)) hb); clear HB; have HO561 := n0_; have HB := n1_; clear n0_ n1_; clear hb ho33; obtain ⟨Ao34, co34, eo34⟩ := Kd.R_slice HO561.out; subst eo34) | ((with_reducible refine gate_callee (f := 28) rfl ?_); refine goesL_ (some 43) rfl rfl Try.func28 (by kernel_rfl) rfl #[.slice Ao34 y559.length co34] rfl (by (try simp only [List.map_toArray, List.map_cons, List.map_nil]); first | done | rfl | (simp only [List.length_drop, List.length_take]; rfl)) ?_; (with_reducible refine (ops_Right.calls kj15 _ _ y559 t562 _ ?side1 ?side2 A21.out).mono ?_); (case side1 => repeat (first | exact (Kd.R_reads' HO561.out).2.2 | (with_reducible refine Kd.C_alloc ?_ _) | (with_reducible refine Kd.C_drewN ?_ _) | (with_reducible refine Kd.C_drew ?_))); (case side2 => exact (Kd.R_reads' HO561.out).2.1); rintro e w35 ⟨rfl, hb⟩; refine ⟨_, rfl, ?_⟩; have n0_ := Aside0.mk (Kd.R_below (by (with_reducible repeat (first | apply Kd.R_alloc | apply Kd.R_drewN | apply Kd.R_drew)); exact HO561.out) hb); have n1_ := Aside0.mk (below_step (by repeat (first | (with_reducible first | exact HB.out | apply below_alloc | apply pw_below_drewN | apply below_drew1) | exact HB.out)) hb); clear HO561; clear HB; have HO561 := n0_; have HB := n1_; clear n0_ n1_; (try clear hb); (try clear hb2); (try clear hk); (try clear hi)) | (go_at_call 29; (with_reducible refine (ops_Olds.calls kj15 _ _ y559 t563 _ ?side1 ?side2 A23.out).mono ?_); (case side1 => repeat (first | exact (Kd.R_reads' HO561.out).2.2 | (with_reducible refine Kd.C_alloc ?_ _) | (with_reducible refine Kd.C_drewN ?_ _) | (with_reducible refine Kd.C_drew ?_))); (case side2 => exact (Kd.R_reads' HO561.out).2.1); rintro e w36 ⟨rfl, hb⟩; have n0_ := Aside0.mk (Kd.R_below (by (with_reducible repeat (first | apply Kd.R_alloc | apply Kd.R_drewN | apply Kd.R_drew)); exact HO561.out) hb); have n1_ := Aside0.mk (below_step (by repeat (first | (with_reducible first | exact HB.out | apply below_alloc | apply pw_below_drewN | apply below_drew1) | exact HB.out)) hb); clear HO561; clear HB; have HO561 := n0_; have HB := n1_; clear n0_ n1_; (try clear hb); (try clear hb2); (try clear hk); (try clear hi)))
                    go_ret
                    exact ⟨by first | rfl | (simp [errW_none, errW_some] <;> rfl) | (simp [*, errW_none, errW_some] <;> rfl), by repeat (first | (with_reducible first | exact HB.out | apply below_alloc | apply pw_below_drewN | apply below_drew1) | exact HB.out)⟩
                · rw [if_neg c22] at H
                  have c22b0 : (t562 == (decide ((wrap64 (a0 + a1)) ≤ 2147483648))) = false := by simpa using c22
                  (try (have c22b1 : decide (t562 = (decide ((wrap64 (a0 + a1)) ≤ 2147483648))) = false := by simpa using c22))
                  (try (have c22b2 : (t562 == (decide ((wrap64 (a0 + a1)) ≤ 2147483648))) = false := by simpa using c22))
                  (try (have c22b3 : ¬ (t562 = (decide ((wrap64 (a0 + a1)) ≤ 2147483648))) := by simpa using c22))
                  clear c22
                  obtain rfl := Option.some.inj H
                  go_wp2_with (first | ((with_reducible refine gate_dst (N := 41) rfl ?_); refine Kd.R_lit kOp _ 34 ?hg (N := 41) ?hd (xs := ([(⟨1, a0, (⟨#[]⟩ : ByteArray)⟩ : Op), (⟨1, a1, (⟨#[]⟩ : ByteArray)⟩ : Op)] : List (Op))) (inner := [.int .i64 1, .int .i64 a0, .string (⟨#[]⟩ : ByteArray), .int .i64 1, .int .i64 a1, .string (⟨#[]⟩ : ByteArray)]) (ok := fun _ => True) (okp := fun _ => True) ?hr ?hp (fun _ hk => hk) trivial (Below.refl _ _) (Nat.le_refl _) (by simp) ?_; (case hd => rfl); (case hg => rfl); (case hr => first | (go_simp; done) | (go_simp; rfl)); (case hp => exact (Reps.c3 (show Kd.M kOp _ _ _ (⟨1, a0, (⟨#[]⟩ : ByteArray)⟩ : Op) [.int .i64 1, .int .i64 a0, .string (⟨#[]⟩ : ByteArray)] from (kOp_mkM _ _ _ (⟨1, a0, (⟨#[]⟩ : ByteArray)⟩ : Op) )) (Reps.c3 (show Kd.M kOp _ _ _ (⟨1, a1, (⟨#[]⟩ : ByteArray)⟩ : Op) [.int .i64 1, .int .i64 a1, .string (⟨#[]⟩ : ByteArray)] from (kOp_mkM _ _ _ (⟨1, a1, (⟨#[]⟩ : ByteArray)⟩ : Op) )) (Reps.none _ _)))); intro v560 w37 ho38 hb hg_ hnew_; clear hg_ hnew_; (first | rw [← Ny559.out] at ho38 | (simp only [Int.reduceToNat] at ho38; rw [← Ny559.out] at ho38)); have n0_ := Aside0.mk (Kd.R_lower ho38 (below_size (by repeat (first | (with_reducible first | exact HB.out | apply below_alloc | apply pw_below_drewN | apply below_drew1) | exact HB.out)))); have n1_ := Aside0.mk (below_step (by repeat (first | (with_reducible first | exact HB.out | apply below_alloc | apply pw_below_drewN | apply below_drew1) | exact HB.out)) hb); clear HB; have HO561 := n0_; have HB := n1_; clear n0_ n1_; clear hb ho38; obtain ⟨Ao39, co39, eo39⟩ := Kd.R_slice HO561.out; subst eo39) | ((with_reducible refine gate_callee (f := 28) rfl ?_); refine goesL_ (some 43) rfl rfl Try.func28 (by kernel_rfl) rfl #[.slice Ao39 y559.length co39] rfl (by (try simp only [List.map_toArray, List.map_cons, List.map_nil]); first | done | rfl | (simp only [List.length_drop, List.length_take]; rfl)) ?_; (with_reducible refine (ops_Right.calls kj15 _ _ y559 t562 _ ?side1 ?side2 A21.out).mono ?_); (case side1 => repeat (first | exact (Kd.R_reads' HO561.out).2.2 | (with_reducible refine Kd.C_alloc ?_ _) | (with_reducible refine Kd.C_drewN ?_ _) | (with_reducible refine Kd.C_drew ?_))); (case side2 => exact (Kd.R_reads' HO561.out).2.1); rintro e w40 ⟨rfl, hb⟩; refine ⟨_, rfl, ?_⟩; have n0_ := Aside0.mk (Kd.R_below (by (with_reducible repeat (first | apply Kd.R_alloc | apply Kd.R_drewN | apply Kd.R_drew)); exact HO561.out) hb); have n1_ := Aside0.mk (below_step (by repeat (first | (with_reducible first | exact HB.out | apply below_alloc | apply pw_below_drewN | apply below_drew1) | exact HB.out)) hb); clear HO561; clear HB; have HO561 := n0_; have HB := n1_; clear n0_ n1_; (try clear hb); (try clear hb2); (try clear hk); (try clear hi)))
                  go_ret
                  exact ⟨by first | rfl | (simp [errW_none, errW_some] <;> rfl) | (simp [*, errW_none, errW_some] <;> rfl), by repeat (first | (with_reducible first | exact HB.out | apply below_alloc | apply pw_below_drewN | apply below_drew1) | exact HB.out)⟩
  · replace c4 := Bool.eq_false_iff.mpr c4
    subst c4
    have H1 : (some false) = some r := by rw [if_neg (show ¬ (false = true) by decide)] at H; exact H
    clear H
    have H := H1
    clear H1
    obtain rfl := Option.some.inj H
    go_enter Try.func11, Try.ntmps11
    go_wp2_with (first | ((with_reducible refine gate_callee (f := 27) rfl ?_); refine goesL_ (some 8) rfl rfl Try.func27 (by kernel_rfl) rfl #[] rfl (by (try simp only [List.map_toArray, List.map_cons, List.map_nil]); first | done | rfl | (simp only [List.length_drop, List.length_take]; rfl)) ?_; (with_reducible refine (patchworklaw8_alive.calls k  false _ A3.out).mono ?_); rintro e w41 ⟨rfl, hb⟩; refine ⟨_, rfl, ?_⟩; have n0_ := Aside0.mk (below_step (by repeat (first | (with_reducible first | exact HB.out | apply below_alloc | apply pw_below_drewN | apply below_drew1) | exact HB.out)) hb); clear HB; have HB := n0_; clear n0_; (try clear hb); (try clear hb2); (try clear hk); (try clear hi)))
    go_ret
    exact ⟨by first | rfl | (simp [errW_none, errW_some] <;> rfl) | (simp [*, errW_none, errW_some] <;> rfl), by repeat (first | (with_reducible first | exact HB.out | apply below_alloc | apply pw_below_drewN | apply below_drew1) | exact HB.out)⟩

end Go.Proofs.Ytkalkickknjdhaa.P
