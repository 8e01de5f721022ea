/- Own and printed texts that the theorem of WitnessEach reaches, put together. -/
import Derived.Test.YtkiklmmpflndbaaDoorqWitnessEach4
import Derived.Test.YtkiklmmpflndbaaDoorqWitnessEach3
import Derived.Test.YtkiklmmpflndbaaDoorqWitnessEach6
import Derived.Test.YtkiklmmpflndbaaDoorqWitnessEach9
set_option linter.unusedVariables false
set_option linter.unusedSimpArgs false
namespace Go.Proofs.YtkiklmmpflndbaaDoor.P
open Go.RowKit Go.Proofs.YtkiklmmpflndbaaDoorW.PrintWords Go.Proofs.YtkiklmmpflndbaaDoorW.PrintLast Go.Proofs.YtkiklmmpflndbaaDoorW.PrintMore
open Go.Proofs.YtkiklmmpflndbaaDoorW.PrintWords renaming blk_alloc → kA, blk_drewN → kN, blk_drew → kD
open Go.Proofs.YtkiklmmpflndbaaDoorW.PrintWords.Aside0 renaming mk → aM
open Option renaming bind_eq_some_iff → bS
attribute [local go_sem] max2_int min2_int max_two min_two max_three min_three max_four min_four
theorem nums_Put.calls (a0 : Int) (r : ByteArray) (w : World) (htab : TabOk w) (h : nums_Put.f a0 = some r) :
  Calls Tryd.prog 29 #[.int .i64 a0] w fun e w' => e = .returned (.string r) ∧ Below w.heap.size w w' := by
 unfold nums_Put.f at h
 split at h
 ·rename_i hb
  obtain rfl := Option.some.inj h
  go_enter Tryd.func29, Tryd.ntmps29
  go_wp2_with (go_at_call 43; refine (Go.Proofs.Tryd.strconv_Itoa a0 hb.1 hb.2 _ htab).mono ?_; rintro e w' ⟨rfl, k, os, rfl⟩)
  go_ret
  exact ⟨rfl, Lib.below_grow _ _ (Nat.le_refl _) k os⟩
 ·exact absurd h (by simp)
set_option maxHeartbeats 8000000 in
set_option maxRecDepth 100000 in
theorem witness_Lines.calls (k : Nat) (A0 : Option Addr) (c0 : Nat) (l0 : List (Op)) (r : List ByteArray) (w : World) (htab : TabOk w) (hr0 : Kd.C kOp w A0 l0.length l0) (hc0 : l0.length ≤ c0) (h : witness_Lines.f k l0 = some r) :
  Calls Tryd.prog 13 #[.slice A0 l0.length c0] w fun e w' => ∃ v0_ : Value, e = .returned (v0_) ∧ Kd.R Kd.string 9 w' w.heap.size (fun _ => True) v0_ r ∧ Below w.heap.size w w' := by
 have hu32 := Tryd.underlying32
 have HR0 := aM hr0
 have HC0 := aM hc0
 clear hr0 hc0
 have HB := aM (Below.refl w.heap.size w)
 have HTAB := aM htab
 clear htab
 have H : ((ops_Right.f k l0).bind fun t133 => (if t133 = true then ((ops_Olds.f k l0).bind fun t134 => (witness_Lines.j0 k l0 (decide (t134 > 5000)))) else (witness_Lines.j0 k l0 true))) = some r := h
 clear h
 have HC2 := aM H
 clear H
 go_enter Tryd.func13, Tryd.ntmps13
 go_upto_region 1 with (fail)
 go_cut [13] (fun v13 wc => ∃ (kq : Nat) (x13_1 : Bool), v13 = .bool x13_1 ∧ Aside0 (witness_Lines.j0 kq l0 x13_1 = some r) ∧ Aside0 (kq ≤ k) ∧ Aside0 (Below w.heap.size w wc))
 case first =>
  have H := HC2.out; clear HC2; replace H := oB H; obtain ⟨t133, A3, H⟩ := H
  by_cases c4 : t133 = true
  ·subst c4
   replace H := iT H; replace H := oB H; obtain ⟨t134, A5, H⟩ := H; have H' := aM H; clear H
   go_wp2_with (first | ((with_reducible refine gate_callee (f := 27) rfl ?_); refine goesL_ (some 7) rfl rfl Tryd.func27 yK rfl #[.slice A0 l0.length c0] rfl yG ?_; (with_reducible refine (ops_Right.calls k _ _ l0 true _ (yC (Kd.C_below HR0.out HB.out)) HC0.out A3.out).mono ?_); rintro e w6 ⟨rfl, hb⟩; refine ⟨_, rfl, ?_⟩; replace HB := aM (below_step yB hb); clear hb) | (go_at_call 28; (with_reducible refine (ops_Olds.calls k _ _ l0 t134 _ (yC (Kd.C_below HR0.out HB.out)) HC0.out A5.out).mono ?_); rintro e w7 ⟨rfl, hb⟩; replace HB := aM (below_step yB hb); clear hb))
   go_meet
   case rel => exact ⟨_, (decide (t134 > 5000)), yE, H', ⟨by first | omega | exact Nat.le_refl _⟩, ⟨yB⟩⟩
  ·replace c4 := Bool.eq_false_iff.mpr c4
   subst c4; have H' := aM (iF H); clear H
   go_wp2_with (first | ((with_reducible refine gate_callee (f := 27) rfl ?_); refine goesL_ (some 7) rfl rfl Tryd.func27 yK rfl #[.slice A0 l0.length c0] rfl yG ?_; (with_reducible refine (ops_Right.calls k _ _ l0 false _ (yC (Kd.C_below HR0.out HB.out)) HC0.out A3.out).mono ?_); rintro e w8 ⟨rfl, hb⟩; refine ⟨_, rfl, ?_⟩; replace HB := aM (below_step yB hb); clear hb))
   go_meet
   case rel => exact ⟨_, (true), yE, H', ⟨by first | omega | exact Nat.le_refl _⟩, ⟨yB⟩⟩
 case rest =>
  clear HC2; (try clear c1); (try clear c2); (try clear p2); (try clear c4); obtain ⟨kq, x13_1, rfl, HA, HJ1, HB⟩ := hcut; cases kq with
  | zero => exact absurd HA.out (by simp [witness_Lines.j0])
  | succ kj1 =>
   have H := HA.out; clear HA; simp only [witness_Lines.j0] at H
   by_cases c9 : x13_1 = true
   ·subst c9
    replace H := iT H; obtain rfl := Option.some.inj H
    go_wp2
    go_ret
    exact ⟨_, by first | rfl | (simp [errW_none, errW_some] <;> rfl) | (simp [*, errW_none, errW_some] <;> rfl), by first | exact Kd.R_nil _ _ _ _ _ | exact Kd.N_nil _ _ _ _ _ | exact Kd.V_nil _ _ _ _ _ | exact Kd.Q_nil _ _ _ _ _ | exact Kd.S_nil _ _ _ _ _, yB⟩
   ·replace c9 := Bool.eq_false_iff.mpr c9
    subst c9; have H' := aM (iF H); clear H
    go_wp2
    go_loopg [3, 16] kj1 (fun kq v3 v16 w' => ∃ (x3_2 : List ByteArray) (x16_2 : Int), v16 = .int .i64 x16_2 ∧ Aside0 (witness_Lines.l0 kq x3_2 l0 (l0.length : Int) x16_2 = some r) ∧ Aside0 (kq ≤ kj1) ∧ Aside0 (Kd.R Kd.string 9 w' w.heap.size (fun _ => True) v3 x3_2) ∧ Aside0 (Below w.heap.size w w'))
    case atStart => exact ⟨(([] : List ByteArray)), (0), yE, H', ⟨Nat.le_refl _⟩, ⟨by first | exact Kd.R_nil _ _ _ _ _ | exact Kd.N_nil _ _ _ _ _ | exact Kd.V_nil _ _ _ _ _ | exact Kd.Q_nil _ _ _ _ _ | exact Kd.S_nil _ _ _ _ _⟩, ⟨yB⟩⟩
    case round =>
     clear H'; (try clear c1); (try clear c2); (try clear p2); (try clear c4); (try clear c9); (try clear p2); obtain ⟨x3_2, x16_2, rfl, HA, HK2, HO_3, HB⟩ := hrel; cases gk with
     | zero => exact absurd HA.out (by simp [witness_Lines.l0])
     | succ k2 =>
      have H := HA.out; clear HA; simp only [witness_Lines.l0] at H
      by_cases c10 : x16_2 < (l0.length : Int)
      ·rw [if_pos c10] at H
       have c10b0 := decide_eq_true c10; clear c10
       by_cases c11 : 0 ≤ x16_2
       ·rw [if_pos c11] at H
        have c11b0 := decide_eq_true c11; clear c11
        by_cases c12 : x16_2 < (l0.length : Int)
        ·rw [if_pos c12] at H
         have c12b0 := decide_eq_true c12; clear c12
         by_cases c13 : ((rd_Op l0 x16_2).f0) = 1
         ·rw [if_pos c13] at H
          have c13b0 := beq_iff_eq.mpr c13; have c13b1 := bne_eq_false_iff_eq.mpr c13; clear c13; have H' := aM H; clear H; have p135 : 0 ≤ (x16_2 : Int) := yO; have q135 : x16_2 < (l0.length : Int) := yO; obtain ⟨ad135, e135, hx135_0, hx135_1, hx135_2⟩ := at_OpB HB.out HR0.out x16_2 p135 q135; cases e135; replace p135 := eq_true p135; replace q135 := eq_true q135
          go_wp2_with (first | ((with_reducible refine gate_dst (N := 5) rfl ?_); refine box_event yR (N := 5) yR (cs := #[.int .i64 0, .int .i64 0, .string (⟨#[]⟩ : ByteArray)]) (t := 32) yQ ?_; intro gb136 hg w14 hbox hb; replace HO_3 := aM (Kd.R_below (yH HO_3.out) hb); have BK136 := aM (hbox); have GW136 := aM ((yS : w.heap.size ≤ gb136)); have GE136 := aM ((yS : w.heap.size ≤ gb136)); replace HB := aM (below_step yB hb); clear hb hbox hg; obtain ⟨hcz15_0, hcz15_1, hcz15_2, hfz15_0, hfz15_1, hfz15_2⟩ := blk3 BK136.out))
          go_loopg [3, 26] k2 (fun kq v3 v26 w' => ∃ (x3_3 : List ByteArray) (x26_3 : Int), v26 = .int .i64 x26_3 ∧ Aside0 (witness_Lines.l1 kq x3_3 l0 (l0.length : Int) x16_2 ((rd_Op l0 x16_2).f1) x26_3 = some r) ∧ Aside0 (kq ≤ k2) ∧ Aside0 (Kd.R Kd.string 9 w' w.heap.size (fun _ => True) v3 x3_3) ∧ Aside0 (w'.heap[gb136]? = some (.cells #[.int .i64 ((rd_Op l0 x16_2).f0), .int .i64 ((rd_Op l0 x16_2).f1), .string ((rd_Op l0 x16_2).f2)] 32 (0, 0))) ∧ Aside0 (Below w.heap.size w w'))
          case atStart => exact ⟨(x3_2), (0), yE, H', ⟨Nat.le_refl _⟩, ⟨by (with_reducible repeat (first | apply Kd.R_alloc | apply Kd.R_drewN | apply Kd.R_drew)); exact Kd.R_mono (Kd.R_far (p := ⟨gb136, 2, none⟩) (Kd.R_far (p := ⟨gb136, 1, none⟩) (Kd.R_far (p := ⟨gb136, 0, none⟩) (Kd.R_types HO_3.out BK136.out (by decide)) (fun _ hk => hk.2) (.int .i64 ((rd_Op l0 x16_2).f0))) (fun _ hk => hk.2) (.int .i64 ((rd_Op l0 x16_2).f1))) (fun _ hk => hk.2) (.string ((rd_Op l0 x16_2).f2))) (fun _ hk => trivial)⟩, ⟨by (with_reducible repeat (first | refine kN ?_ _ | refine kD ?_ | refine kA ?_ _)); refine blk_put (cs := #[.int .i64 ((rd_Op l0 x16_2).f0), .int .i64 ((rd_Op l0 x16_2).f1), .string (⟨#[]⟩ : ByteArray)]) ?_ 2 _ rfl; (with_reducible repeat (first | refine kN ?_ _ | refine kD ?_ | refine kA ?_ _)); refine blk_put (cs := #[.int .i64 ((rd_Op l0 x16_2).f0), .int .i64 0, .string (⟨#[]⟩ : ByteArray)]) ?_ 1 _ rfl; (with_reducible repeat (first | refine kN ?_ _ | refine kD ?_ | refine kA ?_ _)); refine blk_put (cs := #[.int .i64 0, .int .i64 0, .string (⟨#[]⟩ : ByteArray)]) ?_ 0 _ rfl; (with_reducible repeat (first | refine kN ?_ _ | refine kD ?_ | refine kA ?_ _)); exact BK136.out⟩, ⟨yBg GE136.out⟩⟩
          case round =>
           clear H'; (try clear c1); (try clear p1); (try clear q1); (try clear hx1); (try clear c2); (try clear p2); (try clear c4); (try clear c9); (try clear c10); (try clear c10b0); (try clear c11); (try clear c11b0); (try clear c12); (try clear c12b0); (try clear c13); (try clear c13b0); (try clear c13b1); (try clear p13); (try clear q13); (try clear hx13); (try clear hcz15_0); (try clear hcz15_1); (try clear hcz15_2); (try clear hfz15_0); (try clear hfz15_1); (try clear hfz15_2); (try clear hx135_0); (try clear hx135_1); (try clear hx135_2); (try clear p135); (try clear p2); (try clear q135); obtain ⟨x3_3, x26_3, rfl, HA, HK3, HO_3, BK136, HB⟩ := hrel; cases gk with
           | zero => exact absurd HA.out (by simp [witness_Lines.l1])
           | succ k3 =>
            have H := HA.out; clear HA; simp only [witness_Lines.l1] at H
            by_cases c16 : x26_3 < ((rd_Op l0 x16_2).f1)
            ·rw [if_pos c16] at H
             have c16b0 := decide_eq_true c16; clear c16; replace H := oB H; obtain ⟨t137, A17, H⟩ := H
             by_cases c18 : 1 + t137.size ≤ 9223372036854775807
             ·rw [if_pos c18] at H
              have c18b0 := eq_true c18; have c18b1 := decide_eq_true c18
              try have c18b2 : (9223372036854775807 < 1 + t137.size) = False := eq_false (Nat.not_lt.2 c18)
              by_cases c19 : ((⟨#[63]⟩ : ByteArray) ++ t137).size + 1 ≤ 9223372036854775807
              ·rw [if_pos c19] at H
               have c19b0 := eq_true c19; have c19b1 := decide_eq_true c19
               try have c19b2 : (9223372036854775807 < ((⟨#[63]⟩ : ByteArray) ++ t137).size + 1) = False := eq_false (Nat.not_lt.2 c19)
               try have c19b3 : (9223372036854775807 < 1 + t137.size + 1) = False := eq_false (by have q := c19; rw [ByteArray.size_append] at q; exact Nat.not_lt.2 q)
               by_cases c20 : x3_3.length < 8796093022208
               ·rw [if_pos c20] at H
                have LMc20 := aM c20; clear c20; obtain ⟨y138, hy138⟩ : ∃ y_ : List ByteArray, y_ = (x3_3 ++ [((⟨#[63]⟩ : ByteArray) ++ t137) ++ (⟨#[10]⟩ : ByteArray)]) := ⟨_, rfl⟩; replace H : (witness_Lines.l1 k3 y138 l0 (l0.length : Int) x16_2 ((rd_Op l0 x16_2).f1) (wrap64 (x26_3 + 1))) = some r := yN hy138 H
                have Ny138 := aM hy138; clear hy138; have H' := aM H; clear H; obtain ⟨Ao21, co21, eo21⟩ := Kd.R_slice HO_3.out; subst eo21
                go_wp2_with (first | ((with_reducible refine gate_callee (f := 29) rfl ?_); refine goesL_ (some 31) rfl rfl Tryd.func29 yK rfl #[.int .i64 (x3_3.length : Int)] rfl yG ?_; (with_reducible refine (nums_Put.calls (x3_3.length : Int) t137 _ (tabY HTAB.out) A17.out).mono ?_); rintro e w22 ⟨rfl, hb⟩; refine ⟨_, rfl, ?_⟩; replace HO_3 := aM (Kd.R_below (yH HO_3.out) hb); replace BK136 := aM (blk_below (g := gb136) (o := .cells #[.int .i64 ((rd_Op l0 x16_2).f0), .int .i64 ((rd_Op l0 x16_2).f1), .string ((rd_Op l0 x16_2).f2)] 32 (0, 0)) (by (with_reducible repeat (first | refine kN ?_ _ | refine kD ?_ | refine kA ?_ _)); exact BK136.out) hb); replace HB := aM (below_step (yBg GE136.out) hb); clear hb) | ((with_reducible refine gate_builtin (b := .append) (xs := #[.tmp 28, .tmp 34]) rfl ?_); at_builtin; refine Kd.R_append Kd.string (w0 := w) w.heap.size rfl (.tmp 28) (.tmp 34) 23 9 (.string ⟨#[]⟩) 16 rfl Tryd.underlying23 info9 rfl (by decide) (by omega) (.slice Ao21 x3_3.length co21) x3_3 (((⟨#[63]⟩ : ByteArray) ++ t137) ++ (⟨#[10]⟩ : ByteArray)) [.string (((⟨#[63]⟩ : ByteArray) ++ t137) ++ (⟨#[10]⟩ : ByteArray))] (fun _ => True) (fun _ => False) rfl rfl ?aP (fun _ hk => hk.elim) ?aF ?aO ?aB ?aS ?aL ?_; (case aP => exact rfl); (case aB => exact (yBg GE136.out)); (case aF => exact (fun _ _ => trivial)); (case aO => exact (yH HO_3.out)); (case aS => exact (below_size (yBg GE136.out))); (case aL => have := LMc20.out; omega); intro v139 w23 ho hb hg hat; rw [← Ny138.out] at ho; have n0_ := aM (blk_grown (g := gb136) (o := .cells #[.int .i64 ((rd_Op l0 x16_2).f0), .int .i64 ((rd_Op l0 x16_2).f1), .string ((rd_Op l0 x16_2).f2)] 32 (0, 0)) (by (with_reducible repeat (first | refine kN ?_ _ | refine kD ?_ | refine kA ?_ _)); exact BK136.out) hg (Kd.R_ne HO_3.out BK136.out (by decide))); have n1_ := aM (hb); have n2_ := aM (ho); clear BK136; clear HB; clear HO_3; have BK136 := n0_; have HB := n1_; have HO140 := n2_; clear n0_ n1_ n2_; clear ho hb hg hat))
                go_roundg k3
                case measure => have := HJ1.out; have := HK2.out; have := HK3.out; omega
                case rel => exact ⟨(y138), (wrap64 (x26_3 + 1)), yE, H', ⟨by have := HJ1.out; have := HK2.out; have := HK3.out; omega⟩, ⟨yH HO140.out⟩, ⟨by (with_reducible repeat (first | refine kN ?_ _ | refine kD ?_ | refine kA ?_ _)); exact BK136.out⟩, ⟨yBg GE136.out⟩⟩
               ·rw [if_neg c20] at H
                exact absurd H (by simp)
              ·rw [if_neg c19] at H
               exact absurd H (by simp)
             ·rw [if_neg c18] at H
              exact absurd H (by simp)
            ·rw [if_neg c16] at H
             have c16b0 := decide_eq_false c16; clear c16; have H' := aM H; clear H
             go_wp2
             go_roundg k3
             case measure => have := HJ1.out; have := HK2.out; have := HK3.out; omega
             case rel => exact ⟨(x3_3), (wrap64 (x16_2 + 1)), yE, H', ⟨by have := HJ1.out; have := HK2.out; have := HK3.out; omega⟩, ⟨yH HO_3.out⟩, ⟨yBg GE136.out⟩⟩
         ·rw [if_neg c13] at H
          have c13b0 := beq_eq_false_iff_ne.mpr c13; have c13b1 := bne_iff_ne.mpr c13
          by_cases c24 : ((rd_Op l0 x16_2).f0) = 2
          ·rw [if_pos c24] at H
           have c24b0 := beq_iff_eq.mpr c24; have c24b1 := bne_eq_false_iff_eq.mpr c24; clear c24
           by_cases c25 : x3_2.length < 8796093022208
           ·rw [if_pos c25] at H
            have LMc25 := aM c25; clear c25; obtain ⟨y141, hy141⟩ : ∃ y_ : List ByteArray, y_ = (x3_2 ++ [(rd_Op l0 x16_2).f2]) := ⟨_, rfl⟩; replace H : (witness_Lines.l0 k2 y141 l0 (l0.length : Int) (wrap64 (x16_2 + 1))) = some r := yN hy141 H
            have Ny141 := aM hy141; clear hy141; have H' := aM H; clear H; have p135 : 0 ≤ (x16_2 : Int) := yO; have q135 : x16_2 < (l0.length : Int) := yO; obtain ⟨ad135, e135, hx135_0, hx135_1, hx135_2⟩ := at_OpB HB.out HR0.out x16_2 p135 q135; cases e135; replace p135 := eq_true p135; replace q135 := eq_true q135
            go_wp2_with (first | ((with_reducible refine gate_dst (N := 5) rfl ?_); refine box_event yR (N := 5) yR (cs := #[.int .i64 0, .int .i64 0, .string (⟨#[]⟩ : ByteArray)]) (t := 32) yQ ?_; intro gb136 hg w26 hbox hb; replace HO_3 := aM (Kd.R_below (yH HO_3.out) hb); have BK136 := aM (hbox); have GW136 := aM ((yS : w.heap.size ≤ gb136)); have GE136 := aM ((yS : w.heap.size ≤ gb136)); replace HB := aM (below_step yB hb); clear hb hbox hg; obtain ⟨hcz27_0, hcz27_1, hcz27_2, hfz27_0, hfz27_1, hfz27_2⟩ := blk3 BK136.out) | ((with_reducible refine gate_builtin (b := .append) (xs := #[.tmp 40, .tmp 43]) rfl ?_); at_builtin; refine Kd.R_append Kd.string (w0 := w) w.heap.size rfl (.tmp 40) (.tmp 43) 23 9 (.string ⟨#[]⟩) 16 rfl Tryd.underlying23 info9 rfl (by decide) (by omega) u3 x3_2 ((rd_Op l0 x16_2).f2) [.string ((rd_Op l0 x16_2).f2)] (fun _ => True) (fun _ => False) rfl (by first | (go_simp; done) | (go_simp; rfl)) ?aP (fun _ hk => hk.elim) ?aF ?aO ?aB ?aS ?aL ?_; (case aP => exact rfl); (case aB => exact (yBg GE136.out)); (case aF => exact (fun _ _ => trivial)); (case aO => exact (by (with_reducible repeat (first | apply Kd.R_alloc | apply Kd.R_drewN | apply Kd.R_drew)); exact Kd.R_mono (Kd.R_far (p := ⟨gb136, 2, none⟩) (Kd.R_far (p := ⟨gb136, 1, none⟩) (Kd.R_far (p := ⟨gb136, 0, none⟩) (Kd.R_types HO_3.out BK136.out (by decide)) (fun _ hk => hk.2) (.int .i64 ((rd_Op l0 x16_2).f0))) (fun _ hk => hk.2) (.int .i64 ((rd_Op l0 x16_2).f1))) (fun _ hk => hk.2) (.string ((rd_Op l0 x16_2).f2))) (fun _ hk => trivial))); (case aS => exact (below_size (yBg GE136.out))); (case aL => have := LMc25.out; omega); intro v142 w28 ho hb hg hat; rw [← Ny141.out] at ho; have n0_ := aM (blk_grown (g := gb136) (o := .cells #[.int .i64 ((rd_Op l0 x16_2).f0), .int .i64 ((rd_Op l0 x16_2).f1), .string ((rd_Op l0 x16_2).f2)] 32 (0, 0)) (by (with_reducible repeat (first | refine kN ?_ _ | refine kD ?_ | refine kA ?_ _)); refine blk_put (cs := #[.int .i64 ((rd_Op l0 x16_2).f0), .int .i64 ((rd_Op l0 x16_2).f1), .string (⟨#[]⟩ : ByteArray)]) ?_ 2 _ rfl; (with_reducible repeat (first | refine kN ?_ _ | refine kD ?_ | refine kA ?_ _)); refine blk_put (cs := #[.int .i64 ((rd_Op l0 x16_2).f0), .int .i64 0, .string (⟨#[]⟩ : ByteArray)]) ?_ 1 _ rfl; (with_reducible repeat (first | refine kN ?_ _ | refine kD ?_ | refine kA ?_ _)); refine blk_put (cs := #[.int .i64 0, .int .i64 0, .string (⟨#[]⟩ : ByteArray)]) ?_ 0 _ rfl; (with_reducible repeat (first | refine kN ?_ _ | refine kD ?_ | refine kA ?_ _)); exact BK136.out) hg (Kd.R_ne HO_3.out BK136.out (by decide))); have n1_ := aM (hb); have n2_ := aM (ho); clear BK136; clear HB; clear HO_3; have BK136 := n0_; have HB := n1_; have HO143 := n2_; clear n0_ n1_ n2_; clear ho hb hg hat))
            go_roundg k2
            case measure => have := HJ1.out; have := HK2.out; omega
            case rel => exact ⟨(y141), (wrap64 (x16_2 + 1)), yE, H', ⟨by have := HJ1.out; have := HK2.out; omega⟩, ⟨yH HO143.out⟩, ⟨yBg GE136.out⟩⟩
           ·rw [if_neg c25] at H
            exact absurd H (by simp)
          ·rw [if_neg c24] at H
           have c24b0 := beq_eq_false_iff_ne.mpr c24; have c24b1 := bne_iff_ne.mpr c24
           by_cases c29 : ((rd_Op l0 x16_2).f0) = 3
           ·rw [if_pos c29] at H
            have c29b0 := beq_iff_eq.mpr c29; have c29b1 := bne_eq_false_iff_eq.mpr c29; clear c29
            by_cases c30 : x3_2.length < 8796093022208
            ·rw [if_pos c30] at H
             have LMc30 := aM c30; clear c30; obtain ⟨y144, hy144⟩ : ∃ y_ : List ByteArray, y_ = (x3_2 ++ [(rd_Op l0 x16_2).f2]) := ⟨_, rfl⟩; replace H : (witness_Lines.l0 k2 y144 l0 (l0.length : Int) (wrap64 (x16_2 + 1))) = some r := yN hy144 H
             have Ny144 := aM hy144; clear hy144; have H' := aM H; clear H; have p135 : 0 ≤ (x16_2 : Int) := yO; have q135 : x16_2 < (l0.length : Int) := yO; obtain ⟨ad135, e135, hx135_0, hx135_1, hx135_2⟩ := at_OpB HB.out HR0.out x16_2 p135 q135; cases e135; replace p135 := eq_true p135; replace q135 := eq_true q135
             go_wp2_with (first | ((with_reducible refine gate_dst (N := 5) rfl ?_); refine box_event yR (N := 5) yR (cs := #[.int .i64 0, .int .i64 0, .string (⟨#[]⟩ : ByteArray)]) (t := 32) yQ ?_; intro gb136 hg w31 hbox hb; replace HO_3 := aM (Kd.R_below (yH HO_3.out) hb); have BK136 := aM (hbox); have GW136 := aM ((yS : w.heap.size ≤ gb136)); have GE136 := aM ((yS : w.heap.size ≤ gb136)); replace HB := aM (below_step yB hb); clear hb hbox hg; obtain ⟨hcz32_0, hcz32_1, hcz32_2, hfz32_0, hfz32_1, hfz32_2⟩ := blk3 BK136.out) | ((with_reducible refine gate_builtin (b := .append) (xs := #[.tmp 40, .tmp 43]) rfl ?_); at_builtin; refine Kd.R_append Kd.string (w0 := w) w.heap.size rfl (.tmp 40) (.tmp 43) 23 9 (.string ⟨#[]⟩) 16 rfl Tryd.underlying23 info9 rfl (by decide) (by omega) u3 x3_2 ((rd_Op l0 x16_2).f2) [.string ((rd_Op l0 x16_2).f2)] (fun _ => True) (fun _ => False) rfl (by first | (go_simp; done) | (go_simp; rfl)) ?aP (fun _ hk => hk.elim) ?aF ?aO ?aB ?aS ?aL ?_; (case aP => exact rfl); (case aB => exact (yBg GE136.out)); (case aF => exact (fun _ _ => trivial)); (case aO => exact (by (with_reducible repeat (first | apply Kd.R_alloc | apply Kd.R_drewN | apply Kd.R_drew)); exact Kd.R_mono (Kd.R_far (p := ⟨gb136, 2, none⟩) (Kd.R_far (p := ⟨gb136, 1, none⟩) (Kd.R_far (p := ⟨gb136, 0, none⟩) (Kd.R_types HO_3.out BK136.out (by decide)) (fun _ hk => hk.2) (.int .i64 ((rd_Op l0 x16_2).f0))) (fun _ hk => hk.2) (.int .i64 ((rd_Op l0 x16_2).f1))) (fun _ hk => hk.2) (.string ((rd_Op l0 x16_2).f2))) (fun _ hk => trivial))); (case aS => exact (below_size (yBg GE136.out))); (case aL => have := LMc30.out; omega); intro v145 w33 ho hb hg hat; rw [← Ny144.out] at ho; have n0_ := aM (blk_grown (g := gb136) (o := .cells #[.int .i64 ((rd_Op l0 x16_2).f0), .int .i64 ((rd_Op l0 x16_2).f1), .string ((rd_Op l0 x16_2).f2)] 32 (0, 0)) (by (with_reducible repeat (first | refine kN ?_ _ | refine kD ?_ | refine kA ?_ _)); refine blk_put (cs := #[.int .i64 ((rd_Op l0 x16_2).f0), .int .i64 ((rd_Op l0 x16_2).f1), .string (⟨#[]⟩ : ByteArray)]) ?_ 2 _ rfl; (with_reducible repeat (first | refine kN ?_ _ | refine kD ?_ | refine kA ?_ _)); refine blk_put (cs := #[.int .i64 ((rd_Op l0 x16_2).f0), .int .i64 0, .string (⟨#[]⟩ : ByteArray)]) ?_ 1 _ rfl; (with_reducible repeat (first | refine kN ?_ _ | refine kD ?_ | refine kA ?_ _)); refine blk_put (cs := #[.int .i64 0, .int .i64 0, .string (⟨#[]⟩ : ByteArray)]) ?_ 0 _ rfl; (with_reducible repeat (first | refine kN ?_ _ | refine kD ?_ | refine kA ?_ _)); exact BK136.out) hg (Kd.R_ne HO_3.out BK136.out (by decide))); have n1_ := aM (hb); have n2_ := aM (ho); clear BK136; clear HB; clear HO_3; have BK136 := n0_; have HB := n1_; have HO146 := n2_; clear n0_ n1_ n2_; clear ho hb hg hat))
             go_roundg k2
             case measure => have := HJ1.out; have := HK2.out; omega
             case rel => exact ⟨(y144), (wrap64 (x16_2 + 1)), yE, H', ⟨by have := HJ1.out; have := HK2.out; omega⟩, ⟨yH HO146.out⟩, ⟨yBg GE136.out⟩⟩
            ·rw [if_neg c30] at H
             exact absurd H (by simp)
           ·rw [if_neg c29] at H
            have c29b0 := beq_eq_false_iff_ne.mpr c29; have c29b1 := bne_iff_ne.mpr c29; have H' := aM H; clear H; have p135 : 0 ≤ (x16_2 : Int) := yO; have q135 : x16_2 < (l0.length : Int) := yO; obtain ⟨ad135, e135, hx135_0, hx135_1, hx135_2⟩ := at_OpB HB.out HR0.out x16_2 p135 q135; cases e135; replace p135 := eq_true p135; replace q135 := eq_true q135
            go_wp2_with (first | ((with_reducible refine gate_dst (N := 5) rfl ?_); refine box_event yR (N := 5) yR (cs := #[.int .i64 0, .int .i64 0, .string (⟨#[]⟩ : ByteArray)]) (t := 32) yQ ?_; intro gb136 hg w34 hbox hb; replace HO_3 := aM (Kd.R_below (yH HO_3.out) hb); have BK136 := aM (hbox); have GW136 := aM ((yS : w.heap.size ≤ gb136)); have GE136 := aM ((yS : w.heap.size ≤ gb136)); replace HB := aM (below_step yB hb); clear hb hbox hg; obtain ⟨hcz35_0, hcz35_1, hcz35_2, hfz35_0, hfz35_1, hfz35_2⟩ := blk3 BK136.out))
            go_roundg k2
            case measure => have := HJ1.out; have := HK2.out; omega
            case rel => exact ⟨(x3_2), (wrap64 (x16_2 + 1)), yE, H', ⟨by have := HJ1.out; have := HK2.out; omega⟩, ⟨by (with_reducible repeat (first | apply Kd.R_alloc | apply Kd.R_drewN | apply Kd.R_drew)); exact Kd.R_mono (Kd.R_far (p := ⟨gb136, 2, none⟩) (Kd.R_far (p := ⟨gb136, 1, none⟩) (Kd.R_far (p := ⟨gb136, 0, none⟩) (Kd.R_types HO_3.out BK136.out (by decide)) (fun _ hk => hk.2) (.int .i64 ((rd_Op l0 x16_2).f0))) (fun _ hk => hk.2) (.int .i64 ((rd_Op l0 x16_2).f1))) (fun _ hk => hk.2) (.string ((rd_Op l0 x16_2).f2))) (fun _ hk => trivial)⟩, ⟨yBg GE136.out⟩⟩
        ·rw [if_neg c12] at H
         exact absurd H (by simp)
       ·rw [if_neg c11] at H
        exact absurd H (by simp)
      ·rw [if_neg c10] at H
       have c10b0 := decide_eq_false c10; clear c10; obtain rfl := Option.some.inj H
       go_wp2
       go_ret
       exact ⟨_, by first | rfl | (simp [errW_none, errW_some] <;> rfl) | (simp [*, errW_none, errW_some] <;> rfl), by (with_reducible repeat (first | apply Kd.R_alloc | apply Kd.R_drewN | apply Kd.R_drew)); exact HO_3.out, yB⟩
theorem compose_Walk.calls (k : Nat) (A0 : Option Addr) (c0 : Nat) (l0 : List (Op)) (A1 : Option Addr) (c1 : Nat) (l1 : List (Op)) (r1 : List (Step)) (r2 : Bool) (w : World) (hr0 : Kd.C kOp w A0 l0.length l0) (hc0 : l0.length ≤ c0) (hr1 : Kd.C kOp w A1 l1.length l1) (hc1 : l1.length ≤ c1) (h : compose_Walk.f k l0 l1 = some (r1, r2)) :
  Calls Tryd.prog 44 #[.slice A0 l0.length c0, .slice A1 l1.length c1] w fun e w' => ∃ v0_ : Value, e = .returned (.tuple #[v0_, .bool r2]) ∧ Kd.R kStep 69 w' w.heap.size (fun _ => True) v0_ r1 ∧ Below w.heap.size w w' := by
 unfold compose_Walk.f at h
 obtain ⟨t0, h0, h⟩ := bS.mp h
 cases t0 with
 | false =>
  obtain ⟨rfl, rfl⟩ := Prod.mk.inj (Option.some.inj h)
  exact walk_no0 k A0 c0 l0 A1 c1 l1 w hr0 hc0 h0
 | true =>
  obtain ⟨t1, h1, h⟩ := bS.mp h
  cases t1 with
  | false =>
   obtain ⟨rfl, rfl⟩ := Prod.mk.inj (Option.some.inj h)
   exact walk_no1 k A0 c0 l0 A1 c1 l1 w hr0 hc0 hr1 hc1 h0 h1
  | true =>
   simp only [if_true] at h
   split at h
   ·rename_i e2
    exact walk_yes k A0 c0 l0 A1 c1 l1 r1 r2 w hr0 hc0 hr1 hc1 h0 h1 e2 h
   ·exact absurd h (by simp)
set_option maxHeartbeats 8000000 in
set_option maxRecDepth 100000 in
theorem compose_Then.calls (k : Nat) (A0 : Option Addr) (c0 : Nat) (l0 : List (Op)) (A1 : Option Addr) (c1 : Nat) (l1 : List (Op)) (r1 : List (Op)) (r2 : Bool) (w : World) (hr0 : Kd.C kOp w A0 l0.length l0) (hc0 : l0.length ≤ c0) (hr1 : Kd.C kOp w A1 l1.length l1) (hc1 : l1.length ≤ c1) (h : compose_Then.f k l0 l1 = some (r1, r2)) :
  Calls Tryd.prog 31 #[.slice A0 l0.length c0, .slice A1 l1.length c1] w fun e w' => ∃ v0_ : Value, e = .returned (.tuple #[v0_, .bool r2]) ∧ Kd.R kOp 32 w' w.heap.size (fun _ => True) v0_ r1 ∧ Below w.heap.size w w' := by
 have HR0 := aM hr0
 have HC0 := aM hc0
 clear hr0 hc0
 have HR1 := aM hr1
 have HC1 := aM hc1
 clear hr1 hc1
 have HB := aM (Below.refl w.heap.size w)
 have H : ((compose_Walk.f k l0 l1).bind fun bt196 => (if bt196.2 = true then ((compose_told.f k bt196.1).bind fun bt200 => ((ops_Norm.f k bt200.1).bind fun t204 => (some (t204, true)))) else (some (([] : List (Op)), false)))) = some (r1, r2) := h
 clear h
 replace H := bS.mp H
 obtain ⟨⟨t196, t197⟩, A30, H⟩ := H
 replace H : (if t197 = true then ((compose_told.f k t196).bind fun bt200 => ((ops_Norm.f k bt200.1).bind fun t204 => (some (t204, true)))) else (some (([] : List (Op)), false))) = some (r1, r2) := H
 have A3 := aM A30
 clear A30
 by_cases c4 : t197 = true
 ·subst c4
  replace H := iT H; replace H := bS.mp H; obtain ⟨⟨t200, t201⟩, A50, H⟩ := H; replace H : ((ops_Norm.f k t200).bind fun t204 => (some (t204, true))) = some (r1, r2) := H; have A5 := aM A50; clear A50; replace H := bS.mp H; obtain ⟨t204, A60, H⟩ := H; replace H : (some (t204, true)) = some (r1, r2) := H; have A6 := aM A60; clear A60; simp only [Option.some.injEq, Prod.mk.injEq] at H; obtain ⟨rfl, rfl⟩ := H
  go_enter Tryd.func31, Tryd.ntmps31
  go_wp2_with (first | ((with_reducible refine gate_callee (f := 44) rfl ?_); refine goesL_ (some 13) rfl rfl Tryd.func44 yK rfl #[.slice A0 l0.length c0, .slice A1 l1.length c1] rfl yG ?_; (with_reducible refine (compose_Walk.calls k _ _ l0 _ _ l1 t196 true _ (yC HR0.out) HC0.out (yC HR1.out) HC1.out A3.out).mono ?_); rintro e w7 ⟨v198, rfl, ho0, hb⟩; refine ⟨_, rfl, ?_⟩; have HO199 := aM (Kd.R_lower ho0 yW); replace HB := aM (below_step yB hb); clear hb ho0; obtain ⟨Ao8, co8, eo8⟩ := Kd.R_slice HO199.out; subst eo8) | ((with_reducible refine gate_callee (f := 45) rfl ?_); refine goesL_ (some 20) rfl rfl Tryd.func45 yK rfl #[.slice Ao8 t196.length co8] rfl yG ?_; (with_reducible refine (compose_told.calls k _ _ t196 t200 t201 _ (yC (Kd.R_reads' HO199.out).2.2) ((Kd.R_reads' HO199.out).2.1) A5.out).mono ?_); rintro e w9 ⟨v202, rfl, ho0, hb⟩; refine ⟨_, rfl, ?_⟩; replace HO199 := aM (Kd.R_below (yH HO199.out) hb); have HO203 := aM (Kd.R_lower ho0 yW); replace HB := aM (below_step yB hb); clear hb ho0; obtain ⟨Ao10, co10, eo10⟩ := Kd.R_slice HO203.out; subst eo10) | ((with_reducible refine gate_callee (f := 46) rfl ?_); refine goesL_ (some 24) rfl rfl Tryd.func46 yK rfl #[.slice Ao10 t200.length co10] rfl yG ?_; (with_reducible refine (ops_Norm.calls k _ _ t200 t204 _ (yC (Kd.R_reads' HO203.out).2.2) ((Kd.R_reads' HO203.out).2.1) A6.out).mono ?_); rintro e w11 ⟨v205, rfl, ho0, hb⟩; refine ⟨_, rfl, ?_⟩; replace HO199 := aM (Kd.R_below (yH HO199.out) hb); have HO206 := aM (Kd.R_lower (Kd.R_new' ho0 (Kd.R_lt (yH HO203.out))) yW); replace HO203 := aM (Kd.R_elder' (yH HO203.out) (Kd.R_base ho0) hb); replace HB := aM (below_step yB hb); clear hb ho0))
  go_ret2
  exact ⟨_, by first | rfl | (simp [errW_none, errW_some] <;> rfl) | (simp [*, errW_none, errW_some] <;> rfl), by (with_reducible repeat (first | apply Kd.R_alloc | apply Kd.R_drewN | apply Kd.R_drew)); exact Kd.R_mono HO206.out (fun _ hk => trivial), yB⟩
 ·replace c4 := Bool.eq_false_iff.mpr c4
  subst c4; replace H := iF H; simp only [Option.some.injEq, Prod.mk.injEq] at H; obtain ⟨rfl, rfl⟩ := H
  go_enter Tryd.func31, Tryd.ntmps31
  go_wp2_with (first | ((with_reducible refine gate_callee (f := 44) rfl ?_); refine goesL_ (some 13) rfl rfl Tryd.func44 yK rfl #[.slice A0 l0.length c0, .slice A1 l1.length c1] rfl yG ?_; (with_reducible refine (compose_Walk.calls k _ _ l0 _ _ l1 t196 false _ (yC HR0.out) HC0.out (yC HR1.out) HC1.out A3.out).mono ?_); rintro e w12 ⟨v198, rfl, ho0, hb⟩; refine ⟨_, rfl, ?_⟩; have HO199 := aM (Kd.R_lower ho0 yW); replace HB := aM (below_step yB hb); clear hb ho0))
  go_ret2
  exact ⟨_, by first | rfl | (simp [errW_none, errW_some] <;> rfl) | (simp [*, errW_none, errW_some] <;> rfl), by first | exact Kd.R_nil _ _ _ _ _ | exact Kd.N_nil _ _ _ _ _ | exact Kd.V_nil _ _ _ _ _ | exact Kd.Q_nil _ _ _ _ _ | exact Kd.S_nil _ _ _ _ _, yB⟩
set_option maxHeartbeats 8000000 in
set_option maxRecDepth 100000 in
theorem witness_Both.calls (k : Nat) (A0 : Option Addr) (c0 : Nat) (l0 : List (Op)) (A1 : Option Addr) (c1 : Nat) (l1 : List (Op)) (r1 : List ByteArray) (r2 : Bool) (w : World) (htab : TabOk w) (hr0 : Kd.C kOp w A0 l0.length l0) (hc0 : l0.length ≤ c0) (hr1 : Kd.C kOp w A1 l1.length l1) (hc1 : l1.length ≤ c1) (h : witness_Both.f k l0 l1 = some (r1, r2)) :
  Calls Tryd.prog 18 #[.slice A0 l0.length c0, .slice A1 l1.length c1] w fun e w' => ∃ v0_ : Value, e = .returned (.tuple #[v0_, .bool r2]) ∧ Kd.R Kd.string 9 w' w.heap.size (fun _ => True) v0_ r1 ∧ Below w.heap.size w w' := by
 have HR0 := aM hr0
 have HC0 := aM hc0
 clear hr0 hc0
 have HR1 := aM hr1
 have HC1 := aM hc1
 clear hr1 hc1
 have HB := aM (Below.refl w.heap.size w)
 have HTAB := aM htab
 clear htab
 have H : ((compose_Then.f k l0 l1).bind fun bt207 => (if bt207.2 = true then ((witness_Lines.f k bt207.1).bind fun t211 => (some (t211, true))) else (some (([] : List ByteArray), false)))) = some (r1, r2) := h
 clear h
 replace H := bS.mp H
 obtain ⟨⟨t207, t208⟩, A30, H⟩ := H
 replace H : (if t208 = true then ((witness_Lines.f k t207).bind fun t211 => (some (t211, true))) else (some (([] : List ByteArray), false))) = some (r1, r2) := H
 have A3 := aM A30
 clear A30
 by_cases c4 : t208 = true
 ·subst c4
  replace H := iT H; replace H := bS.mp H; obtain ⟨t211, A50, H⟩ := H; replace H : (some (t211, true)) = some (r1, r2) := H; have A5 := aM A50; clear A50; simp only [Option.some.injEq, Prod.mk.injEq] at H; obtain ⟨rfl, rfl⟩ := H
  go_enter Tryd.func18, Tryd.ntmps18
  go_wp2_with (first | ((with_reducible refine gate_callee (f := 31) rfl ?_); refine goesL_ (some 11) rfl rfl Tryd.func31 yK rfl #[.slice A0 l0.length c0, .slice A1 l1.length c1] rfl yG ?_; (with_reducible refine (compose_Then.calls k _ _ l0 _ _ l1 t207 true _ (yC HR0.out) HC0.out (yC HR1.out) HC1.out A3.out).mono ?_); rintro e w6 ⟨v209, rfl, ho0, hb⟩; refine ⟨_, rfl, ?_⟩; have HO210 := aM (Kd.R_lower ho0 yW); replace HB := aM (below_step yB hb); clear hb ho0; obtain ⟨Ao7, co7, eo7⟩ := Kd.R_slice HO210.out; subst eo7) | ((with_reducible refine gate_callee (f := 13) rfl ?_); refine goesL_ (some 17) rfl rfl Tryd.func13 yK rfl #[.slice Ao7 t207.length co7] rfl yG ?_; (with_reducible refine (witness_Lines.calls k _ _ t207 t211 _ (tabY HTAB.out) (yC (Kd.R_reads' HO210.out).2.2) ((Kd.R_reads' HO210.out).2.1) A5.out).mono ?_); rintro e w8 ⟨v212, rfl, ho0, hb⟩; refine ⟨_, rfl, ?_⟩; replace HO210 := aM (Kd.R_below (yH HO210.out) hb); have HO213 := aM (Kd.R_lower ho0 yW); replace HB := aM (below_step yB hb); clear hb ho0))
  go_ret2
  exact ⟨_, by first | rfl | (simp [errW_none, errW_some] <;> rfl) | (simp [*, errW_none, errW_some] <;> rfl), by (with_reducible repeat (first | apply Kd.R_alloc | apply Kd.R_drewN | apply Kd.R_drew)); exact HO213.out, yB⟩
 ·replace c4 := Bool.eq_false_iff.mpr c4
  subst c4; replace H := iF H; simp only [Option.some.injEq, Prod.mk.injEq] at H; obtain ⟨rfl, rfl⟩ := H
  go_enter Tryd.func18, Tryd.ntmps18
  go_wp2_with (first | ((with_reducible refine gate_callee (f := 31) rfl ?_); refine goesL_ (some 11) rfl rfl Tryd.func31 yK rfl #[.slice A0 l0.length c0, .slice A1 l1.length c1] rfl yG ?_; (with_reducible refine (compose_Then.calls k _ _ l0 _ _ l1 t207 false _ (yC HR0.out) HC0.out (yC HR1.out) HC1.out A3.out).mono ?_); rintro e w9 ⟨v209, rfl, ho0, hb⟩; refine ⟨_, rfl, ?_⟩; have HO210 := aM (Kd.R_lower ho0 yW); replace HB := aM (below_step yB hb); clear hb ho0))
  go_ret2
  exact ⟨_, by first | rfl | (simp [errW_none, errW_some] <;> rfl) | (simp [*, errW_none, errW_some] <;> rfl), by first | exact Kd.R_nil _ _ _ _ _ | exact Kd.N_nil _ _ _ _ _ | exact Kd.V_nil _ _ _ _ _ | exact Kd.Q_nil _ _ _ _ _ | exact Kd.S_nil _ _ _ _ _, yB⟩
set_option maxHeartbeats 8000000 in
set_option maxRecDepth 100000 in
theorem patchworklaw18_alive.calls (k : Nat)  (r : Bool) (w : World) (htab : TabOk w) (h : patchworklaw18_alive.f k  = some r) :
  Calls Tryd.prog 8 #[] w fun e w' => e = .returned (.bool r) ∧ Below w.heap.size w w' := by
 have hu32 := Tryd.underlying32
 have HB := aM (Below.refl w.heap.size w)
 have HTAB := aM htab
 clear htab
 have H : ((witness_Lines.f k (([(⟨1, 2, (⟨#[]⟩ : ByteArray)⟩ : Op), (⟨3, 0, (⟨#[97, 10]⟩ : ByteArray)⟩ : Op)] : List (Op)))).bind fun t217 => ((witness_Both.f k ([] : List (Op)) ([] : List (Op))).bind fun bt220 => ((witness_Lines.f k ([] : List (Op))).bind fun t224 => (if (t224.length : Int) = 0 then (if (t217.length : Int) = 3 then (if 1 < (t217.length : Int) then (if (rdOf ByteArray.empty t217 1).toList = ([63, 49, 10] : List UInt8) then (if 2 < (t217.length : Int) then (if (rdOf ByteArray.empty t217 2).toList = ([97, 10] : List UInt8) then (if (bt220.1.length : Int) = 0 then (some bt220.2) else (some false)) else (some false)) else (none)) else (some false)) else (none)) else (some false)) else (some false))))) = some r := h
 clear h
 obtain ⟨y214, hy214⟩ : ∃ y_ : List (Op), y_ = (([(⟨1, 2, (⟨#[]⟩ : ByteArray)⟩ : Op), (⟨3, 0, (⟨#[97, 10]⟩ : ByteArray)⟩ : Op)] : List (Op))) := ⟨_, rfl⟩
 replace H : ((witness_Lines.f k y214).bind fun t217 => ((witness_Both.f k ([] : List (Op)) ([] : List (Op))).bind fun bt220 => ((witness_Lines.f k ([] : List (Op))).bind fun t224 => (if (t224.length : Int) = 0 then (if (t217.length : Int) = 3 then (if 1 < (t217.length : Int) then (if (rdOf ByteArray.empty t217 1).toList = ([63, 49, 10] : List UInt8) then (if 2 < (t217.length : Int) then (if (rdOf ByteArray.empty t217 2).toList = ([97, 10] : List UInt8) then (if (bt220.1.length : Int) = 0 then (some bt220.2) else (some false)) else (some false)) else (none)) else (some false)) else (none)) else (some false)) else (some false))))) = some r := yN hy214 H
 have Ny214 := aM hy214
 clear hy214
 replace H := oB H; obtain ⟨t217, A1, H⟩ := H
 replace H := bS.mp H
 obtain ⟨⟨t220, t221⟩, A20, H⟩ := H
 replace H : ((witness_Lines.f k ([] : List (Op))).bind fun t224 => (if (t224.length : Int) = 0 then (if (t217.length : Int) = 3 then (if 1 < (t217.length : Int) then (if (rdOf ByteArray.empty t217 1).toList = ([63, 49, 10] : List UInt8) then (if 2 < (t217.length : Int) then (if (rdOf ByteArray.empty t217 2).toList = ([97, 10] : List UInt8) then (if (t220.length : Int) = 0 then (some t221) else (some false)) else (some false)) else (none)) else (some false)) else (none)) else (some false)) else (some false))) = some r := H
 have A2 := aM A20
 clear A20
 replace H := oB H; obtain ⟨t224, A3, H⟩ := H
 by_cases c4 : (t224.length : Int) = 0
 ·rw [if_pos c4] at H
  have c4b0 := beq_iff_eq.mpr c4; have c4b1 := bne_eq_false_iff_eq.mpr c4; clear c4
  by_cases c5 : (t217.length : Int) = 3
  ·rw [if_pos c5] at H
   have c5b0 := beq_iff_eq.mpr c5; have c5b1 := bne_eq_false_iff_eq.mpr c5; clear c5
   by_cases c6 : 1 < (t217.length : Int)
   ·rw [if_pos c6] at H
    have c6b0 := decide_eq_true c6; have c6b1 : decide (1 < t217.length) = true := decide_eq_true (by omega); clear c6
    by_cases c7 : (rdOf ByteArray.empty t217 1).toList = ([63, 49, 10] : List UInt8)
    ·rw [if_pos c7] at H
     have c7b0 := beq_iff_eq.mpr c7; have c7b1 := bne_eq_false_iff_eq.mpr c7; clear c7
     by_cases c8 : 2 < (t217.length : Int)
     ·rw [if_pos c8] at H
      have c8b0 := decide_eq_true c8; have c8b1 : decide (2 < t217.length) = true := decide_eq_true (by omega); clear c8
      by_cases c9 : (rdOf ByteArray.empty t217 2).toList = ([97, 10] : List UInt8)
      ·rw [if_pos c9] at H
       have c9b0 := beq_iff_eq.mpr c9; have c9b1 := bne_eq_false_iff_eq.mpr c9; clear c9
       by_cases c10 : (t220.length : Int) = 0
       ·rw [if_pos c10] at H
        have c10b0 := beq_iff_eq.mpr c10; have c10b1 := bne_eq_false_iff_eq.mpr c10; clear c10; obtain rfl := Option.some.inj H
        go_enter Tryd.func8, Tryd.ntmps8
        go_wp2_with (first | ((with_reducible refine gate_dst (N := 6) rfl ?_); (try (refine gate_guard (by rfl) ?_; dsimp only)); refine Kd.R_lit kOp _ 32 ?hg (N := 6) ?hd (xs := ([(⟨1, 2, (⟨#[]⟩ : ByteArray)⟩ : Op), (⟨3, 0, (⟨#[97, 10]⟩ : ByteArray)⟩ : Op)] : List (Op))) (inner := [.int .i64 1, .int .i64 2, .string (⟨#[]⟩ : ByteArray), .int .i64 3, .int .i64 0, .string (⟨#[97, 10]⟩ : ByteArray)]) (ok := fun _ => True) (okp := fun _ => True) ?hr ?hp (fun _ hk => hk) trivial (Below.refl _ _) (Nat.le_refl _) (by simp) ?_; (case hd => rfl); (case hg => rfl); (case hr => first | (go_simp; done) | (go_simp; rfl)); (case hp => exact (Reps.c3 (show Kd.M kOp _ _ _ (⟨1, 2, (⟨#[]⟩ : ByteArray)⟩ : Op) [.int .i64 1, .int .i64 2, .string (⟨#[]⟩ : ByteArray)] from (kOp_mkM _ _ _ (⟨1, 2, (⟨#[]⟩ : ByteArray)⟩ : Op) )) (Reps.c3 (show Kd.M kOp _ _ _ (⟨3, 0, (⟨#[97, 10]⟩ : ByteArray)⟩ : Op) [.int .i64 3, .int .i64 0, .string (⟨#[97, 10]⟩ : ByteArray)] from (kOp_mkM _ _ _ (⟨3, 0, (⟨#[97, 10]⟩ : ByteArray)⟩ : Op) )) (Reps.none _ _)))); intro v215 w11 ho12 hb hg_ hnew_; clear hg_ hnew_; (first | rw [← Ny214.out] at ho12 | (simp only [Int.reduceToNat] at ho12; rw [← Ny214.out] at ho12)); have HO216 := aM (Kd.R_lower ho12 yW); replace HB := aM (below_step yB hb); clear hb ho12; obtain ⟨Ao13, co13, eo13⟩ := Kd.R_slice HO216.out; subst eo13) | ((with_reducible refine gate_callee (f := 13) rfl ?_); refine goesL_ (some 7) rfl rfl Tryd.func13 yK rfl #[.slice Ao13 y214.length co13] rfl yG ?_; (with_reducible refine (witness_Lines.calls k _ _ y214 t217 _ (tabY HTAB.out) (yC (Kd.R_reads' HO216.out).2.2) ((Kd.R_reads' HO216.out).2.1) A1.out).mono ?_); rintro e w14 ⟨v218, rfl, ho0, hb⟩; refine ⟨_, rfl, ?_⟩; replace HO216 := aM (Kd.R_below (yH HO216.out) hb); have HO219 := aM (Kd.R_lower ho0 yW); replace HB := aM (below_step yB hb); clear hb ho0) | ((with_reducible refine gate_callee (f := 18) rfl ?_); refine goesL_ (some 9) rfl rfl Tryd.func18 yK rfl #[.slice none 0 0, .slice none 0 0] rfl yG ?_; (refine (witness_Both.calls k _ _ ([] : List (Op)) _ _ ([] : List (Op)) t220 t221 _ (tabY HTAB.out) ?side1 ?side2 ?side3 ?side4 A2.out).mono ?_); (case side1 => exact Kd.C_nil _ _); (case side2 => exact Nat.le_refl _); (case side3 => exact Kd.C_nil _ _); (case side4 => exact Nat.le_refl _); rintro e w15 ⟨v222, rfl, ho0, hb⟩; refine ⟨_, rfl, ?_⟩; replace HO216 := aM (Kd.R_below (yH HO216.out) hb); have HO223 := aM (Kd.R_lower (Kd.R_new' ho0 (Kd.R_lt (yH HO219.out))) yW); replace HO219 := aM (Kd.R_elder' (yH HO219.out) (Kd.R_base ho0) hb); replace HB := aM (below_step yB hb); clear hb ho0) | ((with_reducible refine gate_callee (f := 13) rfl ?_); refine goesL_ (some 12) rfl rfl Tryd.func13 yK rfl #[.slice none 0 0] rfl yG ?_; (refine (witness_Lines.calls k _ _ ([] : List (Op)) t224 _ (tabY HTAB.out) ?side1 ?side2 A3.out).mono ?_); (case side1 => exact Kd.C_nil _ _); (case side2 => exact Nat.le_refl _); rintro e w16 ⟨v225, rfl, ho0, hb⟩; refine ⟨_, rfl, ?_⟩; replace HO216 := aM (Kd.R_below (yH HO216.out) hb); have HO226 := aM (Kd.R_lower (Kd.R_new' (Kd.R_new' ho0 (Kd.R_lt (yH HO219.out))) (Kd.R_lt (yH HO223.out))) yW); replace HO219 := aM (Kd.R_elder' (yH HO219.out) (Kd.R_base ho0) hb); replace HO223 := aM (Kd.R_elder' (yH HO223.out) (Kd.R_base ho0) hb); replace HB := aM (below_step yB hb); clear hb ho0; obtain ⟨Ao17, co17, eo17⟩ := Kd.R_slice HO226.out; subst eo17; obtain ⟨Ao18, co18, eo18⟩ := Kd.R_slice HO219.out; subst eo18; have p227 : 0 ≤ (1 : Int) := (by omega); have q227 : 1 < (t217.length : Int) := yO; obtain ⟨ad227, e227, hx227_0⟩ := Kd.at_string (Kd.R_reads' HO219.out).2.2 1 p227 q227; cases e227; (try simp only [show (1 : Int).toNat = 1 from rfl, Nat.reduceMul, Nat.reduceEqDiff, Go.Addr.add, ↓reduceIte] at hx227_0); have qi227 : (1 < t217.length) = True := eq_true (by omega); (try rw [show ((1 : Int)).toNat = 1 from rfl] at hx227_0); replace p227 := eq_true p227; replace q227 := eq_true q227; have p228 : 0 ≤ (2 : Int) := (by omega); have q228 : 2 < (t217.length : Int) := yO; obtain ⟨ad228, e228, hx228_0⟩ := Kd.at_string (Kd.R_reads' HO219.out).2.2 2 p228 q228; obtain rfl : ad227 = ad228 := (by injection e228); (try simp only [show (2 : Int).toNat = 2 from rfl, Nat.reduceMul, Nat.reduceEqDiff, Go.Addr.add, ↓reduceIte] at hx228_0); have qi228 : (2 < t217.length) = True := eq_true (by omega); (try rw [show ((2 : Int)).toNat = 2 from rfl] at hx228_0); replace p228 := eq_true p228; replace q228 := eq_true q228; obtain ⟨Ao19, co19, eo19⟩ := Kd.R_slice HO223.out; subst eo19))
        go_ret
        exact ⟨yE2, yB⟩
       ·rw [if_neg c10] at H
        have c10b0 := beq_eq_false_iff_ne.mpr c10; have c10b1 := bne_iff_ne.mpr c10; have c10b2 : ¬ (t220 = []) := fun h_ => c10 (by rw [h_]; rfl); obtain rfl := Option.some.inj H
        go_enter Tryd.func8, Tryd.ntmps8
        go_wp2_with (first | ((with_reducible refine gate_dst (N := 6) rfl ?_); (try (refine gate_guard (by rfl) ?_; dsimp only)); refine Kd.R_lit kOp _ 32 ?hg (N := 6) ?hd (xs := ([(⟨1, 2, (⟨#[]⟩ : ByteArray)⟩ : Op), (⟨3, 0, (⟨#[97, 10]⟩ : ByteArray)⟩ : Op)] : List (Op))) (inner := [.int .i64 1, .int .i64 2, .string (⟨#[]⟩ : ByteArray), .int .i64 3, .int .i64 0, .string (⟨#[97, 10]⟩ : ByteArray)]) (ok := fun _ => True) (okp := fun _ => True) ?hr ?hp (fun _ hk => hk) trivial (Below.refl _ _) (Nat.le_refl _) (by simp) ?_; (case hd => rfl); (case hg => rfl); (case hr => first | (go_simp; done) | (go_simp; rfl)); (case hp => exact (Reps.c3 (show Kd.M kOp _ _ _ (⟨1, 2, (⟨#[]⟩ : ByteArray)⟩ : Op) [.int .i64 1, .int .i64 2, .string (⟨#[]⟩ : ByteArray)] from (kOp_mkM _ _ _ (⟨1, 2, (⟨#[]⟩ : ByteArray)⟩ : Op) )) (Reps.c3 (show Kd.M kOp _ _ _ (⟨3, 0, (⟨#[97, 10]⟩ : ByteArray)⟩ : Op) [.int .i64 3, .int .i64 0, .string (⟨#[97, 10]⟩ : ByteArray)] from (kOp_mkM _ _ _ (⟨3, 0, (⟨#[97, 10]⟩ : ByteArray)⟩ : Op) )) (Reps.none _ _)))); intro v215 w20 ho21 hb hg_ hnew_; clear hg_ hnew_; (first | rw [← Ny214.out] at ho21 | (simp only [Int.reduceToNat] at ho21; rw [← Ny214.out] at ho21)); have HO216 := aM (Kd.R_lower ho21 yW); replace HB := aM (below_step yB hb); clear hb ho21; obtain ⟨Ao22, co22, eo22⟩ := Kd.R_slice HO216.out; subst eo22) | ((with_reducible refine gate_callee (f := 13) rfl ?_); refine goesL_ (some 7) rfl rfl Tryd.func13 yK rfl #[.slice Ao22 y214.length co22] rfl yG ?_; (with_reducible refine (witness_Lines.calls k _ _ y214 t217 _ (tabY HTAB.out) (yC (Kd.R_reads' HO216.out).2.2) ((Kd.R_reads' HO216.out).2.1) A1.out).mono ?_); rintro e w23 ⟨v218, rfl, ho0, hb⟩; refine ⟨_, rfl, ?_⟩; replace HO216 := aM (Kd.R_below (yH HO216.out) hb); have HO219 := aM (Kd.R_lower ho0 yW); replace HB := aM (below_step yB hb); clear hb ho0) | ((with_reducible refine gate_callee (f := 18) rfl ?_); refine goesL_ (some 9) rfl rfl Tryd.func18 yK rfl #[.slice none 0 0, .slice none 0 0] rfl yG ?_; (refine (witness_Both.calls k _ _ ([] : List (Op)) _ _ ([] : List (Op)) t220 t221 _ (tabY HTAB.out) ?side1 ?side2 ?side3 ?side4 A2.out).mono ?_); (case side1 => exact Kd.C_nil _ _); (case side2 => exact Nat.le_refl _); (case side3 => exact Kd.C_nil _ _); (case side4 => exact Nat.le_refl _); rintro e w24 ⟨v222, rfl, ho0, hb⟩; refine ⟨_, rfl, ?_⟩; replace HO216 := aM (Kd.R_below (yH HO216.out) hb); have HO223 := aM (Kd.R_lower (Kd.R_new' ho0 (Kd.R_lt (yH HO219.out))) yW); replace HO219 := aM (Kd.R_elder' (yH HO219.out) (Kd.R_base ho0) hb); replace HB := aM (below_step yB hb); clear hb ho0) | ((with_reducible refine gate_callee (f := 13) rfl ?_); refine goesL_ (some 12) rfl rfl Tryd.func13 yK rfl #[.slice none 0 0] rfl yG ?_; (refine (witness_Lines.calls k _ _ ([] : List (Op)) t224 _ (tabY HTAB.out) ?side1 ?side2 A3.out).mono ?_); (case side1 => exact Kd.C_nil _ _); (case side2 => exact Nat.le_refl _); rintro e w25 ⟨v225, rfl, ho0, hb⟩; refine ⟨_, rfl, ?_⟩; replace HO216 := aM (Kd.R_below (yH HO216.out) hb); have HO226 := aM (Kd.R_lower (Kd.R_new' (Kd.R_new' ho0 (Kd.R_lt (yH HO219.out))) (Kd.R_lt (yH HO223.out))) yW); replace HO219 := aM (Kd.R_elder' (yH HO219.out) (Kd.R_base ho0) hb); replace HO223 := aM (Kd.R_elder' (yH HO223.out) (Kd.R_base ho0) hb); replace HB := aM (below_step yB hb); clear hb ho0; obtain ⟨Ao26, co26, eo26⟩ := Kd.R_slice HO226.out; subst eo26; obtain ⟨Ao27, co27, eo27⟩ := Kd.R_slice HO219.out; subst eo27; have p227 : 0 ≤ (1 : Int) := (by omega); have q227 : 1 < (t217.length : Int) := yO; obtain ⟨ad227, e227, hx227_0⟩ := Kd.at_string (Kd.R_reads' HO219.out).2.2 1 p227 q227; cases e227; (try simp only [show (1 : Int).toNat = 1 from rfl, Nat.reduceMul, Nat.reduceEqDiff, Go.Addr.add, ↓reduceIte] at hx227_0); have qi227 : (1 < t217.length) = True := eq_true (by omega); (try rw [show ((1 : Int)).toNat = 1 from rfl] at hx227_0); replace p227 := eq_true p227; replace q227 := eq_true q227; have p228 : 0 ≤ (2 : Int) := (by omega); have q228 : 2 < (t217.length : Int) := yO; obtain ⟨ad228, e228, hx228_0⟩ := Kd.at_string (Kd.R_reads' HO219.out).2.2 2 p228 q228; obtain rfl : ad227 = ad228 := (by injection e228); (try simp only [show (2 : Int).toNat = 2 from rfl, Nat.reduceMul, Nat.reduceEqDiff, Go.Addr.add, ↓reduceIte] at hx228_0); have qi228 : (2 < t217.length) = True := eq_true (by omega); (try rw [show ((2 : Int)).toNat = 2 from rfl] at hx228_0); replace p228 := eq_true p228; replace q228 := eq_true q228; obtain ⟨Ao28, co28, eo28⟩ := Kd.R_slice HO223.out; subst eo28))
        go_ret
        exact ⟨yE2, yB⟩
      ·rw [if_neg c9] at H
       have c9b0 := beq_eq_false_iff_ne.mpr c9; have c9b1 := bne_iff_ne.mpr c9; obtain rfl := Option.some.inj H
       go_enter Tryd.func8, Tryd.ntmps8
       go_wp2_with (first | ((with_reducible refine gate_dst (N := 6) rfl ?_); (try (refine gate_guard (by rfl) ?_; dsimp only)); refine Kd.R_lit kOp _ 32 ?hg (N := 6) ?hd (xs := ([(⟨1, 2, (⟨#[]⟩ : ByteArray)⟩ : Op), (⟨3, 0, (⟨#[97, 10]⟩ : ByteArray)⟩ : Op)] : List (Op))) (inner := [.int .i64 1, .int .i64 2, .string (⟨#[]⟩ : ByteArray), .int .i64 3, .int .i64 0, .string (⟨#[97, 10]⟩ : ByteArray)]) (ok := fun _ => True) (okp := fun _ => True) ?hr ?hp (fun _ hk => hk) trivial (Below.refl _ _) (Nat.le_refl _) (by simp) ?_; (case hd => rfl); (case hg => rfl); (case hr => first | (go_simp; done) | (go_simp; rfl)); (case hp => exact (Reps.c3 (show Kd.M kOp _ _ _ (⟨1, 2, (⟨#[]⟩ : ByteArray)⟩ : Op) [.int .i64 1, .int .i64 2, .string (⟨#[]⟩ : ByteArray)] from (kOp_mkM _ _ _ (⟨1, 2, (⟨#[]⟩ : ByteArray)⟩ : Op) )) (Reps.c3 (show Kd.M kOp _ _ _ (⟨3, 0, (⟨#[97, 10]⟩ : ByteArray)⟩ : Op) [.int .i64 3, .int .i64 0, .string (⟨#[97, 10]⟩ : ByteArray)] from (kOp_mkM _ _ _ (⟨3, 0, (⟨#[97, 10]⟩ : ByteArray)⟩ : Op) )) (Reps.none _ _)))); intro v215 w29 ho30 hb hg_ hnew_; clear hg_ hnew_; (first | rw [← Ny214.out] at ho30 | (simp only [Int.reduceToNat] at ho30; rw [← Ny214.out] at ho30)); have HO216 := aM (Kd.R_lower ho30 yW); replace HB := aM (below_step yB hb); clear hb ho30; obtain ⟨Ao31, co31, eo31⟩ := Kd.R_slice HO216.out; subst eo31) | ((with_reducible refine gate_callee (f := 13) rfl ?_); refine goesL_ (some 7) rfl rfl Tryd.func13 yK rfl #[.slice Ao31 y214.length co31] rfl yG ?_; (with_reducible refine (witness_Lines.calls k _ _ y214 t217 _ (tabY HTAB.out) (yC (Kd.R_reads' HO216.out).2.2) ((Kd.R_reads' HO216.out).2.1) A1.out).mono ?_); rintro e w32 ⟨v218, rfl, ho0, hb⟩; refine ⟨_, rfl, ?_⟩; replace HO216 := aM (Kd.R_below (yH HO216.out) hb); have HO219 := aM (Kd.R_lower ho0 yW); replace HB := aM (below_step yB hb); clear hb ho0) | ((with_reducible refine gate_callee (f := 18) rfl ?_); refine goesL_ (some 9) rfl rfl Tryd.func18 yK rfl #[.slice none 0 0, .slice none 0 0] rfl yG ?_; (refine (witness_Both.calls k _ _ ([] : List (Op)) _ _ ([] : List (Op)) t220 t221 _ (tabY HTAB.out) ?side1 ?side2 ?side3 ?side4 A2.out).mono ?_); (case side1 => exact Kd.C_nil _ _); (case side2 => exact Nat.le_refl _); (case side3 => exact Kd.C_nil _ _); (case side4 => exact Nat.le_refl _); rintro e w33 ⟨v222, rfl, ho0, hb⟩; refine ⟨_, rfl, ?_⟩; replace HO216 := aM (Kd.R_below (yH HO216.out) hb); have HO223 := aM (Kd.R_lower (Kd.R_new' ho0 (Kd.R_lt (yH HO219.out))) yW); replace HO219 := aM (Kd.R_elder' (yH HO219.out) (Kd.R_base ho0) hb); replace HB := aM (below_step yB hb); clear hb ho0) | ((with_reducible refine gate_callee (f := 13) rfl ?_); refine goesL_ (some 12) rfl rfl Tryd.func13 yK rfl #[.slice none 0 0] rfl yG ?_; (refine (witness_Lines.calls k _ _ ([] : List (Op)) t224 _ (tabY HTAB.out) ?side1 ?side2 A3.out).mono ?_); (case side1 => exact Kd.C_nil _ _); (case side2 => exact Nat.le_refl _); rintro e w34 ⟨v225, rfl, ho0, hb⟩; refine ⟨_, rfl, ?_⟩; replace HO216 := aM (Kd.R_below (yH HO216.out) hb); have HO226 := aM (Kd.R_lower (Kd.R_new' (Kd.R_new' ho0 (Kd.R_lt (yH HO219.out))) (Kd.R_lt (yH HO223.out))) yW); replace HO219 := aM (Kd.R_elder' (yH HO219.out) (Kd.R_base ho0) hb); replace HO223 := aM (Kd.R_elder' (yH HO223.out) (Kd.R_base ho0) hb); replace HB := aM (below_step yB hb); clear hb ho0; obtain ⟨Ao35, co35, eo35⟩ := Kd.R_slice HO226.out; subst eo35; obtain ⟨Ao36, co36, eo36⟩ := Kd.R_slice HO219.out; subst eo36; have p227 : 0 ≤ (1 : Int) := (by omega); have q227 : 1 < (t217.length : Int) := yO; obtain ⟨ad227, e227, hx227_0⟩ := Kd.at_string (Kd.R_reads' HO219.out).2.2 1 p227 q227; cases e227; (try simp only [show (1 : Int).toNat = 1 from rfl, Nat.reduceMul, Nat.reduceEqDiff, Go.Addr.add, ↓reduceIte] at hx227_0); have qi227 : (1 < t217.length) = True := eq_true (by omega); (try rw [show ((1 : Int)).toNat = 1 from rfl] at hx227_0); replace p227 := eq_true p227; replace q227 := eq_true q227; have p228 : 0 ≤ (2 : Int) := (by omega); have q228 : 2 < (t217.length : Int) := yO; obtain ⟨ad228, e228, hx228_0⟩ := Kd.at_string (Kd.R_reads' HO219.out).2.2 2 p228 q228; obtain rfl : ad227 = ad228 := (by injection e228); (try simp only [show (2 : Int).toNat = 2 from rfl, Nat.reduceMul, Nat.reduceEqDiff, Go.Addr.add, ↓reduceIte] at hx228_0); have qi228 : (2 < t217.length) = True := eq_true (by omega); (try rw [show ((2 : Int)).toNat = 2 from rfl] at hx228_0); replace p228 := eq_true p228; replace q228 := eq_true q228))
       go_ret
       exact ⟨yE2, yB⟩
     ·rw [if_neg c8] at H
      exact absurd H (by simp)
    ·rw [if_neg c7] at H
     have c7b0 := beq_eq_false_iff_ne.mpr c7; have c7b1 := bne_iff_ne.mpr c7; obtain rfl := Option.some.inj H
     go_enter Tryd.func8, Tryd.ntmps8
     go_wp2_with (first | ((with_reducible refine gate_dst (N := 6) rfl ?_); (try (refine gate_guard (by rfl) ?_; dsimp only)); refine Kd.R_lit kOp _ 32 ?hg (N := 6) ?hd (xs := ([(⟨1, 2, (⟨#[]⟩ : ByteArray)⟩ : Op), (⟨3, 0, (⟨#[97, 10]⟩ : ByteArray)⟩ : Op)] : List (Op))) (inner := [.int .i64 1, .int .i64 2, .string (⟨#[]⟩ : ByteArray), .int .i64 3, .int .i64 0, .string (⟨#[97, 10]⟩ : ByteArray)]) (ok := fun _ => True) (okp := fun _ => True) ?hr ?hp (fun _ hk => hk) trivial (Below.refl _ _) (Nat.le_refl _) (by simp) ?_; (case hd => rfl); (case hg => rfl); (case hr => first | (go_simp; done) | (go_simp; rfl)); (case hp => exact (Reps.c3 (show Kd.M kOp _ _ _ (⟨1, 2, (⟨#[]⟩ : ByteArray)⟩ : Op) [.int .i64 1, .int .i64 2, .string (⟨#[]⟩ : ByteArray)] from (kOp_mkM _ _ _ (⟨1, 2, (⟨#[]⟩ : ByteArray)⟩ : Op) )) (Reps.c3 (show Kd.M kOp _ _ _ (⟨3, 0, (⟨#[97, 10]⟩ : ByteArray)⟩ : Op) [.int .i64 3, .int .i64 0, .string (⟨#[97, 10]⟩ : ByteArray)] from (kOp_mkM _ _ _ (⟨3, 0, (⟨#[97, 10]⟩ : ByteArray)⟩ : Op) )) (Reps.none _ _)))); intro v215 w37 ho38 hb hg_ hnew_; clear hg_ hnew_; (first | rw [← Ny214.out] at ho38 | (simp only [Int.reduceToNat] at ho38; rw [← Ny214.out] at ho38)); have HO216 := aM (Kd.R_lower ho38 yW); replace HB := aM (below_step yB hb); clear hb ho38; obtain ⟨Ao39, co39, eo39⟩ := Kd.R_slice HO216.out; subst eo39) | ((with_reducible refine gate_callee (f := 13) rfl ?_); refine goesL_ (some 7) rfl rfl Tryd.func13 yK rfl #[.slice Ao39 y214.length co39] rfl yG ?_; (with_reducible refine (witness_Lines.calls k _ _ y214 t217 _ (tabY HTAB.out) (yC (Kd.R_reads' HO216.out).2.2) ((Kd.R_reads' HO216.out).2.1) A1.out).mono ?_); rintro e w40 ⟨v218, rfl, ho0, hb⟩; refine ⟨_, rfl, ?_⟩; replace HO216 := aM (Kd.R_below (yH HO216.out) hb); have HO219 := aM (Kd.R_lower ho0 yW); replace HB := aM (below_step yB hb); clear hb ho0) | ((with_reducible refine gate_callee (f := 18) rfl ?_); refine goesL_ (some 9) rfl rfl Tryd.func18 yK rfl #[.slice none 0 0, .slice none 0 0] rfl yG ?_; (refine (witness_Both.calls k _ _ ([] : List (Op)) _ _ ([] : List (Op)) t220 t221 _ (tabY HTAB.out) ?side1 ?side2 ?side3 ?side4 A2.out).mono ?_); (case side1 => exact Kd.C_nil _ _); (case side2 => exact Nat.le_refl _); (case side3 => exact Kd.C_nil _ _); (case side4 => exact Nat.le_refl _); rintro e w41 ⟨v222, rfl, ho0, hb⟩; refine ⟨_, rfl, ?_⟩; replace HO216 := aM (Kd.R_below (yH HO216.out) hb); have HO223 := aM (Kd.R_lower (Kd.R_new' ho0 (Kd.R_lt (yH HO219.out))) yW); replace HO219 := aM (Kd.R_elder' (yH HO219.out) (Kd.R_base ho0) hb); replace HB := aM (below_step yB hb); clear hb ho0) | ((with_reducible refine gate_callee (f := 13) rfl ?_); refine goesL_ (some 12) rfl rfl Tryd.func13 yK rfl #[.slice none 0 0] rfl yG ?_; (refine (witness_Lines.calls k _ _ ([] : List (Op)) t224 _ (tabY HTAB.out) ?side1 ?side2 A3.out).mono ?_); (case side1 => exact Kd.C_nil _ _); (case side2 => exact Nat.le_refl _); rintro e w42 ⟨v225, rfl, ho0, hb⟩; refine ⟨_, rfl, ?_⟩; replace HO216 := aM (Kd.R_below (yH HO216.out) hb); have HO226 := aM (Kd.R_lower (Kd.R_new' (Kd.R_new' ho0 (Kd.R_lt (yH HO219.out))) (Kd.R_lt (yH HO223.out))) yW); replace HO219 := aM (Kd.R_elder' (yH HO219.out) (Kd.R_base ho0) hb); replace HO223 := aM (Kd.R_elder' (yH HO223.out) (Kd.R_base ho0) hb); replace HB := aM (below_step yB hb); clear hb ho0; obtain ⟨Ao43, co43, eo43⟩ := Kd.R_slice HO226.out; subst eo43; obtain ⟨Ao44, co44, eo44⟩ := Kd.R_slice HO219.out; subst eo44; have p227 : 0 ≤ (1 : Int) := (by omega); have q227 : 1 < (t217.length : Int) := yO; obtain ⟨ad227, e227, hx227_0⟩ := Kd.at_string (Kd.R_reads' HO219.out).2.2 1 p227 q227; cases e227; (try simp only [show (1 : Int).toNat = 1 from rfl, Nat.reduceMul, Nat.reduceEqDiff, Go.Addr.add, ↓reduceIte] at hx227_0); have qi227 : (1 < t217.length) = True := eq_true (by omega); (try rw [show ((1 : Int)).toNat = 1 from rfl] at hx227_0); replace p227 := eq_true p227; replace q227 := eq_true q227))
     go_ret
     exact ⟨yE2, yB⟩
   ·rw [if_neg c6] at H
    exact absurd H (by simp)
  ·rw [if_neg c5] at H
   have c5b0 := beq_eq_false_iff_ne.mpr c5; have c5b1 := bne_iff_ne.mpr c5; obtain rfl := Option.some.inj H
   go_enter Tryd.func8, Tryd.ntmps8
   go_wp2_with (first | ((with_reducible refine gate_dst (N := 6) rfl ?_); (try (refine gate_guard (by rfl) ?_; dsimp only)); refine Kd.R_lit kOp _ 32 ?hg (N := 6) ?hd (xs := ([(⟨1, 2, (⟨#[]⟩ : ByteArray)⟩ : Op), (⟨3, 0, (⟨#[97, 10]⟩ : ByteArray)⟩ : Op)] : List (Op))) (inner := [.int .i64 1, .int .i64 2, .string (⟨#[]⟩ : ByteArray), .int .i64 3, .int .i64 0, .string (⟨#[97, 10]⟩ : ByteArray)]) (ok := fun _ => True) (okp := fun _ => True) ?hr ?hp (fun _ hk => hk) trivial (Below.refl _ _) (Nat.le_refl _) (by simp) ?_; (case hd => rfl); (case hg => rfl); (case hr => first | (go_simp; done) | (go_simp; rfl)); (case hp => exact (Reps.c3 (show Kd.M kOp _ _ _ (⟨1, 2, (⟨#[]⟩ : ByteArray)⟩ : Op) [.int .i64 1, .int .i64 2, .string (⟨#[]⟩ : ByteArray)] from (kOp_mkM _ _ _ (⟨1, 2, (⟨#[]⟩ : ByteArray)⟩ : Op) )) (Reps.c3 (show Kd.M kOp _ _ _ (⟨3, 0, (⟨#[97, 10]⟩ : ByteArray)⟩ : Op) [.int .i64 3, .int .i64 0, .string (⟨#[97, 10]⟩ : ByteArray)] from (kOp_mkM _ _ _ (⟨3, 0, (⟨#[97, 10]⟩ : ByteArray)⟩ : Op) )) (Reps.none _ _)))); intro v215 w45 ho46 hb hg_ hnew_; clear hg_ hnew_; (first | rw [← Ny214.out] at ho46 | (simp only [Int.reduceToNat] at ho46; rw [← Ny214.out] at ho46)); have HO216 := aM (Kd.R_lower ho46 yW); replace HB := aM (below_step yB hb); clear hb ho46; obtain ⟨Ao47, co47, eo47⟩ := Kd.R_slice HO216.out; subst eo47) | ((with_reducible refine gate_callee (f := 13) rfl ?_); refine goesL_ (some 7) rfl rfl Tryd.func13 yK rfl #[.slice Ao47 y214.length co47] rfl yG ?_; (with_reducible refine (witness_Lines.calls k _ _ y214 t217 _ (tabY HTAB.out) (yC (Kd.R_reads' HO216.out).2.2) ((Kd.R_reads' HO216.out).2.1) A1.out).mono ?_); rintro e w48 ⟨v218, rfl, ho0, hb⟩; refine ⟨_, rfl, ?_⟩; replace HO216 := aM (Kd.R_below (yH HO216.out) hb); have HO219 := aM (Kd.R_lower ho0 yW); replace HB := aM (below_step yB hb); clear hb ho0) | ((with_reducible refine gate_callee (f := 18) rfl ?_); refine goesL_ (some 9) rfl rfl Tryd.func18 yK rfl #[.slice none 0 0, .slice none 0 0] rfl yG ?_; (refine (witness_Both.calls k _ _ ([] : List (Op)) _ _ ([] : List (Op)) t220 t221 _ (tabY HTAB.out) ?side1 ?side2 ?side3 ?side4 A2.out).mono ?_); (case side1 => exact Kd.C_nil _ _); (case side2 => exact Nat.le_refl _); (case side3 => exact Kd.C_nil _ _); (case side4 => exact Nat.le_refl _); rintro e w49 ⟨v222, rfl, ho0, hb⟩; refine ⟨_, rfl, ?_⟩; replace HO216 := aM (Kd.R_below (yH HO216.out) hb); have HO223 := aM (Kd.R_lower (Kd.R_new' ho0 (Kd.R_lt (yH HO219.out))) yW); replace HO219 := aM (Kd.R_elder' (yH HO219.out) (Kd.R_base ho0) hb); replace HB := aM (below_step yB hb); clear hb ho0) | ((with_reducible refine gate_callee (f := 13) rfl ?_); refine goesL_ (some 12) rfl rfl Tryd.func13 yK rfl #[.slice none 0 0] rfl yG ?_; (refine (witness_Lines.calls k _ _ ([] : List (Op)) t224 _ (tabY HTAB.out) ?side1 ?side2 A3.out).mono ?_); (case side1 => exact Kd.C_nil _ _); (case side2 => exact Nat.le_refl _); rintro e w50 ⟨v225, rfl, ho0, hb⟩; refine ⟨_, rfl, ?_⟩; replace HO216 := aM (Kd.R_below (yH HO216.out) hb); have HO226 := aM (Kd.R_lower (Kd.R_new' (Kd.R_new' ho0 (Kd.R_lt (yH HO219.out))) (Kd.R_lt (yH HO223.out))) yW); replace HO219 := aM (Kd.R_elder' (yH HO219.out) (Kd.R_base ho0) hb); replace HO223 := aM (Kd.R_elder' (yH HO223.out) (Kd.R_base ho0) hb); replace HB := aM (below_step yB hb); clear hb ho0; obtain ⟨Ao51, co51, eo51⟩ := Kd.R_slice HO226.out; subst eo51; obtain ⟨Ao52, co52, eo52⟩ := Kd.R_slice HO219.out; subst eo52))
   go_ret
   exact ⟨yE2, yB⟩
 ·rw [if_neg c4] at H
  have c4b0 := beq_eq_false_iff_ne.mpr c4; have c4b1 := bne_iff_ne.mpr c4; have c4b2 : ¬ (t224 = []) := fun h_ => c4 (by rw [h_]; rfl); obtain rfl := Option.some.inj H
  go_enter Tryd.func8, Tryd.ntmps8
  go_wp2_with (first | ((with_reducible refine gate_dst (N := 6) rfl ?_); (try (refine gate_guard (by rfl) ?_; dsimp only)); refine Kd.R_lit kOp _ 32 ?hg (N := 6) ?hd (xs := ([(⟨1, 2, (⟨#[]⟩ : ByteArray)⟩ : Op), (⟨3, 0, (⟨#[97, 10]⟩ : ByteArray)⟩ : Op)] : List (Op))) (inner := [.int .i64 1, .int .i64 2, .string (⟨#[]⟩ : ByteArray), .int .i64 3, .int .i64 0, .string (⟨#[97, 10]⟩ : ByteArray)]) (ok := fun _ => True) (okp := fun _ => True) ?hr ?hp (fun _ hk => hk) trivial (Below.refl _ _) (Nat.le_refl _) (by simp) ?_; (case hd => rfl); (case hg => rfl); (case hr => first | (go_simp; done) | (go_simp; rfl)); (case hp => exact (Reps.c3 (show Kd.M kOp _ _ _ (⟨1, 2, (⟨#[]⟩ : ByteArray)⟩ : Op) [.int .i64 1, .int .i64 2, .string (⟨#[]⟩ : ByteArray)] from (kOp_mkM _ _ _ (⟨1, 2, (⟨#[]⟩ : ByteArray)⟩ : Op) )) (Reps.c3 (show Kd.M kOp _ _ _ (⟨3, 0, (⟨#[97, 10]⟩ : ByteArray)⟩ : Op) [.int .i64 3, .int .i64 0, .string (⟨#[97, 10]⟩ : ByteArray)] from (kOp_mkM _ _ _ (⟨3, 0, (⟨#[97, 10]⟩ : ByteArray)⟩ : Op) )) (Reps.none _ _)))); intro v215 w53 ho54 hb hg_ hnew_; clear hg_ hnew_; (first | rw [← Ny214.out] at ho54 | (simp only [Int.reduceToNat] at ho54; rw [← Ny214.out] at ho54)); have HO216 := aM (Kd.R_lower ho54 yW); replace HB := aM (below_step yB hb); clear hb ho54; obtain ⟨Ao55, co55, eo55⟩ := Kd.R_slice HO216.out; subst eo55) | ((with_reducible refine gate_callee (f := 13) rfl ?_); refine goesL_ (some 7) rfl rfl Tryd.func13 yK rfl #[.slice Ao55 y214.length co55] rfl yG ?_; (with_reducible refine (witness_Lines.calls k _ _ y214 t217 _ (tabY HTAB.out) (yC (Kd.R_reads' HO216.out).2.2) ((Kd.R_reads' HO216.out).2.1) A1.out).mono ?_); rintro e w56 ⟨v218, rfl, ho0, hb⟩; refine ⟨_, rfl, ?_⟩; replace HO216 := aM (Kd.R_below (yH HO216.out) hb); have HO219 := aM (Kd.R_lower ho0 yW); replace HB := aM (below_step yB hb); clear hb ho0) | ((with_reducible refine gate_callee (f := 18) rfl ?_); refine goesL_ (some 9) rfl rfl Tryd.func18 yK rfl #[.slice none 0 0, .slice none 0 0] rfl yG ?_; (refine (witness_Both.calls k _ _ ([] : List (Op)) _ _ ([] : List (Op)) t220 t221 _ (tabY HTAB.out) ?side1 ?side2 ?side3 ?side4 A2.out).mono ?_); (case side1 => exact Kd.C_nil _ _); (case side2 => exact Nat.le_refl _); (case side3 => exact Kd.C_nil _ _); (case side4 => exact Nat.le_refl _); rintro e w57 ⟨v222, rfl, ho0, hb⟩; refine ⟨_, rfl, ?_⟩; replace HO216 := aM (Kd.R_below (yH HO216.out) hb); have HO223 := aM (Kd.R_lower (Kd.R_new' ho0 (Kd.R_lt (yH HO219.out))) yW); replace HO219 := aM (Kd.R_elder' (yH HO219.out) (Kd.R_base ho0) hb); replace HB := aM (below_step yB hb); clear hb ho0) | ((with_reducible refine gate_callee (f := 13) rfl ?_); refine goesL_ (some 12) rfl rfl Tryd.func13 yK rfl #[.slice none 0 0] rfl yG ?_; (refine (witness_Lines.calls k _ _ ([] : List (Op)) t224 _ (tabY HTAB.out) ?side1 ?side2 A3.out).mono ?_); (case side1 => exact Kd.C_nil _ _); (case side2 => exact Nat.le_refl _); rintro e w58 ⟨v225, rfl, ho0, hb⟩; refine ⟨_, rfl, ?_⟩; replace HO216 := aM (Kd.R_below (yH HO216.out) hb); have HO226 := aM (Kd.R_lower (Kd.R_new' (Kd.R_new' ho0 (Kd.R_lt (yH HO219.out))) (Kd.R_lt (yH HO223.out))) yW); replace HO219 := aM (Kd.R_elder' (yH HO219.out) (Kd.R_base ho0) hb); replace HO223 := aM (Kd.R_elder' (yH HO223.out) (Kd.R_base ho0) hb); replace HB := aM (below_step yB hb); clear hb ho0; obtain ⟨Ao59, co59, eo59⟩ := Kd.R_slice HO226.out; subst eo59))
  go_ret
  exact ⟨yE2, yB⟩
end Go.Proofs.YtkiklmmpflndbaaDoor.P
