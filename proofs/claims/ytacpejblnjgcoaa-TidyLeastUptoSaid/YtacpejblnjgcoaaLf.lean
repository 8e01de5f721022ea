/- Own: the walk of lcs.Diff. -/
import Derived.Test.YtacpejblnjgcoaaLe
import Derived.Test.YtacpejblnjgcoaaP2
import Derived.Outline
namespace Go.Proofs.Ytacpejblnjgcoaa.P
open Go.RowKit Go.Proofs.YtacpejblnjgcoaaW.PrintWords Go.Proofs.YtacpejblnjgcoaaW.PrintLast Go.Proofs.YtacpejblnjgcoaaW.PrintMore
set_option linter.unusedVariables false
set_option linter.unusedSimpArgs false
attribute [local go_sem] max2_int min2_int max_two min_two

theorem info_str : (Try.prog.info? 9).map (fun i => (i.zero, i.size, i.bytes)) = some (some (.string ⟨#[]⟩), 1, 16) := by kernel_rfl
theorem OutW.start (w : World) : OutW w (w.alloc (.cells #[.slice none 0 0] 22)) w.heap.size [] :=
  ⟨below_alloc (Below.refl _ _) _, Nat.le_refl _, _, by simpa using heap_alloc_new w _, Kd.R_nil _ _ _ _ _⟩
theorem OutW.below {w wr w' : World} {gb : Nat} {xs : List Op} (h : OutW w wr gb xs) (hb : Below wr.heap.size wr w') : OutW w w' gb xs := by
  obtain ⟨h1, h2, v, h3, h4⟩ := h
  refine ⟨below_step h1 hb, h2, v, ?_, Kd.R_below h4 hb⟩
  rw [hb.block _ (blk_lt h3)]; exact h3

set_option maxHeartbeats 4000000 in
set_option maxRecDepth 100000 in
theorem lcs_Diff_walk (A0 : Option Addr) (c0 : Nat) (a : List ByteArray) (A1 : Option Addr) (c1 : Nat) (b : List ByteArray) (w : World) (hr0 : Kd.C Kd.string w A0 a.length a) (hc0 : a.length ≤ c0) (hr1 : Kd.C Kd.string w A1 b.length b) (hc1 : b.length ≤ c1) (ha : a.length ≤ 1000000) (hb : b.length ≤ 1000000) :
    Calls Try.prog 41 #[.slice A0 a.length c0, .slice A1 b.length c1] w fun e w' => ∃ v0_ : Value, e = .returned v0_ ∧ Kd.R kOp 36 w' w.heap.size (fun _ => True) v0_ (diffOps a b) ∧ Below w.heap.size w w' := by
  have HR0 := Aside0.mk hr0
  have HR1 := Aside0.mk hr1
  have HC0 := Aside0.mk hc0
  have HC1 := Aside0.mk hc1
  clear hr0 hr1 hc0 hc1
  have la0 : (a.length : Int) ≤ 1000000 := by omega
  have lb0 : (b.length : Int) ≤ 1000000 := by omega
  go_enter Try.func41, Try.ntmps41
  go_wp2_with fail
  have O0 := OutW.start w
  generalize w.alloc (.cells #[.slice none 0 0] 22) = wa at O0 ⊢
  obtain ⟨K, hK⟩ := (ahead_ev a b ha hb).rounds
  refine (lcs_ahead.calls K A0 c0 a A1 c1 b _ wa (Kd.C_below HR0.out O0.1) HC0.out (Kd.C_below HR1.out O0.1) HC1.out hK).mono ?_
  rintro e w1 ⟨rfl, ⟨n1, rfl⟩⟩
  obtain ⟨n, hn⟩ : ∃ n, n = aheadN a b := ⟨_, rfl⟩
  have hle := aheadN_le a b
  rw [← hn] at hle ⊢
  have hla := hle.1
  have hlb := hle.2
  obtain ⟨i0, hi0, _, hsz0, _⟩ := info_parts info_str
  have hct := cut_to (P := Try.prog) 27 9 .i64 Try.underlying27 hi0 A0 a.length c0 (n : Int) (by omega) (by omega) HC0.out
  rw [Int.toNat_natCast] at hct
  have HN := Aside0.mk hn
  have HO0 := Aside0.mk O0
  have HI0 := Aside0.mk hi0
  have HS0 := Aside0.mk hsz0
  clear hn O0 hK hle hi0 hsz0
  go_wp2_with fail
  go_loopg [21] n (fun g s21 wx => ∃ (k : Nat), s21 = .int .i64 (k : Int) ∧ Aside0 (k + g = n) ∧ Aside0 (OutW w wx w.heap.size ((a.take k).map fun t => (⟨2, 0, t⟩ : Op))))
  case atStart => exact ⟨0, rfl, ⟨by omega⟩, ⟨by simpa using HO0.out.drewN n1⟩⟩
  case round =>
    clear HO0
    obtain ⟨k, rfl, HKG, HO⟩ := hrel
    cases gk with
    | succ g =>
      have hkn : k < n := by have := HKG.out; omega
      have hka : k < a.length := by omega
      have hk0 : (k : Int) < (a.length : Int) := by omega
      have hk1 : (k : Int) < (n : Int) := by omega
      have hk2 : (0 : Int) ≤ (k : Int) := by omega
      obtain ⟨ad1, e1, hx1⟩ := Kd.at_string HR0.out (k : Int) (by omega) hk0
      cases e1
      replace hx1 := (HO.out.1.cell (World.block_lt_of_cell? w _ hx1)).trans hx1
      rw [Int.toNat_natCast, rd_getElem hka] at hx1
      generalize ht : a[k] = tx at hx1
      have HTX := Aside0.mk ht
      clear ht
      go_wp2_with fail
      refine (put_walk w _ w.heap.size _ HO.out (by simp; omega) 2 tx).mono ?_
      rintro e w2 ⟨⟨r, rfl⟩, hO, hKT⟩
      have HO2 := Aside0.mk hO
      clear hO hKT hx1
      go_wp2
      go_roundg g
      case measure => omega
      case rel => exact ⟨k + 1, (by first | rfl | (simp; done)), ⟨by have := HKG.out; omega⟩, ⟨by rw [List.take_succ_eq_append_getElem hka, List.map_append, HTX.out]; exact HO2.out⟩⟩
    | zero =>
      obtain rfl : k = n := by have := HKG.out; omega
      clear hct HKG
      obtain ⟨a', ha'⟩ : ∃ x, x = a.drop k := ⟨_, rfl⟩
      obtain ⟨b', hb'⟩ : ∃ x, x = b.drop k := ⟨_, rfl⟩
      have hla' : a'.length = a.length - k := by rw [ha']; simp
      have hlb' : b'.length = b.length - k := by rw [hb']; simp
      have hcf0 := cut_from (P := Try.prog) 27 9 .i64 Try.underlying27 HI0.out 1 HS0.out A0 a.length c0 (k : Int) (by omega) (by omega)
      have hcf1 := cut_from (P := Try.prog) 27 9 .i64 Try.underlying27 HI0.out 1 HS0.out A1 b.length c1 (k : Int) (by omega) (by omega)
      have hr0 := Kd.C_drop (c := c0) HR0.out hla HC0.out
      have hr1 := Kd.C_drop (c := c1) HR1.out hlb HC1.out
      rw [Int.toNat_natCast] at hcf0 hcf1
      obtain ⟨A0', hA0⟩ : ∃ A', A' = (if c0 = k then A0 else A0.map (·.add (k * 1))) := ⟨_, rfl⟩
      obtain ⟨A1', hA1⟩ : ∃ A', A' = (if c1 = k then A1 else A1.map (·.add (k * 1))) := ⟨_, rfl⟩
      obtain ⟨c0', hcc0⟩ : ∃ x, x = c0 - k := ⟨_, rfl⟩
      obtain ⟨c1', hcc1⟩ : ∃ x, x = c1 - k := ⟨_, rfl⟩
      rw [← hA0, ← hla', ← hcc0] at hcf0
      rw [← hA1, ← hlb', ← hcc1] at hcf1
      replace hr0 : Kd.C Kd.string w A0' a'.length a' := by rw [hA0, ha']; exact hr0
      replace hr1 : Kd.C Kd.string w A1' b'.length b' := by rw [hA1, hb']; exact hr1
      have HR0' := Aside0.mk hr0
      have HR1' := Aside0.mk hr1
      have hD : (a.take k).map (fun t => (⟨2, 0, t⟩ : Op)) ++ diffOps a' b' = diffOps a b := by
        rw [ha', hb', HN.out]; exact (diffOps_ahead a b).symm
      have HD := Aside0.mk hD
      have hla2 : a'.length ≤ 1000000 := by omega
      have hlb2 : b'.length ≤ 1000000 := by omega
      generalize (a.take k).map (fun t => (⟨2, 0, t⟩ : Op)) = out0 at HO HD
      have HDL := Aside0.mk (diffOps_len a b)
      have HDB := Aside0.mk (show a.length + b.length ≤ 2000000 by omega)
      clear hr0 hr1 hA0 hA1 hcc0 hcc1 ha' hb' hD HR0 HR1 HC0 HC1 HI0 HS0 HN hla' hlb' hla hlb la0 lb0
      have la0 : (a'.length : Int) ≤ 1000000 := by omega
      have lb0 : (b'.length : Int) ≤ 1000000 := by omega
      clear ha hb
      go_wp2_with fail
      go_quiet (fail)
      go_wp2_with fail
      refine (lcs_of_walk A0' c0' a' A1' c1' b' _ (Kd.C_below (Kd.C_below HR0'.out HO.out.1) (pw_below_drewN (Below.refl _ _) _)) (Kd.C_below (Kd.C_below HR1'.out HO.out.1) (pw_below_drewN (Below.refl _ _) _)) hla2 hlb2).mono ?_
      rintro e w3 ⟨g, gt, tab, rfl, hT, hG⟩
      have HO2 := Aside0.mk ((HO.out.drewN _).below hT.1)
      have HT := Aside0.mk hT.tab
      have HG := Aside0.mk hG
      clear hT hG HO
      go_wp2_with fail
      go_loopg [11, 12] (a'.length + b'.length) (fun gh s11 s12 wx => ∃ (i j : Nat) (xs : List Op), s11 = .int .i64 (i : Int) ∧ s12 = .int .i64 (j : Int) ∧ Aside0 (i ≤ a'.length ∧ j ≤ b'.length ∧ a'.length + b'.length ≤ i + j + gh) ∧ Aside0 (xs ++ diffOps (a'.drop i) (b'.drop j) = diffOps a b) ∧ Aside0 (OutW w wx w.heap.size xs) ∧ Aside0 (TabB wx g gt ((b'.length : Int) + 1) tab))
      case atStart => exact ⟨0, 0, out0, rfl, rfl, ⟨by omega⟩, ⟨by simpa using HD.out⟩, HO2, HT⟩
      case round =>
        clear HO2 HT HD out0
        obtain ⟨i, j, xs, rfl, rfl, HIJ, HD, HO, HT⟩ := hrel
        have hil : i ≤ a'.length := HIJ.out.1
        have hjl : j ≤ b'.length := HIJ.out.2.1
        have hxl : xs.length < 4398046511104 := by
          have h1 := congrArg List.length HD.out
          have h2 := HDL.out
          have h3 := HDB.out
          simp only [List.length_append] at h1
          omega
        have HXL := Aside0.mk hxl
        clear hxl
        by_cases hi : i < a'.length
        · have hiI : (i : Int) < (a'.length : Int) := by omega
          have hi0 : (0 : Int) ≤ (i : Int) := by omega
          obtain ⟨ad1, e1, hx1⟩ := Kd.at_string HR0'.out (i : Int) hi0 hiI
          cases e1
          replace hx1 := (HO.out.1.cell (World.block_lt_of_cell? w _ hx1)).trans hx1
          rw [Int.toNat_natCast, rd_getElem hi] at hx1
          obtain ⟨tx, htx⟩ : ∃ t, t = a'[i] := ⟨_, rfl⟩
          rw [← htx] at hx1
          have HTX := Aside0.mk htx
          clear htx
          by_cases hj : j < b'.length
          · have hjI : (j : Int) < (b'.length : Int) := by omega
            have hj0 : (0 : Int) ≤ (j : Int) := by omega
            obtain ⟨ad2, e2, hx2⟩ := Kd.at_string HR1'.out (j : Int) hj0 hjI
            cases e2
            replace hx2 := (HO.out.1.cell (World.block_lt_of_cell? w _ hx2)).trans hx2
            rw [Int.toNat_natCast, rd_getElem hj] at hx2
            obtain ⟨ty, hty⟩ : ∃ t, t = b'[j] := ⟨_, rfl⟩
            rw [← hty] at hx2
            have HTY := Aside0.mk hty
            clear hty
            by_cases heq : tx.toList = ty.toList
            · have heq0 : (tx.toList == ty.toList) = true := beq_iff_eq.mpr heq
              have HEQ := Aside0.mk heq
              clear heq
              go_wp2_with fail
              go_quiet (fail)
              go_wp2_with fail
              refine (put_walk w _ w.heap.size xs (HO.out.drewN _) HXL.out 2 tx).mono ?_
              rintro e w4 ⟨⟨r, rfl⟩, hO, hKT⟩
              have HO3 := Aside0.mk hO
              have HT3 := Aside0.mk ((HT.out.drewN _).keepT hKT)
              clear hO hKT hx1 hx2 HO HT heq0
              cases gk with
              | zero => exact absurd HIJ.out.2.2 (by omega)
              | succ gh =>
                go_wp2
                go_roundg gh
                case measure => omega
                case rel => exact ⟨i + 1, j + 1, _, (by first | rfl | (simp; done)), (by first | rfl | (simp; done)), ⟨by have := HIJ.out; omega⟩, ⟨by rw [← HD.out, List.drop_eq_getElem_cons hi, List.drop_eq_getElem_cons hj, ← HTX.out, ← HTY.out, text_eq HEQ.out, diffOps_same]; simp⟩, HO3, HT3⟩
            · have heq0 : (tx.toList == ty.toList) = false := beq_eq_false_iff_ne.mpr heq
              have HEQ := Aside0.mk heq
              clear heq
              obtain ⟨V1, hV1⟩ : ∃ V : Int, V = tabL a' b' (i + 1) j := ⟨_, rfl⟩
              obtain ⟨V2, hV2⟩ : ∃ V : Int, V = tabL a' b' i (j + 1) := ⟨_, rfl⟩
              have HC1 := Aside0.mk ((HG.out.2 (i + 1) j (by omega) (by omega) (by omega)).trans hV1.symm)
              have HC2 := Aside0.mk ((HG.out.2 i (j + 1) (by omega) (by omega) (by omega)).trans hV2.symm)
              have HV1 := Aside0.mk hV1
              have HV2 := Aside0.mk hV2
              have P1 : ((i : Int) + 1) * ((b'.length : Int) + 1) ≤ 1000000 * 1000001 := Int.mul_le_mul (by omega) (by omega) (by omega) (by omega)
              have P2 : (i : Int) * ((b'.length : Int) + 1) ≤ 1000000 * 1000001 := Int.mul_le_mul (by omega) (by omega) (by omega) (by omega)
              have P3 : 0 ≤ (i : Int) * ((b'.length : Int) + 1) := Int.mul_nonneg (by omega) (by omega)
              have P4 : 0 ≤ ((i : Int) + 1) * ((b'.length : Int) + 1) := Int.mul_nonneg (by omega) (by omega)
              have HP := Aside0.mk (And.intro P1 (And.intro P2 (And.intro P3 P4)))
              clear P1 P2 P3 P4 hV1 hV2
              have hjb : ((j : Int) == (b'.length : Int)) = false := beq_eq_false_iff_ne.mpr (by omega)
              have hjb' : (j == b'.length) = false := beq_eq_false_iff_ne.mpr (by omega)
              by_cases hge : V2 ≤ V1
              · have hge0 : decide (V2 ≤ V1) = true := decide_eq_true hge
                have HGE := Aside0.mk hge
                clear hge
                go_wp2_with fail
                go_quiet (fail)
                go_wp2_with fail
                refine (tabB_read (HT.out.drewN _) ((i : Int) + 1) (j : Int) ((i + 1) * (b'.length + 1) + j) (by simp) (by have := HP.out; omega) HP.out.2.2.2 (by omega) (by omega) (by rw [HG.out.1]; exact idx_lt (by omega) (by omega)) V1 HC1.out).mono ?_
                rintro e w4 ⟨rfl, ⟨n4, rfl⟩⟩
                go_wp2_with fail
                refine (tabB_read (HT.out.drewN _) (i : Int) ((j : Int) + 1) (i * (b'.length + 1) + (j + 1)) (by simp) (by have := HP.out; omega) HP.out.2.2.1 (by omega) (by omega) (by rw [HG.out.1]; exact idx_lt (by omega) (by omega)) V2 HC2.out).mono ?_
                rintro e w5 ⟨rfl, ⟨n5, rfl⟩⟩
                go_wp2_with fail
                refine (put_walk w _ w.heap.size xs (HO.out.drewN _) HXL.out 3 tx).mono ?_
                rintro e w6 ⟨⟨r, rfl⟩, hO, hKT⟩
                have HO3 := Aside0.mk hO
                have HT3 := Aside0.mk ((HT.out.drewN _).keepT hKT)
                clear hO hKT hx1 hx2 HO HT heq0 hge0 hjb hjb'
                cases gk with
                | zero => exact absurd HIJ.out.2.2 (by omega)
                | succ gh =>
                  go_wp2
                  go_roundg gh
                  case measure => omega
                  case rel => exact ⟨i + 1, j, _, (by first | rfl | (simp; done)), (by first | rfl | (simp; done)), ⟨by have := HIJ.out; omega⟩, ⟨by
                    rw [← HD.out, List.drop_eq_getElem_cons hi, List.drop_eq_getElem_cons hj, ← HTX.out, ← HTY.out, diffOps_del (fun e => HEQ.out (by rw [e]))]
                    · simp
                    · have h1 := HGE.out
                      rw [HV1.out, HV2.out] at h1
                      unfold tabL at h1
                      rw [List.drop_eq_getElem_cons hi, List.drop_eq_getElem_cons hj, ← HTX.out, ← HTY.out] at h1
                      omega⟩, HO3, HT3⟩
              · have hge0 : decide (V2 ≤ V1) = false := decide_eq_false hge
                have HGE := Aside0.mk hge
                clear hge
                go_wp2_with fail
                go_quiet (fail)
                go_wp2_with fail
                refine (tabB_read (HT.out.drewN _) ((i : Int) + 1) (j : Int) ((i + 1) * (b'.length + 1) + j) (by simp) (by have := HP.out; omega) HP.out.2.2.2 (by omega) (by omega) (by rw [HG.out.1]; exact idx_lt (by omega) (by omega)) V1 HC1.out).mono ?_
                rintro e w4 ⟨rfl, ⟨n4, rfl⟩⟩
                go_wp2_with fail
                refine (tabB_read (HT.out.drewN _) (i : Int) ((j : Int) + 1) (i * (b'.length + 1) + (j + 1)) (by simp) (by have := HP.out; omega) HP.out.2.2.1 (by omega) (by omega) (by rw [HG.out.1]; exact idx_lt (by omega) (by omega)) V2 HC2.out).mono ?_
                rintro e w5 ⟨rfl, ⟨n5, rfl⟩⟩
                go_wp2_with fail
                refine (put_walk w _ w.heap.size xs (HO.out.drewN _) HXL.out 4 ty).mono ?_
                rintro e w6 ⟨⟨r, rfl⟩, hO, hKT⟩
                have HO3 := Aside0.mk hO
                have HT3 := Aside0.mk ((HT.out.drewN _).keepT hKT)
                clear hO hKT hx1 hx2 HO HT heq0 hge0 hjb hjb'
                cases gk with
                | zero => exact absurd HIJ.out.2.2 (by omega)
                | succ gh =>
                  go_wp2
                  go_roundg gh
                  case measure => omega
                  case rel => exact ⟨i, j + 1, _, (by first | rfl | (simp; done)), (by first | rfl | (simp; done)), ⟨by have := HIJ.out; omega⟩, ⟨by
                    rw [← HD.out, List.drop_eq_getElem_cons hi, List.drop_eq_getElem_cons hj, ← HTX.out, ← HTY.out, diffOps_ins (fun e => HEQ.out (by rw [e]))]
                    · simp
                    · have h1 := HGE.out
                      rw [HV1.out, HV2.out] at h1
                      unfold tabL at h1
                      rw [List.drop_eq_getElem_cons hi, List.drop_eq_getElem_cons hj, ← HTX.out, ← HTY.out] at h1
                      omega⟩, HO3, HT3⟩
          · obtain rfl : j = b'.length := by omega
            have hjb : ((b'.length : Int) == (b'.length : Int)) = true := beq_self_eq_true _
            clear hj
            go_wp2_with fail
            go_quiet (fail)
            go_wp2_with fail
            refine (put_walk w _ w.heap.size xs (HO.out.drewN _) HXL.out 3 tx).mono ?_
            rintro e w6 ⟨⟨r, rfl⟩, hO, hKT⟩
            have HO3 := Aside0.mk hO
            have HT3 := Aside0.mk ((HT.out.drewN _).keepT hKT)
            clear hO hKT hx1 HO HT hjb
            cases gk with
            | zero => exact absurd HIJ.out.2.2 (by omega)
            | succ gh =>
              go_wp2
              go_roundg gh
              case measure => omega
              case rel => exact ⟨i + 1, b'.length, _, (by first | rfl | (simp; done)), rfl, ⟨by have := HIJ.out; omega⟩, ⟨by rw [← HD.out, List.drop_eq_getElem_cons hi, ← HTX.out]; simp [diffOps_nil_right]⟩, HO3, HT3⟩
        · obtain rfl : i = a'.length := by omega
          clear hi
          by_cases hj : j < b'.length
          · have hjI : (j : Int) < (b'.length : Int) := by omega
            have hj0 : (0 : Int) ≤ (j : Int) := by omega
            obtain ⟨ad2, e2, hx2⟩ := Kd.at_string HR1'.out (j : Int) hj0 hjI
            cases e2
            replace hx2 := (HO.out.1.cell (World.block_lt_of_cell? w _ hx2)).trans hx2
            rw [Int.toNat_natCast, rd_getElem hj] at hx2
            obtain ⟨ty, hty⟩ : ∃ t, t = b'[j] := ⟨_, rfl⟩
            rw [← hty] at hx2
            have HTY := Aside0.mk hty
            clear hty
            have hjb : ((j : Int) == (b'.length : Int)) = false := beq_eq_false_iff_ne.mpr (by omega)
            have hjb' : (j == b'.length) = false := beq_eq_false_iff_ne.mpr (by omega)
            go_wp2_with fail
            go_quiet (fail)
            go_wp2_with fail
            refine (put_walk w _ w.heap.size xs (HO.out.drewN _) HXL.out 4 ty).mono ?_
            rintro e w6 ⟨⟨r, rfl⟩, hO, hKT⟩
            have HO3 := Aside0.mk hO
            have HT3 := Aside0.mk ((HT.out.drewN _).keepT hKT)
            clear hO hKT hx2 HO HT hjb hjb'
            cases gk with
            | zero => exact absurd HIJ.out.2.2 (by omega)
            | succ gh =>
              go_wp2
              go_roundg gh
              case measure => omega
              case rel => exact ⟨a'.length, j + 1, _, rfl, (by first | rfl | (simp; done)), ⟨by have := HIJ.out; omega⟩, ⟨by rw [← HD.out, List.drop_eq_getElem_cons hj, ← HTY.out]; simp [diffOps_nil_left]⟩, HO3, HT3⟩
          · obtain rfl : j = b'.length := by omega
            clear hj
            obtain ⟨h1, h2, v, h3, h4⟩ := HO.out
            obtain ⟨Ao, co, rfl⟩ := Kd.R_slice h4
            have hbx : wr.cell? ⟨w.heap.size, 0, none⟩ = some (.slice Ao xs.length co) := (blk_cell h3 0).trans rfl
            have H1 := Aside0.mk h1
            have H4 := Aside0.mk h4
            clear h1 h2 h3 h4
            go_wp2
            go_ret
            refine ⟨_, rfl, Kd.R_mono (ok := fun k => k ≠ w.heap.size) ?_ (fun _ _ => trivial), H1.out⟩
            have e := HD.out
            simp only [List.drop_length, diffOps_nil_left, List.map_nil, List.append_nil] at e
            rw [← e]
            exact H4.out
end Go.Proofs.Ytacpejblnjgcoaa.P
