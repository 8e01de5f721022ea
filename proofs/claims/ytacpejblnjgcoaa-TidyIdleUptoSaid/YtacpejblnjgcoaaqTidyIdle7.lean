/- Own and printed texts that the theorem of TidyIdle reaches, put together. -/
import Derived.Test.YtacpejblnjgcoaaqTidyIdle5
import Derived.Test.YtacpejblnjgcoaaqTidyIdle6
import Derived.Outline
set_option linter.unusedVariables false
set_option linter.unusedSimpArgs false
namespace Go.Proofs.Ytacpejblnjgcoaa.P
open Go.RowKit Go.Proofs.YtacpejblnjgcoaaW.PrintWords Go.Proofs.YtacpejblnjgcoaaW.PrintLast Go.Proofs.YtacpejblnjgcoaaW.PrintMore
attribute [local go_sem] max2_int min2_int max_two min_two
theorem info_str : (Try.prog.info? 9).map (fun i => (i.zero, i.size, i.bytes)) = some (some (.string ⟨#[]⟩), 1, 16) := by kernel_rfl
theorem OutW.start (w : World) : OutW w (w.alloc (.cells #[.slice none 0 0] 22)) w.heap.size [] :=
 ⟨below_alloc (Below.refl _ _) _, Nat.le_refl _, _, by simpa using heap_alloc_new w _, Kd.R_nil _ _ _ _ _⟩
theorem OutW.below {w wr w' : World} {gb : Nat} {xs : List Op} (h : OutW w wr gb xs) (hb : Below wr.heap.size wr w') : OutW w w' gb xs := by
 obtain ⟨h1, h2, v, h3, h4⟩ := h
 refine ⟨below_step h1 hb, h2, v, ?_, Kd.R_below h4 hb⟩
 rw [hb.block _ (blk_lt h3)]; exact h3
set_option maxHeartbeats 4000000 in
set_option maxRecDepth 100000 in
theorem lcs_Diff_walk (A0 : Option Addr) (c0 : Nat) (a : List ByteArray) (A1 : Option Addr) (c1 : Nat) (b : List ByteArray) (w : World) (hr0 : Kd.C Kd.string w A0 a.length a) (hc0 : a.length ≤ c0) (hr1 : Kd.C Kd.string w A1 b.length b) (hc1 : b.length ≤ c1) (ha : a.length ≤ 1000000) (hb : b.length ≤ 1000000) :
  Calls Try.prog 41 #[.slice A0 a.length c0, .slice A1 b.length c1] w fun e w' => ∃ v0_ : Value, e = .returned v0_ ∧ Kd.R kOp 36 w' w.heap.size (fun _ => True) v0_ (diffOps a b) ∧ Below w.heap.size w w' := by
 have HR0 := Aside0.mk hr0
 have HR1 := Aside0.mk hr1
 have HC0 := Aside0.mk hc0
 have HC1 := Aside0.mk hc1
 clear hr0 hr1 hc0 hc1
 have la0 : (a.length : Int) ≤ 1000000 := by omega
 have lb0 : (b.length : Int) ≤ 1000000 := by omega
 go_enter Try.func41, Try.ntmps41
 go_wp2_with fail
 have O0 := OutW.start w
 generalize w.alloc (.cells #[.slice none 0 0] 22) = wa at O0 ⊢
 obtain ⟨K, hK⟩ := (ahead_ev a b ha hb).rounds
 refine (lcs_ahead.calls K A0 c0 a A1 c1 b _ wa (Kd.C_below HR0.out O0.1) HC0.out (Kd.C_below HR1.out O0.1) HC1.out hK).mono ?_
 rintro e w1 ⟨rfl, ⟨n1, rfl⟩⟩
 obtain ⟨n, hn⟩ : ∃ n, n = aheadN a b := ⟨_, rfl⟩
 have hle := aheadN_le a b
 rw [← hn] at hle ⊢
 have hla := hle.1
 have hlb := hle.2
 obtain ⟨i0, hi0, _, hsz0, _⟩ := info_parts info_str
 have hct := cut_to (P := Try.prog) 27 9 .i64 Try.underlying27 hi0 A0 a.length c0 (n : Int) (by omega) (by omega) HC0.out
 rw [Int.toNat_natCast] at hct
 have HN := Aside0.mk hn
 have HO0 := Aside0.mk O0
 have HI0 := Aside0.mk hi0
 have HS0 := Aside0.mk hsz0
 clear hn O0 hK hle hi0 hsz0
 go_wp2_with fail
 go_loopg [21] n (fun g s21 wx => ∃ (k : Nat), s21 = .int .i64 (k : Int) ∧ Aside0 (k + g = n) ∧ Aside0 (OutW w wx w.heap.size ((a.take k).map fun t => (⟨2, 0, t⟩ : Op))))
 case atStart => exact ⟨0, rfl, ⟨by omega⟩, ⟨by simpa using HO0.out.drewN n1⟩⟩
 case round =>
  clear HO0
  obtain ⟨k, rfl, HKG, HO⟩ := hrel
  cases gk with
  | succ g =>
   have hkn : k < n := by have := HKG.out; omega
   have hka : k < a.length := by omega
   have hk0 : (k : Int) < (a.length : Int) := by omega
   have hk1 : (k : Int) < (n : Int) := by omega
   have hk2 : (0 : Int) ≤ (k : Int) := by omega
   obtain ⟨ad1, e1, hx1⟩ := Kd.at_string HR0.out (k : Int) (by omega) hk0
   cases e1
   replace hx1 := (HO.out.1.cell (World.block_lt_of_cell? w _ hx1)).trans hx1
   rw [Int.toNat_natCast, rd_getElem hka] at hx1
   generalize ht : a[k] = tx at hx1
   have HTX := Aside0.mk ht
   clear ht
   go_wp2_with fail
   refine (put_walk w _ w.heap.size _ HO.out (by simp; omega) 2 tx).mono ?_
   rintro e w2 ⟨⟨r, rfl⟩, hO, hKT⟩
   have HO2 := Aside0.mk hO
   clear hO hKT hx1
   go_wp2
   go_roundg g
   case measure => omega
   case rel => exact ⟨k + 1, (by first | rfl | (simp; done)), ⟨by have := HKG.out; omega⟩, ⟨by rw [List.take_succ_eq_append_getElem hka, List.map_append, HTX.out]; exact HO2.out⟩⟩
  | zero =>
   obtain rfl : k = n := by have := HKG.out; omega
   clear hct HKG
   obtain ⟨a', ha'⟩ : ∃ x, x = a.drop k := ⟨_, rfl⟩
   obtain ⟨b', hb'⟩ : ∃ x, x = b.drop k := ⟨_, rfl⟩
   have hla' : a'.length = a.length - k := by rw [ha']; simp
   have hlb' : b'.length = b.length - k := by rw [hb']; simp
   have hcf0 := cut_from (P := Try.prog) 27 9 .i64 Try.underlying27 HI0.out 1 HS0.out A0 a.length c0 (k : Int) (by omega) (by omega)
   have hcf1 := cut_from (P := Try.prog) 27 9 .i64 Try.underlying27 HI0.out 1 HS0.out A1 b.length c1 (k : Int) (by omega) (by omega)
   have hr0 := Kd.C_drop (c := c0) HR0.out hla HC0.out
   have hr1 := Kd.C_drop (c := c1) HR1.out hlb HC1.out
   rw [Int.toNat_natCast] at hcf0 hcf1
   obtain ⟨A0', hA0⟩ : ∃ A', A' = (if c0 = k then A0 else A0.map (·.add (k * 1))) := ⟨_, rfl⟩
   obtain ⟨A1', hA1⟩ : ∃ A', A' = (if c1 = k then A1 else A1.map (·.add (k * 1))) := ⟨_, rfl⟩
   obtain ⟨c0', hcc0⟩ : ∃ x, x = c0 - k := ⟨_, rfl⟩
   obtain ⟨c1', hcc1⟩ : ∃ x, x = c1 - k := ⟨_, rfl⟩
   rw [← hA0, ← hla', ← hcc0] at hcf0
   rw [← hA1, ← hlb', ← hcc1] at hcf1
   replace hr0 : Kd.C Kd.string w A0' a'.length a' := by rw [hA0, ha']; exact hr0
   replace hr1 : Kd.C Kd.string w A1' b'.length b' := by rw [hA1, hb']; exact hr1
   have HR0' := Aside0.mk hr0
   have HR1' := Aside0.mk hr1
   have hD : (a.take k).map (fun t => (⟨2, 0, t⟩ : Op)) ++ diffOps a' b' = diffOps a b := by
    rw [ha', hb', HN.out]; exact (diffOps_ahead a b).symm
   have HD := Aside0.mk hD
   have hla2 : a'.length ≤ 1000000 := by omega
   have hlb2 : b'.length ≤ 1000000 := by omega
   generalize (a.take k).map (fun t => (⟨2, 0, t⟩ : Op)) = out0 at HO HD
   have HDL := Aside0.mk (diffOps_len a b)
   have HDB := Aside0.mk (show a.length + b.length ≤ 2000000 by omega)
   clear hr0 hr1 hA0 hA1 hcc0 hcc1 ha' hb' hD HR0 HR1 HC0 HC1 HI0 HS0 HN hla' hlb' hla hlb la0 lb0
   have la0 : (a'.length : Int) ≤ 1000000 := by omega
   have lb0 : (b'.length : Int) ≤ 1000000 := by omega
   clear ha hb
   go_wp2_with fail
   go_quiet (fail)
   go_wp2_with fail
   refine (lcs_of_walk A0' c0' a' A1' c1' b' _ (Kd.C_below (Kd.C_below HR0'.out HO.out.1) (pw_below_drewN (Below.refl _ _) _)) (Kd.C_below (Kd.C_below HR1'.out HO.out.1) (pw_below_drewN (Below.refl _ _) _)) hla2 hlb2).mono ?_
   rintro e w3 ⟨g, gt, tab, rfl, hT, hG⟩
   have HO2 := Aside0.mk ((HO.out.drewN _).below hT.1)
   have HT := Aside0.mk hT.tab
   have HG := Aside0.mk hG
   clear hT hG HO
   go_wp2_with fail
   go_loopg [11, 12] (a'.length + b'.length) (fun gh s11 s12 wx => ∃ (i j : Nat) (xs : List Op), s11 = .int .i64 (i : Int) ∧ s12 = .int .i64 (j : Int) ∧ Aside0 (i ≤ a'.length ∧ j ≤ b'.length ∧ a'.length + b'.length ≤ i + j + gh) ∧ Aside0 (xs ++ diffOps (a'.drop i) (b'.drop j) = diffOps a b) ∧ Aside0 (OutW w wx w.heap.size xs) ∧ Aside0 (TabB wx g gt ((b'.length : Int) + 1) tab))
   case atStart => exact ⟨0, 0, out0, rfl, rfl, ⟨by omega⟩, ⟨by simpa using HD.out⟩, HO2, HT⟩
   case round =>
    clear HO2 HT HD out0
    obtain ⟨i, j, xs, rfl, rfl, HIJ, HD, HO, HT⟩ := hrel
    have hil : i ≤ a'.length := HIJ.out.1
    have hjl : j ≤ b'.length := HIJ.out.2.1
    have hxl : xs.length < 4398046511104 := by
     have h1 := congrArg List.length HD.out
     have h2 := HDL.out
     have h3 := HDB.out
     simp only [List.length_append] at h1
     omega
    have HXL := Aside0.mk hxl
    clear hxl
    by_cases hi : i < a'.length
    ·have hiI : (i : Int) < (a'.length : Int) := by omega
     have hi0 : (0 : Int) ≤ (i : Int) := by omega
     obtain ⟨ad1, e1, hx1⟩ := Kd.at_string HR0'.out (i : Int) hi0 hiI
     cases e1
     replace hx1 := (HO.out.1.cell (World.block_lt_of_cell? w _ hx1)).trans hx1
     rw [Int.toNat_natCast, rd_getElem hi] at hx1
     obtain ⟨tx, htx⟩ : ∃ t, t = a'[i] := ⟨_, rfl⟩
     rw [← htx] at hx1
     have HTX := Aside0.mk htx
     clear htx
     by_cases hj : j < b'.length
     ·have hjI : (j : Int) < (b'.length : Int) := by omega
      have hj0 : (0 : Int) ≤ (j : Int) := by omega
      obtain ⟨ad2, e2, hx2⟩ := Kd.at_string HR1'.out (j : Int) hj0 hjI
      cases e2
      replace hx2 := (HO.out.1.cell (World.block_lt_of_cell? w _ hx2)).trans hx2
      rw [Int.toNat_natCast, rd_getElem hj] at hx2
      obtain ⟨ty, hty⟩ : ∃ t, t = b'[j] := ⟨_, rfl⟩
      rw [← hty] at hx2
      have HTY := Aside0.mk hty
      clear hty
      by_cases heq : tx.toList = ty.toList
      ·have heq0 : (tx.toList == ty.toList) = true := beq_iff_eq.mpr heq
       have HEQ := Aside0.mk heq
       clear heq
       go_wp2_with fail
       go_quiet (fail)
       go_wp2_with fail
       refine (put_walk w _ w.heap.size xs (HO.out.drewN _) HXL.out 2 tx).mono ?_
       rintro e w4 ⟨⟨r, rfl⟩, hO, hKT⟩
       have HO3 := Aside0.mk hO
       have HT3 := Aside0.mk ((HT.out.drewN _).keepT hKT)
       clear hO hKT hx1 hx2 HO HT heq0
       cases gk with
       | zero => exact absurd HIJ.out.2.2 (by omega)
       | succ gh =>
        go_wp2
        go_roundg gh
        case measure => omega
        case rel => exact ⟨i + 1, j + 1, _, (by first | rfl | (simp; done)), (by first | rfl | (simp; done)), ⟨by have := HIJ.out; omega⟩, ⟨by rw [← HD.out, List.drop_eq_getElem_cons hi, List.drop_eq_getElem_cons hj, ← HTX.out, ← HTY.out, text_eq HEQ.out, diffOps_same]; simp⟩, HO3, HT3⟩
      ·have heq0 : (tx.toList == ty.toList) = false := beq_eq_false_iff_ne.mpr heq
       have HEQ := Aside0.mk heq
       clear heq
       obtain ⟨V1, hV1⟩ : ∃ V : Int, V = tabL a' b' (i + 1) j := ⟨_, rfl⟩
       obtain ⟨V2, hV2⟩ : ∃ V : Int, V = tabL a' b' i (j + 1) := ⟨_, rfl⟩
       have HC1 := Aside0.mk ((HG.out.2 (i + 1) j (by omega) (by omega) (by omega)).trans hV1.symm)
       have HC2 := Aside0.mk ((HG.out.2 i (j + 1) (by omega) (by omega) (by omega)).trans hV2.symm)
       have HV1 := Aside0.mk hV1
       have HV2 := Aside0.mk hV2
       have P1 : ((i : Int) + 1) * ((b'.length : Int) + 1) ≤ 1000000 * 1000001 := Int.mul_le_mul (by omega) (by omega) (by omega) (by omega)
       have P2 : (i : Int) * ((b'.length : Int) + 1) ≤ 1000000 * 1000001 := Int.mul_le_mul (by omega) (by omega) (by omega) (by omega)
       have P3 : 0 ≤ (i : Int) * ((b'.length : Int) + 1) := Int.mul_nonneg (by omega) (by omega)
       have P4 : 0 ≤ ((i : Int) + 1) * ((b'.length : Int) + 1) := Int.mul_nonneg (by omega) (by omega)
       have HP := Aside0.mk (And.intro P1 (And.intro P2 (And.intro P3 P4)))
       clear P1 P2 P3 P4 hV1 hV2
       have hjb : ((j : Int) == (b'.length : Int)) = false := beq_eq_false_iff_ne.mpr (by omega)
       have hjb' : (j == b'.length) = false := beq_eq_false_iff_ne.mpr (by omega)
       by_cases hge : V2 ≤ V1
       ·have hge0 : decide (V2 ≤ V1) = true := decide_eq_true hge
        have HGE := Aside0.mk hge
        clear hge
        go_wp2_with fail
        go_quiet (fail)
        go_wp2_with fail
        refine (tabB_read (HT.out.drewN _) ((i : Int) + 1) (j : Int) ((i + 1) * (b'.length + 1) + j) (by simp) (by have := HP.out; omega) HP.out.2.2.2 (by omega) (by omega) (by rw [HG.out.1]; exact idx_lt (by omega) (by omega)) V1 HC1.out).mono ?_
        rintro e w4 ⟨rfl, ⟨n4, rfl⟩⟩
        go_wp2_with fail
        refine (tabB_read (HT.out.drewN _) (i : Int) ((j : Int) + 1) (i * (b'.length + 1) + (j + 1)) (by simp) (by have := HP.out; omega) HP.out.2.2.1 (by omega) (by omega) (by rw [HG.out.1]; exact idx_lt (by omega) (by omega)) V2 HC2.out).mono ?_
        rintro e w5 ⟨rfl, ⟨n5, rfl⟩⟩
        go_wp2_with fail
        refine (put_walk w _ w.heap.size xs (HO.out.drewN _) HXL.out 3 tx).mono ?_
        rintro e w6 ⟨⟨r, rfl⟩, hO, hKT⟩
        have HO3 := Aside0.mk hO
        have HT3 := Aside0.mk ((HT.out.drewN _).keepT hKT)
        clear hO hKT hx1 hx2 HO HT heq0 hge0 hjb hjb'
        cases gk with
        | zero => exact absurd HIJ.out.2.2 (by omega)
        | succ gh =>
         go_wp2
         go_roundg gh
         case measure => omega
         case rel => exact ⟨i + 1, j, _, (by first | rfl | (simp; done)), (by first | rfl | (simp; done)), ⟨by have := HIJ.out; omega⟩, ⟨by
          rw [← HD.out, List.drop_eq_getElem_cons hi, List.drop_eq_getElem_cons hj, ← HTX.out, ← HTY.out, diffOps_del (fun e => HEQ.out (by rw [e]))]
          ·simp
          ·have h1 := HGE.out
           rw [HV1.out, HV2.out] at h1
           unfold tabL at h1
           rw [List.drop_eq_getElem_cons hi, List.drop_eq_getElem_cons hj, ← HTX.out, ← HTY.out] at h1
           omega⟩, HO3, HT3⟩
       ·have hge0 : decide (V2 ≤ V1) = false := decide_eq_false hge
        have HGE := Aside0.mk hge
        clear hge
        go_wp2_with fail
        go_quiet (fail)
        go_wp2_with fail
        refine (tabB_read (HT.out.drewN _) ((i : Int) + 1) (j : Int) ((i + 1) * (b'.length + 1) + j) (by simp) (by have := HP.out; omega) HP.out.2.2.2 (by omega) (by omega) (by rw [HG.out.1]; exact idx_lt (by omega) (by omega)) V1 HC1.out).mono ?_
        rintro e w4 ⟨rfl, ⟨n4, rfl⟩⟩
        go_wp2_with fail
        refine (tabB_read (HT.out.drewN _) (i : Int) ((j : Int) + 1) (i * (b'.length + 1) + (j + 1)) (by simp) (by have := HP.out; omega) HP.out.2.2.1 (by omega) (by omega) (by rw [HG.out.1]; exact idx_lt (by omega) (by omega)) V2 HC2.out).mono ?_
        rintro e w5 ⟨rfl, ⟨n5, rfl⟩⟩
        go_wp2_with fail
        refine (put_walk w _ w.heap.size xs (HO.out.drewN _) HXL.out 4 ty).mono ?_
        rintro e w6 ⟨⟨r, rfl⟩, hO, hKT⟩
        have HO3 := Aside0.mk hO
        have HT3 := Aside0.mk ((HT.out.drewN _).keepT hKT)
        clear hO hKT hx1 hx2 HO HT heq0 hge0 hjb hjb'
        cases gk with
        | zero => exact absurd HIJ.out.2.2 (by omega)
        | succ gh =>
         go_wp2
         go_roundg gh
         case measure => omega
         case rel => exact ⟨i, j + 1, _, (by first | rfl | (simp; done)), (by first | rfl | (simp; done)), ⟨by have := HIJ.out; omega⟩, ⟨by
          rw [← HD.out, List.drop_eq_getElem_cons hi, List.drop_eq_getElem_cons hj, ← HTX.out, ← HTY.out, diffOps_ins (fun e => HEQ.out (by rw [e]))]
          ·simp
          ·have h1 := HGE.out
           rw [HV1.out, HV2.out] at h1
           unfold tabL at h1
           rw [List.drop_eq_getElem_cons hi, List.drop_eq_getElem_cons hj, ← HTX.out, ← HTY.out] at h1
           omega⟩, HO3, HT3⟩
     ·obtain rfl : j = b'.length := by omega
      have hjb : ((b'.length : Int) == (b'.length : Int)) = true := beq_self_eq_true _
      clear hj
      go_wp2_with fail
      go_quiet (fail)
      go_wp2_with fail
      refine (put_walk w _ w.heap.size xs (HO.out.drewN _) HXL.out 3 tx).mono ?_
      rintro e w6 ⟨⟨r, rfl⟩, hO, hKT⟩
      have HO3 := Aside0.mk hO
      have HT3 := Aside0.mk ((HT.out.drewN _).keepT hKT)
      clear hO hKT hx1 HO HT hjb
      cases gk with
      | zero => exact absurd HIJ.out.2.2 (by omega)
      | succ gh =>
       go_wp2
       go_roundg gh
       case measure => omega
       case rel => exact ⟨i + 1, b'.length, _, (by first | rfl | (simp; done)), rfl, ⟨by have := HIJ.out; omega⟩, ⟨by rw [← HD.out, List.drop_eq_getElem_cons hi, ← HTX.out]; simp [diffOps_nil_right]⟩, HO3, HT3⟩
    ·obtain rfl : i = a'.length := by omega
     clear hi
     by_cases hj : j < b'.length
     ·have hjI : (j : Int) < (b'.length : Int) := by omega
      have hj0 : (0 : Int) ≤ (j : Int) := by omega
      obtain ⟨ad2, e2, hx2⟩ := Kd.at_string HR1'.out (j : Int) hj0 hjI
      cases e2
      replace hx2 := (HO.out.1.cell (World.block_lt_of_cell? w _ hx2)).trans hx2
      rw [Int.toNat_natCast, rd_getElem hj] at hx2
      obtain ⟨ty, hty⟩ : ∃ t, t = b'[j] := ⟨_, rfl⟩
      rw [← hty] at hx2
      have HTY := Aside0.mk hty
      clear hty
      have hjb : ((j : Int) == (b'.length : Int)) = false := beq_eq_false_iff_ne.mpr (by omega)
      have hjb' : (j == b'.length) = false := beq_eq_false_iff_ne.mpr (by omega)
      go_wp2_with fail
      go_quiet (fail)
      go_wp2_with fail
      refine (put_walk w _ w.heap.size xs (HO.out.drewN _) HXL.out 4 ty).mono ?_
      rintro e w6 ⟨⟨r, rfl⟩, hO, hKT⟩
      have HO3 := Aside0.mk hO
      have HT3 := Aside0.mk ((HT.out.drewN _).keepT hKT)
      clear hO hKT hx2 HO HT hjb hjb'
      cases gk with
      | zero => exact absurd HIJ.out.2.2 (by omega)
      | succ gh =>
       go_wp2
       go_roundg gh
       case measure => omega
       case rel => exact ⟨a'.length, j + 1, _, rfl, (by first | rfl | (simp; done)), ⟨by have := HIJ.out; omega⟩, ⟨by rw [← HD.out, List.drop_eq_getElem_cons hj, ← HTY.out]; simp [diffOps_nil_left]⟩, HO3, HT3⟩
     ·obtain rfl : j = b'.length := by omega
      clear hj
      obtain ⟨h1, h2, v, h3, h4⟩ := HO.out
      obtain ⟨Ao, co, rfl⟩ := Kd.R_slice h4
      have hbx : wr.cell? ⟨w.heap.size, 0, none⟩ = some (.slice Ao xs.length co) := (blk_cell h3 0).trans rfl
      have H1 := Aside0.mk h1
      have H4 := Aside0.mk h4
      clear h1 h2 h3 h4
      go_wp2
      go_ret
      refine ⟨_, rfl, Kd.R_mono (ok := fun k => k ≠ w.heap.size) ?_ (fun _ _ => trivial), H1.out⟩
      have e := HD.out
      simp only [List.drop_length, diffOps_nil_left, List.map_nil, List.append_nil] at e
      rw [← e]
      exact H4.out
end Go.Proofs.Ytacpejblnjgcoaa.P
namespace Go.Proofs.Ytacpejblnjgcoaa.P
open Go.RowKit Go.Proofs.YtacpejblnjgcoaaW.PrintWords Go.Proofs.YtacpejblnjgcoaaW.PrintLast Go.Proofs.YtacpejblnjgcoaaW.PrintMore
def putS : List (Option ByteArray) → List ByteArray → List ByteArray
 | [], _ => []
 | none :: o, [] => []
 | none :: o, s :: ss => s :: putS o ss
 | some t :: o, ss => t :: putS o ss
def nones (o : List (Option ByteArray)) : Nat := (o.filter (·.isNone)).length
def askB (t : ByteArray) : Bool := decide (t.data.toList.head? = some 63)
theorem putS_do : ∀ (u : List U) (s : List ByteArray), nones (olds u) = s.length → doU u (putS (olds u) s) = some (putS (news u) s)
 | [], s, h => rfl
 | .skip :: u, [], h => by simp [olds, nones] at h
 | .skip :: u, x :: s, h => by
  have := putS_do u s (by simpa [olds, nones] using h)
  simp only [olds, news, putS, doU, this, Option.map_some]
 | .keep t :: u, s, h => by
  have := putS_do u s (by simpa [olds, nones] using h)
  simp only [olds, news, putS, doU, this, if_true, Option.map_some]
 | .del t :: u, s, h => by
  have := putS_do u s (by simpa [olds, nones] using h)
  simp only [olds, news, putS, doU, this, if_true]
 | .ins t :: u, s, h => by
  have := putS_do u s (by simpa [olds, nones] using h)
  simp only [olds, news, putS, doU, this, Option.map_some]
theorem nones_eq : ∀ u : List U, nones (news u) = nones (olds u)
 | [] => rfl
 | .skip :: u => by have := nones_eq u; simp only [olds, news, nones, List.filter_cons, Option.isNone_none, if_true, List.length_cons] at this ⊢; omega
 | .keep t :: u => by have := nones_eq u; simpa only [olds, news, nones, List.filter_cons, Option.isNone_some, Bool.false_eq_true, if_false] using this
 | .del t :: u => by have := nones_eq u; simpa only [olds, news, nones, List.filter_cons, Option.isNone_some, Bool.false_eq_true, if_false] using this
 | .ins t :: u => by have := nones_eq u; simpa only [olds, news, nones, List.filter_cons, Option.isNone_some, Bool.false_eq_true, if_false] using this
theorem putS_inj : ∀ (o n : List (Option ByteArray)) (s : List ByteArray), nones o = s.length → nones n = s.length → (∀ x ∈ s, askB x = true) → (∀ t, some t ∈ o → askB t = false) → (∀ t, some t ∈ n → askB t = false) → putS n s = putS o s → n = o
 | [], [], s, _, _, _, _, _, _ => rfl
 | [], none :: n, [], _, h, _, _, _, _ => by simp [nones] at h
 | [], none :: n, x :: s, h, _, _, _, _, _ => by simp [nones] at h
 | [], some t :: n, s, _, _, _, _, _, e => by simp [putS] at e
 | none :: o, _, [], h, _, _, _, _, _ => by simp [nones] at h
 | none :: o, [], x :: s, _, h, _, _, _, _ => by simp [nones] at h
 | none :: o, none :: n, x :: s, h1, h2, h3, h4, h5, e => by
  simp only [putS, List.cons.injEq, true_and] at e
  rw [putS_inj o n s (by simpa [nones] using h1) (by simpa [nones] using h2) (fun y hy => h3 y (List.mem_cons_of_mem _ hy)) (fun t ht => h4 t (List.mem_cons_of_mem _ ht)) (fun t ht => h5 t (List.mem_cons_of_mem _ ht)) e]
 | none :: o, some t :: n, x :: s, _, _, h3, _, h5, e => by
  simp only [putS, List.cons.injEq] at e
  have a := h3 x (List.mem_cons_self ..)
  have b := h5 t (List.mem_cons_self ..)
  rw [e.1, a] at b; cases b
 | some t :: o, [], s, _, _, _, _, _, e => by simp [putS] at e
 | some t :: o, none :: n, [], _, h, _, _, _, _ => by simp [nones] at h
 | some t :: o, none :: n, x :: s, _, _, h3, h4, _, e => by
  simp only [putS, List.cons.injEq] at e
  have a := h3 x (List.mem_cons_self ..)
  have b := h4 t (List.mem_cons_self ..)
  rw [← e.1, a] at b; cases b
 | some t :: o, some t' :: n, s, h1, h2, h3, h4, h5, e => by
  simp only [putS, List.cons.injEq] at e
  rw [e.1, putS_inj o n s (by simpa [nones] using h1) (by simpa [nones] using h2) h3 (fun t ht => h4 t (List.mem_cons_of_mem _ ht)) (fun t ht => h5 t (List.mem_cons_of_mem _ ht)) e.2]
theorem putS_whole : ∀ (o : List (Option ByteArray)) (s : List ByteArray) (e : Bool), textS o = true → closedS e o = true → (∀ x ∈ s, rightT x = true ∧ openT x = false) → textS ((putS o s).map some) = true ∧ closedS e ((putS o s).map some) = true
 | [], s, e, _, _, _ => by cases e <;> exact ⟨rfl, rfl⟩
 | _ :: o, s, true, _, h, _ => by simp [closedS] at h
 | none :: o, [], false, _, _, _ => ⟨rfl, rfl⟩
 | none :: o, x :: s, false, h1, h2, h3 => by
  obtain ⟨a, b⟩ := h3 x (List.mem_cons_self ..)
  obtain ⟨c, d⟩ := putS_whole o s false (by simpa [textS] using h1) (by simpa [closedS] using h2) (fun y hy => h3 y (List.mem_cons_of_mem _ hy))
  refine ⟨?_, ?_⟩
  ·simp only [putS, List.map_cons, textS, List.all_cons, a, Bool.true_and] at c ⊢; exact c
  ·simp only [putS, List.map_cons, closedS, b]; exact d
 | some t :: o, s, false, h1, h2, h3 => by
  simp only [textS, List.all_cons, Bool.and_eq_true] at h1
  obtain ⟨c, d⟩ := putS_whole o s (openT t) h1.2 (by simpa [closedS] using h2) h3
  refine ⟨?_, ?_⟩
  ·simp only [putS, List.map_cons, textS, List.all_cons, h1.1, Bool.true_and] at c ⊢; exact c
  ·simp only [putS, List.map_cons, closedS]; exact d
theorem putS_wholeL {o : List (Option ByteArray)} {s : List ByteArray} (h : okS o = true) (h3 : ∀ x ∈ s, rightT x = true ∧ openT x = false) : wholeL (putS o s) = true := by
 unfold okS at h
 simp only [Bool.and_eq_true] at h
 obtain ⟨a, b⟩ := putS_whole o s false h.1 h.2.1 h3
 rw [whole_closed, a, b]; rfl
end Go.Proofs.Ytacpejblnjgcoaa.P
namespace Go.Proofs.Ytacpejblnjgcoaa.P
open Go.RowKit Go.Proofs.YtacpejblnjgcoaaW.PrintWords Go.Proofs.YtacpejblnjgcoaaW.PrintLast Go.Proofs.YtacpejblnjgcoaaW.PrintMore
def lineN (n : Nat) : ByteArray := ((⟨#[63]⟩ : ByteArray) ++ numF 4 n) ++ (⟨#[10]⟩ : ByteArray)
def witU : Nat → List U → List ByteArray
 | _, [] => []
 | n, .skip :: u => lineN n :: witU (n + 1) u
 | n, .keep t :: u => t :: witU (n + 1) u
 | n, .del t :: u => t :: witU (n + 1) u
 | n, .ins _ :: u => witU n u
theorem wit_app : ∀ (a b : List U) (n : Nat), witU n (a ++ b) = witU n a ++ witU (n + (olds a).length) b
 | [], b, n => rfl
 | x :: a, b, n => by
  cases x with
  | ins t => simp only [List.cons_append, witU, olds, wit_app a b n]
  | skip => simp only [List.cons_append, witU, olds, wit_app a b (n + 1), List.length_cons, Nat.add_assoc, Nat.add_comm 1]
  | keep t => simp only [List.cons_append, witU, olds, wit_app a b (n + 1), List.length_cons, Nat.add_assoc, Nat.add_comm 1]
  | del t => simp only [List.cons_append, witU, olds, wit_app a b (n + 1), List.length_cons, Nat.add_assoc, Nat.add_comm 1]
theorem wit_len : ∀ (u : List U) (n : Nat), (witU n u).length = (olds u).length
 | [], n => rfl
 | x :: u, n => by cases x <;> simp only [witU, olds, List.length_cons, wit_len u]
theorem line_size (n : Nat) : 1 + (numF 4 n).size ≤ 9223372036854775807 ∧ ((⟨#[63]⟩ : ByteArray) ++ numF 4 n).size + 1 ≤ 9223372036854775807 ∧ (lineN n).size ≤ 7 := by
 have := (num_facts 4 n).1
 have a : ((⟨#[63]⟩ : ByteArray) ++ numF 4 n).size = 1 + (numF 4 n).size := by rw [ByteArray.size_append]; rfl
 have b : (lineN n).size = ((⟨#[63]⟩ : ByteArray) ++ numF 4 n).size + 1 := by unfold lineN; rw [ByteArray.size_append]; rfl
 omega
theorem refwit_skip {l : List Op} {i : Nat} {o : Op} (hi : rd_Op l (i : Int) = o) (hl : i < l.length) (hb : l.length < 4398046511104) : ∀ (m j : Nat) (out v : List ByteArray), o.f1 = ((j + m : Nat) : Int) → out.length + m ≤ 90000 → j + m ≤ 90000 →
  Ev (fun k => patchworkref8_Witness.l0 k l (out ++ witU out.length (List.replicate m .skip)) (wrap64 ((i : Int) + 1))) v → Ev (fun k => patchworkref8_Witness.l1 k l out (i : Int) (j : Int)) v
 | 0, j, out, v, ho, h1, h2, hv => by
  have c0 : (0 : Int) ≤ (i : Int) := by omega
  have c1 : (i : Int) < (l.length : Int) := by omega
  have c2 : ¬ (j : Int) < o.f1 := by omega
  refine Ev.step (fun k => rfl) ?_
  simp only [patchworkref8_Witness.l1, if_pos c0, if_pos c1, hi, if_neg c2]
  simpa [witU] using hv
 | m + 1, j, out, v, ho, h1, h2, hv => by
  have c0 : (0 : Int) ≤ (i : Int) := by omega
  have c1 : (i : Int) < (l.length : Int) := by omega
  have c2 : (j : Int) < o.f1 := by omega
  have c3 : out.length < 8796093022208 := by omega
  obtain ⟨s1, s2, _⟩ := line_size out.length
  have w : wrap64 ((j : Int) + 1) = ((j + 1 : Nat) : Int) := by rw [wrap_small (by omega) (by omega)]; omega
  have i1 := refwit_skip hi hl hb m (j + 1) (out ++ [lineN out.length]) v (by rw [ho]; congr 1; omega) (by rw [List.length_append, List.length_singleton]; omega) (by omega) (by
   have e : out ++ [lineN out.length] ++ witU (out ++ [lineN out.length]).length (List.replicate m U.skip) = out ++ witU out.length (List.replicate (m + 1) U.skip) := by
    rw [List.replicate_succ, witU, List.append_assoc, List.length_append]; rfl
   rw [e]; exact hv)
  refine Ev.step (fun k => rfl) ?_
  simp only [patchworkref8_Witness.l1, if_pos c0, if_pos c1, hi, if_pos c2]
  refine Ev.bind' (num_ev 4 out.length (by omega) (by omega)) ?_
  simp only [if_pos s1, if_pos s2, if_pos c3, w]
  exact i1
theorem refwit_loop (s : List Op) : ∀ (p : List Op) (out : List ByteArray), Sm (p ++ s) → (∀ o ∈ s, formO o) → out.length + (olds (ex s)).length ≤ 90000 →
  Ev (fun k => patchworkref8_Witness.l0 k (p ++ s) out (p.length : Int)) (out ++ witU out.length (ex s)) := by
 induction s with
 | nil =>
  intro p out hb _ _
  refine Ev.step (fun k => rfl) ?_
  simp only [patchworkref8_Witness.l0, lt_end, if_false]
  rw [ex_nil, witU, List.append_nil]
  exact Ev.now _
 | cons o s ih =>
  intro p out hb hf hl
  have hlen := hb.len
  rw [ex_cons, olds_app, List.length_append] at hl
  have i := fun out h => ih (p ++ [o]) out hb.snoc (fun x hx => hf x (List.mem_cons_of_mem _ hx)) h
  rw [List.append_assoc, List.singleton_append] at i
  have w := wrap_len p o (by omega)
  have c3 : out.length < 8796093022208 := by omega
  have fo := hf o (List.mem_cons_self ..)
  rw [ex_cons, wit_app]
  refine Ev.step (fun k => rfl) ?_
  simp only [patchworkref8_Witness.l0, lt_mid, nn_nat, if_true, rdOp_mid, w]
  by_cases h1 : o.f0 = 1
  ·have f1 : 1 ≤ o.f1 := by
    rcases fo with h | h
    ·exact h.2.1
    ·omega
   have e : exO o = List.replicate o.f1.toNat .skip := by simp [exO, h1]
   have eo : (olds (exO o)).length = o.f1.toNat := by rw [e, olds_skips, List.length_replicate]
   rw [eo] at hl
   simp only [if_pos h1]
   rw [e] at eo ⊢
   rw [eo]
   have hd : rd_Op (p ++ o :: s) (p.length : Int) = o := rdOp_mid p s o
   have hnl : (out ++ witU out.length (List.replicate o.f1.toNat U.skip)).length = out.length + o.f1.toNat := by rw [List.length_append, wit_len, olds_skips, List.length_replicate]
   have j := i (out ++ witU out.length (List.replicate o.f1.toNat U.skip)) (by rw [hnl]; omega)
   rw [hnl, List.append_assoc] at j
   refine refwit_skip hd (by simp) (by have := hb.1; exact this) o.f1.toNat 0 out _ (by rw [Nat.zero_add]; omega) (by omega) (by omega) ?_
   rw [w]
   exact j
  ·have hk : (o.f0 = 2 ∨ o.f0 = 3 ∨ o.f0 = 4) ∧ o.f1 = 0 := by
    rcases fo with h | h
    ·exact absurd h.1 h1
    ·exact h
   simp only [if_neg h1]
   rcases hk.1 with h | h | h
   ·have e : exO o = [.keep o.f2] := by simp [exO, h]
    rw [e] at hl ⊢
    simp only [olds, List.length_cons, List.length_nil] at hl
    have j := i (out ++ [o.f2]) (by rw [List.length_append, List.length_singleton]; omega)
    rw [len_snoc out o.f2, List.append_assoc] at j
    simp only [if_pos h, if_pos c3]
    exact j
   ·have e : exO o = [.del o.f2] := by simp [exO, h]
    have h2 : ¬ o.f0 = 2 := by omega
    rw [e] at hl ⊢
    simp only [olds, List.length_cons, List.length_nil] at hl
    have j := i (out ++ [o.f2]) (by rw [List.length_append, List.length_singleton]; omega)
    rw [len_snoc out o.f2, List.append_assoc] at j
    simp only [if_neg h2, if_pos h, if_pos c3]
    exact j
   ·have e : exO o = [.ins o.f2] := by simp [exO, h]
    have h2 : ¬ o.f0 = 2 := by omega
    have h3 : ¬ o.f0 = 3 := by omega
    rw [e] at hl ⊢
    simp only [olds, List.length_nil] at hl
    have j := i out (by omega)
    simp only [if_neg h2, if_neg h3]
    exact j
def witL (l : List Op) : List ByteArray := if rightL l = true ∧ capd 3 l ≤ 5000 then witU 0 (ex l) else []
theorem olds_capd {l : List Op} (h : rightL l = true) : capd 3 l = ((olds (ex l)).length : Int) := by
 have hf := rightL_form h
 unfold capd
 rw [sums_olds l hf]
 have := (rightL_ok h).2.1
 rw [sums_olds l hf] at this
 unfold far
 omega
theorem refwit_ev {l : List Op} (h : Sm l) : Ev (fun k => patchworkref8_Witness.f k l) (witL l) := by
 unfold witL
 have no : Ev (fun k => patchworkref8_Witness.j0 k l true) [] := by
  refine Ev.step (fun k => rfl) ?_
  simp only [patchworkref8_Witness.j0, if_true]
  exact Ev.now _
 refine Ev.bind' (refright_ev h) ?_
 cases hr : rightL l
 ·simp only [Bool.false_eq_true, if_false, false_and]; exact no
 simp only [if_true, true_and]
 refine Ev.bind' (refolds_ev h) ?_
 by_cases hc : capd 3 l ≤ 5000
 ·have c : ¬ capd 3 l > 5000 := by omega
  simp only [c, decide_false, if_pos hc]
  refine Ev.step (fun k => rfl) ?_
  simp only [patchworkref8_Witness.j0, Bool.false_eq_true, if_false]
  rw [olds_capd hr] at hc
  exact refwit_loop l [] [] h (rightL_form hr) (by simp only [List.length_nil]; omega)
 ·have c : capd 3 l > 5000 := by omega
  simp only [c, decide_true, if_neg hc]
  exact no
end Go.Proofs.Ytacpejblnjgcoaa.P
