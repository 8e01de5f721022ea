/- Own: the walk of lcs's table, filled from behind. -/
import Derived.Test.YtacpejblnjgcoaaLb
import Derived.Outline
import Derived.WalkMore
import Derived.Deep.LoopGhost
import Derived.WideShapes
import Derived.Lib.Strings
namespace Go.Proofs.Ytacpejblnjgcoaa.P
open Go.RowKit Go.Proofs.YtacpejblnjgcoaaW.PrintWords Go.Proofs.YtacpejblnjgcoaaW.PrintLast Go.Proofs.YtacpejblnjgcoaaW.PrintMore
set_option linter.unusedVariables false
set_option linter.unusedSimpArgs false
attribute [local go_sem] max2_int min2_int max_two min_two

theorem info_i32 : (Try.prog.info? 21).map (fun i => (i.zero, i.size, i.bytes)) = some (some (.int .i32 0), 1, 4) := by kernel_rfl
theorem made_tab (w : World) (m : Nat) (wide : Int) : TabW w ((w.alloc (.cells (madeCells #[.int .i32 0] m) 21)).alloc (.cells #[.int .i64 wide, .slice (some ⟨w.heap.size, 0, none⟩) m m] 86)) (w.heap.size + 1) w.heap.size wide (List.replicate m 0) := by
  have e : (nums .i32 (List.replicate m (0 : Int))).toArray = madeCells #[.int .i32 0] m := by
    apply Array.toList_inj.mp
    apply List.ext_getElem
    · simp [nums, madeCells]
    · intro i h1 h2
      simp [nums, madeCells, Nat.mod_one]
  refine ⟨below_alloc (below_alloc (Below.refl _ _) _) _, by omega, by omega, by omega, ?_, ?_⟩
  · simpa using heap_alloc_new (w.alloc (.cells (madeCells #[.int .i32 0] m) 21)) _
  · rw [e]
    have h1 := heap_alloc_new w (.cells (madeCells #[.int .i32 0] m) 21)
    have hb := below_alloc (Below.refl (w.alloc (.cells (madeCells #[.int .i32 0] m) 21)).heap.size (w.alloc (.cells (madeCells #[.int .i32 0] m) 21))) (.cells #[.int .i64 wide, .slice (some ⟨w.heap.size, 0, none⟩) m m] 86)
    rw [hb.block _ (by simp)]
    exact h1

set_option maxHeartbeats 1000000 in
theorem lcs_of_walk (A0 : Option Addr) (c0 : Nat) (a : List ByteArray) (A1 : Option Addr) (c1 : Nat) (b : List ByteArray) (w : World) (hr0 : Kd.C Kd.string w A0 a.length a) (hr1 : Kd.C Kd.string w A1 b.length b) (ha : a.length ≤ 1000000) (hb : b.length ≤ 1000000) :
    Calls Try.prog 75 #[.slice A0 a.length c0, .slice A1 b.length c1] w fun e w' => ∃ g gt xs, e = .returned (.pointer (some ⟨g, 0, none⟩)) ∧ TabW w w' g gt ((b.length : Int) + 1) xs ∧ Good a b 0 0 xs := by
  have HR0 := Aside0.mk hr0
  have HR1 := Aside0.mk hr1
  clear hr0 hr1
  have la0 : (a.length : Int) ≤ 1000000 := by omega
  have lb0 : (b.length : Int) ≤ 1000000 := by omega
  obtain ⟨m, hm⟩ : ∃ m : Nat, m = (a.length + 1) * (b.length + 1) := ⟨_, rfl⟩
  have hm1 : m ≤ 1000001 * 1000001 := by rw [hm]; exact Nat.mul_le_mul (by omega) (by omega)
  have hmul : wrap64 (((a.length : Int) + 1) * ((b.length : Int) + 1)) = (m : Int) := by
    have : ((a.length : Int) + 1) * ((b.length : Int) + 1) = (m : Int) := by rw [hm]; simp
    rw [this]; unfold wrap64; omega
  have hmk := print_make (P := Try.prog) 84 21 .i32 4 Try.underlying84 info_i32 (by decide) m (by omega)
  have HM := Aside0.mk hm
  clear hm hm1
  go_enter Try.func75, Try.ntmps75
  go_wp2
  go_step3
  go_wp2
  go_step3
  go_wp2
  clear hmk hmul
  go_loopg [6] a.length (fun gh s6 wx => ∃ (i : Int) (xs : List Int), s6 = .int .i64 i ∧ Aside0 (i = (gh : Int) - 1) ∧ Aside0 (gh ≤ a.length) ∧ Aside0 (TabW w wx (w.heap.size + 1) w.heap.size ((b.length : Int) + 1) xs) ∧ Aside0 (Good a b gh 0 xs))
  case atStart => exact ⟨_, List.replicate m 0, rfl, ⟨rfl⟩, ⟨Nat.le_refl _⟩, ⟨made_tab w m _⟩, ⟨by rw [HM.out]; exact Good.start a b⟩⟩
  case round =>
    obtain ⟨i, xs, rfl, HI, HL, HT, HG⟩ := hrel
    cases gk with
    | zero =>
      obtain rfl : i = -1 := by have := HI.out; omega
      clear HI HL
      go_wp2
      try rw [Exit.noGoto_ret]
      go_ret
      exact ⟨_, _, xs, rfl, HT.out, HG.out⟩
    | succ gh =>
      obtain rfl : i = (gh : Int) := by have := HI.out; omega
      have hi0 : (gh : Int) < (a.length : Int) := by have := HL.out; omega
      clear HI
      go_wp2
      go_loopg [7] b.length (fun g2 s7 wy => ∃ (j : Int) (ys : List Int), s7 = .int .i64 j ∧ Aside0 (j = (g2 : Int)) ∧ Aside0 (g2 ≤ b.length) ∧ Aside0 (TabW w wy (w.heap.size + 1) w.heap.size ((b.length : Int) + 1) ys) ∧ Aside0 (Good a b gh g2 ys))
      case atStart => exact ⟨_, xs, rfl, ⟨rfl⟩, ⟨Nat.le_refl _⟩, HT, ⟨HG.out.row⟩⟩
      case round =>
        clear HT HG xs
        obtain ⟨j, ys, rfl, HJ, HL2, HT, HG⟩ := hrel
        cases gk with
        | zero =>
          obtain rfl : j = 0 := by have := HJ.out; omega
          go_wp2
          go_roundg gh
          case measure => omega
          case rel => exact ⟨_, ys, rfl, ⟨by omega⟩, ⟨by omega⟩, HT, HG⟩
        | succ g2 =>
          obtain rfl : j = (g2 : Int) + 1 := by have := HJ.out; omega
          have hj0 : (g2 : Int) < (b.length : Int) := by have := HL2.out; omega
          have hgi : gh < a.length := by omega
          have hgj : g2 < b.length := by omega
          clear HJ
          obtain ⟨V1, hV1⟩ : ∃ V : Int, V = tabL a b (gh + 1) g2 := ⟨_, rfl⟩
          obtain ⟨V2, hV2⟩ : ∃ V : Int, V = tabL a b gh (g2 + 1) := ⟨_, rfl⟩
          obtain ⟨V3, hV3⟩ : ∃ V : Int, V = tabL a b (gh + 1) (g2 + 1) := ⟨_, rfl⟩
          have B1 := tabL_bd a b (gh + 1) g2
          have B2 := tabL_bd a b gh (g2 + 1)
          have B3 := tabL_bd a b (gh + 1) (g2 + 1)
          rw [← hV1] at B1
          rw [← hV2] at B2
          rw [← hV3] at B3
          have hlen : ys.length = (a.length + 1) * (b.length + 1) := HG.out.1
          have HC1 := Aside0.mk ((HG.out.2 (gh + 1) g2 (by omega) (by omega) (by omega)).trans hV1.symm)
          have HC2 := Aside0.mk ((HG.out.2 gh (g2 + 1) (by omega) (by omega) (by omega)).trans hV2.symm)
          have HC3 := Aside0.mk ((HG.out.2 (gh + 1) (g2 + 1) (by omega) (by omega) (by omega)).trans hV3.symm)
          have HV1 := Aside0.mk hV1
          have HV2 := Aside0.mk hV2
          have HV3 := Aside0.mk hV3
          have HLN := Aside0.mk hlen
          clear hV1 hV2 hV3 hlen
          have P1 : ((gh : Int) + 1) * ((b.length : Int) + 1) ≤ 1000000 * 1000001 := Int.mul_le_mul (by omega) (by omega) (by omega) (by omega)
          have P2 : (gh : Int) * ((b.length : Int) + 1) ≤ 1000000 * 1000001 := Int.mul_le_mul (by omega) (by omega) (by omega) (by omega)
          have P3 : 0 ≤ (gh : Int) * ((b.length : Int) + 1) := Int.mul_nonneg (by omega) (by omega)
          have P4 : 0 ≤ ((gh : Int) + 1) * ((b.length : Int) + 1) := Int.mul_nonneg (by omega) (by omega)
          obtain ⟨MX, hMX⟩ : ∃ M : Int, (if V1 < V2 then V2 else V1) = M := ⟨_, rfl⟩
          have HP := Aside0.mk (And.intro P1 (And.intro P2 (And.intro P3 P4)))
          clear P1 P2 P3 P4
          go_wp2_with fail
          refine (tab_read HT.out ((gh : Int) + 1) (g2 : Int) ((gh + 1) * (b.length + 1) + g2) (by simp) (by have := HP.out; omega) HP.out.2.2.2 (by omega) (by omega) (by rw [HLN.out]; exact idx_lt (by omega) (by omega)) V1 HC1.out).mono ?_
          rintro e w1 ⟨rfl, ⟨n1, rfl⟩⟩
          go_wp2_with fail
          refine (tab_read (HT.out.drewN n1) (gh : Int) ((g2 : Int) + 1) (gh * (b.length + 1) + (g2 + 1)) (by simp) (by have := HP.out; omega) HP.out.2.2.1 (by omega) (by omega) (by rw [HLN.out]; exact idx_lt (by omega) (by omega)) V2 HC2.out).mono ?_
          rintro e w2 ⟨rfl, ⟨n2, rfl⟩⟩
          have hs1 := Kd.at_string HR0.out (gh : Int) (by omega) hi0
          obtain ⟨ad1, e1, hx1⟩ := hs1
          cases e1
          replace hx1 := (HT.out.1.cell (World.block_lt_of_cell? w _ hx1)).trans hx1
          obtain ⟨ad2, e2, hx2⟩ := Kd.at_string HR1.out (g2 : Int) (by omega) hj0
          cases e2
          replace hx2 := (HT.out.1.cell (World.block_lt_of_cell? w _ hx2)).trans hx2
          rw [Int.toNat_natCast] at hx1 hx2
          have hgi0 : (0 : Int) ≤ (gh : Int) := by omega
          have hgj0 : (0 : Int) ≤ (g2 : Int) := by omega
          by_cases heq : (rdOf ByteArray.empty a (gh : Int)).toList = (rdOf ByteArray.empty b (g2 : Int)).toList
          · have heq0 : ((rdOf ByteArray.empty a (gh : Int)).toList == (rdOf ByteArray.empty b (g2 : Int)).toList) = true := beq_iff_eq.mpr heq
            have HEQ := Aside0.mk heq
            clear heq
            go_wp2_with fail
            go_quiet (fail)
            try go_wp2_with fail
            have HMX := Aside0.mk hMX
            clear hMX
            refine (tab_read (HT.out.drewN _) ((gh : Int) + 1) ((g2 : Int) + 1) ((gh + 1) * (b.length + 1) + (g2 + 1)) (by simp) (by have := HP.out; omega) HP.out.2.2.2 (by omega) (by omega) (by rw [HLN.out]; exact idx_lt (by omega) (by omega)) V3 HC3.out).mono ?_
            rintro e w3 ⟨rfl, ⟨n3, rfl⟩⟩
            go_wp2_with fail
            obtain ⟨K, hK⟩ : ∃ K : Nat, K = gh * (b.length + 1) + g2 := ⟨_, rfl⟩
            have hKl : K < ys.length := by rw [hK, HLN.out]; exact idx_lt (by omega) (by omega)
            have hKi : (gh : Int) * ((b.length : Int) + 1) + (g2 : Int) = (K : Int) := by rw [hK]; simp
            have hw1 : IntKind.i64.wrap ((gh : Int) * ((b.length : Int) + 1)) = (gh : Int) * ((b.length : Int) + 1) := by rw [i64_w]; have := HP.out; unfold wrap64; omega
            have hw2 : IntKind.i64.wrap ((gh : Int) * ((b.length : Int) + 1) + (g2 : Int)) = (K : Int) := by rw [i64_w, hKi]; have := HP.out; unfold wrap64; omega
            have hk0 : (0 : Int) ≤ (K : Int) := by omega
            have hk1 : (K : Int) < (ys.length : Int) := by omega
            have hc0 : wr.cell? ⟨w.heap.size + 1, 0, none⟩ = some (.int .i64 ((b.length : Int) + 1)) := (blk_cell HT.out.2.2.2.2.1 0).trans rfl
            have hc1 : wr.cell? ⟨w.heap.size + 1, 1, none⟩ = some (.slice (some ⟨w.heap.size, 0, none⟩) ys.length ys.length) := (blk_cell HT.out.2.2.2.2.1 1).trans rfl
            have hck := HT.out.cell K hKl
            have hfk := blk_frozen HT.out.2.2.2.2.2 K
            have HK := Aside0.mk hK
            clear hK hKi heq0 hx1 hx2
            go_region
            clear hc0 hc1 hck hfk hw1 hw2
            go_wp2
            go_roundg g2
            case measure => omega
            case rel => exact ⟨_, ys.set K (V3 + 1), rfl, ⟨rfl⟩, ⟨by omega⟩, ⟨(HT.out.drewN _).set K hKl _⟩, ⟨by rw [HK.out]; exact HG.out.put hgi hgj _ (by rw [tabL_same hgi hgj (rd_text hgi hgj HEQ.out), HV3.out])⟩⟩
          · have heq0 : ((rdOf ByteArray.empty a (gh : Int)).toList == (rdOf ByteArray.empty b (g2 : Int)).toList) = false := beq_eq_false_iff_ne.mpr heq
            have HEQ := Aside0.mk heq
            clear heq
            go_wp2_with fail
            go_quiet (fail)
            try go_wp2_with fail
            have HMX := Aside0.mk hMX
            clear hMX
            obtain ⟨K, hK⟩ : ∃ K : Nat, K = gh * (b.length + 1) + g2 := ⟨_, rfl⟩
            have hKl : K < ys.length := by rw [hK, HLN.out]; exact idx_lt (by omega) (by omega)
            have hKi : (gh : Int) * ((b.length : Int) + 1) + (g2 : Int) = (K : Int) := by rw [hK]; simp
            have hw1 : IntKind.i64.wrap ((gh : Int) * ((b.length : Int) + 1)) = (gh : Int) * ((b.length : Int) + 1) := by rw [i64_w]; have := HP.out; unfold wrap64; omega
            have hw2 : IntKind.i64.wrap ((gh : Int) * ((b.length : Int) + 1) + (g2 : Int)) = (K : Int) := by rw [i64_w, hKi]; have := HP.out; unfold wrap64; omega
            have hk0 : (0 : Int) ≤ (K : Int) := by omega
            have hk1 : (K : Int) < (ys.length : Int) := by omega
            have hc0 : wr.cell? ⟨w.heap.size + 1, 0, none⟩ = some (.int .i64 ((b.length : Int) + 1)) := (blk_cell HT.out.2.2.2.2.1 0).trans rfl
            have hc1 : wr.cell? ⟨w.heap.size + 1, 1, none⟩ = some (.slice (some ⟨w.heap.size, 0, none⟩) ys.length ys.length) := (blk_cell HT.out.2.2.2.2.1 1).trans rfl
            have hck := HT.out.cell K hKl
            have hfk := blk_frozen HT.out.2.2.2.2.2 K
            have HK := Aside0.mk hK
            clear hK hKi heq0 hx1 hx2
            go_region
            clear hc0 hc1 hck hfk hw1 hw2
            go_wp2
            go_roundg g2
            case measure => omega
            case rel => exact ⟨_, ys.set K (MX), rfl, ⟨rfl⟩, ⟨by omega⟩, ⟨(HT.out.drewN _).set K hKl _⟩, ⟨by rw [HK.out]; exact HG.out.put hgi hgj _ (by rw [tabL_ne hgi hgj (fun e => HEQ.out (rd_text' hgi hgj e)), ← HV1.out, ← HV2.out]; have := HMX.out; split at this <;> omega)⟩⟩
end Go.Proofs.Ytacpejblnjgcoaa.P
