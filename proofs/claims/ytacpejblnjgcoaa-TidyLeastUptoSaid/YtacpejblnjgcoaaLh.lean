/- Own: the walk of the reference's table. -/
import Derived.Test.YtacpejblnjgcoaaLg
import Derived.Outline
import Derived.Deep.LoopGhost
namespace Go.Proofs.Ytacpejblnjgcoaa.P
open Go.RowKit Go.Proofs.YtacpejblnjgcoaaW.PrintWords Go.Proofs.YtacpejblnjgcoaaW.PrintLast Go.Proofs.YtacpejblnjgcoaaW.PrintMore
set_option linter.unusedVariables false
set_option linter.unusedSimpArgs false

theorem info_int : (Try.prog.info? 3).map (fun i => (i.zero, i.size, i.bytes)) = some (some (.int .i64 0), 1, 8) := by kernel_rfl
theorem info_ints : (Try.prog.info? 37).map (fun i => (i.zero, i.size, i.bytes)) = some (some (.slice none 0 0), 1, 24) := by kernel_rfl
/-- The rows behind a place are right. -/
def GoodT (a b : List ByteArray) (i j : Nat) (T : Nat → List Int) : Prop :=
  ∀ i', i' ≤ a.length → (T i').length = b.length + 1 ∧ ∀ j', j' ≤ b.length → (i < i' ∨ (i' = i ∧ j ≤ j') ∨ i' = a.length ∨ j' = b.length) → (T i').getD j' 0 = tabL a b i' j'
theorem GoodT.start (a b : List ByteArray) : GoodT a b a.length 0 (fun _ => List.replicate (b.length + 1) 0) := by
  refine fun i' hi => ⟨by simp, fun j' hj h => ?_⟩
  have e : tabL a b i' j' = 0 := by
    unfold tabL
    rcases h with h | ⟨rfl, _⟩ | rfl | rfl
    · omega
    · simp [lcs_nil_left]
    · simp [lcs_nil_left]
    · simp [lcs_nil_right]
  rw [e]
  simp only [List.getD_eq_getElem?_getD, List.getElem?_replicate]
  split <;> rfl
theorem GoodT.row {a b : List ByteArray} {g : Nat} {T : Nat → List Int} (h : GoodT a b (g + 1) 0 T) : GoodT a b g b.length T :=
  fun i' hi => ⟨(h i' hi).1, fun j' hj hh => (h i' hi).2 j' hj (by omega)⟩
/-- A place not yet right is written. -/
theorem GoodT.try {a b : List ByteArray} {i j : Nat} {T : Nat → List Int} (h : GoodT a b i (j + 1) T) (hi : i < a.length) (hj : j < b.length) (v : Int) : GoodT a b i (j + 1) (fun i' => if i' = i then (T i).set j v else T i') := by
  intro i' hi'
  by_cases e : i' = i
  · subst e
    dsimp only
    rw [if_pos rfl]
    refine ⟨by rw [List.length_set]; exact (h i' hi').1, fun j' hj' hh => ?_⟩
    have hne : ¬ j = j' := by omega
    have := (h i' hi').2 j' hj' hh
    simpa [List.getD_eq_getElem?_getD, List.getElem?_set, hne] using this
  · dsimp only
    rw [if_neg e]
    exact h i' hi'
theorem GoodT.done {a b : List ByteArray} {i j : Nat} {T : Nat → List Int} (h : GoodT a b i (j + 1) T) (hi : i < a.length) (hv : (T i).getD j 0 = tabL a b i j) : GoodT a b i j T := by
  refine fun i' hi' => ⟨(h i' hi').1, fun j' hj' hh => ?_⟩
  by_cases e : i' = i ∧ j' = j
  · obtain ⟨rfl, rfl⟩ := e; exact hv
  · exact (h i' hi').2 j' hj' (by omega)

set_option maxHeartbeats 4000000 in
set_option maxRecDepth 100000 in
theorem ref_table_walk (A0 : Option Addr) (c0 : Nat) (a : List ByteArray) (A1 : Option Addr) (c1 : Nat) (b : List ByteArray) (w : World) (hr0 : Kd.C Kd.string w A0 a.length a) (hr1 : Kd.C Kd.string w A1 b.length b) (ha : a.length ≤ 1000000) (hb : b.length ≤ 1000000) :
    Calls Try.prog 57 #[.slice A0 a.length c0, .slice A1 b.length c1] w fun e w' => ∃ T, e = .returned (.slice (some ⟨w.heap.size, 0, none⟩) (a.length + 1) (a.length + 1)) ∧ RowsW w w' (a.length + 1) (a.length + 1) (b.length + 1) T ∧ GoodT a b 0 0 T := by
  have HR0 := Aside0.mk hr0
  have HR1 := Aside0.mk hr1
  clear hr0 hr1
  have la0 : (a.length : Int) ≤ 1000000 := by omega
  have lb0 : (b.length : Int) ≤ 1000000 := by omega
  have hmk0 := print_make_of (P := Try.prog) 64 37 (.slice none 0 0) 24 Try.underlying64 info_ints rfl (by decide) (a.length + 1) (by omega)
  have hmk1 := print_make (P := Try.prog) 37 3 .i64 8 Try.underlying37 info_int (by decide) (b.length + 1) (by omega)
  rw [show ((a.length + 1 : Nat) : Int) = (a.length : Int) + 1 from by omega] at hmk0
  rw [show ((b.length + 1 : Nat) : Int) = (b.length : Int) + 1 from by omega] at hmk1
  go_enter Try.func57, Try.ntmps57
  go_wp2
  go_loopg [6] (a.length + 1) (fun g s6 wx => ∃ (m : Nat), s6 = .int .i64 (m : Int) ∧ Aside0 (m + g = a.length + 1) ∧ Aside0 (RowsW w wx (a.length + 1) m (b.length + 1) (fun _ => List.replicate (b.length + 1) 0)))
  case atStart => exact ⟨0, rfl, ⟨by omega⟩, ⟨RowsW.start w _ _ _⟩⟩
  case round =>
    obtain ⟨m, rfl, HM, HT⟩ := hrel
    cases gk with
    | succ g =>
      have hm : m ≤ a.length := by have := HM.out; omega
      have hmI : (m : Int) ≤ (a.length : Int) := by omega
      have hm0 : (0 : Int) ≤ (m : Int) := by omega
      have hm1 : (m : Int) < (a.length : Int) + 1 := by omega
      have hm2 : m < a.length + 1 := by omega
      have hcn := HT.out.outer_nil m (by omega) (by omega)
      have hfn := blk_frozen HT.out.2.2.1 m
      have hlt : w.heap.size < wr.heap.size := by have := HT.out.2.1; omega
      go_wp2
      go_roundg g
      case measure => omega
      case rel => exact ⟨m + 1, (by first | rfl | (simp; done)), ⟨by have := HM.out; omega⟩, ⟨by have z := HT.out.more hm2 rfl; rw [World.setCell_alloc_past _ _ _ _ hlt] at z; exact z⟩⟩
    | zero =>
      obtain rfl : m = a.length + 1 := by have := HM.out; omega
      clear HM hmk0 hmk1
      have HG := Aside0.mk (GoodT.start a b)
      go_wp2
      go_loopg [7] a.length (fun gh s7 wx => ∃ (i : Int) (T : Nat → List Int), s7 = .int .i64 i ∧ Aside0 (i = (gh : Int) - 1) ∧ Aside0 (gh ≤ a.length) ∧ Aside0 (RowsW w wx (a.length + 1) (a.length + 1) (b.length + 1) T) ∧ Aside0 (GoodT a b gh 0 T))
      case atStart => exact ⟨_, _, rfl, ⟨rfl⟩, ⟨Nat.le_refl _⟩, HT, HG⟩
      case round =>
        clear HT HG
        obtain ⟨i, T, rfl, HI, HL, HT, HG⟩ := hrel
        cases gk with
        | zero =>
          obtain rfl : i = -1 := by have := HI.out; omega
          clear HI HL
          go_wp2
          go_ret
          exact ⟨T, rfl, HT.out, HG.out⟩
        | succ gh =>
          obtain rfl : i = (gh : Int) := by have := HI.out; omega
          have hgi : gh < a.length := by have := HL.out; omega
          have hi0 : (gh : Int) < (a.length : Int) := by omega
          have hi00 : (0 : Int) ≤ (gh : Int) := by omega
          clear HI
          go_wp2
          go_loopg [8] b.length (fun g2 s8 wy => ∃ (j : Int) (T : Nat → List Int), s8 = .int .i64 j ∧ Aside0 (j = (g2 : Int) - 1) ∧ Aside0 (g2 ≤ b.length) ∧ Aside0 (RowsW w wy (a.length + 1) (a.length + 1) (b.length + 1) T) ∧ Aside0 (GoodT a b gh g2 T))
          case atStart => exact ⟨_, T, rfl, ⟨rfl⟩, ⟨Nat.le_refl _⟩, HT, ⟨HG.out.row⟩⟩
          case round =>
            clear HT HG T
            obtain ⟨j, T, rfl, HJ, HL2, HT, HG⟩ := hrel
            cases gk with
            | zero =>
              obtain rfl : j = -1 := by have := HJ.out; omega
              go_wp2
              go_roundg gh
              case measure => omega
              case rel => exact ⟨_, T, rfl, ⟨by omega⟩, ⟨by have := HL.out; omega⟩, HT, HG⟩
            | succ g2 =>
              obtain rfl : j = (g2 : Int) := by have := HJ.out; omega
              have hgj : g2 < b.length := by have := HL2.out; omega
              have hj0 : (g2 : Int) < (b.length : Int) := by omega
              have hj00 : (0 : Int) ≤ (g2 : Int) := by omega
              clear HJ
              have k1 : gh < a.length + 1 := by omega
              have k2 : gh + 1 < a.length + 1 := by omega
              have k3 : g2 < b.length + 1 := by omega
              have k4 : g2 + 1 < b.length + 1 := by omega
              have k5 : (0 : Int) ≤ (gh : Int) + 1 := by omega
              have k6 : (0 : Int) ≤ (g2 : Int) + 1 := by omega
              have k7 : (gh : Int) + 1 < (a.length : Int) + 1 := by omega
              have k8 : (g2 : Int) + 1 < (b.length : Int) + 1 := by omega
              have k9 : (gh : Int) < (a.length : Int) + 1 := by omega
              have k10 : (g2 : Int) < (b.length : Int) + 1 := by omega
              have o1 := HT.out.outer gh k1 (Nat.le_refl _)
              have o2 := HT.out.outer (gh + 1) k2 (Nat.le_refl _)
              have c1 := HT.out.inner (gh + 1) g2 k2 k3
              have c2 := HT.out.inner gh g2 k1 k3
              have f2 := blk_frozen (HT.out.2.2.2 gh k1).2 g2
              obtain ⟨V1, hV1⟩ : ∃ V, V = tabL a b (gh + 1) g2 := ⟨_, rfl⟩
              obtain ⟨V2, hV2⟩ : ∃ V, V = tabL a b gh (g2 + 1) := ⟨_, rfl⟩
              obtain ⟨V3, hV3⟩ : ∃ V, V = tabL a b (gh + 1) (g2 + 1) := ⟨_, rfl⟩
              have B1 := tabL_bd a b (gh + 1) g2
              have B2 := tabL_bd a b gh (g2 + 1)
              have B3 := tabL_bd a b (gh + 1) (g2 + 1)
              rw [← hV1] at B1
              rw [← hV2] at B2
              rw [← hV3] at B3
              rw [((HG.out (gh + 1) (by omega)).2 g2 (by omega) (by omega)).trans hV1.symm] at c1
              have HV1 := Aside0.mk hV1
              have HV2 := Aside0.mk hV2
              have HV3 := Aside0.mk hV3
              clear hV1 hV2 hV3
              go_wp2_with fail
              go_region
              clear o1 o2 c1 c2 f2
              generalize hW : World.setCell _ _ _ = W
              obtain ⟨T2, hT2⟩ : ∃ T2 : Nat → List Int, T2 = (fun i' => if i' = gh then (T gh).set g2 V1 else T i') := ⟨_, rfl⟩
              have HT2 : Aside0 (RowsW w W (a.length + 1) (a.length + 1) (b.length + 1) T2) := ⟨by rw [← hW, hT2]; first | exact (HT.out.drewN _).set gh g2 k1 k3 V1 | exact HT.out.set gh g2 k1 k3 V1⟩
              have HG2 : Aside0 (GoodT a b gh (g2 + 1) T2) := ⟨by rw [hT2]; exact HG.out.try hgi hgj V1⟩
              have hcur : (T2 gh).getD g2 0 = V1 := by
                have := (HG.out gh (by omega)).1
                rw [hT2]; simp [List.getD_eq_getElem?_getD, List.getElem?_set, show g2 < (T gh).length by omega]
              clear hW HT HG hT2 T
              have o1 := HT2.out.outer gh k1 (Nat.le_refl _)
              have c2 := HT2.out.inner gh g2 k1 k3
              have c3 := HT2.out.inner gh (g2 + 1) k1 k4
              rw [hcur] at c2
              rw [((HG2.out gh (by omega)).2 (g2 + 1) (by omega) (by omega)).trans HV2.out.symm] at c3
              have HCUR := Aside0.mk hcur
              clear hcur
              go_wp2_with fail
              go_quiet (fail)
              go_upto_if 69 with (fail)
              go_cut [] (fun wc => ∃ (T : Nat → List Int) (C : Int), Aside0 (RowsW w wc (a.length + 1) (a.length + 1) (b.length + 1) T) ∧ Aside0 (GoodT a b gh (g2 + 1) T) ∧ Aside0 ((T gh).getD g2 0 = C ∧ C = max V1 V2))
              case first =>
                by_cases h12 : V1 < V2
                · have h12d : decide (V1 < V2) = true := decide_eq_true h12
                  have f2 := blk_frozen (HT2.out.2.2.2 gh k1).2 g2
                  go_wp2_with fail
                  go_region
                  go_wp2_with fail
                  go_meet
                  case rel => exact ⟨_, V2, ⟨by first | exact (HT2.out.drewN _).set gh g2 k1 k3 V2 | exact ((HT2.out.drewN _).set gh g2 k1 k3 V2).drewN _ | exact HT2.out.set gh g2 k1 k3 V2 | exact (HT2.out.set gh g2 k1 k3 V2).drewN _⟩, ⟨HG2.out.try hgi hgj V2⟩, ⟨by
                    have := (HG2.out gh (by omega)).1
                    simp [List.getD_eq_getElem?_getD, List.getElem?_set, show g2 < (T2 gh).length by omega], by omega⟩⟩
                · have h12d : decide (V1 < V2) = false := decide_eq_false h12
                  go_wp2_with fail
                  go_meet
                  case rel => exact ⟨T2, V1, ⟨HT2.out.drewN _⟩, HG2, ⟨HCUR.out, by omega⟩⟩
              case rest =>
                obtain ⟨T, C, HT, HG, HC⟩ := hcut
                clear HT2 HG2 HCUR o1 c2 c3
                have o1 := HT.out.outer gh k1 (Nat.le_refl _)
                have o2 := HT.out.outer (gh + 1) k2 (Nat.le_refl _)
                have c2 := HT.out.inner gh g2 k1 k3
                have c3 := HT.out.inner (gh + 1) (g2 + 1) k2 k4
                rw [HC.out.1] at c2
                rw [((HG.out (gh + 1) (by omega)).2 (g2 + 1) (by omega) (by omega)).trans HV3.out.symm] at c3
                have f2 := blk_frozen (HT.out.2.2.2 gh k1).2 g2
                obtain ⟨ad1, e1, hx1⟩ := Kd.at_string HR0.out (gh : Int) hi00 hi0
                cases e1
                replace hx1 := (HT.out.1.cell (World.block_lt_of_cell? w _ hx1)).trans hx1
                obtain ⟨ad2, e2, hx2⟩ := Kd.at_string HR1.out (g2 : Int) hj00 hj0
                cases e2
                replace hx2 := (HT.out.1.cell (World.block_lt_of_cell? w _ hx2)).trans hx2
                rw [Int.toNat_natCast, rd_getElem hgi] at hx1
                rw [Int.toNat_natCast, rd_getElem hgj] at hx2
                obtain ⟨tx, htx⟩ : ∃ t, t = a[gh] := ⟨_, rfl⟩
                obtain ⟨ty, hty⟩ : ∃ t, t = b[g2] := ⟨_, rfl⟩
                rw [← htx] at hx1
                rw [← hty] at hx2
                have HTX := Aside0.mk htx
                have HTY := Aside0.mk hty
                clear htx hty
                by_cases heq : tx.toList = ty.toList
                · have heq0 : (tx.toList == ty.toList) = true := beq_iff_eq.mpr heq
                  have HEQ := Aside0.mk (show a[gh] = b[g2] by rw [← HTX.out, ← HTY.out]; exact text_eq heq)
                  clear heq
                  have HB1 := Aside0.mk (show V1 ≤ V3 + 1 ∧ V2 ≤ V3 + 1 by
                    rw [HV1.out, HV2.out, HV3.out]
                    unfold tabL
                    have h1 := lcs_cons_right_le (a.drop (gh + 1)) b[g2] (b.drop (g2 + 1))
                    have h2 := lcs_cons_left_le a[gh] (a.drop (gh + 1)) (b.drop (g2 + 1))
                    rw [← List.drop_eq_getElem_cons hgj] at h1
                    rw [← List.drop_eq_getElem_cons hgi] at h2
                    omega)
                  by_cases h3 : C < V3 + 1
                  · have h3d : decide (C < V3 + 1) = true := decide_eq_true h3
                    go_wp2_with fail
                    go_quiet (fail)
                    go_wp2_with fail
                    go_region
                    clear o1 o2 c2 c3 f2 hx1 hx2
                    go_wp2
                    go_roundg g2
                    case measure => omega
                    case rel => exact ⟨_, _, rfl, ⟨by omega⟩, ⟨by omega⟩, ⟨by first | exact (HT.out.drewN _).set gh g2 k1 k3 (V3 + 1) | exact ((HT.out.drewN _).set gh g2 k1 k3 (V3 + 1)).drewN _ | exact HT.out.set gh g2 k1 k3 (V3 + 1) | exact (HT.out.set gh g2 k1 k3 (V3 + 1)).drewN _⟩, ⟨(HG.out.try hgi hgj (V3 + 1)).done hgi (by
                      have := (HG.out gh (by omega)).1
                      rw [tabL_same hgi hgj HEQ.out, ← HV3.out]
                      simp [List.getD_eq_getElem?_getD, List.getElem?_set, show g2 < (T gh).length by omega])⟩⟩
                  · have h3d : decide (C < V3 + 1) = false := decide_eq_false h3
                    go_wp2_with fail
                    go_quiet (fail)
                    clear o1 o2 c2 c3 f2 hx1 hx2
                    go_wp2
                    go_roundg g2
                    case measure => omega
                    case rel => exact ⟨_, T, rfl, ⟨by omega⟩, ⟨by omega⟩, ⟨HT.out.drewN _⟩, ⟨HG.out.done hgi (by rw [tabL_same hgi hgj HEQ.out, ← HV3.out, HC.out.1]; have := HC.out.2; have := HB1.out; omega)⟩⟩
                · have heq0 : (tx.toList == ty.toList) = false := beq_eq_false_iff_ne.mpr heq
                  have HEQ := Aside0.mk (show a[gh] ≠ b[g2] by rw [← HTX.out, ← HTY.out]; exact fun e => heq (by rw [e]))
                  clear heq
                  go_wp2_with fail
                  go_quiet (fail)
                  clear o1 o2 c2 c3 f2 hx1 hx2
                  go_wp2
                  go_roundg g2
                  case measure => omega
                  case rel => exact ⟨_, T, rfl, ⟨by omega⟩, ⟨by omega⟩, ⟨HT.out.drewN _⟩, ⟨HG.out.done hgi (by rw [tabL_ne hgi hgj HEQ.out, ← HV1.out, ← HV2.out, HC.out.1]; exact HC.out.2)⟩⟩
end Go.Proofs.Ytacpejblnjgcoaa.P
