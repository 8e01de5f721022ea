/- Own: what the reference's table and LcsDiff tell. -/
import Derived.Test.YtacpejblnjgcoaaQa
import Derived.Test.YtacpejblnjgcoaaLt
namespace Go.Proofs.Ytacpejblnjgcoaa.P
open Go.RowKit Go.Proofs.YtacpejblnjgcoaaW.PrintWords Go.Proofs.YtacpejblnjgcoaaW.PrintLast Go.Proofs.YtacpejblnjgcoaaW.PrintMore
set_option linter.unusedVariables false
set_option linter.unusedSimpArgs false

theorem table_f {a b : List ByteArray} (ha : a.length ≤ 1000000) (hb : b.length ≤ 1000000) : patchworkref8_table.f a b = some (tabRows a b) := by simp [patchworkref8_table.f, ha, hb]
theorem rdL_get {t : List (List Int)} {i : Nat} {r : List Int} (h : t[i]? = some r) : rd_L6 t (i : Int) = r := by
  unfold rd_L6; rw [Int.toNat_natCast, List.getD_eq_getElem?_getD, h]; rfl
theorem tab_get (a b : List ByteArray) (i : Nat) (hi : i ≤ a.length) : (tabRows a b)[i]? = some ((List.range (b.length + 1)).map fun j => tabL a b i j) := by
  unfold tabRows
  rw [List.getElem?_map, List.getElem?_range (by omega)]; rfl
theorem tab_len (a b : List ByteArray) : (tabRows a b).length = a.length + 1 := by simp [tabRows]
theorem tab_row (a b : List ByteArray) {i : Nat} (hi : i ≤ a.length) : rd_L6 (tabRows a b) (i : Int) = (List.range (b.length + 1)).map fun j => tabL a b i j := rdL_get (tab_get a b i hi)
theorem tab_rd (a b : List ByteArray) {i j : Nat} (hi : i ≤ a.length) (hj : j ≤ b.length) : rd (rd_L6 (tabRows a b) (i : Int)) (j : Int) = tabL a b i j := by
  rw [tab_row a b hi]
  rw [rd_get (by simp; omega)]
  simp
theorem tab_rowlen (a b : List ByteArray) {i : Nat} (hi : i ≤ a.length) : (rd_L6 (tabRows a b) (i : Int)).length = b.length + 1 := by rw [tab_row a b hi]; simp
theorem w1 {n : Nat} (h : n ≤ 1000000) : wrap64 ((n : Int) + 1) = ((n + 1 : Nat) : Int) := by unfold wrap64; omega
/-- The look at the letters, the table's number told. -/
theorem rd_keep {a b : List ByteArray} {i j : Nat} {out r : List Op} (hia : i < a.length) (hjb : j < b.length) (ha : a.length ≤ 1000000) (hb : b.length ≤ 1000000) (ho : out.length < 4398046511104) (heq : a[i] = b[j])
    (h : Ev (fun k => patchworkref8_LcsDiff.l0 k a b (tabRows a b) (out ++ [(⟨2, 0, a[i]⟩ : Op)]) ((i + 1 : Nat) : Int) ((j + 1 : Nat) : Int)) r) : Ev (fun k => patchworkref8_LcsDiff.l0 k a b (tabRows a b) out (i : Int) (j : Int)) r := by
  have g1 : ((i : Int) < (a.length : Int)) := by omega
  have g2 : ((j : Int) < (b.length : Int)) := by omega
  have ra : rdOf ByteArray.empty a (i : Int) = a[i] := rdOf_get hia
  have rb : rdOf ByteArray.empty b (j : Int) = b[j] := rdOf_get hjb
  have heq' : a[i].toList = b[j].toList := by rw [heq]
  have wi := w1 (show i ≤ 1000000 by omega)
  have wj := w1 (show j ≤ 1000000 by omega)
  have p1 : (i : Int) < ((tabRows a b).length : Int) := by rw [tab_len]; omega
  have p2 : (j : Int) < ((rd_L6 (tabRows a b) (i : Int)).length : Int) := by rw [tab_rowlen a b (by omega)]; omega
  have p4 : ((i + 1 : Nat) : Int) < ((tabRows a b).length : Int) := by rw [tab_len]; omega
  have p6 : ((j + 1 : Nat) : Int) < ((rd_L6 (tabRows a b) ((i + 1 : Nat) : Int)).length : Int) := by rw [tab_rowlen a b (by omega)]; omega
  have v : (rd (rd_L6 (tabRows a b) (i : Int)) (j : Int) == wrap64 (rd (rd_L6 (tabRows a b) ((i + 1 : Nat) : Int)) ((j + 1 : Nat) : Int) + 1)) = true := by
    rw [tab_rd a b (by omega) (by omega), tab_rd a b (by omega) (by omega), tabL_same hia hjb heq]
    have hbd := tabL_bd a b (i + 1) (j + 1)
    rw [show wrap64 (tabL a b (i + 1) (j + 1) + 1) = tabL a b (i + 1) (j + 1) + 1 from by unfold wrap64; omega]
    exact beq_self_eq_true _
  refine Ev.step (fun k => rfl) ?_
  simp only [patchworkref8_LcsDiff.l0, if_pos g1]
  refine Ev.step (fun k => rfl) ?_
  simp only [patchworkref8_LcsDiff.j1, if_true, if_pos g1, if_pos g2, nn_nat, ra, rb, if_pos heq', wi, wj, if_pos p1, if_pos p2, if_pos p4, if_pos p6, v]
  refine Ev.step (fun k => rfl) ?_
  simp only [patchworkref8_LcsDiff.j2, if_true, nn_nat, if_pos g1, if_pos ho, ra, wi, wj]
  exact h
theorem rd_ne {a b : List ByteArray} {i j : Nat} {out r : List Op} (hia : i < a.length) (hjb : j < b.length) (heq : a[i] ≠ b[j])
    (h : Ev (fun k => patchworkref8_LcsDiff.j2 k a b (tabRows a b) out (i : Int) (j : Int) false) r) : Ev (fun k => patchworkref8_LcsDiff.l0 k a b (tabRows a b) out (i : Int) (j : Int)) r := by
  have g1 : ((i : Int) < (a.length : Int)) := by omega
  have g2 : ((j : Int) < (b.length : Int)) := by omega
  have ra : rdOf ByteArray.empty a (i : Int) = a[i] := rdOf_get hia
  have rb : rdOf ByteArray.empty b (j : Int) = b[j] := rdOf_get hjb
  have heq' : ¬ a[i].toList = b[j].toList := fun e => heq (txt_eq e)
  refine Ev.step (fun k => rfl) ?_
  simp only [patchworkref8_LcsDiff.l0, if_pos g1]
  refine Ev.step (fun k => rfl) ?_
  simp only [patchworkref8_LcsDiff.j1, if_true, if_pos g1, if_pos g2, nn_nat, ra, rb, if_neg heq']
  exact h
theorem rd_two {a b : List ByteArray} {i j : Nat} {out r : List Op} (hia : i < a.length) (hjb : j < b.length) (ha : a.length ≤ 1000000) (hb : b.length ≤ 1000000) (ho : out.length < 4398046511104)
    (h1 : tabL a b (i + 1) j ≥ tabL a b i (j + 1) → Ev (fun k => patchworkref8_LcsDiff.l0 k a b (tabRows a b) (out ++ [(⟨3, 0, a[i]⟩ : Op)]) ((i + 1 : Nat) : Int) (j : Int)) r)
    (h2 : ¬ tabL a b (i + 1) j ≥ tabL a b i (j + 1) → Ev (fun k => patchworkref8_LcsDiff.l0 k a b (tabRows a b) (out ++ [(⟨4, 0, b[j]⟩ : Op)]) (i : Int) ((j + 1 : Nat) : Int)) r) : Ev (fun k => patchworkref8_LcsDiff.j2 k a b (tabRows a b) out (i : Int) (j : Int) false) r := by
  have g1 : ((i : Int) < (a.length : Int)) := by omega
  have g2 : ((j : Int) < (b.length : Int)) := by omega
  have g3 : ¬ (j : Int) = (b.length : Int) := by omega
  have ra : rdOf ByteArray.empty a (i : Int) = a[i] := rdOf_get hia
  have rb : rdOf ByteArray.empty b (j : Int) = b[j] := rdOf_get hjb
  have wi := w1 (show i ≤ 1000000 by omega)
  have wj := w1 (show j ≤ 1000000 by omega)
  have p1 : (i : Int) < ((tabRows a b).length : Int) := by rw [tab_len]; omega
  have p4 : ((i + 1 : Nat) : Int) < ((tabRows a b).length : Int) := by rw [tab_len]; omega
  have p7 : (j : Int) < ((rd_L6 (tabRows a b) ((i + 1 : Nat) : Int)).length : Int) := by rw [tab_rowlen a b (by omega)]; omega
  have p8 : ((j + 1 : Nat) : Int) < ((rd_L6 (tabRows a b) (i : Int)).length : Int) := by rw [tab_rowlen a b (by omega)]; omega
  have v1 := tab_rd a b (i := i + 1) (j := j) (by omega) (by omega)
  have v2 := tab_rd a b (i := i) (j := j + 1) (by omega) (by omega)
  refine Ev.step (fun k => rfl) ?_
  by_cases hge : tabL a b (i + 1) j ≥ tabL a b i (j + 1)
  · simp only [patchworkref8_LcsDiff.j2, Bool.false_eq_true, if_false, if_neg g3, if_pos g1, wi, wj, nn_nat, if_true, if_pos p4, if_pos p7, if_pos p1, if_pos p8, v1, v2, if_pos hge, if_pos ho, ra]
    exact h1 hge
  · simp only [patchworkref8_LcsDiff.j2, Bool.false_eq_true, if_false, if_neg g3, if_pos g1, wi, wj, nn_nat, if_true, if_pos p4, if_pos p7, if_pos p1, if_pos p8, v1, v2, if_neg hge, if_pos g2, if_pos ho, rb]
    exact h2 hge
theorem rd_del {a b : List ByteArray} {i : Nat} {out r : List Op} (hia : i < a.length) (ha : a.length ≤ 1000000) (ho : out.length < 4398046511104)
    (h : Ev (fun k => patchworkref8_LcsDiff.l0 k a b (tabRows a b) (out ++ [(⟨3, 0, a[i]⟩ : Op)]) ((i + 1 : Nat) : Int) (b.length : Int)) r) : Ev (fun k => patchworkref8_LcsDiff.l0 k a b (tabRows a b) out (i : Int) (b.length : Int)) r := by
  have g1 : ((i : Int) < (a.length : Int)) := by omega
  have g2 : ¬ ((b.length : Int) < (b.length : Int)) := by omega
  have ra : rdOf ByteArray.empty a (i : Int) = a[i] := rdOf_get hia
  have wi := w1 (show i ≤ 1000000 by omega)
  refine Ev.step (fun k => rfl) ?_
  simp only [patchworkref8_LcsDiff.l0, if_pos g1]
  refine Ev.step (fun k => rfl) ?_
  simp only [patchworkref8_LcsDiff.j1, if_true, if_pos g1, if_neg g2]
  refine Ev.step (fun k => rfl) ?_
  simp only [patchworkref8_LcsDiff.j2, Bool.false_eq_true, if_false, if_true, nn_nat, if_pos g1, if_pos ho, ra, wi]
  exact h
theorem rd_ins {a b : List ByteArray} {j : Nat} {out r : List Op} (hjb : j < b.length) (hb : b.length ≤ 1000000) (ho : out.length < 4398046511104)
    (h : Ev (fun k => patchworkref8_LcsDiff.l0 k a b (tabRows a b) (out ++ [(⟨4, 0, b[j]⟩ : Op)]) (a.length : Int) ((j + 1 : Nat) : Int)) r) : Ev (fun k => patchworkref8_LcsDiff.l0 k a b (tabRows a b) out (a.length : Int) (j : Int)) r := by
  have g1 : ¬ ((a.length : Int) < (a.length : Int)) := by omega
  have g2 : ((j : Int) < (b.length : Int)) := by omega
  have g3 : ¬ (j : Int) = (b.length : Int) := by omega
  have rb : rdOf ByteArray.empty b (j : Int) = b[j] := rdOf_get hjb
  have wj := w1 (show j ≤ 1000000 by omega)
  refine Ev.step (fun k => rfl) ?_
  simp only [patchworkref8_LcsDiff.l0, if_neg g1, g2, decide_true]
  refine Ev.step (fun k => rfl) ?_
  simp only [patchworkref8_LcsDiff.j1, if_true, if_neg g1]
  refine Ev.step (fun k => rfl) ?_
  simp only [patchworkref8_LcsDiff.j2, Bool.false_eq_true, if_false, if_neg g3, if_neg g1, nn_nat, if_true, if_pos g2, if_pos ho, rb, wj]
  exact h
theorem rd_end {a b : List ByteArray} {out : List Op} : Ev (fun k => patchworkref8_LcsDiff.l0 k a b (tabRows a b) out (a.length : Int) (b.length : Int)) out := by
  have g1 : ¬ ((a.length : Int) < (a.length : Int)) := by omega
  have g2 : ¬ ((b.length : Int) < (b.length : Int)) := by omega
  refine Ev.step (fun k => rfl) ?_
  simp only [patchworkref8_LcsDiff.l0, if_neg g1, g2, decide_false]
  refine Ev.step (fun k => rfl) ?_
  simp only [patchworkref8_LcsDiff.j1, Bool.false_eq_true, if_false]
  exact Ev.now out
theorem refDiff_loop {a b : List ByteArray} (ha : a.length ≤ 1000000) (hb : b.length ≤ 1000000) : ∀ (n i j : Nat) (out : List Op), (a.length - i) + (b.length - j) ≤ n → i ≤ a.length → j ≤ b.length → out.length + n < 4398046511104 →
    Ev (fun k => patchworkref8_LcsDiff.l0 k a b (tabRows a b) out (i : Int) (j : Int)) (out ++ diffOps (a.drop i) (b.drop j)) := by
  intro n
  induction n with
  | zero =>
    intro i j out hn hi hj hl
    obtain rfl : i = a.length := by omega
    obtain rfl : j = b.length := by omega
    rw [List.drop_length, List.drop_length, diffOps_nil_left, List.map_nil, List.append_nil]
    exact rd_end
  | succ n ih =>
    intro i j out hn hi hj hl
    have snoc : ∀ (o : Op) (l : List Op), out ++ o :: l = (out ++ [o]) ++ l := fun o l => by rw [List.append_assoc]; rfl
    have len : ∀ (o : Op), (out ++ [o]).length = out.length + 1 := fun o => by rw [List.length_append]; rfl
    by_cases hia : i < a.length
    · have s1 : ∀ o, Ev (fun k => patchworkref8_LcsDiff.l0 k a b (tabRows a b) (out ++ [o]) ((i + 1 : Nat) : Int) (j : Int)) ((out ++ [o]) ++ diffOps (a.drop (i + 1)) (b.drop j)) := fun o => ih (i + 1) j _ (by omega) (by omega) hj (by rw [len]; omega)
      by_cases hjb : j < b.length
      · by_cases heq : a[i] = b[j]
        · rw [List.drop_eq_getElem_cons hia, List.drop_eq_getElem_cons hjb, ← heq, diffOps_same, snoc _ (diffOps _ _)]
          exact rd_keep hia hjb ha hb (by omega) heq (ih (i + 1) (j + 1) _ (by omega) (by omega) (by omega) (by rw [len]; omega))
        · refine rd_ne hia hjb heq (rd_two hia hjb ha hb (by omega) (fun hge => ?_) (fun hge => ?_))
          · have e : diffOps (a.drop i) (b.drop j) = ⟨3, 0, a[i]⟩ :: diffOps (a.drop (i + 1)) (b.drop j) := by
              rw [List.drop_eq_getElem_cons hia, List.drop_eq_getElem_cons hjb]
              refine diffOps_del heq ?_
              rw [← List.drop_eq_getElem_cons hia, ← List.drop_eq_getElem_cons hjb]
              unfold tabL at hge
              omega
            rw [e, snoc _ (diffOps _ _)]
            exact s1 _
          · have e : diffOps (a.drop i) (b.drop j) = ⟨4, 0, b[j]⟩ :: diffOps (a.drop i) (b.drop (j + 1)) := by
              rw [List.drop_eq_getElem_cons hia, List.drop_eq_getElem_cons hjb]
              refine diffOps_ins heq ?_
              rw [← List.drop_eq_getElem_cons hia, ← List.drop_eq_getElem_cons hjb]
              unfold tabL at hge
              omega
            rw [e, snoc _ (diffOps _ _)]
            exact ih i (j + 1) _ (by omega) hi (by omega) (by rw [len]; omega)
      · obtain rfl : j = b.length := by omega
        have e : diffOps (a.drop i) (b.drop b.length) = ⟨3, 0, a[i]⟩ :: diffOps (a.drop (i + 1)) (b.drop b.length) := by
          rw [List.drop_eq_getElem_cons hia, List.drop_length, diffOps_nil_right, diffOps_nil_right]; rfl
        rw [e, snoc _ (diffOps _ _)]
        exact rd_del hia ha (by omega) (s1 _)
    · obtain rfl : i = a.length := by omega
      by_cases hjb : j < b.length
      · have e : diffOps (a.drop a.length) (b.drop j) = ⟨4, 0, b[j]⟩ :: diffOps (a.drop a.length) (b.drop (j + 1)) := by
          rw [List.drop_eq_getElem_cons hjb, List.drop_length, diffOps_nil_left, diffOps_nil_left]; rfl
        rw [e, snoc _ (diffOps _ _)]
        exact rd_ins hjb hb (by omega) (ih a.length (j + 1) _ (by omega) hi (by omega) (by rw [len]; omega))
      · obtain rfl : j = b.length := by omega
        rw [List.drop_length, List.drop_length, diffOps_nil_left, List.map_nil, List.append_nil]
        exact rd_end
theorem refDiff {a b : List ByteArray} (ha : a.length ≤ 1000000) (hb : b.length ≤ 1000000) : Ev (fun k => patchworkref8_LcsDiff.f k a b) (diffOps a b) := by
  have := refDiff_loop ha hb (a.length + b.length) 0 0 [] (by omega) (by omega) (by omega) (by simp; omega)
  simp only [patchworkref8_LcsDiff.f, table_f ha hb, Option.bind_some]
  simpa using this
end Go.Proofs.Ytacpejblnjgcoaa.P
