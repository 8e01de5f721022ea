/- Own: the reference's table as rows of rows, and its contract. -/
import Derived.Test.YtacpejblnjgcoaaLh
namespace Go.Proofs.Ytacpejblnjgcoaa.P
open Go.RowKit Go.Proofs.YtacpejblnjgcoaaW.PrintWords Go.Proofs.YtacpejblnjgcoaaW.PrintLast Go.Proofs.YtacpejblnjgcoaaW.PrintMore
set_option linter.unusedVariables false
set_option linter.unusedSimpArgs false

theorem tabRows_get (a b : List ByteArray) (i : Nat) (hi : i ≤ a.length) : (tabRows a b)[i]? = some ((List.range (b.length + 1)).map fun j => tabL a b i j) := by
  unfold tabRows
  rw [List.getElem?_map, List.getElem?_range (by omega)]; rfl
theorem GoodT.rows {a b : List ByteArray} {T : Nat → List Int} (h : GoodT a b 0 0 T) (i : Nat) (hi : i ≤ a.length) : T i = (List.range (b.length + 1)).map fun j => tabL a b i j := by
  have hl := (h i hi).1
  apply List.ext_getElem
  · simp [hl]
  · intro j h1 h2
    have hj : j ≤ b.length := by omega
    have := (h i hi).2 j hj (by omega)
    rw [List.getD_eq_getElem?_getD, List.getElem?_eq_getElem h1] at this
    simp only [List.getElem_map, List.getElem_range]
    exact this
theorem own_row {w : World} {base g n : Nat} {e : TypeId} {xs : List Int} {k : IntKind} (hb : base ≤ g) (hg : w.heap[g]? = some (.cells (nums k xs).toArray e (0, 0))) (hn : xs.length = n) (hm : n ≤ maxLen) :
    w.ownsRow base e 1 (.slice (some ⟨g, 0, none⟩) n n) n (nums k xs) := by
  refine ⟨by simp [nums, hn], .inr ⟨g, n, _, rfl, hb, hg, Nat.le_refl _, hm, by simp [nums, hn], ?_⟩⟩
  simp only [Nat.mul_one]
  rw [List.take_of_length_le (by simp [nums, hn])]
theorem rows_S {w w' : World} {a b : List ByteArray} {T : Nat → List Int} (h : RowsW w w' (a.length + 1) (a.length + 1) (b.length + 1) T) (hT : GoodT a b 0 0 T) (ha : a.length ≤ 1000000) (hb : b.length ≤ 1000000) :
    Kd.S (Kd.slice 3 (Kd.int .i64)) 37 w' w.heap.size (fun _ => True) (.slice (some ⟨w.heap.size, 0, none⟩) (a.length + 1) (a.length + 1)) (tabRows a b) := by
  have hlen : (tabRows a b).length = a.length + 1 := by simp [tabRows]
  refine ⟨fun k => k - (w.heap.size + 1), fun k _ => trivial, outerC (w.heap.size + 1) (a.length + 1) (a.length + 1) (b.length + 1), ?_, ?_, ?_⟩
  · rw [List.length_zipIdx, hlen]
    refine ⟨by simp [outerC, Kd.tag, Kd.slice], .inr ⟨w.heap.size, a.length + 1, _, rfl, Nat.le_refl _, h.2.2.1, Nat.le_refl _, by unfold maxLen; omega, by simp [outerC, Kd.tag, Kd.slice], ?_⟩⟩
    rw [List.take_of_length_le (by simp [outerC, Kd.tag, Kd.slice])]
  · rw [List.length_zipIdx, hlen]; simp [outerC, Kd.tag, Kd.slice]
  · intro j p hj
    rw [List.getElem?_zipIdx] at hj
    by_cases hja : j ≤ a.length
    · rw [tabRows_get a b j hja] at hj
      simp only [Option.map_some, Nat.zero_add, Option.some.injEq] at hj
      subst hj
      have hcells : ((outerC (w.heap.size + 1) (a.length + 1) (a.length + 1) (b.length + 1)).drop (j * 1)).take 1 = [.slice (some ⟨w.heap.size + 1 + j, 0, none⟩) (b.length + 1) (b.length + 1)] := by
        have hlt : j < (outerC (w.heap.size + 1) (a.length + 1) (a.length + 1) (b.length + 1)).length := by simp [outerC]; omega
        rw [Nat.mul_one, List.drop_eq_getElem_cons hlt]
        simp [outerC, show j < a.length + 1 by omega]
      show (Kd.slice _ (Kd.int .i64)).M _ _ _ _ _
      refine ⟨_, hcells, ?_, ?_⟩
      · intro k hk
        simp only [Value.ownBlock, Option.some.injEq] at hk
        subst hk
        exact ⟨⟨trivial, by simp [Value.ownBlock]; omega⟩, by simp⟩
      · have hrow := hT.rows j hja
        have hj1 := h.2.2.2 j (by omega)
        rw [← hrow]
        refine ⟨nums .i64 (T j), ?_, Kd.reps_scalar (enc := Value.int .i64) (T j)⟩
        have := own_row (base := w.heap.size) (by omega) hj1.2 hj1.1 (by unfold maxLen; omega)
        rw [← hj1.1] at this ⊢
        exact this
    · have : (tabRows a b)[j]? = none := by rw [List.getElem?_eq_none]; omega
      rw [this] at hj
      simp at hj
theorem tabRows_len (a b : List ByteArray) : (tabRows a b).length = a.length + 1 := by simp [tabRows]
end Go.Proofs.Ytacpejblnjgcoaa.P
