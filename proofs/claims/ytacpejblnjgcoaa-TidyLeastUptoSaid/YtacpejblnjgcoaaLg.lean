/- Own: the walk of the reference's table: rows of rows. -/
import Derived.Test.YtacpejblnjgcoaaLt
import Derived.Test.YtacpejblnjgcoaaH
import Derived.Test.YtacpejblnjgcoaaP0
import Derived.Outline
import Derived.WalkMore
import Derived.Deep.LoopGhost
namespace Go.Proofs.Ytacpejblnjgcoaa.P
open Go.RowKit Go.Proofs.YtacpejblnjgcoaaW.PrintWords Go.Proofs.YtacpejblnjgcoaaW.PrintLast Go.Proofs.YtacpejblnjgcoaaW.PrintMore
set_option linter.unusedVariables false
set_option linter.unusedSimpArgs false

/-- What stands in the outer row: the first m rows are made. -/
def outerC (g0 n m q : Nat) : List Value := (List.range n).map fun i => if i < m then .slice (some ⟨g0 + i, 0, none⟩) q q else .slice none 0 0
/-- The rows in memory: the outer one in block B, row i in block B + 1 + i. -/
def RowsW (w wr : World) (n m q : Nat) (T : Nat → List Int) : Prop :=
  Below w.heap.size w wr ∧ wr.heap.size = w.heap.size + 1 + m ∧ wr.heap[w.heap.size]? = some (.cells (outerC (w.heap.size + 1) n m q).toArray 37 (0, 0)) ∧
    ∀ i, i < m → (T i).length = q ∧ wr.heap[w.heap.size + 1 + i]? = some (.cells (nums .i64 (T i)).toArray 3 (0, 0))
theorem RowsW.drewN {w wr : World} {n m q : Nat} {T : Nat → List Int} (h : RowsW w wr n m q T) (k : Nat) : RowsW w (wr.drewN k) n m q T := ⟨pw_below_drewN h.1 k, h.2⟩
theorem RowsW.outer {w wr : World} {n m q : Nat} {T : Nat → List Int} (h : RowsW w wr n m q T) (i : Nat) (hi : i < m) (hm : m ≤ n) : wr.cell? ⟨w.heap.size, i, none⟩ = some (.slice (some ⟨w.heap.size + 1 + i, 0, none⟩) q q) := by
  rw [blk_cell h.2.2.1 i]
  have : i < n := by omega
  simp [outerC, this, hi]
theorem RowsW.outer_nil {w wr : World} {n m q : Nat} {T : Nat → List Int} (h : RowsW w wr n m q T) (i : Nat) (hi : ¬ i < m) (hm : i < n) : wr.cell? ⟨w.heap.size, i, none⟩ = some (.slice none 0 0) := by
  rw [blk_cell h.2.2.1 i]
  simp [outerC, hm, hi]
theorem RowsW.inner {w wr : World} {n m q : Nat} {T : Nat → List Int} (h : RowsW w wr n m q T) (i k : Nat) (hi : i < m) (hk : k < q) : wr.cell? ⟨w.heap.size + 1 + i, k, none⟩ = some (.int .i64 ((T i).getD k 0)) := by
  rw [blk_cell (h.2.2.2 i hi).2 k]
  have := (h.2.2.2 i hi).1
  simp [nums, List.getD, show k < (T i).length by omega]
theorem RowsW.set {w wr : World} {n m q : Nat} {T : Nat → List Int} (h : RowsW w wr n m q T) (i k : Nat) (hi : i < m) (hk : k < q) (v : Int) :
    RowsW w (wr.setCell ⟨w.heap.size + 1 + i, k, none⟩ (.int .i64 v)) n m q (fun i' => if i' = i then (T i).set k v else T i') := by
  obtain ⟨h1, h2, h3, h4⟩ := h
  refine ⟨below_set h1 (by omega), by simpa using h2, blk_far h3 (by simp; omega) _, fun i' hi' => ?_⟩
  by_cases e : i' = i
  · subst e
    simp only [if_true]
    refine ⟨by rw [List.length_set]; exact (h4 i' hi').1, ?_⟩
    rw [blk_set (h4 i' hi').2 k _]
    congr 2
    simp [nums, List.map_set]
  · simp only [if_neg e]
    exact ⟨(h4 i' hi').1, blk_far (h4 i' hi').2 (by simp; omega) _⟩
theorem outerC_succ (g0 n m q : Nat) (hm : m < n) : ((outerC g0 n m q).toArray).setIfInBounds m (.slice (some ⟨g0 + m, 0, none⟩) q q) = (outerC g0 n (m + 1) q).toArray := by
  apply Array.toList_inj.mp
  apply List.ext_getElem
  · simp [outerC]
  · intro i h1 h2
    simp only [outerC, Array.toList_setIfInBounds, List.getElem_set, List.getElem_map, List.getElem_range]
    split
    · rename_i e; subst e; simp
    · rename_i e
      have : (i < m + 1) = (i < m) := by apply propext; omega
      simp [this]
/-- One row more. -/
theorem RowsW.more {w wr : World} {n m q : Nat} {T : Nat → List Int} (h : RowsW w wr n m q T) (hm : m < n) (hT : T m = List.replicate q 0) :
    RowsW w ((wr.alloc (.cells (madeCells #[.int .i64 0] q) 3)).setCell ⟨w.heap.size, m, none⟩ (.slice (some ⟨wr.heap.size, 0, none⟩) q q)) n (m + 1) q T := by
  obtain ⟨h1, h2, h3, h4⟩ := h
  have hold : ∀ k o, wr.heap[k]? = some o → (wr.alloc (.cells (madeCells #[.int .i64 0] q) 3)).heap[k]? = some o := fun k o hk => by
    rw [(below_alloc (Below.refl wr.heap.size wr) _).block k (Array.getElem?_eq_some_iff.mp hk).1]; exact hk
  have e : (nums .i64 (List.replicate q (0 : Int))).toArray = madeCells #[.int .i64 0] q := by
    apply Array.toList_inj.mp
    apply List.ext_getElem
    · simp [nums, madeCells]
    · intro i h1 h2
      simp [nums, madeCells, Nat.mod_one]
  refine ⟨below_set (below_alloc h1 _) (Nat.le_refl _), by simp; omega, ?_, fun i hi => ?_⟩
  · rw [blk_set (hold _ _ h3) m _, h2]
    rw [outerC_succ _ _ _ _ hm]
  · by_cases e2 : i = m
    · subst e2
      refine ⟨by rw [hT]; simp, ?_⟩
      have hn := heap_alloc_new wr (.cells (madeCells #[.int .i64 0] q) 3)
      rw [h2] at hn
      rw [hT, e]
      exact blk_far hn (by simp; omega) _
    · exact ⟨(h4 i (by omega)).1, blk_far (hold _ _ (h4 i (by omega)).2) (by simp; omega) _⟩
theorem RowsW.start (w : World) (n q : Nat) (T : Nat → List Int) : RowsW w (w.alloc (.cells (madeCells #[.slice none 0 0] n) 37)) n 0 q T := by
  refine ⟨below_alloc (Below.refl _ _) _, by simp, ?_, fun i hi => absurd hi (by omega)⟩
  have e : (outerC (w.heap.size + 1) n 0 q).toArray = madeCells #[.slice none 0 0] n := by
    apply Array.toList_inj.mp
    apply List.ext_getElem
    · simp [outerC, madeCells]
    · intro i h1 h2
      simp [outerC, madeCells, Nat.mod_one]
  rw [e]
  exact heap_alloc_new w _
end Go.Proofs.Ytacpejblnjgcoaa.P
