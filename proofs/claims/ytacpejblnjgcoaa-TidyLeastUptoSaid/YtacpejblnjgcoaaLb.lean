/- Own: the walk of lcs's table: how it is filled. -/
import Derived.Test.YtacpejblnjgcoaaLa
import Derived.Test.YtacpejblnjgcoaaTd
import Derived.Test.YtacpejblnjgcoaaLt
namespace Go.Proofs.Ytacpejblnjgcoaa.P
open Go.RowKit Go.Proofs.YtacpejblnjgcoaaW.PrintWords Go.Proofs.YtacpejblnjgcoaaW.PrintLast Go.Proofs.YtacpejblnjgcoaaW.PrintMore
set_option linter.unusedVariables false
set_option linter.unusedSimpArgs false
attribute [local go_sem] max2_int min2_int max_two min_two

/-- The table in memory. -/
def TabW (w wr : World) (g gt : Nat) (wide : Int) (xs : List Int) : Prop :=
  Below w.heap.size w wr ∧ w.heap.size ≤ g ∧ w.heap.size ≤ gt ∧ g ≠ gt ∧ wr.heap[g]? = some (.cells #[.int .i64 wide, .slice (some ⟨gt, 0, none⟩) xs.length xs.length] 86 (0, 0)) ∧ wr.heap[gt]? = some (.cells (nums .i32 xs).toArray 21 (0, 0))
theorem TabW.cell {w wr : World} {g gt : Nat} {wide : Int} {xs : List Int} (h : TabW w wr g gt wide xs) (k : Nat) (hk : k < xs.length) : wr.cell? ⟨gt, k, none⟩ = some (.int .i32 (xs.getD k 0)) := by
  rw [blk_cell h.2.2.2.2.2 k]
  simp [nums, List.getD, hk]
theorem TabW.drewN {w wr : World} {g gt : Nat} {wide : Int} {xs : List Int} (h : TabW w wr g gt wide xs) (n : Nat) : TabW w (wr.drewN n) g gt wide xs := ⟨pw_below_drewN h.1 n, h.2⟩
theorem TabW.set {w wr : World} {g gt : Nat} {wide : Int} {xs : List Int} (h : TabW w wr g gt wide xs) (k : Nat) (hk : k < xs.length) (v : Int) : TabW w (wr.setCell ⟨gt, k, none⟩ (.int .i32 v)) g gt wide (xs.set k v) := by
  obtain ⟨h1, h2, h3, h4, h5, h6⟩ := h
  refine ⟨below_set h1 h3, h2, h3, h4, ?_, ?_⟩
  · rw [List.length_set]; exact blk_far h5 h4 _
  · have := blk_set h6 k (.int .i32 v)
    rw [this]
    congr 2
    simp [nums, List.map_set]

/-- The entries behind a place are right, and those of the last row and column. -/
def Good (a b : List ByteArray) (i j : Nat) (xs : List Int) : Prop :=
  xs.length = (a.length + 1) * (b.length + 1) ∧ ∀ i' j', i' ≤ a.length → j' ≤ b.length → (i < i' ∨ (i' = i ∧ j ≤ j') ∨ i' = a.length ∨ j' = b.length) → xs.getD (i' * (b.length + 1) + j') 0 = tabL a b i' j'
theorem Good.start (a b : List ByteArray) : Good a b a.length 0 (List.replicate ((a.length + 1) * (b.length + 1)) 0) := by
  refine ⟨by simp, fun i' j' hi hj h => ?_⟩
  have e : tabL a b i' j' = 0 := by
    unfold tabL
    rcases h with h | ⟨rfl, _⟩ | rfl | rfl
    · omega
    · simp [lcs_nil_left]
    · simp [lcs_nil_left]
    · simp [lcs_nil_right]
  rw [e]
  simp only [List.getD_eq_getElem?_getD, List.getElem?_replicate]
  split <;> rfl
theorem Good.row {a b : List ByteArray} {g : Nat} {xs : List Int} (h : Good a b (g + 1) 0 xs) : Good a b g b.length xs :=
  ⟨h.1, fun i' j' hi hj hh => h.2 i' j' hi hj (by omega)⟩
theorem idx_lt {la lb i j : Nat} (hi : i ≤ la) (hj : j ≤ lb) : i * (lb + 1) + j < (la + 1) * (lb + 1) := by
  have h1 : i * (lb + 1) ≤ la * (lb + 1) := Nat.mul_le_mul_right _ hi
  rw [Nat.succ_mul]; omega
theorem idx_inj {lb i i' j j' : Nat} (hj : j ≤ lb) (hj' : j' ≤ lb) (h : i * (lb + 1) + j = i' * (lb + 1) + j') : i = i' ∧ j = j' := by
  have h1 : (i * (lb + 1) + j) / (lb + 1) = i := by rw [Nat.mul_comm, Nat.mul_add_div (by omega), Nat.div_eq_of_lt (by omega)]; omega
  have h2 : (i' * (lb + 1) + j') / (lb + 1) = i' := by rw [Nat.mul_comm, Nat.mul_add_div (by omega), Nat.div_eq_of_lt (by omega)]; omega
  have h3 : i = i' := by rw [← h1, ← h2, h]
  subst h3
  exact ⟨rfl, by omega⟩
theorem Good.put {a b : List ByteArray} {i j : Nat} {xs : List Int} (h : Good a b i (j + 1) xs) (hi : i < a.length) (hj : j < b.length) (v : Int) (hv : v = tabL a b i j) : Good a b i j (xs.set (i * (b.length + 1) + j) v) := by
  refine ⟨by rw [List.length_set]; exact h.1, fun i' j' hi' hj' hh => ?_⟩
  have hlt : i * (b.length + 1) + j < xs.length := by rw [h.1]; exact idx_lt (by omega) (by omega)
  by_cases e : i' = i ∧ j' = j
  · obtain ⟨rfl, rfl⟩ := e
    simp [List.getD_eq_getElem?_getD, List.getElem?_set, hlt, hv]
  · have hne : ¬ i * (b.length + 1) + j = i' * (b.length + 1) + j' := fun e' => e (by have := idx_inj (by omega) hj' e'; omega)
    have := h.2 i' j' hi' hj' (by omega)
    simpa [List.getD_eq_getElem?_getD, List.getElem?_set, hne] using this
theorem tab_read {w wr : World} {g gt : Nat} {wide : Int} {xs : List Int} (h : TabW w wr g gt wide xs) (i j : Int) (k : Nat) (hk : i * wide + j = (k : Int)) (hm : i * wide < 4611686018427387904) (hm0 : 0 ≤ i * wide) (hj0 : 0 ≤ j) (hj : j < 4611686018427387904) (hkn : k < xs.length) (V : Int) (hV : xs.getD k 0 = V) :
    Calls Try.prog 76 #[.pointer (some ⟨g, 0, none⟩), .int .i64 i, .int .i64 j] wr fun e w' => e = .returned (.int .i32 V) ∧ ∃ n, w' = wr.drewN n :=
  (table_at g gt xs.length wide i j V wr h.2.2.2.2.1 k hk hm hm0 hj0 hj hkn (by rw [h.cell k hkn, hV])).mono fun _ _ ⟨he, hd⟩ => ⟨he, hd.out⟩

end Go.Proofs.Ytacpejblnjgcoaa.P
