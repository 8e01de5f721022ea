/- Own and printed texts that the theorem of ComposeNone reaches, put together. -/
import Derived.Shelf.Strings.Search1
import Derived.Shelf.Strings.Search2
import Derived.Shelf.Strings.Search3
import Derived.Shelf.LaysM
import Derived.Shelf.Strings.Shaped
import Derived.Test.YtkiklmmpflndbaaProg
set_option linter.unusedVariables false
set_option linter.unusedSimpArgs false
namespace Go.Proofs
open Go.Shelf
def Try.lays144_ren : Go.Shelf.Ren := ⟨fun | 144 => 67 | 143 => 70 | 219 => 72 | 217 => 73 | 225 => 74 | 224 => 75 | 267 => 76 | 266 => 77 | 314 => 78 | n => n, fun | 9 => 9 | 4 => 4 | 3 => 3 | 5 => 5 | 46 => 77 | 146 => 79 | 51 => 78 | n => n, fun | 1 => 0 | n => n⟩
theorem Try.lays144 : Go.Proofs.Lays.n144 Try.prog Try.lays144_ren := {
 mixed := by kernel_rfl
 f143 := Try.func70.trans (congrArg some (by kernel_rfl))
 f144 := Try.func67.trans (congrArg some (by kernel_rfl))
 f217 := Try.func73.trans (congrArg some (by kernel_rfl))
 f219 := Try.func72.trans (congrArg some (by kernel_rfl))
 f224 := Try.func75.trans (congrArg some (by kernel_rfl))
 f225 := Try.func74.trans (congrArg some (by kernel_rfl))
 f266 := Try.func77.trans (congrArg some (by kernel_rfl))
 f267 := Try.func76.trans (congrArg some (by kernel_rfl))
 f314 := Try.func78.trans (congrArg some (by kernel_rfl))
 t3 := Try.underlying3
 a3 := Try.isAgg3
 z3 := Try.sizeOf3
 v3 := Try.zeroValue3
 t4 := Try.underlying4
 a4 := Try.isAgg4
 z4 := Try.sizeOf4
 v4 := Try.zeroValue4
 t5 := Try.underlying5
 a5 := Try.isAgg5
 z5 := Try.sizeOf5
 v5 := Try.zeroValue5
 t9 := Try.underlying9
 a9 := Try.isAgg9
 z9 := Try.sizeOf9
 v9 := Try.zeroValue9
 t46 := Try.underlying77
 a46 := Try.isAgg77
 z46 := Try.sizeOf77
 v46 := Try.zeroValue77
 t51 := Try.underlying78
 a51 := Try.isAgg78
 z51 := Try.sizeOf78
 v51 := Try.zeroValue78
 t146 := Try.underlying79
 a146 := Try.isAgg79
 z146 := Try.sizeOf79
 v146 := Try.zeroValue79
 g1 := by kernel_rfl }
open Go.RowKit Go.Lib in
/-- strings.Contains: "Contains reports whether substr is within s.": AT A substr OF ONE BYTE c: IT RETURNS 'decide (0 ≤ Lib.indexByte s c)'; the world is as_ it was. (LAID: no walk: one application.) -/
theorem Try.strings_Contains_one (s : ByteArray) (c : UInt8) (w : World) :
  Calls Try.prog 67 #[.string s, .string ⟨#[c]⟩] w fun e w' => e = .returned (.bool (decide (0 ≤ Lib.indexByte s.data.toList c))) ∧ w' = w := Any.strings_Contains_one Try.lays144 s c w
end Go.Proofs
namespace Go.Proofs.Ytkiklmmpflndbaa.P
section
variable {α : Type} [DecidableEq α]
def lcs : List α → List α → Nat
 | [], _ => 0
 | _ :: _, [] => 0
 | x :: a, y :: b => if x = y then lcs a b + 1 else max (lcs a (y :: b)) (lcs (x :: a) b)
termination_by a b => a.length + b.length
theorem lcs_nil_left (b : List α) : lcs [] b = 0 := by simp [lcs]
theorem lcs_nil_right (a : List α) : lcs a [] = 0 := by cases a <;> simp [lcs]
theorem lcs_cons_same (x : α) (a b : List α) : lcs (x :: a) (x :: b) = lcs a b + 1 := by simp [lcs]
theorem lcs_cons_ne {x y : α} (h : x ≠ y) (a b : List α) : lcs (x :: a) (y :: b) = max (lcs a (y :: b)) (lcs (x :: a) b) := by
 rw [lcs]; simp [h]
theorem lcs_ge {a b c : List α} (h1 : c.Sublist a) (h2 : c.Sublist b) : c.length ≤ lcs a b := by
 induction a, b using lcs.induct generalizing c with
 | case1 b => rw [lcs_nil_left, List.sublist_nil.mp h1]; simp
 | case2 x a => rw [lcs_nil_right, List.sublist_nil.mp h2]; simp
 | case3 a x b ih =>
  rw [lcs_cons_same]
  cases c with
  | nil => simp
  | cons z c =>
   have h1' : c.Sublist a := h1.tail
   have h2' : c.Sublist b := h2.tail
   have := ih h1' h2'
   simp only [List.length_cons]; omega
 | case4 x a y b hne ih1 ih2 =>
  rw [lcs_cons_ne hne]
  cases c with
  | nil => simp
  | cons z c =>
   by_cases hz : z = x
   ·subst hz
    have h2' : (z :: c).Sublist b := by
     cases h2 with
     | cons _ h => exact h
     | cons_cons _ h => exact absurd rfl hne
    have := ih2 h1 h2'
    omega
   ·have h1' : (z :: c).Sublist a := by
     cases h1 with
     | cons _ h => exact h
     | cons_cons _ h => exact absurd rfl hz
    have := ih1 h1' h2
    omega
theorem lcs_row (a b : List α) : ∃ c : List α, c.Sublist a ∧ c.Sublist b ∧ c.length = lcs a b := by
 induction a, b using lcs.induct with
 | case1 b => exact ⟨[], List.nil_sublist _, List.nil_sublist _, by rw [lcs_nil_left]; rfl⟩
 | case2 x a => exact ⟨[], List.nil_sublist _, List.nil_sublist _, by rw [lcs_nil_right]; rfl⟩
 | case3 a x b ih =>
  obtain ⟨c, h1, h2, h3⟩ := ih
  exact ⟨x :: c, h1.cons_cons x, h2.cons_cons x, by rw [lcs_cons_same]; simp [h3]⟩
 | case4 x a y b hne ih1 ih2 =>
  rw [lcs_cons_ne hne]
  obtain ⟨c, h1, h2, h3⟩ := ih1
  obtain ⟨d, g1, g2, g3⟩ := ih2
  by_cases hm : lcs a (y :: b) ≤ lcs (x :: a) b
  ·exact ⟨d, g1, g2.cons y, by omega⟩
  ·exact ⟨c, h1.cons x, h2, by omega⟩
theorem lcs_comm (a b : List α) : lcs a b = lcs b a := by
 obtain ⟨c, h1, h2, h3⟩ := lcs_row a b
 obtain ⟨d, g1, g2, g3⟩ := lcs_row b a
 have := lcs_ge h2 h1
 have := lcs_ge g2 g1
 omega
theorem lcs_le_left (a b : List α) : lcs a b ≤ a.length := by
 obtain ⟨c, h1, _, h3⟩ := lcs_row a b
 have := h1.length_le; omega
theorem lcs_cons_left_le (x : α) (a b : List α) : lcs (x :: a) b ≤ lcs a b + 1 := by
 obtain ⟨c, h1, h2, h3⟩ := lcs_row (x :: a) b
 cases c with
 | nil => simp at h3; omega
 | cons z c =>
  have h1' : c.Sublist a := h1.tail
  have := lcs_ge (c := c) h1' ((List.sublist_cons_self z c).trans h2)
  simp at h3; omega
theorem lcs_cons_right_le (a : List α) (y : α) (b : List α) : lcs a (y :: b) ≤ lcs a b + 1 := by
 rw [lcs_comm a (y :: b), lcs_comm a b]; exact lcs_cons_left_le y b a
end
end Go.Proofs.Ytkiklmmpflndbaa.P
