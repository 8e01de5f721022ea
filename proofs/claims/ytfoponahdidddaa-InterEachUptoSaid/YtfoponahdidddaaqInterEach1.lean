/- Own and printed texts that the theorem of InterEach reaches, put together. -/
import Derived.Shelf.Strings.Search1
import Derived.Shelf.Strings.Search2
import Derived.Shelf.Strings.Search3
import Derived.Shelf.LaysM
import Derived.Shelf.Strings.Shaped
import Derived.Test.YtfoponahdidddaaProg
set_option linter.unusedVariables false
set_option linter.unusedSimpArgs false
namespace Go.Proofs
open Go.Shelf
def Try.lays144_ren : Go.Shelf.Ren := ⟨fun | 144 => 89 | 143 => 92 | 219 => 95 | 217 => 96 | 225 => 97 | 224 => 98 | 267 => 99 | 266 => 100 | 314 => 101 | n => n, fun | 9 => 9 | 4 => 4 | 3 => 3 | 5 => 5 | 46 => 100 | 146 => 102 | 51 => 101 | n => n, fun | 1 => 0 | n => n⟩
theorem Try.lays144 : Go.Proofs.Lays.n144 Try.prog Try.lays144_ren := {
 mixed := by kernel_rfl
 f143 := Try.func92.trans (congrArg some (by kernel_rfl))
 f144 := Try.func89.trans (congrArg some (by kernel_rfl))
 f217 := Try.func96.trans (congrArg some (by kernel_rfl))
 f219 := Try.func95.trans (congrArg some (by kernel_rfl))
 f224 := Try.func98.trans (congrArg some (by kernel_rfl))
 f225 := Try.func97.trans (congrArg some (by kernel_rfl))
 f266 := Try.func100.trans (congrArg some (by kernel_rfl))
 f267 := Try.func99.trans (congrArg some (by kernel_rfl))
 f314 := Try.func101.trans (congrArg some (by kernel_rfl))
 t3 := Try.underlying3
 a3 := Try.isAgg3
 z3 := Try.sizeOf3
 v3 := Try.zeroValue3
 t4 := Try.underlying4
 a4 := Try.isAgg4
 z4 := Try.sizeOf4
 v4 := Try.zeroValue4
 t5 := Try.underlying5
 a5 := Try.isAgg5
 z5 := Try.sizeOf5
 v5 := Try.zeroValue5
 t9 := Try.underlying9
 a9 := Try.isAgg9
 z9 := Try.sizeOf9
 v9 := Try.zeroValue9
 t46 := Try.underlying100
 a46 := Try.isAgg100
 z46 := Try.sizeOf100
 v46 := Try.zeroValue100
 t51 := Try.underlying101
 a51 := Try.isAgg101
 z51 := Try.sizeOf101
 v51 := Try.zeroValue101
 t146 := Try.underlying102
 a146 := Try.isAgg102
 z146 := Try.sizeOf102
 v146 := Try.zeroValue102
 g1 := by kernel_rfl }
open Go.RowKit Go.Lib in
/-- strings.Contains: "Contains reports whether substr is within s.": AT A substr OF ONE BYTE c: IT RETURNS 'decide (0 ≤ Lib.indexByte s c)'; the world is as_ it was. (LAID: no walk: one application.) -/
theorem Try.strings_Contains_one (s : ByteArray) (c : UInt8) (w : World) :
  Calls Try.prog 89 #[.string s, .string ⟨#[c]⟩] w fun e w' => e = .returned (.bool (decide (0 ≤ Lib.indexByte s.data.toList c))) ∧ w' = w := Any.strings_Contains_one Try.lays144 s c w
end Go.Proofs
namespace Go.Proofs.Ytfoponahdidddaa.P
section
variable {α : Type} [DecidableEq α]
def lcs : List α → List α → Nat
 | [], _ => 0
 | _ :: _, [] => 0
 | x :: a, y :: b => if x = y then lcs a b + 1 else max (lcs a (y :: b)) (lcs (x :: a) b)
termination_by a b => a.length + b.length
theorem lcs_nil_left (b : List α) : lcs [] b = 0 := by simp [lcs]
theorem lcs_nil_right (a : List α) : lcs a [] = 0 := by cases a <;> simp [lcs]
theorem lcs_cons_same (x : α) (a b : List α) : lcs (x :: a) (x :: b) = lcs a b + 1 := by simp [lcs]
theorem lcs_cons_ne {x y : α} (h : x ≠ y) (a b : List α) : lcs (x :: a) (y :: b) = max (lcs a (y :: b)) (lcs (x :: a) b) := by
 rw [lcs]; simp [h]
theorem lcs_row (a b : List α) : ∃ c : List α, c.Sublist a ∧ c.Sublist b ∧ c.length = lcs a b := by
 induction a, b using lcs.induct with
 | case1 b => exact ⟨[], List.nil_sublist _, List.nil_sublist _, by rw [lcs_nil_left]; rfl⟩
 | case2 x a => exact ⟨[], List.nil_sublist _, List.nil_sublist _, by rw [lcs_nil_right]; rfl⟩
 | case3 a x b ih =>
  obtain ⟨c, h1, h2, h3⟩ := ih
  exact ⟨x :: c, h1.cons_cons x, h2.cons_cons x, by rw [lcs_cons_same]; simp [h3]⟩
 | case4 x a y b hne ih1 ih2 =>
  rw [lcs_cons_ne hne]
  obtain ⟨c, h1, h2, h3⟩ := ih1
  obtain ⟨d, g1, g2, g3⟩ := ih2
  by_cases hm : lcs a (y :: b) ≤ lcs (x :: a) b
  ·exact ⟨d, g1, g2.cons y, by omega⟩
  ·exact ⟨c, h1.cons x, h2, by omega⟩
theorem lcs_le_left (a b : List α) : lcs a b ≤ a.length := by
 obtain ⟨c, h1, _, h3⟩ := lcs_row a b
 have := h1.length_le; omega
end
end Go.Proofs.Ytfoponahdidddaa.P
