/- Own: plain laws: the steps from one row of lines to another. -/
import Derived.Test.YtfoponahdidddaaP0
import Derived.Test.YtfoponahdidddaaTh
namespace Go.Proofs.Ytfoponahdidddaa.P
/-- The steps from one row to the other. -/
def diffOps : List ByteArray → List ByteArray → List Op
  | [], b => b.map fun t => ⟨4, 0, t⟩
  | x :: a, [] => (x :: a).map fun t => ⟨3, 0, t⟩
  | x :: a, y :: b => if x = y then ⟨2, 0, x⟩ :: diffOps a b else if lcs (x :: a) b ≤ lcs a (y :: b) then ⟨3, 0, x⟩ :: diffOps a (y :: b) else ⟨4, 0, y⟩ :: diffOps (x :: a) b
termination_by a b => a.length + b.length
theorem diffOps_same {x : ByteArray} (a b : List ByteArray) : diffOps (x :: a) (x :: b) = ⟨2, 0, x⟩ :: diffOps a b := by rw [diffOps]; simp
theorem diffOps_del {x y : ByteArray} {a b : List ByteArray} (h : x ≠ y) (h2 : lcs (x :: a) b ≤ lcs a (y :: b)) : diffOps (x :: a) (y :: b) = ⟨3, 0, x⟩ :: diffOps a (y :: b) := by rw [diffOps]; simp [h, h2]
theorem diffOps_ins {x y : ByteArray} {a b : List ByteArray} (h : x ≠ y) (h2 : ¬ lcs (x :: a) b ≤ lcs a (y :: b)) : diffOps (x :: a) (y :: b) = ⟨4, 0, y⟩ :: diffOps (x :: a) b := by rw [diffOps]; simp [h, h2]
theorem diffOps_nil_right (a : List ByteArray) : diffOps a [] = a.map fun t => ⟨3, 0, t⟩ := by cases a <;> simp [diffOps]
theorem diffOps_nil_left (b : List ByteArray) : diffOps [] b = b.map fun t => ⟨4, 0, t⟩ := by simp [diffOps]

theorem diffOps_len (a b : List ByteArray) : (diffOps a b).length ≤ a.length + b.length := by
  induction a, b using diffOps.induct with
  | case1 b => simp [diffOps]
  | case2 x a => simp [diffOps]
  | case3 a x b ih => rw [diffOps_same]; simp; omega
  | case4 x a y b h h2 ih => rw [diffOps_del h h2]; simp at ih ⊢; omega
  | case5 x a y b h h2 ih => rw [diffOps_ins h h2]; simp at ih ⊢; omega
/-- The table's entry: how long the longest common row of what is left is. -/
def tabL (a b : List ByteArray) (i j : Nat) : Int := (lcs (a.drop i) (b.drop j) : Int)
/-- The whole table. -/
def tabRows (a b : List ByteArray) : List (List Int) := (List.range (a.length + 1)).map fun i => (List.range (b.length + 1)).map fun j => tabL a b i j
end Go.Proofs.Ytfoponahdidddaa.P
