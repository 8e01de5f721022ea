/- Own: plain laws: the longest common row of two. -/
namespace Go.Proofs.Ytfoponahdidddaa.P
section
variable {α : Type} [DecidableEq α]

/-- How long the longest common row of two is. -/
def lcs : List α → List α → Nat
  | [], _ => 0
  | _ :: _, [] => 0
  | x :: a, y :: b => if x = y then lcs a b + 1 else max (lcs a (y :: b)) (lcs (x :: a) b)
termination_by a b => a.length + b.length

theorem lcs_nil_left (b : List α) : lcs [] b = 0 := by simp [lcs]
theorem lcs_nil_right (a : List α) : lcs a [] = 0 := by cases a <;> simp [lcs]
theorem lcs_cons_same (x : α) (a b : List α) : lcs (x :: a) (x :: b) = lcs a b + 1 := by simp [lcs]
theorem lcs_cons_ne {x y : α} (h : x ≠ y) (a b : List α) : lcs (x :: a) (y :: b) = max (lcs a (y :: b)) (lcs (x :: a) b) := by
  rw [lcs]; simp [h]

theorem lcs_ge {a b c : List α} (h1 : c.Sublist a) (h2 : c.Sublist b) : c.length ≤ lcs a b := by
  induction a, b using lcs.induct generalizing c with
  | case1 b => rw [lcs_nil_left, List.sublist_nil.mp h1]; simp
  | case2 x a => rw [lcs_nil_right, List.sublist_nil.mp h2]; simp
  | case3 a x b ih =>
    rw [lcs_cons_same]
    cases c with
    | nil => simp
    | cons z c =>
      have h1' : c.Sublist a := h1.tail
      have h2' : c.Sublist b := h2.tail
      have := ih h1' h2'
      simp only [List.length_cons]; omega
  | case4 x a y b hne ih1 ih2 =>
    rw [lcs_cons_ne hne]
    cases c with
    | nil => simp
    | cons z c =>
      by_cases hz : z = x
      · subst hz
        have h2' : (z :: c).Sublist b := by
          cases h2 with
          | cons _ h => exact h
          | cons_cons _ h => exact absurd rfl hne
        have := ih2 h1 h2'
        omega
      · have h1' : (z :: c).Sublist a := by
          cases h1 with
          | cons _ h => exact h
          | cons_cons _ h => exact absurd rfl hz
        have := ih1 h1' h2
        omega

theorem lcs_row (a b : List α) : ∃ c : List α, c.Sublist a ∧ c.Sublist b ∧ c.length = lcs a b := by
  induction a, b using lcs.induct with
  | case1 b => exact ⟨[], List.nil_sublist _, List.nil_sublist _, by rw [lcs_nil_left]; rfl⟩
  | case2 x a => exact ⟨[], List.nil_sublist _, List.nil_sublist _, by rw [lcs_nil_right]; rfl⟩
  | case3 a x b ih =>
    obtain ⟨c, h1, h2, h3⟩ := ih
    exact ⟨x :: c, h1.cons_cons x, h2.cons_cons x, by rw [lcs_cons_same]; simp [h3]⟩
  | case4 x a y b hne ih1 ih2 =>
    rw [lcs_cons_ne hne]
    obtain ⟨c, h1, h2, h3⟩ := ih1
    obtain ⟨d, g1, g2, g3⟩ := ih2
    by_cases hm : lcs a (y :: b) ≤ lcs (x :: a) b
    · exact ⟨d, g1, g2.cons y, by omega⟩
    · exact ⟨c, h1.cons x, h2, by omega⟩

theorem lcs_comm (a b : List α) : lcs a b = lcs b a := by
  obtain ⟨c, h1, h2, h3⟩ := lcs_row a b
  obtain ⟨d, g1, g2, g3⟩ := lcs_row b a
  have := lcs_ge h2 h1
  have := lcs_ge g2 g1
  omega
theorem lcs_le_left (a b : List α) : lcs a b ≤ a.length := by
  obtain ⟨c, h1, _, h3⟩ := lcs_row a b
  have := h1.length_le; omega
theorem lcs_le_right (a b : List α) : lcs a b ≤ b.length := by
  obtain ⟨c, _, h2, h3⟩ := lcs_row a b
  have := h2.length_le; omega
theorem lcs_of_sublist {a s : List α} (h : s.Sublist a) : lcs a s = s.length := by
  have h1 := lcs_ge h (List.Sublist.refl s)
  have := lcs_le_right a s
  omega
theorem lcs_mono_left {a s : List α} (h : s.Sublist a) (b : List α) : lcs s b ≤ lcs a b := by
  obtain ⟨c, h1, h2, h3⟩ := lcs_row s b
  have := lcs_ge (h1.trans h) h2
  omega
theorem lcs_mono_right {b s : List α} (h : s.Sublist b) (a : List α) : lcs a s ≤ lcs a b := by
  rw [lcs_comm a s, lcs_comm a b]; exact lcs_mono_left h a
theorem lcs_cons_left_le (x : α) (a b : List α) : lcs (x :: a) b ≤ lcs a b + 1 := by
  obtain ⟨c, h1, h2, h3⟩ := lcs_row (x :: a) b
  cases c with
  | nil => simp at h3; omega
  | cons z c =>
    have h1' : c.Sublist a := h1.tail
    have := lcs_ge (c := c) h1' ((List.sublist_cons_self z c).trans h2)
    simp at h3; omega
theorem lcs_cons_right_le (a : List α) (y : α) (b : List α) : lcs a (y :: b) ≤ lcs a b + 1 := by
  rw [lcs_comm a (y :: b), lcs_comm a b]; exact lcs_cons_left_le y b a
theorem lcs_append_left (c a b : List α) : lcs (c ++ a) (c ++ b) = lcs a b + c.length := by
  induction c with
  | nil => simp
  | cons x c ih => simp only [List.cons_append, lcs_cons_same, ih, List.length_cons]; omega
theorem lcs_reverse_le (a b : List α) : lcs a b ≤ lcs a.reverse b.reverse := by
  obtain ⟨c, h1, h2, h3⟩ := lcs_row a b
  have := lcs_ge (List.reverse_sublist.mpr h1) (List.reverse_sublist.mpr h2)
  simp at this; omega
theorem lcs_reverse (a b : List α) : lcs a.reverse b.reverse = lcs a b := by
  have h1 := lcs_reverse_le a b
  have h2 := lcs_reverse_le a.reverse b.reverse
  simp only [List.reverse_reverse] at h2; omega
theorem lcs_append_right (a b c : List α) : lcs (a ++ c) (b ++ c) = lcs a b + c.length := by
  rw [← lcs_reverse]; simp only [List.reverse_append]; rw [lcs_append_left, lcs_reverse]; simp

theorem lcs_self (a : List α) : lcs a a = a.length := lcs_of_sublist (List.Sublist.refl a)
theorem lcs_zero {a b : List α} (h : lcs a b = 0) : ∀ x, x ∈ a → x ∉ b := by
  intro x h1 h2
  have := lcs_ge (List.singleton_sublist.mpr h1) (List.singleton_sublist.mpr h2)
  simp at this; omega
end
end Go.Proofs.Ytfoponahdidddaa.P
