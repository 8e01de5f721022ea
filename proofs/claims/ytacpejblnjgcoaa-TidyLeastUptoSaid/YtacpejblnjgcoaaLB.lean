/- Own: what the sides of diffOps are, and what it is where all, or nothing, is common. -/
import Derived.Test.YtacpejblnjgcoaaLt
namespace Go.Proofs.Ytacpejblnjgcoaa.P
open Go.RowKit Go.Proofs.YtacpejblnjgcoaaW.PrintWords Go.Proofs.YtacpejblnjgcoaaW.PrintLast Go.Proofs.YtacpejblnjgcoaaW.PrintMore

/-- The lines that must stand there, that come to stand there, and how many stay. -/
def oldT (l : List Op) : List ByteArray := (l.filter fun o => o.f0 != 4).map (·.f2)
def newT (l : List Op) : List ByteArray := (l.filter fun o => o.f0 != 3).map (·.f2)
def keptN (l : List Op) : Nat := (l.filter fun o => o.f0 == 2).length
theorem diffOps_sides : ∀ (n : Nat) (a b : List ByteArray), a.length + b.length ≤ n → oldT (diffOps a b) = a ∧ newT (diffOps a b) = b ∧ keptN (diffOps a b) = lcs a b := by
  intro n
  induction n with
  | zero =>
    intro a b h
    obtain rfl : a = [] := List.length_eq_zero_iff.mp (by omega)
    obtain rfl : b = [] := List.length_eq_zero_iff.mp (by omega)
    simp [diffOps, oldT, newT, keptN, lcs]
  | succ n ih =>
    intro a b h
    match a, b with
    | [], b =>
      rw [diffOps_nil_left, lcs_nil_left]
      refine ⟨?_, ?_, ?_⟩
      · simp [oldT, List.filter_map, Function.comp_def]
      · simp [newT, List.filter_map, Function.comp_def]
      · simp [keptN, List.filter_map, Function.comp_def]
    | x :: a, [] =>
      rw [diffOps_nil_right, lcs_nil_right]
      refine ⟨?_, ?_, ?_⟩
      · simp [oldT, List.filter_map, Function.comp_def]
      · simp [newT, List.filter_map, Function.comp_def]
      · simp [keptN, List.filter_map, Function.comp_def]
    | x :: a, y :: b =>
      simp only [List.length_cons] at h
      by_cases e : x = y
      · subst e
        obtain ⟨i1, i2, i3⟩ := ih a b (by omega)
        rw [diffOps_same, lcs_cons_same, ← i3]
        refine ⟨?_, ?_, ?_⟩
        · conv => rhs; rw [← i1]
          simp [oldT]
        · conv => rhs; rw [← i2]
          simp [newT]
        · simp [keptN]
      · by_cases hge : lcs (x :: a) b ≤ lcs a (y :: b)
        · obtain ⟨i1, i2, i3⟩ := ih a (y :: b) (by simp; omega)
          rw [diffOps_del e hge, lcs_cons_ne e, Nat.max_eq_left hge, ← i3]
          refine ⟨?_, ?_, ?_⟩
          · conv => rhs; rw [← i1]
            simp [oldT]
          · conv => rhs; rw [← i2]
            simp [newT]
          · simp [keptN]
        · obtain ⟨i1, i2, i3⟩ := ih (x :: a) b (by simp; omega)
          rw [diffOps_ins e hge, lcs_cons_ne e, Nat.max_eq_right (by omega), ← i3]
          refine ⟨?_, ?_, ?_⟩
          · conv => rhs; rw [← i1]
            simp [oldT]
          · conv => rhs; rw [← i2]
            simp [newT]
          · simp [keptN]
theorem diffOps_old (a b : List ByteArray) : oldT (diffOps a b) = a := (diffOps_sides _ a b (Nat.le_refl _)).1
theorem diffOps_new (a b : List ByteArray) : newT (diffOps a b) = b := (diffOps_sides _ a b (Nat.le_refl _)).2.1
theorem diffOps_kept (a b : List ByteArray) : keptN (diffOps a b) = lcs a b := (diffOps_sides _ a b (Nat.le_refl _)).2.2
theorem diffOps_kinds : ∀ (n : Nat) (a b : List ByteArray), a.length + b.length ≤ n → ∀ o ∈ diffOps a b, o.f0 = 2 ∨ o.f0 = 3 ∨ o.f0 = 4 := by
  intro n
  induction n with
  | zero =>
    intro a b h
    obtain rfl : a = [] := List.length_eq_zero_iff.mp (by omega)
    obtain rfl : b = [] := List.length_eq_zero_iff.mp (by omega)
    simp [diffOps]
  | succ n ih =>
    intro a b h
    match a, b with
    | [], b => rw [diffOps_nil_left]; simp
    | x :: a, [] => rw [diffOps_nil_right]; simp
    | x :: a, y :: b =>
      simp only [List.length_cons] at h
      by_cases e : x = y
      · subst e
        rw [diffOps_same]
        intro o ho
        rcases List.mem_cons.mp ho with rfl | ho
        · exact .inl rfl
        · exact ih a b (by omega) o ho
      · by_cases hge : lcs (x :: a) b ≤ lcs a (y :: b)
        · rw [diffOps_del e hge]
          intro o ho
          rcases List.mem_cons.mp ho with rfl | ho
          · exact .inr (.inl rfl)
          · exact ih a (y :: b) (by simp; omega) o ho
        · rw [diffOps_ins e hge]
          intro o ho
          rcases List.mem_cons.mp ho with rfl | ho
          · exact .inr (.inr rfl)
          · exact ih (x :: a) b (by simp; omega) o ho
theorem diffOps_self (a : List ByteArray) : diffOps a a = a.map fun t => ⟨2, 0, t⟩ := by
  induction a with
  | nil => simp [diffOps]
  | cons x a ih => rw [diffOps_same, ih]; rfl
theorem diffOps_none : ∀ (a b : List ByteArray), lcs a b = 0 → diffOps a b = (a.map fun t => (⟨3, 0, t⟩ : Op)) ++ b.map fun t => ⟨4, 0, t⟩ := by
  intro a
  induction a with
  | nil => intro b _; rw [diffOps_nil_left]; rfl
  | cons x a ih =>
    intro b h
    match b with
    | [] => rw [diffOps_nil_right]; simp
    | y :: b =>
      have e : x ≠ y := by rintro rfl; rw [lcs_cons_same] at h; omega
      have h2 := h
      rw [lcs_cons_ne e] at h2
      rw [diffOps_del e (by omega), ih (y :: b) (by omega)]
      rfl
end Go.Proofs.Ytacpejblnjgcoaa.P
