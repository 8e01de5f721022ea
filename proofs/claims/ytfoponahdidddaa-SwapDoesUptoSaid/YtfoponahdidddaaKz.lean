/- Own: what a line of the middle leaves. -/
import Derived.Test.YtfoponahdidddaaKo
namespace Go.Proofs.Ytfoponahdidddaa.P
open Go.RowKit Go.Proofs.YtfoponahdidddaaW.PrintWords Go.Proofs.YtfoponahdidddaaW.PrintLast Go.Proofs.YtfoponahdidddaaW.PrintMore
set_option linter.unusedVariables false

theorem okW_text {l : List Op} (h : ∀ o ∈ l, okW1 o = true) : (nextL l 2147483648).f2.size < 1073741824 := by
  cases l with
  | nil => exact (by decide : (0 : Nat) < 1073741824)
  | cons o r =>
    have := h o (List.mem_cons_self ..)
    unfold okW1 at this
    simp only [Bool.and_eq_true, decide_eq_true_eq] at this
    exact this.2
theorem okW_skip {o : Op} (h : okW1 o = true) (hk : o.f0 = 1) : 1 ≤ o.f1 ∧ o.f1 ≤ 2147483648 := by
  unfold okW1 at h
  simp [hk] at h
  exact h.1
theorem okW_left {l : List Op} (h : ∀ o ∈ l, okW1 o = true) {n : Int} (hn : 1 ≤ n) : ∀ o ∈ dropL l n, okW1 o = true := by
  cases l with
  | nil => exact h
  | cons o r =>
    rw [dropL]
    split
    · rename_i c
      intro x hx
      rcases List.mem_cons.mp hx with rfl | hx
      · have h0 := h o (List.mem_cons_self ..)
        obtain ⟨h1, h2⟩ := okW_skip h0 c.1
        have e : wrap64 (o.f1 - n) = o.f1 - n := by unfold wrap64; omega
        unfold okW1 at h0 ⊢
        simp only [Bool.and_eq_true, decide_eq_true_eq] at h0
        have a1 : 1 ≤ o.f1 - n := by omega
        have a2 : o.f1 - n ≤ 2147483648 := by omega
        simp [e, a1, a2, h0.2]
      · exact h x (List.mem_cons_of_mem _ hx)
    · exact fun x hx => h x (List.mem_cons_of_mem _ hx)
theorem left_len (l : List Op) (n : Int) : (dropL l n).length ≤ l.length := by
  cases l with
  | nil => exact Nat.le_refl _
  | cons o r => rw [dropL]; split <;> simp
/-- A line of the middle leaves less. -/
theorem left_both {ps qs : List Op} (hp : ∀ o ∈ ps, okW1 o = true) (hq : ∀ o ∈ qs, okW1 o = true) (hne : ps.length + qs.length ≠ 0) :
    1 ≤ (lineL (nextL ps 2147483648) (nextL qs 2147483648)).2.1 ∧ (dropL ps (lineL (nextL ps 2147483648) (nextL qs 2147483648)).2.1).length + (dropL qs (lineL (nextL ps 2147483648) (nextL qs 2147483648)).2.1).length < ps.length + qs.length ∧ True := by
  have a := left_len ps
  have b := left_len qs
  have nf : ∀ l : List Op, (∀ o ∈ l, okW1 o = true) → (nextL l 2147483648).f0 = 1 → 1 ≤ (nextL l 2147483648).f1 ∧ (nextL l 2147483648).f1 ≤ 2147483648 := by
    intro l hl hk
    cases l with
    | nil => exact ⟨by show (1 : Int) ≤ 2147483648; omega, by show (2147483648 : Int) ≤ 2147483648; omega⟩
    | cons o r => exact okW_skip (hl o (List.mem_cons_self ..)) hk
  have fl : ∀ (l : List Op) (n : Int), l ≠ [] → ¬ ((nextL l 2147483648).f0 = 1 ∧ (nextL l 2147483648).f1 > n) → (dropL l n).length < l.length := by
    intro l n hl hc
    cases l with
    | nil => exact absurd rfl hl
    | cons o r =>
      have hc : ¬ (o.f0 = 1 ∧ o.f1 > n) := hc
      rw [dropL, if_neg hc]; simp
  have en : ∀ l : List Op, l = [] → (nextL l 2147483648).f0 = 1 ∧ (nextL l 2147483648).f1 = 2147483648 := by rintro l rfl; exact ⟨rfl, rfl⟩
  have fp := fl ps
  have fq := fl qs
  have np := nf ps hp
  have nq := nf qs hq
  have ep := en ps
  have eq := en qs
  clear fl nf en hp hq
  generalize nextL ps 2147483648 = x at *
  generalize nextL qs 2147483648 = y at *
  have key : 1 ≤ (lineL x y).2.1 ∧ (dropL ps (lineL x y).2.1).length + (dropL qs (lineL x y).2.1).length < ps.length + qs.length := by
    by_cases kx : x.f0 = 1
    · obtain ⟨x1, x2⟩ := np kx
      by_cases ky : y.f0 = 1
      · obtain ⟨y1, y2⟩ := nq ky
        have e : (lineL x y).2.1 = min x.f1 y.f1 := by simp [lineL, kx, ky]
        rw [e]
        refine ⟨by omega, ?_⟩
        have ap := a (min x.f1 y.f1)
        have bq := b (min x.f1 y.f1)
        by_cases e1 : ps = []
        · have e2 : qs ≠ [] := fun h => hne (by simp [e1, h])
          have := fq (min x.f1 y.f1) e2 (fun h => by have := (ep e1).2; omega)
          omega
        · by_cases e2 : qs = []
          · have := fp (min x.f1 y.f1) e1 (fun h => by have := (eq e2).2; omega)
            omega
          · by_cases hm : x.f1 ≤ y.f1
            · have := fp (min x.f1 y.f1) e1 (fun h => by omega)
              omega
            · have := fq (min x.f1 y.f1) e2 (fun h => by omega)
              omega
      · have e : (lineL x y).2.1 = 1 := by simp [lineL, kx, ky]
        rw [e]
        have e2 : qs ≠ [] := fun h => ky (eq h).1
        have := fq 1 e2 (fun h => ky h.1)
        have := a 1
        exact ⟨by omega, by omega⟩
    · have e : (lineL x y).2.1 = 1 := by
        by_cases ky : y.f0 = 1 <;> simp [lineL, kx, ky]
      rw [e]
      have e1 : ps ≠ [] := fun h => kx (ep h).1
      have := fp 1 e1 (fun h => kx h.1)
      have := b 1
      exact ⟨by omega, by omega⟩
  exact ⟨key.1, key.2, trivial⟩
theorem okW_drop {ps qs : List Op} {op : Bool} {os : List Step} {n : Nat} {st : Step} (h : ps.length + qs.length ≤ n + 1 ∧ os.length + (n + 1) ≤ 1099511627776 ∧ (∀ o ∈ ps, okW1 o = true) ∧ ∀ o ∈ qs, okW1 o = true) (hne : ps.length + qs.length ≠ 0) (hno : noneL (nextL ps 2147483648) (nextL qs 2147483648) op = false) :
    (dropL ps (lineL (nextL ps 2147483648) (nextL qs 2147483648)).2.1).length + (dropL qs (lineL (nextL ps 2147483648) (nextL qs 2147483648)).2.1).length ≤ n ∧ (os ++ [st]).length + n ≤ 1099511627776 ∧ (∀ o ∈ dropL ps (lineL (nextL ps 2147483648) (nextL qs 2147483648)).2.1, okW1 o = true) ∧ ∀ o ∈ dropL qs (lineL (nextL ps 2147483648) (nextL qs 2147483648)).2.1, okW1 o = true := by
  obtain ⟨h1, h2, hp, hq⟩ := h
  obtain ⟨k1, k2, _⟩ := left_both hp hq hne
  exact ⟨by omega, by simp only [List.length_append, List.length_singleton]; omega, okW_left hp k1, okW_left hq k1⟩
end Go.Proofs.Ytfoponahdidddaa.P
