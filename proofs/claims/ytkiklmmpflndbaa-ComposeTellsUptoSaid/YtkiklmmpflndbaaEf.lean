/- Own: what stands ahead of skips at the end; the example. -/
import Derived.Test.YtkiklmmpflndbaaEc
namespace Go.Proofs.Ytkiklmmpflndbaa.P
open Go.RowKit Go.Proofs.YtkiklmmpflndbaaW.PrintWords Go.Proofs.YtkiklmmpflndbaaW.PrintLast Go.Proofs.YtkiklmmpflndbaaW.PrintMore
set_option linter.unusedSimpArgs false
set_option linter.unusedVariables false

/-- Without skips at the end. -/
def restN (l : List Op) : Nat → Nat
  | 0 => 0
  | n + 1 => if (l.getD n ⟨0, 0, ⟨#[]⟩⟩).f0 = 1 then restN l n else n + 1
def restL (l : List Op) : List Op := l.take (restN l l.length)
theorem restN_le (l : List Op) : ∀ n, restN l n ≤ n
  | 0 => Nat.le_refl _
  | n + 1 => by
    rw [restN]
    have := restN_le l n
    split <;> omega
theorem rd_getD (l : List Op) (n : Nat) (h : n < l.length) : rd_Op l (n : Int) = l.getD n ⟨0, 0, ⟨#[]⟩⟩ := by
  rw [rdOp_get h, List.getD_eq_getElem?_getD, List.getElem?_eq_getElem h]; rfl
theorem prest_loop (l : List Op) (hl : l.length < 4398046511104) : ∀ n, n ≤ l.length → Ev (fun k => compose_Rest.l0 k l (n : Int)) (l.take (restN l n))
  | 0, h => by
    refine Ev.step (fun k => rfl) ?_
    have c0 : ¬ ((0 : Nat) : Int) > 0 := by omega
    have c1 : (0 : Int) ≤ ((0 : Nat) : Int) := by omega
    have c2 : ((0 : Nat) : Int) ≤ (l.length : Int) := by omega
    have c3 : ([] : List Op).length + (l.take ((0 : Nat) : Int).toNat).length < 4398046511104 := by simp
    simp only [compose_Rest.l0, if_neg c0, if_pos c1, if_pos c2, Option.bind_some, if_pos c3]
    exact Ev.now _
  | n + 1, h => by
    have i := prest_loop l hl n (by omega)
    have w : wrap64 (((n + 1 : Nat) : Int) - 1) = (n : Int) := by unfold wrap64; omega
    have c0 : ((n + 1 : Nat) : Int) > 0 := by omega
    have c1 : (0 : Int) ≤ (n : Int) := by omega
    have c2 : (n : Int) < (l.length : Int) := by omega
    have c3 : (0 : Int) ≤ ((n + 1 : Nat) : Int) := by omega
    have c4 : ((n + 1 : Nat) : Int) ≤ (l.length : Int) := by omega
    have c5 : ([] : List Op).length + (l.take ((n + 1 : Nat) : Int).toNat).length < 4398046511104 := by rw [List.length_take]; simp only [List.length_nil]; omega
    refine Ev.step (fun k => rfl) ?_
    simp only [compose_Rest.l0, w, if_pos c0, if_pos c1, if_pos c2, if_pos c3, if_pos c4, rd_getD l n (by omega), Option.bind_some, if_pos c5]
    rw [restN]
    by_cases hk : (l.getD n ⟨0, 0, ⟨#[]⟩⟩).f0 = 1
    · simp only [if_pos hk]; exact i
    · simp only [if_neg hk]; exact Ev.now _
theorem refrest_loop (l : List Op) (hl : l.length < 4398046511104) : ∀ n, n ≤ l.length → Ev (fun k => patchworkref8_Rest.l0 k l (n : Int)) (l.take (restN l n))
  | 0, h => by
    refine Ev.step (fun k => rfl) ?_
    have c0 : ¬ ((0 : Nat) : Int) > 0 := by omega
    have c1 : (0 : Int) ≤ ((0 : Nat) : Int) := by omega
    have c2 : ((0 : Nat) : Int) ≤ (l.length : Int) := by omega
    have c3 : ([] : List Op).length + (l.take ((0 : Nat) : Int).toNat).length < 4398046511104 := by simp
    simp only [patchworkref8_Rest.l0, if_neg c0, if_pos c1, if_pos c2, Option.bind_some, if_pos c3]
    exact Ev.now _
  | n + 1, h => by
    have i := refrest_loop l hl n (by omega)
    have w : wrap64 (((n + 1 : Nat) : Int) - 1) = (n : Int) := by unfold wrap64; omega
    have c0 : ((n + 1 : Nat) : Int) > 0 := by omega
    have c1 : (0 : Int) ≤ (n : Int) := by omega
    have c2 : (n : Int) < (l.length : Int) := by omega
    have c3 : (0 : Int) ≤ ((n + 1 : Nat) : Int) := by omega
    have c4 : ((n + 1 : Nat) : Int) ≤ (l.length : Int) := by omega
    have c5 : ([] : List Op).length + (l.take ((n + 1 : Nat) : Int).toNat).length < 4398046511104 := by rw [List.length_take]; simp only [List.length_nil]; omega
    refine Ev.step (fun k => rfl) ?_
    simp only [patchworkref8_Rest.l0, w, if_pos c0, if_pos c1, if_pos c2, if_pos c3, if_pos c4, rd_getD l n (by omega), Option.bind_some, if_pos c5]
    rw [restN]
    by_cases hk : (l.getD n ⟨0, 0, ⟨#[]⟩⟩).f0 = 1
    · simp only [if_pos hk]; exact i
    · simp only [if_neg hk]; exact Ev.now _
theorem prest_ev {l : List Op} (h : Sm l) : Ev (fun k => compose_Rest.f k l) (restL l) := prest_loop l h.1 _ (Nat.le_refl _)
theorem refrest_ev {l : List Op} (h : Sm l) : Ev (fun k => patchworkref8_Rest.f k l) (restL l) := refrest_loop l h.1 _ (Nat.le_refl _)
theorem alive11 : Ev (fun k => patchworklaw11_alive.f k) true := by
  have s0 : Sx [] := ⟨by simp, by simp⟩
  have s1 : Sx [(⟨4, 0, ⟨#[97, 10]⟩⟩ : Op)] := ⟨by simp, fun o ho => by rw [List.mem_singleton.mp ho]; exact (by decide : (2 : Nat) < 1073741824)⟩
  have s2 : Sx [(⟨3, 0, ⟨#[97, 10]⟩⟩ : Op)] := ⟨by simp, fun o ho => by rw [List.mem_singleton.mp ho]; exact (by decide : (2 : Nat) < 1073741824)⟩
  have s3 : Sm [(⟨1, 2, ⟨#[]⟩⟩ : Op)] := ⟨by simp, fun o ho => by rw [List.mem_singleton.mp ho]; exact (by decide : (0 : Nat) < 4611686018427387904)⟩
  have e0 : thenL [] [] = ([], true) := rfl
  have r1 : rightL [(⟨4, 0, ⟨#[97, 10]⟩⟩ : Op)] = true := by decide +kernel
  have r2 : rightL [(⟨3, 0, ⟨#[97, 10]⟩⟩ : Op)] = true := by decide +kernel
  have e1 : thenL [(⟨4, 0, ⟨#[97, 10]⟩⟩ : Op)] [(⟨3, 0, ⟨#[97, 10]⟩⟩ : Op)] = ([], true) := by
    have := thenL_of (u := []) r1 r2 (by
      show cmpU [.ins ⟨#[97, 10]⟩] false [.del ⟨#[97, 10]⟩] = some []
      simp [cmpU, cmpT, inner, midT, endQ, un]) rfl
    exact this
  have e2 : restL [(⟨1, 2, ⟨#[]⟩⟩ : Op)] = [] := rfl
  have a0 := pthen_ev s0 s0
  have a1 := pthen_ev s1 s2
  have a2 := prest_ev s3
  rw [e0] at a0
  rw [e1] at a1
  rw [e2] at a2
  unfold patchworklaw11_alive.f
  refine Ev.bind' a0 ?_
  refine Ev.bind' a1 ?_
  have c : (([] : List Op).length : Int) = 0 := rfl
  simp only [if_pos c, if_true]
  refine Ev.bind' a2 ?_
  exact Ev.now _
end Go.Proofs.Ytkiklmmpflndbaa.P
