/- Own: OpsEach holds. -/
import Derived.Test.YtkalkickknjdhaaOa
import Derived.Test.YtkalkickknjdhaaSOpsEach
namespace Go.Proofs.Ytkalkickknjdhaa.P
open Go.RowKit Go.Proofs.YtkalkickknjdhaaW.PrintWords Go.Proofs.YtkalkickknjdhaaW.PrintLast Go.Proofs.YtkalkickknjdhaaW.PrintMore
set_option linter.unusedVariables false
set_option linter.unusedSimpArgs false

theorem OpsEach.out (a : Int) (t : List (List Op)) (n : List Int) : Ev (fun k => patchworklaw8_OpsEach.j0 k a true t n true) true := by
  refine Ev.step (fun k => rfl) ?_
  simp only [patchworklaw8_OpsEach.j0, if_true]
  exact Ev.now true
theorem OpsEach.proved : OpsEach.Pure := by
  intro a _ _
  refine Ev.rounds ?_
  simp only [patchworklaw8_OpsEach.f, Option.bind_some]
  refine Ev.bind' alive8 ?_
  simp only [if_true]
  by_cases h0 : a < 0
  · simp only [if_pos h0]; exact OpsEach.out ..
  simp only [if_neg h0]
  by_cases h1 : a < 19
  · have hs : a = 0 ∨ a = 1 ∨ a = 2 ∨ a = 3 ∨ a = 4 ∨ a = 5 ∨ a = 6 ∨ a = 7 ∨ a = 8 ∨ a = 9 ∨ a = 10 ∨ a = 11 ∨ a = 12 ∨ a = 13 ∨ a = 14 ∨ a = 15 ∨ a = 16 ∨ a = 17 ∨ a = 18 := by omega
    rcases hs with h | h | h | h | h | h | h | h | h | h | h | h | h | h | h | h | h | h | h <;> subst h <;>
      exact Ev.of (k := 60) (fun k => patchworklaw8_OpsEach.mono_l k _ _ _ _ _) (by decide +kernel)
  · have hd : decide (a ≥ ((19 : Nat) : Int)) = true := decide_eq_true (by omega)
    show Ev (fun k => patchworklaw8_OpsEach.j0 k a true _ _ (decide (a ≥ ((19 : Nat) : Int)))) true
    rw [hd]
    exact OpsEach.out _ _ _
end Go.Proofs.Ytkalkickknjdhaa.P
