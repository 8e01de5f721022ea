/- Own: the example of the chapter on tidying. -/
import Derived.Test.YtacpejblnjgcoaaTz
namespace Go.Proofs.Ytacpejblnjgcoaa.P
open Go.RowKit Go.Proofs.YtacpejblnjgcoaaW.PrintWords Go.Proofs.YtacpejblnjgcoaaW.PrintLast Go.Proofs.YtacpejblnjgcoaaW.PrintMore
set_option linter.unusedVariables false
set_option linter.unusedSimpArgs false

theorem alive13 : Ev (fun k => patchworklaw13_alive.f k) true := by
  have s2 : Sm [(⟨3, 0, ⟨#[97, 10]⟩⟩ : Op), ⟨4, 0, ⟨#[97, 10]⟩⟩] := Sm.of_wt (by decide)
  have s1 : Sm [(⟨3, 0, ⟨#[97, 10]⟩⟩ : Op)] := Sm.of_wt (by decide)
  have r0 : rightL [] = true := by decide
  have r2 : rightL [(⟨3, 0, ⟨#[97, 10]⟩⟩ : Op), ⟨4, 0, ⟨#[97, 10]⟩⟩] = true := by decide
  have r1 : rightL [(⟨3, 0, ⟨#[97, 10]⟩⟩ : Op)] = true := by decide
  have x2 : ex [(⟨3, 0, ⟨#[97, 10]⟩⟩ : Op), ⟨4, 0, ⟨#[97, 10]⟩⟩] = [.del ⟨#[97, 10]⟩, .ins ⟨#[97, 10]⟩] := rfl
  have t2 : tidyL [(⟨3, 0, ⟨#[97, 10]⟩⟩ : Op), ⟨4, 0, ⟨#[97, 10]⟩⟩] = [⟨2, 0, ⟨#[97, 10]⟩⟩] := by
    unfold tidyL
    rw [x2, tdU, tdU, tdU, List.nil_append, dU_self]; rfl
  have i0 : idleL [] = true := by rw [idle_iff r0]; rfl
  have i2 : idleL [(⟨3, 0, ⟨#[97, 10]⟩⟩ : Op), ⟨4, 0, ⟨#[97, 10]⟩⟩] = true := by rw [idle_iff r2, x2]; rfl
  have i1 : idleL [(⟨3, 0, ⟨#[97, 10]⟩⟩ : Op)] = false := by rw [idle_iff r1]; rfl
  have e0 := pidle_ev Sm.nil (by simp)
  rw [i0] at e0
  have e2 := pidle_ev s2 (by simp)
  rw [i2] at e2
  have e3 := ptidy_ev s2 (by simp)
  rw [r2, if_pos rfl, t2] at e3
  have e1 := pidle_ev s1 (by simp)
  rw [i1] at e1
  simp only [patchworklaw13_alive.f, Option.bind_some]
  refine Ev.bind' e0 ?_
  simp only [if_true]
  refine Ev.bind' e2 ?_
  simp only [if_true]
  refine Ev.bind' e3 ?_
  have c1 : (([(⟨2, 0, ⟨#[97, 10]⟩⟩ : Op)] : List Op).length : Int) = 1 := rfl
  have c2 : (1 : Int) ≤ (([(⟨3, 0, ⟨#[97, 10]⟩⟩ : Op), ⟨4, 0, ⟨#[97, 10]⟩⟩] : List Op).length : Int) := by simp
  simp only [if_pos c1, if_pos c2, List.take_succ_cons, List.take_zero]
  exact Ev.bind' e1 (Ev.now _)
end Go.Proofs.Ytacpejblnjgcoaa.P
