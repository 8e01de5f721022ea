/- Own: OpsLimits holds. -/
import Derived.Test.YtkalkickknjdhaaOa
import Derived.Test.YtkalkickknjdhaaSOpsLimits
namespace Go.Proofs.Ytkalkickknjdhaa.P
open Go.RowKit Go.Proofs.YtkalkickknjdhaaW.PrintWords Go.Proofs.YtkalkickknjdhaaW.PrintLast Go.Proofs.YtkalkickknjdhaaW.PrintMore
set_option linter.unusedVariables false
set_option linter.unusedSimpArgs false

theorem skip1_right (a : Int) : rightL [(⟨1, a, ⟨#[]⟩⟩ : Op)] = decide (1 ≤ a ∧ a ≤ 2147483648) := by
  have e : (⟨#[]⟩ : ByteArray).data.toList = [] := rfl
  by_cases h1 : 1 ≤ a
  · by_cases h2 : a ≤ 2147483648
    · have c : capd 3 [(⟨1, a, ⟨#[]⟩⟩ : Op)] ≤ 2147483648 := by unfold capd far sums; simp [cnt]; omega
      have d : capd 4 [(⟨1, a, ⟨#[]⟩⟩ : Op)] ≤ 2147483648 := by unfold capd far sums; simp [cnt]; omega
      unfold rightL
      simp [okOne, h1, h2, c, d, closedGo]
    · unfold rightL; simp [okOne, h2]
  · unfold rightL; simp [okOne, h1]
theorem skip2_right {a b : Int} (ha : 1 ≤ a) (ha2 : a ≤ 2147483648) (hb : 1 ≤ b) (hb2 : b ≤ 2147483648) : rightL [(⟨1, a, ⟨#[]⟩⟩ : Op), ⟨1, b, ⟨#[]⟩⟩] = decide (a + b ≤ 2147483648) ∧ capd 3 [(⟨1, a, ⟨#[]⟩⟩ : Op), ⟨1, b, ⟨#[]⟩⟩] = a + b ∧ capd 4 [(⟨1, a, ⟨#[]⟩⟩ : Op), ⟨1, b, ⟨#[]⟩⟩] = a + b := by
  have c : capd 3 [(⟨1, a, ⟨#[]⟩⟩ : Op), ⟨1, b, ⟨#[]⟩⟩] = a + b := by unfold capd far sums; simp [cnt]; omega
  have d : capd 4 [(⟨1, a, ⟨#[]⟩⟩ : Op), ⟨1, b, ⟨#[]⟩⟩] = a + b := by unfold capd far sums; simp [cnt]; omega
  refine ⟨?_, c, d⟩
  unfold rightL
  rw [c, d]
  by_cases h : a + b ≤ 2147483648 <;> simp [okOne, ha, ha2, hb, hb2, h, closedGo]
theorem Sm.skips1 (a : Int) : Sm [(⟨1, a, ⟨#[]⟩⟩ : Op)] := ⟨by simp, fun o ho => by rw [List.mem_singleton.mp ho]; show 0 < _; omega⟩
theorem Sm.skips2 (a b : Int) : Sm [(⟨1, a, ⟨#[]⟩⟩ : Op), ⟨1, b, ⟨#[]⟩⟩] := ⟨by simp, fun o ho => by
  rcases List.mem_cons.mp ho with rfl | ho
  · show 0 < _; omega
  · rw [List.mem_singleton.mp ho]; show 0 < _; omega⟩
theorem OpsLimits.proved : OpsLimits.Pure := by
  intro a b wa wb _
  have e1 := right_ev (Sm.skips1 a)
  rw [skip1_right] at e1
  have rest : Ev (fun k => patchworklaw8_OpsLimits.j0 k a b false) true := by
    have done : Ev (fun k => patchworklaw8_OpsLimits.j1 k a b true) true := by
      refine Ev.step (fun k => rfl) ?_
      simp only [patchworklaw8_OpsLimits.j1, if_true]
      exact Ev.now true
    refine Ev.step (fun k => rfl) ?_
    simp only [patchworklaw8_OpsLimits.j0, Bool.false_eq_true, if_false]
    by_cases c1 : a < 1
    · simp only [if_pos c1]; exact done
    by_cases c2 : a > 2147483648
    · simp only [if_neg c1, if_pos c2]; exact done
    by_cases c3 : b < 1
    · simp only [if_neg c1, if_neg c2, if_pos c3]; exact done
    by_cases c4 : b > 2147483648
    · simp only [if_neg c1, if_neg c2, if_neg c3, c4, decide_true]; exact done
    simp only [if_neg c1, if_neg c2, if_neg c3, c4, decide_false]
    obtain ⟨h1, h2, h3⟩ := skip2_right (a := a) (b := b) (by omega) (by omega) (by omega) (by omega)
    have w : wrap64 (a + b) = a + b := by unfold wrap64; omega
    have e2 := right_ev (Sm.skips2 a b)
    rw [h1] at e2
    have e3 := olds_ev (Sm.skips2 a b)
    rw [h2] at e3
    have e4 := news_ev (Sm.skips2 a b)
    rw [h3] at e4
    refine Ev.step (fun k => rfl) ?_
    simp only [patchworklaw8_OpsLimits.j1, Bool.false_eq_true, if_false, Option.bind_some, w]
    refine Ev.bind' e2 ?_
    simp only [beq_self_eq_true, if_true]
    refine Ev.bind' e3 ?_
    simp only [if_true]
    refine Ev.bind' e4 ?_
    simp only [beq_self_eq_true]
    exact Ev.now true
  refine Ev.rounds ?_
  simp only [patchworklaw8_OpsLimits.f]
  refine Ev.bind' alive8 ?_
  simp only [if_true]
  refine Ev.bind' e1 ?_
  by_cases h : a ≥ 1
  · have e : (decide (1 ≤ a ∧ a ≤ 2147483648) != decide (a ≤ 2147483648)) = false := by
      have : (1 ≤ a ∧ a ≤ 2147483648) ↔ a ≤ 2147483648 := by omega
      simp [this]
    simp only [if_pos h, e]
    exact rest
  · have e : (decide (1 ≤ a ∧ a ≤ 2147483648) != false) = false := by
      have : ¬ (1 ≤ a ∧ a ≤ 2147483648) := by omega
      simp [this]
    simp only [if_neg h, e]
    exact rest
end Go.Proofs.Ytkalkickknjdhaa.P
