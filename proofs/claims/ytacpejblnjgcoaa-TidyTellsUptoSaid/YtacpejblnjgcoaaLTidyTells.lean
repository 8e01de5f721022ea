/- Own: TidyTells holds. -/
import Derived.Test.YtacpejblnjgcoaaTw
import Derived.Test.YtacpejblnjgcoaaQb
import Derived.Test.YtacpejblnjgcoaaSTidyTells
namespace Go.Proofs.Ytacpejblnjgcoaa.P
open Go.RowKit Go.Proofs.YtacpejblnjgcoaaW.PrintWords Go.Proofs.YtacpejblnjgcoaaW.PrintLast Go.Proofs.YtacpejblnjgcoaaW.PrintMore
set_option linter.unusedVariables false
set_option linter.unusedSimpArgs false

theorem TidyTells.out (a : List Op) : Ev (fun k => patchworklaw13_TidyTells.j0 k a true true) true := by
  refine Ev.step (fun k => rfl) ?_
  simp only [patchworklaw13_TidyTells.j0, if_true]
  exact Ev.now true
theorem TidyTells.proved : TidyTells.Pure := by
  intro l _ hw
  simp only at hw
  have hs : Sm l := Sm.of_wt (by omega)
  have hf := fewN_le l
  have hfl := fewN_len l
  refine Ev.rounds ?_
  simp only [patchworklaw13_TidyTells.f]
  refine Ev.bind' alive13 ?_
  simp only [if_true]
  refine Ev.bind' (few_ev (by omega)) ?_
  by_cases h : fewN l ≤ 600
  · simp only [h, decide_true, Bool.not_true]
    have c1 : ([] : List Op).length + l.length < 4398046511104 := by simp; omega
    refine Ev.step (fun k => rfl) ?_
    simp only [patchworklaw13_TidyTells.j0, Bool.false_eq_true, if_false, if_pos c1, List.nil_append]
    refine Ev.bind' (ptidy_ev hs (by omega)) ?_
    refine Ev.bind' (reftidy_ev hs (by omega)) ?_
    refine Ev.bind' (same_ev _ _ (by have := (hs.tidied (by omega)).1; omega)) ?_
    simp only [decide_true, if_true]
    refine Ev.bind' (pidle_ev hs (by omega)) ?_
    refine Ev.bind' (refidle_ev hs (by omega)) ?_
    simp only [beq_self_eq_true]
    exact Ev.now true
  · simp only [h, decide_false, Bool.not_false]
    exact TidyTells.out l
end Go.Proofs.Ytacpejblnjgcoaa.P
