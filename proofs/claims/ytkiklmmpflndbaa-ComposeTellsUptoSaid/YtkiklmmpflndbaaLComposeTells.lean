/- Own: ComposeTells holds. -/
import Derived.Test.YtkiklmmpflndbaaEc
import Derived.Test.YtkiklmmpflndbaaEf
import Derived.Test.YtkiklmmpflndbaaSComposeTells
namespace Go.Proofs.Ytkiklmmpflndbaa.P
open Go.RowKit Go.Proofs.YtkiklmmpflndbaaW.PrintWords Go.Proofs.YtkiklmmpflndbaaW.PrintLast Go.Proofs.YtkiklmmpflndbaaW.PrintMore

theorem ComposeTells.out (a b : List Op) : Ev (fun k => patchworklaw11_ComposeTells.j0 k a b true true) true := by
  refine Ev.step (fun k => rfl) ?_
  simp only [patchworklaw11_ComposeTells.j0, if_true]
  exact Ev.now true
theorem ComposeTells.proved : ComposeTells.Pure := by
  intro p q _ _ hw
  simp only at hw
  have fp := fewN_le p
  have fq := fewN_le q
  refine Ev.rounds ?_
  simp only [patchworklaw11_ComposeTells.f]
  refine Ev.bind' alive11 ?_
  simp only [if_true]
  refine Ev.bind' (few_ev (by omega)) ?_
  by_cases h : fewN p ≤ 600
  · simp only [h, decide_true, if_true]
    refine Ev.bind' (few_ev (by omega)) ?_
    by_cases h2 : fewN q ≤ 600
    · simp only [h2, decide_true, Bool.not_true]
      have hp := Sx.of_few h
      have hq := Sx.of_few h2
      have lp := fewN_len p
      have lq := fewN_len q
      have c1 : ([] : List Op).length + p.length < 4398046511104 := by simp only [List.length_nil]; omega
      have c2 : ([] : List Op).length + q.length < 4398046511104 := by simp only [List.length_nil]; omega
      refine Ev.step (fun k => rfl) ?_
      simp only [patchworklaw11_ComposeTells.j0, Bool.false_eq_true, if_false, if_pos c1, if_pos c2, List.nil_append]
      refine Ev.bind' (pthen_ev hp hq) ?_
      refine Ev.bind' (refthen_ev hp hq) ?_
      refine Ev.bind' (same_ev _ _ (by have := (thenL_len hp hq).1; omega)) ?_
      simp only [decide_true, if_true, beq_self_eq_true]
      refine Ev.bind' (prest_ev hp.sm) ?_
      refine Ev.bind' (refrest_ev hp.sm) ?_
      refine Ev.bind' (same_ev _ _ (by have : (restL p).length ≤ p.length := by unfold restL; rw [List.length_take]; omega
                                       omega)) ?_
      simp only [decide_true]
      exact Ev.now true
    · simp only [h2, decide_false, Bool.not_false]
      exact ComposeTells.out p q
  · simp only [h, decide_false, Bool.false_eq_true, if_false]
    exact ComposeTells.out p q
end Go.Proofs.Ytkiklmmpflndbaa.P
