/- Own: OpsTell holds. -/
import Derived.Test.YtkalkickknjdhaaOa
import Derived.Test.YtkalkickknjdhaaQb
import Derived.Test.YtkalkickknjdhaaSOpsTell
namespace Go.Proofs.Ytkalkickknjdhaa.P
open Go.RowKit Go.Proofs.YtkalkickknjdhaaW.PrintWords Go.Proofs.YtkalkickknjdhaaW.PrintLast Go.Proofs.YtkalkickknjdhaaW.PrintMore
set_option linter.unusedVariables false
set_option linter.unusedSimpArgs false

theorem OpsTell.out (a b : List Op) : Ev (fun k => patchworklaw8_OpsTell.j0 k a b true true) true := by
  refine Ev.step (fun k => rfl) ?_
  simp only [patchworklaw8_OpsTell.j0, if_true]
  exact Ev.now true
theorem OpsTell.proved : OpsTell.Pure := by
  intro l m _ _ hw
  simp only at hw
  have hs : Sm l := Sm.of_wt (by omega)
  have hm : Sm m := Sm.of_wt (by omega)
  have hf := fewN_le l
  have hfm := fewN_le m
  have hl := hs.1
  refine Ev.rounds ?_
  simp only [patchworklaw8_OpsTell.f]
  refine Ev.bind' alive8 ?_
  simp only [if_true]
  refine Ev.bind' (few_ev (by omega)) ?_
  by_cases h : fewN l ≤ 600
  · simp only [h, decide_true, if_true]
    refine Ev.bind' (few_ev (by omega)) ?_
    by_cases h2 : fewN m ≤ 600
    · simp only [h2, decide_true, Bool.not_true]
      have c1 : ([] : List Op).length + l.length < 4398046511104 := by simp; omega
      have en := norm_ev hs
      have rn := refNorm_ev hs
      have hn : Sm (if rightL l then normL l else []) := by
        split
        · rename_i hr; exact hs.norm (rightL_form hr)
        · exact .nil
      refine Ev.step (fun k => rfl) ?_
      simp only [patchworklaw8_OpsTell.j0, Bool.false_eq_true, if_false]
      refine Ev.bind' (right_ev hs) ?_
      refine Ev.bind' (refright_ev hs) ?_
      simp only [beq_self_eq_true, if_true]
      refine Ev.bind' (olds_ev hs) ?_
      refine Ev.bind' (refolds_ev hs) ?_
      simp only [if_true]
      refine Ev.bind' (news_ev hs) ?_
      refine Ev.bind' (refnews_ev hs) ?_
      simp only [if_true]
      refine Ev.bind' (pchanges_ev hs) ?_
      refine Ev.bind' (changes_ev hs) ?_
      simp only [if_true]
      refine Ev.bind' (psame_ev l m (by omega)) ?_
      refine Ev.bind' (same_ev l m (by omega)) ?_
      simp only [beq_self_eq_true, if_true]
      refine Ev.bind' (psame_ev l l (by omega)) ?_
      simp only [decide_true, if_true, if_pos c1, List.nil_append]
      refine Ev.bind' en ?_
      refine Ev.bind' rn ?_
      refine Ev.bind' (psame_ev _ _ (by have := hn.1; omega)) ?_
      simp only [decide_true]
      exact Ev.now true
    · simp only [h2, decide_false, Bool.not_false]
      exact OpsTell.out l m
  · simp only [h, decide_false, Bool.false_eq_true, if_false]
    exact OpsTell.out l m
end Go.Proofs.Ytkalkickknjdhaa.P
