/- Own: OpsParts holds. -/
import Derived.Test.YtkalkickknjdhaaOa
import Derived.Test.YtkalkickknjdhaaSOpsParts
namespace Go.Proofs.Ytkalkickknjdhaa.P
open Go.RowKit Go.Proofs.YtkalkickknjdhaaW.PrintWords Go.Proofs.YtkalkickknjdhaaW.PrintLast Go.Proofs.YtkalkickknjdhaaW.PrintMore
set_option linter.unusedVariables false
set_option linter.unusedSimpArgs false

theorem OpsParts.out (a b : List Op) : Ev (fun k => patchworklaw8_OpsParts.j0 k a b true true) true := by
  refine Ev.step (fun k => rfl) ?_
  simp only [patchworklaw8_OpsParts.j0, if_true]
  exact Ev.now true
theorem OpsParts.proved : OpsParts.Pure := by
  intro l m _ _ hw
  simp only at hw
  have hs : Sm l := Sm.of_wt (by omega)
  have hm : Sm m := Sm.of_wt (by omega)
  have hlm : Sm (l ++ m) := Sm.of_wt (by rw [List.map_append, List.sum_append]; omega)
  have hf := fewN_le l
  have hfm := fewN_le m
  refine Ev.rounds ?_
  simp only [patchworklaw8_OpsParts.f]
  refine Ev.bind' alive8 ?_
  simp only [if_true]
  refine Ev.bind' (few_ev (by omega)) ?_
  by_cases h : fewN l ≤ 600
  · simp only [h, decide_true, if_true]
    refine Ev.bind' (few_ev (by omega)) ?_
    by_cases h2 : fewN m ≤ 600
    · simp only [h2, decide_true, if_true]
      refine Ev.bind' (refright_ev hs) ?_
      cases hr : rightL l
      · simp only [Bool.false_eq_true, if_false]; exact OpsParts.out l m
      simp only [if_true]
      refine Ev.bind' (refright_ev hm) ?_
      cases hr2 : rightL m
      · simp only [Bool.not_false]; exact OpsParts.out l m
      simp only [Bool.not_true]
      obtain ⟨_, a3, a4, _⟩ := rightL_ok hr
      obtain ⟨_, b3, b4, _⟩ := rightL_ok hr2
      have c1 : ([] : List Op).length + l.length < 4398046511104 := by have := hs.1; simp; omega
      have c2 : l.length + m.length < 4398046511104 := by have := hlm.1; simpa using this
      have s3 : capd 3 (l ++ m) = wrap64 (capd 3 l + capd 3 m) := by unfold capd far wrap64; rw [sums_app]; omega
      have s4 : capd 4 (l ++ m) = wrap64 (capd 4 l + capd 4 m) := by unfold capd far wrap64; rw [sums_app]; omega
      have cl := chN_le l
      have cm := chN_le m
      have hll := hs.1
      have hml := hm.1
      have cn : (chN (l ++ m) : Int) = wrap64 ((chN l : Int) + (chN m : Int)) := by
        have : chN (l ++ m) = chN l + chN m := by simp [chN]
        rw [this]; unfold wrap64; omega
      refine Ev.step (fun k => rfl) ?_
      simp only [patchworklaw8_OpsParts.j0, Bool.false_eq_true, if_false, if_pos c1, List.nil_append, Option.bind_some, if_pos c2]
      refine Ev.bind' (olds_ev hlm) ?_
      refine Ev.bind' (olds_ev hs) ?_
      refine Ev.bind' (olds_ev hm) ?_
      simp only [if_pos s3]
      refine Ev.bind' (news_ev hlm) ?_
      refine Ev.bind' (news_ev hs) ?_
      refine Ev.bind' (news_ev hm) ?_
      simp only [if_pos s4]
      refine Ev.bind' (pchanges_ev hlm) ?_
      refine Ev.bind' (pchanges_ev hs) ?_
      refine Ev.bind' (pchanges_ev hm) ?_
      simp only [if_pos cn]
      refine Ev.bind' (right_ev hlm) ?_
      cases hx : rightL (l ++ m)
      · simp only [Bool.false_eq_true, if_false]; exact Ev.now true
      simp only [if_true]
      by_cases z1 : (l.length : Int) = 0
      · simp only [if_pos z1]; exact Ev.now true
      by_cases z2 : (m.length : Int) = 0
      · simp only [if_neg z1, if_pos z2]; exact Ev.now true
      simp only [if_neg z1, if_neg z2]
      refine Ev.bind' (olds_ev hlm) ?_
      have : capd 3 (l ++ m) ≤ 2147483648 := by
        have := (rightL_ok hx).2.1
        unfold capd far; omega
      simp only [this, decide_true]
      exact Ev.now true
    · simp only [h2, decide_false, Bool.false_eq_true, if_false]
      exact OpsParts.out l m
  · simp only [h, decide_false, Bool.false_eq_true, if_false]
    exact OpsParts.out l m
end Go.Proofs.Ytkalkickknjdhaa.P
