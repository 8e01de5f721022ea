/- Own: PickTells holds. -/
import Derived.Test.YthognikhmbabhaaPd
import Derived.Test.YthognikhmbabhaaSPickTells
namespace Go.Proofs.Ythognikhmbabhaa.P
open Go.RowKit Go.Proofs.YthognikhmbabhaaW.PrintWords Go.Proofs.YthognikhmbabhaaW.PrintLast Go.Proofs.YthognikhmbabhaaW.PrintMore
set_option linter.unusedSimpArgs false
set_option linter.unusedVariables false

theorem PickTells.out (a : List Op) (b : List Bool) : Ev (fun k => patchworklaw16_PickTells.j0 k a b true true) true := by
  refine Ev.step (fun k => rfl) ?_
  simp only [patchworklaw16_PickTells.j0, if_true]
  exact Ev.now true
theorem Sm.picked {l : List Op} (h : Sm l) (ps : List Bool) : Sm (pickL l ps).1 ∧ Sm (pickL l ps).2 := by
  have hm := h.norms
  unfold pickL
  simp only
  generalize (if rightL l then normL l else []) = m at hm ⊢
  split
  · rename_i c
    exact ⟨(hm.pkF ps 0).norm (rightL_form c.1), (hm.pkS ps 0).norm (rightL_form c.2)⟩
  · exact ⟨.nil, .nil⟩
theorem PickTells.proved : PickTells.Pure := by
  intro l ps _ _ hw
  simp only at hw
  have hs : Sm l := Sm.of_wt (by omega)
  have hf := fewN_le l
  have hl := hs.1
  refine Ev.rounds ?_
  simp only [patchworklaw16_PickTells.f]
  refine Ev.bind' alive16 ?_
  simp only [if_true]
  refine Ev.bind' (few_ev (by omega)) ?_
  by_cases h : fewN l ≤ 600
  · simp only [h, decide_true, if_true]
    by_cases hp : (ps.length : Int) > 600
    · simp only [hp, decide_true]
      exact PickTells.out l ps
    · simp only [hp, decide_false]
      obtain ⟨p1, p2⟩ := hs.picked ps
      obtain ⟨r1, r2⟩ := rows_two hs
      have rl := rowsG_len l [] 0 false
      have c1 : ([] : List Op).length + l.length < 4398046511104 := by simp; omega
      have c2 : ([] : List Bool).length + ps.length < 140737488355328 := by simp; omega
      refine Ev.step (fun k => rfl) ?_
      simp only [patchworklaw16_PickTells.j0, Bool.false_eq_true, if_false, if_pos c1, if_pos c2, List.nil_append]
      refine Ev.bind' (pick_ev hs ps) ?_
      refine Ev.bind' (refpick_ev hs ps) ?_
      refine Ev.bind' (same_ev _ _ (by have := p1.1; omega)) ?_
      simp only [decide_true, if_true]
      refine Ev.bind' (same_ev _ _ (by have := p2.1; omega)) ?_
      simp only [decide_true, if_true]
      refine Ev.bind' r1 ?_
      refine Ev.bind' r2 ?_
      refine Ev.bind' (same16_ev _ (by simp at rl; omega)) ?_
      exact Ev.now true
  · simp only [h, decide_false, Bool.false_eq_true, if_false]
    exact PickTells.out l ps
end Go.Proofs.Ythognikhmbabhaa.P
