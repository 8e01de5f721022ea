/- Own: FlipTells holds. -/
import Derived.Test.YthognikhmbabhaaFa
import Derived.Test.YthognikhmbabhaaSFlipTells
namespace Go.Proofs.Ythognikhmbabhaa.P
open Go.RowKit Go.Proofs.YthognikhmbabhaaW.PrintWords Go.Proofs.YthognikhmbabhaaW.PrintLast Go.Proofs.YthognikhmbabhaaW.PrintMore

theorem FlipTells.out (a : List Op) : Ev (fun k => patchworklaw10_FlipTells.j0 k a true true) true := by
  refine Ev.step (fun k => rfl) ?_
  simp only [patchworklaw10_FlipTells.j0, if_true]
  exact Ev.now true
theorem FlipTells.proved : FlipTells.Pure := by
  intro l0 _ hw
  simp only at hw
  have hs : Sm l0 := Sm.of_wt (by omega)
  have hf := fewN_le l0
  refine Ev.rounds ?_
  simp only [patchworklaw10_FlipTells.f]
  refine Ev.bind' alive10 ?_
  simp only [if_true]
  refine Ev.bind' (few_ev (by omega)) ?_
  by_cases h : fewN l0 ≤ 600
  · simp only [h, decide_true, Bool.not_true]
    have c1 : l0.length < 4398046511104 := hs.1
    refine Ev.step (fun k => rfl) ?_
    simp only [patchworklaw10_FlipTells.j0, Bool.false_eq_true, if_false, List.nil_append, List.length_nil, Nat.zero_add, if_pos c1]
    refine Ev.bind' (flip_ev hs) ?_
    refine Ev.bind' (refflip_ev hs) ?_
    have hlen := hs.flips.1
    refine Ev.bind' (same_ev _ _ (by omega)) ?_
    simp only [decide_true]
    exact Ev.now true
  · simp only [h, decide_false, Bool.not_false]
    exact FlipTells.out l0
end Go.Proofs.Ythognikhmbabhaa.P
