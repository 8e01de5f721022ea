/- Own: FlipUndoes holds. -/
import Derived.Test.YthognikhmbabhaaFa
import Derived.Test.YthognikhmbabhaaDb
import Derived.Test.YthognikhmbabhaaSFlipUndoes
namespace Go.Proofs.Ythognikhmbabhaa.P
open Go.RowKit Go.Proofs.YthognikhmbabhaaW.PrintWords Go.Proofs.YthognikhmbabhaaW.PrintLast Go.Proofs.YthognikhmbabhaaW.PrintMore

theorem FlipUndoes.out (a : List Op) (b : List ByteArray) : Ev (fun k => patchworklaw10_FlipUndoes.j0 k a b true true) true := by
  refine Ev.step (fun k => rfl) ?_
  simp only [patchworklaw10_FlipUndoes.j0, if_true]
  exact Ev.now true
theorem FlipUndoes.proved : FlipUndoes.Pure := by
  intro l ls _ _ hw
  simp only at hw
  have hs : Sm l := Sm.of_wt (by omega)
  have hf := fewN_le l
  have hfl := fewN_len l
  have w1 := wt_len ls
  have t1 := textSum_le ls
  have hls : SmT ls := SmT.of_wt (by omega)
  obtain ⟨b1, e1, _⟩ := short_ev ls (by omega)
  refine Ev.rounds ?_
  simp only [patchworklaw10_FlipUndoes.f]
  refine Ev.bind' alive10 ?_
  simp only [if_true]
  refine Ev.bind' (few_ev (by omega)) ?_
  by_cases h : fewN l ≤ 600
  · simp only [h, decide_true, if_true]
    refine Ev.bind' e1 ?_
    cases b1
    · exact FlipUndoes.out l ls
    simp only [Bool.not_true]
    refine Ev.step (fun k => rfl) ?_
    simp only [patchworklaw10_FlipUndoes.j0, Bool.false_eq_true, if_false]
    refine Ev.bind' (refdo_ev hs hls) ?_
    by_cases hd : (doL l ls).2 = true
    · simp only [if_pos hd]
      obtain ⟨r, d1, d2, d3, d4, d5⟩ := doL_true hd
      rw [d5]
      have hm := hs.flipped d1
      have e2 := flip_ev hs
      rw [d1, if_pos rfl] at e2
      have hr : SmT r := hls.done (by omega) hs (by omega) d3
      have fd : doL (flipL l) r = (ls, true) := by
        refine doL_of ?_ d4 ?_ d2
        · unfold flipL; rw [right_pack, rightU_nf, rightU_flip]; exact rightL_U d1
        · unfold flipL; rw [ex_pack, doU_nf0]; exact doU_flip _ _ _ d3
      refine Ev.bind' e2 ?_
      refine Ev.bind' (refdo_ev hm hr) ?_
      rw [fd]
      simp only [if_true]
      refine Ev.bind' (texts_ev _ _ (by omega)) ?_
      simp only [decide_true]
      exact Ev.now true
    · simp only [if_neg hd]
      exact Ev.now true
  · simp only [h, decide_false, Bool.false_eq_true, if_false]
    exact FlipUndoes.out l ls
end Go.Proofs.Ythognikhmbabhaa.P
