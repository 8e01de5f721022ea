/- Own: FlipTwice holds. -/
import Derived.Test.YthognikhmbabhaaFa
import Derived.Test.YthognikhmbabhaaFb
import Derived.Test.YthognikhmbabhaaSFlipTwice
namespace Go.Proofs.Ythognikhmbabhaa.P
open Go.RowKit Go.Proofs.YthognikhmbabhaaW.PrintWords Go.Proofs.YthognikhmbabhaaW.PrintLast Go.Proofs.YthognikhmbabhaaW.PrintMore

theorem FlipTwice.out (a : List Op) : Ev (fun k => patchworklaw10_FlipTwice.j0 k a true true) true := by
  refine Ev.step (fun k => rfl) ?_
  simp only [patchworklaw10_FlipTwice.j0, if_true]
  exact Ev.now true
theorem ex_flipL (l : List Op) : ex (flipL l) = nf [] (flipU (ex l)) := ex_pack _
theorem right_flipL {l : List Op} (h : rightL l = true) : rightL (flipL l) = true := by
  unfold flipL
  rw [right_pack, rightU_nf, rightU_flip]; exact rightL_U h
theorem flipL_flipL (l : List Op) : flipL (flipL l) = normL l := by
  unfold flipL
  rw [ex_pack, flip_flip]; rfl
theorem olds_flipL (l : List Op) : olds (ex (flipL l)) = news (ex l) := by rw [ex_flipL, olds_nf0, olds_flip]
theorem news_flipL (l : List Op) : news (ex (flipL l)) = olds (ex l) := by rw [ex_flipL, news_nf0, news_flip]
theorem FlipTwice.proved : FlipTwice.Pure := by
  intro l _ hw
  simp only at hw
  have hs : Sm l := Sm.of_wt (by omega)
  have hf := fewN_le l
  refine Ev.rounds ?_
  simp only [patchworklaw10_FlipTwice.f]
  refine Ev.bind' alive10 ?_
  simp only [if_true]
  refine Ev.bind' (few_ev (by omega)) ?_
  by_cases h : fewN l ≤ 600
  · simp only [h, decide_true, if_true]
    refine Ev.bind' (refright_ev hs) ?_
    cases hr : rightL l
    · exact FlipTwice.out l
    simp only [Bool.not_true]
    refine Ev.step (fun k => rfl) ?_
    simp only [patchworklaw10_FlipTwice.j0, Bool.false_eq_true, if_false]
    have hm := hs.flipped hr
    have rm := right_flipL hr
    have e1 := flip_ev hs
    rw [hr, if_pos rfl] at e1
    have e2 := flip_ev hm
    rw [rm, if_pos rfl, flipL_flipL] at e2
    have e3 := refNorm_ev hs
    rw [hr, if_pos rfl] at e3
    have e4 := refright_ev hm
    rw [rm] at e4
    have fl := rightL_form hr
    have fm := rightL_form rm
    have c3 : capd 3 (flipL l) = capd 4 l := by
      unfold capd; rw [sums_olds _ fm, sums_news _ fl, olds_flipL]
    have c4 : capd 4 (flipL l) = capd 3 l := by
      unfold capd; rw [sums_news _ fm, sums_olds _ fl, news_flipL]
    have k1 : known 4 (flipL l) = known 3 l := by rw [known_olds fm, known_news fl, olds_flipL]
    have hn := (hs.norm fl).1
    have hkl := known_len 3 l
    have hl := hs.1
    refine Ev.bind' e1 ?_
    refine Ev.bind' e4 ?_
    simp only [if_true]
    refine Ev.bind' e2 ?_
    refine Ev.bind' e3 ?_
    refine Ev.bind' (same_ev _ _ (by omega)) ?_
    simp only [decide_true, if_true]
    refine Ev.bind' (refolds_ev hm) ?_
    refine Ev.bind' (refnews_ev hs) ?_
    simp only [c3, if_true]
    refine Ev.bind' (refnews_ev hm) ?_
    refine Ev.bind' (refolds_ev hs) ?_
    simp only [c4, if_true]
    refine Ev.bind' (known_ev 4 hm) ?_
    refine Ev.bind' (known_ev 3 hs) ?_
    rw [k1]
    refine Ev.bind' (texts_ev _ _ (by omega)) ?_
    simp only [decide_true]
    exact Ev.now true
  · simp only [h, decide_false, Bool.false_eq_true, if_false]
    exact FlipTwice.out l
end Go.Proofs.Ythognikhmbabhaa.P
