/- Own: OpsNorm holds. -/
import Derived.Test.YtkalkickknjdhaaOa
import Derived.Test.YtkalkickknjdhaaFb
import Derived.Test.YtkalkickknjdhaaSOpsNorm
namespace Go.Proofs.Ytkalkickknjdhaa.P
open Go.RowKit Go.Proofs.YtkalkickknjdhaaW.PrintWords Go.Proofs.YtkalkickknjdhaaW.PrintLast Go.Proofs.YtkalkickknjdhaaW.PrintMore
set_option linter.unusedVariables false
set_option linter.unusedSimpArgs false

theorem OpsNorm.out (a : List Op) : Ev (fun k => patchworklaw8_OpsNorm.j0 k a true true) true := by
  refine Ev.step (fun k => rfl) ?_
  simp only [patchworklaw8_OpsNorm.j0, if_true]
  exact Ev.now true
theorem OpsNorm.proved : OpsNorm.Pure := by
  intro l _ hw
  simp only at hw
  have hs : Sm l := Sm.of_wt (by omega)
  have hf := fewN_le l
  refine Ev.rounds ?_
  simp only [patchworklaw8_OpsNorm.f]
  refine Ev.bind' alive8 ?_
  simp only [if_true]
  refine Ev.bind' (few_ev (by omega)) ?_
  by_cases h : fewN l ≤ 600
  · simp only [h, decide_true, if_true]
    refine Ev.bind' (refright_ev hs) ?_
    cases hr : rightL l
    · simp only [Bool.not_false]; exact OpsNorm.out l
    simp only [Bool.not_true]
    have fl := rightL_form hr
    have hm : Sm (normL l) := hs.norm fl
    have rm := right_norm hr
    have fm := rightL_form rm
    have e1 := norm_ev hs
    rw [hr, if_pos rfl] at e1
    have e2 := right_ev hm
    rw [rm] at e2
    have e3 := norm_ev hm
    rw [rm, if_pos rfl, show normL (normL l) = normL l from by show pack (nf [] (ex (pack (nf [] (ex l))))) = _; rw [ex_pack, nf_nf _ _ _ .nil]; rfl] at e3
    have s3 : capd 3 (normL l) = capd 3 l := by unfold capd; rw [sums_olds _ fm, sums_olds _ fl, ex_norm, olds_nf0]
    have s4 : capd 4 (normL l) = capd 4 l := by unfold capd; rw [sums_news _ fm, sums_news _ fl, ex_norm, news_nf0]
    have cn : chN (normL l) = chN l := by rw [chN_ex fm, chN_ex fl, ex_norm, chU_nf0]
    have k4 : known 4 (normL l) = known 4 l := by rw [known_olds fm, known_olds fl, ex_norm, olds_nf0]
    have k3 : known 3 (normL l) = known 3 l := by rw [known_news fm, known_news fl, ex_norm, news_nf0]
    have ln : ((normL l).length : Int) ≤ (l.length : Int) := by
      have := nf_pack_len l [] fl
      simp only [List.length_nil] at this
      have e : (normL l).length = (pack (nf [] (ex l))).length := rfl
      omega
    have k1 := known_len 4 (normL l)
    have k2 := known_len 3 (normL l)
    have hml := hm.1
    refine Ev.step (fun k => rfl) ?_
    simp only [patchworklaw8_OpsNorm.j0, Bool.false_eq_true, if_false]
    refine Ev.bind' e1 ?_
    refine Ev.bind' e2 ?_
    simp only [if_true]
    refine Ev.bind' e3 ?_
    refine Ev.bind' (psame_ev _ _ (by omega)) ?_
    simp only [decide_true, if_true]
    refine Ev.bind' (olds_ev hm) ?_
    refine Ev.bind' (olds_ev hs) ?_
    simp only [s3, if_true]
    refine Ev.bind' (news_ev hm) ?_
    refine Ev.bind' (news_ev hs) ?_
    simp only [s4, if_true]
    refine Ev.bind' (pchanges_ev hm) ?_
    refine Ev.bind' (pchanges_ev hs) ?_
    simp only [cn, if_true]
    refine Ev.bind' (known_ev 4 hm) ?_
    refine Ev.bind' (known_ev 4 hs) ?_
    refine Ev.bind' (texts_ev _ _ (by omega)) ?_
    simp only [k4, decide_true, if_true]
    refine Ev.bind' (known_ev 3 hm) ?_
    refine Ev.bind' (known_ev 3 hs) ?_
    refine Ev.bind' (texts_ev _ _ (by omega)) ?_
    simp only [k3, decide_true, if_true, ln]
    exact Ev.now true
  · simp only [h, decide_false, Bool.false_eq_true, if_false]
    exact OpsNorm.out l
end Go.Proofs.Ytkalkickknjdhaa.P
