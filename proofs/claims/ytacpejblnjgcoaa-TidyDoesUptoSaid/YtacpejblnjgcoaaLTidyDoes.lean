/- Own: TidyDoes holds. -/
import Derived.Test.YtacpejblnjgcoaaTw
import Derived.Test.YtacpejblnjgcoaaDc
import Derived.Test.YtacpejblnjgcoaaQb
import Derived.Test.YtacpejblnjgcoaaSTidyDoes
namespace Go.Proofs.Ytacpejblnjgcoaa.P
open Go.RowKit Go.Proofs.YtacpejblnjgcoaaW.PrintWords Go.Proofs.YtacpejblnjgcoaaW.PrintLast Go.Proofs.YtacpejblnjgcoaaW.PrintMore
set_option linter.unusedVariables false
set_option linter.unusedSimpArgs false

theorem TidyDoes.out (a : List Op) (b : List ByteArray) : Ev (fun k => patchworklaw13_TidyDoes.j0 k a b true true) true := by
  refine Ev.step (fun k => rfl) ?_
  simp only [patchworklaw13_TidyDoes.j0, if_true]
  exact Ev.now true
theorem TidyDoes.proved : TidyDoes.Pure := by
  intro l ls _ _ hw
  simp only at hw
  have hs : Sm l := Sm.of_wt (by omega)
  have hf := fewN_le l
  have hfl := fewN_len l
  have w1 := wt_len ls
  have t1 := textSum_le ls
  have hls : SmT ls := SmT.of_wt (by omega)
  obtain ⟨b1, e1, _⟩ := short_ev ls (by omega)
  refine Ev.rounds ?_
  simp only [patchworklaw13_TidyDoes.f]
  refine Ev.bind' alive13 ?_
  simp only [if_true]
  refine Ev.bind' (few_ev (by omega)) ?_
  by_cases h : fewN l ≤ 600
  · simp only [h, decide_true, if_true]
    refine Ev.bind' e1 ?_
    cases b1
    · exact TidyDoes.out l ls
    simp only [if_true]
    refine Ev.bind' (refright_ev hs) ?_
    cases hr : rightL l
    · exact TidyDoes.out l ls
    simp only [Bool.not_true]
    have hm := hs.tidy (by omega) hr
    have rm := right_tidy hr
    have e2 := ptidy_ev hs (by omega)
    rw [hr, if_pos rfl] at e2
    have ml : (tidyL l).length ≤ 1000000 := by
      rw [← norm_td (rightL_form hr)]
      have h1 := (ex_td l [] [] (rightL_form hr)).2.2.2.1
      have h2 := nf_pack_len (tdL [] [] l) [] (ex_td l [] [] (rightL_form hr)).2.1
      simp only [List.length_nil] at h1 h2
      show (pack (nf [] (ex (tdL [] [] l)))).length ≤ 1000000
      omega
    have e3 := ptidy_ev hm ml
    rw [rm, if_pos rfl, tidy_tidy] at e3
    have cc : (chN (tidyL l) : Int) ≤ (chN l : Int) := by
      rw [ch_tidy, chN_ex (rightL_form hr)]
      have := td_ch0 (ex l)
      omega
    have er := refright_ev hm
    rw [rm] at er
    refine Ev.step (fun k => rfl) ?_
    simp only [patchworklaw13_TidyDoes.j0, Bool.false_eq_true, if_false]
    refine Ev.bind' e2 ?_
    refine Ev.bind' (refdo_ev hs hls) ?_
    refine Ev.bind' (refdo_ev hm hls) ?_
    refine Ev.bind' er ?_
    simp only [if_true, doL_tidy hr, beq_self_eq_true]
    refine Ev.bind' (texts_ev _ _ (by have := (doL_SmT (l := l) (by omega) hs (ls := ls) (by omega) hls).1; omega)) ?_
    simp only [decide_true, if_true]
    refine Ev.bind' (changes_ev hm) ?_
    refine Ev.bind' (changes_ev hs) ?_
    simp only [if_pos cc]
    refine Ev.bind' e3 ?_
    refine Ev.bind' (same_ev _ _ (by omega)) ?_
    simp only [decide_true]
    exact Ev.now true
  · simp only [h, decide_false, Bool.false_eq_true, if_false]
    exact TidyDoes.out l ls
end Go.Proofs.Ytacpejblnjgcoaa.P
