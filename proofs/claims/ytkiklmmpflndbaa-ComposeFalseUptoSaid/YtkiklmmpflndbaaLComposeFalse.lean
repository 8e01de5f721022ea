/- Own: ComposeFalse holds. -/
import Derived.Test.YtkiklmmpflndbaaEe
import Derived.Test.YtkiklmmpflndbaaSComposeFalse
namespace Go.Proofs.Ytkiklmmpflndbaa.P
open Go.RowKit Go.Proofs.YtkiklmmpflndbaaW.PrintWords Go.Proofs.YtkiklmmpflndbaaW.PrintLast Go.Proofs.YtkiklmmpflndbaaW.PrintMore

theorem ComposeFalse.out (a b : List Op) (c : List ByteArray) : Ev (fun k => patchworklaw11_ComposeFalse.j0 k a b c true true) true := by
  refine Ev.step (fun k => rfl) ?_
  simp only [patchworklaw11_ComposeFalse.j0, if_true]
  exact Ev.now true
theorem ComposeFalse.proved : ComposeFalse.Pure := by
  intro p q ls _ _ _ hw
  simp only at hw
  have fp := fewN_le p
  have fq := fewN_le q
  have lp := fewN_len p
  have lq := fewN_len q
  have w1 := wt_len ls
  have t1 := textSum_le ls
  have hls : SmT ls := SmT.of_wt (by omega)
  obtain ⟨b1, e1, _⟩ := short_ev ls (by omega)
  refine Ev.rounds ?_
  simp only [patchworklaw11_ComposeFalse.f]
  refine Ev.bind' alive11 ?_
  simp only [if_true]
  refine Ev.bind' (few_ev (by omega)) ?_
  by_cases h : fewN p ≤ 600
  · simp only [h, decide_true, if_true]
    refine Ev.bind' (few_ev (by omega)) ?_
    by_cases h2 : fewN q ≤ 600
    · simp only [h2, decide_true, if_true]
      refine Ev.bind' e1 ?_
      cases b1
      · simp only [Bool.false_eq_true, if_false]; exact ComposeFalse.out p q ls
      simp only [if_true]
      have hp := Sx.of_few h
      have hq := Sx.of_few h2
      refine Ev.bind' (refright_ev hp.sm) ?_
      cases rp : rightL p
      · simp only [Bool.false_eq_true, if_false]; exact ComposeFalse.out p q ls
      simp only [if_true]
      refine Ev.bind' (refright_ev hq.sm) ?_
      cases rq : rightL q
      · exact ComposeFalse.out p q ls
      simp only [Bool.not_true]
      have sa : SmT (doL p ls).1 := doL_SmT (by omega) hp.sm (by omega) hls
      refine Ev.step (fun k => rfl) ?_
      simp only [patchworklaw11_ComposeFalse.j0, Bool.false_eq_true, if_false]
      refine Ev.bind' (pthen_ev hp hq) ?_
      cases d : (thenL p q).2
      · simp only [Bool.false_eq_true, if_false]
        refine Ev.bind' (refdo_ev hp.sm hls) ?_
        refine Ev.bind' (refdo_ev hq.sm sa) ?_
        cases d1 : (doL p ls).2
        · simp only [Bool.false_eq_true, if_false]; exact Ev.now true
        simp only [if_true]
        cases d2 : (doL q (doL p ls).1).2
        · exact Ev.now true
        · obtain ⟨t1, t2⟩ := then_do (by omega) (by omega) (by omega) d1 d2
          rw [d] at t1; simp at t1
      · simp only [if_true]; exact Ev.now true
    · simp only [h2, decide_false, Bool.false_eq_true, if_false]
      exact ComposeFalse.out p q ls
  · simp only [h, decide_false, Bool.false_eq_true, if_false]
    exact ComposeFalse.out p q ls
end Go.Proofs.Ytkiklmmpflndbaa.P
