/- Own: ComposeDoes holds. -/
import Derived.Test.YtkiklmmpflndbaaEe
import Derived.Test.YtkiklmmpflndbaaQc
import Derived.Test.YtkiklmmpflndbaaSComposeDoes
namespace Go.Proofs.Ytkiklmmpflndbaa.P
open Go.RowKit Go.Proofs.YtkiklmmpflndbaaW.PrintWords Go.Proofs.YtkiklmmpflndbaaW.PrintLast Go.Proofs.YtkiklmmpflndbaaW.PrintMore

theorem ComposeDoes.out (a b : List Op) (c : List ByteArray) : Ev (fun k => patchworklaw11_ComposeDoes.j0 k a b c true true) true := by
  refine Ev.step (fun k => rfl) ?_
  simp only [patchworklaw11_ComposeDoes.j0, if_true]
  exact Ev.now true
theorem ComposeDoes.out1 (a b : List Op) (c d : List ByteArray) : Ev (fun k => patchworklaw11_ComposeDoes.j1 k a b c d true) true := by
  refine Ev.step (fun k => rfl) ?_
  simp only [patchworklaw11_ComposeDoes.j1, if_true]
  exact Ev.now true
theorem ComposeDoes.proved : ComposeDoes.Pure := by
  intro p q ls _ _ _ hw
  simp only at hw
  have fp := fewN_le p
  have fq := fewN_le q
  have lp := fewN_len p
  have lq := fewN_len q
  have w1 := wt_len ls
  have t1 := textSum_le ls
  have hls : SmT ls := SmT.of_wt (by omega)
  obtain ⟨b1, e1, _⟩ := short_ev ls (by omega)
  refine Ev.rounds ?_
  simp only [patchworklaw11_ComposeDoes.f]
  refine Ev.bind' alive11 ?_
  simp only [if_true]
  refine Ev.bind' (few_ev (by omega)) ?_
  by_cases h : fewN p ≤ 600
  · simp only [h, decide_true, if_true]
    refine Ev.bind' (few_ev (by omega)) ?_
    by_cases h2 : fewN q ≤ 600
    · simp only [h2, decide_true, if_true]
      refine Ev.bind' e1 ?_
      cases b1
      · exact ComposeDoes.out p q ls
      simp only [Bool.not_true]
      have hp := Sx.of_few h
      have hq := Sx.of_few h2
      have sa : SmT (doL p ls).1 := doL_SmT (by omega) hp.sm (by omega) hls
      refine Ev.step (fun k => rfl) ?_
      simp only [patchworklaw11_ComposeDoes.j0, Bool.false_eq_true, if_false]
      refine Ev.bind' (refdo_ev hp.sm hls) ?_
      refine Ev.bind' (refdo_ev hq.sm sa) ?_
      cases d1 : (doL p ls).2
      · simp only [Bool.false_eq_true, if_false]
        exact ComposeDoes.out1 ..
      simp only [if_true]
      cases d2 : (doL q (doL p ls).1).2
      · exact ComposeDoes.out1 ..
      simp only [Bool.not_true]
      obtain ⟨t1, t2⟩ := then_do (by omega) (by omega) (by omega) d1 d2
      have ht := hp.then hq (by omega)
      have hl := (thenL_len hp hq).1
      refine Ev.step (fun k => rfl) ?_
      simp only [patchworklaw11_ComposeDoes.j1, Bool.false_eq_true, if_false]
      refine Ev.bind' (pthen_ev hp hq) ?_
      refine Ev.bind' (refdo_ev ht.sm hls) ?_
      rw [t2]
      simp only [t1, if_true]
      have sb : SmT (doL (thenL p q).1 ls).1 := doL_SmT (by omega) ht.sm (by omega) hls
      rw [t2] at sb
      have sb' : (doL q (doL p ls).1).1.length < 4398046511104 := sb.1
      refine Ev.bind' (texts_ev _ _ (by omega)) ?_
      simp only [decide_true]
      exact Ev.now true
    · simp only [h2, decide_false, Bool.false_eq_true, if_false]
      exact ComposeDoes.out p q ls
  · simp only [h, decide_false, Bool.false_eq_true, if_false]
    exact ComposeDoes.out p q ls
end Go.Proofs.Ytkiklmmpflndbaa.P
