/- Own: ComposeThree holds. -/
import Derived.Test.YtkiklmmpflndbaaEe
import Derived.Test.YtkiklmmpflndbaaSComposeThree
namespace Go.Proofs.Ytkiklmmpflndbaa.P
open Go.RowKit Go.Proofs.YtkiklmmpflndbaaW.PrintWords Go.Proofs.YtkiklmmpflndbaaW.PrintLast Go.Proofs.YtkiklmmpflndbaaW.PrintMore

theorem ComposeThree.out (a b c : List Op) : Ev (fun k => patchworklaw11_ComposeThree.j0 k a b c true true) true := by
  refine Ev.step (fun k => rfl) ?_
  simp only [patchworklaw11_ComposeThree.j0, if_true]
  exact Ev.now true
theorem ComposeThree.out1 (a b c d : List Op) : Ev (fun k => patchworklaw11_ComposeThree.j1 k a b c d true) true := by
  refine Ev.step (fun k => rfl) ?_
  simp only [patchworklaw11_ComposeThree.j1, if_true]
  exact Ev.now true
/-- Of three it is one which two come first. -/
theorem then_assoc {p q r : List Op} (ha : (thenL p q).2 = true) (hb : (thenL q r).2 = true) (hx : (thenL (thenL p q).1 r).2 = true) (hy : (thenL p (thenL q r).1).2 = true) : (thenL (thenL p q).1 r).1 = (thenL p (thenL q r).1).1 := by
  obtain ⟨u, p1, q1, c1, u1, e1⟩ := thenL_some ha
  obtain ⟨v, _, r1, c2, v1, e2⟩ := thenL_some hb
  obtain ⟨x, _, _, c3, x1, e3⟩ := thenL_some hx
  obtain ⟨y, _, _, c4, y1, e4⟩ := thenL_some hy
  rw [ex_then e1] at c3
  rw [ex_then e2] at c4
  have n1 := cmpU_norm1 u false (ex r)
  have n2 := cmpU_norm2 (ex p) false v
  rw [c3] at n1
  rw [c4] at n2
  obtain ⟨x', hx', ex'⟩ := nfO_some n1.symm
  obtain ⟨y', hy', ey'⟩ := nfO_some n2.symm
  have := Cmp.assoc _ (ex p) (ex q) (ex r) (Nat.le_refl _) (Cmp.of _ _ _ _ c1) (Cmp.of _ _ _ _ c2) (Cmp.of _ _ _ _ hx') (Cmp.of _ _ _ _ hy')
  rw [e3, e4]
  show pack (nf [] x) = pack (nf [] y)
  rw [← ex', ← ey', this]
theorem ComposeThree.proved : ComposeThree.Pure := by
  intro p q r _ _ _ hw
  simp only at hw
  have fp := fewN_le p
  have fq := fewN_le q
  have fr := fewN_le r
  have lp := fewN_len p
  have lq := fewN_len q
  have lr := fewN_len r
  refine Ev.rounds ?_
  simp only [patchworklaw11_ComposeThree.f]
  refine Ev.bind' alive11 ?_
  simp only [if_true]
  refine Ev.bind' (few_ev (by omega)) ?_
  by_cases h : fewN p ≤ 600
  · simp only [h, decide_true, if_true]
    refine Ev.bind' (few_ev (by omega)) ?_
    by_cases h2 : fewN q ≤ 600
    · simp only [h2, decide_true, if_true]
      refine Ev.bind' (few_ev (by omega)) ?_
      by_cases h3 : fewN r ≤ 600
      · simp only [h3, decide_true, if_true]
        have hp := Sx.of_few h
        have hq := Sx.of_few h2
        have hr := Sx.of_few h3
        refine Ev.bind' (refright_ev hp.sm) ?_
        cases rp : rightL p
        · simp only [Bool.false_eq_true, if_false]; exact ComposeThree.out p q r
        simp only [if_true]
        refine Ev.bind' (refright_ev hq.sm) ?_
        cases rq : rightL q
        · simp only [Bool.false_eq_true, if_false]; exact ComposeThree.out p q r
        simp only [if_true]
        refine Ev.bind' (refright_ev hr.sm) ?_
        cases rr : rightL r
        · exact ComposeThree.out p q r
        simp only [Bool.not_true]
        have ta := hp.then hq (by omega)
        have tb := hq.then hr (by omega)
        have la := (thenL_len hp hq).1
        have lb := (thenL_len hq hr).1
        refine Ev.step (fun k => rfl) ?_
        simp only [patchworklaw11_ComposeThree.j0, Bool.false_eq_true, if_false]
        refine Ev.bind' (pthen_ev hp hq) ?_
        refine Ev.bind' (pthen_ev hq hr) ?_
        cases d1 : (thenL p q).2
        · simp only [Bool.false_eq_true, if_false]; exact ComposeThree.out1 ..
        simp only [if_true]
        cases d2 : (thenL q r).2
        · exact ComposeThree.out1 ..
        simp only [Bool.not_true]
        refine Ev.step (fun k => rfl) ?_
        simp only [patchworklaw11_ComposeThree.j1, Bool.false_eq_true, if_false]
        refine Ev.bind' (pthen_ev ta hr) ?_
        refine Ev.bind' (pthen_ev hp tb) ?_
        cases d3 : (thenL (thenL p q).1 r).2
        · simp only [Bool.false_eq_true, if_false]; exact Ev.now true
        simp only [if_true]
        cases d4 : (thenL p (thenL q r).1).2
        · simp only [Bool.false_eq_true, if_false]; exact Ev.now true
        simp only [if_true]
        rw [then_assoc d1 d2 d3 d4]
        refine Ev.bind' (same_ev _ _ (by have := (thenL_len hp tb).1; omega)) ?_
        simp only [decide_true]
        exact Ev.now true
      · simp only [h3, decide_false, Bool.false_eq_true, if_false]
        exact ComposeThree.out p q r
    · simp only [h2, decide_false, Bool.false_eq_true, if_false]
      exact ComposeThree.out p q r
  · simp only [h, decide_false, Bool.false_eq_true, if_false]
    exact ComposeThree.out p q r
end Go.Proofs.Ytkiklmmpflndbaa.P
