/- Own: ComposeCounts holds. -/
import Derived.Test.YtkiklmmpflndbaaEe
import Derived.Test.YtkiklmmpflndbaaN0
import Derived.Test.YtkiklmmpflndbaaMc
import Derived.Test.YtkiklmmpflndbaaEf
import Derived.Test.YtkiklmmpflndbaaSComposeCounts
namespace Go.Proofs.Ytkiklmmpflndbaa.P
open Go.RowKit Go.Proofs.YtkiklmmpflndbaaW.PrintWords Go.Proofs.YtkiklmmpflndbaaW.PrintLast Go.Proofs.YtkiklmmpflndbaaW.PrintMore
set_option linter.unusedVariables false

theorem ComposeCounts.out (a b : List Op) : Ev (fun k => patchworklaw11_ComposeCounts.j0 k a b true true) true := by
  refine Ev.step (fun k => rfl) ?_
  simp only [patchworklaw11_ComposeCounts.j0, if_true]
  exact Ev.now true
/-- How many lines two have, one behind the other. -/
theorem then_counts {p q : List Op} (h : (thenL p q).2 = true) : ∃ a b c d e f : Nat, capd 3 p = (a : Int) ∧ capd 4 p = (b : Int) ∧ capd 3 q = (c : Int) ∧ capd 4 q = (d : Int) ∧ capd 3 (thenL p q).1 = (e : Int) ∧ capd 4 (thenL p q).1 = (f : Int) ∧
    a ≤ 2147483648 ∧ b ≤ 2147483648 ∧ c ≤ 2147483648 ∧ d ≤ 2147483648 ∧ e ≤ 2147483648 ∧ f ≤ 2147483648 ∧ f + a + c = e + b + d ∧ a ≤ e ∧ d ≤ f ∧ chN (thenL p q).1 ≤ chN p + chN q := by
  obtain ⟨u, rp, rq, hc, ru, ht⟩ := thenL_some h
  have rt := thenL_right h
  have et := ex_then ht
  obtain ⟨c1, c2, c3, c4⟩ := (Cmp.of _ _ _ _ hc).counts
  obtain ⟨p1, p2, p3, p4⟩ := capd_right rp
  obtain ⟨q1, q2, q3, q4⟩ := capd_right rq
  obtain ⟨t1, t2, t3, t4⟩ := capd_right rt
  rw [et, olds_nf0] at t1 t3
  rw [et, news_nf0] at t2 t4
  refine ⟨_, _, _, _, _, _, p1, p2, q1, q2, t1, t2, p3, p4, q3, q4, t3, t4, by omega, c2, c3, ?_⟩
  rw [chN_ex (rightL_form rt), et, chU_nf0, chN_ex (rightL_form rp), chN_ex (rightL_form rq)]
  exact c4
theorem counts_arith {a b c d e f x y z : Nat} {P Q : Nat} (b1 : a ≤ 2147483648) (b2 : b ≤ 2147483648) (b3 : c ≤ 2147483648) (b4 : d ≤ 2147483648) (b5 : e ≤ 2147483648) (b6 : f ≤ 2147483648) (k1 : y ≤ P) (k2 : z ≤ Q) (h1 : P ≤ 600) (h2 : Q ≤ 600)
    (s1 : f + a + c = e + b + d) (s2 : a ≤ e) (s3 : d ≤ f) (s4 : x ≤ y + z) :
    wrap64 ((y : Int) + (z : Int)) = (y : Int) + (z : Int) ∧ wrap64 ((f : Int) - (e : Int)) = wrap64 (wrap64 (wrap64 ((b : Int) - (a : Int)) + (d : Int)) - (c : Int)) ∧ (x : Int) ≤ (y : Int) + (z : Int) ∧ (e : Int) ≥ (a : Int) ∧ (f : Int) ≥ (d : Int) := by
  have c1 : (x : Int) ≤ (y : Int) + (z : Int) := by omega
  have c2 : (e : Int) ≥ (a : Int) := by omega
  have c3 : (f : Int) ≥ (d : Int) := by omega
  have c4 : (f : Int) - (e : Int) = (b : Int) - (a : Int) + (d : Int) - (c : Int) := by omega
  have l1 : -9223372036854775808 ≤ (y : Int) + (z : Int) ∧ (y : Int) + (z : Int) < 9223372036854775808 := by omega
  have l2 : -9223372036854775808 ≤ (f : Int) - (e : Int) ∧ (f : Int) - (e : Int) < 9223372036854775808 := by omega
  have l3 : -9223372036854775808 ≤ (b : Int) - (a : Int) ∧ (b : Int) - (a : Int) < 9223372036854775808 := by omega
  have l4 : -9223372036854775808 ≤ (b : Int) - (a : Int) + (d : Int) ∧ (b : Int) - (a : Int) + (d : Int) < 9223372036854775808 := by omega
  have l5 : -9223372036854775808 ≤ (b : Int) - (a : Int) + (d : Int) - (c : Int) ∧ (b : Int) - (a : Int) + (d : Int) - (c : Int) < 9223372036854775808 := by omega
  refine ⟨wrap_small l1.1 l1.2, ?_, c1, c2, c3⟩
  rw [wrap_small l2.1 l2.2, wrap_small l3.1 l3.2, wrap_small l4.1 l4.2, wrap_small l5.1 l5.2]
  exact c4
theorem ComposeCounts.proved : ComposeCounts.Pure := by
  intro p q _ _ hw
  simp only at hw
  have fp := fewN_le p
  have fq := fewN_le q
  have lp := fewN_len p
  have lq := fewN_len q
  refine Ev.rounds ?_
  simp only [patchworklaw11_ComposeCounts.f]
  refine Ev.bind' alive11 ?_
  simp only [if_true]
  refine Ev.bind' (few_ev (by omega)) ?_
  by_cases h : fewN p ≤ 600
  · simp only [h, decide_true, if_true]
    refine Ev.bind' (few_ev (by omega)) ?_
    by_cases h2 : fewN q ≤ 600
    · simp only [h2, decide_true, if_true]
      have hp := Sx.of_few h
      have hq := Sx.of_few h2
      refine Ev.bind' (refright_ev hp.sm) ?_
      cases rp : rightL p
      · simp only [Bool.false_eq_true, if_false]; exact ComposeCounts.out p q
      simp only [if_true]
      refine Ev.bind' (refright_ev hq.sm) ?_
      cases rq : rightL q
      · exact ComposeCounts.out p q
      simp only [Bool.not_true]
      have ht := hp.then hq (by omega)
      refine Ev.step (fun k => rfl) ?_
      simp only [patchworklaw11_ComposeCounts.j0, Bool.false_eq_true, if_false]
      refine Ev.bind' (pthen_ev hp hq) ?_
      cases d : (thenL p q).2
      · simp only [Bool.false_eq_true, if_false]
        rw [thenL_no d]
        exact Ev.now true
      · simp only [if_true]
        have np := refnews_ev hp.sm
        have op := refolds_ev hp.sm
        have nq := refnews_ev hq.sm
        have oq := refolds_ev hq.sm
        have nt := refnews_ev ht.sm
        have ot := refolds_ev ht.sm
        have ct := changes_ev ht.sm
        have cp := changes_ev hp.sm
        have cq := changes_ev hq.sm
        have k1 := chN_le p
        have k2 := chN_le q
        obtain ⟨a, b, c, d', e, f, e1, e2, e3, e4, e5, e6, b1, b2, b3, b4, b5, b6, s1, s2, s3, s4⟩ := then_counts d
        rw [e1] at op
        rw [e2] at np
        rw [e3] at oq
        rw [e4] at nq
        rw [e5] at ot
        rw [e6] at nt
        generalize chN (thenL p q).1 = x at ct s4
        generalize chN p = y at cp s4 k1
        generalize chN q = z at cq s4 k2
        obtain ⟨w1, w2, c1, c2, c3⟩ := counts_arith b1 b2 b3 b4 b5 b6 (Nat.le_trans k1 lp) (Nat.le_trans k2 lq) h h2 s1 s2 s3 s4
        refine Ev.bind' np ?_
        refine Ev.bind' op ?_
        refine Ev.bind' nq ?_
        refine Ev.bind' oq ?_
        refine Ev.bind' ct ?_
        refine Ev.bind' cp ?_
        refine Ev.bind' cq ?_
        simp only [w1, if_pos c1]
        refine Ev.bind' nt ?_
        refine Ev.bind' ot ?_
        simp only [if_pos w2]
        refine Ev.bind' ot ?_
        refine Ev.bind' op ?_
        simp only [if_pos c2]
        refine Ev.bind' nt ?_
        refine Ev.bind' nq ?_
        simp only [c3, decide_true]
        exact Ev.now true
    · simp only [h2, decide_false, Bool.false_eq_true, if_false]
      exact ComposeCounts.out p q
  · simp only [h, decide_false, Bool.false_eq_true, if_false]
    exact ComposeCounts.out p q
end Go.Proofs.Ytkiklmmpflndbaa.P
