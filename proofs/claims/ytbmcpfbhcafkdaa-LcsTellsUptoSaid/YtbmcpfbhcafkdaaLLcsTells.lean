/- Own: LcsTells holds. -/
import Derived.Test.YtbmcpfbhcafkdaaLA
import Derived.Test.YtbmcpfbhcafkdaaSLcsTells
namespace Go.Proofs.Ytbmcpfbhcafkdaa.P
open Go.RowKit Go.Proofs.YtbmcpfbhcafkdaaW.PrintWords Go.Proofs.YtbmcpfbhcafkdaaW.PrintLast Go.Proofs.YtbmcpfbhcafkdaaW.PrintMore

theorem LcsTells.out (a b : List ByteArray) : Ev (fun k => patchworklaw12_LcsTells.j0 k a b true true) true := by
  refine Ev.step (fun k => rfl) ?_
  simp only [patchworklaw12_LcsTells.j0, if_true]
  exact Ev.now true
theorem LcsTells.main {a b : List ByteArray} (ha : a.length ≤ 60) (hb : b.length ≤ 60) : Ev (fun k => patchworklaw12_LcsTells.j0 k a b true false) true := by
  have h1 : a.length < 8796093022208 := by omega
  have h2 : b.length < 8796093022208 := by omega
  have hl := diffOps_len a b
  refine Ev.step (fun k => rfl) ?_
  simp only [patchworklaw12_LcsTells.j0, Bool.false_eq_true, if_false, List.nil_append, List.length_nil, Nat.zero_add, if_pos h1, if_pos h2]
  refine Ev.bindN (len_f (by omega) (by omega)) ?_
  refine Ev.bindN (refLen (by omega) (by omega)) ?_
  simp only [if_true]
  refine Ev.bindN (diff_f (by omega) (by omega)) ?_
  refine Ev.bind' (refDiff (by omega) (by omega)) ?_
  refine Ev.bind' (same_ev _ _ (by omega)) ?_
  simp only [decide_true]
  exact Ev.now true
theorem LcsTells.proved : LcsTells.Pure := by
  intro l0 l1 _ _ hw
  have w0 := wt_len l0
  have w1 := wt_len l1
  have t0 := textSum_le l0
  have t1 := textSum_le l1
  simp only at hw
  obtain ⟨b0, e0, g0⟩ := short_ev l0 (by omega)
  obtain ⟨b1, e1, g1⟩ := short_ev l1 (by omega)
  refine Ev.rounds ?_
  simp only [patchworklaw12_LcsTells.f]
  refine Ev.bindN alive12 ?_
  simp only [if_true]
  refine Ev.bind' e0 ?_
  cases b0
  · simp only [Bool.false_eq_true, if_false]; exact LcsTells.out l0 l1
  simp only [if_true]
  refine Ev.bind' e1 ?_
  cases b1
  · simp only [Bool.false_eq_true, if_false]; exact LcsTells.out l0 l1
  simp only [if_true]
  by_cases c0 : (l0.length : Int) > 60
  · simp only [if_pos c0]; exact LcsTells.out l0 l1
  simp only [if_neg c0]
  by_cases c1 : (l1.length : Int) > 60
  · simp only [c1, decide_true]; exact LcsTells.out l0 l1
  simp only [c1, decide_false]
  exact LcsTells.main (by omega) (by omega)
end Go.Proofs.Ytbmcpfbhcafkdaa.P
