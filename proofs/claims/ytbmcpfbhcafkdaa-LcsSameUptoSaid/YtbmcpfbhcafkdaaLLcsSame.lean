/- Own: LcsSame holds. -/
import Derived.Test.YtbmcpfbhcafkdaaLB
import Derived.Test.YtbmcpfbhcafkdaaSLcsSame
namespace Go.Proofs.Ytbmcpfbhcafkdaa.P
open Go.RowKit Go.Proofs.YtbmcpfbhcafkdaaW.PrintWords Go.Proofs.YtbmcpfbhcafkdaaW.PrintLast Go.Proofs.YtbmcpfbhcafkdaaW.PrintMore

theorem LcsSame.out (a b : List ByteArray) : Ev (fun k => patchworklaw12_LcsSame.j0 k a b true true) true := by
  refine Ev.step (fun k => rfl) ?_
  simp only [patchworklaw12_LcsSame.j0, if_true]
  exact Ev.now true
theorem LcsSame.fin {a b : List ByteArray} (ha : a.length ≤ 40) (hb : b.length ≤ 40) (x y : List Op) :
    Ev (fun k => patchworklaw12_LcsSame.l0 k a b x y (a.map fun t => ⟨3, 0, t⟩) (a.length : Int)) true := by
  have hn : ¬ (a.length : Int) < (a.length : Int) := by omega
  refine Ev.step (fun k => rfl) ?_
  simp only [patchworklaw12_LcsSame.l0, if_neg hn]
  refine Ev.bindN (len_f (by omega) (by omega)) ?_
  by_cases h : (lcs a b : Int) > 0
  · simp only [if_pos h]; exact Ev.now true
  simp only [if_neg h]
  have hl := diffOps_len a b
  have b1 : a.length < 4398046511104 := by omega
  have b2 : a.length + b.length < 4398046511104 := by omega
  refine Ev.bindN (diff_f (by omega) (by omega)) ?_
  simp only [List.length_nil, List.nil_append, List.length_map, Nat.zero_add, if_pos b1, Option.bind_some]
  refine Ev.bindN (diff_f (a := []) (b := b) (by simp) (by omega)) ?_
  rw [diffOps_nil_left]
  simp only [List.length_map, if_pos b2]
  refine Ev.bind' (same_ev _ _ (by omega)) ?_
  rw [diffOps_none a b (by omega)]
  simp only [decide_true]
  exact Ev.now true
theorem LcsSame.loop {a b : List ByteArray} (ha : a.length ≤ 40) (hb : b.length ≤ 40) (s : List ByteArray) : ∀ (p : List ByteArray), a = p ++ s →
    Ev (fun k => patchworklaw12_LcsSame.l0 k a b (a.map fun t => ⟨2, 0, t⟩) (a.map fun t => ⟨4, 0, t⟩) (a.map fun t => ⟨3, 0, t⟩) (p.length : Int)) true := by
  induction s with
  | nil =>
    intro p hp
    rw [List.append_nil] at hp
    subst hp
    exact LcsSame.fin ha hb _ _
  | cons x s ih =>
    intro p hp
    have hl : a.length = p.length + (s.length + 1) := by rw [hp]; simp
    have g1 : (p.length : Int) < (a.length : Int) := by omega
    have r : rdOf ByteArray.empty a (p.length : Int) = x := by rw [hp]; exact rdOf_mid _ p s x
    have w := wrap_len p x (by omega)
    have q : ∀ (n : Int), rd_Op (a.map fun t => (⟨n, 0, t⟩ : Op)) (p.length : Int) = ⟨n, 0, x⟩ := by
      intro n
      have := rdOp_mid (p.map fun t => (⟨n, 0, t⟩ : Op)) (s.map fun t => (⟨n, 0, t⟩ : Op)) ⟨n, 0, x⟩
      rw [hp, List.map_append, List.map_cons]
      simpa using this
    refine Ev.step (fun k => rfl) ?_
    simp only [patchworklaw12_LcsSame.l0, if_pos g1, nn_nat, if_true, List.length_map, r, w, q, beq_self_eq_true, Bool.not_true, Bool.or_self, Bool.false_eq_true, if_false]
    exact ih (p ++ [x]) (by simpa using hp)
theorem LcsSame.main {a b : List ByteArray} (ha : a.length ≤ 40) (hb : b.length ≤ 40) : Ev (fun k => patchworklaw12_LcsSame.j0 k a b true false) true := by
  have hne : ((a.length : Int) != (a.length : Int)) = false := by simp
  refine Ev.step (fun k => rfl) ?_
  simp only [patchworklaw12_LcsSame.j0, Bool.false_eq_true, if_false]
  refine Ev.bindN (diff_f (a := a) (b := a) (by omega) (by omega)) ?_
  refine Ev.bindN (diff_f (a := []) (b := a) (by simp) (by omega)) ?_
  refine Ev.bindN (diff_f (a := a) (b := []) (by omega) (by simp)) ?_
  rw [diffOps_self, diffOps_nil_left, diffOps_nil_right]
  simp only [List.length_map, if_true, hne]
  refine Ev.step (fun k => rfl) ?_
  simp only [patchworklaw12_LcsSame.j1, Bool.false_eq_true, if_false]
  exact LcsSame.loop ha hb a [] rfl
theorem LcsSame.proved : LcsSame.Pure := by
  intro l0 l1 _ _ hw
  have w0 := wt_len l0
  have w1 := wt_len l1
  have t0 := textSum_le l0
  have t1 := textSum_le l1
  simp only at hw
  obtain ⟨b0, e0, g0⟩ := short_ev l0 (by omega)
  obtain ⟨b1, e1, g1⟩ := short_ev l1 (by omega)
  refine Ev.rounds ?_
  simp only [patchworklaw12_LcsSame.f]
  refine Ev.bindN alive12 ?_
  simp only [if_true]
  refine Ev.bind' e0 ?_
  cases b0
  · simp only [Bool.false_eq_true, if_false]; exact LcsSame.out l0 l1
  simp only [if_true]
  refine Ev.bind' e1 ?_
  cases b1
  · simp only [Bool.false_eq_true, if_false]; exact LcsSame.out l0 l1
  simp only [if_true]
  by_cases c0 : (l0.length : Int) > 40
  · simp only [if_pos c0]; exact LcsSame.out l0 l1
  simp only [if_neg c0]
  by_cases c1 : (l1.length : Int) > 40
  · simp only [c1, decide_true]; exact LcsSame.out l0 l1
  simp only [c1, decide_false]
  exact LcsSame.main (by omega) (by omega)
end Go.Proofs.Ytbmcpfbhcafkdaa.P
