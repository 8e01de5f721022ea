/- Own: LcsLeads holds. -/
import Derived.Test.YtbmcpfbhcafkdaaLB
import Derived.Test.YtbmcpfbhcafkdaaSLcsLeads
namespace Go.Proofs.Ytbmcpfbhcafkdaa.P
open Go.RowKit Go.Proofs.YtbmcpfbhcafkdaaW.PrintWords Go.Proofs.YtbmcpfbhcafkdaaW.PrintLast Go.Proofs.YtbmcpfbhcafkdaaW.PrintMore

theorem LcsLeads.out (a b : List ByteArray) : Ev (fun k => patchworklaw12_LcsLeads.j0 k a b true true) true := by
  refine Ev.step (fun k => rfl) ?_
  simp only [patchworklaw12_LcsLeads.j0, if_true]
  exact Ev.now true
theorem LcsLeads.fin {a b : List ByteArray} (ha : a.length ≤ 60) (hb : b.length ≤ 60) (p : List Op) : Ev (fun k => patchworklaw12_LcsLeads.l0 k a b p a b (lcs a b : Int) (p.length : Int)) true := by
  have hn : ¬ (p.length : Int) < (p.length : Int) := by omega
  refine Ev.step (fun k => rfl) ?_
  simp only [patchworklaw12_LcsLeads.l0, if_neg hn]
  refine Ev.bind' (texts_ev a a (by omega)) ?_
  simp only [decide_true, if_true]
  refine Ev.bind' (texts_ev b b (by omega)) ?_
  simp only [decide_true, if_true]
  refine Ev.bindN (len_f (by omega) (by omega)) ?_
  simp only [if_true]
  refine Ev.bindN (len_f (by omega) (by omega)) ?_
  rw [lcs_comm b a]
  simp only [beq_self_eq_true]
  exact Ev.now true
theorem oldT_app (p q : List Op) : oldT (p ++ q) = oldT p ++ oldT q := by simp [oldT]
theorem newT_app (p q : List Op) : newT (p ++ q) = newT p ++ newT q := by simp [newT]
theorem keptN_app (p q : List Op) : keptN (p ++ q) = keptN p + keptN q := by simp [keptN]
theorem oldT_le (p : List Op) : (oldT p).length ≤ p.length := by simp only [oldT, List.length_map]; exact List.length_filter_le _ _
theorem newT_le (p : List Op) : (newT p).length ≤ p.length := by simp only [newT, List.length_map]; exact List.length_filter_le _ _
theorem keptN_le (p : List Op) : keptN p ≤ p.length := List.length_filter_le _ _
theorem LcsLeads.loop {a b : List ByteArray} (ha : a.length ≤ 60) (hb : b.length ≤ 60) (s : List Op) : ∀ (p : List Op), (p ++ s).length ≤ 120 → oldT (p ++ s) = a → newT (p ++ s) = b → keptN (p ++ s) = lcs a b → (∀ o ∈ s, o.f0 = 2 ∨ o.f0 = 3 ∨ o.f0 = 4) →
    Ev (fun k => patchworklaw12_LcsLeads.l0 k a b (p ++ s) (oldT p) (newT p) (keptN p : Int) (p.length : Int)) true := by
  induction s with
  | nil =>
    intro p hl h1 h2 h3 _
    simp only [List.append_nil] at *
    rw [h1, h2, h3]
    exact LcsLeads.fin ha hb p
  | cons o s ih =>
    intro p hl h1 h2 h3 hk
    have hl' := hl
    simp only [List.length_append, List.length_cons] at hl'
    have o1 := oldT_le p
    have o2 := newT_le p
    have o3 := keptN_le p
    have b1 : (oldT p).length < 8796093022208 := by omega
    have b2 : (newT p).length < 8796093022208 := by omega
    have w := wrap_len p o (by omega)
    have w2 : wrap64 ((keptN p : Int) + 1) = ((keptN p + 1 : Nat) : Int) := by unfold wrap64; omega
    have := ih (p ++ [o]) (by simpa using hl) (by simpa using h1) (by simpa using h2) (by simpa using h3) (fun o' h' => hk o' (List.mem_cons_of_mem _ h'))
    simp only [List.append_assoc, List.singleton_append] at this
    have e1 := oldT_app p [o]
    have e2 := newT_app p [o]
    have e3 := keptN_app p [o]
    refine Ev.step (fun k => rfl) ?_
    simp only [patchworklaw12_LcsLeads.l0, lt_mid, nn_nat, if_true, rdOp_mid]
    rcases hk o (List.mem_cons_self ..) with h | h | h
    · have q1 : oldT [o] = [o.f2] := by simp [oldT, h]
      have q2 : newT [o] = [o.f2] := by simp [newT, h]
      have q3 : keptN [o] = 1 := by simp [keptN, h]
      have g1 : ¬ o.f0 = 4 := by omega
      have g2 : ¬ o.f0 = 3 := by omega
      simp only [if_neg g1, if_pos b1]
      refine Ev.step (fun k => rfl) ?_
      simp only [patchworklaw12_LcsLeads.j2, lt_mid, nn_nat, if_true, rdOp_mid, if_neg g2, if_pos b2, Option.bind_some, if_pos h, w, w2]
      rw [e1, e2, e3, q1, q2, q3] at this
      exact this
    · have q1 : oldT [o] = [o.f2] := by simp [oldT, h]
      have q2 : newT [o] = [] := by simp [newT, h]
      have q3 : keptN [o] = 0 := by simp [keptN, h]
      have g1 : ¬ o.f0 = 4 := by omega
      have g2 : ¬ o.f0 = 2 := by omega
      simp only [if_neg g1, if_pos b1]
      refine Ev.step (fun k => rfl) ?_
      simp only [patchworklaw12_LcsLeads.j2, lt_mid, nn_nat, if_true, rdOp_mid, if_neg g2, if_pos h, w]
      rw [e1, e2, e3, q1, q2, q3, List.append_nil, Nat.add_zero] at this
      exact this
    · have q1 : oldT [o] = [] := by simp [oldT, h]
      have q2 : newT [o] = [o.f2] := by simp [newT, h]
      have q3 : keptN [o] = 0 := by simp [keptN, h]
      have g1 : ¬ o.f0 = 3 := by omega
      have g2 : ¬ o.f0 = 2 := by omega
      simp only [if_pos h]
      refine Ev.step (fun k => rfl) ?_
      simp only [patchworklaw12_LcsLeads.j2, lt_mid, nn_nat, if_true, rdOp_mid, if_neg g2, if_neg g1, if_pos b2, Option.bind_some, w]
      rw [e1, e2, e3, q1, q2, q3, List.append_nil, Nat.add_zero] at this
      exact this
theorem LcsLeads.main {a b : List ByteArray} (ha : a.length ≤ 60) (hb : b.length ≤ 60) : Ev (fun k => patchworklaw12_LcsLeads.j0 k a b true false) true := by
  have hl := diffOps_len a b
  refine Ev.step (fun k => rfl) ?_
  simp only [patchworklaw12_LcsLeads.j0, Bool.false_eq_true, if_false]
  refine Ev.bindN (diff_f (by omega) (by omega)) ?_
  have := LcsLeads.loop ha hb (diffOps a b) [] (by simp; omega) (diffOps_old a b) (diffOps_new a b) (diffOps_kept a b) (diffOps_kinds _ a b (Nat.le_refl _))
  simpa [oldT, newT, keptN] using this
theorem LcsLeads.proved : LcsLeads.Pure := by
  intro l0 l1 _ _ hw
  have w0 := wt_len l0
  have w1 := wt_len l1
  have t0 := textSum_le l0
  have t1 := textSum_le l1
  simp only at hw
  obtain ⟨b0, e0, g0⟩ := short_ev l0 (by omega)
  obtain ⟨b1, e1, g1⟩ := short_ev l1 (by omega)
  refine Ev.rounds ?_
  simp only [patchworklaw12_LcsLeads.f]
  refine Ev.bindN alive12 ?_
  simp only [if_true]
  refine Ev.bind' e0 ?_
  cases b0
  · simp only [Bool.false_eq_true, if_false]; exact LcsLeads.out l0 l1
  simp only [if_true]
  refine Ev.bind' e1 ?_
  cases b1
  · simp only [Bool.false_eq_true, if_false]; exact LcsLeads.out l0 l1
  simp only [if_true]
  by_cases c0 : (l0.length : Int) > 60
  · simp only [if_pos c0]; exact LcsLeads.out l0 l1
  simp only [if_neg c0]
  by_cases c1 : (l1.length : Int) > 60
  · simp only [c1, decide_true]; exact LcsLeads.out l0 l1
  simp only [c1, decide_false]
  exact LcsLeads.main (by omega) (by omega)
end Go.Proofs.Ytbmcpfbhcafkdaa.P
