/- Own: LcsBounds holds. -/
import Derived.Test.YtbmcpfbhcafkdaaLA
import Derived.Test.YtbmcpfbhcafkdaaSLcsBounds
namespace Go.Proofs.Ytbmcpfbhcafkdaa.P
open Go.RowKit Go.Proofs.YtbmcpfbhcafkdaaW.PrintWords Go.Proofs.YtbmcpfbhcafkdaaW.PrintLast Go.Proofs.YtbmcpfbhcafkdaaW.PrintMore

theorem LcsBounds.out (a b c : List ByteArray) (d : List Int) : Ev (fun k => patchworklaw12_LcsBounds.j0 k a b c d true true) true := by
  refine Ev.step (fun k => rfl) ?_
  simp only [patchworklaw12_LcsBounds.j0, if_true]
  exact Ev.now true
theorem LcsBounds.fin {a b c : List ByteArray} {d : List Int} (ha : a.length ≤ 40) (hb : b.length ≤ 40) (hc : c.length ≤ 40) {s : List ByteArray} (hs : s.Sublist a) :
    Ev (fun k => patchworklaw12_LcsBounds.l0 k a b c d s (a.length : Int)) true := by
  have hn : ¬ (a.length : Int) < (a.length : Int) := by omega
  have hsl := hs.length_le
  have b1 : c.length < 8796093022208 := by omega
  have b2 : c.length + a.length < 8796093022208 := by omega
  have b3 : c.length + b.length < 8796093022208 := by omega
  have b4 : a.length < 8796093022208 := by omega
  have b5 : a.length + c.length < 8796093022208 := by omega
  have b6 : b.length < 8796093022208 := by omega
  have b7 : b.length + c.length < 8796093022208 := by omega
  have m0 := lcs_le_left a b
  have m1 := lcs_le_right a b
  have m2 : (lcs a b : Int) ≤ (a.length : Int) := by omega
  have m3 : (lcs a b : Int) ≤ (b.length : Int) := by omega
  have m4 := lcs_mono_left hs b
  have m5 : decide ((lcs a b : Int) ≥ (lcs s b : Int)) = true := by rw [decide_eq_true_iff]; omega
  have q1 : wrap64 ((lcs a b : Int) + (c.length : Int)) = ((lcs a b + c.length : Nat) : Int) := by unfold wrap64; omega
  have v1 := len_f (a := a) (b := b) (by omega) (by omega)
  have v2 := len_f (a := a) (b := s) (by omega) (by omega)
  have v3 := len_f (a := c ++ a) (b := c ++ b) (by simp; omega) (by simp; omega)
  have v4 := len_f (a := a ++ c) (b := b ++ c) (by simp; omega) (by simp; omega)
  have v5 := len_f (a := s) (b := b) (by omega) (by omega)
  rw [lcs_of_sublist hs] at v2
  rw [lcs_append_left] at v3
  rw [lcs_append_right] at v4
  refine Ev.step (fun k => rfl) ?_
  simp only [patchworklaw12_LcsBounds.l0, if_neg hn, List.length_nil, List.nil_append, Nat.zero_add, Option.bind_some, if_pos b1, if_pos b2, if_pos b3, if_pos b4, if_pos b5, if_pos b6, if_pos b7, v1, v2, v3, v4, v5, q1, if_true, if_pos m2, if_pos m3, m5]
  exact Ev.now true
theorem LcsBounds.loop {a b c : List ByteArray} {d : List Int} (ha : a.length ≤ 40) (hb : b.length ≤ 40) (hc : c.length ≤ 40) (hd : a.length ≤ d.length) (s : List ByteArray) : ∀ (p t : List ByteArray), a = p ++ s → t.Sublist p →
    Ev (fun k => patchworklaw12_LcsBounds.l0 k a b c d t (p.length : Int)) true := by
  induction s with
  | nil =>
    intro p t hp ht
    rw [List.append_nil] at hp
    subst hp
    exact LcsBounds.fin ha hb hc ht
  | cons x s ih =>
    intro p t hp ht
    have hl : a.length = p.length + (s.length + 1) := by rw [hp]; simp
    have htl := ht.length_le
    have g1 : (p.length : Int) < (a.length : Int) := by omega
    have g2 : (p.length : Int) < (d.length : Int) := by omega
    have g3 : t.length < 8796093022208 := by omega
    have r : rdOf ByteArray.empty a (p.length : Int) = x := by rw [hp]; exact rdOf_mid _ p s x
    have w := wrap_len p x (by omega)
    refine Ev.step (fun k => rfl) ?_
    simp only [patchworklaw12_LcsBounds.l0, if_pos g1, nn_nat, if_true, if_pos g2, if_pos g3, r, w]
    by_cases h : Go.bits .and .i64 (rd d (p.length : Int)) 1 = 1
    · simp only [if_pos h]
      exact ih (p ++ [x]) (t ++ [x]) (by simpa using hp) (ht.append (List.Sublist.refl _))
    · simp only [if_neg h]
      exact ih (p ++ [x]) t (by simpa using hp) (ht.trans (List.sublist_append_left _ _))
theorem LcsBounds.main {a b c : List ByteArray} {d : List Int} (ha : a.length ≤ 40) (hb : b.length ≤ 40) (hc : c.length ≤ 40) (hd : a.length ≤ d.length) : Ev (fun k => patchworklaw12_LcsBounds.j0 k a b c d true false) true := by
  refine Ev.step (fun k => rfl) ?_
  simp only [patchworklaw12_LcsBounds.j0, Bool.false_eq_true, if_false]
  exact LcsBounds.loop ha hb hc hd a [] [] rfl (List.Sublist.refl _)
theorem LcsBounds.proved : LcsBounds.Pure := by
  intro l0 l1 l2 l3 _ _ _ _ hw
  have w0 := wt_len l0
  have w1 := wt_len l1
  have w2 := wt_len l2
  have t0 := textSum_le l0
  have t1 := textSum_le l1
  have t2 := textSum_le l2
  simp only at hw
  obtain ⟨b0, e0, g0⟩ := short_ev l0 (by omega)
  obtain ⟨b1, e1, g1⟩ := short_ev l1 (by omega)
  obtain ⟨b2, e2, g2⟩ := short_ev l2 (by omega)
  refine Ev.rounds ?_
  simp only [patchworklaw12_LcsBounds.f]
  refine Ev.bindN alive12 ?_
  simp only [if_true]
  refine Ev.bind' e0 ?_
  cases b0
  · simp only [Bool.false_eq_true, if_false]; exact LcsBounds.out l0 l1 l2 l3
  simp only [if_true]
  refine Ev.bind' e1 ?_
  cases b1
  · simp only [Bool.false_eq_true, if_false]; exact LcsBounds.out l0 l1 l2 l3
  simp only [if_true]
  refine Ev.bind' e2 ?_
  cases b2
  · simp only [Bool.false_eq_true, if_false]; exact LcsBounds.out l0 l1 l2 l3
  simp only [if_true]
  by_cases c0 : (l0.length : Int) > 40
  · simp only [if_pos c0]; exact LcsBounds.out l0 l1 l2 l3
  simp only [if_neg c0]
  by_cases c1 : (l1.length : Int) > 40
  · simp only [if_pos c1]; exact LcsBounds.out l0 l1 l2 l3
  simp only [if_neg c1]
  by_cases c2 : (l2.length : Int) > 40
  · simp only [if_pos c2]; exact LcsBounds.out l0 l1 l2 l3
  simp only [if_neg c2]
  by_cases c3 : (l3.length : Int) < (l0.length : Int)
  · simp only [c3, decide_true]; exact LcsBounds.out l0 l1 l2 l3
  simp only [c3, decide_false]
  exact LcsBounds.main (by omega) (by omega) (by omega) (by omega)
end Go.Proofs.Ytbmcpfbhcafkdaa.P
