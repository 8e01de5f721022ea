/- Own: SwapDoes holds. -/
import Derived.Test.YtfoponahdidddaaVd
import Derived.Test.YtfoponahdidddaaQc
import Derived.Test.YtfoponahdidddaaQd
import Derived.Test.YtfoponahdidddaaDc
import Derived.Test.YtfoponahdidddaaSSwapDoes
namespace Go.Proofs.Ytfoponahdidddaa.P
open Go.RowKit Go.Proofs.YtfoponahdidddaaW.PrintWords Go.Proofs.YtfoponahdidddaaW.PrintLast Go.Proofs.YtfoponahdidddaaW.PrintMore

theorem SwapDoes.out (a b : List Op) (c : List ByteArray) : Ev (fun k => patchworklaw15_SwapDoes.j0 k a b c true true) true := by
  refine Ev.step (fun k => rfl) ?_
  simp only [patchworklaw15_SwapDoes.j0, if_true]
  exact Ev.now true
/-- What both do, in the other order. -/
theorem swap_do {p q : List Op} {ls : List ByteArray} (hp : Sx p) (hq : Sx q) (lp : p.length ≤ 1000000) (lq : q.length ≤ 1000000) (hl : ls.length ≤ 2000000) (h1 : (doL p ls).2 = true) (h2 : (doL q (doL p ls).1).2 = true) :
    (swapL p q).2.2 = 7 ∨ ((swapL p q).2.2 = 0 ∧ (doL (swapL p q).1 ls).2 = true ∧ doL (swapL p q).2.1 (doL (swapL p q).1 ls).1 = ((doL q (doL p ls).1).1, true)) := by
  obtain ⟨t1, t2⟩ := then_do lp lq hl h1 h2
  obtain ⟨u, rp, rq, hc, ru, ht⟩ := thenL_some t1
  obtain ⟨W, hW, hu⟩ := Option.map_eq_some_iff.mp hc
  subst hu
  obtain ⟨_, v2⟩ := swap_val hp hq rp rq hW
  obtain ⟨v3, v4⟩ := v2 ru
  by_cases h3 : no3 W
  · obtain ⟨v5, v6⟩ := v4 h3
    cases hto : touchT 0 W
    · have v := v6 hto
      by_cases hs : rightU (fstT W) = true ∧ rightU (sndT W) = true
      · rw [if_pos hs] at v
        right
        rw [v]
        have hd : (doL (thenL p q).1 ls).2 = true := by rw [t2]
        obtain ⟨r, a1, a2, a3, a4, a5⟩ := doL_true hd
        rw [a5] at t2
        have hr : r = (doL q (doL p ls).1).1 := (Prod.mk.inj t2).1
        rw [ex_then ht, doU_nf0, un_no3 h3] at a3
        have hcl : closedS false (news (fstT W)) = true := by
          have := hs.1
          unfold rightU okS at this
          simp only [Bool.and_eq_true] at this
          exact this.2.2.1
        obtain ⟨c, b1, b2, b3⟩ := twoT W ls r ((WT.of _ _ _ _ hW).owns h3).ok a3 a2 a4 hcl
        have d1 : doL (pack (nf [] (fstT W))) ls = (c, true) := doL_of (by rw [right_pack, rightU_nf]; exact hs.1) a2 (by rw [ex_pack, doU_nf0]; exact b1) b3
        have d2 : doL (pack (nf [] (sndT W))) c = (r, true) := doL_of (by rw [right_pack, rightU_nf]; exact hs.2) b3 (by rw [ex_pack, doU_nf0]; exact b2) a4
        exact ⟨rfl, by rw [d1], by rw [d1, d2, hr]⟩
      · rw [if_neg hs] at v
        left; rw [v]
    · left; rw [v5 hto]
  · left; rw [v3 h3]
theorem SwapDoes.proved : SwapDoes.Pure := by
  intro p q ls _ _ _ hw
  simp only at hw
  have fp := fewN_le p
  have fq := fewN_le q
  have lp := fewN_len p
  have lq := fewN_len q
  have w1 := wt_len ls
  have t1 := textSum_le ls
  have hls : SmT ls := SmT.of_wt (by omega)
  obtain ⟨b1, e1, s1⟩ := short_ev ls (by omega)
  refine Ev.rounds ?_
  simp only [patchworklaw15_SwapDoes.f]
  refine Ev.bind' alive15 ?_
  simp only [if_true]
  refine Ev.bind' (few_ev (by omega)) ?_
  by_cases h : fewN p ≤ 600
  · simp only [h, decide_true, if_true]
    refine Ev.bind' (few_ev (by omega)) ?_
    by_cases h2 : fewN q ≤ 600
    · simp only [h2, decide_true, if_true]
      refine Ev.bind' e1 ?_
      cases b1
      · exact SwapDoes.out p q ls
      simp only [Bool.not_true]
      have hp := Sx.of_few h
      have hq := Sx.of_few h2
      obtain ⟨sx, sy⟩ := hp.swap hq (by omega)
      have sl := swap_len hp hq
      have sa : SmT (doL p ls).1 := doL_SmT (by omega) hp.sm (by omega) hls
      have no : ∀ (a : Bool) (b : List ByteArray) (c : Bool) (x y : List Op) (e : Int), (a = true → c = true → e = 7) → Ev (fun k => patchworklaw15_SwapDoes.j1 k ls a b c x y e true) true := by
        intro a b c x y e he
        refine Ev.step (fun k => rfl) ?_
        simp only [patchworklaw15_SwapDoes.j1, if_true]
        cases a
        · simp only [Bool.false_eq_true, if_false]; exact Ev.now _
        · simp only [if_true]
          cases c
          · simp only [Bool.false_eq_true, if_false]; exact Ev.now _
          · simp only [if_true, num_val, Option.bind_some, he rfl rfl]; exact Ev.now _
      refine Ev.step (fun k => rfl) ?_
      simp only [patchworklaw15_SwapDoes.j0, Bool.false_eq_true, if_false]
      refine Ev.bind' (refdo_ev hp.sm hls) ?_
      refine Ev.bind' (refdo_ev hq.sm sa) ?_
      refine Ev.bind' (pswap_ev hp hq) ?_
      cases d1 : (doL p ls).2
      · simp only [Bool.false_eq_true, if_false]
        exact no _ _ _ _ _ _ (fun h => by simp at h)
      simp only [if_true]
      cases d2 : (doL q (doL p ls).1).2
      · simp only [Bool.false_eq_true, if_false]
        exact no _ _ _ _ _ _ (fun _ h => by simp at h)
      simp only [if_true, num_val, Option.bind_some]
      rcases swap_do hp hq (by omega) (by omega) (by omega) d1 d2 with h7 | ⟨h0, k1, k2⟩
      · rw [h7]
        exact no _ _ _ _ _ _ (fun _ _ => rfl)
      · rw [h0]
        have sb : SmT (doL (swapL p q).1 ls).1 := doL_SmT (by omega) sx.sm (by omega) hls
        have sc : SmT (doL q (doL p ls).1).1 := by
          have lsa : (doL p ls).1.length < 2199023255552 := by
            obtain ⟨r, _, _, r3, _, r5⟩ := doL_true d1
            rw [r5]
            have := doU_len _ _ _ r3
            have := insN_ex p
            show r.length < _
            omega
          exact doL_SmT (by omega) hq.sm lsa sa
        have lc : (doL q (doL p ls).1).1.length < 4398046511104 := sc.1
        refine Ev.step (fun k => rfl) ?_
        simp only [patchworklaw15_SwapDoes.j1, bne_self_eq_false, Bool.false_eq_true, if_false]
        refine Ev.bind' (refdo_ev sx.sm hls) ?_
        refine Ev.bind' (refdo_ev sy.sm sb) ?_
        rw [k2]
        simp only [k1, if_true]
        refine Ev.bind' (texts_ev _ _ (by omega)) ?_
        simp only [decide_true]
        exact Ev.now true
    · simp only [h2, decide_false, Bool.false_eq_true, if_false]
      exact SwapDoes.out p q ls
  · simp only [h, decide_false, Bool.false_eq_true, if_false]
    exact SwapDoes.out p q ls
end Go.Proofs.Ytfoponahdidddaa.P
