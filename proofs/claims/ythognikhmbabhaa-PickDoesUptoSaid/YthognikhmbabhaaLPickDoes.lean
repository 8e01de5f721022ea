/- Own: PickDoes holds. -/
import Derived.Test.YthognikhmbabhaaPc
import Derived.Test.YthognikhmbabhaaSPickDoes
namespace Go.Proofs.Ythognikhmbabhaa.P
open Go.RowKit Go.Proofs.YthognikhmbabhaaW.PrintWords Go.Proofs.YthognikhmbabhaaW.PrintLast Go.Proofs.YthognikhmbabhaaW.PrintMore
set_option linter.unusedSimpArgs false
set_option linter.unusedVariables false

theorem PickDoes.out (a : List Op) (b : List Bool) (c d : List ByteArray) : Ev (fun k => patchworklaw16_PickDoes.j0 k a b c true d true) true := by
  refine Ev.step (fun k => rfl) ?_
  simp only [patchworklaw16_PickDoes.j0, if_true]
  exact Ev.now true
theorem Sm.picked' {l : List Op} (h : Sm l) (ps : List Bool) : Sm (pickL l ps).1 ∧ Sm (pickL l ps).2 := by
  have hm := h.norms
  unfold pickL
  simp only
  generalize (if rightL l then normL l else []) = m at hm ⊢
  split
  · rename_i c
    exact ⟨(hm.pkF ps 0).norm (rightL_form c.1), (hm.pkS ps 0).norm (rightL_form c.2)⟩
  · exact ⟨.nil, .nil⟩
theorem pick_len {l : List Op} (hr : rightL l = true) (ps : List Bool) : (pickL l ps).1.length ≤ l.length ∧ (pickL l ps).2.length ≤ l.length := by
  have e : (normL l).length ≤ l.length := by
    have := nf_pack_len l [] (rightL_form hr)
    simpa [normL] using this
  have len : ∀ {x : List Op}, rightL x = true → (normL x).length ≤ x.length := fun {x} hx => by
    have := nf_pack_len x [] (rightL_form hx)
    simpa [normL] using this
  unfold pickL
  simp only [hr, if_true]
  split
  · rename_i c
    have h1 := (pkF_sm ps (normL l) 0).1
    have h2 := (pkS_sm ps (normL l) 0).1
    have h3 := len c.1
    have h4 := len c.2
    exact ⟨by simp only; omega, by simp only; omega⟩
  · simp
theorem PickDoes.core {l : List Op} {ls r : List ByteArray} (ps : List Bool) (hd : doL l ls = (r, true)) (h1 : rightL l = true) (h2 : wholeL ls = true) (h3 : doU (ex l) ls = some r) (h4 : wholeL r = true) (hn : ¬ ((pickL l ps).1 = [] ∧ (pickL l ps).2 = [])) :
    ∃ c, doL (pickL l ps).1 ls = (c, true) ∧ doU (ex (pickL l ps).1) ls = some c ∧ doL (pickL l ps).2 c = (r, true) ∧ doU (ex (pickL l ps).2) c = some r := by
  rw [pickL_of h1 ps] at hn ⊢
  split at hn
  · rename_i c
    rw [if_pos c]
    have ok := tagC_ok (nf [] (ex l)) ps
    have ha := tagC_all (nf [] (ex l)) ps
    have hu : doU (allT (pickW l ps)) ls = some r := by
      show doU (allT (tagC ps (nf [] (ex l)))) ls = some r
      rw [ha, doU_nf0]; exact h3
    have hc : closedS false (news (fstT (pickW l ps))) = true := by
      have := c.1
      unfold rightU okS at this
      simp only [Bool.and_eq_true] at this
      exact this.2.2.1
    obtain ⟨m, m1, m2, m3⟩ := twoT (pickW l ps) ls r ok hu h2 h4 hc
    have e1 : doU (ex (pack (nf [] (fstT (pickW l ps))))) ls = some m := by rw [ex_pack, doU_nf0]; exact m1
    have e2 : doU (ex (pack (nf [] (sndT (pickW l ps))))) m = some r := by rw [ex_pack, doU_nf0]; exact m2
    refine ⟨m, doL_of ?_ h2 e1 m3, e1, doL_of ?_ m3 e2 h4, e2⟩
    · rw [right_pack, rightU_nf]; exact c.1
    · rw [right_pack, rightU_nf]; exact c.2
  · simp at hn
theorem PickDoes.proved : PickDoes.Pure := by
  intro l ps ls _ _ _ hw
  simp only at hw
  have hs : Sm l := Sm.of_wt (by omega)
  have hf := fewN_le l
  have hfl := fewN_len l
  have w1 := wt_len ls
  have t1 := textSum_le ls
  have hls : SmT ls := SmT.of_wt (by omega)
  obtain ⟨b1, e1, _⟩ := short_ev ls (by omega)
  refine Ev.rounds ?_
  simp only [patchworklaw16_PickDoes.f]
  refine Ev.bind' alive16 ?_
  refine Ev.bind' (refdo_ev hs hls) ?_
  simp only [if_true]
  refine Ev.bind' (few_ev (by omega)) ?_
  by_cases h : fewN l ≤ 600
  · simp only [h, decide_true, if_true]
    by_cases hp : (ps.length : Int) > 600
    · simp only [if_pos hp]
      exact PickDoes.out l ps ls _
    simp only [if_neg hp]
    refine Ev.bind' e1 ?_
    cases b1
    · simp only [Bool.false_eq_true, if_false]; exact PickDoes.out l ps ls _
    simp only [if_true]
    by_cases hd : (doL l ls).2 = true
    · obtain ⟨r, d1, d2, d3, d4, d5⟩ := doL_true hd
      rw [d5]
      obtain ⟨p1, p2⟩ := hs.picked' ps
      obtain ⟨n1, n2⟩ := pick_len d1 ps
      simp only [Bool.not_true]
      refine Ev.step (fun k => rfl) ?_
      simp only [patchworklaw16_PickDoes.j0, Bool.false_eq_true, if_false]
      refine Ev.bind' (pick_ev hs ps) ?_
      by_cases hn : (pickL l ps).1 = [] ∧ (pickL l ps).2 = []
      · rw [show pickL l ps = ([], []) from Prod.ext hn.1 hn.2]
        simp only [List.length_nil, Int.natCast_zero, if_true, beq_self_eq_true]
        refine Ev.step (fun k => rfl) ?_
        simp only [patchworklaw16_PickDoes.j1, if_true]
        exact Ev.now true
      · obtain ⟨c, c1, c2, c3, c4⟩ := PickDoes.core ps d5 d1 d2 d3 d4 hn
        have hc : SmT c := hls.done (by omega) p1 (by omega) c2
        have go : Ev (fun k => patchworklaw16_PickDoes.j1 k ls r (pickL l ps).1 (pickL l ps).2 false) true := by
          refine Ev.step (fun k => rfl) ?_
          simp only [patchworklaw16_PickDoes.j1, Bool.false_eq_true, if_false]
          refine Ev.bind' (refdo_ev p1 hls) ?_
          rw [c1]
          refine Ev.bind' (refdo_ev p2 hc) ?_
          rw [c3]
          simp only [if_true]
          refine Ev.bind' (texts_ev _ _ (by have := (hls.done (by omega) hs (by omega) d3).1; omega)) ?_
          simp only [decide_true]
          exact Ev.now true
        by_cases q1 : ((pickL l ps).1.length : Int) = 0
        · simp only [if_pos q1]
          have q2 : ((((pickL l ps).2.length : Nat) : Int) == 0) = false := by
            have : (pickL l ps).1 = [] := List.length_eq_zero_iff.mp (by omega)
            have : (pickL l ps).2.length ≠ 0 := fun e => hn ⟨this, List.length_eq_zero_iff.mp e⟩
            simpa using this
          rw [q2]
          exact go
        · simp only [if_neg q1]
          exact go
    · have hd : (doL l ls).2 = false := by simpa using hd
      rw [hd]
      simp only [Bool.not_false]
      exact PickDoes.out l ps ls _
  · simp only [h, decide_false, Bool.false_eq_true, if_false]
    exact PickDoes.out l ps ls _
end Go.Proofs.Ythognikhmbabhaa.P
