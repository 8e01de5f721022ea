/- Own: PickAll holds. -/
import Derived.Test.YthognikhmbabhaaPc
import Derived.Test.YthognikhmbabhaaSPickAll
namespace Go.Proofs.Ythognikhmbabhaa.P
open Go.RowKit Go.Proofs.YthognikhmbabhaaW.PrintWords Go.Proofs.YthognikhmbabhaaW.PrintLast Go.Proofs.YthognikhmbabhaaW.PrintMore
set_option linter.unusedVariables false
set_option linter.unusedSimpArgs false

theorem PickAll.out (a : List Op) (b : List Bool) : Ev (fun k => patchworklaw16_PickAll.j0 k a b true true) true := by
  refine Ev.step (fun k => rfl) ?_
  simp only [patchworklaw16_PickAll.j0, if_true]
  exact Ev.now true
theorem Sm.pickedA {l : List Op} (h : Sm l) (ps : List Bool) : Sm (pickL l ps).1 ∧ Sm (pickL l ps).2 := by
  have hm := h.norms
  unfold pickL
  simp only
  generalize (if rightL l then normL l else []) = m at hm ⊢
  split
  · rename_i c
    exact ⟨(hm.pkF ps 0).norm (rightL_form c.1), (hm.pkS ps 0).norm (rightL_form c.2)⟩
  · exact ⟨.nil, .nil⟩
/-- All are picked. -/
theorem pick_every {l : List Op} (hr : rightL l = true) {ps : List Bool} (h : cntB (ps.take (chU (nf [] (ex l)))) = chU (nf [] (ex l))) : (pickL l ps).1 = normL l ∧ chN (pickL l ps).2 = 0 := by
  have ok := tagC_ok (nf [] (ex l)) ps
  have ha := tagC_all (nf [] (ex l)) ps
  obtain ⟨c1, c2⟩ := cnt_two (nf [] (ex l)) ps
  obtain ⟨d1, d2⟩ := chU_two _ ok
  have z : ((tagC ps (nf [] (ex l))).filter fun x => isCh x.1 && decide (x.2 = 1)).length = 0 := by omega
  have e1 : fstT (pickW l ps) = nf [] (ex l) := (fst_all _ ok z).trans ha
  have r1 : rightU (nf [] (ex l)) = true := by rw [rightU_nf]; exact rightL_U hr
  have m1 := mid_fst _ ok
  have m2 := news_snd _ ok
  rw [ha] at m2
  have r2 : rightU (sndT (pickW l ps)) = true := by
    unfold rightU
    rw [show olds (sndT (pickW l ps)) = news (nf [] (ex l)) from m1.symm.trans (by rw [show fstT (tagC ps (nf [] (ex l))) = nf [] (ex l) from e1]), show news (sndT (pickW l ps)) = news (nf [] (ex l)) from m2]
    unfold rightU at r1
    rw [Bool.and_eq_true] at r1
    rw [r1.2]; rfl
  rw [pickL_of hr, e1, if_pos ⟨r1, r2⟩]
  refine ⟨?_, ?_⟩
  · show pack (nf [] (nf [] (ex l))) = _
    rw [nf_nf _ _ _ .nil]; rfl
  · show chN (pack (nf [] (sndT (pickW l ps)))) = 0
    rw [chN_pack, chU_nf0]
    exact d2.trans z
/-- None is picked. -/
theorem pick_none {l : List Op} (hr : rightL l = true) : (pickL l []).2 = normL l ∧ chN (pickL l []).1 = 0 := by
  have ok := tagC_ok (nf [] (ex l)) []
  have ha := tagC_all (nf [] (ex l)) []
  obtain ⟨c1, c2⟩ := cnt_two (nf [] (ex l)) []
  obtain ⟨d1, d2⟩ := chU_two _ ok
  have z : ((tagC [] (nf [] (ex l))).filter fun x => isCh x.1 && decide (x.2 = 2)).length = 0 := by rw [c1]; simp [cntB]
  have e1 : sndT (pickW l []) = nf [] (ex l) := (snd_all _ ok z).trans ha
  have r1 : rightU (nf [] (ex l)) = true := by rw [rightU_nf]; exact rightL_U hr
  have m1 := mid_fst _ ok
  have m2 := olds_fst _ ok
  rw [ha] at m2
  have r2 : rightU (fstT (pickW l [])) = true := by
    unfold rightU
    rw [show news (fstT (pickW l [])) = olds (nf [] (ex l)) from m1.trans (by rw [show sndT (tagC [] (nf [] (ex l))) = nf [] (ex l) from e1]), show olds (fstT (pickW l [])) = olds (nf [] (ex l)) from m2]
    unfold rightU at r1
    rw [Bool.and_eq_true] at r1
    rw [r1.1]; rfl
  rw [pickL_of hr, e1, if_pos ⟨r2, r1⟩]
  refine ⟨?_, ?_⟩
  · show pack (nf [] (nf [] (ex l))) = _
    rw [nf_nf _ _ _ .nil]; rfl
  · show chN (pack (nf [] (fstT (pickW l [])))) = 0
    rw [chN_pack, chU_nf0]
    exact d1.trans z
theorem pick_some {l : List Op} (hr : rightL l = true) (ps : List Bool) (h : ¬ ((pickL l ps).1 = [] ∧ (pickL l ps).2 = [])) :
    chN (pickL l ps).1 = cntB (ps.take (chN l)) ∧ chN (pickL l ps).2 + cntB (ps.take (chN l)) = chN l := by
  have ok := tagC_ok (nf [] (ex l)) ps
  obtain ⟨c1, c2⟩ := cnt_two (nf [] (ex l)) ps
  obtain ⟨d1, d2⟩ := chU_two _ ok
  have e : chN l = chU (nf [] (ex l)) := by rw [chU_nf0, chN_ex (rightL_form hr)]
  rw [pickL_of hr] at h ⊢
  split
  · show chN (pack _) = _ ∧ chN (pack _) + _ = _
    rw [chN_pack, chN_pack, chU_nf0, chU_nf0, e]
    exact ⟨d1.trans c1, by show chU (sndT (tagC ps (nf [] (ex l)))) + _ = _; omega⟩
  · rename_i c
    rw [if_neg c] at h
    simp at h
theorem set_mid {α : Type} (p s : List α) (x y : α) : (p ++ x :: s).set (p.length : Int).toNat y = (p ++ [y]) ++ s := by
  rw [Int.toNat_natCast, List.set_append_right _ _ (Nat.le_refl _), Nat.sub_self, List.set_cons_zero, List.append_assoc]; rfl
theorem PickAll.fill (l : List Op) (ps : List Bool) (s : List Bool) : ∀ (p : List Bool) (v : Bool), p.length + s.length < 4611686018427387904 →
    Ev (fun k => patchworklaw16_PickAll.l0 k l ps (p ++ List.replicate s.length true) ((p ++ List.replicate s.length true).length : Int)) v → Ev (fun k => patchworklaw16_PickAll.l0 k l ps (p ++ s) (p.length : Int)) v := by
  induction s with
  | nil =>
    intro p v _ h
    simpa using h
  | cons x s ih =>
    intro p v hl h
    simp only [List.length_cons] at hl
    have i := ih (p ++ [true]) v (by simp; omega) (by simpa [List.replicate_succ] using h)
    refine Ev.step (fun k => rfl) ?_
    simp only [patchworklaw16_PickAll.l0, lt_mid, nn_nat, if_true, set_mid]
    rw [show wrap64 ((p.length : Int) + 1) = ((p ++ [true]).length : Int) from wrap_len p true (by omega)]
    exact i
theorem cntB_snoc (l : List Bool) (b : Bool) : cntB (l ++ [b]) = cntB l + (if b = true then 1 else 0) := by
  cases b <;> simp [cntB]
theorem PickAll.count {l : List Op} (hs : Sm l) (x8 x9 x10 x11 x12 x13 x14 : List Op) (s : List Bool) : ∀ (p : List Bool) (v : Bool), (p ++ s).length < 4611686018427387904 → p.length ≤ chN l →
    Ev (fun k => patchworklaw16_PickAll.j3 k l (p ++ s) x8 x9 x10 x11 x12 x13 x14 (cntB ((p ++ s).take (chN l)) : Int) ((min (p ++ s).length (chN l) : Nat) : Int) false) v →
    Ev (fun k => patchworklaw16_PickAll.l1 k l (p ++ s) x8 x9 x10 x11 x12 x13 x14 (cntB p : Int) (p.length : Int)) v := by
  induction s with
  | nil =>
    intro p v hl hp h
    refine Ev.step (fun k => rfl) ?_
    simp only [patchworklaw16_PickAll.l1, lt_end, if_false]
    rw [List.append_nil] at h ⊢
    rw [List.take_of_length_le hp, Nat.min_eq_left hp] at h
    exact h
  | cons b s ih =>
    intro p v hl hp h
    have hcl := chN_le l
    have hll := hs.1
    refine Ev.step (fun k => rfl) ?_
    simp only [patchworklaw16_PickAll.l1, lt_mid, nn_nat, if_true]
    refine Ev.bind' (changes_ev hs) ?_
    by_cases c : p.length < chN l
    · have c' : (p.length : Int) < (chN l : Int) := by omega
      have i := ih (p ++ [b]) v (by simpa using hl) (by simp; omega) (by simpa using h)
      rw [List.append_assoc, List.singleton_append, cntB_snoc] at i
      have rm : rdOf false (p ++ b :: s) (p.length : Int) = b := rdOf_mid false p s b
      have w := wrap_len p b (by omega)
      have hc : cntB p ≤ p.length := List.length_filter_le _ _
      have w2 : wrap64 ((cntB p : Int) + 1) = ((cntB p + 1 : Nat) : Int) := by unfold wrap64; omega
      simp only [c', decide_true]
      refine Ev.step (fun k => rfl) ?_
      simp only [patchworklaw16_PickAll.j3, if_true, nn_nat, lt_mid, rm, w, w2]
      cases b
      · simp only [Bool.false_eq_true, if_false]; exact i
      · simp only [if_true]; exact i
    · have c' : ¬ (p.length : Int) < (chN l : Int) := by omega
      have hp' : p.length = chN l := by omega
      simp only [c', decide_false]
      rw [List.take_append_of_le_length (by omega), List.take_of_length_le (by omega), show min (p ++ b :: s).length (chN l) = p.length from by simp; omega] at h
      exact h
theorem PickAll.proved : PickAll.Pure := by
  intro l ps _ _ hw
  simp only at hw
  have hs : Sm l := Sm.of_wt (by omega)
  have hf := fewN_le l
  have hfl := fewN_len l
  have hll := hs.1
  refine Ev.rounds ?_
  simp only [patchworklaw16_PickAll.f]
  refine Ev.bind' alive16 ?_
  simp only [if_true]
  refine Ev.bind' (few_ev (by omega)) ?_
  by_cases h : fewN l ≤ 600
  · simp only [h, decide_true, if_true]
    refine Ev.bind' (refright_ev hs) ?_
    cases hr : rightL l
    · simp only [Bool.false_eq_true, if_false]; exact PickAll.out l ps
    simp only [if_true]
    by_cases hp : (ps.length : Int) > 600
    · simp only [hp, decide_true]; exact PickAll.out l ps
    simp only [hp, decide_false]
    have hcl := chN_le l
    have e : chN l = chU (nf [] (ex l)) := by rw [chU_nf0, chN_ex (rightL_form hr)]
    have every : cntB ((List.replicate 700 true).take (chU (nf [] (ex l)))) = chU (nf [] (ex l)) := by
      rw [← e, List.take_replicate, Nat.min_eq_left (by omega)]
      simp [cntB]
    obtain ⟨q1, q2⟩ := pick_every hr every
    obtain ⟨n1, n2⟩ := pick_none hr
    obtain ⟨s1, s2⟩ := hs.pickedA (List.replicate 700 true)
    obtain ⟨t1, t2⟩ := hs.pickedA []
    obtain ⟨u1, u2⟩ := hs.pickedA ps
    have rn := refNorm_ev hs
    rw [hr, if_pos rfl] at rn
    have c7 : (700 : Int) ≤ 281474976710656 := by omega
    refine Ev.step (fun k => rfl) ?_
    simp only [patchworklaw16_PickAll.j0, Bool.false_eq_true, if_false, show (700 ≤ 281474976710656) = True from by simp, if_true]
    have f := PickAll.fill l ps (List.replicate 700 false) [] true (by rw [List.length_replicate]; simp)
    simp only [List.nil_append, List.length_nil, Int.natCast_zero, List.length_replicate] at f
    refine f ?_
    have g : ¬ ((List.replicate 700 true).length : Int) < ((List.replicate 700 true).length : Int) := by omega
    have g2 : ¬ ((700 : Nat) : Int) < ((700 : Nat) : Int) := by omega
    refine Ev.step (fun k => rfl) ?_
    simp only [patchworklaw16_PickAll.l0, List.length_replicate, g2, if_false]
    refine Ev.bind' rn ?_
    refine Ev.bind' (pick_ev hs _) ?_
    refine Ev.bind' (pick_ev hs []) ?_
    refine Ev.bind' (pick_ev hs ps) ?_
    have cc := PickAll.count hs (normL l) (pickL l (List.replicate 700 true)).1 (pickL l (List.replicate 700 true)).2 (pickL l []).1 (pickL l []).2 (pickL l ps).1 (pickL l ps).2 ps [] true (by simp; omega) (by simp)
    simp only [List.nil_append, List.length_nil, Int.natCast_zero, show cntB [] = 0 from rfl] at cc
    refine cc ?_
    clear cc f
    have fin : Ev (fun k => patchworklaw16_PickAll.j4 k l (pickL l ps).1 (pickL l ps).2 (cntB (ps.take (chN l)) : Int) false) true := by
      refine Ev.step (fun k => rfl) ?_
      simp only [patchworklaw16_PickAll.j4, Bool.false_eq_true, if_false]
      by_cases hn : (pickL l ps).1 = [] ∧ (pickL l ps).2 = []
      · rw [hn.1, hn.2]
        simp only [List.length_nil, Int.natCast_zero, if_true]
        exact Ev.now true
      · obtain ⟨k1, k2⟩ := pick_some hr ps hn
        have w : wrap64 ((chN l : Int) - (cntB (ps.take (chN l)) : Int)) = (chN (pickL l ps).2 : Int) := by unfold wrap64; omega
        have k1' : (chN (pickL l ps).1 : Int) = (cntB (ps.take (chN l)) : Int) := by omega
        have rest : Ev (fun k => (patchworkref8_Changes.f k (pickL l ps).1).bind fun t628 => if t628 = (cntB (ps.take (chN l)) : Int) then (patchworkref8_Changes.f k (pickL l ps).2).bind fun t629 => (patchworkref8_Changes.f k l).bind fun t630 => some (t629 == wrap64 (t630 - (cntB (ps.take (chN l)) : Int))) else some false) true := by
          refine Ev.bind' (changes_ev u1) ?_
          simp only [if_pos k1']
          refine Ev.bind' (changes_ev u2) ?_
          refine Ev.bind' (changes_ev hs) ?_
          rw [w]
          simp only [beq_self_eq_true]
          exact Ev.now true
        by_cases z1 : ((pickL l ps).1.length : Int) = 0
        · have z2 : ¬ ((pickL l ps).2.length : Int) = 0 := fun z2 => hn ⟨List.length_eq_zero_iff.mp (by omega), List.length_eq_zero_iff.mp (by omega)⟩
          simp only [if_pos z1, if_neg z2]
          exact rest
        · simp only [if_neg z1]
          exact rest
    refine Ev.step (fun k => rfl) ?_
    simp only [patchworklaw16_PickAll.j3, Bool.false_eq_true, if_false]
    refine Ev.bind' (same_ev _ _ (by have := s1.1; omega)) ?_
    simp only [q1, decide_true, if_true]
    refine Ev.bind' (changes_ev s2) ?_
    simp only [q2, Int.natCast_zero, if_true]
    refine Ev.bind' (changes_ev t1) ?_
    simp only [n2, Int.natCast_zero, if_true]
    refine Ev.bind' (same_ev _ _ (by have := t2.1; omega)) ?_
    simp only [n1, decide_true, Bool.not_true]
    exact fin
  · simp only [h, decide_false, Bool.false_eq_true, if_false]
    exact PickAll.out l ps
end Go.Proofs.Ythognikhmbabhaa.P
