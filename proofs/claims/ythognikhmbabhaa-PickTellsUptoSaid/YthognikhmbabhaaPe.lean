/- Own: what is picked, on single lines. -/
import Derived.Test.YthognikhmbabhaaPb
import Derived.Test.YthognikhmbabhaaT0
namespace Go.Proofs.Ythognikhmbabhaa.P
open Go.RowKit Go.Proofs.YthognikhmbabhaaW.PrintWords Go.Proofs.YthognikhmbabhaaW.PrintLast Go.Proofs.YthognikhmbabhaaW.PrintMore
set_option linter.unusedVariables false
set_option linter.unusedSimpArgs false

/-- Each change with 2, if it is picked, with 1, if it is not. -/
def tagC : List Bool → List U → List TU
  | _, [] => []
  | ps, x :: u => if isCh x = true then (x, if ps.headD false = true then 2 else 1) :: tagC ps.tail u else (x, 0) :: tagC ps u
theorem tagC_ch {x : U} (h : isCh x = true) (ps : List Bool) (u : List U) : tagC ps (x :: u) = (x, if ps.headD false = true then 2 else 1) :: tagC ps.tail u := by rw [tagC, if_pos h]
theorem tagC_st {x : U} (h : isCh x = false) (ps : List Bool) (u : List U) : tagC ps (x :: u) = (x, 0) :: tagC ps u := by rw [tagC, if_neg (by rw [h]; simp)]
theorem tagC_ok : ∀ (u : List U) (ps : List Bool), okT (tagC ps u)
  | [], ps => okT.nil
  | x :: u, ps => by
    cases h : isCh x
    · rw [tagC_st h]
      intro y hy hc
      rcases List.mem_cons.mp hy with rfl | hy
      · rw [h] at hc; simp at hc
      · exact tagC_ok u ps y hy hc
    · rw [tagC_ch h]
      intro y hy hc
      rcases List.mem_cons.mp hy with rfl | hy
      · simp only; split <;> simp
      · exact tagC_ok u ps.tail y hy hc
theorem tagC_all : ∀ (u : List U) (ps : List Bool), allT (tagC ps u) = u
  | [], ps => rfl
  | x :: u, ps => by
    have i := tagC_all u
    unfold allT at i ⊢
    cases h : isCh x
    · rw [tagC_st h, List.map_cons, i]
    · rw [tagC_ch h, List.map_cons, i]
theorem tagC_skips (ps : List Bool) (u : List U) : ∀ n : Nat, tagC ps (List.replicate n .skip ++ u) = List.replicate n (.skip, 0) ++ tagC ps u
  | 0 => rfl
  | n + 1 => by rw [List.replicate_succ, List.cons_append, tagC_st rfl, tagC_skips ps u n]; rfl
theorem fst_skips (w : List TU) : ∀ n : Nat, fstT (List.replicate n (.skip, 0) ++ w) = List.replicate n .skip ++ fstT w
  | 0 => rfl
  | n + 1 => by rw [List.replicate_succ, List.cons_append, fstT, fst_skips w n]; rfl
theorem snd_skips (w : List TU) : ∀ n : Nat, sndT (List.replicate n (.skip, 0) ++ w) = List.replicate n .skip ++ sndT w
  | 0 => rfl
  | n + 1 => by rw [List.replicate_succ, List.cons_append, sndT, snd_skips w n]; rfl
theorem drop_tail (ps : List Bool) (n : Nat) : (ps.drop n).tail = ps.drop (n + 1) := by simp
theorem drop_head (ps : List Bool) (n : Nat) : (ps.drop n).headD false = ps.getD n false := by
  rw [List.getD_eq_getElem?_getD, List.headD_eq_head?_getD, List.head?_drop]
/-- The picked steps, line by line. -/
theorem ex_pk (ps : List Bool) : ∀ (l : List Op) (n : Nat), (∀ o ∈ l, formO o) →
    ex (pkF ps n l) = fstT (tagC (ps.drop n) (ex l)) ∧ ex (pkS ps n l) = sndT (tagC (ps.drop n) (ex l)) ∧ (∀ o ∈ pkF ps n l, formO o) ∧ (∀ o ∈ pkS ps n l, formO o) ∧ skips (pkF ps n l) = skips l ∧ skips (pkS ps n l) = skips l
  | [], n, _ => ⟨rfl, rfl, fun o h => by simp [pkF] at h, fun o h => by simp [pkS] at h, rfl, rfl⟩
  | o :: l, n, h => by
    have ho := h o (List.mem_cons_self ..)
    have i := fun n => ex_pk ps l n fun x hx => h x (List.mem_cons_of_mem _ hx)
    have fc : ∀ {x : Op} {r : List Op}, formO x → (∀ y ∈ r, formO y) → ∀ y ∈ x :: r, formO y := by
      intro x r hx hr y hy
      rcases List.mem_cons.mp hy with rfl | hy
      · exact hx
      · exact hr y hy
    rcases ho with ⟨hk, h1, h2⟩ | ⟨hk | hk | hk, h1⟩
    · obtain ⟨i1, i2, i3, i4, i5, i6⟩ := i n
      have hc : chO o = false := by simp [chO, hk]
      have hf : formO o := .inl ⟨hk, h1, h2⟩
      simp only [pkF, pkS, hc, Bool.false_eq_true, if_false]
      refine ⟨?_, ?_, fc hf i3, fc hf i4, by rw [skips_cons, skips_cons, i5], by rw [skips_cons, skips_cons, i6]⟩
      · rw [ex_cons, ex_cons, show exO o = List.replicate o.f1.toNat .skip from by simp [exO, hk], tagC_skips, fst_skips, i1]
      · rw [ex_cons, ex_cons, show exO o = List.replicate o.f1.toNat .skip from by simp [exO, hk], tagC_skips, snd_skips, i2]
    · obtain ⟨i1, i2, i3, i4, i5, i6⟩ := i n
      have hc : chO o = false := by simp [chO, hk]
      have hf : formO o := .inr ⟨.inl hk, h1⟩
      have he : exO o = [.keep o.f2] := by simp [exO, hk]
      simp only [pkF, pkS, hc, Bool.false_eq_true, if_false]
      refine ⟨?_, ?_, fc hf i3, fc hf i4, by rw [skips_cons, skips_cons, i5], by rw [skips_cons, skips_cons, i6]⟩
      · rw [ex_cons, ex_cons, he, List.singleton_append, List.singleton_append, tagC_st rfl, fstT, i1]
      · rw [ex_cons, ex_cons, he, List.singleton_append, List.singleton_append, tagC_st rfl, sndT, i2]
    · obtain ⟨i1, i2, i3, i4, i5, i6⟩ := i (n + 1)
      have hc : chO o = true := by simp [chO, hk]
      have hf : formO o := .inr ⟨.inr (.inl hk), h1⟩
      have hf2 : formO ⟨2, o.f1, o.f2⟩ := .inr ⟨.inl rfl, h1⟩
      have he : exO o = [.del o.f2] := by simp [exO, hk]
      have he2 : exO ⟨2, o.f1, o.f2⟩ = [.keep o.f2] := by simp [exO]
      have z : skips (o :: l) = skips l := by rw [skips_cons, if_neg (by omega)]; omega
      have z2 : ∀ r : List Op, skips (o :: r) = skips r := fun r => by rw [skips_cons, if_neg (by omega)]; omega
      have z3 : ∀ r : List Op, skips (⟨2, o.f1, o.f2⟩ :: r) = skips r := fun r => by rw [skips_cons, if_neg (by simp)]; omega
      simp only [pkF, pkS, hc, if_true, if_pos hk, show ¬ o.f0 = 4 from by omega, if_false]
      rw [ex_cons o l, he, List.singleton_append, tagC_ch rfl, drop_tail, drop_head, z]
      cases hp : ps.getD n false
      · simp only [Bool.false_eq_true, if_false, fstT, sndT, if_true, show ¬ (1 : Int) = 2 from by omega]
        refine ⟨?_, ?_, fc hf2 i3, fc hf i4, by rw [z3, i5], by rw [z2, i6]⟩
        · rw [ex_cons, he2, List.singleton_append, i1]
        · rw [ex_cons, he, List.singleton_append, i2]
      · simp only [if_true, fstT, sndT, if_false, show ¬ (2 : Int) = 1 from by omega]
        refine ⟨?_, i2, fc hf i3, i4, by rw [z2, i5], i6⟩
        · rw [ex_cons, he, List.singleton_append, i1]
    · obtain ⟨i1, i2, i3, i4, i5, i6⟩ := i (n + 1)
      have hc : chO o = true := by simp [chO, hk]
      have hf : formO o := .inr ⟨.inr (.inr hk), h1⟩
      have hf2 : formO ⟨2, o.f1, o.f2⟩ := .inr ⟨.inl rfl, h1⟩
      have he : exO o = [.ins o.f2] := by simp [exO, hk]
      have he2 : exO ⟨2, o.f1, o.f2⟩ = [.keep o.f2] := by simp [exO]
      have z : skips (o :: l) = skips l := by rw [skips_cons, if_neg (by omega)]; omega
      have z2 : ∀ r : List Op, skips (o :: r) = skips r := fun r => by rw [skips_cons, if_neg (by omega)]; omega
      have z3 : ∀ r : List Op, skips (⟨2, o.f1, o.f2⟩ :: r) = skips r := fun r => by rw [skips_cons, if_neg (by simp)]; omega
      simp only [pkF, pkS, hc, if_true, if_pos hk, show ¬ o.f0 = 3 from by omega, if_false]
      rw [ex_cons o l, he, List.singleton_append, tagC_ch rfl, drop_tail, drop_head, z]
      cases hp : ps.getD n false
      · simp only [Bool.false_eq_true, if_false, fstT, sndT, if_true, show ¬ (1 : Int) = 2 from by omega]
        refine ⟨i1, ?_, i3, fc hf i4, i5, by rw [z2, i6]⟩
        · rw [ex_cons, he, List.singleton_append, i2]
      · simp only [if_true, fstT, sndT, if_false, show ¬ (2 : Int) = 1 from by omega]
        refine ⟨?_, ?_, fc hf i3, fc hf2 i4, by rw [z2, i5], by rw [z3, i6]⟩
        · rw [ex_cons, he, List.singleton_append, i1]
        · rw [ex_cons, he2, List.singleton_append, i2]
end Go.Proofs.Ythognikhmbabhaa.P
