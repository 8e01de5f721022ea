/- Own: what is picked, on single lines; of what was picked some are picked again. -/
import Derived.Test.YthognikhmbabhaaPb
import Derived.Test.YthognikhmbabhaaTa
namespace Go.Proofs.Ythognikhmbabhaa.P
open Go.RowKit Go.Proofs.YthognikhmbabhaaW.PrintWords Go.Proofs.YthognikhmbabhaaW.PrintLast Go.Proofs.YthognikhmbabhaaW.PrintMore
set_option linter.unusedSimpArgs false
set_option linter.unusedVariables false

/-- Each change with 2, if it is picked, with 1, if it is not. -/
def tagC : List Bool → List U → List TU
  | _, [] => []
  | ps, x :: u => if isCh x = true then (x, if ps.headD false = true then 2 else 1) :: tagC ps.tail u else (x, 0) :: tagC ps u
theorem tagC_ch {x : U} (h : isCh x = true) (ps : List Bool) (u : List U) : tagC ps (x :: u) = (x, if ps.headD false = true then 2 else 1) :: tagC ps.tail u := by rw [tagC, if_pos h]
theorem tagC_st {x : U} (h : isCh x = false) (ps : List Bool) (u : List U) : tagC ps (x :: u) = (x, 0) :: tagC ps u := by rw [tagC, if_neg (by rw [h]; simp)]
theorem tagC_ok : ∀ (u : List U) (ps : List Bool), okT (tagC ps u)
  | [], ps => okT.nil
  | x :: u, ps => by
    cases h : isCh x
    · rw [tagC_st h]
      intro y hy hc
      rcases List.mem_cons.mp hy with rfl | hy
      · rw [h] at hc; simp at hc
      · exact tagC_ok u ps y hy hc
    · rw [tagC_ch h]
      intro y hy hc
      rcases List.mem_cons.mp hy with rfl | hy
      · simp only; split <;> simp
      · exact tagC_ok u ps.tail y hy hc
theorem tagC_all : ∀ (u : List U) (ps : List Bool), allT (tagC ps u) = u
  | [], ps => rfl
  | x :: u, ps => by
    have i := tagC_all u
    unfold allT at i ⊢
    cases h : isCh x
    · rw [tagC_st h, List.map_cons, i]
    · rw [tagC_ch h, List.map_cons, i]
theorem tagC_skips (ps : List Bool) (u : List U) : ∀ n : Nat, tagC ps (List.replicate n .skip ++ u) = List.replicate n (.skip, 0) ++ tagC ps u
  | 0 => rfl
  | n + 1 => by rw [List.replicate_succ, List.cons_append, tagC_st rfl, tagC_skips ps u n]; rfl
theorem fst_skips (w : List TU) : ∀ n : Nat, fstT (List.replicate n (.skip, 0) ++ w) = List.replicate n .skip ++ fstT w
  | 0 => rfl
  | n + 1 => by rw [List.replicate_succ, List.cons_append, fstT, fst_skips w n]; rfl
theorem snd_skips (w : List TU) : ∀ n : Nat, sndT (List.replicate n (.skip, 0) ++ w) = List.replicate n .skip ++ sndT w
  | 0 => rfl
  | n + 1 => by rw [List.replicate_succ, List.cons_append, sndT, snd_skips w n]; rfl
theorem drop_tail (ps : List Bool) (n : Nat) : (ps.drop n).tail = ps.drop (n + 1) := by simp
theorem drop_head (ps : List Bool) (n : Nat) : (ps.drop n).headD false = ps.getD n false := by
  rw [List.getD_eq_getElem?_getD, List.headD_eq_head?_getD, List.head?_drop]
/-- The picked steps, line by line. -/
theorem ex_pk (ps : List Bool) : ∀ (l : List Op) (n : Nat), (∀ o ∈ l, formO o) →
    ex (pkF ps n l) = fstT (tagC (ps.drop n) (ex l)) ∧ ex (pkS ps n l) = sndT (tagC (ps.drop n) (ex l)) ∧ (∀ o ∈ pkF ps n l, formO o) ∧ (∀ o ∈ pkS ps n l, formO o) ∧ skips (pkF ps n l) = skips l ∧ skips (pkS ps n l) = skips l
  | [], n, _ => ⟨rfl, rfl, fun o h => by simp [pkF] at h, fun o h => by simp [pkS] at h, rfl, rfl⟩
  | o :: l, n, h => by
    have ho := h o (List.mem_cons_self ..)
    have i := fun n => ex_pk ps l n fun x hx => h x (List.mem_cons_of_mem _ hx)
    have fc : ∀ {x : Op} {r : List Op}, formO x → (∀ y ∈ r, formO y) → ∀ y ∈ x :: r, formO y := by
      intro x r hx hr y hy
      rcases List.mem_cons.mp hy with rfl | hy
      · exact hx
      · exact hr y hy
    rcases ho with ⟨hk, h1, h2⟩ | ⟨hk | hk | hk, h1⟩
    · obtain ⟨i1, i2, i3, i4, i5, i6⟩ := i n
      have hc : chO o = false := by simp [chO, hk]
      have hf : formO o := .inl ⟨hk, h1, h2⟩
      simp only [pkF, pkS, hc, Bool.false_eq_true, if_false]
      refine ⟨?_, ?_, fc hf i3, fc hf i4, by rw [skips_cons, skips_cons, i5], by rw [skips_cons, skips_cons, i6]⟩
      · rw [ex_cons, ex_cons, show exO o = List.replicate o.f1.toNat .skip from by simp [exO, hk], tagC_skips, fst_skips, i1]
      · rw [ex_cons, ex_cons, show exO o = List.replicate o.f1.toNat .skip from by simp [exO, hk], tagC_skips, snd_skips, i2]
    · obtain ⟨i1, i2, i3, i4, i5, i6⟩ := i n
      have hc : chO o = false := by simp [chO, hk]
      have hf : formO o := .inr ⟨.inl hk, h1⟩
      have he : exO o = [.keep o.f2] := by simp [exO, hk]
      simp only [pkF, pkS, hc, Bool.false_eq_true, if_false]
      refine ⟨?_, ?_, fc hf i3, fc hf i4, by rw [skips_cons, skips_cons, i5], by rw [skips_cons, skips_cons, i6]⟩
      · rw [ex_cons, ex_cons, he, List.singleton_append, List.singleton_append, tagC_st rfl, fstT, i1]
      · rw [ex_cons, ex_cons, he, List.singleton_append, List.singleton_append, tagC_st rfl, sndT, i2]
    · obtain ⟨i1, i2, i3, i4, i5, i6⟩ := i (n + 1)
      have hc : chO o = true := by simp [chO, hk]
      have hf : formO o := .inr ⟨.inr (.inl hk), h1⟩
      have hf2 : formO ⟨2, o.f1, o.f2⟩ := .inr ⟨.inl rfl, h1⟩
      have he : exO o = [.del o.f2] := by simp [exO, hk]
      have he2 : exO ⟨2, o.f1, o.f2⟩ = [.keep o.f2] := by simp [exO]
      have z : skips (o :: l) = skips l := by rw [skips_cons, if_neg (by omega)]; omega
      have z2 : ∀ r : List Op, skips (o :: r) = skips r := fun r => by rw [skips_cons, if_neg (by omega)]; omega
      have z3 : ∀ r : List Op, skips (⟨2, o.f1, o.f2⟩ :: r) = skips r := fun r => by rw [skips_cons, if_neg (by simp)]; omega
      simp only [pkF, pkS, hc, if_true, if_pos hk, show ¬ o.f0 = 4 from by omega, if_false]
      rw [ex_cons o l, he, List.singleton_append, tagC_ch rfl, drop_tail, drop_head, z]
      cases hp : ps.getD n false
      · simp only [Bool.false_eq_true, if_false, fstT, sndT, if_true, show ¬ (1 : Int) = 2 from by omega]
        refine ⟨?_, ?_, fc hf2 i3, fc hf i4, by rw [z3, i5], by rw [z2, i6]⟩
        · rw [ex_cons, he2, List.singleton_append, i1]
        · rw [ex_cons, he, List.singleton_append, i2]
      · simp only [if_true, fstT, sndT, if_false, show ¬ (2 : Int) = 1 from by omega]
        refine ⟨?_, i2, fc hf i3, i4, by rw [z2, i5], i6⟩
        · rw [ex_cons, he, List.singleton_append, i1]
    · obtain ⟨i1, i2, i3, i4, i5, i6⟩ := i (n + 1)
      have hc : chO o = true := by simp [chO, hk]
      have hf : formO o := .inr ⟨.inr (.inr hk), h1⟩
      have hf2 : formO ⟨2, o.f1, o.f2⟩ := .inr ⟨.inl rfl, h1⟩
      have he : exO o = [.ins o.f2] := by simp [exO, hk]
      have he2 : exO ⟨2, o.f1, o.f2⟩ = [.keep o.f2] := by simp [exO]
      have z : skips (o :: l) = skips l := by rw [skips_cons, if_neg (by omega)]; omega
      have z2 : ∀ r : List Op, skips (o :: r) = skips r := fun r => by rw [skips_cons, if_neg (by omega)]; omega
      have z3 : ∀ r : List Op, skips (⟨2, o.f1, o.f2⟩ :: r) = skips r := fun r => by rw [skips_cons, if_neg (by simp)]; omega
      simp only [pkF, pkS, hc, if_true, if_pos hk, show ¬ o.f0 = 3 from by omega, if_false]
      rw [ex_cons o l, he, List.singleton_append, tagC_ch rfl, drop_tail, drop_head, z]
      cases hp : ps.getD n false
      · simp only [Bool.false_eq_true, if_false, fstT, sndT, if_true, show ¬ (1 : Int) = 2 from by omega]
        refine ⟨i1, ?_, i3, fc hf i4, i5, by rw [z2, i6]⟩
        · rw [ex_cons, he, List.singleton_append, i2]
      · simp only [if_true, fstT, sndT, if_false, show ¬ (2 : Int) = 1 from by omega]
        refine ⟨?_, ?_, fc hf i3, fc hf2 i4, by rw [z2, i5], by rw [z3, i6]⟩
        · rw [ex_cons, he, List.singleton_append, i1]
        · rw [ex_cons, he2, List.singleton_append, i2]
/-- What the pick of right steps comes to, line by line. -/
def pickW (l : List Op) (ps : List Bool) : List TU := tagC ps (nf [] (ex l))
theorem pickL_of {l : List Op} (hr : rightL l = true) (ps : List Bool) : pickL l ps = if rightU (fstT (pickW l ps)) = true ∧ rightU (sndT (pickW l ps)) = true then (pack (nf [] (fstT (pickW l ps))), pack (nf [] (sndT (pickW l ps)))) else ([], []) := by
  have hf := form_pack (nf [] (ex l))
  obtain ⟨i1, i2, i3, i4, _, _⟩ := ex_pk ps (normL l) 0 hf
  rw [List.drop_zero, ex_norm] at i1 i2
  unfold pickL
  simp only [hr, if_true]
  rw [right_iff i3, right_iff i4, i1, i2]
  unfold normL at i1 i2 ⊢
  rw [i1, i2]; rfl
/-- In order: of what comes and goes between lines that stay nothing goes behind what comes. -/
def isNf : Bool → List U → Bool
  | _, [] => true
  | _, .ins _ :: u => isNf true u
  | a, .del _ :: u => !a && isNf false u
  | _, .keep _ :: u => isNf false u
  | _, .skip :: u => isNf false u
theorem isNf_ins : ∀ (I : List U) (a : Bool) (u : List U), AllIns I → isNf a (I ++ u) = isNf (a || !I.isEmpty) u
  | [], a, u, _ => by simp
  | x :: I, a, u, h => by
    obtain ⟨t, rfl⟩ := h.head
    rw [List.cons_append, isNf, isNf_ins I true u h.tail]; simp
theorem isNf_nf : ∀ (u I : List U), AllIns I → isNf false (nf I u) = true
  | [], I, h => by
    have := isNf_ins I false [] h
    rw [List.append_nil] at this
    rw [nf, this]; rfl
  | .ins t :: u, I, h => by rw [nf]; exact isNf_nf u _ (h.snoc t)
  | .del t :: u, I, h => by rw [nf, isNf, isNf_nf u I h]; rfl
  | .keep t :: u, I, h => by rw [nf, isNf_ins I _ _ h, isNf]; exact isNf_nf u [] .nil
  | .skip :: u, I, h => by rw [nf, isNf_ins I _ _ h, isNf]; exact isNf_nf u [] .nil
theorem nf_isNf : ∀ (u I : List U), AllIns I → isNf (!I.isEmpty) u = true → nf I u = I ++ u
  | [], I, _, _ => by rw [nf, List.append_nil]
  | .ins t :: u, I, h, h2 => by
    rw [nf, nf_isNf u _ (h.snoc t) (by rw [isNf] at h2; rw [show (!(I ++ [U.ins t]).isEmpty) = true from by cases I <;> rfl]; exact h2), List.append_assoc]; rfl
  | .del t :: u, I, h, h2 => by
    rw [isNf, Bool.and_eq_true] at h2
    have e : I = [] := by simpa using h2.1
    subst e
    rw [nf, nf_isNf u [] .nil h2.2]; rfl
  | .keep t :: u, I, h, h2 => by rw [nf, nf_isNf u [] .nil (by rw [isNf] at h2; exact h2)]; rfl
  | .skip :: u, I, h, h2 => by rw [nf, nf_isNf u [] .nil (by rw [isNf] at h2; exact h2)]; rfl
theorem isNf_le : ∀ (u : List U) (a b : Bool), (b = true → a = true) → isNf a u = true → isNf b u = true
  | [], _, _, _, _ => rfl
  | .ins t :: u, a, b, _, h => h
  | .del t :: u, a, b, hab, h => by
    rw [isNf, Bool.and_eq_true] at h ⊢
    refine ⟨?_, h.2⟩
    cases b with
    | false => rfl
    | true => rw [hab rfl] at h; exact h.1
  | .keep t :: u, a, b, _, h => h
  | .skip :: u, a, b, _, h => h
theorem isNf_fst : ∀ (u : List U) (ps : List Bool) (a b : Bool), (b = true → a = true) → isNf a u = true → isNf b (fstT (tagC ps u)) = true
  | [], _, _, _, _, _ => rfl
  | .skip :: u, ps, a, b, hab, h => by
    rw [tagC_st rfl, fstT, isNf]
    exact isNf_fst u ps false false id (by rw [isNf] at h; exact h)
  | .keep t :: u, ps, a, b, hab, h => by
    rw [tagC_st rfl, fstT, isNf]
    exact isNf_fst u ps false false id (by rw [isNf] at h; exact h)
  | .ins t :: u, ps, a, b, hab, h => by
    rw [tagC_ch rfl, fstT]
    rw [isNf] at h
    cases hp : ps.headD false
    · simp only [Bool.false_eq_true, if_false, if_true]
      exact isNf_fst u ps.tail true b (fun _ => rfl) h
    · simp only [if_true, show ¬ (2 : Int) = 1 from by omega, if_false]
      rw [isNf]
      exact isNf_fst u ps.tail true true id h
  | .del t :: u, ps, a, b, hab, h => by
    rw [tagC_ch rfl, fstT]
    rw [isNf, Bool.and_eq_true] at h
    have hb : b = false := by
      cases b with
      | false => rfl
      | true => have := hab rfl; rw [this] at h; simp at h
    subst hb
    cases hp : ps.headD false
    · simp only [Bool.false_eq_true, if_false, if_true]
      rw [isNf]
      exact isNf_fst u ps.tail false false id h.2
    · simp only [if_true, show ¬ (2 : Int) = 1 from by omega, if_false]
      rw [isNf, Bool.and_eq_true]
      exact ⟨rfl, isNf_fst u ps.tail false false id h.2⟩
theorem nf_fst (u : List U) (ps : List Bool) : nf [] (fstT (tagC ps (nf [] u))) = fstT (tagC ps (nf [] u)) := by
  have := nf_isNf (fstT (tagC ps (nf [] u))) [] .nil (isNf_fst _ ps false false id (isNf_nf u [] .nil))
  simpa using this
/-- Of what was picked some are picked again. -/
def comp : List Bool → List Bool → Nat → List Bool
  | _, _, 0 => []
  | both, some_, n + 1 => if both.headD false = true then some_.headD false :: comp both.tail some_.tail n else comp both.tail some_.tail n
def within (some_ both : List Bool) : Prop := ∀ i, some_.getD i false = true → both.getD i false = true
theorem within.tail {a b : List Bool} (h : within a b) : within a.tail b.tail := fun i hi => by
  have e : ∀ l : List Bool, l.tail.getD i false = l.getD (i + 1) false := fun l => by cases l <;> simp
  rw [e] at hi ⊢
  exact h _ hi
theorem within.head {a b : List Bool} (h : within a b) (hb : b.headD false = false) : a.headD false = false := by
  have e : ∀ l : List Bool, l.headD false = l.getD 0 false := fun l => by cases l <;> simp
  cases ha : a.headD false
  · rfl
  · rw [e] at ha hb
    have := h 0 ha
    rw [hb] at this; simp at this
theorem again : ∀ (u : List U) (both some_ : List Bool), within some_ both → fstT (tagC (comp both some_ (chU u)) (fstT (tagC both u))) = fstT (tagC some_ u)
  | [], _, _, _ => rfl
  | .skip :: u, both, some_, h => by
    rw [tagC_st rfl, tagC_st rfl, fstT, fstT, tagC_st rfl, fstT, chU_skip, again u both some_ h]
  | .keep t :: u, both, some_, h => by
    rw [tagC_st rfl, tagC_st rfl, fstT, fstT, tagC_st rfl, fstT, chU_keep, again u both some_ h]
  | .ins t :: u, both, some_, h => by
    have i := again u both.tail some_.tail h.tail
    rw [tagC_ch rfl, tagC_ch rfl, chU_ins, comp]
    cases hb : both.headD false
    · have hs := h.head hb
      simp only [hs, Bool.false_eq_true, if_false, fstT, if_true]
      exact i
    · simp only [if_true, fstT, show ¬ (2 : Int) = 1 from by omega, if_false]
      rw [tagC_ch rfl]
      simp only [List.headD_cons, List.tail_cons, fstT]
      rw [i]; rfl
  | .del t :: u, both, some_, h => by
    have i := again u both.tail some_.tail h.tail
    rw [tagC_ch rfl, tagC_ch rfl, chU_del, comp]
    cases hb : both.headD false
    · have hs := h.head hb
      simp only [hs, Bool.false_eq_true, if_false, fstT, if_true]
      rw [tagC_st rfl, fstT, i]
    · simp only [if_true, fstT, show ¬ (2 : Int) = 1 from by omega, if_false]
      rw [tagC_ch rfl]
      simp only [List.headD_cons, List.tail_cons, fstT]
      rw [i]; rfl
/-- How many are picked. -/
def cntB (l : List Bool) : Nat := (l.filter id).length
theorem cnt_two : ∀ (u : List U) (ps : List Bool), ((tagC ps u).filter fun x => isCh x.1 && decide (x.2 = 2)).length = cntB (ps.take (chU u)) ∧ ((tagC ps u).filter fun x => isCh x.1 && decide (x.2 = 1)).length + cntB (ps.take (chU u)) = chU u
  | [], ps => ⟨by simp [tagC, chU, cntB], by simp [tagC, chU, cntB]⟩
  | x :: u, ps => by
    cases h : isCh x
    · have i := cnt_two u ps
      have e : chU (x :: u) = chU u := by unfold chU; rw [List.filter_cons_of_neg (by rw [h]; simp)]
      rw [tagC_st h, e, List.filter_cons_of_neg (by simp [h]), List.filter_cons_of_neg (by simp [h])]
      exact i
    · have i := cnt_two u ps.tail
      have e : chU (x :: u) = chU u + 1 := by unfold chU; rw [List.filter_cons_of_pos h]; rfl
      rw [tagC_ch h, e]
      have t : cntB (ps.take (chU u + 1)) = (if ps.headD false = true then 1 else 0) + cntB (ps.tail.take (chU u)) := by
        cases ps with
        | nil => simp [cntB]
        | cons b ps =>
          cases b <;> simp [cntB]; omega
      rw [t]
      cases hp : ps.headD false
      · rw [List.filter_cons_of_neg (by simp), List.filter_cons_of_pos (by simp [h])]
        simp only [List.length_cons, Bool.false_eq_true, if_false]
        omega
      · rw [List.filter_cons_of_pos (by simp [h]), List.filter_cons_of_neg (by simp)]
        simp only [List.length_cons, if_true]
        omega
theorem fst_all : ∀ (w : List TU), okT w → (w.filter fun x => isCh x.1 && decide (x.2 = 1)).length = 0 → fstT w = allT w
  | [], _, _ => rfl
  | (x, b) :: w, ok, h => by
    have i := fst_all w ok.tail
    unfold allT at i ⊢
    cases x with
    | skip => rw [fstT, List.map_cons, i (by simpa [isCh] using h)]
    | keep t => rw [fstT, List.map_cons, i (by simpa [isCh] using h)]
    | ins t =>
      rcases ok.head rfl with e | e
      · simp only at e; subst e; simp [isCh] at h
      · simp only at e; subst e
        rw [fstT, List.map_cons, i (by simpa [isCh] using h), if_neg (by omega)]
    | del t =>
      rcases ok.head rfl with e | e
      · simp only at e; subst e; simp [isCh] at h
      · simp only at e; subst e
        rw [fstT, List.map_cons, i (by simpa [isCh] using h), if_neg (by omega)]
theorem snd_all : ∀ (w : List TU), okT w → (w.filter fun x => isCh x.1 && decide (x.2 = 2)).length = 0 → sndT w = allT w
  | [], _, _ => rfl
  | (x, b) :: w, ok, h => by
    have i := snd_all w ok.tail
    unfold allT at i ⊢
    cases x with
    | skip => rw [sndT, List.map_cons, i (by simpa [isCh] using h)]
    | keep t => rw [sndT, List.map_cons, i (by simpa [isCh] using h)]
    | ins t =>
      rcases ok.head rfl with e | e
      · simp only at e; subst e
        rw [sndT, List.map_cons, i (by simpa [isCh] using h), if_neg (by omega)]
      · simp only at e; subst e; simp [isCh] at h
    | del t =>
      rcases ok.head rfl with e | e
      · simp only at e; subst e
        rw [sndT, List.map_cons, i (by simpa [isCh] using h), if_neg (by omega)]
      · simp only at e; subst e; simp [isCh] at h
/-- How many changes packed steps have. -/
theorem chN_ex : ∀ {l : List Op}, (∀ o ∈ l, formO o) → chN l = chU (ex l)
  | [], _ => rfl
  | o :: l, h => by
    have i := chN_ex (l := l) fun x hx => h x (List.mem_cons_of_mem _ hx)
    have rp : ∀ n, chU (List.replicate n .skip) = 0 := by
      intro n
      induction n with
      | zero => rfl
      | succ n ih => rw [List.replicate_succ, chU_skip, ih]
    rw [ex_cons, chU_app, ← i]
    unfold chN
    rcases h o (List.mem_cons_self ..) with ⟨hk, h1, _⟩ | ⟨hk | hk | hk, _⟩
    · rw [show exO o = List.replicate o.f1.toNat .skip from by simp [exO, hk], rp, List.filter_cons_of_neg (by simp [chO, hk])]; omega
    · rw [show exO o = [.keep o.f2] from by simp [exO, hk], List.filter_cons_of_neg (by simp [chO, hk]), chU_keep, chU_nil]; omega
    · rw [show exO o = [.del o.f2] from by simp [exO, hk], List.filter_cons_of_pos (by simp [chO, hk]), chU_del, chU_nil, List.length_cons]; omega
    · rw [show exO o = [.ins o.f2] from by simp [exO, hk], List.filter_cons_of_pos (by simp [chO, hk]), chU_ins, chU_nil, List.length_cons]; omega
theorem chN_pack (u : List U) : chN (pack u) = chU u := by rw [chN_ex (form_pack u), ex_pack]
theorem chU_nf0 (u : List U) : chU (nf [] u) = chU u := by rw [chU_nf, chU_nil]; omega
end Go.Proofs.Ythognikhmbabhaa.P
