/- Own: PickParts holds. -/
import Derived.Test.YthognikhmbabhaaPc
import Derived.Test.YthognikhmbabhaaSPickParts
namespace Go.Proofs.Ythognikhmbabhaa.P
open Go.RowKit Go.Proofs.YthognikhmbabhaaW.PrintWords Go.Proofs.YthognikhmbabhaaW.PrintLast Go.Proofs.YthognikhmbabhaaW.PrintMore
set_option linter.unusedVariables false
set_option linter.unusedSimpArgs false

theorem PickParts.out (a : List Op) (b c : List Bool) : Ev (fun k => patchworklaw16_PickParts.j0 k a b c true true) true := by
  refine Ev.step (fun k => rfl) ?_
  simp only [patchworklaw16_PickParts.j0, if_true]
  exact Ev.now true
theorem Sm.pickedP {l : List Op} (h : Sm l) (ps : List Bool) : Sm (pickL l ps).1 ∧ Sm (pickL l ps).2 := by
  have hm := h.norms
  unfold pickL
  simp only
  generalize (if rightL l then normL l else []) = m at hm ⊢
  split
  · rename_i c
    exact ⟨(hm.pkF ps 0).norm (rightL_form c.1), (hm.pkS ps 0).norm (rightL_form c.2)⟩
  · exact ⟨.nil, .nil⟩
/-- What is marked, from a place on, and what of it is picked again. -/
def bothB (some_ : List Bool) : List Bool → List Bool
  | [] => []
  | b :: m => (b || some_.headD false) :: bothB some_.tail m
def ofB (some_ : List Bool) : Nat → List Bool → List Bool
  | _, [] => []
  | 0, _ => []
  | n + 1, b :: m => if (b || some_.headD false) = true then some_.headD false :: ofB some_.tail n m else ofB some_.tail n m
theorem bothB_len (some_ : List Bool) (m : List Bool) : (bothB some_ m).length = m.length := by
  induction m generalizing some_ with
  | nil => rfl
  | cons b m ih => rw [bothB, List.length_cons, ih, List.length_cons]
theorem ofB_comp : ∀ (n : Nat) (some_ m : List Bool), some_.length ≤ m.length → ofB some_ n m = comp (bothB some_ m) some_ n
  | 0, some_, [], _ => rfl
  | 0, some_, b :: m, _ => rfl
  | n + 1, some_, [], h => by
    have e : some_ = [] := List.length_eq_zero_iff.mp (by simpa using h)
    subst e
    have all : ∀ n, comp [] [] n = [] := by
      intro n
      induction n with
      | zero => rfl
      | succ n ih => rw [comp]; simpa using ih
    rw [bothB, all]; rfl
  | n + 1, some_, b :: m, h => by
    rw [ofB, bothB, comp, ofB_comp n some_.tail m (by rw [List.length_tail]; simp only [List.length_cons] at h; omega)]
    rfl
theorem within_both : ∀ (m some_ : List Bool), some_.length ≤ m.length → within some_ (bothB some_ m)
  | [], some_, h => by
    have e : some_ = [] := List.length_eq_zero_iff.mp (by simpa using h)
    subst e
    intro i hi; simp at hi
  | b :: m, some_, h => by
    intro i hi
    have t := within_both m some_.tail (by rw [List.length_tail]; simp only [List.length_cons] at h; omega)
    cases i with
    | zero =>
      have : some_.headD false = true := by rw [← hi]; cases some_ <;> simp
      show (b || some_.headD false) = true
      rw [this]; simp
    | succ i =>
      have := t i (by rw [← hi]; cases some_ <;> simp)
      simpa [bothB] using this
theorem set_mid2 {α : Type} (p s : List α) (x y : α) : (p ++ x :: s).set p.length y = p ++ y :: s := by
  rw [List.set_append_right _ _ (Nat.le_refl _), Nat.sub_self, List.set_cons_zero]
theorem ofB_cons (some_ : List Bool) (c i : Nat) (b : Bool) (m : List Bool) (hi : i < c) : ofB some_ (c - i) (b :: m) = if (b || some_.headD false) = true then some_.headD false :: ofB some_.tail (c - (i + 1)) m else ofB some_.tail (c - (i + 1)) m := by
  rw [show c - i = (c - (i + 1)) + 1 from by omega, ofB]
theorem ofB_zero (some_ : List Bool) (m : List Bool) : ofB some_ 0 m = [] := by cases m <;> rfl
theorem PickParts.fill (l : List Op) (some_ : List Bool) (n : Nat) (hn : n < 4398046511104) (s : List Bool) : ∀ (p q of : List Bool) (v : Bool), q.length = p.length → (p ++ s).length < 4611686018427387904 → of.length ≤ p.length → of.length ≤ n →
    Ev (fun k => patchworklaw16_PickParts.l0 k l some_ (p ++ s) (q ++ bothB (some_.drop p.length) s) (of ++ ofB (some_.drop p.length) (n - p.length) s) (n : Int) ((p ++ s).length : Int)) v →
    Ev (fun k => patchworklaw16_PickParts.l0 k l some_ (p ++ s) (q ++ List.replicate s.length false) of (n : Int) (p.length : Int)) v := by
  induction s with
  | nil =>
    intro p q of v hq hl ho ho2 h
    have e : ofB (some_.drop p.length) (n - p.length) [] = [] := by cases n - p.length <;> rfl
    rw [e] at h
    simpa [bothB] using h
  | cons b s ih =>
    intro p q of v hq hl ho ho2 h
    have w := wrap_len p b (by simp only [List.length_append, List.length_cons] at hl; omega)
    have rm : rdOf false (p ++ b :: s) (p.length : Int) = b := rdOf_mid false p s b
    have hd : (some_.drop p.length).headD false = some_.getD p.length false := drop_head some_ p.length
    have ht : (some_.drop p.length).tail = some_.drop (p ++ [b]).length := by rw [drop_tail]; simp
    have lp : (p ++ [b]).length = p.length + 1 := by simp
    have cq : ∀ x, (p.length : Int) < ((q ++ x :: List.replicate s.length false).length : Int) := fun x => by simp only [List.length_append, List.length_cons]; omega
    have sq : ∀ x y : Bool, (q ++ x :: List.replicate s.length false).set (p.length : Int).toNat y = q ++ y :: List.replicate s.length false := fun x y => by
      rw [Int.toNat_natCast, ← hq]; exact set_mid2 q _ x y
    have rq : ∀ y : Bool, rdOf false (q ++ y :: List.replicate s.length false) (p.length : Int) = y := fun y => by rw [← hq]; exact rdOf_mid false q _ y
    have key : ∀ (x : Bool), x = some_.getD p.length false → 
        Ev (fun k => if b = true then (patchworklaw16_PickParts.l0 k l some_ (p ++ b :: s) (q ++ true :: List.replicate s.length false) (if p.length < n then of ++ [x] else of) (n : Int) ((p ++ [b]).length : Int)) else (patchworklaw16_PickParts.l0 k l some_ (p ++ b :: s) (q ++ x :: List.replicate s.length false) (if x = true then (if p.length < n then of ++ [x] else of) else of) (n : Int) ((p ++ [b]).length : Int))) v := by
      intro x hx
      rw [← hd] at hx
      have i := fun y of' => ih (p ++ [b]) (q ++ [y]) of' v (by simp [hq]) (by simpa using hl)
      simp only [List.append_assoc, List.singleton_append] at i
      rw [bothB, ht, ← hx] at h
      by_cases hlt : p.length < n
      · rw [ofB_cons _ _ _ _ _ hlt, ht, ← hx] at h
        simp only [if_pos hlt]
        cases b
        · simp only [Bool.false_eq_true, if_false, Bool.false_or] at h ⊢
          cases x
          · simp only [Bool.false_eq_true, if_false] at h ⊢
            exact i false of (by omega) ho2 (by rw [lp]; simpa using h)
          · simp only [if_true] at h ⊢
            refine i true (of ++ [true]) (by simp; omega) (by simp; omega) ?_
            rw [lp]; simpa using h
        · simp only [if_true, Bool.true_or] at h ⊢
          refine i true (of ++ [x]) (by simp; omega) (by simp; omega) ?_
          rw [lp]; simpa using h
      · rw [show n - p.length = 0 from by omega, ofB_zero] at h
        have e : ∀ m : List Bool, ofB (some_.drop (p ++ [b]).length) (n - (p ++ [b]).length) m = [] := fun m => by rw [show n - (p ++ [b]).length = 0 from by omega, ofB_zero]
        simp only [if_neg hlt]
        cases b
        · simp only [Bool.false_eq_true, if_false, Bool.false_or] at h ⊢
          have : (if x = true then of else of) = of := by split <;> rfl
          rw [this]
          refine i x of (by omega) ho2 ?_
          rw [e]; simpa using h
        · simp only [if_true, Bool.true_or] at h ⊢
          refine i true of (by omega) ho2 ?_
          rw [e]; simpa using h
    have co : of.length < 140737488355328 := by omega
    refine Ev.step (fun k => rfl) ?_
    simp only [patchworklaw16_PickParts.l0, lt_mid, nn_nat, if_true, rm, List.length_cons, List.replicate_succ, if_pos (cq _), sq, rq, Option.bind_some, if_pos co, w]
    by_cases hin : (p.length : Int) < (some_.length : Int)
    · have rs : rdOf false some_ (p.length : Int) = some_.getD p.length false := by unfold rdOf; rw [Int.toNat_natCast]
      have k1 := key _ rfl
      simp only [if_pos hin, rs]
      generalize some_.getD p.length false = x at k1 ⊢
      by_cases hlt : p.length < n
      · have hlt' : (p.length : Int) < (n : Int) := by omega
        simp only [if_pos hlt, if_pos hlt'] at k1 ⊢
        cases x <;> simp only [Bool.false_eq_true, if_false, if_true] at k1 ⊢ <;> exact k1
      · have hlt' : ¬ (p.length : Int) < (n : Int) := by omega
        simp only [if_neg hlt, if_neg hlt'] at k1 ⊢
        cases x <;> simp only [Bool.false_eq_true, if_false, if_true] at k1 ⊢ <;> exact k1
    · have e : some_.getD p.length false = false := by rw [List.getD_eq_getElem?_getD, List.getElem?_eq_none (by omega)]; rfl
      have k1 := key _ rfl
      rw [e] at k1
      simp only [if_neg hin, Bool.false_eq_true, if_false] at k1 ⊢
      by_cases hlt : p.length < n
      · have hlt' : (p.length : Int) < (n : Int) := by omega
        simp only [if_pos hlt, if_pos hlt'] at k1 ⊢
        exact k1
      · have hlt' : ¬ (p.length : Int) < (n : Int) := by omega
        simp only [if_neg hlt, if_neg hlt'] at k1 ⊢
        exact k1
/-- One of the two ways fails, or both come to the same. -/
theorem PickParts.core {l : List Op} (hr : rightL l = true) (some_ m : List Bool) (hl : some_.length ≤ m.length) (h1 : ¬ ((pickL l (bothB some_ m)).1 = [] ∧ (pickL l (bothB some_ m)).2 = [])) :
    let a := pickL (pickL l (bothB some_ m)).1 (ofB some_ (chN l) m)
    (a.1 = [] ∧ a.2 = []) ∨ ((pickL l some_).1 = [] ∧ (pickL l some_).2 = []) ∨ a.1 = (pickL l some_).1 := by
  intro a
  have e : chN l = chU (nf [] (ex l)) := by rw [chU_nf0, chN_ex (rightL_form hr)]
  have hP := pickL_of hr (bothB some_ m)
  rw [hP] at h1
  split at h1
  · rename_i c
    rw [if_pos c] at hP
    have hx : rightL (pickL l (bothB some_ m)).1 = true := by rw [hP]; show rightL (pack _) = true; rw [right_pack, rightU_nf]; exact c.1
    have ha := pickL_of hx (ofB some_ (chN l) m)
    have hS := pickL_of hr some_
    have ew : pickW (pickL l (bothB some_ m)).1 (ofB some_ (chN l) m) = tagC (ofB some_ (chN l) m) (fstT (tagC (bothB some_ m) (nf [] (ex l)))) := by
      unfold pickW
      rw [hP]
      show tagC _ (nf [] (ex (pack (nf [] (fstT (pickW l (bothB some_ m))))))) = _
      rw [ex_pack, nf_nf _ _ _ .nil, List.nil_append]
      unfold pickW
      rw [nf_fst]
    have again' : fstT (pickW (pickL l (bothB some_ m)).1 (ofB some_ (chN l) m)) = fstT (pickW l some_) := by
      rw [ew, ofB_comp _ _ _ hl, e]
      exact again _ _ _ (within_both m some_ hl)
    by_cases ca : rightU (fstT (pickW (pickL l (bothB some_ m)).1 (ofB some_ (chN l) m))) = true ∧ rightU (sndT (pickW (pickL l (bothB some_ m)).1 (ofB some_ (chN l) m))) = true
    · rw [if_pos ca, again'] at ha
      by_cases cs : rightU (fstT (pickW l some_)) = true ∧ rightU (sndT (pickW l some_)) = true
      · rw [if_pos cs] at hS
        refine .inr (.inr ?_)
        show a.1 = _
        rw [show a = _ from ha, hS]
      · rw [if_neg cs] at hS
        exact .inr (.inl (by rw [hS]; exact ⟨rfl, rfl⟩))
    · rw [if_neg ca] at ha
      exact .inl (by rw [show a = _ from ha]; exact ⟨rfl, rfl⟩)
  · simp at h1
theorem ones_len (m : List Bool) : m.length ≤ (m.map fun _ => 1).sum := by
  induction m with
  | nil => simp
  | cons b m ih => rw [List.map_cons, List.sum_cons, List.length_cons]; omega
theorem PickParts.proved : PickParts.Pure := by
  intro l some_ m _ _ _ hw
  simp only at hw
  have hs : Sm l := Sm.of_wt (by omega)
  have hf := fewN_le l
  have hll := hs.1
  have hcl := chN_le l
  have hml := ones_len m
  refine Ev.rounds ?_
  simp only [patchworklaw16_PickParts.f]
  refine Ev.bind' alive16 ?_
  simp only [if_true]
  refine Ev.bind' (few_ev (by omega)) ?_
  by_cases h : fewN l ≤ 600
  · simp only [h, decide_true, if_true]
    refine Ev.bind' (refright_ev hs) ?_
    cases hr : rightL l
    · simp only [Bool.false_eq_true, if_false]; exact PickParts.out l some_ m
    simp only [if_true]
    by_cases hp : (some_.length : Int) > 600
    · simp only [if_pos hp]; exact PickParts.out l some_ m
    simp only [if_neg hp]
    by_cases hm : (m.length : Int) < (some_.length : Int)
    · simp only [hm, decide_true]; exact PickParts.out l some_ m
    simp only [hm, decide_false]
    have c0 : (0 : Int) ≤ (m.length : Int) := by omega
    have c1 : m.length ≤ 281474976710656 := by omega
    refine Ev.step (fun k => rfl) ?_
    simp only [patchworklaw16_PickParts.j0, Bool.false_eq_true, if_false, if_pos c0, Int.toNat_natCast, if_pos c1]
    refine Ev.bind' (changes_ev hs) ?_
    have f := PickParts.fill l some_ (chN l) (by omega) m [] [] [] true rfl (by simp; omega) (by simp) (by simp)
    simp only [List.nil_append, List.length_nil, Int.natCast_zero, List.drop_zero, Nat.sub_zero] at f
    refine f ?_
    clear f
    have g : ¬ (m.length : Int) < (m.length : Int) := by omega
    obtain ⟨b1, b2⟩ := hs.pickedP (bothB some_ m)
    obtain ⟨a1, a2⟩ := b1.pickedP (ofB some_ (chN l) m)
    obtain ⟨s1, s2⟩ := hs.pickedP some_
    refine Ev.step (fun k => rfl) ?_
    simp only [patchworklaw16_PickParts.l0, g, if_false]
    refine Ev.bind' (pick_ev hs _) ?_
    have nil2 : ∀ x : List Op × List Op, ¬ (x.1 = [] ∧ x.2 = []) → (x.1.length : Int) = 0 → ((x.2.length : Int) == 0) = false := by
      intro x hx h0
      have e1 : x.1 = [] := List.length_eq_zero_iff.mp (by omega)
      have : x.2.length ≠ 0 := fun e => hx ⟨e1, List.length_eq_zero_iff.mp e⟩
      simpa using this
    by_cases hn : (pickL l (bothB some_ m)).1 = [] ∧ (pickL l (bothB some_ m)).2 = []
    · rw [show pickL l (bothB some_ m) = ([], []) from Prod.ext hn.1 hn.2]
      simp only [List.length_nil, Int.natCast_zero, if_true, beq_self_eq_true]
      refine Ev.step (fun k => rfl) ?_
      simp only [patchworklaw16_PickParts.j2, if_true]
      exact Ev.now true
    · have go : Ev (fun k => patchworklaw16_PickParts.j2 k l some_ (ofB some_ (chN l) m) (pickL l (bothB some_ m)).1 false) true := by
        have core := PickParts.core hr some_ m (by omega) hn
        simp only at core
        refine Ev.step (fun k => rfl) ?_
        simp only [patchworklaw16_PickParts.j2, Bool.false_eq_true, if_false]
        refine Ev.bind' (pick_ev b1 _) ?_
        refine Ev.bind' (pick_ev hs _) ?_
        have sm := same_ev (pickL (pickL l (bothB some_ m)).1 (ofB some_ (chN l) m)).1 (pickL l some_).1 (by have := a1.1; omega)
        generalize pickL (pickL l (bothB some_ m)).1 (ofB some_ (chN l) m) = a at core sm ⊢
        generalize pickL l some_ = c at core sm ⊢
        have len0 : ∀ x : List Op, (x.length : Int) = 0 ↔ x = [] := fun x => by
          constructor
          · intro h; exact List.length_eq_zero_iff.mp (by omega)
          · rintro rfl; rfl
        simp only [len0]
        have res : (¬ (a.1 = [] ∧ a.2 = [])) → (¬ (c.1 = [] ∧ c.2 = [])) → Ev (fun k => (patchworkref8_Same.f k a.1 c.1).bind fun t => some t) true := by
          intro na nc
          have e : a.1 = c.1 := (core.resolve_left na).resolve_left nc
          rw [e] at sm ⊢
          simp only [decide_true] at sm
          exact Ev.bind' sm (Ev.now true)
        by_cases x1 : a.1 = []
        · simp only [if_pos x1]
          by_cases x2 : a.2 = []
          · simp only [if_pos x2]; exact Ev.now true
          simp only [if_neg x2]
          by_cases y1 : c.1 = []
          · simp only [if_pos y1]
            by_cases y2 : c.2 = []
            · simp only [if_pos y2]; exact Ev.now true
            simp only [if_neg y2]
            exact res (fun h => x2 h.2) (fun h => y2 h.2)
          · simp only [if_neg y1]
            exact res (fun h => x2 h.2) (fun h => y1 h.1)
        · simp only [if_neg x1]
          by_cases y1 : c.1 = []
          · simp only [if_pos y1]
            by_cases y2 : c.2 = []
            · simp only [if_pos y2]; exact Ev.now true
            simp only [if_neg y2]
            exact res (fun h => x1 h.1) (fun h => y2 h.2)
          · simp only [if_neg y1]
            exact res (fun h => x1 h.1) (fun h => y1 h.1)
      by_cases q1 : ((pickL l (bothB some_ m)).1.length : Int) = 0
      · simp only [if_pos q1]
        rw [nil2 _ hn q1]
        exact go
      · simp only [if_neg q1]
        exact go
  · simp only [h, decide_false, Bool.false_eq_true, if_false]
    exact PickParts.out l some_ m
end Go.Proofs.Ythognikhmbabhaa.P
