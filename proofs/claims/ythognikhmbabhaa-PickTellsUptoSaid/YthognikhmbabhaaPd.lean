/- Own: what the reference picks, and its rows of changes. -/
import Derived.Test.YthognikhmbabhaaPe
namespace Go.Proofs.Ythognikhmbabhaa.P
open Go.RowKit Go.Proofs.YthognikhmbabhaaW.PrintWords Go.Proofs.YthognikhmbabhaaW.PrintLast Go.Proofs.YthognikhmbabhaaW.PrintMore
set_option linter.unusedVariables false
set_option linter.unusedSimpArgs false

theorem refpick_loop (ps : List Bool) (s : List Op) : ∀ (p A B : List Op) (n : Nat) (v : List Op × List Op), Sm (p ++ s) → n ≤ p.length → A.length ≤ p.length → B.length ≤ p.length →
    Ev (fun k => patchworkref8_Pick.l0 k [] ps (A ++ pkF ps n s) (B ++ pkS ps n s) 0 0) v → Ev (fun k => patchworkref8_Pick.l0 k (p ++ s) ps A B (n : Int) (p.length : Int)) v := by
  induction s with
  | nil =>
    intro p A B n v hb _ _ _ h
    simp only [pkF, pkS, List.append_nil] at h
    have g : ¬ (0 : Int) < (([] : List Op).length : Int) := by simp
    refine Ev.step (fun k => rfl) ?_
    simp only [patchworkref8_Pick.l0, lt_end, if_false]
    obtain ⟨K, hK⟩ := h
    refine ⟨K, fun k hk => ?_⟩
    have := hK (k + 1) (by omega)
    simpa only [patchworkref8_Pick.l0, if_neg g] using this
  | cons o s ih =>
    intro p A B n v hb hn hA hB h
    have i := fun A B n => ih (p ++ [o]) A B n v hb.snoc
    rw [List.append_assoc, List.singleton_append] at i
    have hp := hb.len
    have hl : (p ++ [o]).length = p.length + 1 := by simp
    have w := wrap_len p o (by omega)
    have w2 : wrap64 ((n : Int) + 1) = ((n + 1 : Nat) : Int) := by unfold wrap64; omega
    have cA : A.length < 4398046511104 := by omega
    have cB : B.length < 4398046511104 := by omega
    have sn : ∀ (X : List Op) (x : Op) (Y : List Op), X ++ x :: Y = (X ++ [x]) ++ Y := fun X x Y => by simp
    refine Ev.step (fun k => rfl) ?_
    simp only [patchworkref8_Pick.l0, lt_mid, nn_nat, if_true, rdOp_mid, change_val, Option.bind_some]
    cases hc : chO o
    · simp only [pkF, pkS, hc, Bool.false_eq_true, if_false] at h
      rw [sn A _ (P.pkF ps n s), sn B _ (P.pkS ps n s)] at h
      simp only [Bool.false_eq_true, if_false, if_pos cA, if_pos cB, w]
      exact i (A ++ [o]) (B ++ [o]) n (by omega) (by simp; omega) (by simp; omega) h
    · simp only [pkF, pkS, hc, if_true] at h
      simp only [if_true]
      have hc' : o.f0 = 3 ∨ o.f0 = 4 := by simpa [chO] using hc
      have both : ∀ (b : Bool), b = ps.getD n false → Ev (fun k => patchworkref8_Pick.j1 k (p ++ o :: s) ps A B (n : Int) (p.length : Int) b o.f0 o.f1 o.f2) v := by
        intro b hb2
        rw [← hb2] at h
        refine Ev.step (fun k => rfl) ?_
        cases b
        · simp only [Bool.false_eq_true, if_false] at h
          simp only [patchworkref8_Pick.j1, Bool.false_eq_true, if_false, if_pos cB, Option.bind_some, w, w2]
          by_cases h3 : o.f0 = 3
          · rw [if_pos h3, sn A _ (P.pkF ps (n + 1) s), sn B _ (P.pkS ps (n + 1) s)] at h
            simp only [if_pos h3, if_pos cA]
            exact i (A ++ [⟨2, o.f1, o.f2⟩]) (B ++ [o]) (n + 1) (by omega) (by simp; omega) (by simp; omega) h
          · rw [if_neg h3, sn B _ (P.pkS ps (n + 1) s)] at h
            simp only [if_neg h3]
            exact i A (B ++ [o]) (n + 1) (by omega) (by omega) (by simp; omega) h
        · simp only [if_true] at h
          simp only [patchworkref8_Pick.j1, if_true, if_pos cA, Option.bind_some, w, w2]
          by_cases h4 : o.f0 = 4
          · rw [if_pos h4, sn B _ (P.pkS ps (n + 1) s), sn A _ (P.pkF ps (n + 1) s)] at h
            simp only [if_pos h4, if_pos cB]
            exact i (A ++ [o]) (B ++ [⟨2, o.f1, o.f2⟩]) (n + 1) (by omega) (by simp; omega) (by simp; omega) h
          · rw [if_neg h4, sn A _ (P.pkF ps (n + 1) s)] at h
            simp only [if_neg h4]
            exact i (A ++ [o]) B (n + 1) (by omega) (by simp; omega) (by omega) h
      by_cases hlt : (n : Int) < (ps.length : Int)
      · simp only [if_pos hlt]
        refine both _ ?_
        unfold rdOf; rw [Int.toNat_natCast]
      · simp only [if_neg hlt]
        refine both _ ?_
        rw [List.getD_eq_getElem?_getD, List.getElem?_eq_none (by omega)]; rfl
theorem refpick_ev {l : List Op} (h : Sm l) (ps : List Bool) : Ev (fun k => patchworkref8_Pick.f k l ps) (pickL l ps) := by
  refine Ev.bind' (refright_ev h) ?_
  cases hr : rightL l
  · have e : pickL l ps = ([], []) := by
      unfold pickL
      rw [hr]
      rfl
    rw [e]
    simp only [Bool.false_eq_true, if_false]
    exact Ev.now _
  · simp only [if_true]
    obtain ⟨h1, h2, _⟩ := rightL_ok hr
    have hf := rightL_form hr
    have hsk := skips_le 3 hf
    have en := refnorm_ev h hf (by omega)
    have hm := h.norm hf
    have hmf := form_pack (nf [] (ex l))
    have hmr := right_norm hr
    obtain ⟨_, m2, _⟩ := rightL_ok hmr
    have hms := skips_le 3 hmf
    obtain ⟨i1, i2, i3, i4, i5, i6⟩ := ex_pk ps (normL l) 0 hmf
    refine Ev.bind' en ?_
    refine refpick_loop ps (normL l) [] [] [] 0 _ hm (by simp) (by simp) (by simp) ?_
    have sF := hm.pkF ps 0
    have sS := hm.pkS ps 0
    have eF := refnorm_ev sF i3 (by rw [i5]; exact Int.le_trans hms (by have : sums 3 (pack (nf [] (ex l))) ≤ 2147483648 := m2; omega))
    have eS := refnorm_ev sS i4 (by rw [i6]; exact Int.le_trans hms (by have : sums 3 (pack (nf [] (ex l))) ≤ 2147483648 := m2; omega))
    have rn : ∀ {x : List Op}, (∀ o ∈ x, formO o) → rightL (normL x) = rightL x := fun {x} hx => by
      unfold normL; rw [right_pack, rightU_nf, right_iff hx]
    have g : ¬ (0 : Int) < (([] : List Op).length : Int) := by simp
    refine Ev.step (fun k => rfl) ?_
    simp only [patchworkref8_Pick.l0, if_neg g, List.nil_append]
    refine Ev.bind' eF ?_
    refine Ev.bind' eS ?_
    refine Ev.bind' (refright_ev (sF.norm i3)) ?_
    unfold pickL
    simp only [hr, if_true]
    rw [rn i3]
    cases rF : rightL (P.pkF ps 0 (normL l))
    · simp only [Bool.false_eq_true, if_false, false_and]; exact Ev.now _
    simp only [if_true, true_and]
    refine Ev.bind' (refright_ev (sS.norm i4)) ?_
    rw [rn i4]
    cases rS : rightL (P.pkS ps 0 (normL l))
    · simp only [Bool.false_eq_true, if_false]; exact Ev.now _
    simp only [if_true]
    exact Ev.now _
/-- The rows of changes, told by what stands right ahead. -/
def setLast (out : List Range) (n : Nat) : List Range := out.set (out.length - 1) ⟨(rd_Range out ((out.length - 1 : Nat) : Int)).f0, (n : Int)⟩
def rowsG : List Op → List Range → Nat → Bool → List Range
  | [], out, _, _ => out
  | o :: l, out, n, b => if chO o = true then (if b = true then rowsG l (setLast out n) (n + 1) true else rowsG l (out ++ [⟨(n : Int), (n : Int)⟩]) (n + 1) true) else rowsG l out n false
theorem rows_fn (s : List Op) : ∀ (p : List Op) (out : List Range) (n : Nat) (b : Bool), Sm (p ++ s) → n ≤ p.length → out.length ≤ p.length → (b = true → 0 < out.length) →
    Ev (fun k => pick_Rows.l0 k out (n : Int) b (p ++ s) ((p ++ s).length : Int) (p.length : Int)) (rowsG s out n b) := by
  induction s with
  | nil =>
    intro p out n b _ _ _ _
    refine Ev.step (fun k => rfl) ?_
    simp only [pick_Rows.l0, lt_end, if_false]
    exact Ev.now _
  | cons o s ih =>
    intro p out n b hb hn ho hi
    have hp := hb.len
    have i := fun out n b => ih (p ++ [o]) out n b hb.snoc
    rw [List.append_assoc, List.singleton_append] at i
    have lp : (p ++ [o]).length = p.length + 1 := by simp
    have w := wrap_len p o (by omega)
    have w2 : wrap64 ((n : Int) + 1) = ((n + 1 : Nat) : Int) := by unfold wrap64; omega
    refine Ev.step (fun k => rfl) ?_
    unfold rowsG
    by_cases hk : o.f0 = 3 ∨ o.f0 = 4
    · have hch : chO o = true := by simpa [chO] using hk
      simp only [hch, if_true]
      cases b
      · have co : out.length < 8796093022208 := by omega
        have e2 : wrap64 (((out ++ [(⟨(n : Int), 0⟩ : Range)]).length : Int) - 1) = (out.length : Int) := by simp only [List.length_append, List.length_singleton]; unfold wrap64; omega
        have c1 : (0 : Int) ≤ (out.length : Int) := by omega
        have c2 : (out.length : Int) < ((out ++ [(⟨(n : Int), 0⟩ : Range)]).length : Int) := by simp only [List.length_append, List.length_singleton]; omega
        have rdz : rd_Range (out ++ [(⟨(n : Int), 0⟩ : Range)]) (out.length : Int) = ⟨(n : Int), 0⟩ := getD_mid out [] _ zRange
        simp only [pick_Rows.l0, lt_mid, nn_nat, if_true, rdOp_mid, change_kind, Option.bind_some, hk, decide_true, Bool.false_eq_true, if_false, if_pos co, e2, if_pos c1, if_pos c2, rdz, w, w2, Int.toNat_natCast, List.set_append_right _ _ (Nat.le_refl out.length), Nat.sub_self, List.set_cons_zero]
        exact i (out ++ [⟨(n : Int), (n : Int)⟩]) (n + 1) true (by omega) (by simp; omega) (by simp)
      · have hi := hi rfl
        have e2 : wrap64 ((out.length : Int) - 1) = ((out.length - 1 : Nat) : Int) := by unfold wrap64; omega
        have c1 : (0 : Int) ≤ ((out.length - 1 : Nat) : Int) := by omega
        have c2 : ((out.length - 1 : Nat) : Int) < (out.length : Int) := by omega
        simp only [pick_Rows.l0, lt_mid, nn_nat, if_true, rdOp_mid, change_kind, Option.bind_some, hk, decide_true, e2, if_pos c1, if_pos c2, w, w2, Int.toNat_natCast]
        exact i (setLast out n) (n + 1) true (by omega) (by simp only [setLast, List.length_set]; omega) (by simp only [setLast, List.length_set]; omega)
    · have hch : chO o = false := by simpa [chO] using hk
      simp only [hch, Bool.false_eq_true, if_false]
      simp only [pick_Rows.l0, lt_mid, nn_nat, if_true, rdOp_mid, change_kind, Option.bind_some, hk, decide_false, Bool.false_eq_true, if_false, w]
      exact i out n false (by omega) (by omega) (by simp)
def endCh (p : List Op) : Bool := match p.getLast? with
  | none => false
  | some o => chO o
theorem endCh_snoc (p : List Op) (o : Op) : endCh (p ++ [o]) = chO o := by simp [endCh]
theorem refrows_fn (s : List Op) : ∀ (p : List Op) (out : List Range) (n : Nat), Sm (p ++ s) → n ≤ p.length → out.length ≤ p.length → (endCh p = true → 0 < out.length) →
    Ev (fun k => patchworkref8_PickRows.l0 k (p ++ s) out (n : Int) (p.length : Int)) (rowsG s out n (endCh p)) := by
  induction s with
  | nil =>
    intro p out n _ _ _ _
    refine Ev.step (fun k => rfl) ?_
    simp only [patchworkref8_PickRows.l0, lt_end, if_false]
    exact Ev.now _
  | cons o s ih =>
    intro p out n hb hn ho hi
    have hp := hb.len
    have i := fun out n => ih (p ++ [o]) out n hb.snoc
    rw [List.append_assoc, List.singleton_append, endCh_snoc] at i
    have lp : (p ++ [o]).length = p.length + 1 := by simp
    have w := wrap_len p o (by omega)
    have w2 : wrap64 ((n : Int) + 1) = ((n + 1 : Nat) : Int) := by unfold wrap64; omega
    have co : out.length < 8796093022208 := by omega
    refine Ev.step (fun k => rfl) ?_
    unfold rowsG
    cases hch : chO o
    · simp only [hch, Bool.false_eq_true, if_false]
      simp only [patchworkref8_PickRows.l0, lt_mid, nn_nat, if_true, rdOp_mid, change_val, Option.bind_some, hch, Bool.false_eq_true, if_false, w]
      rw [hch] at i
      exact i out n (by omega) (by omega) (by simp)
    · rw [hch] at i
      simp only [hch, if_true]
      have new := i (out ++ [⟨(n : Int), (n : Int)⟩]) (n + 1) (by omega) (by simp; omega) (by simp)
      rcases snoc_cases p with hp0 | ⟨A, z, hp0⟩
      · subst hp0
        have c0 : ¬ (([] : List Op).length : Int) > 0 := by simp
        simp only [patchworkref8_PickRows.l0, lt_mid, nn_nat, if_true, rdOp_mid, change_val, Option.bind_some, hch, if_neg c0, if_pos co, w, w2]
        simp only [endCh, List.getLast?_nil, Bool.false_eq_true, if_false]
        exact new
      · subst hp0
        have c0 : ((A ++ [z]).length : Int) > 0 := by simp only [List.length_append, List.length_singleton]; omega
        have w3 : wrap64 (((A ++ [z]).length : Int) - 1) = (A.length : Int) := by simp only [List.length_append, List.length_singleton] at hp ⊢; unfold wrap64; omega
        have c1 : (0 : Int) ≤ (A.length : Int) := by omega
        have c2 : (A.length : Int) < ((A ++ [z] ++ o :: s).length : Int) := by simp; omega
        have rz : rd_Op (A ++ [z] ++ o :: s) (A.length : Int) = z := by rw [List.append_assoc]; exact rdOp_mid A _ z
        rw [endCh_snoc] at hi ⊢
        simp only [patchworkref8_PickRows.l0, lt_mid, nn_nat, if_true, rdOp_mid, change_val, Option.bind_some, hch, if_pos c0, w3, if_pos c1, if_pos c2, rz, w, w2, if_pos co]
        cases hz : chO z
        · simp only [hz, Bool.false_eq_true, if_false]
          exact new
        · have hi := hi hz
          have e2 : wrap64 ((out.length : Int) - 1) = ((out.length - 1 : Nat) : Int) := by unfold wrap64; omega
          have c3 : (0 : Int) ≤ ((out.length - 1 : Nat) : Int) := by omega
          have c4 : ((out.length - 1 : Nat) : Int) < (out.length : Int) := by omega
          simp only [hz, if_true, e2, if_pos c3, if_pos c4, Int.toNat_natCast]
          exact i (setLast out n) (n + 1) (by omega) (by simp only [setLast, List.length_set]; omega) (fun _ => by simp only [setLast, List.length_set]; omega)
theorem rows_two {l : List Op} (h : Sm l) : Ev (fun k => pick_Rows.f k l) (rowsG l [] 0 false) ∧ Ev (fun k => patchworkref8_PickRows.f k l) (rowsG l [] 0 false) :=
  ⟨rows_fn l [] [] 0 false h (by simp) (by simp) (by simp), refrows_fn l [] [] 0 h (by simp) (by simp) (by simp [endCh])⟩
theorem rowsG_len : ∀ (l : List Op) (out : List Range) (n : Nat) (b : Bool), (rowsG l out n b).length ≤ out.length + l.length
  | [], out, n, b => by simp [rowsG]
  | o :: l, out, n, b => by
    unfold rowsG
    split
    · split
      · have := rowsG_len l (setLast out n) (n + 1) true
        simp only [setLast, List.length_set, List.length_cons] at this ⊢; omega
      · have := rowsG_len l (out ++ [⟨(n : Int), (n : Int)⟩]) (n + 1) true
        simp only [List.length_append, List.length_cons, List.length_nil] at this ⊢; omega
    · have := rowsG_len l out n false
      simp only [List.length_cons]; omega
theorem same16_loop (a : List Range) : ∀ (p : List Range), (p ++ a).length < 4611686018427387904 →
    Ev (fun k => patchworklaw16_same.l0 k (p ++ a) (p ++ a) (p.length : Int)) true := by
  induction a with
  | nil =>
    intro p hb
    refine Ev.step (fun k => rfl) ?_
    simp only [patchworklaw16_same.l0, lt_end, if_false]
    exact Ev.now _
  | cons x a ih =>
    intro p hb
    have rm : rd_Range (p ++ x :: a) (p.length : Int) = x := getD_mid p a x zRange
    have i := ih (p ++ [x]) (by simpa using hb)
    simp only [List.append_assoc, List.singleton_append] at i
    refine Ev.step (fun k => rfl) ?_
    simp only [patchworklaw16_same.l0, lt_mid, nn_nat, if_true, rm]
    rw [wrap_len p x (by simp at hb; omega)]
    simpa using i
theorem same16_ev (a : List Range) (h : a.length < 4611686018427387904) : Ev (fun k => patchworklaw16_same.f k a a) true := by
  have := same16_loop a [] (by simpa using h)
  simpa [patchworklaw16_same.f] using this
end Go.Proofs.Ythognikhmbabhaa.P
