/- Own: what the program picks, and its rows of changes. -/
import Derived.Test.YthognikhmbabhaaFa
import Derived.Test.YthognikhmbabhaaN0
namespace Go.Proofs.Ythognikhmbabhaa.P
open Go.RowKit Go.Proofs.YthognikhmbabhaaW.PrintWords Go.Proofs.YthognikhmbabhaaW.PrintLast Go.Proofs.YthognikhmbabhaaW.PrintMore
set_option linter.unusedSimpArgs false
set_option linter.unusedVariables false

def pkF (ps : List Bool) : Nat → List Op → List Op
  | _, [] => []
  | n, o :: l => if chO o then (if ps.getD n false then o :: pkF ps (n + 1) l else if o.f0 = 3 then ⟨2, o.f1, o.f2⟩ :: pkF ps (n + 1) l else pkF ps (n + 1) l) else o :: pkF ps n l
def pkS (ps : List Bool) : Nat → List Op → List Op
  | _, [] => []
  | n, o :: l => if chO o then (if ps.getD n false then (if o.f0 = 4 then ⟨2, o.f1, o.f2⟩ :: pkS ps (n + 1) l else pkS ps (n + 1) l) else o :: pkS ps (n + 1) l) else o :: pkS ps n l
theorem pkF_sm (ps : List Bool) : ∀ (l : List Op) (n : Nat), (pkF ps n l).length ≤ l.length ∧ ∀ x ∈ pkF ps n l, ∃ o ∈ l, x.f2 = o.f2
  | [], n => ⟨Nat.le_refl _, fun x h => by simp [pkF] at h⟩
  | o :: l, n => by
    have i := pkF_sm ps l
    have up : ∀ {m x}, x ∈ pkF ps m l → ∃ o' ∈ o :: l, x.f2 = o'.f2 := fun {m x} hx => by
      obtain ⟨y, hy, e⟩ := (i m).2 x hx; exact ⟨y, List.mem_cons_of_mem _ hy, e⟩
    unfold pkF
    repeat' split
    all_goals (refine ⟨?_, fun x hx => ?_⟩)
    all_goals first
      | (have := (i (n + 1)).1; have := (i n).1; simp only [List.length_cons]; omega)
      | exact up hx
      | (rcases List.mem_cons.mp hx with e | hx
         · exact ⟨o, List.mem_cons_self .., by rw [e]⟩
         · exact up hx)
theorem pkS_sm (ps : List Bool) : ∀ (l : List Op) (n : Nat), (pkS ps n l).length ≤ l.length ∧ ∀ x ∈ pkS ps n l, ∃ o ∈ l, x.f2 = o.f2
  | [], n => ⟨Nat.le_refl _, fun x h => by simp [pkS] at h⟩
  | o :: l, n => by
    have i := pkS_sm ps l
    have up : ∀ {m x}, x ∈ pkS ps m l → ∃ o' ∈ o :: l, x.f2 = o'.f2 := fun {m x} hx => by
      obtain ⟨y, hy, e⟩ := (i m).2 x hx; exact ⟨y, List.mem_cons_of_mem _ hy, e⟩
    unfold pkS
    repeat' split
    all_goals (refine ⟨?_, fun x hx => ?_⟩)
    all_goals first
      | (have := (i (n + 1)).1; have := (i n).1; simp only [List.length_cons]; omega)
      | exact up hx
      | (rcases List.mem_cons.mp hx with e | hx
         · exact ⟨o, List.mem_cons_self .., by rw [e]⟩
         · exact up hx)
theorem Sm.pkF {l : List Op} (h : Sm l) (ps : List Bool) (n : Nat) : Sm (pkF ps n l) := by
  obtain ⟨h1, h2⟩ := pkF_sm ps l n
  refine ⟨Nat.lt_of_le_of_lt h1 h.1, fun x hx => ?_⟩
  obtain ⟨o, ho, e⟩ := h2 x hx
  rw [e]; exact h.2 o ho
theorem Sm.pkS {l : List Op} (h : Sm l) (ps : List Bool) (n : Nat) : Sm (pkS ps n l) := by
  obtain ⟨h1, h2⟩ := pkS_sm ps l n
  refine ⟨Nat.lt_of_le_of_lt h1 h.1, fun x hx => ?_⟩
  obtain ⟨o, ho, e⟩ := h2 x hx
  rw [e]; exact h.2 o ho
theorem pick_loop (ps : List Bool) (s : List Op) : ∀ (p A B : List Op) (n : Nat) (v : List Op × List Op), Sm (p ++ s) → n ≤ p.length → A.length ≤ p.length → B.length ≤ p.length →
    Ev (fun k => pick_Ops.l0 k ps (A ++ pkF ps n s) (B ++ pkS ps n s) 0 [] 0 0) v → Ev (fun k => pick_Ops.l0 k ps A B (n : Int) (p ++ s) ((p ++ s).length : Int) (p.length : Int)) v := by
  induction s with
  | nil =>
    intro p A B n v hb _ _ _ h
    simp only [pkF, pkS, List.append_nil] at h
    refine Ev.step (fun k => rfl) ?_
    simp only [pick_Ops.l0, lt_end, if_false]
    obtain ⟨K, hK⟩ := h
    refine ⟨K, fun k hk => ?_⟩
    have := hK (k + 1) (by omega)
    simpa only [pick_Ops.l0, show ¬ (0 : Int) < 0 from by omega, if_false] using this
  | cons o s ih =>
    intro p A B n v hb hn hA hB h
    have i := fun A B n => ih (p ++ [o]) A B n v hb.snoc
    rw [List.append_assoc, List.singleton_append] at i
    have hp := hb.len
    have hl : (p ++ [o]).length = p.length + 1 := by simp
    have w := wrap_len p o (by omega)
    have w2 : wrap64 ((n : Int) + 1) = ((n + 1 : Nat) : Int) := by unfold wrap64; omega
    have cA : A.length < 4398046511104 := by omega
    have cB : B.length < 4398046511104 := by omega
    have sn : ∀ (X : List Op) (x : Op) (Y : List Op), X ++ x :: Y = (X ++ [x]) ++ Y := fun X x Y => by simp
    refine Ev.step (fun k => rfl) ?_
    simp only [pick_Ops.l0, lt_mid, nn_nat, if_true, rdOp_mid, change_kind, Option.bind_some, decide_eq_true_eq]
    by_cases hc : o.f0 = 3 ∨ o.f0 = 4
    · have hch : chO o = true := by simpa [chO] using hc
      simp only [pkF, pkS, hch, if_true] at h
      simp only [if_pos hc]
      have both : ∀ (b : Bool), b = ps.getD n false → Ev (fun k => pick_Ops.j1 k ps A B (n : Int) true true (p ++ o :: s) ((p ++ o :: s).length : Int) (p.length : Int) b o.f0 o.f1 o.f2 o.f0 o.f1 o.f2 o.f0 o.f1 o.f2) v := by
        intro b hb2
        rw [← hb2] at h
        refine Ev.step (fun k => rfl) ?_
        cases b
        · simp only [pick_Ops.j1, Bool.false_eq_true, if_false, pick_other.f, Option.bind_some, w2] at h ⊢
          refine Ev.step (fun k => rfl) ?_
          by_cases h3 : o.f0 = 3
          · rw [if_pos h3, sn A _ (P.pkF ps (n + 1) s), sn B _ (P.pkS ps (n + 1) s)] at h
            simp only [pick_Ops.j2, h3, beq_self_eq_true, if_true, if_pos cA, if_pos cB, Option.bind_some, w]
            have := i (A ++ [⟨2, o.f1, o.f2⟩]) (B ++ [o]) (n + 1) (by omega) (by simp; omega) (by simp; omega) h
            rw [show (⟨3, o.f1, o.f2⟩ : Op) = o from Op.ext' h3.symm rfl rfl]
            exact this
          · rw [if_neg h3, sn B _ (P.pkS ps (n + 1) s)] at h
            have hb3 : (o.f0 == 3) = false := by simpa using h3
            simp only [pick_Ops.j2, hb3, Bool.false_eq_true, if_false, if_true, if_pos cB, w]
            exact i A (B ++ [o]) (n + 1) (by omega) (by omega) (by simp; omega) h
        · simp only [pick_Ops.j1, if_true, pick_other.f, Option.bind_some, w2] at h ⊢
          refine Ev.step (fun k => rfl) ?_
          by_cases h4 : o.f0 = 4
          · rw [if_pos h4, sn B _ (P.pkS ps (n + 1) s), sn A _ (P.pkF ps (n + 1) s)] at h
            simp only [pick_Ops.j2, h4, beq_self_eq_true, if_true, if_pos cA, if_pos cB, Option.bind_some, w]
            have := i (A ++ [o]) (B ++ [⟨2, o.f1, o.f2⟩]) (n + 1) (by omega) (by simp; omega) (by simp; omega) h
            rw [show (⟨4, o.f1, o.f2⟩ : Op) = o from Op.ext' h4.symm rfl rfl]
            exact this
          · rw [if_neg h4, sn A _ (P.pkF ps (n + 1) s)] at h
            have hb3 : (o.f0 == 4) = false := by simpa using h4
            simp only [pick_Ops.j2, hb3, Bool.false_eq_true, if_false, if_true, if_pos cA, Option.bind_some, w]
            exact i (A ++ [o]) B (n + 1) (by omega) (by simp; omega) (by omega) h
      by_cases hlt : (n : Int) < (ps.length : Int)
      · simp only [if_pos hlt]
        refine both _ ?_
        unfold rdOf; rw [Int.toNat_natCast]
      · simp only [if_neg hlt]
        refine both _ ?_
        rw [List.getD_eq_getElem?_getD, List.getElem?_eq_none (by omega)]; rfl
    · have hch : chO o = false := by simpa [chO] using hc
      simp only [pkF, pkS, hch, Bool.false_eq_true, if_false] at h
      rw [sn A _ (P.pkF ps n s), sn B _ (P.pkS ps n s)] at h
      simp only [if_neg hc]
      refine Ev.step (fun k => rfl) ?_
      simp only [pick_Ops.j2, if_true, if_pos cA, if_pos cB, Option.bind_some, w]
      exact i (A ++ [o]) (B ++ [o]) n (by omega) (by simp; omega) (by simp; omega) h
/-- What is picked, and what is left. -/
def pickL (l : List Op) (ps : List Bool) : List Op × List Op :=
  let m := if rightL l then normL l else []
  if rightL (pkF ps 0 m) = true ∧ rightL (pkS ps 0 m) = true then (normL (pkF ps 0 m), normL (pkS ps 0 m)) else ([], [])
theorem Sm.norms {l : List Op} (h : Sm l) : Sm (if rightL l then normL l else []) := by
  split
  · rename_i hr; exact h.norm (rightL_form hr)
  · exact .nil
theorem pick_ev {l : List Op} (h : Sm l) (ps : List Bool) : Ev (fun k => pick_Ops.f k l ps) (pickL l ps) := by
  refine Ev.bind' (norm_ev h) ?_
  unfold pickL
  have hm := h.norms
  generalize (if rightL l then normL l else []) = m at hm ⊢
  refine pick_loop ps m [] [] [] 0 _ hm (by simp) (by simp) (by simp) ?_
  have sF := hm.pkF ps 0
  have sS := hm.pkS ps 0
  simp only [List.nil_append]
  refine Ev.step (fun k => rfl) ?_
  simp only [pick_Ops.l0, show ¬ (0 : Int) < 0 from by omega, if_false]
  refine Ev.bind' (right_ev sF) ?_
  cases rF : rightL (P.pkF ps 0 m)
  · simp only [Bool.false_eq_true, if_false, false_and]
    refine Ev.step (fun k => rfl) ?_
    simp only [pick_Ops.j3, if_true]
    exact Ev.now _
  simp only [if_true, true_and]
  refine Ev.bind' (right_ev sS) ?_
  refine Ev.step (fun k => rfl) ?_
  cases rS : rightL (P.pkS ps 0 m)
  · simp only [pick_Ops.j3, Bool.not_false, if_true, Bool.false_eq_true, if_false]
    exact Ev.now _
  simp only [pick_Ops.j3, Bool.not_true, Bool.false_eq_true, if_false, if_true]
  have nF := norm_ev sF
  have nS := norm_ev sS
  rw [rF, if_pos rfl] at nF
  rw [rS, if_pos rfl] at nS
  exact Ev.bind' nF (Ev.bind' nS (Ev.now _))
/-- The rows of changes stand one behind the other. -/
def chained (m : Int) : List Range → Int → Prop
  | [], n => m = n
  | r :: rs, n => r.f0 = m ∧ r.f0 ≤ r.f1 ∧ chained (r.f1 + 1) rs n
theorem chained_snoc (r : Range) (n : Int) : ∀ (A : List Range) (m : Int), chained m (A ++ [r]) n ↔ chained m A r.f0 ∧ r.f0 ≤ r.f1 ∧ r.f1 + 1 = n
  | [], m => by simp only [List.nil_append, chained]; constructor <;> (intro h; refine ⟨?_, h.2⟩; omega)
  | a :: A, m => by
    have := chained_snoc r n A (a.f1 + 1)
    simp only [List.cons_append, chained, this]
    constructor
    · rintro ⟨h1, h2, h3, h4⟩; exact ⟨⟨h1, h2, h3⟩, h4⟩
    · rintro ⟨⟨h1, h2, h3⟩, h4⟩; exact ⟨h1, h2, h3, h4⟩
theorem rows_loop (s : List Op) : ∀ (p : List Op) (out : List Range) (inside : Bool), Sm (p ++ s) → chained 0 out (chN p : Int) → (inside = true → out ≠ []) → out.length + chN p ≤ p.length + (if inside then 1 else 0) →
    ∃ r, Ev (fun k => pick_Rows.l0 k out (chN p : Int) inside (p ++ s) ((p ++ s).length : Int) (p.length : Int)) r ∧ chained 0 r (chN (p ++ s) : Int) ∧ r.length + chN (p ++ s) ≤ (p ++ s).length + 1 := by
  induction s with
  | nil =>
    intro p out inside hb hc _ hl
    refine ⟨out, ?_, by rw [List.append_nil]; exact hc, by rw [List.append_nil]; split at hl <;> omega⟩
    refine Ev.step (fun k => rfl) ?_
    simp only [pick_Rows.l0, lt_end, if_false]
    exact Ev.now _
  | cons o s ih =>
    intro p out inside hb hc hi hl
    have hp := hb.len
    have hcp := chN_le p
    have w := wrap_len p o (by omega)
    have lp : (p ++ [o]).length = p.length + 1 := by simp
    have i := fun out inside => ih (p ++ [o]) out inside hb.snoc
    rw [List.append_assoc, List.singleton_append, chN_snoc] at i
    have w2 : wrap64 ((chN p : Int) + 1) = ((chN p + 1 : Nat) : Int) := by unfold wrap64; omega
    by_cases hk : o.f0 = 3 ∨ o.f0 = 4
    · have hch : chO o = true := by simpa [chO] using hk
      simp only [hch, if_true] at i
      have setlast : ∀ (A : List Range) (z : Range) (x : Range), A.length < 8796093022208 → (A ++ [z]).set (wrap64 (((A ++ [z]).length : Int) - 1)).toNat x = A ++ [x] ∧ wrap64 (((A ++ [z]).length : Int) - 1) = (A.length : Int) := by
        intro A z x hA
        have e : wrap64 (((A ++ [z]).length : Int) - 1) = (A.length : Int) := by simp only [List.length_append, List.length_singleton]; unfold wrap64; omega
        refine ⟨?_, e⟩
        rw [e, Int.toNat_natCast, List.set_append_right _ _ (Nat.le_refl _), Nat.sub_self, List.set_cons_zero]
      have rdz : ∀ (A : List Range) (z : Range), rd_Range (A ++ [z]) (A.length : Int) = z := fun A z => getD_mid A [] z zRange
      cases inside
      · simp only [Bool.false_eq_true, if_false, Nat.add_zero] at hl
        have ho : out.length < 8796093022208 := by omega
        obtain ⟨e1, e2⟩ := setlast out ⟨(chN p : Int), 0⟩ ⟨(chN p : Int), (chN p : Int)⟩ ho
        obtain ⟨r, h1, h2, h3⟩ := i (out ++ [⟨(chN p : Int), (chN p : Int)⟩]) true (by
          rw [chained_snoc]
          refine ⟨hc, Int.le_refl _, ?_⟩
          show (chN p : Int) + 1 = ((chN p + 1 : Nat) : Int)
          omega) (by simp) (by simp only [List.length_append, List.length_singleton, if_true]; omega)
        refine ⟨r, ?_, h2, h3⟩
        have c1 : (0 : Int) ≤ (out.length : Int) := by omega
        have c2 : (out.length : Int) < ((out ++ [(⟨(chN p : Int), 0⟩ : Range)]).length : Int) := by simp only [List.length_append, List.length_singleton]; omega
        refine Ev.step (fun k => rfl) ?_
        simp only [pick_Rows.l0, lt_mid, nn_nat, if_true, rdOp_mid, change_kind, Option.bind_some, hk, decide_true, Bool.false_eq_true, if_false, if_pos ho, e2, rdz, w, w2, Int.toNat_natCast, List.set_append_right _ _ (Nat.le_refl out.length), Nat.sub_self, List.set_cons_zero]
        exact h1
      · simp only [if_true] at hl
        rcases List.eq_nil_or_concat out with h0 | ⟨A, z, h0⟩
        · exact absurd h0 (hi rfl)
        rw [List.concat_eq_append] at h0
        subst h0
        rw [chained_snoc] at hc
        simp only [List.length_append, List.length_singleton] at hl
        obtain ⟨e1, e2⟩ := setlast A z ⟨z.f0, (chN p : Int)⟩ (by omega)
        obtain ⟨r, h1, h2, h3⟩ := i (A ++ [⟨z.f0, (chN p : Int)⟩]) true (by
          rw [chained_snoc]
          refine ⟨hc.1, ?_, ?_⟩
          · show z.f0 ≤ (chN p : Int)
            omega
          · show (chN p : Int) + 1 = ((chN p + 1 : Nat) : Int)
            omega) (by simp) (by simp only [List.length_append, List.length_singleton, if_true]; omega)
        refine ⟨r, ?_, h2, h3⟩
        have c2 : (A.length : Int) < ((A ++ [z]).length : Int) := by simp only [List.length_append, List.length_singleton]; omega
        refine Ev.step (fun k => rfl) ?_
        simp only [pick_Rows.l0, lt_mid, nn_nat, if_true, rdOp_mid, change_kind, Option.bind_some, hk, decide_true, e2, rdz, w, w2, Int.toNat_natCast, List.set_append_right _ _ (Nat.le_refl A.length), Nat.sub_self, List.set_cons_zero]
        exact h1
    · have hch : chO o = false := by simpa [chO] using hk
      simp only [hch, Bool.false_eq_true, if_false, Nat.add_zero] at i
      obtain ⟨r, h1, h2, h3⟩ := i out false hc (by simp) (by rw [lp]; simp only [Bool.false_eq_true, if_false]; split at hl <;> omega)
      refine ⟨r, ?_, h2, h3⟩
      refine Ev.step (fun k => rfl) ?_
      simp only [pick_Rows.l0, lt_mid, nn_nat, if_true, rdOp_mid, change_kind, Option.bind_some, hk, decide_false, Bool.false_eq_true, if_false, w]
      exact h1
theorem rows_ev {l : List Op} (h : Sm l) : ∃ r, Ev (fun k => pick_Rows.f k l) r ∧ chained 0 r (chN l : Int) ∧ r.length + chN l ≤ l.length + 1 := by
  have := rows_loop l [] [] false h rfl (by simp) (by simp [chN])
  exact this
end Go.Proofs.Ythognikhmbabhaa.P
