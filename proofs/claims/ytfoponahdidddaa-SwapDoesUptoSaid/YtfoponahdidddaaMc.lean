/- Own: the reference's Right, Olds and News. -/
import Derived.Test.YtfoponahdidddaaMb
namespace Go.Proofs.Ytfoponahdidddaa.P
open Go.RowKit Go.Proofs.YtfoponahdidddaaW.PrintWords Go.Proofs.YtfoponahdidddaaW.PrintLast Go.Proofs.YtfoponahdidddaaW.PrintMore

theorem refold_val (o : Op) : patchworkref8_old.f o.f0 o.f1 o.f2 = some (cnt 3 o : Int) := by
  unfold patchworkref8_old.f cnt
  by_cases h1 : o.f0 = 1
  · rw [if_pos h1, if_pos h1]
    by_cases h2 : o.f1 > 0
    · rw [if_pos h2]; congr 1; omega
    · rw [if_neg h2]; congr 1; omega
  · rw [if_neg h1, if_neg h1]
    by_cases h2 : o.f0 = 2
    · simp [h2]
    · by_cases h3 : o.f0 = 3 <;> simp [h2, h3]
theorem reffresh_val (o : Op) : patchworkref8_fresh.f o.f0 o.f1 o.f2 = some (cnt 4 o : Int) := by
  unfold patchworkref8_fresh.f
  rw [refold_val]
  by_cases h3 : o.f0 = 3
  · simp [h3, cnt]
  · by_cases h4 : o.f0 = 4
    · simp [h4, cnt]
    · simp [h3, h4, cnt]
theorem plus_val {c : Int} {p : List Op} {n : Nat} : patchworkref8_plus.f (capd c p) (n : Int) = some (min (capd c p + (n : Int)) far) := by
  have := capd_bd c p
  unfold far at *
  unfold patchworkref8_plus.f
  by_cases h1 : capd c p ≥ 1099511627776
  · rw [if_pos h1]; congr 1; omega
  · rw [if_neg h1]
    by_cases h2 : (n : Int) ≥ 1099511627776
    · rw [if_pos h2]; congr 1; omega
    · rw [if_neg h2, show wrap64 (capd c p + (n : Int)) = capd c p + (n : Int) from by unfold wrap64; omega]
      by_cases h3 : capd c p + (n : Int) > 1099511627776
      · rw [if_pos h3]; congr 1; omega
      · rw [if_neg h3]; congr 1; omega
theorem refolds_loop (s : List Op) : ∀ (p : List Op), Sm (p ++ s) → Ev (fun k => patchworkref8_Olds.l0 k (p ++ s) (capd 3 p) (p.length : Int)) (capd 3 (p ++ s)) := by
  induction s with
  | nil =>
    intro p _
    refine Ev.step (fun k => rfl) ?_
    simp only [patchworkref8_Olds.l0, lt_end, if_false]
    rw [List.append_nil]
    exact Ev.now _
  | cons o s ih =>
    intro p hb
    have := ih (p ++ [o]) hb.snoc
    rw [List.append_assoc, List.singleton_append, capd_snoc] at this
    refine Ev.step (fun k => rfl) ?_
    simp only [patchworkref8_Olds.l0, lt_mid, nn_nat, if_true, rdOp_mid, wrap_len p o (by have := hb.len; omega), refold_val, Option.bind_some, plus_val]
    exact this
theorem refnews_loop (s : List Op) : ∀ (p : List Op), Sm (p ++ s) → Ev (fun k => patchworkref8_News.l0 k (p ++ s) (capd 4 p) (p.length : Int)) (capd 4 (p ++ s)) := by
  induction s with
  | nil =>
    intro p _
    refine Ev.step (fun k => rfl) ?_
    simp only [patchworkref8_News.l0, lt_end, if_false]
    rw [List.append_nil]
    exact Ev.now _
  | cons o s ih =>
    intro p hb
    have := ih (p ++ [o]) hb.snoc
    rw [List.append_assoc, List.singleton_append, capd_snoc] at this
    refine Ev.step (fun k => rfl) ?_
    simp only [patchworkref8_News.l0, lt_mid, nn_nat, if_true, rdOp_mid, wrap_len p o (by have := hb.len; omega), reffresh_val, Option.bind_some, plus_val]
    exact this
theorem refolds_ev {l : List Op} (h : Sm l) : Ev (fun k => patchworkref8_Olds.f k l) (capd 3 l) := by
  have := refolds_loop l [] h
  rw [capd_nil] at this
  exact this
theorem refnews_ev {l : List Op} (h : Sm l) : Ev (fun k => patchworkref8_News.f k l) (capd 4 l) := by
  have := refnews_loop l [] h
  rw [capd_nil] at this
  exact this
/-- One step of the reference's Right, once its own form is known to be right, or not. -/
def rightRest (p s : List Op) (e f : Bool) : Bool := s.all okOne && (closedGo 3 e s && (closedGo 4 f s && (decide (capd 3 (p ++ s) ≤ 2147483648) && decide (capd 4 (p ++ s) ≤ 2147483648))))
theorem cnt_pos {c : Int} {o : Op} (ho : okOne o = true) : ((cnt c o : Int) > 0) ↔ (o.f0 = 1 ∨ o.f0 = 2 ∨ o.f0 = c) := by
  unfold okOne at ho
  unfold cnt
  by_cases h1 : o.f0 = 1
  · rw [if_pos h1] at ho ⊢
    simp only [Bool.and_eq_true, decide_eq_true_eq] at ho
    simp [h1]; omega
  · rw [if_neg h1]
    by_cases h2 : o.f0 = 2 ∨ o.f0 = c
    · rw [if_pos h2]; simp [h1, h2]
    · rw [if_neg h2]; simp [h1, h2]
theorem rightRest_bad {p s : List Op} {o : Op} {e f : Bool} (h : okOne o = false) : rightRest p (o :: s) e f = false := by simp [rightRest, h]
theorem rightRest_good {p s : List Op} {o : Op} {e f : Bool} (h : okOne o = true) (he : ¬ ((o.f0 = 1 ∨ o.f0 = 2 ∨ o.f0 = 3) ∧ e = true)) (hf : ¬ ((o.f0 = 1 ∨ o.f0 = 2 ∨ o.f0 = 4) ∧ f = true)) :
    rightRest p (o :: s) e f = rightRest (p ++ [o]) s (if o.f0 = 1 ∨ o.f0 = 2 ∨ o.f0 = 3 then decide (o.f0 ≠ 1) && openT o.f2 else e) (if o.f0 = 1 ∨ o.f0 = 2 ∨ o.f0 = 4 then decide (o.f0 ≠ 1) && openT o.f2 else f) := by
  unfold rightRest
  rw [List.append_assoc, List.singleton_append, List.all_cons, h, Bool.true_and, closedGo, closedGo]
  by_cases h3 : o.f0 = 1 ∨ o.f0 = 2 ∨ o.f0 = 3
  · have e' : e = false := by cases e; rfl; exact absurd ⟨h3, rfl⟩ he
    by_cases h4 : o.f0 = 1 ∨ o.f0 = 2 ∨ o.f0 = 4
    · have f' : f = false := by cases f; rfl; exact absurd ⟨h4, rfl⟩ hf
      simp only [if_pos h3, if_pos h4, e', f', Bool.false_eq_true, if_false]
    · simp only [if_pos h3, if_neg h4, e', Bool.false_eq_true, if_false]
  · by_cases h4 : o.f0 = 1 ∨ o.f0 = 2 ∨ o.f0 = 4
    · have f' : f = false := by cases f; rfl; exact absurd ⟨h4, rfl⟩ hf
      simp only [if_neg h3, if_pos h4, f', Bool.false_eq_true, if_false]
    · simp only [if_neg h3, if_neg h4]
theorem rightRest_old {p s : List Op} {o : Op} {f : Bool} (h : o.f0 = 1 ∨ o.f0 = 2 ∨ o.f0 = 3) : rightRest p (o :: s) true f = false := by simp [rightRest, closedGo, h]
theorem rightRest_new {p s : List Op} {o : Op} {e : Bool} (h : o.f0 = 1 ∨ o.f0 = 2 ∨ o.f0 = 4) : rightRest p (o :: s) e true = false := by simp [rightRest, closedGo, h]
/-- Behind the look at the ends. -/
theorem refright_one {p s : List Op} {o : Op} {e f : Bool} (hb : Sm (p ++ o :: s)) (he : (o.f0 = 1 ∨ o.f0 = 2 ∨ o.f0 = 3) → e = false) (hf : (o.f0 = 1 ∨ o.f0 = 2 ∨ o.f0 = 4) → f = false)
    (ih : ∀ e f, Ev (fun k => patchworkref8_Right.l0 k (p ++ o :: s) e f ((p ++ [o]).length : Int)) (rightRest (p ++ [o]) s e f)) :
    okOne o = true → Ev (fun k => patchworkref8_Right.j1 k (p ++ o :: s) e f (p.length : Int) false o.f0 o.f1 o.f2) (rightRest p (o :: s) e f) := by
  intro ho
  rw [rightRest_good ho (fun h => by simp [he h.1] at h) (fun h => by simp [hf h.1] at h)]
  have w := wrap_len p o (by have := hb.len; omega)
  have hm := hb.mid
  refine Ev.step (fun k => rfl) ?_
  unfold okOne at ho
  by_cases h1 : o.f0 = 1
  · rw [if_pos h1] at ho
    simp only [Bool.and_eq_true, decide_eq_true_eq] at ho
    have c1 : ¬ o.f1 < 1 := by omega
    have c2 : ¬ o.f1 > 2147483648 := by omega
    have c3 : o.f2.toList = ([] : List UInt8) := by rw [Lib.toList_data]; exact ho.2.2
    have e' := he (.inl h1)
    have f' := hf (.inl h1)
    subst e' f'
    simp only [patchworkref8_Right.j1, Bool.false_eq_true, if_false, if_pos h1, if_neg c1, if_neg c2, if_pos c3, w]
    simpa [h1] using ih false false
  · rw [if_neg h1] at ho
    simp only [Bool.and_eq_true, decide_eq_true_eq] at ho
    obtain ⟨hk, hz, ht⟩ := ho
    have step : Ev (fun k => patchworkref8_Right.j2 k (p ++ o :: s) e f (p.length : Int) o.f0 o.f1 o.f2) (rightRest (p ++ [o]) s (if o.f0 = 1 ∨ o.f0 = 2 ∨ o.f0 = 3 then decide (o.f0 ≠ 1) && openT o.f2 else e) (if o.f0 = 1 ∨ o.f0 = 2 ∨ o.f0 = 4 then decide (o.f0 ≠ 1) && openT o.f2 else f)) := by
      refine Ev.step (fun k => rfl) ?_
      simp only [patchworkref8_Right.j2, if_pos hz]
      refine Ev.bind' (rightline_ev hm) ?_
      rw [ht]
      refine Ev.step (fun k => rfl) ?_
      simp only [patchworkref8_Right.j3, Bool.not_true, Bool.false_eq_true, if_false, open_val hm, Option.bind_some, w]
      rcases hk with h | h | h
      · have e' := he (.inr (.inl h))
        have f' := hf (.inr (.inl h))
        subst e' f'
        simp only [h]
        cases ho2 : openT o.f2
        · simpa using ih false false
        · simpa using ih true true
      · have e' := he (.inr (.inr h))
        subst e'
        simp only [h]
        cases ho2 : openT o.f2
        · simpa using ih false f
        · cases f
          · simpa using ih true false
          · simpa using ih true true
      · have f' := hf (.inr (.inr h))
        subst f'
        simp only [h]
        cases ho2 : openT o.f2
        · simpa using ih e false
        · cases e
          · simpa using ih false true
          · simpa using ih true true
    rcases hk with h | h | h
    · have d1 : ¬ o.f0 = 1 := h1
      simp only [patchworkref8_Right.j1, Bool.false_eq_true, if_false, if_neg h1, if_pos h]
      exact step
    · have d2 : ¬ o.f0 = 2 := by omega
      simp only [patchworkref8_Right.j1, Bool.false_eq_true, if_false, if_neg h1, if_neg d2, if_pos h]
      exact step
    · have d2 : ¬ o.f0 = 2 := by omega
      have d3 : ¬ o.f0 = 3 := by omega
      simp only [patchworkref8_Right.j1, Bool.false_eq_true, if_false, if_neg h1, if_neg d2, if_neg d3, if_pos h]
      exact step
/-- One that is not right in itself ends it, whatever was seen ahead. -/
theorem refright_bad {l : List Op} {o : Op} {e f b : Bool} {i : Int} (hm : o.f2.size < 4611686018427387904) (ho : okOne o = false) : Ev (fun k => patchworkref8_Right.j1 k l e f i b o.f0 o.f1 o.f2) false := by
  refine Ev.step (fun k => rfl) ?_
  cases b
  · have last : Ev (fun k => patchworkref8_Right.j2 k l e f i o.f0 o.f1 o.f2) false ∨ ¬ (o.f0 = 2 ∨ o.f0 = 3 ∨ o.f0 = 4) := by
      by_cases hk : o.f0 = 2 ∨ o.f0 = 3 ∨ o.f0 = 4
      · refine .inl ?_
        have h1 : ¬ o.f0 = 1 := by omega
        unfold okOne at ho
        rw [if_neg h1] at ho
        refine Ev.step (fun k => rfl) ?_
        by_cases hz : o.f1 = 0
        · simp only [patchworkref8_Right.j2, if_pos hz]
          have hr : rightT o.f2 = false := by simpa [hk, hz] using ho
          refine Ev.bind' (rightline_ev hm) ?_
          rw [hr]
          refine Ev.step (fun k => rfl) ?_
          simp only [patchworkref8_Right.j3, Bool.not_false, if_true]
          exact Ev.now _
        · simp only [patchworkref8_Right.j2, if_neg hz]
          refine Ev.step (fun k => rfl) ?_
          simp only [patchworkref8_Right.j3, if_true]
          exact Ev.now _
      · exact .inr hk
    by_cases h1 : o.f0 = 1
    · unfold okOne at ho
      rw [if_pos h1] at ho
      simp only [patchworkref8_Right.j1, Bool.false_eq_true, if_false, if_pos h1]
      by_cases c1 : o.f1 < 1
      · simp only [if_pos c1]; exact Ev.now _
      simp only [if_neg c1]
      by_cases c2 : o.f1 > 2147483648
      · simp only [if_pos c2]; exact Ev.now _
      simp only [if_neg c2]
      by_cases c3 : o.f2.toList = ([] : List UInt8)
      · exfalso
        rw [Lib.toList_data] at c3
        have d1 : 1 ≤ o.f1 := by omega
        have d2 : o.f1 ≤ 2147483648 := by omega
        rw [c3] at ho
        simp [d1, d2] at ho
      · simp only [if_neg c3]; exact Ev.now _
    · simp only [patchworkref8_Right.j1, Bool.false_eq_true, if_false, if_neg h1]
      by_cases h2 : o.f0 = 2
      · simp only [if_pos h2]; exact last.resolve_right (fun h => h (.inl h2))
      simp only [if_neg h2]
      by_cases h3 : o.f0 = 3
      · simp only [if_pos h3]; exact last.resolve_right (fun h => h (.inr (.inl h3)))
      simp only [if_neg h3]
      by_cases h4 : o.f0 = 4
      · simp only [if_pos h4]; exact last.resolve_right (fun h => h (.inr (.inr h4)))
      simp only [if_neg h4]
      exact Ev.now _
  · simp only [patchworkref8_Right.j1, if_true]
    exact Ev.now _
theorem refright_met {l : List Op} {o : Op} {e f : Bool} {i : Int} : Ev (fun k => patchworkref8_Right.j1 k l e f i true o.f0 o.f1 o.f2) false := by
  refine Ev.step (fun k => rfl) ?_
  simp only [patchworkref8_Right.j1, if_true]
  exact Ev.now _
theorem refright_loop (s : List Op) : ∀ (p : List Op) (e f : Bool), Sm (p ++ s) → Ev (fun k => patchworkref8_Right.l0 k (p ++ s) e f (p.length : Int)) (rightRest p s e f) := by
  induction s with
  | nil =>
    intro p e f hb
    refine Ev.step (fun k => rfl) ?_
    simp only [patchworkref8_Right.l0, lt_end, if_false]
    refine Ev.bind' (refolds_ev hb) ?_
    simp only [rightRest, List.all_nil, closedGo, Bool.true_and]
    by_cases h1 : capd 3 (p ++ []) ≤ 2147483648
    · simp only [h1, if_true, decide_true, Bool.true_and]
      exact Ev.bind' (refnews_ev hb) (Ev.now _)
    · simp only [h1, if_false, decide_false, Bool.false_and]
      exact Ev.now _
  | cons o s ih =>
    intro p e f hb
    have i := fun e f => ih (p ++ [o]) e f hb.snoc
    rw [List.append_assoc, List.singleton_append] at i
    refine Ev.step (fun k => rfl) ?_
    simp only [patchworkref8_Right.l0, lt_mid, nn_nat, if_true, rdOp_mid, refold_val, reffresh_val, Option.bind_some]
    cases ho : okOne o
    · rw [rightRest_bad ho]
      have bad := fun b => refright_bad (l := p ++ o :: s) (e := e) (f := f) (b := b) (i := (p.length : Int)) hb.mid ho
      split
      · split
        · exact bad _
        · split
          · exact bad _
          · exact bad _
      · split
        · exact bad _
        · exact bad _
    · have c3 := cnt_pos (c := 3) ho
      have c4 := cnt_pos (c := 4) ho
      by_cases h3 : o.f0 = 1 ∨ o.f0 = 2 ∨ o.f0 = 3
      · simp only [if_pos (c3.mpr h3)]
        cases e
        · simp only [Bool.false_eq_true, if_false]
          by_cases h4 : o.f0 = 1 ∨ o.f0 = 2 ∨ o.f0 = 4
          · simp only [if_pos (c4.mpr h4)]
            cases f
            · exact refright_one hb (fun _ => rfl) (fun _ => rfl) i ho
            · rw [rightRest_new h4]; exact refright_met
          · simp only [if_neg (fun x => h4 (c4.mp x))]
            exact refright_one hb (fun _ => rfl) (fun h => absurd h h4) i ho
        · simp only [if_true]
          rw [rightRest_old h3]; exact refright_met
      · simp only [if_neg (fun x => h3 (c3.mp x))]
        by_cases h4 : o.f0 = 1 ∨ o.f0 = 2 ∨ o.f0 = 4
        · simp only [if_pos (c4.mpr h4)]
          cases f
          · exact refright_one hb (fun h => absurd h h3) (fun _ => rfl) i ho
          · rw [rightRest_new h4]; exact refright_met
        · simp only [if_neg (fun x => h4 (c4.mp x))]
          exact refright_one hb (fun h => absurd h h3) (fun h => absurd h h4) i ho
/-- The reference's Right. -/
theorem refright_ev {l : List Op} (h : Sm l) : Ev (fun k => patchworkref8_Right.f k l) (rightL l) := by
  have := refright_loop l [] false false h
  have e : rightRest [] l false false = rightL l := by
    unfold rightRest rightL
    rw [List.nil_append]
    cases l.all okOne <;> cases closedGo 3 false l <;> cases closedGo 4 false l <;> simp
  rw [e] at this
  exact this
end Go.Proofs.Ytfoponahdidddaa.P
