/- Own: the pure measures of steps: is one right, how many lines has each side, is nothing behind an open line. -/
import Derived.Test.YtfoponahdidddaaMa
namespace Go.Proofs.Ytfoponahdidddaa.P
open Go.RowKit Go.Proofs.YtfoponahdidddaaW.PrintWords Go.Proofs.YtfoponahdidddaaW.PrintLast Go.Proofs.YtfoponahdidddaaW.PrintMore

def okOne (o : Op) : Bool := if o.f0 = 1 then (decide (1 ≤ o.f1) && (decide (o.f1 ≤ 2147483648) && decide (o.f2.data.toList = []))) else (decide (o.f0 = 2 ∨ o.f0 = 3 ∨ o.f0 = 4) && (decide (o.f1 = 0) && rightT o.f2))
/-- How many lines of a side; `c`: the kind that belongs to it alone (3: the old side, 4: the new one). -/
def cnt (c : Int) (o : Op) : Nat := if o.f0 = 1 then o.f1.toNat else if o.f0 = 2 ∨ o.f0 = c then 1 else 0
def sums (c : Int) (l : List Op) : Nat := (l.map (cnt c)).sum
def far : Int := 1099511627776
def capd (c : Int) (l : List Op) : Int := min (sums c l : Int) far
/-- Behind an open line of a side nothing of that side. -/
def closedGo (c : Int) : Bool → List Op → Bool
  | _, [] => true
  | e, o :: l => if o.f0 = 1 ∨ o.f0 = 2 ∨ o.f0 = c then (if e = true then false else closedGo c (decide (o.f0 ≠ 1) && openT o.f2) l) else closedGo c e l
def rightL (l : List Op) : Bool := l.all okOne && (decide (capd 3 l ≤ 2147483648) && (decide (capd 4 l ≤ 2147483648) && (closedGo 3 false l && closedGo 4 false l)))
/-- The texts are no longer than any that there is. -/
def Sm (l : List Op) : Prop := l.length < 4398046511104 ∧ ∀ o ∈ l, o.f2.size < 4611686018427387904
theorem Sm.mid {p s : List Op} {o : Op} (h : Sm (p ++ o :: s)) : o.f2.size < 4611686018427387904 := h.2 o (by simp)
theorem Sm.len {p s : List Op} {o : Op} (h : Sm (p ++ o :: s)) : p.length < 4398046511104 := by have := h.1; simp at this; omega
theorem Sm.nil : Sm [] := ⟨by simp, by simp⟩
theorem Sm.snoc {p s : List Op} {o : Op} (h : Sm (p ++ o :: s)) : Sm ((p ++ [o]) ++ s) := by rw [List.append_assoc]; exact h
theorem sums_app (c : Int) (p q : List Op) : sums c (p ++ q) = sums c p + sums c q := by simp [sums]
theorem sums_nil (c : Int) : sums c [] = 0 := rfl
theorem sums_cons (c : Int) (o : Op) (q : List Op) : sums c (o :: q) = cnt c o + sums c q := by simp [sums]
theorem capd_nil (c : Int) : capd c [] = 0 := by unfold capd far; rw [sums_nil]; omega
/-- One more step. -/
theorem capd_snoc (c : Int) (p : List Op) (o : Op) : capd c (p ++ [o]) = min (capd c p + (cnt c o : Int)) far := by
  unfold capd far
  rw [sums_app, sums_cons, sums_nil]
  omega
theorem capd_bd (c : Int) (p : List Op) : 0 ≤ capd c p ∧ capd c p ≤ far := by unfold capd far; omega

theorem one_val {o : Op} (hb : o.f2.size < 4611686018427387904) : ops_one.f o.f0 o.f1 o.f2 = some (okOne o) := by
  unfold ops_one.f okOne
  by_cases h1 : o.f0 = 1
  · rw [if_pos h1, if_pos h1]
    by_cases h2 : o.f1 ≥ 1
    · rw [if_pos h2]
      by_cases h3 : o.f1 ≤ 2147483648
      · rw [if_pos h3]
        have h2' : 1 ≤ o.f1 := h2
        rw [Lib.toList_data]
        generalize o.f2.data.toList = z
        by_cases h4 : z = [] <;> simp [h2', h3, h4]
      · rw [if_neg h3]; simp [h3]
    · rw [if_neg h2]; simp; omega
  · rw [if_neg h1, if_neg h1, linesright_val hb]
    by_cases h2 : o.f0 = 2
    · rw [if_pos h2]
      by_cases h3 : o.f1 = 0
      · rw [if_pos h3]; simp [h2, h3]
      · rw [if_neg h3]; simp [h3]
    · rw [if_neg h2]
      unfold ops_Change.f
      by_cases h4 : o.f0 = 3
      · rw [if_pos h4]
        simp only [Option.bind_some, if_true]
        by_cases h3 : o.f1 = 0
        · rw [if_pos h3]; simp [h4, h3]
        · rw [if_neg h3]; simp [h3]
      · rw [if_neg h4]
        simp only [Option.bind_some]
        by_cases h5 : o.f0 = 4
        · rw [if_pos (by simpa using h5)]
          by_cases h3 : o.f1 = 0
          · rw [if_pos h3]; simp [h5, h3]
          · rw [if_neg h3]; simp [h3]
        · rw [if_neg (by simpa using h5)]; simp [h2, h4, h5]
/-- All are right. -/
theorem contains_loop (s : List Op) : ∀ (p : List Op), Sm (p ++ s) → Ev (fun k => slices_IndexFunc_Op_ops_Right_1.l0 k (p ++ s) ((p ++ s).length : Int) (p.length : Int)) (if s.all okOne then (-1) else (p.length + (s.takeWhile okOne).length : Int)) := by
  induction s with
  | nil =>
    intro p _
    refine Ev.step (fun k => rfl) ?_
    simp only [slices_IndexFunc_Op_ops_Right_1.l0, lt_end, if_false, List.all_nil, if_true]
    exact Ev.now _
  | cons o s ih =>
    intro p hb
    have := ih (p ++ [o]) hb.snoc
    rw [List.append_assoc, List.singleton_append] at this
    refine Ev.step (fun k => rfl) ?_
    simp only [slices_IndexFunc_Op_ops_Right_1.l0, lt_mid, nn_nat, if_true, rdOp_mid, ops_Right_1.f, one_val hb.mid, Option.bind_some]
    cases ho : okOne o
    · simp only [Bool.not_false, if_true, List.all_cons, ho, Bool.false_and, Bool.false_eq_true, if_false, List.takeWhile_cons]
      simpa using Ev.now _
    · simp only [Bool.not_true, Bool.false_eq_true, if_false, List.all_cons, ho, Bool.true_and, List.takeWhile_cons, if_true]
      rw [wrap_len p o (by have := hb.len; omega)]
      have e : ((p.length : Int) + ((o :: s.takeWhile okOne).length : Int)) = (((p ++ [o]).length : Int) + ((s.takeWhile okOne).length : Int)) := by simp; omega
      rw [e]
      exact this
theorem contains_ev {l : List Op} (h : Sm l) : Ev (fun k => slices_ContainsFunc_Op_ops_Right_1.f k l) (!l.all okOne) := by
  have := contains_loop l [] h
  simp only [List.nil_append, List.length_nil, Int.natCast_zero] at this
  refine Ev.bind' this ?_
  cases ha : l.all okOne
  · simp only [Bool.false_eq_true, if_false, Bool.not_false]
    rw [show (decide ((0 : Int) + ((l.takeWhile okOne).length : Int) ≥ 0)) = true from by simp]
    exact Ev.now _
  · simp only [if_true, Bool.not_true]
    exact Ev.now _
theorem mn_min (a b : Int) : mn a b = min a b := by unfold mn; omega
theorem mx_max (a b : Int) : mx a b = max a b := by unfold mx; omega
theorem count_loop (c : Int) (hc : c ≠ 1) (s : List Op) : ∀ (p : List Op), Sm (p ++ s) → Ev (fun k => ops_count.l0 k c (capd c p) (p ++ s) ((p ++ s).length : Int) (p.length : Int)) (capd c (p ++ s)) := by
  induction s with
  | nil =>
    intro p _
    refine Ev.step (fun k => rfl) ?_
    simp only [ops_count.l0, lt_end, if_false]
    rw [List.append_nil]
    exact Ev.now _
  | cons o s ih =>
    intro p hb
    have := ih (p ++ [o]) hb.snoc
    rw [List.append_assoc, List.singleton_append] at this
    have hcb := capd_bd c p
    unfold far at hcb
    rw [capd_snoc] at this
    refine Ev.step (fun k => rfl) ?_
    simp only [ops_count.l0, lt_mid, nn_nat, if_true, rdOp_mid, wrap_len p o (by have := hb.len; omega)]
    by_cases h1 : o.f0 = 1
    · simp only [if_pos h1]
      have e : mn (wrap64 (capd c p + mx 0 (mn o.f1 1099511627776))) 1099511627776 = min (capd c p + (cnt c o : Int)) far := by
        rw [mn_min, mx_max, mn_min, show cnt c o = o.f1.toNat from by simp [cnt, h1]]
        unfold far wrap64; omega
      rw [e]; exact this
    · simp only [if_neg h1]
      by_cases h2 : o.f0 = 2
      · simp only [if_pos h2]
        have e : mn (wrap64 (capd c p + 1)) 1099511627776 = min (capd c p + (cnt c o : Int)) far := by
          rw [mn_min, show cnt c o = 1 from by simp [cnt, h2]]
          unfold far wrap64; omega
        rw [e]; exact this
      · simp only [if_neg h2]
        by_cases h3 : o.f0 = c
        · simp only [if_pos h3]
          have e : mn (wrap64 (capd c p + 1)) 1099511627776 = min (capd c p + (cnt c o : Int)) far := by
            rw [mn_min, show cnt c o = 1 from by simp [cnt, h3, hc]]
            unfold far wrap64; omega
          rw [e]; exact this
        · simp only [if_neg h3]
          have e : mn (capd c p) 1099511627776 = min (capd c p + (cnt c o : Int)) far := by
            rw [mn_min, show cnt c o = 0 from by simp [cnt, h1, h2, h3]]
            unfold far; omega
          rw [e]; exact this
theorem olds_ev {l : List Op} (h : Sm l) : Ev (fun k => ops_Olds.f k l) (capd 3 l) := by
  have := count_loop 3 (by decide) l [] h
  rw [capd_nil] at this
  simp only [List.nil_append, List.length_nil, Int.natCast_zero] at this
  exact Ev.bind' this (Ev.now _)
theorem news_ev {l : List Op} (h : Sm l) : Ev (fun k => ops_News.f k l) (capd 4 l) := by
  have := count_loop 4 (by decide) l [] h
  rw [capd_nil] at this
  simp only [List.nil_append, List.length_nil, Int.natCast_zero] at this
  exact Ev.bind' this (Ev.now _)
theorem old_kind (x : Int) : ops_Old.f x = some (decide (x = 1 ∨ x = 2 ∨ x = 3)) := by
  unfold ops_Old.f
  by_cases h1 : x = 1
  · simp [h1]
  · by_cases h2 : x = 2
    · simp [h2]
    · by_cases h3 : x = 3 <;> simp [h1, h2, h3]
theorem new_kind (x : Int) : ops_New.f x = some (decide (x = 1 ∨ x = 2 ∨ x = 4)) := by
  unfold ops_New.f
  by_cases h1 : x = 1
  · simp [h1]
  · by_cases h2 : x = 2
    · simp [h2]
    · by_cases h3 : x = 4 <;> simp [h1, h2, h3]
theorem closedOld_loop (s : List Op) : ∀ (p : List Op) (e : Bool), Sm (p ++ s) → Ev (fun k => ops_closed_ops_Old.l0 k e (p ++ s) ((p ++ s).length : Int) (p.length : Int)) (closedGo 3 e s) := by
  induction s with
  | nil =>
    intro p e _
    refine Ev.step (fun k => rfl) ?_
    simp only [ops_closed_ops_Old.l0, lt_end, if_false, closedGo]
    exact Ev.now _
  | cons o s ih =>
    intro p e hb
    have := fun e => ih (p ++ [o]) e hb.snoc
    rw [List.append_assoc, List.singleton_append] at this
    refine Ev.step (fun k => rfl) ?_
    simp only [ops_closed_ops_Old.l0, lt_mid, nn_nat, if_true, rdOp_mid, wrap_len p o (by have := hb.len; omega), old_kind, Option.bind_some, decide_eq_true_eq, closed_val hb.mid]
    by_cases h : o.f0 = 1 ∨ o.f0 = 2 ∨ o.f0 = 3
    · simp only [if_pos h, closedGo]
      cases e
      · simp only [Bool.false_eq_true, if_false]
        by_cases h1 : o.f0 = 1
        · simp only [if_pos h1]
          simpa [h1] using this false
        · simp only [if_neg h1, Bool.not_not]
          simpa [h1] using this (openT o.f2)
      · simp only [if_true]
        exact Ev.now _
    · simp only [if_neg h, closedGo]
      exact this e
theorem closedNew_loop (s : List Op) : ∀ (p : List Op) (e : Bool), Sm (p ++ s) → Ev (fun k => ops_closed_ops_New.l0 k e (p ++ s) ((p ++ s).length : Int) (p.length : Int)) (closedGo 4 e s) := by
  induction s with
  | nil =>
    intro p e _
    refine Ev.step (fun k => rfl) ?_
    simp only [ops_closed_ops_New.l0, lt_end, if_false, closedGo]
    exact Ev.now _
  | cons o s ih =>
    intro p e hb
    have := fun e => ih (p ++ [o]) e hb.snoc
    rw [List.append_assoc, List.singleton_append] at this
    refine Ev.step (fun k => rfl) ?_
    simp only [ops_closed_ops_New.l0, lt_mid, nn_nat, if_true, rdOp_mid, wrap_len p o (by have := hb.len; omega), new_kind, Option.bind_some, decide_eq_true_eq, closed_val hb.mid]
    by_cases h : o.f0 = 1 ∨ o.f0 = 2 ∨ o.f0 = 4
    · simp only [if_pos h, closedGo]
      cases e
      · simp only [Bool.false_eq_true, if_false]
        by_cases h1 : o.f0 = 1
        · simp only [if_pos h1]
          simpa [h1] using this false
        · simp only [if_neg h1, Bool.not_not]
          simpa [h1] using this (openT o.f2)
      · simp only [if_true]
        exact Ev.now _
    · simp only [if_neg h, closedGo]
      exact this e
/-- The program's Right. -/
theorem right_ev {l : List Op} (h : Sm l) : Ev (fun k => ops_Right.f k l) (rightL l) := by
  refine Ev.bind' (contains_ev h) ?_
  unfold rightL
  cases ha : l.all okOne
  · simp only [Bool.not_false, if_true, Bool.false_and]; exact Ev.now _
  simp only [Bool.not_true, Bool.false_eq_true, if_false, Bool.true_and]
  refine Ev.bind' (olds_ev h) ?_
  by_cases h1 : capd 3 l ≤ 2147483648
  · simp only [h1, if_true, decide_true, Bool.true_and]
    refine Ev.bind' (news_ev h) ?_
    by_cases h2 : capd 4 l ≤ 2147483648
    · simp only [h2, if_true, decide_true, Bool.true_and]
      refine Ev.bind' (closedOld_loop l [] false h) ?_
      cases hc : closedGo 3 false l
      · simp only [Bool.false_eq_true, if_false, Bool.false_and]; exact Ev.now _
      · simp only [if_true, Bool.true_and]
        exact Ev.bind' (closedNew_loop l [] false h) (Ev.now _)
    · simp only [h2, if_false, decide_false, Bool.false_and]; exact Ev.now _
  · simp only [h1, if_false, decide_false, Bool.false_and]; exact Ev.now _
end Go.Proofs.Ytfoponahdidddaa.P
