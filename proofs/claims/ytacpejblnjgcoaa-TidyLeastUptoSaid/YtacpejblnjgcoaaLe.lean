/- Own: the walk of lcs.Diff. -/
import Derived.Test.YtacpejblnjgcoaaLd
import Derived.Test.YtacpejblnjgcoaaD
namespace Go.Proofs.Ytacpejblnjgcoaa.P
open Go.RowKit Go.Proofs.YtacpejblnjgcoaaW.PrintWords Go.Proofs.YtacpejblnjgcoaaW.PrintLast Go.Proofs.YtacpejblnjgcoaaW.PrintMore
set_option linter.unusedVariables false
set_option linter.unusedSimpArgs false

/-- What both rows begin with. -/
def aheadN : List ByteArray → List ByteArray → Nat
  | x :: a, y :: b => if x = y then aheadN a b + 1 else 0
  | _, _ => 0
theorem aheadN_le (a b : List ByteArray) : aheadN a b ≤ a.length ∧ aheadN a b ≤ b.length := by
  induction a generalizing b with
  | nil => simp [aheadN]
  | cons x a ih =>
    cases b with
    | nil => simp [aheadN]
    | cons y b =>
      have := ih b
      simp only [aheadN, List.length_cons]
      split <;> omega
theorem diffOps_ahead (a b : List ByteArray) : diffOps a b = (a.take (aheadN a b)).map (fun t => (⟨2, 0, t⟩ : Op)) ++ diffOps (a.drop (aheadN a b)) (b.drop (aheadN a b)) := by
  induction a generalizing b with
  | nil => simp [aheadN]
  | cons x a ih =>
    cases b with
    | nil => simp [aheadN]
    | cons y b =>
      simp only [aheadN]
      split
      · rename_i h
        subst h
        rw [diffOps]
        simp only [if_true, List.take_succ_cons, List.map_cons, List.drop_succ_cons, List.cons_append]
        rw [← ih b]
      · simp
theorem ahead_loop (a : List ByteArray) : ∀ (b p q : List ByteArray), p.length = q.length → p.length + a.length ≤ 1000000 → q.length + b.length ≤ 1000000 →
    Ev (fun k => lcs_ahead.l0 k (p ++ a) (q ++ b) (p.length : Int)) ((p.length + aheadN a b : Nat) : Int) := by
  induction a with
  | nil =>
    intro b p q hpq h1 h2
    refine Ev.step (fun k => rfl) ?_
    have e : ¬ ((p.length : Int) < ((p ++ ([] : List ByteArray)).length : Int)) := by simp
    simp only [lcs_ahead.l0, if_neg e, aheadN, Nat.add_zero]
    exact Ev.now _
  | cons x a ih =>
    intro b p q hpq h1 h2
    have e1 : (p.length : Int) < ((p ++ x :: a).length : Int) := by simp; omega
    have e0 : (0 : Int) ≤ (p.length : Int) := by omega
    cases b with
    | nil =>
      refine Ev.step (fun k => rfl) ?_
      have e : ¬ ((p.length : Int) < ((q ++ ([] : List ByteArray)).length : Int)) := by simp; omega
      simp only [lcs_ahead.l0, if_pos e1, if_neg e, aheadN, Nat.add_zero]
      exact Ev.now _
    | cons y b =>
      have e2 : (p.length : Int) < ((q ++ y :: b).length : Int) := by simp; omega
      have r1 : rdOf ByteArray.empty (p ++ x :: a) (p.length : Int) = x := by simp [rdOf]
      have r2 : rdOf ByteArray.empty (q ++ y :: b) (p.length : Int) = y := by simp [rdOf, hpq]
      refine Ev.step (fun k => rfl) ?_
      simp only [lcs_ahead.l0, if_pos e1, if_pos e2, if_pos e0, r1, r2]
      by_cases h : x = y
      · subst h
        have ew : wrap64 ((p.length : Int) + 1) = ((p ++ [x]).length : Int) := by unfold wrap64; simp at h1 ⊢; omega
        have := ih b (p ++ [x]) (q ++ [x]) (by simp [hpq]) (by simp at h1 ⊢; omega) (by simp at h2 ⊢; omega)
        simp only [List.append_assoc, List.singleton_append] at this
        simp only [if_true, ew]
        simp only [aheadN, if_true]
        have e3 : (p ++ [x]).length + aheadN a b = p.length + (aheadN a b + 1) := by simp; omega
        rw [← e3]
        exact this
      · have h' : ¬ x.toList = y.toList := fun e => h (by rw [Lib.toList_data, Lib.toList_data] at e; exact WideShapes.bytes_inj e)
        simp only [if_neg h', aheadN, if_neg h, Nat.add_zero]
        exact Ev.now _
theorem ahead_ev (a b : List ByteArray) (h1 : a.length ≤ 1000000) (h2 : b.length ≤ 1000000) : Ev (fun k => lcs_ahead.f k a b) ((aheadN a b : Nat) : Int) := by
  have := ahead_loop a b [] [] rfl (by simpa using h1) (by simpa using h2)
  simpa [lcs_ahead.f] using this
end Go.Proofs.Ytacpejblnjgcoaa.P
