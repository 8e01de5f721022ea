/- Own: how many steps come in, and how long. -/
import Derived.Test.YtfoponahdidddaaUb
import Derived.Test.YtfoponahdidddaaK
namespace Go.Proofs.Ytfoponahdidddaa.P
open Go.RowKit Go.Proofs.YtfoponahdidddaaW.PrintWords Go.Proofs.YtfoponahdidddaaW.PrintLast Go.Proofs.YtfoponahdidddaaW.PrintMore
set_option linter.unusedVariables false
set_option linter.unusedSimpArgs false

theorem Sm.of_wt {l : List Op} (h : (l.map wtOp).sum ≤ 1099511627776) : Sm l := by
  induction l with
  | nil => exact .nil
  | cons o l ih =>
    rw [List.map_cons, List.sum_cons] at h
    unfold wtOp at h
    obtain ⟨i1, i2⟩ := ih (by unfold wtOp; omega)
    have hl : ∀ l : List Op, l.length ≤ (l.map wtOp).sum := by
      intro l
      induction l with
      | nil => simp
      | cons x l ih => rw [List.map_cons, List.sum_cons, List.length_cons]; unfold wtOp at *; omega
    have := hl l
    unfold wtOp at this
    refine ⟨by rw [List.length_cons]; omega, fun x hx => ?_⟩
    rcases List.mem_cons.mp hx with rfl | hx
    · omega
    · exact i2 x hx
/-- How much is told of steps by the reading. -/
def fewN (l : List Op) : Nat := (l.map fun o => 1 + o.f2.size).sum
theorem fewN_le (l : List Op) : fewN l ≤ (l.map wtOp).sum := by
  induction l with
  | nil => exact Nat.le_refl _
  | cons o l ih => simp only [fewN, List.map_cons, List.sum_cons] at ih ⊢; unfold wtOp at *; omega
theorem fewN_len (l : List Op) : l.length ≤ fewN l := by
  induction l with
  | nil => exact Nat.le_refl _
  | cons o l ih => simp only [fewN, List.map_cons, List.sum_cons, List.length_cons] at ih ⊢; omega
theorem few_loop (s : List Op) : ∀ (p : List Op), fewN (p ++ s) < 4398046511104 → Ev (fun k => patchworklaw8_Few.l0 k (p ++ s) (fewN p : Int) (p.length : Int)) (decide (fewN (p ++ s) ≤ 600)) := by
  induction s with
  | nil =>
    intro p _
    refine Ev.step (fun k => rfl) ?_
    simp only [patchworklaw8_Few.l0, lt_end, if_false]
    rw [List.append_nil, show decide (fewN p ≤ 600) = decide ((fewN p : Int) ≤ 600) from by
      have : fewN p ≤ 600 ↔ (fewN p : Int) ≤ 600 := by omega
      simp only [this]]
    exact Ev.now _
  | cons o s ih =>
    intro p hb
    have e : fewN (p ++ [o]) = fewN p + (1 + o.f2.size) := by simp [fewN]
    have e2 : fewN (p ++ o :: s) = fewN p + (1 + o.f2.size) + fewN s := by simp [fewN, Nat.add_assoc]
    have hl := fewN_len (p ++ o :: s)
    have := ih (p ++ [o]) (by simpa using hb)
    rw [List.append_assoc, List.singleton_append, e] at this
    have w : wrap64 (wrap64 ((fewN p : Int) + 1) + (o.f2.size : Int)) = ((fewN p + (1 + o.f2.size) : Nat) : Int) := by unfold wrap64; omega
    refine Ev.step (fun k => rfl) ?_
    simp only [patchworklaw8_Few.l0, lt_mid, nn_nat, if_true, rdOp_mid, w, wrap_len p o (by simp at hl; omega)]
    exact this
theorem few_ev {l : List Op} (h : fewN l < 4398046511104) : Ev (fun k => patchworklaw8_Few.f k l) (decide (fewN l ≤ 600)) := few_loop l [] h
end Go.Proofs.Ytfoponahdidddaa.P
