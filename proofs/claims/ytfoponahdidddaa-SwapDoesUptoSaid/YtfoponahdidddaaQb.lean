/- Own: what the reference's Same tells of two rows of steps. -/
import Derived.Test.YtfoponahdidddaaQa
namespace Go.Proofs.Ytfoponahdidddaa.P
open Go.RowKit Go.Proofs.YtfoponahdidddaaW.PrintWords Go.Proofs.YtfoponahdidddaaW.PrintLast Go.Proofs.YtfoponahdidddaaW.PrintMore

theorem same_loop (a : List Op) : ∀ (b p q : List Op), p.length = q.length → a.length = b.length → p.length + a.length < 4611686018427387904 →
    Ev (fun k => patchworkref8_Same.l0 k (p ++ a) (q ++ b) (p.length : Int)) (decide (a = b)) := by
  induction a with
  | nil =>
    intro b p q hpq hab hb
    obtain rfl : b = [] := List.length_eq_zero_iff.mp hab.symm
    refine Ev.step (fun k => rfl) ?_
    simp only [patchworkref8_Same.l0, lt_end, if_false]
    exact Ev.now _
  | cons x a ih =>
    intro b p q hpq hab hb
    match b, hab with
    | y :: b, hab =>
      have e2 : ((p.length : Int) < ((q ++ y :: b).length : Int)) = True := by rw [hpq]; exact lt_mid q b y
      have r2 : rd_Op (q ++ y :: b) (p.length : Int) = y := by rw [hpq]; exact rdOp_mid q b y
      refine Ev.step (fun k => rfl) ?_
      simp only [patchworkref8_Same.l0, lt_mid, nn_nat, e2, if_true, rdOp_mid, r2]
      by_cases h : x = y
      · subst h
        have := ih b (p ++ [x]) (q ++ [x]) (by simp [hpq]) (by simpa using hab) (by simp at hb ⊢; omega)
        simp only [List.append_assoc, List.singleton_append] at this
        simp only [beq_self_eq_true, Bool.not_true, Bool.or_self, Bool.false_eq_true, if_false]
        rw [wrap_len p x (by simp at hb; omega)]
        simpa using this
      · have hb' : (!(x.f0 == y.f0) || (!(x.f1 == y.f1) || !(x.f2.toList == y.f2.toList))) = true := by
          rw [Bool.or_eq_true, Bool.or_eq_true]
          by_cases h0 : x.f0 = y.f0
          · by_cases h1 : x.f1 = y.f1
            · have h2 : ¬ x.f2.toList = y.f2.toList := fun e => h (Op.ext' h0 h1 (txt_eq e))
              simp [h2]
            · simp [h1]
          · simp [h0]
        simp only [hb', if_true]
        have : decide (x :: a = y :: b) = false := by simp [h]
        rw [this]
        exact Ev.now _
theorem same_ev (a b : List Op) (h : a.length < 4611686018427387904) : Ev (fun k => patchworkref8_Same.f k a b) (decide (a = b)) := by
  by_cases hl : a.length = b.length
  · have := same_loop a b [] [] rfl hl (by simpa using h)
    simpa [patchworkref8_Same.f, hl] using this
  · have h1 : ¬ ((a.length : Int) = (b.length : Int)) := by omega
    have h2 : decide (a = b) = false := by
      rw [decide_eq_false_iff_not]; exact fun e => hl (by rw [e])
    simp only [patchworkref8_Same.f, if_neg h1, h2]
    exact Ev.now _
end Go.Proofs.Ytfoponahdidddaa.P
