/- Own: what the reference's SameTexts tells of two rows of texts. -/
import Derived.Test.YtfoponahdidddaaQa
namespace Go.Proofs.Ytfoponahdidddaa.P
open Go.RowKit Go.Proofs.YtfoponahdidddaaW.PrintWords Go.Proofs.YtfoponahdidddaaW.PrintLast Go.Proofs.YtfoponahdidddaaW.PrintMore

theorem texts_loop (a : List ByteArray) : ∀ (b p q : List ByteArray), p.length = q.length → a.length = b.length → p.length + a.length < 4611686018427387904 →
    Ev (fun k => patchworkref1_SameTexts.l0 k (p ++ a) (q ++ b) (p.length : Int)) (decide (a = b)) := by
  induction a with
  | nil =>
    intro b p q hpq hab hb
    obtain rfl : b = [] := List.length_eq_zero_iff.mp hab.symm
    refine Ev.step (fun k => rfl) ?_
    simp only [patchworkref1_SameTexts.l0, lt_end, if_false]
    exact Ev.now _
  | cons x a ih =>
    intro b p q hpq hab hb
    match b, hab with
    | y :: b, hab =>
      have e2 : ((p.length : Int) < ((q ++ y :: b).length : Int)) = True := by rw [hpq]; exact lt_mid q b y
      have r2 : rdOf ByteArray.empty (q ++ y :: b) (p.length : Int) = y := by rw [hpq]; exact rdOf_mid _ q b y
      refine Ev.step (fun k => rfl) ?_
      simp only [patchworkref1_SameTexts.l0, lt_mid, nn_nat, e2, if_true, rdOf_mid, r2]
      by_cases h : x = y
      · subst h
        have := ih b (p ++ [x]) (q ++ [x]) (by simp [hpq]) (by simpa using hab) (by simp at hb ⊢; omega)
        simp only [List.append_assoc, List.singleton_append] at this
        simp only [if_true]
        rw [wrap_len p x (by simp at hb; omega)]
        simpa using this
      · have h2 : ¬ x.toList = y.toList := fun e => h (txt_eq e)
        simp only [if_neg h2]
        have : decide (x :: a = y :: b) = false := by simp [h]
        rw [this]
        exact Ev.now _
theorem texts_ev (a b : List ByteArray) (h : a.length < 4611686018427387904) : Ev (fun k => patchworkref1_SameTexts.f k a b) (decide (a = b)) := by
  by_cases hl : a.length = b.length
  · have := texts_loop a b [] [] rfl hl (by simpa using h)
    simpa [patchworkref1_SameTexts.f, hl] using this
  · have h1 : ¬ ((a.length : Int) = (b.length : Int)) := by omega
    have h2 : decide (a = b) = false := by
      rw [decide_eq_false_iff_not]; exact fun e => hl (by rw [e])
    simp only [patchworkref1_SameTexts.f, if_neg h1, h2]
    exact Ev.now _
end Go.Proofs.Ytfoponahdidddaa.P
