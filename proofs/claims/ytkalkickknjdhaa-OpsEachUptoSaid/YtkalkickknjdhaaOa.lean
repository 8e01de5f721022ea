/- Own: what the program's Same tells; the example of the chapter on steps. -/
import Derived.Test.YtkalkickknjdhaaN1
import Derived.Test.YtkalkickknjdhaaFa8
namespace Go.Proofs.Ytkalkickknjdhaa.P
open Go.RowKit Go.Proofs.YtkalkickknjdhaaW.PrintWords Go.Proofs.YtkalkickknjdhaaW.PrintLast Go.Proofs.YtkalkickknjdhaaW.PrintMore
set_option linter.unusedVariables false
set_option linter.unusedSimpArgs false

theorem psame_loop (a : List Op) : ∀ (b p q : List Op), p.length = q.length → a.length = b.length → p.length + a.length < 4611686018427387904 →
    Ev (fun k => slices_Equal_Op.l0 k (p ++ a) (q ++ b) ((p ++ a).length : Int) (p.length : Int)) (decide (a = b)) := by
  induction a with
  | nil =>
    intro b p q hpq hab hb
    obtain rfl : b = [] := List.length_eq_zero_iff.mp hab.symm
    refine Ev.step (fun k => rfl) ?_
    simp only [slices_Equal_Op.l0, lt_end, if_false]
    exact Ev.now _
  | cons x a ih =>
    intro b p q hpq hab hb
    match b, hab with
    | y :: b, hab =>
      have e2 : ((p.length : Int) < ((q ++ y :: b).length : Int)) = True := by rw [hpq]; exact lt_mid q b y
      have r2 : rd_Op (q ++ y :: b) (p.length : Int) = y := by rw [hpq]; exact rdOp_mid q b y
      refine Ev.step (fun k => rfl) ?_
      simp only [slices_Equal_Op.l0, lt_mid, nn_nat, e2, if_true, rdOp_mid, r2]
      by_cases h : x = y
      · subst h
        have := ih b (p ++ [x]) (q ++ [x]) (by simp [hpq]) (by simpa using hab) (by simp at hb ⊢; omega)
        simp only [List.append_assoc, List.singleton_append] at this
        simp only [beq_self_eq_true, Bool.not_true, Bool.or_self, Bool.false_eq_true, if_false]
        rw [wrap_len p x (by simp at hb; omega)]
        simpa using this
      · have hb' : (!(x.f0 == y.f0) || (!(x.f1 == y.f1) || !(x.f2.toList == y.f2.toList))) = true := by
          rw [Bool.or_eq_true, Bool.or_eq_true]
          by_cases h0 : x.f0 = y.f0
          · by_cases h1 : x.f1 = y.f1
            · have h2 : ¬ x.f2.toList = y.f2.toList := fun e => h (Op.ext' h0 h1 (txt_eq e))
              simp [h2]
            · simp [h1]
          · simp [h0]
        simp only [hb', if_true]
        have : decide (x :: a = y :: b) = false := by simp [h]
        rw [this]
        exact Ev.now _
theorem psame_ev (a b : List Op) (h : a.length < 4611686018427387904) : Ev (fun k => ops_Same.f k a b) (decide (a = b)) := by
  have e : Ev (fun k => slices_Equal_Op.f k a b) (decide (a = b)) := by
    by_cases hl : a.length = b.length
    · have := psame_loop a b [] [] rfl hl (by simpa using h)
      simpa [slices_Equal_Op.f, hl] using this
    · have h1 : ¬ ((a.length : Int) = (b.length : Int)) := by omega
      have h2 : decide (a = b) = false := by
        rw [decide_eq_false_iff_not]; exact fun e => hl (by rw [e])
      simp only [slices_Equal_Op.f, if_neg h1, h2]
      exact Ev.now _
  exact Ev.bind' e (Ev.now _)
theorem alive8 : Ev (fun k => patchworklaw8_alive.f k) true := by
  have s1 : Sm [(⟨1, 3, ⟨#[]⟩⟩ : Op), ⟨4, 0, ⟨#[97, 10]⟩⟩] := Sm.of_wt (by decide)
  have r1 : rightL [(⟨1, 3, ⟨#[]⟩⟩ : Op), ⟨4, 0, ⟨#[97, 10]⟩⟩] = true := by decide
  have c3 : capd 3 [(⟨1, 3, ⟨#[]⟩⟩ : Op), ⟨4, 0, ⟨#[97, 10]⟩⟩] = 3 := by decide
  have c4 : capd 4 [(⟨1, 3, ⟨#[]⟩⟩ : Op), ⟨4, 0, ⟨#[97, 10]⟩⟩] = 4 := by decide
  have cn : (chN [(⟨1, 3, ⟨#[]⟩⟩ : Op), ⟨4, 0, ⟨#[97, 10]⟩⟩] : Int) = 1 := by decide
  have n1 : normL [(⟨1, 3, ⟨#[]⟩⟩ : Op), ⟨4, 0, ⟨#[97, 10]⟩⟩] = [(⟨1, 3, ⟨#[]⟩⟩ : Op), ⟨4, 0, ⟨#[97, 10]⟩⟩] := by decide
  have e0 := right_ev Sm.nil
  rw [show rightL [] = true from by decide] at e0
  have e1 := right_ev s1
  rw [r1] at e1
  have e2 := norm_ev s1
  rw [r1, if_pos rfl, n1] at e2
  simp only [patchworklaw8_alive.f, Option.bind_some]
  refine Ev.bind' e0 ?_
  simp only [if_true]
  refine Ev.bind' e1 ?_
  simp only [if_true]
  refine Ev.bind' (olds_ev s1) ?_
  simp only [c3, if_true]
  refine Ev.bind' (news_ev s1) ?_
  simp only [c4, if_true]
  refine Ev.bind' (pchanges_ev s1) ?_
  simp only [cn, if_true]
  refine Ev.bind' e2 ?_
  refine Ev.bind' (psame_ev _ _ (by simp)) ?_
  exact Ev.now _
end Go.Proofs.Ytkalkickknjdhaa.P
