/- Own: how many changes steps have, by the program; and what the program's Same tells. -/
import Derived.Test.YtacpejblnjgcoaaN0
namespace Go.Proofs.Ytacpejblnjgcoaa.P
open Go.RowKit Go.Proofs.YtacpejblnjgcoaaW.PrintWords Go.Proofs.YtacpejblnjgcoaaW.PrintLast Go.Proofs.YtacpejblnjgcoaaW.PrintMore
set_option linter.unusedVariables false
set_option linter.unusedSimpArgs false

theorem pchanges_loop (s : List Op) : ∀ (p : List Op), Sm (p ++ s) → Ev (fun k => ops_Changes.l0 k (chN p : Int) (p ++ s) ((p ++ s).length : Int) (p.length : Int)) (chN (p ++ s) : Int) := by
  induction s with
  | nil =>
    intro p _
    refine Ev.step (fun k => rfl) ?_
    simp only [ops_Changes.l0, lt_end, if_false]
    rw [List.append_nil]
    exact Ev.now _
  | cons o s ih =>
    intro p hb
    have i := ih (p ++ [o]) hb.snoc
    rw [List.append_assoc, List.singleton_append, chN_snoc] at i
    have hp := hb.len
    have hcp := chN_le p
    have w2 : wrap64 ((chN p : Int) + 1) = ((chN p + 1 : Nat) : Int) := by unfold wrap64; omega
    refine Ev.step (fun k => rfl) ?_
    simp only [ops_Changes.l0, lt_mid, nn_nat, if_true, rdOp_mid, change_kind, Option.bind_some, wrap_len p o (by omega), w2]
    by_cases hk : o.f0 = 3 ∨ o.f0 = 4
    · have hc : chO o = true := by simpa [chO] using hk
      simp only [hc, hk, decide_true, if_true] at i ⊢; exact i
    · have hc : chO o = false := by simpa [chO] using hk
      simp only [hc, hk, decide_false, Bool.false_eq_true, if_false, Nat.add_zero] at i ⊢; exact i
theorem pchanges_ev {l : List Op} (h : Sm l) : Ev (fun k => ops_Changes.f k l) (chN l : Int) := pchanges_loop l [] h
end Go.Proofs.Ytacpejblnjgcoaa.P
