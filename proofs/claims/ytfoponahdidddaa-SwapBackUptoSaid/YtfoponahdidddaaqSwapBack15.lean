/- Own and printed texts that the theorem of SwapBack reaches, put together. -/
import Derived.Test.YtfoponahdidddaaqSwapBack4
import Derived.Test.YtfoponahdidddaaqSwapBack3
import Derived.Test.YtfoponahdidddaaqSwapBack7
import Derived.Test.YtfoponahdidddaaqSwapBack13
set_option linter.unusedVariables false
set_option linter.unusedSimpArgs false
namespace Go.Proofs.Ytfoponahdidddaa.P
open Go.RowKit Go.Proofs.YtfoponahdidddaaW.PrintWords Go.Proofs.YtfoponahdidddaaW.PrintLast Go.Proofs.YtfoponahdidddaaW.PrintMore
attribute [local go_sem] max2_int min2_int max_two min_two max_three min_three max_four min_four
theorem compose_Walk.calls (k : Nat) (A0 : Option Addr) (c0 : Nat) (l0 : List (Op)) (A1 : Option Addr) (c1 : Nat) (l1 : List (Op)) (r1 : List (Step)) (r2 : Bool) (w : World) (hr0 : Kd.C kOp w A0 l0.length l0) (hc0 : l0.length ≤ c0) (hr1 : Kd.C kOp w A1 l1.length l1) (hc1 : l1.length ≤ c1) (h : compose_Walk.f k l0 l1 = some (r1, r2)) :
  Calls Try.prog 36 #[.slice A0 l0.length c0, .slice A1 l1.length c1] w fun e w' => ∃ v0_ : Value, e = .returned (.tuple #[v0_, .bool r2]) ∧ Kd.R kStep 77 w' w.heap.size (fun _ => True) v0_ r1 ∧ Below w.heap.size w w' := by
 unfold compose_Walk.f at h
 obtain ⟨t0, h0, h⟩ := Option.bind_eq_some_iff.mp h
 cases t0 with
 | false =>
  obtain ⟨rfl, rfl⟩ := Prod.mk.inj (Option.some.inj h)
  exact walk_no0 k A0 c0 l0 A1 c1 l1 w hr0 hc0 h0
 | true =>
  obtain ⟨t1, h1, h⟩ := Option.bind_eq_some_iff.mp h
  cases t1 with
  | false =>
   obtain ⟨rfl, rfl⟩ := Prod.mk.inj (Option.some.inj h)
   exact walk_no1 k A0 c0 l0 A1 c1 l1 w hr0 hc0 hr1 hc1 h0 h1
  | true =>
   simp only [if_true] at h
   split at h
   ·rename_i e2
    exact walk_yes k A0 c0 l0 A1 c1 l1 r1 r2 w hr0 hc0 hr1 hc1 h0 h1 e2 h
   ·exact absurd h (by simp)
end Go.Proofs.Ytfoponahdidddaa.P
