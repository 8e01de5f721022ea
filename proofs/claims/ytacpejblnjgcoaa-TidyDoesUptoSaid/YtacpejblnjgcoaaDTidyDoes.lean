-- PRINTED by print.py (a twelfth state) out of the translation. Not trusted: Lean checks it.
import Derived.Test.YtacpejblnjgcoaaD
namespace Go.Proofs.Ytacpejblnjgcoaa.P
open Go.RowKit Go.Proofs.YtacpejblnjgcoaaW.PrintWords Go.Proofs.YtacpejblnjgcoaaW.PrintLast Go.Proofs.YtacpejblnjgcoaaW.PrintMore
attribute [local go_sem] max2_int min2_int max_two min_two max_three min_three max_four min_four   -- for this text's walks alone
set_option linter.unusedVariables false
set_option linter.unusedSimpArgs false

def patchworklaw13_TidyDoes.j0 : Nat → List (Op) → List ByteArray → Bool → Bool → Option (Bool)
  | 0, _, _, _, _ => none
  | k + 1, x0, x1, x5, x28 => if x28 = true then (some x5) else ((tidy_Ops.f k x0).bind fun t404 => ((patchworkref8_Do.f k x0 x1).bind fun bt407 => ((patchworkref8_Do.f k t404 x1).bind fun bt411 => ((patchworkref8_Right.f k t404).bind fun t415 => (if t415 = true then (if (bt407.2 == bt411.2) = true then ((patchworkref1_SameTexts.f k bt407.1 bt411.1).bind fun t416 => (if t416 = true then ((patchworkref8_Changes.f k t404).bind fun t417 => ((patchworkref8_Changes.f k x0).bind fun t418 => (if t417 ≤ t418 then ((tidy_Ops.f k t404).bind fun t419 => ((patchworkref8_Same.f k t419 t404).bind fun t422 => (some t422))) else (some false)))) else (some false))) else (some false)) else (some false))))))
def patchworklaw13_TidyDoes.f (k : Nat) (l0 : List (Op)) (l1 : List ByteArray) : Option (Bool) := (patchworklaw13_alive.f k).bind fun t400 => (if t400 = true then ((patchworklaw8_Few.f k l0).bind fun t401 => (if t401 = true then ((patchworklaw9_Short.f k l1).bind fun t402 => (if t402 = true then ((patchworkref8_Right.f k l0).bind fun t403 => (patchworklaw13_TidyDoes.j0 k l0 l1 t400 (!t403))) else (patchworklaw13_TidyDoes.j0 k l0 l1 t400 true))) else (patchworklaw13_TidyDoes.j0 k l0 l1 t400 true))) else (patchworklaw13_TidyDoes.j0 k l0 l1 t400 true))
theorem patchworklaw13_TidyDoes.mono_l : ∀ k, (∀ y0 y1 y2 y3, LeO (patchworklaw13_TidyDoes.j0 k y0 y1 y2 y3) (patchworklaw13_TidyDoes.j0 (k + 1) y0 y1 y2 y3))
  | 0 => fun _ _ _ _ r h => by simp [patchworklaw13_TidyDoes.j0] at h
  | k + 1 => by
    have ih0 := patchworklaw13_TidyDoes.mono_l k
    · intro y0 y1 y2 y3
      unfold patchworklaw13_TidyDoes.j0
      repeat' first
      | (with_reducible exact ih0 _ _ _ _)
      | (with_reducible exact patchworklaw13_alive.mono _)
      | (with_reducible exact patchworklaw8_Few.mono _ _)
      | (with_reducible exact patchworklaw9_Short.mono _ _)
      | (with_reducible exact patchworkref1_SameTexts.mono _ _ _)
      | (with_reducible exact patchworkref8_Changes.mono _ _)
      | (with_reducible exact patchworkref8_Do.mono _ _ _)
      | (with_reducible exact patchworkref8_Right.mono _ _)
      | (with_reducible exact patchworkref8_Same.mono _ _ _)
      | (with_reducible exact tidy_Ops.mono _ _)
      | (with_reducible exact LeO.refl _)
      | (with_reducible exact LeO.none _)
      | (with_reducible refine LeO.ite ?_ ?_)
      | (with_reducible refine LeO.bind ?_ (fun _ => ?_))
      | exact ih0 _ _ _ _
      | exact patchworklaw13_alive.mono _
      | exact patchworklaw8_Few.mono _ _
      | exact patchworklaw9_Short.mono _ _
      | exact patchworkref1_SameTexts.mono _ _ _
      | exact patchworkref8_Changes.mono _ _
      | exact patchworkref8_Do.mono _ _ _
      | exact patchworkref8_Right.mono _ _
      | exact patchworkref8_Same.mono _ _ _
      | exact tidy_Ops.mono _ _
      | exact LeO.none _
      | refine LeO.ite ?_ ?_
      | refine LeO.bind ?_ (fun _ => ?_)
theorem patchworklaw13_TidyDoes.mono : ∀ a0 a1 k, LeO (patchworklaw13_TidyDoes.f k a0 a1) (patchworklaw13_TidyDoes.f (k + 1) a0 a1) := by
  intro a0 a1 k
  have ih0 := patchworklaw13_TidyDoes.mono_l k
  unfold patchworklaw13_TidyDoes.f
  repeat' first
      | (with_reducible exact ih0 _ _ _ _)
      | (with_reducible exact patchworklaw13_alive.mono _)
      | (with_reducible exact patchworklaw8_Few.mono _ _)
      | (with_reducible exact patchworklaw9_Short.mono _ _)
      | (with_reducible exact patchworkref1_SameTexts.mono _ _ _)
      | (with_reducible exact patchworkref8_Changes.mono _ _)
      | (with_reducible exact patchworkref8_Do.mono _ _ _)
      | (with_reducible exact patchworkref8_Right.mono _ _)
      | (with_reducible exact patchworkref8_Same.mono _ _ _)
      | (with_reducible exact tidy_Ops.mono _ _)
      | (with_reducible exact LeO.refl _)
      | (with_reducible exact LeO.none _)
      | (with_reducible refine LeO.ite ?_ ?_)
      | (with_reducible refine LeO.bind ?_ (fun _ => ?_))
      | exact ih0 _ _ _ _
      | exact patchworklaw13_alive.mono _
      | exact patchworklaw8_Few.mono _ _
      | exact patchworklaw9_Short.mono _ _
      | exact patchworkref1_SameTexts.mono _ _ _
      | exact patchworkref8_Changes.mono _ _
      | exact patchworkref8_Do.mono _ _ _
      | exact patchworkref8_Right.mono _ _
      | exact patchworkref8_Same.mono _ _ _
      | exact tidy_Ops.mono _ _
      | exact LeO.none _
      | refine LeO.ite ?_ ?_
      | refine LeO.bind ?_ (fun _ => ?_)

end Go.Proofs.Ytacpejblnjgcoaa.P
