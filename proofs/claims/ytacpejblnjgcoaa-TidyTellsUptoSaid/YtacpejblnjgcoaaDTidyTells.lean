-- PRINTED by print.py (a twelfth state) out of the translation. Not trusted: Lean checks it.
import Derived.Test.YtacpejblnjgcoaaD
namespace Go.Proofs.Ytacpejblnjgcoaa.P
open Go.RowKit Go.Proofs.YtacpejblnjgcoaaW.PrintWords Go.Proofs.YtacpejblnjgcoaaW.PrintLast Go.Proofs.YtacpejblnjgcoaaW.PrintMore
attribute [local go_sem] max2_int min2_int max_two min_two max_three min_three max_four min_four   -- for this text's walks alone
set_option linter.unusedVariables false
set_option linter.unusedSimpArgs false

def patchworklaw13_TidyTells.j0 : Nat → List (Op) → Bool → Bool → Option (Bool)
  | 0, _, _, _ => none
  | k + 1, x0, x3, x11 => if x11 = true then (some x3) else (if ([] : List (Op)).length + x0.length < 4398046511104 then ((tidy_Ops.f k (([] : List (Op)) ++ x0)).bind fun t360 => ((patchworkref8_Tidy.f k x0).bind fun t363 => ((patchworkref8_Same.f k t360 t363).bind fun t366 => (if t366 = true then ((tidy_Idle.f k x0).bind fun t367 => ((patchworkref8_Idle.f k x0).bind fun t368 => (some (t367 == t368)))) else (some false))))) else (none))
def patchworklaw13_TidyTells.f (k : Nat) (l0 : List (Op)) : Option (Bool) := (patchworklaw13_alive.f k).bind fun t355 => (if t355 = true then ((patchworklaw8_Few.f k l0).bind fun t356 => (patchworklaw13_TidyTells.j0 k l0 t355 (!t356))) else (patchworklaw13_TidyTells.j0 k l0 t355 true))
theorem patchworklaw13_TidyTells.mono_l : ∀ k, (∀ y0 y1 y2, LeO (patchworklaw13_TidyTells.j0 k y0 y1 y2) (patchworklaw13_TidyTells.j0 (k + 1) y0 y1 y2))
  | 0 => fun _ _ _ r h => by simp [patchworklaw13_TidyTells.j0] at h
  | k + 1 => by
    have ih0 := patchworklaw13_TidyTells.mono_l k
    · intro y0 y1 y2
      unfold patchworklaw13_TidyTells.j0
      repeat' first
      | (with_reducible exact ih0 _ _ _)
      | (with_reducible exact patchworklaw13_alive.mono _)
      | (with_reducible exact patchworklaw8_Few.mono _ _)
      | (with_reducible exact patchworkref8_Idle.mono _ _)
      | (with_reducible exact patchworkref8_Same.mono _ _ _)
      | (with_reducible exact patchworkref8_Tidy.mono _ _)
      | (with_reducible exact tidy_Idle.mono _ _)
      | (with_reducible exact tidy_Ops.mono _ _)
      | (with_reducible exact LeO.refl _)
      | (with_reducible exact LeO.none _)
      | (with_reducible refine LeO.ite ?_ ?_)
      | (with_reducible refine LeO.bind ?_ (fun _ => ?_))
      | exact ih0 _ _ _
      | exact patchworklaw13_alive.mono _
      | exact patchworklaw8_Few.mono _ _
      | exact patchworkref8_Idle.mono _ _
      | exact patchworkref8_Same.mono _ _ _
      | exact patchworkref8_Tidy.mono _ _
      | exact tidy_Idle.mono _ _
      | exact tidy_Ops.mono _ _
      | exact LeO.none _
      | refine LeO.ite ?_ ?_
      | refine LeO.bind ?_ (fun _ => ?_)
theorem patchworklaw13_TidyTells.mono : ∀ a0 k, LeO (patchworklaw13_TidyTells.f k a0) (patchworklaw13_TidyTells.f (k + 1) a0) := by
  intro a0 k
  have ih0 := patchworklaw13_TidyTells.mono_l k
  unfold patchworklaw13_TidyTells.f
  repeat' first
      | (with_reducible exact ih0 _ _ _)
      | (with_reducible exact patchworklaw13_alive.mono _)
      | (with_reducible exact patchworklaw8_Few.mono _ _)
      | (with_reducible exact patchworkref8_Idle.mono _ _)
      | (with_reducible exact patchworkref8_Same.mono _ _ _)
      | (with_reducible exact patchworkref8_Tidy.mono _ _)
      | (with_reducible exact tidy_Idle.mono _ _)
      | (with_reducible exact tidy_Ops.mono _ _)
      | (with_reducible exact LeO.refl _)
      | (with_reducible exact LeO.none _)
      | (with_reducible refine LeO.ite ?_ ?_)
      | (with_reducible refine LeO.bind ?_ (fun _ => ?_))
      | exact ih0 _ _ _
      | exact patchworklaw13_alive.mono _
      | exact patchworklaw8_Few.mono _ _
      | exact patchworkref8_Idle.mono _ _
      | exact patchworkref8_Same.mono _ _ _
      | exact patchworkref8_Tidy.mono _ _
      | exact tidy_Idle.mono _ _
      | exact tidy_Ops.mono _ _
      | exact LeO.none _
      | refine LeO.ite ?_ ?_
      | refine LeO.bind ?_ (fun _ => ?_)

end Go.Proofs.Ytacpejblnjgcoaa.P
