-- PRINTED by print.py (a twelfth state) out of the translation. Not trusted: Lean checks it.
import Derived.Test.YtkalkickknjdhaaD
namespace Go.Proofs.Ytkalkickknjdhaa.P
open Go.RowKit Go.Proofs.YtkalkickknjdhaaW.PrintWords Go.Proofs.YtkalkickknjdhaaW.PrintLast Go.Proofs.YtkalkickknjdhaaW.PrintMore
attribute [local go_sem] max2_int min2_int max_two min_two max_three min_three max_four min_four   -- for this text's walks alone
set_option linter.unusedVariables false
set_option linter.unusedSimpArgs false

def patchworklaw8_OpsTell.j0 : Nat → List (Op) → List (Op) → Bool → Bool → Option (Bool)
  | 0, _, _, _, _ => none
  | k + 1, x0, x1, x5, x18 => if x18 = true then (some x5) else ((ops_Right.f k x0).bind fun t480 => ((patchworkref8_Right.f k x0).bind fun t481 => (if (t480 == t481) = true then ((ops_Olds.f k x0).bind fun t482 => ((patchworkref8_Olds.f k x0).bind fun t483 => (if t482 = t483 then ((ops_News.f k x0).bind fun t484 => ((patchworkref8_News.f k x0).bind fun t485 => (if t484 = t485 then ((ops_Changes.f k x0).bind fun t486 => ((patchworkref8_Changes.f k x0).bind fun t487 => (if t486 = t487 then ((ops_Same.f k x0 x1).bind fun t488 => ((patchworkref8_Same.f k x0 x1).bind fun t489 => (if (t488 == t489) = true then ((ops_Same.f k x0 x0).bind fun t490 => (if t490 = true then (if ([] : List (Op)).length + x0.length < 4398046511104 then ((ops_Norm.f k (([] : List (Op)) ++ x0)).bind fun t494 => ((patchworkref8_Norm.f k x0).bind fun t497 => ((ops_Same.f k t494 t497).bind fun t500 => (some t500)))) else (none)) else (some false))) else (some false)))) else (some false)))) else (some false)))) else (some false)))) else (some false))))
def patchworklaw8_OpsTell.f (k : Nat) (l0 : List (Op)) (l1 : List (Op)) : Option (Bool) := (patchworklaw8_alive.f k).bind fun t477 => (if t477 = true then ((patchworklaw8_Few.f k l0).bind fun t478 => (if t478 = true then ((patchworklaw8_Few.f k l1).bind fun t479 => (patchworklaw8_OpsTell.j0 k l0 l1 t477 (!t479))) else (patchworklaw8_OpsTell.j0 k l0 l1 t477 true))) else (patchworklaw8_OpsTell.j0 k l0 l1 t477 true))
theorem patchworklaw8_OpsTell.mono_l : ∀ k, (∀ y0 y1 y2 y3, LeO (patchworklaw8_OpsTell.j0 k y0 y1 y2 y3) (patchworklaw8_OpsTell.j0 (k + 1) y0 y1 y2 y3))
  | 0 => fun _ _ _ _ r h => by simp [patchworklaw8_OpsTell.j0] at h
  | k + 1 => by
    have ih0 := patchworklaw8_OpsTell.mono_l k
    · intro y0 y1 y2 y3
      unfold patchworklaw8_OpsTell.j0
      repeat' first
      | (with_reducible exact ih0 _ _ _ _)
      | (with_reducible exact ops_Changes.mono _ _)
      | (with_reducible exact ops_News.mono _ _)
      | (with_reducible exact ops_Norm.mono _ _)
      | (with_reducible exact ops_Olds.mono _ _)
      | (with_reducible exact ops_Right.mono _ _)
      | (with_reducible exact ops_Same.mono _ _ _)
      | (with_reducible exact patchworklaw8_Few.mono _ _)
      | (with_reducible exact patchworklaw8_alive.mono _)
      | (with_reducible exact patchworkref8_Changes.mono _ _)
      | (with_reducible exact patchworkref8_News.mono _ _)
      | (with_reducible exact patchworkref8_Norm.mono _ _)
      | (with_reducible exact patchworkref8_Olds.mono _ _)
      | (with_reducible exact patchworkref8_Right.mono _ _)
      | (with_reducible exact patchworkref8_Same.mono _ _ _)
      | (with_reducible exact LeO.refl _)
      | (with_reducible exact LeO.none _)
      | (with_reducible refine LeO.ite ?_ ?_)
      | (with_reducible refine LeO.bind ?_ (fun _ => ?_))
      | exact ih0 _ _ _ _
      | exact ops_Changes.mono _ _
      | exact ops_News.mono _ _
      | exact ops_Norm.mono _ _
      | exact ops_Olds.mono _ _
      | exact ops_Right.mono _ _
      | exact ops_Same.mono _ _ _
      | exact patchworklaw8_Few.mono _ _
      | exact patchworklaw8_alive.mono _
      | exact patchworkref8_Changes.mono _ _
      | exact patchworkref8_News.mono _ _
      | exact patchworkref8_Norm.mono _ _
      | exact patchworkref8_Olds.mono _ _
      | exact patchworkref8_Right.mono _ _
      | exact patchworkref8_Same.mono _ _ _
      | exact LeO.none _
      | refine LeO.ite ?_ ?_
      | refine LeO.bind ?_ (fun _ => ?_)
theorem patchworklaw8_OpsTell.mono : ∀ a0 a1 k, LeO (patchworklaw8_OpsTell.f k a0 a1) (patchworklaw8_OpsTell.f (k + 1) a0 a1) := by
  intro a0 a1 k
  have ih0 := patchworklaw8_OpsTell.mono_l k
  unfold patchworklaw8_OpsTell.f
  repeat' first
      | (with_reducible exact ih0 _ _ _ _)
      | (with_reducible exact ops_Changes.mono _ _)
      | (with_reducible exact ops_News.mono _ _)
      | (with_reducible exact ops_Norm.mono _ _)
      | (with_reducible exact ops_Olds.mono _ _)
      | (with_reducible exact ops_Right.mono _ _)
      | (with_reducible exact ops_Same.mono _ _ _)
      | (with_reducible exact patchworklaw8_Few.mono _ _)
      | (with_reducible exact patchworklaw8_alive.mono _)
      | (with_reducible exact patchworkref8_Changes.mono _ _)
      | (with_reducible exact patchworkref8_News.mono _ _)
      | (with_reducible exact patchworkref8_Norm.mono _ _)
      | (with_reducible exact patchworkref8_Olds.mono _ _)
      | (with_reducible exact patchworkref8_Right.mono _ _)
      | (with_reducible exact patchworkref8_Same.mono _ _ _)
      | (with_reducible exact LeO.refl _)
      | (with_reducible exact LeO.none _)
      | (with_reducible refine LeO.ite ?_ ?_)
      | (with_reducible refine LeO.bind ?_ (fun _ => ?_))
      | exact ih0 _ _ _ _
      | exact ops_Changes.mono _ _
      | exact ops_News.mono _ _
      | exact ops_Norm.mono _ _
      | exact ops_Olds.mono _ _
      | exact ops_Right.mono _ _
      | exact ops_Same.mono _ _ _
      | exact patchworklaw8_Few.mono _ _
      | exact patchworklaw8_alive.mono _
      | exact patchworkref8_Changes.mono _ _
      | exact patchworkref8_News.mono _ _
      | exact patchworkref8_Norm.mono _ _
      | exact patchworkref8_Olds.mono _ _
      | exact patchworkref8_Right.mono _ _
      | exact patchworkref8_Same.mono _ _ _
      | exact LeO.none _
      | refine LeO.ite ?_ ?_
      | refine LeO.bind ?_ (fun _ => ?_)

end Go.Proofs.Ytkalkickknjdhaa.P
