-- PRINTED by print.py (a twelfth state) out of the translation. Not trusted: Lean checks it.
import Derived.Test.YtkalkickknjdhaaD
namespace Go.Proofs.Ytkalkickknjdhaa.P
open Go.RowKit Go.Proofs.YtkalkickknjdhaaW.PrintWords Go.Proofs.YtkalkickknjdhaaW.PrintLast Go.Proofs.YtkalkickknjdhaaW.PrintMore
attribute [local go_sem] max2_int min2_int max_two min_two max_three min_three max_four min_four   -- for this text's walks alone
set_option linter.unusedVariables false
set_option linter.unusedSimpArgs false

def patchworklaw8_OpsNorm.j0 : Nat → List (Op) → Bool → Bool → Option (Bool)
  | 0, _, _, _ => none
  | k + 1, x0, x3, x17 => if x17 = true then (some x3) else ((ops_Norm.f k x0).bind fun t510 => ((ops_Right.f k t510).bind fun t513 => (if t513 = true then ((ops_Norm.f k t510).bind fun t514 => ((ops_Same.f k t514 t510).bind fun t517 => (if t517 = true then ((ops_Olds.f k t510).bind fun t518 => ((ops_Olds.f k x0).bind fun t519 => (if t518 = t519 then ((ops_News.f k t510).bind fun t520 => ((ops_News.f k x0).bind fun t521 => (if t520 = t521 then ((ops_Changes.f k t510).bind fun t522 => ((ops_Changes.f k x0).bind fun t523 => (if t522 = t523 then ((patchworklaw8_Known.f k t510 4).bind fun t524 => ((patchworklaw8_Known.f k x0 4).bind fun t527 => ((patchworkref1_SameTexts.f k t524 t527).bind fun t530 => (if t530 = true then ((patchworklaw8_Known.f k t510 3).bind fun t531 => ((patchworklaw8_Known.f k x0 3).bind fun t534 => ((patchworkref1_SameTexts.f k t531 t534).bind fun t537 => (if t537 = true then (some (decide ((t510.length : Int) ≤ (x0.length : Int)))) else (some false))))) else (some false))))) else (some false)))) else (some false)))) else (some false)))) else (some false)))) else (some false))))
def patchworklaw8_OpsNorm.f (k : Nat) (l0 : List (Op)) : Option (Bool) := (patchworklaw8_alive.f k).bind fun t507 => (if t507 = true then ((patchworklaw8_Few.f k l0).bind fun t508 => (if t508 = true then ((patchworkref8_Right.f k l0).bind fun t509 => (patchworklaw8_OpsNorm.j0 k l0 t507 (!t509))) else (patchworklaw8_OpsNorm.j0 k l0 t507 true))) else (patchworklaw8_OpsNorm.j0 k l0 t507 true))
theorem patchworklaw8_OpsNorm.mono_l : ∀ k, (∀ y0 y1 y2, LeO (patchworklaw8_OpsNorm.j0 k y0 y1 y2) (patchworklaw8_OpsNorm.j0 (k + 1) y0 y1 y2))
  | 0 => fun _ _ _ r h => by simp [patchworklaw8_OpsNorm.j0] at h
  | k + 1 => by
    have ih0 := patchworklaw8_OpsNorm.mono_l k
    · intro y0 y1 y2
      unfold patchworklaw8_OpsNorm.j0
      repeat' first
      | (with_reducible exact ih0 _ _ _)
      | (with_reducible exact ops_Changes.mono _ _)
      | (with_reducible exact ops_News.mono _ _)
      | (with_reducible exact ops_Norm.mono _ _)
      | (with_reducible exact ops_Olds.mono _ _)
      | (with_reducible exact ops_Right.mono _ _)
      | (with_reducible exact ops_Same.mono _ _ _)
      | (with_reducible exact patchworklaw8_Few.mono _ _)
      | (with_reducible exact patchworklaw8_Known.mono _ _ _)
      | (with_reducible exact patchworklaw8_alive.mono _)
      | (with_reducible exact patchworkref1_SameTexts.mono _ _ _)
      | (with_reducible exact patchworkref8_Right.mono _ _)
      | (with_reducible exact LeO.refl _)
      | (with_reducible exact LeO.none _)
      | (with_reducible refine LeO.ite ?_ ?_)
      | (with_reducible refine LeO.bind ?_ (fun _ => ?_))
      | exact ih0 _ _ _
      | exact ops_Changes.mono _ _
      | exact ops_News.mono _ _
      | exact ops_Norm.mono _ _
      | exact ops_Olds.mono _ _
      | exact ops_Right.mono _ _
      | exact ops_Same.mono _ _ _
      | exact patchworklaw8_Few.mono _ _
      | exact patchworklaw8_Known.mono _ _ _
      | exact patchworklaw8_alive.mono _
      | exact patchworkref1_SameTexts.mono _ _ _
      | exact patchworkref8_Right.mono _ _
      | exact LeO.none _
      | refine LeO.ite ?_ ?_
      | refine LeO.bind ?_ (fun _ => ?_)
theorem patchworklaw8_OpsNorm.mono : ∀ a0 k, LeO (patchworklaw8_OpsNorm.f k a0) (patchworklaw8_OpsNorm.f (k + 1) a0) := by
  intro a0 k
  have ih0 := patchworklaw8_OpsNorm.mono_l k
  unfold patchworklaw8_OpsNorm.f
  repeat' first
      | (with_reducible exact ih0 _ _ _)
      | (with_reducible exact ops_Changes.mono _ _)
      | (with_reducible exact ops_News.mono _ _)
      | (with_reducible exact ops_Norm.mono _ _)
      | (with_reducible exact ops_Olds.mono _ _)
      | (with_reducible exact ops_Right.mono _ _)
      | (with_reducible exact ops_Same.mono _ _ _)
      | (with_reducible exact patchworklaw8_Few.mono _ _)
      | (with_reducible exact patchworklaw8_Known.mono _ _ _)
      | (with_reducible exact patchworklaw8_alive.mono _)
      | (with_reducible exact patchworkref1_SameTexts.mono _ _ _)
      | (with_reducible exact patchworkref8_Right.mono _ _)
      | (with_reducible exact LeO.refl _)
      | (with_reducible exact LeO.none _)
      | (with_reducible refine LeO.ite ?_ ?_)
      | (with_reducible refine LeO.bind ?_ (fun _ => ?_))
      | exact ih0 _ _ _
      | exact ops_Changes.mono _ _
      | exact ops_News.mono _ _
      | exact ops_Norm.mono _ _
      | exact ops_Olds.mono _ _
      | exact ops_Right.mono _ _
      | exact ops_Same.mono _ _ _
      | exact patchworklaw8_Few.mono _ _
      | exact patchworklaw8_Known.mono _ _ _
      | exact patchworklaw8_alive.mono _
      | exact patchworkref1_SameTexts.mono _ _ _
      | exact patchworkref8_Right.mono _ _
      | exact LeO.none _
      | refine LeO.ite ?_ ?_
      | refine LeO.bind ?_ (fun _ => ?_)

end Go.Proofs.Ytkalkickknjdhaa.P
