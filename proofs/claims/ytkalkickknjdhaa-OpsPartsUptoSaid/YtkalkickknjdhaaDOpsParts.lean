-- PRINTED by print.py (a twelfth state) out of the translation. Not trusted: Lean checks it.
import Derived.Test.YtkalkickknjdhaaD
namespace Go.Proofs.Ytkalkickknjdhaa.P
open Go.RowKit Go.Proofs.YtkalkickknjdhaaW.PrintWords Go.Proofs.YtkalkickknjdhaaW.PrintLast Go.Proofs.YtkalkickknjdhaaW.PrintMore
attribute [local go_sem] max2_int min2_int max_two min_two max_three min_three max_four min_four   -- for this text's walks alone
set_option linter.unusedVariables false
set_option linter.unusedSimpArgs false

def patchworklaw8_OpsParts.j0 : Nat → List (Op) → List (Op) → Bool → Bool → Option (Bool)
  | 0, _, _, _, _ => none
  | k + 1, x0, x1, x5, x29 => if x29 = true then (some x5) else (if ([] : List (Op)).length + x0.length < 4398046511104 then ((some (([] : List (Op)) ++ x0 : List (Op))).bind fun y570 => (if y570.length + x1.length < 4398046511104 then ((some (y570 ++ x1 : List (Op))).bind fun y573 => ((ops_Olds.f k y573).bind fun t576 => ((ops_Olds.f k x0).bind fun t577 => ((ops_Olds.f k x1).bind fun t578 => (if t576 = (wrap64 (t577 + t578)) then ((ops_News.f k y573).bind fun t579 => ((ops_News.f k x0).bind fun t580 => ((ops_News.f k x1).bind fun t581 => (if t579 = (wrap64 (t580 + t581)) then ((ops_Changes.f k y573).bind fun t582 => ((ops_Changes.f k x0).bind fun t583 => ((ops_Changes.f k x1).bind fun t584 => (if t582 = (wrap64 (t583 + t584)) then ((ops_Right.f k y573).bind fun t585 => (if t585 = true then (if (x0.length : Int) = 0 then (some true) else (if (x1.length : Int) = 0 then (some true) else ((ops_Olds.f k y573).bind fun t586 => (some (decide (t586 ≤ 2147483648)))))) else (some true))) else (some false))))) else (some false))))) else (some false)))))) else (none))) else (none))
def patchworklaw8_OpsParts.f (k : Nat) (l0 : List (Op)) (l1 : List (Op)) : Option (Bool) := (patchworklaw8_alive.f k).bind fun t565 => (if t565 = true then ((patchworklaw8_Few.f k l0).bind fun t566 => (if t566 = true then ((patchworklaw8_Few.f k l1).bind fun t567 => (if t567 = true then ((patchworkref8_Right.f k l0).bind fun t568 => (if t568 = true then ((patchworkref8_Right.f k l1).bind fun t569 => (patchworklaw8_OpsParts.j0 k l0 l1 t565 (!t569))) else (patchworklaw8_OpsParts.j0 k l0 l1 t565 true))) else (patchworklaw8_OpsParts.j0 k l0 l1 t565 true))) else (patchworklaw8_OpsParts.j0 k l0 l1 t565 true))) else (patchworklaw8_OpsParts.j0 k l0 l1 t565 true))
theorem patchworklaw8_OpsParts.mono_l : ∀ k, (∀ y0 y1 y2 y3, LeO (patchworklaw8_OpsParts.j0 k y0 y1 y2 y3) (patchworklaw8_OpsParts.j0 (k + 1) y0 y1 y2 y3))
  | 0 => fun _ _ _ _ r h => by simp [patchworklaw8_OpsParts.j0] at h
  | k + 1 => by
    have ih0 := patchworklaw8_OpsParts.mono_l k
    · intro y0 y1 y2 y3
      unfold patchworklaw8_OpsParts.j0
      repeat' first
      | (with_reducible exact ih0 _ _ _ _)
      | (with_reducible exact ops_Changes.mono _ _)
      | (with_reducible exact ops_News.mono _ _)
      | (with_reducible exact ops_Olds.mono _ _)
      | (with_reducible exact ops_Right.mono _ _)
      | (with_reducible exact patchworklaw8_Few.mono _ _)
      | (with_reducible exact patchworklaw8_alive.mono _)
      | (with_reducible exact patchworkref8_Right.mono _ _)
      | (with_reducible exact LeO.refl _)
      | (with_reducible exact LeO.none _)
      | (with_reducible refine LeO.ite ?_ ?_)
      | (with_reducible refine LeO.bind ?_ (fun _ => ?_))
      | exact ih0 _ _ _ _
      | exact ops_Changes.mono _ _
      | exact ops_News.mono _ _
      | exact ops_Olds.mono _ _
      | exact ops_Right.mono _ _
      | exact patchworklaw8_Few.mono _ _
      | exact patchworklaw8_alive.mono _
      | exact patchworkref8_Right.mono _ _
      | exact LeO.none _
      | refine LeO.ite ?_ ?_
      | refine LeO.bind ?_ (fun _ => ?_)
theorem patchworklaw8_OpsParts.mono : ∀ a0 a1 k, LeO (patchworklaw8_OpsParts.f k a0 a1) (patchworklaw8_OpsParts.f (k + 1) a0 a1) := by
  intro a0 a1 k
  have ih0 := patchworklaw8_OpsParts.mono_l k
  unfold patchworklaw8_OpsParts.f
  repeat' first
      | (with_reducible exact ih0 _ _ _ _)
      | (with_reducible exact ops_Changes.mono _ _)
      | (with_reducible exact ops_News.mono _ _)
      | (with_reducible exact ops_Olds.mono _ _)
      | (with_reducible exact ops_Right.mono _ _)
      | (with_reducible exact patchworklaw8_Few.mono _ _)
      | (with_reducible exact patchworklaw8_alive.mono _)
      | (with_reducible exact patchworkref8_Right.mono _ _)
      | (with_reducible exact LeO.refl _)
      | (with_reducible exact LeO.none _)
      | (with_reducible refine LeO.ite ?_ ?_)
      | (with_reducible refine LeO.bind ?_ (fun _ => ?_))
      | exact ih0 _ _ _ _
      | exact ops_Changes.mono _ _
      | exact ops_News.mono _ _
      | exact ops_Olds.mono _ _
      | exact ops_Right.mono _ _
      | exact patchworklaw8_Few.mono _ _
      | exact patchworklaw8_alive.mono _
      | exact patchworkref8_Right.mono _ _
      | exact LeO.none _
      | refine LeO.ite ?_ ?_
      | refine LeO.bind ?_ (fun _ => ?_)

end Go.Proofs.Ytkalkickknjdhaa.P
