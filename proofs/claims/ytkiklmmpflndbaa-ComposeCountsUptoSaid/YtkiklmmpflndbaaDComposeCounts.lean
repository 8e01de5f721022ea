-- PRINTED by print.py (a twelfth state) out of the translation. Not trusted: Lean checks it.
import Derived.Test.YtkiklmmpflndbaaD
namespace Go.Proofs.Ytkiklmmpflndbaa.P
open Go.RowKit Go.Proofs.YtkiklmmpflndbaaW.PrintWords Go.Proofs.YtkiklmmpflndbaaW.PrintLast Go.Proofs.YtkiklmmpflndbaaW.PrintMore
attribute [local go_sem] max2_int min2_int max_two min_two max_three min_three max_four min_four   -- for this text's walks alone
set_option linter.unusedVariables false
set_option linter.unusedSimpArgs false

def patchworklaw11_ComposeCounts.j0 : Nat → List (Op) → List (Op) → Bool → Bool → Option (Bool)
  | 0, _, _, _, _ => none
  | k + 1, x0, x1, x5, x31 => if x31 = true then (some x5) else ((compose_Then.f k x0 x1).bind fun bt597 => (if bt597.2 = true then ((patchworkref8_News.f k x0).bind fun t601 => ((patchworkref8_Olds.f k x0).bind fun t602 => ((patchworkref8_News.f k x1).bind fun t603 => ((patchworkref8_Olds.f k x1).bind fun t604 => ((patchworkref8_Changes.f k bt597.1).bind fun t605 => ((patchworkref8_Changes.f k x0).bind fun t606 => ((patchworkref8_Changes.f k x1).bind fun t607 => (if t605 ≤ (wrap64 (t606 + t607)) then ((patchworkref8_News.f k bt597.1).bind fun t608 => ((patchworkref8_Olds.f k bt597.1).bind fun t609 => (if (wrap64 (t608 - t609)) = (wrap64 ((wrap64 ((wrap64 (t601 - t602)) + t603)) - t604)) then ((patchworkref8_Olds.f k bt597.1).bind fun t610 => ((patchworkref8_Olds.f k x0).bind fun t611 => (if t610 ≥ t611 then ((patchworkref8_News.f k bt597.1).bind fun t612 => ((patchworkref8_News.f k x1).bind fun t613 => (some (decide (t612 ≥ t613))))) else (some false)))) else (some false)))) else (some false))))))))) else (some ((bt597.1.length : Int) == 0))))
def patchworklaw11_ComposeCounts.f (k : Nat) (l0 : List (Op)) (l1 : List (Op)) : Option (Bool) := (patchworklaw11_alive.f k).bind fun t592 => (if t592 = true then ((patchworklaw8_Few.f k l0).bind fun t593 => (if t593 = true then ((patchworklaw8_Few.f k l1).bind fun t594 => (if t594 = true then ((patchworkref8_Right.f k l0).bind fun t595 => (if t595 = true then ((patchworkref8_Right.f k l1).bind fun t596 => (patchworklaw11_ComposeCounts.j0 k l0 l1 t592 (!t596))) else (patchworklaw11_ComposeCounts.j0 k l0 l1 t592 true))) else (patchworklaw11_ComposeCounts.j0 k l0 l1 t592 true))) else (patchworklaw11_ComposeCounts.j0 k l0 l1 t592 true))) else (patchworklaw11_ComposeCounts.j0 k l0 l1 t592 true))
theorem patchworklaw11_ComposeCounts.mono_l : ∀ k, (∀ y0 y1 y2 y3, LeO (patchworklaw11_ComposeCounts.j0 k y0 y1 y2 y3) (patchworklaw11_ComposeCounts.j0 (k + 1) y0 y1 y2 y3))
  | 0 => fun _ _ _ _ r h => by simp [patchworklaw11_ComposeCounts.j0] at h
  | k + 1 => by
    have ih0 := patchworklaw11_ComposeCounts.mono_l k
    · intro y0 y1 y2 y3
      unfold patchworklaw11_ComposeCounts.j0
      repeat' first
      | (with_reducible exact ih0 _ _ _ _)
      | (with_reducible exact compose_Then.mono _ _ _)
      | (with_reducible exact patchworklaw11_alive.mono _)
      | (with_reducible exact patchworklaw8_Few.mono _ _)
      | (with_reducible exact patchworkref8_Changes.mono _ _)
      | (with_reducible exact patchworkref8_News.mono _ _)
      | (with_reducible exact patchworkref8_Olds.mono _ _)
      | (with_reducible exact patchworkref8_Right.mono _ _)
      | (with_reducible exact LeO.refl _)
      | (with_reducible exact LeO.none _)
      | (with_reducible refine LeO.ite ?_ ?_)
      | (with_reducible refine LeO.bind ?_ (fun _ => ?_))
      | exact ih0 _ _ _ _
      | exact compose_Then.mono _ _ _
      | exact patchworklaw11_alive.mono _
      | exact patchworklaw8_Few.mono _ _
      | exact patchworkref8_Changes.mono _ _
      | exact patchworkref8_News.mono _ _
      | exact patchworkref8_Olds.mono _ _
      | exact patchworkref8_Right.mono _ _
      | exact LeO.none _
      | refine LeO.ite ?_ ?_
      | refine LeO.bind ?_ (fun _ => ?_)
theorem patchworklaw11_ComposeCounts.mono : ∀ a0 a1 k, LeO (patchworklaw11_ComposeCounts.f k a0 a1) (patchworklaw11_ComposeCounts.f (k + 1) a0 a1) := by
  intro a0 a1 k
  have ih0 := patchworklaw11_ComposeCounts.mono_l k
  unfold patchworklaw11_ComposeCounts.f
  repeat' first
      | (with_reducible exact ih0 _ _ _ _)
      | (with_reducible exact compose_Then.mono _ _ _)
      | (with_reducible exact patchworklaw11_alive.mono _)
      | (with_reducible exact patchworklaw8_Few.mono _ _)
      | (with_reducible exact patchworkref8_Changes.mono _ _)
      | (with_reducible exact patchworkref8_News.mono _ _)
      | (with_reducible exact patchworkref8_Olds.mono _ _)
      | (with_reducible exact patchworkref8_Right.mono _ _)
      | (with_reducible exact LeO.refl _)
      | (with_reducible exact LeO.none _)
      | (with_reducible refine LeO.ite ?_ ?_)
      | (with_reducible refine LeO.bind ?_ (fun _ => ?_))
      | exact ih0 _ _ _ _
      | exact compose_Then.mono _ _ _
      | exact patchworklaw11_alive.mono _
      | exact patchworklaw8_Few.mono _ _
      | exact patchworkref8_Changes.mono _ _
      | exact patchworkref8_News.mono _ _
      | exact patchworkref8_Olds.mono _ _
      | exact patchworkref8_Right.mono _ _
      | exact LeO.none _
      | refine LeO.ite ?_ ?_
      | refine LeO.bind ?_ (fun _ => ?_)

end Go.Proofs.Ytkiklmmpflndbaa.P
