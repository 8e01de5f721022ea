-- PRINTED by print.py (a twelfth state) out of the translation. Not trusted: Lean checks it.
import Derived.Test.YtkiklmmpflndbaaD
namespace Go.Proofs.Ytkiklmmpflndbaa.P
open Go.RowKit Go.Proofs.YtkiklmmpflndbaaW.PrintWords Go.Proofs.YtkiklmmpflndbaaW.PrintLast Go.Proofs.YtkiklmmpflndbaaW.PrintMore
attribute [local go_sem] max2_int min2_int max_two min_two max_three min_three max_four min_four   -- for this text's walks alone
set_option linter.unusedVariables false
set_option linter.unusedSimpArgs false

def patchworklaw11_ComposeTells.j0 : Nat → List (Op) → List (Op) → Bool → Bool → Option (Bool)
  | 0, _, _, _, _ => none
  | k + 1, x0, x1, x5, x22 => if x22 = true then (some x5) else (if ([] : List (Op)).length + x0.length < 4398046511104 then (if ([] : List (Op)).length + x1.length < 4398046511104 then ((compose_Then.f k (([] : List (Op)) ++ x0) (([] : List (Op)) ++ x1)).bind fun bt342 => ((patchworkref8_Then.f k x0 x1).bind fun bt346 => ((patchworkref8_Same.f k bt342.1 bt346.1).bind fun t350 => (if t350 = true then (if (bt342.2 == bt346.2) = true then ((compose_Rest.f k x0).bind fun t351 => ((patchworkref8_Rest.f k x0).bind fun t354 => ((patchworkref8_Same.f k t351 t354).bind fun t357 => (some t357)))) else (some false)) else (some false))))) else (none)) else (none))
def patchworklaw11_ComposeTells.f (k : Nat) (l0 : List (Op)) (l1 : List (Op)) : Option (Bool) := (patchworklaw11_alive.f k).bind fun t333 => (if t333 = true then ((patchworklaw8_Few.f k l0).bind fun t334 => (if t334 = true then ((patchworklaw8_Few.f k l1).bind fun t335 => (patchworklaw11_ComposeTells.j0 k l0 l1 t333 (!t335))) else (patchworklaw11_ComposeTells.j0 k l0 l1 t333 true))) else (patchworklaw11_ComposeTells.j0 k l0 l1 t333 true))
theorem patchworklaw11_ComposeTells.mono_l : ∀ k, (∀ y0 y1 y2 y3, LeO (patchworklaw11_ComposeTells.j0 k y0 y1 y2 y3) (patchworklaw11_ComposeTells.j0 (k + 1) y0 y1 y2 y3))
  | 0 => fun _ _ _ _ r h => by simp [patchworklaw11_ComposeTells.j0] at h
  | k + 1 => by
    have ih0 := patchworklaw11_ComposeTells.mono_l k
    · intro y0 y1 y2 y3
      unfold patchworklaw11_ComposeTells.j0
      repeat' first
      | (with_reducible exact ih0 _ _ _ _)
      | (with_reducible exact compose_Rest.mono _ _)
      | (with_reducible exact compose_Then.mono _ _ _)
      | (with_reducible exact patchworklaw11_alive.mono _)
      | (with_reducible exact patchworklaw8_Few.mono _ _)
      | (with_reducible exact patchworkref8_Rest.mono _ _)
      | (with_reducible exact patchworkref8_Same.mono _ _ _)
      | (with_reducible exact patchworkref8_Then.mono _ _ _)
      | (with_reducible exact LeO.refl _)
      | (with_reducible exact LeO.none _)
      | (with_reducible refine LeO.ite ?_ ?_)
      | (with_reducible refine LeO.bind ?_ (fun _ => ?_))
      | exact ih0 _ _ _ _
      | exact compose_Rest.mono _ _
      | exact compose_Then.mono _ _ _
      | exact patchworklaw11_alive.mono _
      | exact patchworklaw8_Few.mono _ _
      | exact patchworkref8_Rest.mono _ _
      | exact patchworkref8_Same.mono _ _ _
      | exact patchworkref8_Then.mono _ _ _
      | exact LeO.none _
      | refine LeO.ite ?_ ?_
      | refine LeO.bind ?_ (fun _ => ?_)
theorem patchworklaw11_ComposeTells.mono : ∀ a0 a1 k, LeO (patchworklaw11_ComposeTells.f k a0 a1) (patchworklaw11_ComposeTells.f (k + 1) a0 a1) := by
  intro a0 a1 k
  have ih0 := patchworklaw11_ComposeTells.mono_l k
  unfold patchworklaw11_ComposeTells.f
  repeat' first
      | (with_reducible exact ih0 _ _ _ _)
      | (with_reducible exact compose_Rest.mono _ _)
      | (with_reducible exact compose_Then.mono _ _ _)
      | (with_reducible exact patchworklaw11_alive.mono _)
      | (with_reducible exact patchworklaw8_Few.mono _ _)
      | (with_reducible exact patchworkref8_Rest.mono _ _)
      | (with_reducible exact patchworkref8_Same.mono _ _ _)
      | (with_reducible exact patchworkref8_Then.mono _ _ _)
      | (with_reducible exact LeO.refl _)
      | (with_reducible exact LeO.none _)
      | (with_reducible refine LeO.ite ?_ ?_)
      | (with_reducible refine LeO.bind ?_ (fun _ => ?_))
      | exact ih0 _ _ _ _
      | exact compose_Rest.mono _ _
      | exact compose_Then.mono _ _ _
      | exact patchworklaw11_alive.mono _
      | exact patchworklaw8_Few.mono _ _
      | exact patchworkref8_Rest.mono _ _
      | exact patchworkref8_Same.mono _ _ _
      | exact patchworkref8_Then.mono _ _ _
      | exact LeO.none _
      | refine LeO.ite ?_ ?_
      | refine LeO.bind ?_ (fun _ => ?_)

end Go.Proofs.Ytkiklmmpflndbaa.P
