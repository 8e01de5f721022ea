-- PRINTED by print.py (a twelfth state) out of the translation. Not trusted: Lean checks it.
import Derived.Test.YtkiklmmpflndbaaD
namespace Go.Proofs.Ytkiklmmpflndbaa.P
open Go.RowKit Go.Proofs.YtkiklmmpflndbaaW.PrintWords Go.Proofs.YtkiklmmpflndbaaW.PrintLast Go.Proofs.YtkiklmmpflndbaaW.PrintMore
attribute [local go_sem] max2_int min2_int max_two min_two max_three min_three max_four min_four   -- for this text's walks alone
set_option linter.unusedVariables false
set_option linter.unusedSimpArgs false

def patchworklaw11_ComposeBack.j0 : Nat → List (Op) → List (Op) → Bool → Bool → Option (Bool)
  | 0, _, _, _, _ => none
  | k + 1, x0, x1, x5, x32 => if x32 = true then (some x5) else ((compose_Then.f k x0 x1).bind fun bt574 => ((patchworkref8_Flip.f k x1).bind fun t578 => ((patchworkref8_Flip.f k x0).bind fun t581 => ((compose_Then.f k t578 t581).bind fun bt584 => (if (bt574.2 == bt584.2) = true then (if bt574.2 = true then ((patchworkref8_Flip.f k bt574.1).bind fun t588 => ((patchworkref8_Same.f k t588 bt584.1).bind fun t591 => (some t591))) else (some true)) else (some false))))))
def patchworklaw11_ComposeBack.f (k : Nat) (l0 : List (Op)) (l1 : List (Op)) : Option (Bool) := (patchworklaw11_alive.f k).bind fun t569 => (if t569 = true then ((patchworklaw8_Few.f k l0).bind fun t570 => (if t570 = true then ((patchworklaw8_Few.f k l1).bind fun t571 => (if t571 = true then ((patchworkref8_Right.f k l0).bind fun t572 => (if t572 = true then ((patchworkref8_Right.f k l1).bind fun t573 => (patchworklaw11_ComposeBack.j0 k l0 l1 t569 (!t573))) else (patchworklaw11_ComposeBack.j0 k l0 l1 t569 true))) else (patchworklaw11_ComposeBack.j0 k l0 l1 t569 true))) else (patchworklaw11_ComposeBack.j0 k l0 l1 t569 true))) else (patchworklaw11_ComposeBack.j0 k l0 l1 t569 true))
theorem patchworklaw11_ComposeBack.mono_l : ∀ k, (∀ y0 y1 y2 y3, LeO (patchworklaw11_ComposeBack.j0 k y0 y1 y2 y3) (patchworklaw11_ComposeBack.j0 (k + 1) y0 y1 y2 y3))
  | 0 => fun _ _ _ _ r h => by simp [patchworklaw11_ComposeBack.j0] at h
  | k + 1 => by
    have ih0 := patchworklaw11_ComposeBack.mono_l k
    · intro y0 y1 y2 y3
      unfold patchworklaw11_ComposeBack.j0
      repeat' first
      | (with_reducible exact ih0 _ _ _ _)
      | (with_reducible exact compose_Then.mono _ _ _)
      | (with_reducible exact patchworklaw11_alive.mono _)
      | (with_reducible exact patchworklaw8_Few.mono _ _)
      | (with_reducible exact patchworkref8_Flip.mono _ _)
      | (with_reducible exact patchworkref8_Right.mono _ _)
      | (with_reducible exact patchworkref8_Same.mono _ _ _)
      | (with_reducible exact LeO.refl _)
      | (with_reducible exact LeO.none _)
      | (with_reducible refine LeO.ite ?_ ?_)
      | (with_reducible refine LeO.bind ?_ (fun _ => ?_))
      | exact ih0 _ _ _ _
      | exact compose_Then.mono _ _ _
      | exact patchworklaw11_alive.mono _
      | exact patchworklaw8_Few.mono _ _
      | exact patchworkref8_Flip.mono _ _
      | exact patchworkref8_Right.mono _ _
      | exact patchworkref8_Same.mono _ _ _
      | exact LeO.none _
      | refine LeO.ite ?_ ?_
      | refine LeO.bind ?_ (fun _ => ?_)
theorem patchworklaw11_ComposeBack.mono : ∀ a0 a1 k, LeO (patchworklaw11_ComposeBack.f k a0 a1) (patchworklaw11_ComposeBack.f (k + 1) a0 a1) := by
  intro a0 a1 k
  have ih0 := patchworklaw11_ComposeBack.mono_l k
  unfold patchworklaw11_ComposeBack.f
  repeat' first
      | (with_reducible exact ih0 _ _ _ _)
      | (with_reducible exact compose_Then.mono _ _ _)
      | (with_reducible exact patchworklaw11_alive.mono _)
      | (with_reducible exact patchworklaw8_Few.mono _ _)
      | (with_reducible exact patchworkref8_Flip.mono _ _)
      | (with_reducible exact patchworkref8_Right.mono _ _)
      | (with_reducible exact patchworkref8_Same.mono _ _ _)
      | (with_reducible exact LeO.refl _)
      | (with_reducible exact LeO.none _)
      | (with_reducible refine LeO.ite ?_ ?_)
      | (with_reducible refine LeO.bind ?_ (fun _ => ?_))
      | exact ih0 _ _ _ _
      | exact compose_Then.mono _ _ _
      | exact patchworklaw11_alive.mono _
      | exact patchworklaw8_Few.mono _ _
      | exact patchworkref8_Flip.mono _ _
      | exact patchworkref8_Right.mono _ _
      | exact patchworkref8_Same.mono _ _ _
      | exact LeO.none _
      | refine LeO.ite ?_ ?_
      | refine LeO.bind ?_ (fun _ => ?_)

end Go.Proofs.Ytkiklmmpflndbaa.P
