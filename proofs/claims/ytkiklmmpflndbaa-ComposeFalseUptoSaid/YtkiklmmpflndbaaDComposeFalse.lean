-- PRINTED by print.py (a twelfth state) out of the translation. Not trusted: Lean checks it.
import Derived.Test.YtkiklmmpflndbaaD
namespace Go.Proofs.Ytkiklmmpflndbaa.P
open Go.RowKit Go.Proofs.YtkiklmmpflndbaaW.PrintWords Go.Proofs.YtkiklmmpflndbaaW.PrintLast Go.Proofs.YtkiklmmpflndbaaW.PrintMore
attribute [local go_sem] max2_int min2_int max_two min_two max_three min_three max_four min_four   -- for this text's walks alone
set_option linter.unusedVariables false
set_option linter.unusedSimpArgs false

def patchworklaw11_ComposeFalse.j0 : Nat → List (Op) → List (Op) → List ByteArray → Bool → Bool → Option (Bool)
  | 0, _, _, _, _, _ => none
  | k + 1, x0, x1, x2, x7, x41 => if x41 = true then (some x7) else ((compose_Then.f k x0 x1).bind fun bt557 => (if bt557.2 = true then (some true) else ((patchworkref8_Do.f k x0 x2).bind fun bt561 => ((patchworkref8_Do.f k x1 bt561.1).bind fun bt565 => (if bt561.2 = true then (some (!bt565.2)) else (some true))))))
def patchworklaw11_ComposeFalse.f (k : Nat) (l0 : List (Op)) (l1 : List (Op)) (l2 : List ByteArray) : Option (Bool) := (patchworklaw11_alive.f k).bind fun t551 => (if t551 = true then ((patchworklaw8_Few.f k l0).bind fun t552 => (if t552 = true then ((patchworklaw8_Few.f k l1).bind fun t553 => (if t553 = true then ((patchworklaw9_Short.f k l2).bind fun t554 => (if t554 = true then ((patchworkref8_Right.f k l0).bind fun t555 => (if t555 = true then ((patchworkref8_Right.f k l1).bind fun t556 => (patchworklaw11_ComposeFalse.j0 k l0 l1 l2 t551 (!t556))) else (patchworklaw11_ComposeFalse.j0 k l0 l1 l2 t551 true))) else (patchworklaw11_ComposeFalse.j0 k l0 l1 l2 t551 true))) else (patchworklaw11_ComposeFalse.j0 k l0 l1 l2 t551 true))) else (patchworklaw11_ComposeFalse.j0 k l0 l1 l2 t551 true))) else (patchworklaw11_ComposeFalse.j0 k l0 l1 l2 t551 true))
theorem patchworklaw11_ComposeFalse.mono_l : ∀ k, (∀ y0 y1 y2 y3 y4, LeO (patchworklaw11_ComposeFalse.j0 k y0 y1 y2 y3 y4) (patchworklaw11_ComposeFalse.j0 (k + 1) y0 y1 y2 y3 y4))
  | 0 => fun _ _ _ _ _ r h => by simp [patchworklaw11_ComposeFalse.j0] at h
  | k + 1 => by
    have ih0 := patchworklaw11_ComposeFalse.mono_l k
    · intro y0 y1 y2 y3 y4
      unfold patchworklaw11_ComposeFalse.j0
      repeat' first
      | (with_reducible exact ih0 _ _ _ _ _)
      | (with_reducible exact compose_Then.mono _ _ _)
      | (with_reducible exact patchworklaw11_alive.mono _)
      | (with_reducible exact patchworklaw8_Few.mono _ _)
      | (with_reducible exact patchworklaw9_Short.mono _ _)
      | (with_reducible exact patchworkref8_Do.mono _ _ _)
      | (with_reducible exact patchworkref8_Right.mono _ _)
      | (with_reducible exact LeO.refl _)
      | (with_reducible exact LeO.none _)
      | (with_reducible refine LeO.ite ?_ ?_)
      | (with_reducible refine LeO.bind ?_ (fun _ => ?_))
      | exact ih0 _ _ _ _ _
      | exact compose_Then.mono _ _ _
      | exact patchworklaw11_alive.mono _
      | exact patchworklaw8_Few.mono _ _
      | exact patchworklaw9_Short.mono _ _
      | exact patchworkref8_Do.mono _ _ _
      | exact patchworkref8_Right.mono _ _
      | exact LeO.none _
      | refine LeO.ite ?_ ?_
      | refine LeO.bind ?_ (fun _ => ?_)
theorem patchworklaw11_ComposeFalse.mono : ∀ a0 a1 a2 k, LeO (patchworklaw11_ComposeFalse.f k a0 a1 a2) (patchworklaw11_ComposeFalse.f (k + 1) a0 a1 a2) := by
  intro a0 a1 a2 k
  have ih0 := patchworklaw11_ComposeFalse.mono_l k
  unfold patchworklaw11_ComposeFalse.f
  repeat' first
      | (with_reducible exact ih0 _ _ _ _ _)
      | (with_reducible exact compose_Then.mono _ _ _)
      | (with_reducible exact patchworklaw11_alive.mono _)
      | (with_reducible exact patchworklaw8_Few.mono _ _)
      | (with_reducible exact patchworklaw9_Short.mono _ _)
      | (with_reducible exact patchworkref8_Do.mono _ _ _)
      | (with_reducible exact patchworkref8_Right.mono _ _)
      | (with_reducible exact LeO.refl _)
      | (with_reducible exact LeO.none _)
      | (with_reducible refine LeO.ite ?_ ?_)
      | (with_reducible refine LeO.bind ?_ (fun _ => ?_))
      | exact ih0 _ _ _ _ _
      | exact compose_Then.mono _ _ _
      | exact patchworklaw11_alive.mono _
      | exact patchworklaw8_Few.mono _ _
      | exact patchworklaw9_Short.mono _ _
      | exact patchworkref8_Do.mono _ _ _
      | exact patchworkref8_Right.mono _ _
      | exact LeO.none _
      | refine LeO.ite ?_ ?_
      | refine LeO.bind ?_ (fun _ => ?_)

end Go.Proofs.Ytkiklmmpflndbaa.P
