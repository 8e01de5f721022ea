-- PRINTED by print.py (a twelfth state) out of the translation. Not trusted: Lean checks it.
import Derived.Test.YthognikhmbabhaaD
namespace Go.Proofs.Ythognikhmbabhaa.P
open Go.RowKit Go.Proofs.YthognikhmbabhaaW.PrintWords Go.Proofs.YthognikhmbabhaaW.PrintLast Go.Proofs.YthognikhmbabhaaW.PrintMore
attribute [local go_sem] max2_int min2_int max_two min_two max_three min_three max_four min_four   -- for this text's walks alone
set_option linter.unusedVariables false
set_option linter.unusedSimpArgs false

def patchworklaw16_PickTells.j0 : Nat → List (Op) → List Bool → Bool → Bool → Option (Bool)
  | 0, _, _, _, _ => none
  | k + 1, x0, x1, x5, x22 => if x22 = true then (some x5) else (if ([] : List (Op)).length + x0.length < 4398046511104 then (if ([] : List Bool).length + x1.length < 140737488355328 then ((pick_Ops.f k (([] : List (Op)) ++ x0) (([] : List Bool) ++ x1)).bind fun bt549 => ((patchworkref8_Pick.f k x0 x1).bind fun bt555 => ((patchworkref8_Same.f k bt549.1 bt555.1).bind fun t561 => (if t561 = true then ((patchworkref8_Same.f k bt549.2 bt555.2).bind fun t562 => (if t562 = true then ((pick_Rows.f k x0).bind fun t563 => ((patchworkref8_PickRows.f k x0).bind fun t566 => ((patchworklaw16_same.f k t563 t566).bind fun t569 => (some t569)))) else (some false))) else (some false))))) else (none)) else (none))
def patchworklaw16_PickTells.f (k : Nat) (l0 : List (Op)) (l1 : List Bool) : Option (Bool) := (patchworklaw16_alive.f k).bind fun t541 => (if t541 = true then ((patchworklaw8_Few.f k l0).bind fun t542 => (if t542 = true then (patchworklaw16_PickTells.j0 k l0 l1 t541 (decide ((l1.length : Int) > 600))) else (patchworklaw16_PickTells.j0 k l0 l1 t541 true))) else (patchworklaw16_PickTells.j0 k l0 l1 t541 true))
theorem patchworklaw16_PickTells.mono_l : ∀ k, (∀ y0 y1 y2 y3, LeO (patchworklaw16_PickTells.j0 k y0 y1 y2 y3) (patchworklaw16_PickTells.j0 (k + 1) y0 y1 y2 y3))
  | 0 => fun _ _ _ _ r h => by simp [patchworklaw16_PickTells.j0] at h
  | k + 1 => by
    have ih0 := patchworklaw16_PickTells.mono_l k
    · intro y0 y1 y2 y3
      unfold patchworklaw16_PickTells.j0
      repeat' first
      | (with_reducible exact ih0 _ _ _ _)
      | (with_reducible exact patchworklaw16_alive.mono _)
      | (with_reducible exact patchworklaw16_same.mono _ _ _)
      | (with_reducible exact patchworklaw8_Few.mono _ _)
      | (with_reducible exact patchworkref8_Pick.mono _ _ _)
      | (with_reducible exact patchworkref8_PickRows.mono _ _)
      | (with_reducible exact patchworkref8_Same.mono _ _ _)
      | (with_reducible exact pick_Ops.mono _ _ _)
      | (with_reducible exact pick_Rows.mono _ _)
      | (with_reducible exact LeO.refl _)
      | (with_reducible exact LeO.none _)
      | (with_reducible refine LeO.ite ?_ ?_)
      | (with_reducible refine LeO.bind ?_ (fun _ => ?_))
      | exact ih0 _ _ _ _
      | exact patchworklaw16_alive.mono _
      | exact patchworklaw16_same.mono _ _ _
      | exact patchworklaw8_Few.mono _ _
      | exact patchworkref8_Pick.mono _ _ _
      | exact patchworkref8_PickRows.mono _ _
      | exact patchworkref8_Same.mono _ _ _
      | exact pick_Ops.mono _ _ _
      | exact pick_Rows.mono _ _
      | exact LeO.none _
      | refine LeO.ite ?_ ?_
      | refine LeO.bind ?_ (fun _ => ?_)
theorem patchworklaw16_PickTells.mono : ∀ a0 a1 k, LeO (patchworklaw16_PickTells.f k a0 a1) (patchworklaw16_PickTells.f (k + 1) a0 a1) := by
  intro a0 a1 k
  have ih0 := patchworklaw16_PickTells.mono_l k
  unfold patchworklaw16_PickTells.f
  repeat' first
      | (with_reducible exact ih0 _ _ _ _)
      | (with_reducible exact patchworklaw16_alive.mono _)
      | (with_reducible exact patchworklaw16_same.mono _ _ _)
      | (with_reducible exact patchworklaw8_Few.mono _ _)
      | (with_reducible exact patchworkref8_Pick.mono _ _ _)
      | (with_reducible exact patchworkref8_PickRows.mono _ _)
      | (with_reducible exact patchworkref8_Same.mono _ _ _)
      | (with_reducible exact pick_Ops.mono _ _ _)
      | (with_reducible exact pick_Rows.mono _ _)
      | (with_reducible exact LeO.refl _)
      | (with_reducible exact LeO.none _)
      | (with_reducible refine LeO.ite ?_ ?_)
      | (with_reducible refine LeO.bind ?_ (fun _ => ?_))
      | exact ih0 _ _ _ _
      | exact patchworklaw16_alive.mono _
      | exact patchworklaw16_same.mono _ _ _
      | exact patchworklaw8_Few.mono _ _
      | exact patchworkref8_Pick.mono _ _ _
      | exact patchworkref8_PickRows.mono _ _
      | exact patchworkref8_Same.mono _ _ _
      | exact pick_Ops.mono _ _ _
      | exact pick_Rows.mono _ _
      | exact LeO.none _
      | refine LeO.ite ?_ ?_
      | refine LeO.bind ?_ (fun _ => ?_)

end Go.Proofs.Ythognikhmbabhaa.P
