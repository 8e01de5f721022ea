-- PRINTED by print.py (a twelfth state) out of the translation. Not trusted: Lean checks it.
import Derived.Test.YthognikhmbabhaaD
namespace Go.Proofs.Ythognikhmbabhaa.P
open Go.RowKit Go.Proofs.YthognikhmbabhaaW.PrintWords Go.Proofs.YthognikhmbabhaaW.PrintLast Go.Proofs.YthognikhmbabhaaW.PrintMore
attribute [local go_sem] max2_int min2_int max_two min_two max_three min_three max_four min_four   -- for this text's walks alone
set_option linter.unusedVariables false
set_option linter.unusedSimpArgs false

mutual
def patchworklaw16_PickRows.j0 : Nat → List (Op) → Bool → Bool → Option (Bool)
  | 0, _, _, _ => none
  | k + 1, x0, x3, x14 => if x14 = true then (some x3) else ((pick_Rows.f k x0).bind fun t636 => (patchworklaw16_PickRows.l0 k x0 t636 0 0))
def patchworklaw16_PickRows.l0 : Nat → List (Op) → List (Range) → Int → Int → Option (Bool)
  | 0, _, _, _, _ => none
  | k + 1, x0, x4, x5, x6 => if x6 < (x4.length : Int) then (if 0 ≤ x6 then (if ((rd_Range x4 x6).f0) = x5 then (if ((rd_Range x4 x6).f1) < ((rd_Range x4 x6).f0) then (some false) else (patchworklaw16_PickRows.l0 k x0 x4 (wrap64 (((rd_Range x4 x6).f1) + 1)) (wrap64 (x6 + 1)))) else (some false)) else (none)) else ((patchworkref8_Changes.f k x0).bind fun t643 => (if x5 = t643 then (some (decide ((x4.length : Int) ≤ (wrap64 ((wrap64 ((x0.length : Int) - x5)) + 1))))) else (some false)))
end
def patchworklaw16_PickRows.f (k : Nat) (l0 : List (Op)) : Option (Bool) := (patchworklaw16_alive.f k).bind fun t634 => (if t634 = true then ((patchworklaw8_Few.f k l0).bind fun t635 => (patchworklaw16_PickRows.j0 k l0 t634 (!t635))) else (patchworklaw16_PickRows.j0 k l0 t634 true))
theorem patchworklaw16_PickRows.mono_l : ∀ k, (∀ y0 y1 y2, LeO (patchworklaw16_PickRows.j0 k y0 y1 y2) (patchworklaw16_PickRows.j0 (k + 1) y0 y1 y2)) ∧ (∀ y0 y1 y2 y3, LeO (patchworklaw16_PickRows.l0 k y0 y1 y2 y3) (patchworklaw16_PickRows.l0 (k + 1) y0 y1 y2 y3))
  | 0 => ⟨fun _ _ _ r h => by simp [patchworklaw16_PickRows.j0] at h, fun _ _ _ _ r h => by simp [patchworklaw16_PickRows.l0] at h⟩
  | k + 1 => by
    obtain ⟨ih0, ih1⟩ := patchworklaw16_PickRows.mono_l k
    refine ⟨?_, ?_⟩
    · intro y0 y1 y2
      unfold patchworklaw16_PickRows.j0
      repeat' first
      | (with_reducible exact ih0 _ _ _)
      | (with_reducible exact ih1 _ _ _ _)
      | (with_reducible exact patchworklaw16_alive.mono _)
      | (with_reducible exact patchworklaw8_Few.mono _ _)
      | (with_reducible exact patchworkref8_Changes.mono _ _)
      | (with_reducible exact pick_Rows.mono _ _)
      | (with_reducible exact LeO.refl _)
      | (with_reducible exact LeO.none _)
      | (with_reducible refine LeO.ite ?_ ?_)
      | (with_reducible refine LeO.bind ?_ (fun _ => ?_))
      | exact ih0 _ _ _
      | exact ih1 _ _ _ _
      | exact patchworklaw16_alive.mono _
      | exact patchworklaw8_Few.mono _ _
      | exact patchworkref8_Changes.mono _ _
      | exact pick_Rows.mono _ _
      | exact LeO.none _
      | refine LeO.ite ?_ ?_
      | refine LeO.bind ?_ (fun _ => ?_)
    · intro y0 y1 y2 y3
      unfold patchworklaw16_PickRows.l0
      repeat' first
      | (with_reducible exact ih0 _ _ _)
      | (with_reducible exact ih1 _ _ _ _)
      | (with_reducible exact patchworklaw16_alive.mono _)
      | (with_reducible exact patchworklaw8_Few.mono _ _)
      | (with_reducible exact patchworkref8_Changes.mono _ _)
      | (with_reducible exact pick_Rows.mono _ _)
      | (with_reducible exact LeO.refl _)
      | (with_reducible exact LeO.none _)
      | (with_reducible refine LeO.ite ?_ ?_)
      | (with_reducible refine LeO.bind ?_ (fun _ => ?_))
      | exact ih0 _ _ _
      | exact ih1 _ _ _ _
      | exact patchworklaw16_alive.mono _
      | exact patchworklaw8_Few.mono _ _
      | exact patchworkref8_Changes.mono _ _
      | exact pick_Rows.mono _ _
      | exact LeO.none _
      | refine LeO.ite ?_ ?_
      | refine LeO.bind ?_ (fun _ => ?_)
theorem patchworklaw16_PickRows.mono : ∀ a0 k, LeO (patchworklaw16_PickRows.f k a0) (patchworklaw16_PickRows.f (k + 1) a0) := by
  intro a0 k
  obtain ⟨ih0, ih1⟩ := patchworklaw16_PickRows.mono_l k
  unfold patchworklaw16_PickRows.f
  repeat' first
      | (with_reducible exact ih0 _ _ _)
      | (with_reducible exact ih1 _ _ _ _)
      | (with_reducible exact patchworklaw16_alive.mono _)
      | (with_reducible exact patchworklaw8_Few.mono _ _)
      | (with_reducible exact patchworkref8_Changes.mono _ _)
      | (with_reducible exact pick_Rows.mono _ _)
      | (with_reducible exact LeO.refl _)
      | (with_reducible exact LeO.none _)
      | (with_reducible refine LeO.ite ?_ ?_)
      | (with_reducible refine LeO.bind ?_ (fun _ => ?_))
      | exact ih0 _ _ _
      | exact ih1 _ _ _ _
      | exact patchworklaw16_alive.mono _
      | exact patchworklaw8_Few.mono _ _
      | exact patchworkref8_Changes.mono _ _
      | exact pick_Rows.mono _ _
      | exact LeO.none _
      | refine LeO.ite ?_ ?_
      | refine LeO.bind ?_ (fun _ => ?_)

end Go.Proofs.Ythognikhmbabhaa.P
