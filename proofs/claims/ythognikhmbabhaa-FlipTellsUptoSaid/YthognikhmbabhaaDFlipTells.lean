-- PRINTED by print.py (a twelfth state) out of the translation. Not trusted: Lean checks it.
import Derived.Test.YthognikhmbabhaaD
namespace Go.Proofs.Ythognikhmbabhaa.P
open Go.RowKit Go.Proofs.YthognikhmbabhaaW.PrintWords Go.Proofs.YthognikhmbabhaaW.PrintLast Go.Proofs.YthognikhmbabhaaW.PrintMore
attribute [local go_sem] max2_int min2_int max_two min_two max_three min_three max_four min_four   -- for this text's walks alone
set_option linter.unusedVariables false
set_option linter.unusedSimpArgs false

def patchworklaw10_FlipTells.j0 : Nat → List (Op) → Bool → Bool → Option (Bool)
  | 0, _, _, _ => none
  | k + 1, x0, x3, x11 => if x11 = true then (some x3) else (if ([] : List (Op)).length + x0.length < 4398046511104 then ((flip_Ops.f k (([] : List (Op)) ++ x0)).bind fun t267 => ((patchworkref8_Flip.f k x0).bind fun t270 => ((patchworkref8_Same.f k t267 t270).bind fun t273 => (some t273)))) else (none))
def patchworklaw10_FlipTells.f (k : Nat) (l0 : List (Op)) : Option (Bool) := (patchworklaw10_alive.f k).bind fun t262 => (if t262 = true then ((patchworklaw8_Few.f k l0).bind fun t263 => (patchworklaw10_FlipTells.j0 k l0 t262 (!t263))) else (patchworklaw10_FlipTells.j0 k l0 t262 true))
theorem patchworklaw10_FlipTells.mono_l : ∀ k, (∀ y0 y1 y2, LeO (patchworklaw10_FlipTells.j0 k y0 y1 y2) (patchworklaw10_FlipTells.j0 (k + 1) y0 y1 y2))
  | 0 => fun _ _ _ r h => by simp [patchworklaw10_FlipTells.j0] at h
  | k + 1 => by
    have ih0 := patchworklaw10_FlipTells.mono_l k
    · intro y0 y1 y2
      unfold patchworklaw10_FlipTells.j0
      repeat' first
      | (with_reducible exact ih0 _ _ _)
      | (with_reducible exact flip_Ops.mono _ _)
      | (with_reducible exact patchworklaw10_alive.mono _)
      | (with_reducible exact patchworklaw8_Few.mono _ _)
      | (with_reducible exact patchworkref8_Flip.mono _ _)
      | (with_reducible exact patchworkref8_Same.mono _ _ _)
      | (with_reducible exact LeO.refl _)
      | (with_reducible exact LeO.none _)
      | (with_reducible refine LeO.ite ?_ ?_)
      | (with_reducible refine LeO.bind ?_ (fun _ => ?_))
      | exact ih0 _ _ _
      | exact flip_Ops.mono _ _
      | exact patchworklaw10_alive.mono _
      | exact patchworklaw8_Few.mono _ _
      | exact patchworkref8_Flip.mono _ _
      | exact patchworkref8_Same.mono _ _ _
      | exact LeO.none _
      | refine LeO.ite ?_ ?_
      | refine LeO.bind ?_ (fun _ => ?_)
theorem patchworklaw10_FlipTells.mono : ∀ a0 k, LeO (patchworklaw10_FlipTells.f k a0) (patchworklaw10_FlipTells.f (k + 1) a0) := by
  intro a0 k
  have ih0 := patchworklaw10_FlipTells.mono_l k
  unfold patchworklaw10_FlipTells.f
  repeat' first
      | (with_reducible exact ih0 _ _ _)
      | (with_reducible exact flip_Ops.mono _ _)
      | (with_reducible exact patchworklaw10_alive.mono _)
      | (with_reducible exact patchworklaw8_Few.mono _ _)
      | (with_reducible exact patchworkref8_Flip.mono _ _)
      | (with_reducible exact patchworkref8_Same.mono _ _ _)
      | (with_reducible exact LeO.refl _)
      | (with_reducible exact LeO.none _)
      | (with_reducible refine LeO.ite ?_ ?_)
      | (with_reducible refine LeO.bind ?_ (fun _ => ?_))
      | exact ih0 _ _ _
      | exact flip_Ops.mono _ _
      | exact patchworklaw10_alive.mono _
      | exact patchworklaw8_Few.mono _ _
      | exact patchworkref8_Flip.mono _ _
      | exact patchworkref8_Same.mono _ _ _
      | exact LeO.none _
      | refine LeO.ite ?_ ?_
      | refine LeO.bind ?_ (fun _ => ?_)

end Go.Proofs.Ythognikhmbabhaa.P
