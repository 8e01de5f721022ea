-- PRINTED by print.py (a twelfth state) out of the translation. Not trusted: Lean checks it.
import Derived.Test.YthognikhmbabhaaD
namespace Go.Proofs.Ythognikhmbabhaa.P
open Go.RowKit Go.Proofs.YthognikhmbabhaaW.PrintWords Go.Proofs.YthognikhmbabhaaW.PrintLast Go.Proofs.YthognikhmbabhaaW.PrintMore
attribute [local go_sem] max2_int min2_int max_two min_two max_three min_three max_four min_four   -- for this text's walks alone
set_option linter.unusedVariables false
set_option linter.unusedSimpArgs false

def patchworklaw10_FlipTwice.j0 : Nat → List (Op) → Bool → Bool → Option (Bool)
  | 0, _, _, _ => none
  | k + 1, x0, x3, x17 => if x17 = true then (some x3) else ((flip_Ops.f k x0).bind fun t289 => ((patchworkref8_Right.f k t289).bind fun t292 => (if t292 = true then ((flip_Ops.f k t289).bind fun t293 => ((patchworkref8_Norm.f k x0).bind fun t296 => ((patchworkref8_Same.f k t293 t296).bind fun t299 => (if t299 = true then ((patchworkref8_Olds.f k t289).bind fun t300 => ((patchworkref8_News.f k x0).bind fun t301 => (if t300 = t301 then ((patchworkref8_News.f k t289).bind fun t302 => ((patchworkref8_Olds.f k x0).bind fun t303 => (if t302 = t303 then ((patchworklaw8_Known.f k t289 4).bind fun t304 => ((patchworklaw8_Known.f k x0 3).bind fun t307 => ((patchworkref1_SameTexts.f k t304 t307).bind fun t310 => (some t310)))) else (some false)))) else (some false)))) else (some false))))) else (some false))))
def patchworklaw10_FlipTwice.f (k : Nat) (l0 : List (Op)) : Option (Bool) := (patchworklaw10_alive.f k).bind fun t286 => (if t286 = true then ((patchworklaw8_Few.f k l0).bind fun t287 => (if t287 = true then ((patchworkref8_Right.f k l0).bind fun t288 => (patchworklaw10_FlipTwice.j0 k l0 t286 (!t288))) else (patchworklaw10_FlipTwice.j0 k l0 t286 true))) else (patchworklaw10_FlipTwice.j0 k l0 t286 true))
theorem patchworklaw10_FlipTwice.mono_l : ∀ k, (∀ y0 y1 y2, LeO (patchworklaw10_FlipTwice.j0 k y0 y1 y2) (patchworklaw10_FlipTwice.j0 (k + 1) y0 y1 y2))
  | 0 => fun _ _ _ r h => by simp [patchworklaw10_FlipTwice.j0] at h
  | k + 1 => by
    have ih0 := patchworklaw10_FlipTwice.mono_l k
    · intro y0 y1 y2
      unfold patchworklaw10_FlipTwice.j0
      repeat' first
      | (with_reducible exact ih0 _ _ _)
      | (with_reducible exact flip_Ops.mono _ _)
      | (with_reducible exact patchworklaw10_alive.mono _)
      | (with_reducible exact patchworklaw8_Few.mono _ _)
      | (with_reducible exact patchworklaw8_Known.mono _ _ _)
      | (with_reducible exact patchworkref1_SameTexts.mono _ _ _)
      | (with_reducible exact patchworkref8_News.mono _ _)
      | (with_reducible exact patchworkref8_Norm.mono _ _)
      | (with_reducible exact patchworkref8_Olds.mono _ _)
      | (with_reducible exact patchworkref8_Right.mono _ _)
      | (with_reducible exact patchworkref8_Same.mono _ _ _)
      | (with_reducible exact LeO.refl _)
      | (with_reducible exact LeO.none _)
      | (with_reducible refine LeO.ite ?_ ?_)
      | (with_reducible refine LeO.bind ?_ (fun _ => ?_))
      | exact ih0 _ _ _
      | exact flip_Ops.mono _ _
      | exact patchworklaw10_alive.mono _
      | exact patchworklaw8_Few.mono _ _
      | exact patchworklaw8_Known.mono _ _ _
      | exact patchworkref1_SameTexts.mono _ _ _
      | exact patchworkref8_News.mono _ _
      | exact patchworkref8_Norm.mono _ _
      | exact patchworkref8_Olds.mono _ _
      | exact patchworkref8_Right.mono _ _
      | exact patchworkref8_Same.mono _ _ _
      | exact LeO.none _
      | refine LeO.ite ?_ ?_
      | refine LeO.bind ?_ (fun _ => ?_)
theorem patchworklaw10_FlipTwice.mono : ∀ a0 k, LeO (patchworklaw10_FlipTwice.f k a0) (patchworklaw10_FlipTwice.f (k + 1) a0) := by
  intro a0 k
  have ih0 := patchworklaw10_FlipTwice.mono_l k
  unfold patchworklaw10_FlipTwice.f
  repeat' first
      | (with_reducible exact ih0 _ _ _)
      | (with_reducible exact flip_Ops.mono _ _)
      | (with_reducible exact patchworklaw10_alive.mono _)
      | (with_reducible exact patchworklaw8_Few.mono _ _)
      | (with_reducible exact patchworklaw8_Known.mono _ _ _)
      | (with_reducible exact patchworkref1_SameTexts.mono _ _ _)
      | (with_reducible exact patchworkref8_News.mono _ _)
      | (with_reducible exact patchworkref8_Norm.mono _ _)
      | (with_reducible exact patchworkref8_Olds.mono _ _)
      | (with_reducible exact patchworkref8_Right.mono _ _)
      | (with_reducible exact patchworkref8_Same.mono _ _ _)
      | (with_reducible exact LeO.refl _)
      | (with_reducible exact LeO.none _)
      | (with_reducible refine LeO.ite ?_ ?_)
      | (with_reducible refine LeO.bind ?_ (fun _ => ?_))
      | exact ih0 _ _ _
      | exact flip_Ops.mono _ _
      | exact patchworklaw10_alive.mono _
      | exact patchworklaw8_Few.mono _ _
      | exact patchworklaw8_Known.mono _ _ _
      | exact patchworkref1_SameTexts.mono _ _ _
      | exact patchworkref8_News.mono _ _
      | exact patchworkref8_Norm.mono _ _
      | exact patchworkref8_Olds.mono _ _
      | exact patchworkref8_Right.mono _ _
      | exact patchworkref8_Same.mono _ _ _
      | exact LeO.none _
      | refine LeO.ite ?_ ?_
      | refine LeO.bind ?_ (fun _ => ?_)

end Go.Proofs.Ythognikhmbabhaa.P
