-- PRINTED by print.py (a twelfth state) out of the translation. Not trusted: Lean checks it.
import Derived.Test.YthognikhmbabhaaD
namespace Go.Proofs.Ythognikhmbabhaa.P
open Go.RowKit Go.Proofs.YthognikhmbabhaaW.PrintWords Go.Proofs.YthognikhmbabhaaW.PrintLast Go.Proofs.YthognikhmbabhaaW.PrintMore
attribute [local go_sem] max2_int min2_int max_two min_two max_three min_three max_four min_four   -- for this text's walks alone
set_option linter.unusedVariables false
set_option linter.unusedSimpArgs false

def patchworklaw10_FlipUndoes.j0 : Nat → List (Op) → List ByteArray → Bool → Bool → Option (Bool)
  | 0, _, _, _, _ => none
  | k + 1, x0, x1, x5, x22 => if x22 = true then (some x5) else ((patchworkref8_Do.f k x0 x1).bind fun bt343 => (if bt343.2 = true then ((flip_Ops.f k x0).bind fun t347 => ((patchworkref8_Do.f k t347 bt343.1).bind fun bt350 => (if bt350.2 = true then ((patchworkref1_SameTexts.f k bt350.1 x1).bind fun t354 => (some t354)) else (some false)))) else (some true)))
def patchworklaw10_FlipUndoes.f (k : Nat) (l0 : List (Op)) (l1 : List ByteArray) : Option (Bool) := (patchworklaw10_alive.f k).bind fun t340 => (if t340 = true then ((patchworklaw8_Few.f k l0).bind fun t341 => (if t341 = true then ((patchworklaw9_Short.f k l1).bind fun t342 => (patchworklaw10_FlipUndoes.j0 k l0 l1 t340 (!t342))) else (patchworklaw10_FlipUndoes.j0 k l0 l1 t340 true))) else (patchworklaw10_FlipUndoes.j0 k l0 l1 t340 true))
theorem patchworklaw10_FlipUndoes.mono_l : ∀ k, (∀ y0 y1 y2 y3, LeO (patchworklaw10_FlipUndoes.j0 k y0 y1 y2 y3) (patchworklaw10_FlipUndoes.j0 (k + 1) y0 y1 y2 y3))
  | 0 => fun _ _ _ _ r h => by simp [patchworklaw10_FlipUndoes.j0] at h
  | k + 1 => by
    have ih0 := patchworklaw10_FlipUndoes.mono_l k
    · intro y0 y1 y2 y3
      unfold patchworklaw10_FlipUndoes.j0
      repeat' first
      | (with_reducible exact ih0 _ _ _ _)
      | (with_reducible exact flip_Ops.mono _ _)
      | (with_reducible exact patchworklaw10_alive.mono _)
      | (with_reducible exact patchworklaw8_Few.mono _ _)
      | (with_reducible exact patchworklaw9_Short.mono _ _)
      | (with_reducible exact patchworkref1_SameTexts.mono _ _ _)
      | (with_reducible exact patchworkref8_Do.mono _ _ _)
      | (with_reducible exact LeO.refl _)
      | (with_reducible exact LeO.none _)
      | (with_reducible refine LeO.ite ?_ ?_)
      | (with_reducible refine LeO.bind ?_ (fun _ => ?_))
      | exact ih0 _ _ _ _
      | exact flip_Ops.mono _ _
      | exact patchworklaw10_alive.mono _
      | exact patchworklaw8_Few.mono _ _
      | exact patchworklaw9_Short.mono _ _
      | exact patchworkref1_SameTexts.mono _ _ _
      | exact patchworkref8_Do.mono _ _ _
      | exact LeO.none _
      | refine LeO.ite ?_ ?_
      | refine LeO.bind ?_ (fun _ => ?_)
theorem patchworklaw10_FlipUndoes.mono : ∀ a0 a1 k, LeO (patchworklaw10_FlipUndoes.f k a0 a1) (patchworklaw10_FlipUndoes.f (k + 1) a0 a1) := by
  intro a0 a1 k
  have ih0 := patchworklaw10_FlipUndoes.mono_l k
  unfold patchworklaw10_FlipUndoes.f
  repeat' first
      | (with_reducible exact ih0 _ _ _ _)
      | (with_reducible exact flip_Ops.mono _ _)
      | (with_reducible exact patchworklaw10_alive.mono _)
      | (with_reducible exact patchworklaw8_Few.mono _ _)
      | (with_reducible exact patchworklaw9_Short.mono _ _)
      | (with_reducible exact patchworkref1_SameTexts.mono _ _ _)
      | (with_reducible exact patchworkref8_Do.mono _ _ _)
      | (with_reducible exact LeO.refl _)
      | (with_reducible exact LeO.none _)
      | (with_reducible refine LeO.ite ?_ ?_)
      | (with_reducible refine LeO.bind ?_ (fun _ => ?_))
      | exact ih0 _ _ _ _
      | exact flip_Ops.mono _ _
      | exact patchworklaw10_alive.mono _
      | exact patchworklaw8_Few.mono _ _
      | exact patchworklaw9_Short.mono _ _
      | exact patchworkref1_SameTexts.mono _ _ _
      | exact patchworkref8_Do.mono _ _ _
      | exact LeO.none _
      | refine LeO.ite ?_ ?_
      | refine LeO.bind ?_ (fun _ => ?_)

end Go.Proofs.Ythognikhmbabhaa.P
