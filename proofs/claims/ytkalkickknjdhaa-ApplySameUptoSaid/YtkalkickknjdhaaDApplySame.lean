-- PRINTED by print.py (a twelfth state) out of the translation. Not trusted: Lean checks it.
import Derived.Test.YtkalkickknjdhaaD
namespace Go.Proofs.Ytkalkickknjdhaa.P
open Go.RowKit Go.Proofs.YtkalkickknjdhaaW.PrintWords Go.Proofs.YtkalkickknjdhaaW.PrintLast Go.Proofs.YtkalkickknjdhaaW.PrintMore
attribute [local go_sem] max2_int min2_int max_two min_two max_three min_three max_four min_four   -- for this text's walks alone
set_option linter.unusedVariables false
set_option linter.unusedSimpArgs false

def patchworklaw9_ApplySame.j0 : Nat → List (Op) → List ByteArray → Bool → Bool → Option (Bool)
  | 0, _, _, _, _ => none
  | k + 1, x0, x1, x5, x27 => if x27 = true then (some x5) else ((apply_Do.f k x0 x1).bind fun bt293 => ((patchworkref8_Norm.f k x0).bind fun t297 => ((apply_Do.f k t297 x1).bind fun bt300 => (if (bt293.2 == bt300.2) = true then ((patchworkref1_SameTexts.f k bt293.1 bt300.1).bind fun t304 => (some t304)) else (some false)))))
def patchworklaw9_ApplySame.f (k : Nat) (l0 : List (Op)) (l1 : List ByteArray) : Option (Bool) := (patchworklaw9_alive.f k).bind fun t289 => (if t289 = true then ((patchworklaw8_Few.f k l0).bind fun t290 => (if t290 = true then ((patchworklaw9_Short.f k l1).bind fun t291 => (if t291 = true then ((patchworkref8_Right.f k l0).bind fun t292 => (patchworklaw9_ApplySame.j0 k l0 l1 t289 (!t292))) else (patchworklaw9_ApplySame.j0 k l0 l1 t289 true))) else (patchworklaw9_ApplySame.j0 k l0 l1 t289 true))) else (patchworklaw9_ApplySame.j0 k l0 l1 t289 true))
theorem patchworklaw9_ApplySame.mono_l : ∀ k, (∀ y0 y1 y2 y3, LeO (patchworklaw9_ApplySame.j0 k y0 y1 y2 y3) (patchworklaw9_ApplySame.j0 (k + 1) y0 y1 y2 y3))
  | 0 => fun _ _ _ _ r h => by simp [patchworklaw9_ApplySame.j0] at h
  | k + 1 => by
    have ih0 := patchworklaw9_ApplySame.mono_l k
    · intro y0 y1 y2 y3
      unfold patchworklaw9_ApplySame.j0
      repeat' first
      | (with_reducible exact ih0 _ _ _ _)
      | (with_reducible exact apply_Do.mono _ _ _)
      | (with_reducible exact patchworklaw8_Few.mono _ _)
      | (with_reducible exact patchworklaw9_Short.mono _ _)
      | (with_reducible exact patchworklaw9_alive.mono _)
      | (with_reducible exact patchworkref1_SameTexts.mono _ _ _)
      | (with_reducible exact patchworkref8_Norm.mono _ _)
      | (with_reducible exact patchworkref8_Right.mono _ _)
      | (with_reducible exact LeO.refl _)
      | (with_reducible exact LeO.none _)
      | (with_reducible refine LeO.ite ?_ ?_)
      | (with_reducible refine LeO.bind ?_ (fun _ => ?_))
      | exact ih0 _ _ _ _
      | exact apply_Do.mono _ _ _
      | exact patchworklaw8_Few.mono _ _
      | exact patchworklaw9_Short.mono _ _
      | exact patchworklaw9_alive.mono _
      | exact patchworkref1_SameTexts.mono _ _ _
      | exact patchworkref8_Norm.mono _ _
      | exact patchworkref8_Right.mono _ _
      | exact LeO.none _
      | refine LeO.ite ?_ ?_
      | refine LeO.bind ?_ (fun _ => ?_)
theorem patchworklaw9_ApplySame.mono : ∀ a0 a1 k, LeO (patchworklaw9_ApplySame.f k a0 a1) (patchworklaw9_ApplySame.f (k + 1) a0 a1) := by
  intro a0 a1 k
  have ih0 := patchworklaw9_ApplySame.mono_l k
  unfold patchworklaw9_ApplySame.f
  repeat' first
      | (with_reducible exact ih0 _ _ _ _)
      | (with_reducible exact apply_Do.mono _ _ _)
      | (with_reducible exact patchworklaw8_Few.mono _ _)
      | (with_reducible exact patchworklaw9_Short.mono _ _)
      | (with_reducible exact patchworklaw9_alive.mono _)
      | (with_reducible exact patchworkref1_SameTexts.mono _ _ _)
      | (with_reducible exact patchworkref8_Norm.mono _ _)
      | (with_reducible exact patchworkref8_Right.mono _ _)
      | (with_reducible exact LeO.refl _)
      | (with_reducible exact LeO.none _)
      | (with_reducible refine LeO.ite ?_ ?_)
      | (with_reducible refine LeO.bind ?_ (fun _ => ?_))
      | exact ih0 _ _ _ _
      | exact apply_Do.mono _ _ _
      | exact patchworklaw8_Few.mono _ _
      | exact patchworklaw9_Short.mono _ _
      | exact patchworklaw9_alive.mono _
      | exact patchworkref1_SameTexts.mono _ _ _
      | exact patchworkref8_Norm.mono _ _
      | exact patchworkref8_Right.mono _ _
      | exact LeO.none _
      | refine LeO.ite ?_ ?_
      | refine LeO.bind ?_ (fun _ => ?_)

end Go.Proofs.Ytkalkickknjdhaa.P
