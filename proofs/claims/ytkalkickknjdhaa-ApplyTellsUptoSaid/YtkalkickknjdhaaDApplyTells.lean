-- PRINTED by print.py (a twelfth state) out of the translation. Not trusted: Lean checks it.
import Derived.Test.YtkalkickknjdhaaD
namespace Go.Proofs.Ytkalkickknjdhaa.P
open Go.RowKit Go.Proofs.YtkalkickknjdhaaW.PrintWords Go.Proofs.YtkalkickknjdhaaW.PrintLast Go.Proofs.YtkalkickknjdhaaW.PrintMore
attribute [local go_sem] max2_int min2_int max_two min_two max_three min_three max_four min_four   -- for this text's walks alone
set_option linter.unusedVariables false
set_option linter.unusedSimpArgs false

def patchworklaw9_ApplyTells.j0 : Nat → List (Op) → List ByteArray → Bool → Bool → Option (Bool)
  | 0, _, _, _, _ => none
  | k + 1, x0, x1, x5, x22 => if x22 = true then (some x5) else (if ([] : List (Op)).length + x0.length < 4398046511104 then (if ([] : List ByteArray).length + x1.length < 8796093022208 then ((apply_Do.f k (([] : List (Op)) ++ x0) (([] : List ByteArray) ++ x1)).bind fun bt248 => ((patchworkref8_Do.f k x0 x1).bind fun bt252 => ((patchworkref1_SameTexts.f k bt248.1 bt252.1).bind fun t256 => (if t256 = true then (if (bt248.2 == bt252.2) = true then ((apply_Fits.f k x0 x1).bind fun t257 => (some (t257 == bt252.2))) else (some false)) else (some false))))) else (none)) else (none))
def patchworklaw9_ApplyTells.f (k : Nat) (l0 : List (Op)) (l1 : List ByteArray) : Option (Bool) := (patchworklaw9_alive.f k).bind fun t239 => (if t239 = true then ((patchworklaw8_Few.f k l0).bind fun t240 => (if t240 = true then ((patchworklaw9_Short.f k l1).bind fun t241 => (patchworklaw9_ApplyTells.j0 k l0 l1 t239 (!t241))) else (patchworklaw9_ApplyTells.j0 k l0 l1 t239 true))) else (patchworklaw9_ApplyTells.j0 k l0 l1 t239 true))
theorem patchworklaw9_ApplyTells.mono_l : ∀ k, (∀ y0 y1 y2 y3, LeO (patchworklaw9_ApplyTells.j0 k y0 y1 y2 y3) (patchworklaw9_ApplyTells.j0 (k + 1) y0 y1 y2 y3))
  | 0 => fun _ _ _ _ r h => by simp [patchworklaw9_ApplyTells.j0] at h
  | k + 1 => by
    have ih0 := patchworklaw9_ApplyTells.mono_l k
    · intro y0 y1 y2 y3
      unfold patchworklaw9_ApplyTells.j0
      repeat' first
      | (with_reducible exact ih0 _ _ _ _)
      | (with_reducible exact apply_Do.mono _ _ _)
      | (with_reducible exact apply_Fits.mono _ _ _)
      | (with_reducible exact patchworklaw8_Few.mono _ _)
      | (with_reducible exact patchworklaw9_Short.mono _ _)
      | (with_reducible exact patchworklaw9_alive.mono _)
      | (with_reducible exact patchworkref1_SameTexts.mono _ _ _)
      | (with_reducible exact patchworkref8_Do.mono _ _ _)
      | (with_reducible exact LeO.refl _)
      | (with_reducible exact LeO.none _)
      | (with_reducible refine LeO.ite ?_ ?_)
      | (with_reducible refine LeO.bind ?_ (fun _ => ?_))
      | exact ih0 _ _ _ _
      | exact apply_Do.mono _ _ _
      | exact apply_Fits.mono _ _ _
      | exact patchworklaw8_Few.mono _ _
      | exact patchworklaw9_Short.mono _ _
      | exact patchworklaw9_alive.mono _
      | exact patchworkref1_SameTexts.mono _ _ _
      | exact patchworkref8_Do.mono _ _ _
      | exact LeO.none _
      | refine LeO.ite ?_ ?_
      | refine LeO.bind ?_ (fun _ => ?_)
theorem patchworklaw9_ApplyTells.mono : ∀ a0 a1 k, LeO (patchworklaw9_ApplyTells.f k a0 a1) (patchworklaw9_ApplyTells.f (k + 1) a0 a1) := by
  intro a0 a1 k
  have ih0 := patchworklaw9_ApplyTells.mono_l k
  unfold patchworklaw9_ApplyTells.f
  repeat' first
      | (with_reducible exact ih0 _ _ _ _)
      | (with_reducible exact apply_Do.mono _ _ _)
      | (with_reducible exact apply_Fits.mono _ _ _)
      | (with_reducible exact patchworklaw8_Few.mono _ _)
      | (with_reducible exact patchworklaw9_Short.mono _ _)
      | (with_reducible exact patchworklaw9_alive.mono _)
      | (with_reducible exact patchworkref1_SameTexts.mono _ _ _)
      | (with_reducible exact patchworkref8_Do.mono _ _ _)
      | (with_reducible exact LeO.refl _)
      | (with_reducible exact LeO.none _)
      | (with_reducible refine LeO.ite ?_ ?_)
      | (with_reducible refine LeO.bind ?_ (fun _ => ?_))
      | exact ih0 _ _ _ _
      | exact apply_Do.mono _ _ _
      | exact apply_Fits.mono _ _ _
      | exact patchworklaw8_Few.mono _ _
      | exact patchworklaw9_Short.mono _ _
      | exact patchworklaw9_alive.mono _
      | exact patchworkref1_SameTexts.mono _ _ _
      | exact patchworkref8_Do.mono _ _ _
      | exact LeO.none _
      | refine LeO.ite ?_ ?_
      | refine LeO.bind ?_ (fun _ => ?_)

end Go.Proofs.Ytkalkickknjdhaa.P
