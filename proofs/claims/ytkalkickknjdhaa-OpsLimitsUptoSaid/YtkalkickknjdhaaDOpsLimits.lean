-- PRINTED by print.py (a twelfth state) out of the translation. Not trusted: Lean checks it.
import Derived.Test.YtkalkickknjdhaaD
namespace Go.Proofs.Ytkalkickknjdhaa.P
open Go.RowKit Go.Proofs.YtkalkickknjdhaaW.PrintWords Go.Proofs.YtkalkickknjdhaaW.PrintLast Go.Proofs.YtkalkickknjdhaaW.PrintMore
attribute [local go_sem] max2_int min2_int max_two min_two max_three min_three max_four min_four   -- for this text's walks alone
set_option linter.unusedVariables false
set_option linter.unusedSimpArgs false

mutual
def patchworklaw8_OpsLimits.j0 : Nat → Int → Int → Bool → Option (Bool)
  | 0, _, _, _ => none
  | k + 1, x0, x1, x22 => if x22 = true then (some false) else (if x0 < 1 then (patchworklaw8_OpsLimits.j1 k x0 x1 true) else (if x0 > 2147483648 then (patchworklaw8_OpsLimits.j1 k x0 x1 true) else (if x1 < 1 then (patchworklaw8_OpsLimits.j1 k x0 x1 true) else (patchworklaw8_OpsLimits.j1 k x0 x1 (decide (x1 > 2147483648))))))
def patchworklaw8_OpsLimits.j1 : Nat → Int → Int → Bool → Option (Bool)
  | 0, _, _, _ => none
  | k + 1, x0, x1, x36 => if x36 = true then (some true) else ((some (([(⟨1, x0, (⟨#[]⟩ : ByteArray)⟩ : Op), (⟨1, x1, (⟨#[]⟩ : ByteArray)⟩ : Op)] : List (Op)) : List (Op))).bind fun y559 => ((ops_Right.f k y559).bind fun t562 => (if (t562 == (decide ((wrap64 (x0 + x1)) ≤ 2147483648))) = true then ((ops_Olds.f k y559).bind fun t563 => (if t563 = (wrap64 (x0 + x1)) then ((ops_News.f k y559).bind fun t564 => (some (t564 == (wrap64 (x0 + x1))))) else (some false))) else (some false))))
end
def patchworklaw8_OpsLimits.f (k : Nat) (a0 : Int) (a1 : Int) : Option (Bool) := (patchworklaw8_alive.f k).bind fun t554 => (if t554 = true then ((ops_Right.f k (([(⟨1, a0, (⟨#[]⟩ : ByteArray)⟩ : Op)] : List (Op)))).bind fun t558 => (if a0 ≥ 1 then (patchworklaw8_OpsLimits.j0 k a0 a1 (t558 != (decide (a0 ≤ 2147483648)))) else (patchworklaw8_OpsLimits.j0 k a0 a1 (t558 != false)))) else (some false))
theorem patchworklaw8_OpsLimits.mono_l : ∀ k, (∀ y0 y1 y2, LeO (patchworklaw8_OpsLimits.j0 k y0 y1 y2) (patchworklaw8_OpsLimits.j0 (k + 1) y0 y1 y2)) ∧ (∀ y0 y1 y2, LeO (patchworklaw8_OpsLimits.j1 k y0 y1 y2) (patchworklaw8_OpsLimits.j1 (k + 1) y0 y1 y2))
  | 0 => ⟨fun _ _ _ r h => by simp [patchworklaw8_OpsLimits.j0] at h, fun _ _ _ r h => by simp [patchworklaw8_OpsLimits.j1] at h⟩
  | k + 1 => by
    obtain ⟨ih0, ih1⟩ := patchworklaw8_OpsLimits.mono_l k
    refine ⟨?_, ?_⟩
    · intro y0 y1 y2
      unfold patchworklaw8_OpsLimits.j0
      repeat' first
      | (with_reducible exact ih0 _ _ _)
      | (with_reducible exact ih1 _ _ _)
      | (with_reducible exact ops_News.mono _ _)
      | (with_reducible exact ops_Olds.mono _ _)
      | (with_reducible exact ops_Right.mono _ _)
      | (with_reducible exact patchworklaw8_alive.mono _)
      | (with_reducible exact LeO.refl _)
      | (with_reducible exact LeO.none _)
      | (with_reducible refine LeO.ite ?_ ?_)
      | (with_reducible refine LeO.bind ?_ (fun _ => ?_))
      | exact ih0 _ _ _
      | exact ih1 _ _ _
      | exact ops_News.mono _ _
      | exact ops_Olds.mono _ _
      | exact ops_Right.mono _ _
      | exact patchworklaw8_alive.mono _
      | exact LeO.none _
      | refine LeO.ite ?_ ?_
      | refine LeO.bind ?_ (fun _ => ?_)
    · intro y0 y1 y2
      unfold patchworklaw8_OpsLimits.j1
      repeat' first
      | (with_reducible exact ih0 _ _ _)
      | (with_reducible exact ih1 _ _ _)
      | (with_reducible exact ops_News.mono _ _)
      | (with_reducible exact ops_Olds.mono _ _)
      | (with_reducible exact ops_Right.mono _ _)
      | (with_reducible exact patchworklaw8_alive.mono _)
      | (with_reducible exact LeO.refl _)
      | (with_reducible exact LeO.none _)
      | (with_reducible refine LeO.ite ?_ ?_)
      | (with_reducible refine LeO.bind ?_ (fun _ => ?_))
      | exact ih0 _ _ _
      | exact ih1 _ _ _
      | exact ops_News.mono _ _
      | exact ops_Olds.mono _ _
      | exact ops_Right.mono _ _
      | exact patchworklaw8_alive.mono _
      | exact LeO.none _
      | refine LeO.ite ?_ ?_
      | refine LeO.bind ?_ (fun _ => ?_)
theorem patchworklaw8_OpsLimits.mono : ∀ a0 a1 k, LeO (patchworklaw8_OpsLimits.f k a0 a1) (patchworklaw8_OpsLimits.f (k + 1) a0 a1) := by
  intro a0 a1 k
  obtain ⟨ih0, ih1⟩ := patchworklaw8_OpsLimits.mono_l k
  unfold patchworklaw8_OpsLimits.f
  repeat' first
      | (with_reducible exact ih0 _ _ _)
      | (with_reducible exact ih1 _ _ _)
      | (with_reducible exact ops_News.mono _ _)
      | (with_reducible exact ops_Olds.mono _ _)
      | (with_reducible exact ops_Right.mono _ _)
      | (with_reducible exact patchworklaw8_alive.mono _)
      | (with_reducible exact LeO.refl _)
      | (with_reducible exact LeO.none _)
      | (with_reducible refine LeO.ite ?_ ?_)
      | (with_reducible refine LeO.bind ?_ (fun _ => ?_))
      | exact ih0 _ _ _
      | exact ih1 _ _ _
      | exact ops_News.mono _ _
      | exact ops_Olds.mono _ _
      | exact ops_Right.mono _ _
      | exact patchworklaw8_alive.mono _
      | exact LeO.none _
      | refine LeO.ite ?_ ?_
      | refine LeO.bind ?_ (fun _ => ?_)

end Go.Proofs.Ytkalkickknjdhaa.P
