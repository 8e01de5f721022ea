-- PRINTED by print.py (a twelfth state) out of the translation. Not trusted: Lean checks it.
import Derived.Test.YtkalkickknjdhaaD
namespace Go.Proofs.Ytkalkickknjdhaa.P
open Go.RowKit Go.Proofs.YtkalkickknjdhaaW.PrintWords Go.Proofs.YtkalkickknjdhaaW.PrintLast Go.Proofs.YtkalkickknjdhaaW.PrintMore
attribute [local go_sem] max2_int min2_int max_two min_two max_three min_three max_four min_four   -- for this text's walks alone
set_option linter.unusedVariables false
set_option linter.unusedSimpArgs false

def patchworklaw8_OpsOpen.j0 : Nat → Int → Int → ByteArray → Int → Bool → Bool → Option (Bool)
  | 0, _, _, _, _, _, _ => none
  | k + 1, x0, x1, x2, x3, x9, x49 => if x49 = true then (some x9) else ((some (([(⟨x0, 0, x2⟩ : Op), (⟨x1, 0, (⟨#[122, 10]⟩ : ByteArray)⟩ : Op)] : List (Op)) : List (Op))).bind fun y540 => (if x1 = 1 then (if 1 < (y540.length : Int) then ((some (y540.set (1 : Int).toNat (⟨1, x3, (⟨#[]⟩ : ByteArray)⟩ : Op) : List (Op))).bind fun y543 => (if 0 ≤ (wrap64 ((x2.size : Int) - 1)) then (if (wrap64 ((x2.size : Int) - 1)) < (x2.size : Int) then (if x0 = 3 then (if x1 = 4 then ((ops_Right.f k y543).bind fun t544 => (if (¬ (bt x2 (wrap64 ((x2.size : Int) - 1))) = 10) then (some (t544 == true)) else (some (t544 == true)))) else (if x0 = 4 then ((ops_Right.f k y543).bind fun t545 => (if (¬ (bt x2 (wrap64 ((x2.size : Int) - 1))) = 10) then (some (t545 == (x1 == 3))) else (some (t545 == true)))) else ((ops_Right.f k y543).bind fun t546 => (if (¬ (bt x2 (wrap64 ((x2.size : Int) - 1))) = 10) then (some (t546 == false)) else (some (t546 == true)))))) else (if x0 = 4 then ((ops_Right.f k y543).bind fun t547 => (if (¬ (bt x2 (wrap64 ((x2.size : Int) - 1))) = 10) then (some (t547 == (x1 == 3))) else (some (t547 == true)))) else ((ops_Right.f k y543).bind fun t548 => (if (¬ (bt x2 (wrap64 ((x2.size : Int) - 1))) = 10) then (some (t548 == false)) else (some (t548 == true)))))) else (none)) else (none))) else (none)) else (if 0 ≤ (wrap64 ((x2.size : Int) - 1)) then (if (wrap64 ((x2.size : Int) - 1)) < (x2.size : Int) then (if x0 = 3 then (if x1 = 4 then ((ops_Right.f k y540).bind fun t549 => (if (¬ (bt x2 (wrap64 ((x2.size : Int) - 1))) = 10) then (some (t549 == true)) else (some (t549 == true)))) else (if x0 = 4 then ((ops_Right.f k y540).bind fun t550 => (if (¬ (bt x2 (wrap64 ((x2.size : Int) - 1))) = 10) then (some (t550 == (x1 == 3))) else (some (t550 == true)))) else ((ops_Right.f k y540).bind fun t551 => (if (¬ (bt x2 (wrap64 ((x2.size : Int) - 1))) = 10) then (some (t551 == false)) else (some (t551 == true)))))) else (if x0 = 4 then ((ops_Right.f k y540).bind fun t552 => (if (¬ (bt x2 (wrap64 ((x2.size : Int) - 1))) = 10) then (some (t552 == (x1 == 3))) else (some (t552 == true)))) else ((ops_Right.f k y540).bind fun t553 => (if (¬ (bt x2 (wrap64 ((x2.size : Int) - 1))) = 10) then (some (t553 == false)) else (some (t553 == true)))))) else (none)) else (none))))
def patchworklaw8_OpsOpen.f (k : Nat) (a0 : Int) (a1 : Int) (a2 : ByteArray) (a3 : Int) : Option (Bool) := (patchworklaw8_alive.f k).bind fun t538 => (if t538 = true then (if a0 < 2 then (patchworklaw8_OpsOpen.j0 k a0 a1 a2 a3 t538 true) else (if a0 > 4 then (patchworklaw8_OpsOpen.j0 k a0 a1 a2 a3 t538 true) else (if a1 < 1 then (patchworklaw8_OpsOpen.j0 k a0 a1 a2 a3 t538 true) else (if a1 > 4 then (patchworklaw8_OpsOpen.j0 k a0 a1 a2 a3 t538 true) else (if (a2.size : Int) > 50 then (patchworklaw8_OpsOpen.j0 k a0 a1 a2 a3 t538 true) else ((patchworkref1_RightLine.f k a2).bind fun t539 => (if t539 = true then (if a3 < 1 then (patchworklaw8_OpsOpen.j0 k a0 a1 a2 a3 t538 true) else (patchworklaw8_OpsOpen.j0 k a0 a1 a2 a3 t538 (decide (a3 > 1000)))) else (patchworklaw8_OpsOpen.j0 k a0 a1 a2 a3 t538 true)))))))) else (patchworklaw8_OpsOpen.j0 k a0 a1 a2 a3 t538 true))
theorem patchworklaw8_OpsOpen.mono_l : ∀ k, (∀ y0 y1 y2 y3 y4 y5, LeO (patchworklaw8_OpsOpen.j0 k y0 y1 y2 y3 y4 y5) (patchworklaw8_OpsOpen.j0 (k + 1) y0 y1 y2 y3 y4 y5))
  | 0 => fun _ _ _ _ _ _ r h => by simp [patchworklaw8_OpsOpen.j0] at h
  | k + 1 => by
    have ih0 := patchworklaw8_OpsOpen.mono_l k
    · intro y0 y1 y2 y3 y4 y5
      unfold patchworklaw8_OpsOpen.j0
      repeat' first
      | (with_reducible exact ih0 _ _ _ _ _ _)
      | (with_reducible exact ops_Right.mono _ _)
      | (with_reducible exact patchworklaw8_alive.mono _)
      | (with_reducible exact patchworkref1_RightLine.mono _ _)
      | (with_reducible exact LeO.refl _)
      | (with_reducible exact LeO.none _)
      | (with_reducible refine LeO.ite ?_ ?_)
      | (with_reducible refine LeO.bind ?_ (fun _ => ?_))
      | exact ih0 _ _ _ _ _ _
      | exact ops_Right.mono _ _
      | exact patchworklaw8_alive.mono _
      | exact patchworkref1_RightLine.mono _ _
      | exact LeO.none _
      | refine LeO.ite ?_ ?_
      | refine LeO.bind ?_ (fun _ => ?_)
theorem patchworklaw8_OpsOpen.mono : ∀ a0 a1 a2 a3 k, LeO (patchworklaw8_OpsOpen.f k a0 a1 a2 a3) (patchworklaw8_OpsOpen.f (k + 1) a0 a1 a2 a3) := by
  intro a0 a1 a2 a3 k
  have ih0 := patchworklaw8_OpsOpen.mono_l k
  unfold patchworklaw8_OpsOpen.f
  repeat' first
      | (with_reducible exact ih0 _ _ _ _ _ _)
      | (with_reducible exact ops_Right.mono _ _)
      | (with_reducible exact patchworklaw8_alive.mono _)
      | (with_reducible exact patchworkref1_RightLine.mono _ _)
      | (with_reducible exact LeO.refl _)
      | (with_reducible exact LeO.none _)
      | (with_reducible refine LeO.ite ?_ ?_)
      | (with_reducible refine LeO.bind ?_ (fun _ => ?_))
      | exact ih0 _ _ _ _ _ _
      | exact ops_Right.mono _ _
      | exact patchworklaw8_alive.mono _
      | exact patchworkref1_RightLine.mono _ _
      | exact LeO.none _
      | refine LeO.ite ?_ ?_
      | refine LeO.bind ?_ (fun _ => ?_)

end Go.Proofs.Ytkalkickknjdhaa.P
