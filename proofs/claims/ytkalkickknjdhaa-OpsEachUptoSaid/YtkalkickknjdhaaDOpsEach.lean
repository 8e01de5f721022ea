-- PRINTED by print.py (a twelfth state) out of the translation. Not trusted: Lean checks it.
import Derived.Test.YtkalkickknjdhaaD
namespace Go.Proofs.Ytkalkickknjdhaa.P
open Go.RowKit Go.Proofs.YtkalkickknjdhaaW.PrintWords Go.Proofs.YtkalkickknjdhaaW.PrintLast Go.Proofs.YtkalkickknjdhaaW.PrintMore
attribute [local go_sem] max2_int min2_int max_two min_two max_three min_three max_four min_four   -- for this text's walks alone
set_option linter.unusedVariables false
set_option linter.unusedSimpArgs false

def patchworklaw8_OpsEach.j0 : Nat → Int → Bool → List (List (Op)) → List Int → Bool → Option (Bool)
  | 0, _, _, _, _, _ => none
  | k + 1, x0, x3, x9, x10, x85 => if x85 = true then (some x3) else (if 0 ≤ x0 then (if x0 < (x9.length : Int) then ((ops_Norm.f k (rd_L5 x9 x0)).bind fun t657 => (if x0 < (x10.length : Int) then (if (rd x10 x0) < 0 then ((ops_Right.f k (rd_L5 x9 x0)).bind fun t662 => (if t662 = true then (some false) else (some ((t657.length : Int) == 0)))) else ((ops_Right.f k (rd_L5 x9 x0)).bind fun t664 => (if t664 = true then (some ((t657.length : Int) == (rd x10 x0))) else (some false)))) else (none))) else (none)) else (none))
def patchworklaw8_OpsEach.f (k : Nat) (a0 : Int) : Option (Bool) := (patchworklaw8_alive.f k).bind fun t587 => ((some (([(([] : List (Op))), (([(⟨3, 0, (⟨#[97, 10]⟩ : ByteArray)⟩ : Op)] : List (Op))), (([(⟨4, 0, (⟨#[98, 10]⟩ : ByteArray)⟩ : Op), (⟨3, 0, (⟨#[97, 10]⟩ : ByteArray)⟩ : Op)] : List (Op))), (([(⟨1, 2, (⟨#[]⟩ : ByteArray)⟩ : Op), (⟨1, 2, (⟨#[]⟩ : ByteArray)⟩ : Op)] : List (Op))), (([(⟨1, 2, (⟨#[]⟩ : ByteArray)⟩ : Op), (⟨1, 2, (⟨#[]⟩ : ByteArray)⟩ : Op), (⟨3, 0, (⟨#[97, 10]⟩ : ByteArray)⟩ : Op), (⟨1, 2, (⟨#[]⟩ : ByteArray)⟩ : Op)] : List (Op))), (([(⟨2, 0, (⟨#[99, 10]⟩ : ByteArray)⟩ : Op), (⟨2, 0, (⟨#[111]⟩ : ByteArray)⟩ : Op)] : List (Op))), (([(⟨2, 0, (⟨#[111]⟩ : ByteArray)⟩ : Op), (⟨2, 0, (⟨#[99, 10]⟩ : ByteArray)⟩ : Op)] : List (Op))), (([(⟨2, 0, (⟨#[111]⟩ : ByteArray)⟩ : Op), (⟨1, 2, (⟨#[]⟩ : ByteArray)⟩ : Op)] : List (Op))), (([(⟨3, 0, (⟨#[97, 10]⟩ : ByteArray)⟩ : Op), (⟨2, 0, (⟨#[111]⟩ : ByteArray)⟩ : Op), (⟨4, 0, (⟨#[98, 10]⟩ : ByteArray)⟩ : Op)] : List (Op))), (([(⟨1, 0, (⟨#[]⟩ : ByteArray)⟩ : Op)] : List (Op))), (([(⟨1, 1, (⟨#[120]⟩ : ByteArray)⟩ : Op)] : List (Op))), (([(⟨2, 0, (⟨#[]⟩ : ByteArray)⟩ : Op)] : List (Op))), (([(⟨2, 1, (⟨#[120, 10]⟩ : ByteArray)⟩ : Op)] : List (Op))), (([(⟨5, 0, (⟨#[120, 10]⟩ : ByteArray)⟩ : Op)] : List (Op))), (([(⟨4, 0, (⟨#[120, 10, 121]⟩ : ByteArray)⟩ : Op)] : List (Op))), (([(⟨3, 0, (⟨#[111]⟩ : ByteArray)⟩ : Op), (⟨4, 0, (⟨#[98, 10]⟩ : ByteArray)⟩ : Op)] : List (Op))), (([(⟨4, 0, (⟨#[111]⟩ : ByteArray)⟩ : Op), (⟨3, 0, (⟨#[97, 10]⟩ : ByteArray)⟩ : Op)] : List (Op))), (([(⟨3, 0, (⟨#[111]⟩ : ByteArray)⟩ : Op), (⟨3, 0, (⟨#[97, 10]⟩ : ByteArray)⟩ : Op)] : List (Op))), (([(⟨4, 0, (⟨#[98, 10]⟩ : ByteArray)⟩ : Op), (⟨2, 0, (⟨#[99, 10]⟩ : ByteArray)⟩ : Op), (⟨4, 0, (⟨#[98, 10]⟩ : ByteArray)⟩ : Op), (⟨3, 0, (⟨#[97, 10]⟩ : ByteArray)⟩ : Op), (⟨4, 0, (⟨#[98, 10]⟩ : ByteArray)⟩ : Op)] : List (Op)))] : List (List (Op))) : List (List (Op)))).bind fun y650 => ((some (([0, 1, 2, 1, 3, 2, (-1), (-1), (-1), (-1), (-1), (-1), (-1), (-1), (-1), 2, 2, (-1), 5] : List Int) : List Int)).bind fun y653 => (if t587 = true then (if a0 < 0 then (patchworklaw8_OpsEach.j0 k a0 t587 y650 y653 true) else (patchworklaw8_OpsEach.j0 k a0 t587 y650 y653 (decide (a0 ≥ (y650.length : Int))))) else (patchworklaw8_OpsEach.j0 k a0 t587 y650 y653 true))))
theorem patchworklaw8_OpsEach.mono_l : ∀ k, (∀ y0 y1 y2 y3 y4, LeO (patchworklaw8_OpsEach.j0 k y0 y1 y2 y3 y4) (patchworklaw8_OpsEach.j0 (k + 1) y0 y1 y2 y3 y4))
  | 0 => fun _ _ _ _ _ r h => by simp [patchworklaw8_OpsEach.j0] at h
  | k + 1 => by
    have ih0 := patchworklaw8_OpsEach.mono_l k
    · intro y0 y1 y2 y3 y4
      unfold patchworklaw8_OpsEach.j0
      repeat' first
      | (with_reducible exact ih0 _ _ _ _ _)
      | (with_reducible exact ops_Norm.mono _ _)
      | (with_reducible exact ops_Right.mono _ _)
      | (with_reducible exact patchworklaw8_alive.mono _)
      | (with_reducible exact LeO.refl _)
      | (with_reducible exact LeO.none _)
      | (with_reducible refine LeO.ite ?_ ?_)
      | (with_reducible refine LeO.bind ?_ (fun _ => ?_))
      | exact ih0 _ _ _ _ _
      | exact ops_Norm.mono _ _
      | exact ops_Right.mono _ _
      | exact patchworklaw8_alive.mono _
      | exact LeO.none _
      | refine LeO.ite ?_ ?_
      | refine LeO.bind ?_ (fun _ => ?_)
theorem patchworklaw8_OpsEach.mono : ∀ a0 k, LeO (patchworklaw8_OpsEach.f k a0) (patchworklaw8_OpsEach.f (k + 1) a0) := by
  intro a0 k
  have ih0 := patchworklaw8_OpsEach.mono_l k
  unfold patchworklaw8_OpsEach.f
  repeat' first
      | (with_reducible exact ih0 _ _ _ _ _)
      | (with_reducible exact ops_Norm.mono _ _)
      | (with_reducible exact ops_Right.mono _ _)
      | (with_reducible exact patchworklaw8_alive.mono _)
      | (with_reducible exact LeO.refl _)
      | (with_reducible exact LeO.none _)
      | (with_reducible refine LeO.ite ?_ ?_)
      | (with_reducible refine LeO.bind ?_ (fun _ => ?_))
      | exact ih0 _ _ _ _ _
      | exact ops_Norm.mono _ _
      | exact ops_Right.mono _ _
      | exact patchworklaw8_alive.mono _
      | exact LeO.none _
      | refine LeO.ite ?_ ?_
      | refine LeO.bind ?_ (fun _ => ?_)

end Go.Proofs.Ytkalkickknjdhaa.P
