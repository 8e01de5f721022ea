-- PRINTED by print.py (a twelfth state) out of the translation. Not trusted: Lean checks it.
import Derived.Test.YthognikhmbabhaaD
namespace Go.Proofs.Ythognikhmbabhaa.P
open Go.RowKit Go.Proofs.YthognikhmbabhaaW.PrintWords Go.Proofs.YthognikhmbabhaaW.PrintLast Go.Proofs.YthognikhmbabhaaW.PrintMore
attribute [local go_sem] max2_int min2_int max_two min_two max_three min_three max_four min_four   -- for this text's walks alone
set_option linter.unusedVariables false
set_option linter.unusedSimpArgs false

def patchworklaw10_FlipEach.j0 : Nat → Int → Bool → List (List (Op)) → List (List (Op)) → Bool → Option (Bool)
  | 0, _, _, _, _, _ => none
  | k + 1, x0, x3, x10, x11, x81 => if x81 = true then (some x3) else (if 0 ≤ x0 then (if x0 < (x10.length : Int) then ((flip_Ops.f k (rd_L5 x10 x0)).bind fun t423 => (if x0 < (x11.length : Int) then ((patchworkref8_Same.f k t423 (rd_L5 x11 x0)).bind fun t427 => (some t427)) else (none))) else (none)) else (none))
def patchworklaw10_FlipEach.f (k : Nat) (a0 : Int) : Option (Bool) := (patchworklaw10_alive.f k).bind fun t355 => ((some (([(([(⟨1, 2, (⟨#[]⟩ : ByteArray)⟩ : Op)] : List (Op))), (([(⟨2, 0, (⟨#[99, 10]⟩ : ByteArray)⟩ : Op)] : List (Op))), (([(⟨3, 0, (⟨#[97, 10]⟩ : ByteArray)⟩ : Op)] : List (Op))), (([(⟨3, 0, (⟨#[97, 10]⟩ : ByteArray)⟩ : Op), (⟨4, 0, (⟨#[98, 10]⟩ : ByteArray)⟩ : Op)] : List (Op))), (([(⟨4, 0, (⟨#[98, 10]⟩ : ByteArray)⟩ : Op), (⟨3, 0, (⟨#[97, 10]⟩ : ByteArray)⟩ : Op)] : List (Op))), (([(⟨3, 0, (⟨#[97, 10]⟩ : ByteArray)⟩ : Op), (⟨2, 0, (⟨#[99, 10]⟩ : ByteArray)⟩ : Op), (⟨4, 0, (⟨#[98, 10]⟩ : ByteArray)⟩ : Op)] : List (Op))), (([(⟨1, 2, (⟨#[]⟩ : ByteArray)⟩ : Op), (⟨3, 0, (⟨#[97, 10]⟩ : ByteArray)⟩ : Op), (⟨1, 2, (⟨#[]⟩ : ByteArray)⟩ : Op)] : List (Op))), (([(⟨1, 2, (⟨#[]⟩ : ByteArray)⟩ : Op), (⟨1, 2, (⟨#[]⟩ : ByteArray)⟩ : Op)] : List (Op))), (([(⟨2, 0, (⟨#[111]⟩ : ByteArray)⟩ : Op), (⟨2, 0, (⟨#[99, 10]⟩ : ByteArray)⟩ : Op)] : List (Op)))] : List (List (Op))) : List (List (Op)))).bind fun y389 => ((some (([(([(⟨1, 2, (⟨#[]⟩ : ByteArray)⟩ : Op)] : List (Op))), (([(⟨2, 0, (⟨#[99, 10]⟩ : ByteArray)⟩ : Op)] : List (Op))), (([(⟨4, 0, (⟨#[97, 10]⟩ : ByteArray)⟩ : Op)] : List (Op))), (([(⟨3, 0, (⟨#[98, 10]⟩ : ByteArray)⟩ : Op), (⟨4, 0, (⟨#[97, 10]⟩ : ByteArray)⟩ : Op)] : List (Op))), (([(⟨3, 0, (⟨#[98, 10]⟩ : ByteArray)⟩ : Op), (⟨4, 0, (⟨#[97, 10]⟩ : ByteArray)⟩ : Op)] : List (Op))), (([(⟨4, 0, (⟨#[97, 10]⟩ : ByteArray)⟩ : Op), (⟨2, 0, (⟨#[99, 10]⟩ : ByteArray)⟩ : Op), (⟨3, 0, (⟨#[98, 10]⟩ : ByteArray)⟩ : Op)] : List (Op))), (([(⟨1, 2, (⟨#[]⟩ : ByteArray)⟩ : Op), (⟨4, 0, (⟨#[97, 10]⟩ : ByteArray)⟩ : Op), (⟨1, 2, (⟨#[]⟩ : ByteArray)⟩ : Op)] : List (Op))), (([(⟨1, 4, (⟨#[]⟩ : ByteArray)⟩ : Op)] : List (Op))), (([] : List (Op)))] : List (List (Op))) : List (List (Op)))).bind fun y419 => (if t355 = true then (if a0 < 0 then (patchworklaw10_FlipEach.j0 k a0 t355 y389 y419 true) else (patchworklaw10_FlipEach.j0 k a0 t355 y389 y419 (decide (a0 ≥ (y389.length : Int))))) else (patchworklaw10_FlipEach.j0 k a0 t355 y389 y419 true))))
theorem patchworklaw10_FlipEach.mono_l : ∀ k, (∀ y0 y1 y2 y3 y4, LeO (patchworklaw10_FlipEach.j0 k y0 y1 y2 y3 y4) (patchworklaw10_FlipEach.j0 (k + 1) y0 y1 y2 y3 y4))
  | 0 => fun _ _ _ _ _ r h => by simp [patchworklaw10_FlipEach.j0] at h
  | k + 1 => by
    have ih0 := patchworklaw10_FlipEach.mono_l k
    · intro y0 y1 y2 y3 y4
      unfold patchworklaw10_FlipEach.j0
      repeat' first
      | (with_reducible exact ih0 _ _ _ _ _)
      | (with_reducible exact flip_Ops.mono _ _)
      | (with_reducible exact patchworklaw10_alive.mono _)
      | (with_reducible exact patchworkref8_Same.mono _ _ _)
      | (with_reducible exact LeO.refl _)
      | (with_reducible exact LeO.none _)
      | (with_reducible refine LeO.ite ?_ ?_)
      | (with_reducible refine LeO.bind ?_ (fun _ => ?_))
      | exact ih0 _ _ _ _ _
      | exact flip_Ops.mono _ _
      | exact patchworklaw10_alive.mono _
      | exact patchworkref8_Same.mono _ _ _
      | exact LeO.none _
      | refine LeO.ite ?_ ?_
      | refine LeO.bind ?_ (fun _ => ?_)
theorem patchworklaw10_FlipEach.mono : ∀ a0 k, LeO (patchworklaw10_FlipEach.f k a0) (patchworklaw10_FlipEach.f (k + 1) a0) := by
  intro a0 k
  have ih0 := patchworklaw10_FlipEach.mono_l k
  unfold patchworklaw10_FlipEach.f
  repeat' first
      | (with_reducible exact ih0 _ _ _ _ _)
      | (with_reducible exact flip_Ops.mono _ _)
      | (with_reducible exact patchworklaw10_alive.mono _)
      | (with_reducible exact patchworkref8_Same.mono _ _ _)
      | (with_reducible exact LeO.refl _)
      | (with_reducible exact LeO.none _)
      | (with_reducible refine LeO.ite ?_ ?_)
      | (with_reducible refine LeO.bind ?_ (fun _ => ?_))
      | exact ih0 _ _ _ _ _
      | exact flip_Ops.mono _ _
      | exact patchworklaw10_alive.mono _
      | exact patchworkref8_Same.mono _ _ _
      | exact LeO.none _
      | refine LeO.ite ?_ ?_
      | refine LeO.bind ?_ (fun _ => ?_)
def patchworklaw10_FlipEach.T12 : Bool × List (List Nat × List Nat) := (true, [([], []), ([], []), ([0, 1], [0, 1]), ([2], [2]), ([3], [3]), ([], []), ([], []), ([5, 6], [5, 6]), ([7], [7]), ([4, 8, 4], [4, 8]), ([9, 9, 0, 1, 2, 3, 4, 5, 6, 7, 8, 9], [9])])
def patchworklaw10_FlipEach.B12 : List Nat := [0, 0, 3, 7, 15, 0, 0, 96, 224, 511, 1023]
theorem patchworklaw10_FlipEach.tab12 : rtab .any (opsOf Try.f6 12) = patchworklaw10_FlipEach.T12 := by kernel_rfl
theorem patchworklaw10_FlipEach.bits12 : waitsOk patchworklaw10_FlipEach.T12.2 patchworklaw10_FlipEach.B12 = true := by kernel_rfl

end Go.Proofs.Ythognikhmbabhaa.P
