-- PRINTED by print.py (a twelfth state) out of the translation. Not trusted: Lean checks it.
import Derived.Test.YthognikhmbabhaaD
namespace Go.Proofs.Ythognikhmbabhaa.P
open Go.RowKit Go.Proofs.YthognikhmbabhaaW.PrintWords Go.Proofs.YthognikhmbabhaaW.PrintLast Go.Proofs.YthognikhmbabhaaW.PrintMore
attribute [local go_sem] max2_int min2_int max_two min_two max_three min_three max_four min_four   -- for this text's walks alone
set_option linter.unusedVariables false
set_option linter.unusedSimpArgs false

mutual
def patchworklaw16_PickAll.j0 : Nat → List (Op) → List Bool → Bool → Bool → Option (Bool)
  | 0, _, _, _, _ => none
  | k + 1, x0, x1, x5, x34 => if x34 = true then (some x5) else (if 700 ≤ 281474976710656 then (patchworklaw16_PickAll.l0 k x0 x1 (List.replicate 700 false) 0) else (none))
def patchworklaw16_PickAll.l0 : Nat → List (Op) → List Bool → List Bool → Int → Option (Bool)
  | 0, _, _, _, _ => none
  | k + 1, x0, x1, x6, x7 => if x7 < (x6.length : Int) then (if 0 ≤ x7 then (patchworklaw16_PickAll.l0 k x0 x1 (x6.set (x7 : Int).toNat true) (wrap64 (x7 + 1))) else (none)) else ((patchworkref8_Norm.f k x0).bind fun t601 => ((pick_Ops.f k x0 x6).bind fun bt604 => ((pick_Ops.f k x0 ([] : List Bool)).bind fun bt610 => ((pick_Ops.f k x0 x1).bind fun bt616 => (patchworklaw16_PickAll.l1 k x0 x1 t601 bt604.1 bt604.2 bt610.1 bt610.2 bt616.1 bt616.2 0 0)))))
def patchworklaw16_PickAll.l1 : Nat → List (Op) → List Bool → List (Op) → List (Op) → List (Op) → List (Op) → List (Op) → List (Op) → List (Op) → Int → Int → Option (Bool)
  | 0, _, _, _, _, _, _, _, _, _, _, _ => none
  | k + 1, x0, x1, x8, x9, x10, x11, x12, x13, x14, x15, x16 => if x16 < (x1.length : Int) then ((patchworkref8_Changes.f k x0).bind fun t622 => (patchworklaw16_PickAll.j3 k x0 x1 x8 x9 x10 x11 x12 x13 x14 x15 x16 (decide (x16 < t622)))) else (patchworklaw16_PickAll.j3 k x0 x1 x8 x9 x10 x11 x12 x13 x14 x15 x16 false)
def patchworklaw16_PickAll.j3 : Nat → List (Op) → List Bool → List (Op) → List (Op) → List (Op) → List (Op) → List (Op) → List (Op) → List (Op) → Int → Int → Bool → Option (Bool)
  | 0, _, _, _, _, _, _, _, _, _, _, _, _ => none
  | k + 1, x0, x1, x8, x9, x10, x11, x12, x13, x14, x15, x16, x74 => if x74 = true then (if 0 ≤ x16 then (if x16 < (x1.length : Int) then (if rdOf false x1 x16 = true then (patchworklaw16_PickAll.l1 k x0 x1 x8 x9 x10 x11 x12 x13 x14 (wrap64 (x15 + 1)) (wrap64 (x16 + 1))) else (patchworklaw16_PickAll.l1 k x0 x1 x8 x9 x10 x11 x12 x13 x14 x15 (wrap64 (x16 + 1)))) else (none)) else (none)) else ((patchworkref8_Same.f k x9 x8).bind fun t624 => (if t624 = true then ((patchworkref8_Changes.f k x10).bind fun t625 => (if t625 = 0 then ((patchworkref8_Changes.f k x11).bind fun t626 => (if t626 = 0 then ((patchworkref8_Same.f k x12 x8).bind fun t627 => (patchworklaw16_PickAll.j4 k x0 x13 x14 x15 (!t627))) else (patchworklaw16_PickAll.j4 k x0 x13 x14 x15 true))) else (patchworklaw16_PickAll.j4 k x0 x13 x14 x15 true))) else (patchworklaw16_PickAll.j4 k x0 x13 x14 x15 true)))
def patchworklaw16_PickAll.j4 : Nat → List (Op) → List (Op) → List (Op) → Int → Bool → Option (Bool)
  | 0, _, _, _, _, _ => none
  | k + 1, x0, x13, x14, x15, x102 => if x102 = true then (some false) else (if (x13.length : Int) = 0 then (if (x14.length : Int) = 0 then (some true) else ((patchworkref8_Changes.f k x13).bind fun t628 => (if t628 = x15 then ((patchworkref8_Changes.f k x14).bind fun t629 => ((patchworkref8_Changes.f k x0).bind fun t630 => (some (t629 == (wrap64 (t630 - x15)))))) else (some false)))) else ((patchworkref8_Changes.f k x13).bind fun t631 => (if t631 = x15 then ((patchworkref8_Changes.f k x14).bind fun t632 => ((patchworkref8_Changes.f k x0).bind fun t633 => (some (t632 == (wrap64 (t633 - x15)))))) else (some false))))
end
def patchworklaw16_PickAll.f (k : Nat) (l0 : List (Op)) (l1 : List Bool) : Option (Bool) := (patchworklaw16_alive.f k).bind fun t594 => (if t594 = true then ((patchworklaw8_Few.f k l0).bind fun t595 => (if t595 = true then ((patchworkref8_Right.f k l0).bind fun t596 => (if t596 = true then (patchworklaw16_PickAll.j0 k l0 l1 t594 (decide ((l1.length : Int) > 600))) else (patchworklaw16_PickAll.j0 k l0 l1 t594 true))) else (patchworklaw16_PickAll.j0 k l0 l1 t594 true))) else (patchworklaw16_PickAll.j0 k l0 l1 t594 true))
theorem patchworklaw16_PickAll.mono_l : ∀ k, (∀ y0 y1 y2 y3, LeO (patchworklaw16_PickAll.j0 k y0 y1 y2 y3) (patchworklaw16_PickAll.j0 (k + 1) y0 y1 y2 y3)) ∧ (∀ y0 y1 y2 y3, LeO (patchworklaw16_PickAll.l0 k y0 y1 y2 y3) (patchworklaw16_PickAll.l0 (k + 1) y0 y1 y2 y3)) ∧ (∀ y0 y1 y2 y3 y4 y5 y6 y7 y8 y9 y10, LeO (patchworklaw16_PickAll.l1 k y0 y1 y2 y3 y4 y5 y6 y7 y8 y9 y10) (patchworklaw16_PickAll.l1 (k + 1) y0 y1 y2 y3 y4 y5 y6 y7 y8 y9 y10)) ∧ (∀ y0 y1 y2 y3 y4 y5 y6 y7 y8 y9 y10 y11, LeO (patchworklaw16_PickAll.j3 k y0 y1 y2 y3 y4 y5 y6 y7 y8 y9 y10 y11) (patchworklaw16_PickAll.j3 (k + 1) y0 y1 y2 y3 y4 y5 y6 y7 y8 y9 y10 y11)) ∧ (∀ y0 y1 y2 y3 y4, LeO (patchworklaw16_PickAll.j4 k y0 y1 y2 y3 y4) (patchworklaw16_PickAll.j4 (k + 1) y0 y1 y2 y3 y4))
  | 0 => ⟨fun _ _ _ _ r h => by simp [patchworklaw16_PickAll.j0] at h, fun _ _ _ _ r h => by simp [patchworklaw16_PickAll.l0] at h, fun _ _ _ _ _ _ _ _ _ _ _ r h => by simp [patchworklaw16_PickAll.l1] at h, fun _ _ _ _ _ _ _ _ _ _ _ _ r h => by simp [patchworklaw16_PickAll.j3] at h, fun _ _ _ _ _ r h => by simp [patchworklaw16_PickAll.j4] at h⟩
  | k + 1 => by
    obtain ⟨ih0, ih1, ih2, ih3, ih4⟩ := patchworklaw16_PickAll.mono_l k
    refine ⟨?_, ?_, ?_, ?_, ?_⟩
    · intro y0 y1 y2 y3
      unfold patchworklaw16_PickAll.j0
      repeat' first
      | (with_reducible exact ih0 _ _ _ _)
      | (with_reducible exact ih1 _ _ _ _)
      | (with_reducible exact ih2 _ _ _ _ _ _ _ _ _ _ _)
      | (with_reducible exact ih3 _ _ _ _ _ _ _ _ _ _ _ _)
      | (with_reducible exact ih4 _ _ _ _ _)
      | (with_reducible exact patchworklaw16_alive.mono _)
      | (with_reducible exact patchworklaw8_Few.mono _ _)
      | (with_reducible exact patchworkref8_Changes.mono _ _)
      | (with_reducible exact patchworkref8_Norm.mono _ _)
      | (with_reducible exact patchworkref8_Right.mono _ _)
      | (with_reducible exact patchworkref8_Same.mono _ _ _)
      | (with_reducible exact pick_Ops.mono _ _ _)
      | (with_reducible exact LeO.refl _)
      | (with_reducible exact LeO.none _)
      | (with_reducible refine LeO.ite ?_ ?_)
      | (with_reducible refine LeO.bind ?_ (fun _ => ?_))
      | exact ih0 _ _ _ _
      | exact ih1 _ _ _ _
      | exact ih2 _ _ _ _ _ _ _ _ _ _ _
      | exact ih3 _ _ _ _ _ _ _ _ _ _ _ _
      | exact ih4 _ _ _ _ _
      | exact patchworklaw16_alive.mono _
      | exact patchworklaw8_Few.mono _ _
      | exact patchworkref8_Changes.mono _ _
      | exact patchworkref8_Norm.mono _ _
      | exact patchworkref8_Right.mono _ _
      | exact patchworkref8_Same.mono _ _ _
      | exact pick_Ops.mono _ _ _
      | exact LeO.none _
      | refine LeO.ite ?_ ?_
      | refine LeO.bind ?_ (fun _ => ?_)
    · intro y0 y1 y2 y3
      unfold patchworklaw16_PickAll.l0
      repeat' first
      | (with_reducible exact ih0 _ _ _ _)
      | (with_reducible exact ih1 _ _ _ _)
      | (with_reducible exact ih2 _ _ _ _ _ _ _ _ _ _ _)
      | (with_reducible exact ih3 _ _ _ _ _ _ _ _ _ _ _ _)
      | (with_reducible exact ih4 _ _ _ _ _)
      | (with_reducible exact patchworklaw16_alive.mono _)
      | (with_reducible exact patchworklaw8_Few.mono _ _)
      | (with_reducible exact patchworkref8_Changes.mono _ _)
      | (with_reducible exact patchworkref8_Norm.mono _ _)
      | (with_reducible exact patchworkref8_Right.mono _ _)
      | (with_reducible exact patchworkref8_Same.mono _ _ _)
      | (with_reducible exact pick_Ops.mono _ _ _)
      | (with_reducible exact LeO.refl _)
      | (with_reducible exact LeO.none _)
      | (with_reducible refine LeO.ite ?_ ?_)
      | (with_reducible refine LeO.bind ?_ (fun _ => ?_))
      | exact ih0 _ _ _ _
      | exact ih1 _ _ _ _
      | exact ih2 _ _ _ _ _ _ _ _ _ _ _
      | exact ih3 _ _ _ _ _ _ _ _ _ _ _ _
      | exact ih4 _ _ _ _ _
      | exact patchworklaw16_alive.mono _
      | exact patchworklaw8_Few.mono _ _
      | exact patchworkref8_Changes.mono _ _
      | exact patchworkref8_Norm.mono _ _
      | exact patchworkref8_Right.mono _ _
      | exact patchworkref8_Same.mono _ _ _
      | exact pick_Ops.mono _ _ _
      | exact LeO.none _
      | refine LeO.ite ?_ ?_
      | refine LeO.bind ?_ (fun _ => ?_)
    · intro y0 y1 y2 y3 y4 y5 y6 y7 y8 y9 y10
      unfold patchworklaw16_PickAll.l1
      repeat' first
      | (with_reducible exact ih0 _ _ _ _)
      | (with_reducible exact ih1 _ _ _ _)
      | (with_reducible exact ih2 _ _ _ _ _ _ _ _ _ _ _)
      | (with_reducible exact ih3 _ _ _ _ _ _ _ _ _ _ _ _)
      | (with_reducible exact ih4 _ _ _ _ _)
      | (with_reducible exact patchworklaw16_alive.mono _)
      | (with_reducible exact patchworklaw8_Few.mono _ _)
      | (with_reducible exact patchworkref8_Changes.mono _ _)
      | (with_reducible exact patchworkref8_Norm.mono _ _)
      | (with_reducible exact patchworkref8_Right.mono _ _)
      | (with_reducible exact patchworkref8_Same.mono _ _ _)
      | (with_reducible exact pick_Ops.mono _ _ _)
      | (with_reducible exact LeO.refl _)
      | (with_reducible exact LeO.none _)
      | (with_reducible refine LeO.ite ?_ ?_)
      | (with_reducible refine LeO.bind ?_ (fun _ => ?_))
      | exact ih0 _ _ _ _
      | exact ih1 _ _ _ _
      | exact ih2 _ _ _ _ _ _ _ _ _ _ _
      | exact ih3 _ _ _ _ _ _ _ _ _ _ _ _
      | exact ih4 _ _ _ _ _
      | exact patchworklaw16_alive.mono _
      | exact patchworklaw8_Few.mono _ _
      | exact patchworkref8_Changes.mono _ _
      | exact patchworkref8_Norm.mono _ _
      | exact patchworkref8_Right.mono _ _
      | exact patchworkref8_Same.mono _ _ _
      | exact pick_Ops.mono _ _ _
      | exact LeO.none _
      | refine LeO.ite ?_ ?_
      | refine LeO.bind ?_ (fun _ => ?_)
    · intro y0 y1 y2 y3 y4 y5 y6 y7 y8 y9 y10 y11
      unfold patchworklaw16_PickAll.j3
      repeat' first
      | (with_reducible exact ih0 _ _ _ _)
      | (with_reducible exact ih1 _ _ _ _)
      | (with_reducible exact ih2 _ _ _ _ _ _ _ _ _ _ _)
      | (with_reducible exact ih3 _ _ _ _ _ _ _ _ _ _ _ _)
      | (with_reducible exact ih4 _ _ _ _ _)
      | (with_reducible exact patchworklaw16_alive.mono _)
      | (with_reducible exact patchworklaw8_Few.mono _ _)
      | (with_reducible exact patchworkref8_Changes.mono _ _)
      | (with_reducible exact patchworkref8_Norm.mono _ _)
      | (with_reducible exact patchworkref8_Right.mono _ _)
      | (with_reducible exact patchworkref8_Same.mono _ _ _)
      | (with_reducible exact pick_Ops.mono _ _ _)
      | (with_reducible exact LeO.refl _)
      | (with_reducible exact LeO.none _)
      | (with_reducible refine LeO.ite ?_ ?_)
      | (with_reducible refine LeO.bind ?_ (fun _ => ?_))
      | exact ih0 _ _ _ _
      | exact ih1 _ _ _ _
      | exact ih2 _ _ _ _ _ _ _ _ _ _ _
      | exact ih3 _ _ _ _ _ _ _ _ _ _ _ _
      | exact ih4 _ _ _ _ _
      | exact patchworklaw16_alive.mono _
      | exact patchworklaw8_Few.mono _ _
      | exact patchworkref8_Changes.mono _ _
      | exact patchworkref8_Norm.mono _ _
      | exact patchworkref8_Right.mono _ _
      | exact patchworkref8_Same.mono _ _ _
      | exact pick_Ops.mono _ _ _
      | exact LeO.none _
      | refine LeO.ite ?_ ?_
      | refine LeO.bind ?_ (fun _ => ?_)
    · intro y0 y1 y2 y3 y4
      unfold patchworklaw16_PickAll.j4
      repeat' first
      | (with_reducible exact ih0 _ _ _ _)
      | (with_reducible exact ih1 _ _ _ _)
      | (with_reducible exact ih2 _ _ _ _ _ _ _ _ _ _ _)
      | (with_reducible exact ih3 _ _ _ _ _ _ _ _ _ _ _ _)
      | (with_reducible exact ih4 _ _ _ _ _)
      | (with_reducible exact patchworklaw16_alive.mono _)
      | (with_reducible exact patchworklaw8_Few.mono _ _)
      | (with_reducible exact patchworkref8_Changes.mono _ _)
      | (with_reducible exact patchworkref8_Norm.mono _ _)
      | (with_reducible exact patchworkref8_Right.mono _ _)
      | (with_reducible exact patchworkref8_Same.mono _ _ _)
      | (with_reducible exact pick_Ops.mono _ _ _)
      | (with_reducible exact LeO.refl _)
      | (with_reducible exact LeO.none _)
      | (with_reducible refine LeO.ite ?_ ?_)
      | (with_reducible refine LeO.bind ?_ (fun _ => ?_))
      | exact ih0 _ _ _ _
      | exact ih1 _ _ _ _
      | exact ih2 _ _ _ _ _ _ _ _ _ _ _
      | exact ih3 _ _ _ _ _ _ _ _ _ _ _ _
      | exact ih4 _ _ _ _ _
      | exact patchworklaw16_alive.mono _
      | exact patchworklaw8_Few.mono _ _
      | exact patchworkref8_Changes.mono _ _
      | exact patchworkref8_Norm.mono _ _
      | exact patchworkref8_Right.mono _ _
      | exact patchworkref8_Same.mono _ _ _
      | exact pick_Ops.mono _ _ _
      | exact LeO.none _
      | refine LeO.ite ?_ ?_
      | refine LeO.bind ?_ (fun _ => ?_)
theorem patchworklaw16_PickAll.mono : ∀ a0 a1 k, LeO (patchworklaw16_PickAll.f k a0 a1) (patchworklaw16_PickAll.f (k + 1) a0 a1) := by
  intro a0 a1 k
  obtain ⟨ih0, ih1, ih2, ih3, ih4⟩ := patchworklaw16_PickAll.mono_l k
  unfold patchworklaw16_PickAll.f
  repeat' first
      | (with_reducible exact ih0 _ _ _ _)
      | (with_reducible exact ih1 _ _ _ _)
      | (with_reducible exact ih2 _ _ _ _ _ _ _ _ _ _ _)
      | (with_reducible exact ih3 _ _ _ _ _ _ _ _ _ _ _ _)
      | (with_reducible exact ih4 _ _ _ _ _)
      | (with_reducible exact patchworklaw16_alive.mono _)
      | (with_reducible exact patchworklaw8_Few.mono _ _)
      | (with_reducible exact patchworkref8_Changes.mono _ _)
      | (with_reducible exact patchworkref8_Norm.mono _ _)
      | (with_reducible exact patchworkref8_Right.mono _ _)
      | (with_reducible exact patchworkref8_Same.mono _ _ _)
      | (with_reducible exact pick_Ops.mono _ _ _)
      | (with_reducible exact LeO.refl _)
      | (with_reducible exact LeO.none _)
      | (with_reducible refine LeO.ite ?_ ?_)
      | (with_reducible refine LeO.bind ?_ (fun _ => ?_))
      | exact ih0 _ _ _ _
      | exact ih1 _ _ _ _
      | exact ih2 _ _ _ _ _ _ _ _ _ _ _
      | exact ih3 _ _ _ _ _ _ _ _ _ _ _ _
      | exact ih4 _ _ _ _ _
      | exact patchworklaw16_alive.mono _
      | exact patchworklaw8_Few.mono _ _
      | exact patchworkref8_Changes.mono _ _
      | exact patchworkref8_Norm.mono _ _
      | exact patchworkref8_Right.mono _ _
      | exact patchworkref8_Same.mono _ _ _
      | exact pick_Ops.mono _ _ _
      | exact LeO.none _
      | refine LeO.ite ?_ ?_
      | refine LeO.bind ?_ (fun _ => ?_)

end Go.Proofs.Ythognikhmbabhaa.P
