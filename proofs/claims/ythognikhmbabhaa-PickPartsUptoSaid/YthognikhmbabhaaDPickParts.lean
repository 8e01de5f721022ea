-- PRINTED by print.py (a twelfth state) out of the translation. Not trusted: Lean checks it.
import Derived.Test.YthognikhmbabhaaD
namespace Go.Proofs.Ythognikhmbabhaa.P
open Go.RowKit Go.Proofs.YthognikhmbabhaaW.PrintWords Go.Proofs.YthognikhmbabhaaW.PrintLast Go.Proofs.YthognikhmbabhaaW.PrintMore
attribute [local go_sem] max2_int min2_int max_two min_two max_three min_three max_four min_four   -- for this text's walks alone
set_option linter.unusedVariables false
set_option linter.unusedSimpArgs false

mutual
def patchworklaw16_PickParts.j0 : Nat → List (Op) → List Bool → List Bool → Bool → Bool → Option (Bool)
  | 0, _, _, _, _, _ => none
  | k + 1, x0, x1, x2, x7, x43 => if x43 = true then (some x7) else (if 0 ≤ (x2.length : Int) then (if ((x2.length : Int) : Int).toNat ≤ 281474976710656 then ((patchworkref8_Changes.f k x0).bind fun t650 => (patchworklaw16_PickParts.l0 k x0 x1 x2 (List.replicate ((x2.length : Int) : Int).toNat false) ([] : List Bool) t650 0)) else (none)) else (none))
def patchworklaw16_PickParts.l0 : Nat → List (Op) → List Bool → List Bool → List Bool → List Bool → Int → Int → Option (Bool)
  | 0, _, _, _, _, _, _, _ => none
  | k + 1, x0, x1, x2, x8, x9, x10, x11 => if x11 < (x2.length : Int) then (if x11 < (x1.length : Int) then (if 0 ≤ x11 then (if rdOf false x2 x11 = true then (if x11 < (x8.length : Int) then ((some (x8.set (x11 : Int).toNat true : List Bool)).bind fun y653 => (if rdOf false y653 x11 = true then (if x11 < x10 then (if x9.length < 140737488355328 then (patchworklaw16_PickParts.l0 k x0 x1 x2 y653 (x9 ++ [rdOf false x1 x11]) x10 (wrap64 (x11 + 1))) else (none)) else (patchworklaw16_PickParts.l0 k x0 x1 x2 y653 x9 x10 (wrap64 (x11 + 1)))) else (patchworklaw16_PickParts.l0 k x0 x1 x2 y653 x9 x10 (wrap64 (x11 + 1))))) else (none)) else (if x11 < (x8.length : Int) then ((some (x8.set (x11 : Int).toNat (rdOf false x1 x11) : List Bool)).bind fun y658 => (if rdOf false y658 x11 = true then (if x11 < x10 then (if x9.length < 140737488355328 then (patchworklaw16_PickParts.l0 k x0 x1 x2 y658 (x9 ++ [rdOf false x1 x11]) x10 (wrap64 (x11 + 1))) else (none)) else (patchworklaw16_PickParts.l0 k x0 x1 x2 y658 x9 x10 (wrap64 (x11 + 1)))) else (patchworklaw16_PickParts.l0 k x0 x1 x2 y658 x9 x10 (wrap64 (x11 + 1))))) else (none))) else (none)) else (if 0 ≤ x11 then (if rdOf false x2 x11 = true then (if x11 < (x8.length : Int) then ((some (x8.set (x11 : Int).toNat true : List Bool)).bind fun y664 => (if rdOf false y664 x11 = true then (if x11 < x10 then (if x9.length < 140737488355328 then (patchworklaw16_PickParts.l0 k x0 x1 x2 y664 (x9 ++ [false]) x10 (wrap64 (x11 + 1))) else (none)) else (patchworklaw16_PickParts.l0 k x0 x1 x2 y664 x9 x10 (wrap64 (x11 + 1)))) else (patchworklaw16_PickParts.l0 k x0 x1 x2 y664 x9 x10 (wrap64 (x11 + 1))))) else (none)) else (if x11 < (x8.length : Int) then ((some (x8.set (x11 : Int).toNat false : List Bool)).bind fun y669 => (if rdOf false y669 x11 = true then (if x11 < x10 then (if x9.length < 140737488355328 then (patchworklaw16_PickParts.l0 k x0 x1 x2 y669 (x9 ++ [false]) x10 (wrap64 (x11 + 1))) else (none)) else (patchworklaw16_PickParts.l0 k x0 x1 x2 y669 x9 x10 (wrap64 (x11 + 1)))) else (patchworklaw16_PickParts.l0 k x0 x1 x2 y669 x9 x10 (wrap64 (x11 + 1))))) else (none))) else (none))) else ((pick_Ops.f k x0 x8).bind fun bt674 => (if (bt674.1.length : Int) = 0 then (patchworklaw16_PickParts.j2 k x0 x1 x9 bt674.1 ((bt674.2.length : Int) == 0)) else (patchworklaw16_PickParts.j2 k x0 x1 x9 bt674.1 false)))
def patchworklaw16_PickParts.j2 : Nat → List (Op) → List Bool → List Bool → List (Op) → Bool → Option (Bool)
  | 0, _, _, _, _, _ => none
  | k + 1, x0, x1, x9, x13, x102 => if x102 = true then (some true) else ((pick_Ops.f k x13 x9).bind fun bt680 => ((pick_Ops.f k x0 x1).bind fun bt686 => (if (bt680.1.length : Int) = 0 then (if (bt680.2.length : Int) = 0 then (some true) else (if (bt686.1.length : Int) = 0 then (if (bt686.2.length : Int) = 0 then (some true) else ((patchworkref8_Same.f k bt680.1 bt686.1).bind fun t692 => (some t692))) else ((patchworkref8_Same.f k bt680.1 bt686.1).bind fun t693 => (some t693)))) else (if (bt686.1.length : Int) = 0 then (if (bt686.2.length : Int) = 0 then (some true) else ((patchworkref8_Same.f k bt680.1 bt686.1).bind fun t694 => (some t694))) else ((patchworkref8_Same.f k bt680.1 bt686.1).bind fun t695 => (some t695))))))
end
def patchworklaw16_PickParts.f (k : Nat) (l0 : List (Op)) (l1 : List Bool) (l2 : List Bool) : Option (Bool) := (patchworklaw16_alive.f k).bind fun t644 => (if t644 = true then ((patchworklaw8_Few.f k l0).bind fun t645 => (if t645 = true then ((patchworkref8_Right.f k l0).bind fun t646 => (if t646 = true then (if (l1.length : Int) > 600 then (patchworklaw16_PickParts.j0 k l0 l1 l2 t644 true) else (patchworklaw16_PickParts.j0 k l0 l1 l2 t644 (decide ((l2.length : Int) < (l1.length : Int))))) else (patchworklaw16_PickParts.j0 k l0 l1 l2 t644 true))) else (patchworklaw16_PickParts.j0 k l0 l1 l2 t644 true))) else (patchworklaw16_PickParts.j0 k l0 l1 l2 t644 true))
theorem patchworklaw16_PickParts.mono_l : ∀ k, (∀ y0 y1 y2 y3 y4, LeO (patchworklaw16_PickParts.j0 k y0 y1 y2 y3 y4) (patchworklaw16_PickParts.j0 (k + 1) y0 y1 y2 y3 y4)) ∧ (∀ y0 y1 y2 y3 y4 y5 y6, LeO (patchworklaw16_PickParts.l0 k y0 y1 y2 y3 y4 y5 y6) (patchworklaw16_PickParts.l0 (k + 1) y0 y1 y2 y3 y4 y5 y6)) ∧ (∀ y0 y1 y2 y3 y4, LeO (patchworklaw16_PickParts.j2 k y0 y1 y2 y3 y4) (patchworklaw16_PickParts.j2 (k + 1) y0 y1 y2 y3 y4))
  | 0 => ⟨fun _ _ _ _ _ r h => by simp [patchworklaw16_PickParts.j0] at h, fun _ _ _ _ _ _ _ r h => by simp [patchworklaw16_PickParts.l0] at h, fun _ _ _ _ _ r h => by simp [patchworklaw16_PickParts.j2] at h⟩
  | k + 1 => by
    obtain ⟨ih0, ih1, ih2⟩ := patchworklaw16_PickParts.mono_l k
    refine ⟨?_, ?_, ?_⟩
    · intro y0 y1 y2 y3 y4
      unfold patchworklaw16_PickParts.j0
      repeat' first
      | (with_reducible exact ih0 _ _ _ _ _)
      | (with_reducible exact ih1 _ _ _ _ _ _ _)
      | (with_reducible exact ih2 _ _ _ _ _)
      | (with_reducible exact patchworklaw16_alive.mono _)
      | (with_reducible exact patchworklaw8_Few.mono _ _)
      | (with_reducible exact patchworkref8_Changes.mono _ _)
      | (with_reducible exact patchworkref8_Right.mono _ _)
      | (with_reducible exact patchworkref8_Same.mono _ _ _)
      | (with_reducible exact pick_Ops.mono _ _ _)
      | (with_reducible exact LeO.refl _)
      | (with_reducible exact LeO.none _)
      | (with_reducible refine LeO.ite ?_ ?_)
      | (with_reducible refine LeO.bind ?_ (fun _ => ?_))
      | exact ih0 _ _ _ _ _
      | exact ih1 _ _ _ _ _ _ _
      | exact ih2 _ _ _ _ _
      | exact patchworklaw16_alive.mono _
      | exact patchworklaw8_Few.mono _ _
      | exact patchworkref8_Changes.mono _ _
      | exact patchworkref8_Right.mono _ _
      | exact patchworkref8_Same.mono _ _ _
      | exact pick_Ops.mono _ _ _
      | exact LeO.none _
      | refine LeO.ite ?_ ?_
      | refine LeO.bind ?_ (fun _ => ?_)
    · intro y0 y1 y2 y3 y4 y5 y6
      unfold patchworklaw16_PickParts.l0
      repeat' first
      | (with_reducible exact ih0 _ _ _ _ _)
      | (with_reducible exact ih1 _ _ _ _ _ _ _)
      | (with_reducible exact ih2 _ _ _ _ _)
      | (with_reducible exact patchworklaw16_alive.mono _)
      | (with_reducible exact patchworklaw8_Few.mono _ _)
      | (with_reducible exact patchworkref8_Changes.mono _ _)
      | (with_reducible exact patchworkref8_Right.mono _ _)
      | (with_reducible exact patchworkref8_Same.mono _ _ _)
      | (with_reducible exact pick_Ops.mono _ _ _)
      | (with_reducible exact LeO.refl _)
      | (with_reducible exact LeO.none _)
      | (with_reducible refine LeO.ite ?_ ?_)
      | (with_reducible refine LeO.bind ?_ (fun _ => ?_))
      | exact ih0 _ _ _ _ _
      | exact ih1 _ _ _ _ _ _ _
      | exact ih2 _ _ _ _ _
      | exact patchworklaw16_alive.mono _
      | exact patchworklaw8_Few.mono _ _
      | exact patchworkref8_Changes.mono _ _
      | exact patchworkref8_Right.mono _ _
      | exact patchworkref8_Same.mono _ _ _
      | exact pick_Ops.mono _ _ _
      | exact LeO.none _
      | refine LeO.ite ?_ ?_
      | refine LeO.bind ?_ (fun _ => ?_)
    · intro y0 y1 y2 y3 y4
      unfold patchworklaw16_PickParts.j2
      repeat' first
      | (with_reducible exact ih0 _ _ _ _ _)
      | (with_reducible exact ih1 _ _ _ _ _ _ _)
      | (with_reducible exact ih2 _ _ _ _ _)
      | (with_reducible exact patchworklaw16_alive.mono _)
      | (with_reducible exact patchworklaw8_Few.mono _ _)
      | (with_reducible exact patchworkref8_Changes.mono _ _)
      | (with_reducible exact patchworkref8_Right.mono _ _)
      | (with_reducible exact patchworkref8_Same.mono _ _ _)
      | (with_reducible exact pick_Ops.mono _ _ _)
      | (with_reducible exact LeO.refl _)
      | (with_reducible exact LeO.none _)
      | (with_reducible refine LeO.ite ?_ ?_)
      | (with_reducible refine LeO.bind ?_ (fun _ => ?_))
      | exact ih0 _ _ _ _ _
      | exact ih1 _ _ _ _ _ _ _
      | exact ih2 _ _ _ _ _
      | exact patchworklaw16_alive.mono _
      | exact patchworklaw8_Few.mono _ _
      | exact patchworkref8_Changes.mono _ _
      | exact patchworkref8_Right.mono _ _
      | exact patchworkref8_Same.mono _ _ _
      | exact pick_Ops.mono _ _ _
      | exact LeO.none _
      | refine LeO.ite ?_ ?_
      | refine LeO.bind ?_ (fun _ => ?_)
theorem patchworklaw16_PickParts.mono : ∀ a0 a1 a2 k, LeO (patchworklaw16_PickParts.f k a0 a1 a2) (patchworklaw16_PickParts.f (k + 1) a0 a1 a2) := by
  intro a0 a1 a2 k
  obtain ⟨ih0, ih1, ih2⟩ := patchworklaw16_PickParts.mono_l k
  unfold patchworklaw16_PickParts.f
  repeat' first
      | (with_reducible exact ih0 _ _ _ _ _)
      | (with_reducible exact ih1 _ _ _ _ _ _ _)
      | (with_reducible exact ih2 _ _ _ _ _)
      | (with_reducible exact patchworklaw16_alive.mono _)
      | (with_reducible exact patchworklaw8_Few.mono _ _)
      | (with_reducible exact patchworkref8_Changes.mono _ _)
      | (with_reducible exact patchworkref8_Right.mono _ _)
      | (with_reducible exact patchworkref8_Same.mono _ _ _)
      | (with_reducible exact pick_Ops.mono _ _ _)
      | (with_reducible exact LeO.refl _)
      | (with_reducible exact LeO.none _)
      | (with_reducible refine LeO.ite ?_ ?_)
      | (with_reducible refine LeO.bind ?_ (fun _ => ?_))
      | exact ih0 _ _ _ _ _
      | exact ih1 _ _ _ _ _ _ _
      | exact ih2 _ _ _ _ _
      | exact patchworklaw16_alive.mono _
      | exact patchworklaw8_Few.mono _ _
      | exact patchworkref8_Changes.mono _ _
      | exact patchworkref8_Right.mono _ _
      | exact patchworkref8_Same.mono _ _ _
      | exact pick_Ops.mono _ _ _
      | exact LeO.none _
      | refine LeO.ite ?_ ?_
      | refine LeO.bind ?_ (fun _ => ?_)

end Go.Proofs.Ythognikhmbabhaa.P
