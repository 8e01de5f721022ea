-- PRINTED by print.py (a twelfth state) out of the translation. Not trusted: Lean checks it.
import Derived.Test.YthognikhmbabhaaD
namespace Go.Proofs.Ythognikhmbabhaa.P
open Go.RowKit Go.Proofs.YthognikhmbabhaaW.PrintWords Go.Proofs.YthognikhmbabhaaW.PrintLast Go.Proofs.YthognikhmbabhaaW.PrintMore
attribute [local go_sem] max2_int min2_int max_two min_two max_three min_three max_four min_four   -- for this text's walks alone
set_option linter.unusedVariables false
set_option linter.unusedSimpArgs false

mutual
def patchworklaw16_PickDoes.j0 : Nat → List (Op) → List Bool → List ByteArray → Bool → List ByteArray → Bool → Option (Bool)
  | 0, _, _, _, _, _, _ => none
  | k + 1, x0, x1, x2, x7, x8, x43 => if x43 = true then (some x7) else ((pick_Ops.f k x0 x1).bind fun bt577 => (if (bt577.1.length : Int) = 0 then (patchworklaw16_PickDoes.j1 k x2 x8 bt577.1 bt577.2 ((bt577.2.length : Int) == 0)) else (patchworklaw16_PickDoes.j1 k x2 x8 bt577.1 bt577.2 false)))
def patchworklaw16_PickDoes.j1 : Nat → List ByteArray → List ByteArray → List (Op) → List (Op) → Bool → Option (Bool)
  | 0, _, _, _, _, _ => none
  | k + 1, x2, x8, x10, x11, x58 => if x58 = true then (some true) else ((patchworkref8_Do.f k x10 x2).bind fun bt583 => ((patchworkref8_Do.f k x11 bt583.1).bind fun bt587 => (if bt583.2 = true then (if bt587.2 = true then ((patchworkref1_SameTexts.f k x8 bt587.1).bind fun t591 => (some t591)) else (some false)) else (some false))))
end
def patchworklaw16_PickDoes.f (k : Nat) (l0 : List (Op)) (l1 : List Bool) (l2 : List ByteArray) : Option (Bool) := (patchworklaw16_alive.f k).bind fun t570 => ((patchworkref8_Do.f k l0 l2).bind fun bt571 => (if t570 = true then ((patchworklaw8_Few.f k l0).bind fun t575 => (if t575 = true then (if (l1.length : Int) > 600 then (patchworklaw16_PickDoes.j0 k l0 l1 l2 t570 bt571.1 true) else ((patchworklaw9_Short.f k l2).bind fun t576 => (if t576 = true then (patchworklaw16_PickDoes.j0 k l0 l1 l2 t570 bt571.1 (!bt571.2)) else (patchworklaw16_PickDoes.j0 k l0 l1 l2 t570 bt571.1 true)))) else (patchworklaw16_PickDoes.j0 k l0 l1 l2 t570 bt571.1 true))) else (patchworklaw16_PickDoes.j0 k l0 l1 l2 t570 bt571.1 true)))
theorem patchworklaw16_PickDoes.mono_l : ∀ k, (∀ y0 y1 y2 y3 y4 y5, LeO (patchworklaw16_PickDoes.j0 k y0 y1 y2 y3 y4 y5) (patchworklaw16_PickDoes.j0 (k + 1) y0 y1 y2 y3 y4 y5)) ∧ (∀ y0 y1 y2 y3 y4, LeO (patchworklaw16_PickDoes.j1 k y0 y1 y2 y3 y4) (patchworklaw16_PickDoes.j1 (k + 1) y0 y1 y2 y3 y4))
  | 0 => ⟨fun _ _ _ _ _ _ r h => by simp [patchworklaw16_PickDoes.j0] at h, fun _ _ _ _ _ r h => by simp [patchworklaw16_PickDoes.j1] at h⟩
  | k + 1 => by
    obtain ⟨ih0, ih1⟩ := patchworklaw16_PickDoes.mono_l k
    refine ⟨?_, ?_⟩
    · intro y0 y1 y2 y3 y4 y5
      unfold patchworklaw16_PickDoes.j0
      repeat' first
      | (with_reducible exact ih0 _ _ _ _ _ _)
      | (with_reducible exact ih1 _ _ _ _ _)
      | (with_reducible exact patchworklaw16_alive.mono _)
      | (with_reducible exact patchworklaw8_Few.mono _ _)
      | (with_reducible exact patchworklaw9_Short.mono _ _)
      | (with_reducible exact patchworkref1_SameTexts.mono _ _ _)
      | (with_reducible exact patchworkref8_Do.mono _ _ _)
      | (with_reducible exact pick_Ops.mono _ _ _)
      | (with_reducible exact LeO.refl _)
      | (with_reducible exact LeO.none _)
      | (with_reducible refine LeO.ite ?_ ?_)
      | (with_reducible refine LeO.bind ?_ (fun _ => ?_))
      | exact ih0 _ _ _ _ _ _
      | exact ih1 _ _ _ _ _
      | exact patchworklaw16_alive.mono _
      | exact patchworklaw8_Few.mono _ _
      | exact patchworklaw9_Short.mono _ _
      | exact patchworkref1_SameTexts.mono _ _ _
      | exact patchworkref8_Do.mono _ _ _
      | exact pick_Ops.mono _ _ _
      | exact LeO.none _
      | refine LeO.ite ?_ ?_
      | refine LeO.bind ?_ (fun _ => ?_)
    · intro y0 y1 y2 y3 y4
      unfold patchworklaw16_PickDoes.j1
      repeat' first
      | (with_reducible exact ih0 _ _ _ _ _ _)
      | (with_reducible exact ih1 _ _ _ _ _)
      | (with_reducible exact patchworklaw16_alive.mono _)
      | (with_reducible exact patchworklaw8_Few.mono _ _)
      | (with_reducible exact patchworklaw9_Short.mono _ _)
      | (with_reducible exact patchworkref1_SameTexts.mono _ _ _)
      | (with_reducible exact patchworkref8_Do.mono _ _ _)
      | (with_reducible exact pick_Ops.mono _ _ _)
      | (with_reducible exact LeO.refl _)
      | (with_reducible exact LeO.none _)
      | (with_reducible refine LeO.ite ?_ ?_)
      | (with_reducible refine LeO.bind ?_ (fun _ => ?_))
      | exact ih0 _ _ _ _ _ _
      | exact ih1 _ _ _ _ _
      | exact patchworklaw16_alive.mono _
      | exact patchworklaw8_Few.mono _ _
      | exact patchworklaw9_Short.mono _ _
      | exact patchworkref1_SameTexts.mono _ _ _
      | exact patchworkref8_Do.mono _ _ _
      | exact pick_Ops.mono _ _ _
      | exact LeO.none _
      | refine LeO.ite ?_ ?_
      | refine LeO.bind ?_ (fun _ => ?_)
theorem patchworklaw16_PickDoes.mono : ∀ a0 a1 a2 k, LeO (patchworklaw16_PickDoes.f k a0 a1 a2) (patchworklaw16_PickDoes.f (k + 1) a0 a1 a2) := by
  intro a0 a1 a2 k
  obtain ⟨ih0, ih1⟩ := patchworklaw16_PickDoes.mono_l k
  unfold patchworklaw16_PickDoes.f
  repeat' first
      | (with_reducible exact ih0 _ _ _ _ _ _)
      | (with_reducible exact ih1 _ _ _ _ _)
      | (with_reducible exact patchworklaw16_alive.mono _)
      | (with_reducible exact patchworklaw8_Few.mono _ _)
      | (with_reducible exact patchworklaw9_Short.mono _ _)
      | (with_reducible exact patchworkref1_SameTexts.mono _ _ _)
      | (with_reducible exact patchworkref8_Do.mono _ _ _)
      | (with_reducible exact pick_Ops.mono _ _ _)
      | (with_reducible exact LeO.refl _)
      | (with_reducible exact LeO.none _)
      | (with_reducible refine LeO.ite ?_ ?_)
      | (with_reducible refine LeO.bind ?_ (fun _ => ?_))
      | exact ih0 _ _ _ _ _ _
      | exact ih1 _ _ _ _ _
      | exact patchworklaw16_alive.mono _
      | exact patchworklaw8_Few.mono _ _
      | exact patchworklaw9_Short.mono _ _
      | exact patchworkref1_SameTexts.mono _ _ _
      | exact patchworkref8_Do.mono _ _ _
      | exact pick_Ops.mono _ _ _
      | exact LeO.none _
      | refine LeO.ite ?_ ?_
      | refine LeO.bind ?_ (fun _ => ?_)

end Go.Proofs.Ythognikhmbabhaa.P
