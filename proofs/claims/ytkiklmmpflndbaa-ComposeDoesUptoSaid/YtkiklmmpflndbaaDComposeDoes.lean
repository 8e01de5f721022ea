-- PRINTED by print.py (a twelfth state) out of the translation. Not trusted: Lean checks it.
import Derived.Test.YtkiklmmpflndbaaD
namespace Go.Proofs.Ytkiklmmpflndbaa.P
open Go.RowKit Go.Proofs.YtkiklmmpflndbaaW.PrintWords Go.Proofs.YtkiklmmpflndbaaW.PrintLast Go.Proofs.YtkiklmmpflndbaaW.PrintMore
attribute [local go_sem] max2_int min2_int max_two min_two max_three min_three max_four min_four   -- for this text's walks alone
set_option linter.unusedVariables false
set_option linter.unusedSimpArgs false

mutual
def patchworklaw11_ComposeDoes.j0 : Nat → List (Op) → List (Op) → List ByteArray → Bool → Bool → Option (Bool)
  | 0, _, _, _, _, _ => none
  | k + 1, x0, x1, x2, x7, x33 => if x33 = true then (some x7) else ((patchworkref8_Do.f k x0 x2).bind fun bt393 => ((patchworkref8_Do.f k x1 bt393.1).bind fun bt397 => (if bt393.2 = true then (patchworklaw11_ComposeDoes.j1 k x0 x1 x2 bt397.1 (!bt397.2)) else (patchworklaw11_ComposeDoes.j1 k x0 x1 x2 bt397.1 true))))
def patchworklaw11_ComposeDoes.j1 : Nat → List (Op) → List (Op) → List ByteArray → List ByteArray → Bool → Option (Bool)
  | 0, _, _, _, _, _ => none
  | k + 1, x0, x1, x2, x10, x52 => if x52 = true then (some true) else ((compose_Then.f k x0 x1).bind fun bt401 => ((patchworkref8_Do.f k bt401.1 x2).bind fun bt405 => (if bt401.2 = true then (if bt405.2 = true then ((patchworkref1_SameTexts.f k x10 bt405.1).bind fun t409 => (some t409)) else (some false)) else (some false))))
end
def patchworklaw11_ComposeDoes.f (k : Nat) (l0 : List (Op)) (l1 : List (Op)) (l2 : List ByteArray) : Option (Bool) := (patchworklaw11_alive.f k).bind fun t389 => (if t389 = true then ((patchworklaw8_Few.f k l0).bind fun t390 => (if t390 = true then ((patchworklaw8_Few.f k l1).bind fun t391 => (if t391 = true then ((patchworklaw9_Short.f k l2).bind fun t392 => (patchworklaw11_ComposeDoes.j0 k l0 l1 l2 t389 (!t392))) else (patchworklaw11_ComposeDoes.j0 k l0 l1 l2 t389 true))) else (patchworklaw11_ComposeDoes.j0 k l0 l1 l2 t389 true))) else (patchworklaw11_ComposeDoes.j0 k l0 l1 l2 t389 true))
theorem patchworklaw11_ComposeDoes.mono_l : ∀ k, (∀ y0 y1 y2 y3 y4, LeO (patchworklaw11_ComposeDoes.j0 k y0 y1 y2 y3 y4) (patchworklaw11_ComposeDoes.j0 (k + 1) y0 y1 y2 y3 y4)) ∧ (∀ y0 y1 y2 y3 y4, LeO (patchworklaw11_ComposeDoes.j1 k y0 y1 y2 y3 y4) (patchworklaw11_ComposeDoes.j1 (k + 1) y0 y1 y2 y3 y4))
  | 0 => ⟨fun _ _ _ _ _ r h => by simp [patchworklaw11_ComposeDoes.j0] at h, fun _ _ _ _ _ r h => by simp [patchworklaw11_ComposeDoes.j1] at h⟩
  | k + 1 => by
    obtain ⟨ih0, ih1⟩ := patchworklaw11_ComposeDoes.mono_l k
    refine ⟨?_, ?_⟩
    · intro y0 y1 y2 y3 y4
      unfold patchworklaw11_ComposeDoes.j0
      repeat' first
      | (with_reducible exact ih0 _ _ _ _ _)
      | (with_reducible exact ih1 _ _ _ _ _)
      | (with_reducible exact compose_Then.mono _ _ _)
      | (with_reducible exact patchworklaw11_alive.mono _)
      | (with_reducible exact patchworklaw8_Few.mono _ _)
      | (with_reducible exact patchworklaw9_Short.mono _ _)
      | (with_reducible exact patchworkref1_SameTexts.mono _ _ _)
      | (with_reducible exact patchworkref8_Do.mono _ _ _)
      | (with_reducible exact LeO.refl _)
      | (with_reducible exact LeO.none _)
      | (with_reducible refine LeO.ite ?_ ?_)
      | (with_reducible refine LeO.bind ?_ (fun _ => ?_))
      | exact ih0 _ _ _ _ _
      | exact ih1 _ _ _ _ _
      | exact compose_Then.mono _ _ _
      | exact patchworklaw11_alive.mono _
      | exact patchworklaw8_Few.mono _ _
      | exact patchworklaw9_Short.mono _ _
      | exact patchworkref1_SameTexts.mono _ _ _
      | exact patchworkref8_Do.mono _ _ _
      | exact LeO.none _
      | refine LeO.ite ?_ ?_
      | refine LeO.bind ?_ (fun _ => ?_)
    · intro y0 y1 y2 y3 y4
      unfold patchworklaw11_ComposeDoes.j1
      repeat' first
      | (with_reducible exact ih0 _ _ _ _ _)
      | (with_reducible exact ih1 _ _ _ _ _)
      | (with_reducible exact compose_Then.mono _ _ _)
      | (with_reducible exact patchworklaw11_alive.mono _)
      | (with_reducible exact patchworklaw8_Few.mono _ _)
      | (with_reducible exact patchworklaw9_Short.mono _ _)
      | (with_reducible exact patchworkref1_SameTexts.mono _ _ _)
      | (with_reducible exact patchworkref8_Do.mono _ _ _)
      | (with_reducible exact LeO.refl _)
      | (with_reducible exact LeO.none _)
      | (with_reducible refine LeO.ite ?_ ?_)
      | (with_reducible refine LeO.bind ?_ (fun _ => ?_))
      | exact ih0 _ _ _ _ _
      | exact ih1 _ _ _ _ _
      | exact compose_Then.mono _ _ _
      | exact patchworklaw11_alive.mono _
      | exact patchworklaw8_Few.mono _ _
      | exact patchworklaw9_Short.mono _ _
      | exact patchworkref1_SameTexts.mono _ _ _
      | exact patchworkref8_Do.mono _ _ _
      | exact LeO.none _
      | refine LeO.ite ?_ ?_
      | refine LeO.bind ?_ (fun _ => ?_)
theorem patchworklaw11_ComposeDoes.mono : ∀ a0 a1 a2 k, LeO (patchworklaw11_ComposeDoes.f k a0 a1 a2) (patchworklaw11_ComposeDoes.f (k + 1) a0 a1 a2) := by
  intro a0 a1 a2 k
  obtain ⟨ih0, ih1⟩ := patchworklaw11_ComposeDoes.mono_l k
  unfold patchworklaw11_ComposeDoes.f
  repeat' first
      | (with_reducible exact ih0 _ _ _ _ _)
      | (with_reducible exact ih1 _ _ _ _ _)
      | (with_reducible exact compose_Then.mono _ _ _)
      | (with_reducible exact patchworklaw11_alive.mono _)
      | (with_reducible exact patchworklaw8_Few.mono _ _)
      | (with_reducible exact patchworklaw9_Short.mono _ _)
      | (with_reducible exact patchworkref1_SameTexts.mono _ _ _)
      | (with_reducible exact patchworkref8_Do.mono _ _ _)
      | (with_reducible exact LeO.refl _)
      | (with_reducible exact LeO.none _)
      | (with_reducible refine LeO.ite ?_ ?_)
      | (with_reducible refine LeO.bind ?_ (fun _ => ?_))
      | exact ih0 _ _ _ _ _
      | exact ih1 _ _ _ _ _
      | exact compose_Then.mono _ _ _
      | exact patchworklaw11_alive.mono _
      | exact patchworklaw8_Few.mono _ _
      | exact patchworklaw9_Short.mono _ _
      | exact patchworkref1_SameTexts.mono _ _ _
      | exact patchworkref8_Do.mono _ _ _
      | exact LeO.none _
      | refine LeO.ite ?_ ?_
      | refine LeO.bind ?_ (fun _ => ?_)

end Go.Proofs.Ytkiklmmpflndbaa.P
