-- PRINTED by print.py (a twelfth state) out of the translation. Not trusted: Lean checks it.
import Derived.Test.YtkiklmmpflndbaaD
namespace Go.Proofs.Ytkiklmmpflndbaa.P
open Go.RowKit Go.Proofs.YtkiklmmpflndbaaW.PrintWords Go.Proofs.YtkiklmmpflndbaaW.PrintLast Go.Proofs.YtkiklmmpflndbaaW.PrintMore
attribute [local go_sem] max2_int min2_int max_two min_two max_three min_three max_four min_four   -- for this text's walks alone
set_option linter.unusedVariables false
set_option linter.unusedSimpArgs false

mutual
def patchworklaw11_ComposeThree.j0 : Nat → List (Op) → List (Op) → List (Op) → Bool → Bool → Option (Bool)
  | 0, _, _, _, _, _ => none
  | k + 1, x0, x1, x2, x7, x48 => if x48 = true then (some x7) else ((compose_Then.f k x0 x1).bind fun bt417 => ((compose_Then.f k x1 x2).bind fun bt421 => (if bt417.2 = true then (patchworklaw11_ComposeThree.j1 k x0 x2 bt417.1 bt421.1 (!bt421.2)) else (patchworklaw11_ComposeThree.j1 k x0 x2 bt417.1 bt421.1 true))))
def patchworklaw11_ComposeThree.j1 : Nat → List (Op) → List (Op) → List (Op) → List (Op) → Bool → Option (Bool)
  | 0, _, _, _, _, _ => none
  | k + 1, x0, x2, x8, x10, x67 => if x67 = true then (some true) else ((compose_Then.f k x8 x2).bind fun bt425 => ((compose_Then.f k x0 x10).bind fun bt429 => (if bt425.2 = true then (if bt429.2 = true then ((patchworkref8_Same.f k bt425.1 bt429.1).bind fun t433 => (some t433)) else (some true)) else (some true))))
end
def patchworklaw11_ComposeThree.f (k : Nat) (l0 : List (Op)) (l1 : List (Op)) (l2 : List (Op)) : Option (Bool) := (patchworklaw11_alive.f k).bind fun t410 => (if t410 = true then ((patchworklaw8_Few.f k l0).bind fun t411 => (if t411 = true then ((patchworklaw8_Few.f k l1).bind fun t412 => (if t412 = true then ((patchworklaw8_Few.f k l2).bind fun t413 => (if t413 = true then ((patchworkref8_Right.f k l0).bind fun t414 => (if t414 = true then ((patchworkref8_Right.f k l1).bind fun t415 => (if t415 = true then ((patchworkref8_Right.f k l2).bind fun t416 => (patchworklaw11_ComposeThree.j0 k l0 l1 l2 t410 (!t416))) else (patchworklaw11_ComposeThree.j0 k l0 l1 l2 t410 true))) else (patchworklaw11_ComposeThree.j0 k l0 l1 l2 t410 true))) else (patchworklaw11_ComposeThree.j0 k l0 l1 l2 t410 true))) else (patchworklaw11_ComposeThree.j0 k l0 l1 l2 t410 true))) else (patchworklaw11_ComposeThree.j0 k l0 l1 l2 t410 true))) else (patchworklaw11_ComposeThree.j0 k l0 l1 l2 t410 true))
theorem patchworklaw11_ComposeThree.mono_l : ∀ k, (∀ y0 y1 y2 y3 y4, LeO (patchworklaw11_ComposeThree.j0 k y0 y1 y2 y3 y4) (patchworklaw11_ComposeThree.j0 (k + 1) y0 y1 y2 y3 y4)) ∧ (∀ y0 y1 y2 y3 y4, LeO (patchworklaw11_ComposeThree.j1 k y0 y1 y2 y3 y4) (patchworklaw11_ComposeThree.j1 (k + 1) y0 y1 y2 y3 y4))
  | 0 => ⟨fun _ _ _ _ _ r h => by simp [patchworklaw11_ComposeThree.j0] at h, fun _ _ _ _ _ r h => by simp [patchworklaw11_ComposeThree.j1] at h⟩
  | k + 1 => by
    obtain ⟨ih0, ih1⟩ := patchworklaw11_ComposeThree.mono_l k
    refine ⟨?_, ?_⟩
    · intro y0 y1 y2 y3 y4
      unfold patchworklaw11_ComposeThree.j0
      repeat' first
      | (with_reducible exact ih0 _ _ _ _ _)
      | (with_reducible exact ih1 _ _ _ _ _)
      | (with_reducible exact compose_Then.mono _ _ _)
      | (with_reducible exact patchworklaw11_alive.mono _)
      | (with_reducible exact patchworklaw8_Few.mono _ _)
      | (with_reducible exact patchworkref8_Right.mono _ _)
      | (with_reducible exact patchworkref8_Same.mono _ _ _)
      | (with_reducible exact LeO.refl _)
      | (with_reducible exact LeO.none _)
      | (with_reducible refine LeO.ite ?_ ?_)
      | (with_reducible refine LeO.bind ?_ (fun _ => ?_))
      | exact ih0 _ _ _ _ _
      | exact ih1 _ _ _ _ _
      | exact compose_Then.mono _ _ _
      | exact patchworklaw11_alive.mono _
      | exact patchworklaw8_Few.mono _ _
      | exact patchworkref8_Right.mono _ _
      | exact patchworkref8_Same.mono _ _ _
      | exact LeO.none _
      | refine LeO.ite ?_ ?_
      | refine LeO.bind ?_ (fun _ => ?_)
    · intro y0 y1 y2 y3 y4
      unfold patchworklaw11_ComposeThree.j1
      repeat' first
      | (with_reducible exact ih0 _ _ _ _ _)
      | (with_reducible exact ih1 _ _ _ _ _)
      | (with_reducible exact compose_Then.mono _ _ _)
      | (with_reducible exact patchworklaw11_alive.mono _)
      | (with_reducible exact patchworklaw8_Few.mono _ _)
      | (with_reducible exact patchworkref8_Right.mono _ _)
      | (with_reducible exact patchworkref8_Same.mono _ _ _)
      | (with_reducible exact LeO.refl _)
      | (with_reducible exact LeO.none _)
      | (with_reducible refine LeO.ite ?_ ?_)
      | (with_reducible refine LeO.bind ?_ (fun _ => ?_))
      | exact ih0 _ _ _ _ _
      | exact ih1 _ _ _ _ _
      | exact compose_Then.mono _ _ _
      | exact patchworklaw11_alive.mono _
      | exact patchworklaw8_Few.mono _ _
      | exact patchworkref8_Right.mono _ _
      | exact patchworkref8_Same.mono _ _ _
      | exact LeO.none _
      | refine LeO.ite ?_ ?_
      | refine LeO.bind ?_ (fun _ => ?_)
theorem patchworklaw11_ComposeThree.mono : ∀ a0 a1 a2 k, LeO (patchworklaw11_ComposeThree.f k a0 a1 a2) (patchworklaw11_ComposeThree.f (k + 1) a0 a1 a2) := by
  intro a0 a1 a2 k
  obtain ⟨ih0, ih1⟩ := patchworklaw11_ComposeThree.mono_l k
  unfold patchworklaw11_ComposeThree.f
  repeat' first
      | (with_reducible exact ih0 _ _ _ _ _)
      | (with_reducible exact ih1 _ _ _ _ _)
      | (with_reducible exact compose_Then.mono _ _ _)
      | (with_reducible exact patchworklaw11_alive.mono _)
      | (with_reducible exact patchworklaw8_Few.mono _ _)
      | (with_reducible exact patchworkref8_Right.mono _ _)
      | (with_reducible exact patchworkref8_Same.mono _ _ _)
      | (with_reducible exact LeO.refl _)
      | (with_reducible exact LeO.none _)
      | (with_reducible refine LeO.ite ?_ ?_)
      | (with_reducible refine LeO.bind ?_ (fun _ => ?_))
      | exact ih0 _ _ _ _ _
      | exact ih1 _ _ _ _ _
      | exact compose_Then.mono _ _ _
      | exact patchworklaw11_alive.mono _
      | exact patchworklaw8_Few.mono _ _
      | exact patchworkref8_Right.mono _ _
      | exact patchworkref8_Same.mono _ _ _
      | exact LeO.none _
      | refine LeO.ite ?_ ?_
      | refine LeO.bind ?_ (fun _ => ?_)

end Go.Proofs.Ytkiklmmpflndbaa.P
