-- PRINTED by print.py (a twelfth state) out of the translation. Not trusted: Lean checks it.
import Derived.Test.YtfoponahdidddaaD
namespace Go.Proofs.Ytfoponahdidddaa.P
open Go.RowKit Go.Proofs.YtfoponahdidddaaW.PrintWords Go.Proofs.YtfoponahdidddaaW.PrintLast Go.Proofs.YtfoponahdidddaaW.PrintMore
attribute [local go_sem] max2_int min2_int max_two min_two max_three min_three max_four min_four   -- for this text's walks alone
set_option linter.unusedVariables false
set_option linter.unusedSimpArgs false

mutual
def patchworklaw15_SwapDoes.j0 : Nat → List (Op) → List (Op) → List ByteArray → Bool → Bool → Option (Bool)
  | 0, _, _, _, _, _ => none
  | k + 1, x0, x1, x2, x7, x36 => if x36 = true then (some x7) else ((patchworkref8_Do.f k x0 x2).bind fun bt419 => ((patchworkref8_Do.f k x1 bt419.1).bind fun bt423 => ((swap_Ops.f k x0 x1).bind fun bt427 => (if bt419.2 = true then (if bt423.2 = true then ((patchworklaw15_num.f bt427.2.2).bind fun t434 => (patchworklaw15_SwapDoes.j1 k x2 bt419.2 bt423.1 bt423.2 bt427.1 bt427.2.1 bt427.2.2 (t434 != 0))) else (patchworklaw15_SwapDoes.j1 k x2 bt419.2 bt423.1 bt423.2 bt427.1 bt427.2.1 bt427.2.2 true)) else (patchworklaw15_SwapDoes.j1 k x2 bt419.2 bt423.1 bt423.2 bt427.1 bt427.2.1 bt427.2.2 true)))))
def patchworklaw15_SwapDoes.j1 : Nat → List ByteArray → Bool → List ByteArray → Bool → List (Op) → List (Op) → Int → Bool → Option (Bool)
  | 0, _, _, _, _, _, _, _, _ => none
  | k + 1, x2, x9, x10, x11, x12, x13, x14, x67 => if x67 = true then (if x9 = true then (if x11 = true then ((patchworklaw15_num.f x14).bind fun t435 => (some (t435 == 7))) else (some true)) else (some true)) else ((patchworkref8_Do.f k x12 x2).bind fun bt436 => ((patchworkref8_Do.f k x13 bt436.1).bind fun bt440 => (if bt436.2 = true then (if bt440.2 = true then ((patchworkref1_SameTexts.f k x10 bt440.1).bind fun t444 => (some t444)) else (some false)) else (some false))))
end
def patchworklaw15_SwapDoes.f (k : Nat) (l0 : List (Op)) (l1 : List (Op)) (l2 : List ByteArray) : Option (Bool) := (patchworklaw15_alive.f k).bind fun t415 => (if t415 = true then ((patchworklaw8_Few.f k l0).bind fun t416 => (if t416 = true then ((patchworklaw8_Few.f k l1).bind fun t417 => (if t417 = true then ((patchworklaw9_Short.f k l2).bind fun t418 => (patchworklaw15_SwapDoes.j0 k l0 l1 l2 t415 (!t418))) else (patchworklaw15_SwapDoes.j0 k l0 l1 l2 t415 true))) else (patchworklaw15_SwapDoes.j0 k l0 l1 l2 t415 true))) else (patchworklaw15_SwapDoes.j0 k l0 l1 l2 t415 true))
theorem patchworklaw15_SwapDoes.mono_l : ∀ k, (∀ y0 y1 y2 y3 y4, LeO (patchworklaw15_SwapDoes.j0 k y0 y1 y2 y3 y4) (patchworklaw15_SwapDoes.j0 (k + 1) y0 y1 y2 y3 y4)) ∧ (∀ y0 y1 y2 y3 y4 y5 y6 y7, LeO (patchworklaw15_SwapDoes.j1 k y0 y1 y2 y3 y4 y5 y6 y7) (patchworklaw15_SwapDoes.j1 (k + 1) y0 y1 y2 y3 y4 y5 y6 y7))
  | 0 => ⟨fun _ _ _ _ _ r h => by simp [patchworklaw15_SwapDoes.j0] at h, fun _ _ _ _ _ _ _ _ r h => by simp [patchworklaw15_SwapDoes.j1] at h⟩
  | k + 1 => by
    obtain ⟨ih0, ih1⟩ := patchworklaw15_SwapDoes.mono_l k
    refine ⟨?_, ?_⟩
    · intro y0 y1 y2 y3 y4
      unfold patchworklaw15_SwapDoes.j0
      repeat' first
      | (with_reducible exact ih0 _ _ _ _ _)
      | (with_reducible exact ih1 _ _ _ _ _ _ _ _)
      | (with_reducible exact patchworklaw15_alive.mono _)
      | (with_reducible exact patchworklaw8_Few.mono _ _)
      | (with_reducible exact patchworklaw9_Short.mono _ _)
      | (with_reducible exact patchworkref1_SameTexts.mono _ _ _)
      | (with_reducible exact patchworkref8_Do.mono _ _ _)
      | (with_reducible exact swap_Ops.mono _ _ _)
      | (with_reducible exact LeO.refl _)
      | (with_reducible exact LeO.none _)
      | (with_reducible refine LeO.ite ?_ ?_)
      | (with_reducible refine LeO.bind ?_ (fun _ => ?_))
      | exact ih0 _ _ _ _ _
      | exact ih1 _ _ _ _ _ _ _ _
      | exact patchworklaw15_alive.mono _
      | exact patchworklaw8_Few.mono _ _
      | exact patchworklaw9_Short.mono _ _
      | exact patchworkref1_SameTexts.mono _ _ _
      | exact patchworkref8_Do.mono _ _ _
      | exact swap_Ops.mono _ _ _
      | exact LeO.none _
      | refine LeO.ite ?_ ?_
      | refine LeO.bind ?_ (fun _ => ?_)
    · intro y0 y1 y2 y3 y4 y5 y6 y7
      unfold patchworklaw15_SwapDoes.j1
      repeat' first
      | (with_reducible exact ih0 _ _ _ _ _)
      | (with_reducible exact ih1 _ _ _ _ _ _ _ _)
      | (with_reducible exact patchworklaw15_alive.mono _)
      | (with_reducible exact patchworklaw8_Few.mono _ _)
      | (with_reducible exact patchworklaw9_Short.mono _ _)
      | (with_reducible exact patchworkref1_SameTexts.mono _ _ _)
      | (with_reducible exact patchworkref8_Do.mono _ _ _)
      | (with_reducible exact swap_Ops.mono _ _ _)
      | (with_reducible exact LeO.refl _)
      | (with_reducible exact LeO.none _)
      | (with_reducible refine LeO.ite ?_ ?_)
      | (with_reducible refine LeO.bind ?_ (fun _ => ?_))
      | exact ih0 _ _ _ _ _
      | exact ih1 _ _ _ _ _ _ _ _
      | exact patchworklaw15_alive.mono _
      | exact patchworklaw8_Few.mono _ _
      | exact patchworklaw9_Short.mono _ _
      | exact patchworkref1_SameTexts.mono _ _ _
      | exact patchworkref8_Do.mono _ _ _
      | exact swap_Ops.mono _ _ _
      | exact LeO.none _
      | refine LeO.ite ?_ ?_
      | refine LeO.bind ?_ (fun _ => ?_)
theorem patchworklaw15_SwapDoes.mono : ∀ a0 a1 a2 k, LeO (patchworklaw15_SwapDoes.f k a0 a1 a2) (patchworklaw15_SwapDoes.f (k + 1) a0 a1 a2) := by
  intro a0 a1 a2 k
  obtain ⟨ih0, ih1⟩ := patchworklaw15_SwapDoes.mono_l k
  unfold patchworklaw15_SwapDoes.f
  repeat' first
      | (with_reducible exact ih0 _ _ _ _ _)
      | (with_reducible exact ih1 _ _ _ _ _ _ _ _)
      | (with_reducible exact patchworklaw15_alive.mono _)
      | (with_reducible exact patchworklaw8_Few.mono _ _)
      | (with_reducible exact patchworklaw9_Short.mono _ _)
      | (with_reducible exact patchworkref1_SameTexts.mono _ _ _)
      | (with_reducible exact patchworkref8_Do.mono _ _ _)
      | (with_reducible exact swap_Ops.mono _ _ _)
      | (with_reducible exact LeO.refl _)
      | (with_reducible exact LeO.none _)
      | (with_reducible refine LeO.ite ?_ ?_)
      | (with_reducible refine LeO.bind ?_ (fun _ => ?_))
      | exact ih0 _ _ _ _ _
      | exact ih1 _ _ _ _ _ _ _ _
      | exact patchworklaw15_alive.mono _
      | exact patchworklaw8_Few.mono _ _
      | exact patchworklaw9_Short.mono _ _
      | exact patchworkref1_SameTexts.mono _ _ _
      | exact patchworkref8_Do.mono _ _ _
      | exact swap_Ops.mono _ _ _
      | exact LeO.none _
      | refine LeO.ite ?_ ?_
      | refine LeO.bind ?_ (fun _ => ?_)

end Go.Proofs.Ytfoponahdidddaa.P
