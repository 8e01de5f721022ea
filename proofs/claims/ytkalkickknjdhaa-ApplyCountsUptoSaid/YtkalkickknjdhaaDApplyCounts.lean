-- PRINTED by print.py (a twelfth state) out of the translation. Not trusted: Lean checks it.
import Derived.Test.YtkalkickknjdhaaD
namespace Go.Proofs.Ytkalkickknjdhaa.P
open Go.RowKit Go.Proofs.YtkalkickknjdhaaW.PrintWords Go.Proofs.YtkalkickknjdhaaW.PrintLast Go.Proofs.YtkalkickknjdhaaW.PrintMore
attribute [local go_sem] max2_int min2_int max_two min_two max_three min_three max_four min_four   -- for this text's walks alone
set_option linter.unusedVariables false
set_option linter.unusedSimpArgs false

mutual
def patchworklaw9_ApplyCounts.j0 : Nat → List (Op) → List ByteArray → Bool → Bool → Option (Bool)
  | 0, _, _, _, _ => none
  | k + 1, x0, x1, x5, x24 => if x24 = true then (some x5) else ((apply_Do.f k x0 x1).bind fun bt308 => (if bt308.2 = true then ((patchworkref8_Olds.f k x0).bind fun t312 => ((patchworkref8_News.f k x0).bind fun t313 => (if (bt308.1.length : Int) = (wrap64 ((wrap64 ((x1.length : Int) + t313)) - t312)) then (if t312 > (x1.length : Int) then (patchworklaw9_ApplyCounts.j1 k x0 x1 bt308.1 t312 t313 true) else (patchworklaw9_ApplyCounts.j1 k x0 x1 bt308.1 t312 t313 (decide (t313 > (bt308.1.length : Int))))) else (patchworklaw9_ApplyCounts.j1 k x0 x1 bt308.1 t312 t313 true)))) else (some ((bt308.1.length : Int) == 0))))
def patchworklaw9_ApplyCounts.j1 : Nat → List (Op) → List ByteArray → List ByteArray → Int → Int → Bool → Option (Bool)
  | 0, _, _, _, _, _, _ => none
  | k + 1, x0, x1, x6, x8, x9, x61 => if x61 = true then (some false) else (patchworklaw9_ApplyCounts.l0 k x0 x1 x6 x8 x9 x8)
def patchworklaw9_ApplyCounts.l0 : Nat → List (Op) → List ByteArray → List ByteArray → Int → Int → Int → Option (Bool)
  | 0, _, _, _, _, _, _ => none
  | k + 1, x0, x1, x6, x8, x9, x10 => if x10 < (x1.length : Int) then (if 0 ≤ (wrap64 ((wrap64 (x9 + x10)) - x8)) then (if (wrap64 ((wrap64 (x9 + x10)) - x8)) < (x6.length : Int) then (if 0 ≤ x10 then (if (rdOf ByteArray.empty x6 (wrap64 ((wrap64 (x9 + x10)) - x8))).toList = (rdOf ByteArray.empty x1 x10).toList then (patchworklaw9_ApplyCounts.l0 k x0 x1 x6 x8 x9 (wrap64 (x10 + 1))) else (some false)) else (none)) else (none)) else (none)) else (patchworklaw9_ApplyCounts.l1 k x0 x1 x6 0)
def patchworklaw9_ApplyCounts.l1 : Nat → List (Op) → List ByteArray → List ByteArray → Int → Option (Bool)
  | 0, _, _, _, _ => none
  | k + 1, x0, x1, x6, x11 => if (x0.length : Int) > 0 then (if 0 < (x0.length : Int) then (if ((rd_Op x0 0).f0) = 1 then (patchworklaw9_ApplyCounts.j4 k x0 x1 x6 x11 (decide (x11 < ((rd_Op x0 0).f1)))) else (patchworklaw9_ApplyCounts.j4 k x0 x1 x6 x11 false)) else (none)) else (patchworklaw9_ApplyCounts.j4 k x0 x1 x6 x11 false)
def patchworklaw9_ApplyCounts.j4 : Nat → List (Op) → List ByteArray → List ByteArray → Int → Bool → Option (Bool)
  | 0, _, _, _, _, _ => none
  | k + 1, x0, x1, x6, x11, x99 => if x99 = true then (if 0 ≤ x11 then (if x11 < (x6.length : Int) then (if x11 < (x1.length : Int) then (if (rdOf ByteArray.empty x6 x11).toList = (rdOf ByteArray.empty x1 x11).toList then (patchworklaw9_ApplyCounts.l1 k x0 x1 x6 (wrap64 (x11 + 1))) else (some false)) else (none)) else (none)) else (none)) else (some true)
end
def patchworklaw9_ApplyCounts.f (k : Nat) (l0 : List (Op)) (l1 : List ByteArray) : Option (Bool) := (patchworklaw9_alive.f k).bind fun t305 => (if t305 = true then ((patchworklaw8_Few.f k l0).bind fun t306 => (if t306 = true then ((patchworklaw9_Short.f k l1).bind fun t307 => (patchworklaw9_ApplyCounts.j0 k l0 l1 t305 (!t307))) else (patchworklaw9_ApplyCounts.j0 k l0 l1 t305 true))) else (patchworklaw9_ApplyCounts.j0 k l0 l1 t305 true))
theorem patchworklaw9_ApplyCounts.mono_l : ∀ k, (∀ y0 y1 y2 y3, LeO (patchworklaw9_ApplyCounts.j0 k y0 y1 y2 y3) (patchworklaw9_ApplyCounts.j0 (k + 1) y0 y1 y2 y3)) ∧ (∀ y0 y1 y2 y3 y4 y5, LeO (patchworklaw9_ApplyCounts.j1 k y0 y1 y2 y3 y4 y5) (patchworklaw9_ApplyCounts.j1 (k + 1) y0 y1 y2 y3 y4 y5)) ∧ (∀ y0 y1 y2 y3 y4 y5, LeO (patchworklaw9_ApplyCounts.l0 k y0 y1 y2 y3 y4 y5) (patchworklaw9_ApplyCounts.l0 (k + 1) y0 y1 y2 y3 y4 y5)) ∧ (∀ y0 y1 y2 y3, LeO (patchworklaw9_ApplyCounts.l1 k y0 y1 y2 y3) (patchworklaw9_ApplyCounts.l1 (k + 1) y0 y1 y2 y3)) ∧ (∀ y0 y1 y2 y3 y4, LeO (patchworklaw9_ApplyCounts.j4 k y0 y1 y2 y3 y4) (patchworklaw9_ApplyCounts.j4 (k + 1) y0 y1 y2 y3 y4))
  | 0 => ⟨fun _ _ _ _ r h => by simp [patchworklaw9_ApplyCounts.j0] at h, fun _ _ _ _ _ _ r h => by simp [patchworklaw9_ApplyCounts.j1] at h, fun _ _ _ _ _ _ r h => by simp [patchworklaw9_ApplyCounts.l0] at h, fun _ _ _ _ r h => by simp [patchworklaw9_ApplyCounts.l1] at h, fun _ _ _ _ _ r h => by simp [patchworklaw9_ApplyCounts.j4] at h⟩
  | k + 1 => by
    obtain ⟨ih0, ih1, ih2, ih3, ih4⟩ := patchworklaw9_ApplyCounts.mono_l k
    refine ⟨?_, ?_, ?_, ?_, ?_⟩
    · intro y0 y1 y2 y3
      unfold patchworklaw9_ApplyCounts.j0
      repeat' first
      | (with_reducible exact ih0 _ _ _ _)
      | (with_reducible exact ih1 _ _ _ _ _ _)
      | (with_reducible exact ih2 _ _ _ _ _ _)
      | (with_reducible exact ih3 _ _ _ _)
      | (with_reducible exact ih4 _ _ _ _ _)
      | (with_reducible exact apply_Do.mono _ _ _)
      | (with_reducible exact patchworklaw8_Few.mono _ _)
      | (with_reducible exact patchworklaw9_Short.mono _ _)
      | (with_reducible exact patchworklaw9_alive.mono _)
      | (with_reducible exact patchworkref8_News.mono _ _)
      | (with_reducible exact patchworkref8_Olds.mono _ _)
      | (with_reducible exact LeO.refl _)
      | (with_reducible exact LeO.none _)
      | (with_reducible refine LeO.ite ?_ ?_)
      | (with_reducible refine LeO.bind ?_ (fun _ => ?_))
      | exact ih0 _ _ _ _
      | exact ih1 _ _ _ _ _ _
      | exact ih2 _ _ _ _ _ _
      | exact ih3 _ _ _ _
      | exact ih4 _ _ _ _ _
      | exact apply_Do.mono _ _ _
      | exact patchworklaw8_Few.mono _ _
      | exact patchworklaw9_Short.mono _ _
      | exact patchworklaw9_alive.mono _
      | exact patchworkref8_News.mono _ _
      | exact patchworkref8_Olds.mono _ _
      | exact LeO.none _
      | refine LeO.ite ?_ ?_
      | refine LeO.bind ?_ (fun _ => ?_)
    · intro y0 y1 y2 y3 y4 y5
      unfold patchworklaw9_ApplyCounts.j1
      repeat' first
      | (with_reducible exact ih0 _ _ _ _)
      | (with_reducible exact ih1 _ _ _ _ _ _)
      | (with_reducible exact ih2 _ _ _ _ _ _)
      | (with_reducible exact ih3 _ _ _ _)
      | (with_reducible exact ih4 _ _ _ _ _)
      | (with_reducible exact apply_Do.mono _ _ _)
      | (with_reducible exact patchworklaw8_Few.mono _ _)
      | (with_reducible exact patchworklaw9_Short.mono _ _)
      | (with_reducible exact patchworklaw9_alive.mono _)
      | (with_reducible exact patchworkref8_News.mono _ _)
      | (with_reducible exact patchworkref8_Olds.mono _ _)
      | (with_reducible exact LeO.refl _)
      | (with_reducible exact LeO.none _)
      | (with_reducible refine LeO.ite ?_ ?_)
      | (with_reducible refine LeO.bind ?_ (fun _ => ?_))
      | exact ih0 _ _ _ _
      | exact ih1 _ _ _ _ _ _
      | exact ih2 _ _ _ _ _ _
      | exact ih3 _ _ _ _
      | exact ih4 _ _ _ _ _
      | exact apply_Do.mono _ _ _
      | exact patchworklaw8_Few.mono _ _
      | exact patchworklaw9_Short.mono _ _
      | exact patchworklaw9_alive.mono _
      | exact patchworkref8_News.mono _ _
      | exact patchworkref8_Olds.mono _ _
      | exact LeO.none _
      | refine LeO.ite ?_ ?_
      | refine LeO.bind ?_ (fun _ => ?_)
    · intro y0 y1 y2 y3 y4 y5
      unfold patchworklaw9_ApplyCounts.l0
      repeat' first
      | (with_reducible exact ih0 _ _ _ _)
      | (with_reducible exact ih1 _ _ _ _ _ _)
      | (with_reducible exact ih2 _ _ _ _ _ _)
      | (with_reducible exact ih3 _ _ _ _)
      | (with_reducible exact ih4 _ _ _ _ _)
      | (with_reducible exact apply_Do.mono _ _ _)
      | (with_reducible exact patchworklaw8_Few.mono _ _)
      | (with_reducible exact patchworklaw9_Short.mono _ _)
      | (with_reducible exact patchworklaw9_alive.mono _)
      | (with_reducible exact patchworkref8_News.mono _ _)
      | (with_reducible exact patchworkref8_Olds.mono _ _)
      | (with_reducible exact LeO.refl _)
      | (with_reducible exact LeO.none _)
      | (with_reducible refine LeO.ite ?_ ?_)
      | (with_reducible refine LeO.bind ?_ (fun _ => ?_))
      | exact ih0 _ _ _ _
      | exact ih1 _ _ _ _ _ _
      | exact ih2 _ _ _ _ _ _
      | exact ih3 _ _ _ _
      | exact ih4 _ _ _ _ _
      | exact apply_Do.mono _ _ _
      | exact patchworklaw8_Few.mono _ _
      | exact patchworklaw9_Short.mono _ _
      | exact patchworklaw9_alive.mono _
      | exact patchworkref8_News.mono _ _
      | exact patchworkref8_Olds.mono _ _
      | exact LeO.none _
      | refine LeO.ite ?_ ?_
      | refine LeO.bind ?_ (fun _ => ?_)
    · intro y0 y1 y2 y3
      unfold patchworklaw9_ApplyCounts.l1
      repeat' first
      | (with_reducible exact ih0 _ _ _ _)
      | (with_reducible exact ih1 _ _ _ _ _ _)
      | (with_reducible exact ih2 _ _ _ _ _ _)
      | (with_reducible exact ih3 _ _ _ _)
      | (with_reducible exact ih4 _ _ _ _ _)
      | (with_reducible exact apply_Do.mono _ _ _)
      | (with_reducible exact patchworklaw8_Few.mono _ _)
      | (with_reducible exact patchworklaw9_Short.mono _ _)
      | (with_reducible exact patchworklaw9_alive.mono _)
      | (with_reducible exact patchworkref8_News.mono _ _)
      | (with_reducible exact patchworkref8_Olds.mono _ _)
      | (with_reducible exact LeO.refl _)
      | (with_reducible exact LeO.none _)
      | (with_reducible refine LeO.ite ?_ ?_)
      | (with_reducible refine LeO.bind ?_ (fun _ => ?_))
      | exact ih0 _ _ _ _
      | exact ih1 _ _ _ _ _ _
      | exact ih2 _ _ _ _ _ _
      | exact ih3 _ _ _ _
      | exact ih4 _ _ _ _ _
      | exact apply_Do.mono _ _ _
      | exact patchworklaw8_Few.mono _ _
      | exact patchworklaw9_Short.mono _ _
      | exact patchworklaw9_alive.mono _
      | exact patchworkref8_News.mono _ _
      | exact patchworkref8_Olds.mono _ _
      | exact LeO.none _
      | refine LeO.ite ?_ ?_
      | refine LeO.bind ?_ (fun _ => ?_)
    · intro y0 y1 y2 y3 y4
      unfold patchworklaw9_ApplyCounts.j4
      repeat' first
      | (with_reducible exact ih0 _ _ _ _)
      | (with_reducible exact ih1 _ _ _ _ _ _)
      | (with_reducible exact ih2 _ _ _ _ _ _)
      | (with_reducible exact ih3 _ _ _ _)
      | (with_reducible exact ih4 _ _ _ _ _)
      | (with_reducible exact apply_Do.mono _ _ _)
      | (with_reducible exact patchworklaw8_Few.mono _ _)
      | (with_reducible exact patchworklaw9_Short.mono _ _)
      | (with_reducible exact patchworklaw9_alive.mono _)
      | (with_reducible exact patchworkref8_News.mono _ _)
      | (with_reducible exact patchworkref8_Olds.mono _ _)
      | (with_reducible exact LeO.refl _)
      | (with_reducible exact LeO.none _)
      | (with_reducible refine LeO.ite ?_ ?_)
      | (with_reducible refine LeO.bind ?_ (fun _ => ?_))
      | exact ih0 _ _ _ _
      | exact ih1 _ _ _ _ _ _
      | exact ih2 _ _ _ _ _ _
      | exact ih3 _ _ _ _
      | exact ih4 _ _ _ _ _
      | exact apply_Do.mono _ _ _
      | exact patchworklaw8_Few.mono _ _
      | exact patchworklaw9_Short.mono _ _
      | exact patchworklaw9_alive.mono _
      | exact patchworkref8_News.mono _ _
      | exact patchworkref8_Olds.mono _ _
      | exact LeO.none _
      | refine LeO.ite ?_ ?_
      | refine LeO.bind ?_ (fun _ => ?_)
theorem patchworklaw9_ApplyCounts.mono : ∀ a0 a1 k, LeO (patchworklaw9_ApplyCounts.f k a0 a1) (patchworklaw9_ApplyCounts.f (k + 1) a0 a1) := by
  intro a0 a1 k
  obtain ⟨ih0, ih1, ih2, ih3, ih4⟩ := patchworklaw9_ApplyCounts.mono_l k
  unfold patchworklaw9_ApplyCounts.f
  repeat' first
      | (with_reducible exact ih0 _ _ _ _)
      | (with_reducible exact ih1 _ _ _ _ _ _)
      | (with_reducible exact ih2 _ _ _ _ _ _)
      | (with_reducible exact ih3 _ _ _ _)
      | (with_reducible exact ih4 _ _ _ _ _)
      | (with_reducible exact apply_Do.mono _ _ _)
      | (with_reducible exact patchworklaw8_Few.mono _ _)
      | (with_reducible exact patchworklaw9_Short.mono _ _)
      | (with_reducible exact patchworklaw9_alive.mono _)
      | (with_reducible exact patchworkref8_News.mono _ _)
      | (with_reducible exact patchworkref8_Olds.mono _ _)
      | (with_reducible exact LeO.refl _)
      | (with_reducible exact LeO.none _)
      | (with_reducible refine LeO.ite ?_ ?_)
      | (with_reducible refine LeO.bind ?_ (fun _ => ?_))
      | exact ih0 _ _ _ _
      | exact ih1 _ _ _ _ _ _
      | exact ih2 _ _ _ _ _ _
      | exact ih3 _ _ _ _
      | exact ih4 _ _ _ _ _
      | exact apply_Do.mono _ _ _
      | exact patchworklaw8_Few.mono _ _
      | exact patchworklaw9_Short.mono _ _
      | exact patchworklaw9_alive.mono _
      | exact patchworkref8_News.mono _ _
      | exact patchworkref8_Olds.mono _ _
      | exact LeO.none _
      | refine LeO.ite ?_ ?_
      | refine LeO.bind ?_ (fun _ => ?_)

end Go.Proofs.Ytkalkickknjdhaa.P
