-- PRINTED by print.py (a twelfth state) out of the translation. Not trusted: Lean checks it.
import Derived.Test.YtacpejblnjgcoaaD
namespace Go.Proofs.Ytacpejblnjgcoaa.P
open Go.RowKit Go.Proofs.YtacpejblnjgcoaaW.PrintWords Go.Proofs.YtacpejblnjgcoaaW.PrintLast Go.Proofs.YtacpejblnjgcoaaW.PrintMore
attribute [local go_sem] max2_int min2_int max_two min_two max_three min_three max_four min_four   -- for this text's walks alone
set_option linter.unusedVariables false
set_option linter.unusedSimpArgs false

mutual
def patchworklaw13_TidyLeast.j0 : Nat → List ByteArray → List ByteArray → Int → List Int → Bool → Bool → Option (Bool)
  | 0, _, _, _, _, _, _ => none
  | k + 1, x0, x1, x2, x3, x9, x50 => if x50 = true then (some x9) else (patchworklaw13_TidyLeast.l0 k x0 x1 x3 (([(⟨1, x2, (⟨#[]⟩ : ByteArray)⟩ : Op)] : List (Op))) 0 0 0)
def patchworklaw13_TidyLeast.l0 : Nat → List ByteArray → List ByteArray → List Int → List (Op) → Int → Int → Int → Option (Bool)
  | 0, _, _, _, _, _, _, _ => none
  | k + 1, x0, x1, x3, x10, x11, x12, x13 => if x13 < 40 then (if x11 < (x0.length : Int) then (if x12 < (x1.length : Int) then (if 0 ≤ x11 then (if 0 ≤ x12 then (if (rdOf ByteArray.empty x0 x11).toList = (rdOf ByteArray.empty x1 x12).toList then (if 0 ≤ x13 then (if x13 < (x3.length : Int) then (patchworklaw13_TidyLeast.j2 k x0 x1 x3 x10 x11 x12 x13 ((Go.bits .and .i64 (rd x3 x13) 1) == 0)) else (none)) else (none)) else (patchworklaw13_TidyLeast.j2 k x0 x1 x3 x10 x11 x12 x13 false)) else (none)) else (none)) else (patchworklaw13_TidyLeast.j2 k x0 x1 x3 x10 x11 x12 x13 false)) else (patchworklaw13_TidyLeast.j2 k x0 x1 x3 x10 x11 x12 x13 false)) else ((tidy_Ops.f k x10).bind fun t490 => ((patchworkref8_Changes.f k t490).bind fun t493 => ((patchworkref8_LcsLen.f x0 x1).bind fun t494 => (if t493 = (wrap64 ((wrap64 ((x0.length : Int) + (x1.length : Int))) - (wrap64 (2 * t494)))) then ((patchworkref8_Changes.f k t490).bind fun t495 => ((patchworkref8_Changes.f k x10).bind fun t496 => (if t495 ≤ t496 then ((tidy_Idle.f k x10).bind fun t497 => ((patchworkref1_SameTexts.f k x0 x1).bind fun t498 => (some (t497 == t498)))) else (some false)))) else (some false)))))
def patchworklaw13_TidyLeast.j2 : Nat → List ByteArray → List ByteArray → List Int → List (Op) → Int → Int → Int → Bool → Option (Bool)
  | 0, _, _, _, _, _, _, _, _ => none
  | k + 1, x0, x1, x3, x10, x11, x12, x13, x59 => if x59 = true then (if 0 ≤ x11 then (if x11 < (x0.length : Int) then (if x10.length < 4398046511104 then (patchworklaw13_TidyLeast.l0 k x0 x1 x3 (x10 ++ [(⟨2, 0, rdOf ByteArray.empty x0 x11⟩ : Op)]) (wrap64 (x11 + 1)) (wrap64 (x12 + 1)) (wrap64 (x13 + 1))) else (none)) else (none)) else (none)) else (if x11 < (x0.length : Int) then (if 0 ≤ x13 then (if x13 < (x3.length : Int) then (if (Go.bits .and .i64 (rd x3 x13) 2) = 0 then (patchworklaw13_TidyLeast.j3 k x0 x1 x3 x10 x11 x12 x13 true) else (patchworklaw13_TidyLeast.j3 k x0 x1 x3 x10 x11 x12 x13 (x12 == (x1.length : Int)))) else (none)) else (none)) else (patchworklaw13_TidyLeast.j3 k x0 x1 x3 x10 x11 x12 x13 false))
def patchworklaw13_TidyLeast.j3 : Nat → List ByteArray → List ByteArray → List Int → List (Op) → Int → Int → Int → Bool → Option (Bool)
  | 0, _, _, _, _, _, _, _, _ => none
  | k + 1, x0, x1, x3, x10, x11, x12, x13, x101 => if x101 = true then (if 0 ≤ x11 then (if x11 < (x0.length : Int) then (if x10.length < 4398046511104 then (patchworklaw13_TidyLeast.l0 k x0 x1 x3 (x10 ++ [(⟨3, 0, rdOf ByteArray.empty x0 x11⟩ : Op)]) (wrap64 (x11 + 1)) x12 (wrap64 (x13 + 1))) else (none)) else (none)) else (none)) else (if x12 < (x1.length : Int) then (if 0 ≤ x12 then (if x10.length < 4398046511104 then (patchworklaw13_TidyLeast.l0 k x0 x1 x3 (x10 ++ [(⟨4, 0, rdOf ByteArray.empty x1 x12⟩ : Op)]) x11 (wrap64 (x12 + 1)) (wrap64 (x13 + 1))) else (none)) else (none)) else (patchworklaw13_TidyLeast.l0 k x0 x1 x3 x10 x11 x12 (wrap64 (x13 + 1))))
end
def patchworklaw13_TidyLeast.f (k : Nat) (l0 : List ByteArray) (l1 : List ByteArray) (a2 : Int) (l3 : List Int) : Option (Bool) := (patchworklaw13_alive.f k).bind fun t468 => (if t468 = true then (if (l0.length : Int) > 20 then (patchworklaw13_TidyLeast.j0 k l0 l1 a2 l3 t468 true) else (if (l1.length : Int) > 20 then (patchworklaw13_TidyLeast.j0 k l0 l1 a2 l3 t468 true) else (if a2 < 1 then (patchworklaw13_TidyLeast.j0 k l0 l1 a2 l3 t468 true) else (if a2 > 100 then (patchworklaw13_TidyLeast.j0 k l0 l1 a2 l3 t468 true) else (if (l3.length : Int) < 40 then (patchworklaw13_TidyLeast.j0 k l0 l1 a2 l3 t468 true) else ((patchworklaw13_closed.f k l0).bind fun t469 => (if t469 = true then ((patchworklaw13_closed.f k l1).bind fun t470 => (patchworklaw13_TidyLeast.j0 k l0 l1 a2 l3 t468 (!t470))) else (patchworklaw13_TidyLeast.j0 k l0 l1 a2 l3 t468 true)))))))) else (patchworklaw13_TidyLeast.j0 k l0 l1 a2 l3 t468 true))
theorem patchworklaw13_TidyLeast.mono_l : ∀ k, (∀ y0 y1 y2 y3 y4 y5, LeO (patchworklaw13_TidyLeast.j0 k y0 y1 y2 y3 y4 y5) (patchworklaw13_TidyLeast.j0 (k + 1) y0 y1 y2 y3 y4 y5)) ∧ (∀ y0 y1 y2 y3 y4 y5 y6, LeO (patchworklaw13_TidyLeast.l0 k y0 y1 y2 y3 y4 y5 y6) (patchworklaw13_TidyLeast.l0 (k + 1) y0 y1 y2 y3 y4 y5 y6)) ∧ (∀ y0 y1 y2 y3 y4 y5 y6 y7, LeO (patchworklaw13_TidyLeast.j2 k y0 y1 y2 y3 y4 y5 y6 y7) (patchworklaw13_TidyLeast.j2 (k + 1) y0 y1 y2 y3 y4 y5 y6 y7)) ∧ (∀ y0 y1 y2 y3 y4 y5 y6 y7, LeO (patchworklaw13_TidyLeast.j3 k y0 y1 y2 y3 y4 y5 y6 y7) (patchworklaw13_TidyLeast.j3 (k + 1) y0 y1 y2 y3 y4 y5 y6 y7))
  | 0 => ⟨fun _ _ _ _ _ _ r h => by simp [patchworklaw13_TidyLeast.j0] at h, fun _ _ _ _ _ _ _ r h => by simp [patchworklaw13_TidyLeast.l0] at h, fun _ _ _ _ _ _ _ _ r h => by simp [patchworklaw13_TidyLeast.j2] at h, fun _ _ _ _ _ _ _ _ r h => by simp [patchworklaw13_TidyLeast.j3] at h⟩
  | k + 1 => by
    obtain ⟨ih0, ih1, ih2, ih3⟩ := patchworklaw13_TidyLeast.mono_l k
    refine ⟨?_, ?_, ?_, ?_⟩
    · intro y0 y1 y2 y3 y4 y5
      unfold patchworklaw13_TidyLeast.j0
      repeat' first
      | (with_reducible exact ih0 _ _ _ _ _ _)
      | (with_reducible exact ih1 _ _ _ _ _ _ _)
      | (with_reducible exact ih2 _ _ _ _ _ _ _ _)
      | (with_reducible exact ih3 _ _ _ _ _ _ _ _)
      | (with_reducible exact patchworklaw13_alive.mono _)
      | (with_reducible exact patchworklaw13_closed.mono _ _)
      | (with_reducible exact patchworkref1_SameTexts.mono _ _ _)
      | (with_reducible exact patchworkref8_Changes.mono _ _)
      | (with_reducible exact tidy_Idle.mono _ _)
      | (with_reducible exact tidy_Ops.mono _ _)
      | (with_reducible exact LeO.refl _)
      | (with_reducible exact LeO.none _)
      | (with_reducible refine LeO.ite ?_ ?_)
      | (with_reducible refine LeO.bind ?_ (fun _ => ?_))
      | exact ih0 _ _ _ _ _ _
      | exact ih1 _ _ _ _ _ _ _
      | exact ih2 _ _ _ _ _ _ _ _
      | exact ih3 _ _ _ _ _ _ _ _
      | exact patchworklaw13_alive.mono _
      | exact patchworklaw13_closed.mono _ _
      | exact patchworkref1_SameTexts.mono _ _ _
      | exact patchworkref8_Changes.mono _ _
      | exact tidy_Idle.mono _ _
      | exact tidy_Ops.mono _ _
      | exact LeO.none _
      | refine LeO.ite ?_ ?_
      | refine LeO.bind ?_ (fun _ => ?_)
    · intro y0 y1 y2 y3 y4 y5 y6
      unfold patchworklaw13_TidyLeast.l0
      repeat' first
      | (with_reducible exact ih0 _ _ _ _ _ _)
      | (with_reducible exact ih1 _ _ _ _ _ _ _)
      | (with_reducible exact ih2 _ _ _ _ _ _ _ _)
      | (with_reducible exact ih3 _ _ _ _ _ _ _ _)
      | (with_reducible exact patchworklaw13_alive.mono _)
      | (with_reducible exact patchworklaw13_closed.mono _ _)
      | (with_reducible exact patchworkref1_SameTexts.mono _ _ _)
      | (with_reducible exact patchworkref8_Changes.mono _ _)
      | (with_reducible exact tidy_Idle.mono _ _)
      | (with_reducible exact tidy_Ops.mono _ _)
      | (with_reducible exact LeO.refl _)
      | (with_reducible exact LeO.none _)
      | (with_reducible refine LeO.ite ?_ ?_)
      | (with_reducible refine LeO.bind ?_ (fun _ => ?_))
      | exact ih0 _ _ _ _ _ _
      | exact ih1 _ _ _ _ _ _ _
      | exact ih2 _ _ _ _ _ _ _ _
      | exact ih3 _ _ _ _ _ _ _ _
      | exact patchworklaw13_alive.mono _
      | exact patchworklaw13_closed.mono _ _
      | exact patchworkref1_SameTexts.mono _ _ _
      | exact patchworkref8_Changes.mono _ _
      | exact tidy_Idle.mono _ _
      | exact tidy_Ops.mono _ _
      | exact LeO.none _
      | refine LeO.ite ?_ ?_
      | refine LeO.bind ?_ (fun _ => ?_)
    · intro y0 y1 y2 y3 y4 y5 y6 y7
      unfold patchworklaw13_TidyLeast.j2
      repeat' first
      | (with_reducible exact ih0 _ _ _ _ _ _)
      | (with_reducible exact ih1 _ _ _ _ _ _ _)
      | (with_reducible exact ih2 _ _ _ _ _ _ _ _)
      | (with_reducible exact ih3 _ _ _ _ _ _ _ _)
      | (with_reducible exact patchworklaw13_alive.mono _)
      | (with_reducible exact patchworklaw13_closed.mono _ _)
      | (with_reducible exact patchworkref1_SameTexts.mono _ _ _)
      | (with_reducible exact patchworkref8_Changes.mono _ _)
      | (with_reducible exact tidy_Idle.mono _ _)
      | (with_reducible exact tidy_Ops.mono _ _)
      | (with_reducible exact LeO.refl _)
      | (with_reducible exact LeO.none _)
      | (with_reducible refine LeO.ite ?_ ?_)
      | (with_reducible refine LeO.bind ?_ (fun _ => ?_))
      | exact ih0 _ _ _ _ _ _
      | exact ih1 _ _ _ _ _ _ _
      | exact ih2 _ _ _ _ _ _ _ _
      | exact ih3 _ _ _ _ _ _ _ _
      | exact patchworklaw13_alive.mono _
      | exact patchworklaw13_closed.mono _ _
      | exact patchworkref1_SameTexts.mono _ _ _
      | exact patchworkref8_Changes.mono _ _
      | exact tidy_Idle.mono _ _
      | exact tidy_Ops.mono _ _
      | exact LeO.none _
      | refine LeO.ite ?_ ?_
      | refine LeO.bind ?_ (fun _ => ?_)
    · intro y0 y1 y2 y3 y4 y5 y6 y7
      unfold patchworklaw13_TidyLeast.j3
      repeat' first
      | (with_reducible exact ih0 _ _ _ _ _ _)
      | (with_reducible exact ih1 _ _ _ _ _ _ _)
      | (with_reducible exact ih2 _ _ _ _ _ _ _ _)
      | (with_reducible exact ih3 _ _ _ _ _ _ _ _)
      | (with_reducible exact patchworklaw13_alive.mono _)
      | (with_reducible exact patchworklaw13_closed.mono _ _)
      | (with_reducible exact patchworkref1_SameTexts.mono _ _ _)
      | (with_reducible exact patchworkref8_Changes.mono _ _)
      | (with_reducible exact tidy_Idle.mono _ _)
      | (with_reducible exact tidy_Ops.mono _ _)
      | (with_reducible exact LeO.refl _)
      | (with_reducible exact LeO.none _)
      | (with_reducible refine LeO.ite ?_ ?_)
      | (with_reducible refine LeO.bind ?_ (fun _ => ?_))
      | exact ih0 _ _ _ _ _ _
      | exact ih1 _ _ _ _ _ _ _
      | exact ih2 _ _ _ _ _ _ _ _
      | exact ih3 _ _ _ _ _ _ _ _
      | exact patchworklaw13_alive.mono _
      | exact patchworklaw13_closed.mono _ _
      | exact patchworkref1_SameTexts.mono _ _ _
      | exact patchworkref8_Changes.mono _ _
      | exact tidy_Idle.mono _ _
      | exact tidy_Ops.mono _ _
      | exact LeO.none _
      | refine LeO.ite ?_ ?_
      | refine LeO.bind ?_ (fun _ => ?_)
theorem patchworklaw13_TidyLeast.mono : ∀ a0 a1 a2 a3 k, LeO (patchworklaw13_TidyLeast.f k a0 a1 a2 a3) (patchworklaw13_TidyLeast.f (k + 1) a0 a1 a2 a3) := by
  intro a0 a1 a2 a3 k
  obtain ⟨ih0, ih1, ih2, ih3⟩ := patchworklaw13_TidyLeast.mono_l k
  unfold patchworklaw13_TidyLeast.f
  repeat' first
      | (with_reducible exact ih0 _ _ _ _ _ _)
      | (with_reducible exact ih1 _ _ _ _ _ _ _)
      | (with_reducible exact ih2 _ _ _ _ _ _ _ _)
      | (with_reducible exact ih3 _ _ _ _ _ _ _ _)
      | (with_reducible exact patchworklaw13_alive.mono _)
      | (with_reducible exact patchworklaw13_closed.mono _ _)
      | (with_reducible exact patchworkref1_SameTexts.mono _ _ _)
      | (with_reducible exact patchworkref8_Changes.mono _ _)
      | (with_reducible exact tidy_Idle.mono _ _)
      | (with_reducible exact tidy_Ops.mono _ _)
      | (with_reducible exact LeO.refl _)
      | (with_reducible exact LeO.none _)
      | (with_reducible refine LeO.ite ?_ ?_)
      | (with_reducible refine LeO.bind ?_ (fun _ => ?_))
      | exact ih0 _ _ _ _ _ _
      | exact ih1 _ _ _ _ _ _ _
      | exact ih2 _ _ _ _ _ _ _ _
      | exact ih3 _ _ _ _ _ _ _ _
      | exact patchworklaw13_alive.mono _
      | exact patchworklaw13_closed.mono _ _
      | exact patchworkref1_SameTexts.mono _ _ _
      | exact patchworkref8_Changes.mono _ _
      | exact tidy_Idle.mono _ _
      | exact tidy_Ops.mono _ _
      | exact LeO.none _
      | refine LeO.ite ?_ ?_
      | refine LeO.bind ?_ (fun _ => ?_)

end Go.Proofs.Ytacpejblnjgcoaa.P
