-- PRINTED by print.py (a twelfth state) out of the translation. Not trusted: Lean checks it.
import Derived.Test.YtbmcpfbhcafkdaaP0
import Derived.Test.YtbmcpfbhcafkdaaTd
namespace Go.Proofs.Ytbmcpfbhcafkdaa.P
open Go.RowKit Go.Proofs.YtbmcpfbhcafkdaaW.PrintWords Go.Proofs.YtbmcpfbhcafkdaaW.PrintLast Go.Proofs.YtbmcpfbhcafkdaaW.PrintMore
attribute [local go_sem] max2_int min2_int max_two min_two max_three min_three max_four min_four   -- for this text's walks alone
set_option linter.unusedVariables false
set_option linter.unusedSimpArgs false

def lcs_Len.f (l0 : List ByteArray) (l1 : List ByteArray) : Option (Int) := if l0.length ≤ 1000000 ∧ l1.length ≤ 1000000 then some (lcs l0 l1 : Int) else none

def lcs_ahead.l0 : Nat → List ByteArray → List ByteArray → Int → Option (Int)
  | 0, _, _, _ => none
  | k + 1, x0, x1, x5 => if x5 < (x0.length : Int) then (if x5 < (x1.length : Int) then (if 0 ≤ x5 then (if (rdOf ByteArray.empty x0 x5).toList = (rdOf ByteArray.empty x1 x5).toList then (lcs_ahead.l0 k x0 x1 (wrap64 (x5 + 1))) else (some x5)) else (none)) else (some x5)) else (some x5)
def lcs_ahead.f (k : Nat) (l0 : List ByteArray) (l1 : List ByteArray) : Option (Int) := lcs_ahead.l0 k l0 l1 0
theorem lcs_ahead.mono_l : ∀ k, (∀ y0 y1 y2, LeO (lcs_ahead.l0 k y0 y1 y2) (lcs_ahead.l0 (k + 1) y0 y1 y2))
  | 0 => fun _ _ _ r h => by simp [lcs_ahead.l0] at h
  | k + 1 => by
    have ih0 := lcs_ahead.mono_l k
    · intro y0 y1 y2
      unfold lcs_ahead.l0
      repeat' first
      | (with_reducible exact ih0 _ _ _)
      | (with_reducible exact LeO.refl _)
      | (with_reducible exact LeO.none _)
      | (with_reducible refine LeO.ite ?_ ?_)
      | (with_reducible refine LeO.bind ?_ (fun _ => ?_))
      | exact ih0 _ _ _
      | exact LeO.none _
      | refine LeO.ite ?_ ?_
      | refine LeO.bind ?_ (fun _ => ?_)
theorem lcs_ahead.mono : ∀ a0 a1 k, LeO (lcs_ahead.f k a0 a1) (lcs_ahead.f (k + 1) a0 a1) := by
  intro a0 a1 k
  have ih0 := lcs_ahead.mono_l k
  unfold lcs_ahead.f
  repeat' first
      | (with_reducible exact ih0 _ _ _)
      | (with_reducible exact LeO.refl _)
      | (with_reducible exact LeO.none _)
      | (with_reducible refine LeO.ite ?_ ?_)
      | (with_reducible refine LeO.bind ?_ (fun _ => ?_))
      | exact ih0 _ _ _
      | exact LeO.none _
      | refine LeO.ite ?_ ?_
      | refine LeO.bind ?_ (fun _ => ?_)

def lcs_Diff.f (l0 : List ByteArray) (l1 : List ByteArray) : Option (List (Op)) := if l0.length ≤ 1000000 ∧ l1.length ≤ 1000000 then some (diffOps l0 l1) else none

def patchworklaw12_alive.f  : Option (Bool) := (lcs_Diff.f ([] : List ByteArray) ([] : List ByteArray)).bind fun t103 => (if (t103.length : Int) = 0 then ((lcs_Len.f (([(⟨#[97]⟩ : ByteArray), (⟨#[98]⟩ : ByteArray)] : List ByteArray)) (([(⟨#[98]⟩ : ByteArray)] : List ByteArray))).bind fun t112 => (if t112 = 1 then ((lcs_Diff.f (([(⟨#[97]⟩ : ByteArray)] : List ByteArray)) (([(⟨#[98]⟩ : ByteArray)] : List ByteArray))).bind fun t119 => (some ((t119.length : Int) == 2))) else (some false))) else (some false))

def patchworkref1_Join.l0 : Nat → List ByteArray → List Int → Int → Option (ByteArray)
  | 0, _, _, _ => none
  | k + 1, x0, x3, x4 => if x4 < (x0.length : Int) then (if 0 ≤ x4 then (if x3.length + (rdOf ByteArray.empty x0 x4).size < 140737488355328 then (patchworkref1_Join.l0 k x0 (x3 ++ bytesOf (rdOf ByteArray.empty x0 x4)) (wrap64 (x4 + 1))) else (none)) else (none)) else (some (strOfNums x3))
def patchworkref1_Join.f (k : Nat) (l0 : List ByteArray) : Option (ByteArray) := patchworkref1_Join.l0 k l0 ([] : List Int) 0
theorem patchworkref1_Join.mono_l : ∀ k, (∀ y0 y1 y2, LeO (patchworkref1_Join.l0 k y0 y1 y2) (patchworkref1_Join.l0 (k + 1) y0 y1 y2))
  | 0 => fun _ _ _ r h => by simp [patchworkref1_Join.l0] at h
  | k + 1 => by
    have ih0 := patchworkref1_Join.mono_l k
    · intro y0 y1 y2
      unfold patchworkref1_Join.l0
      repeat' first
      | (with_reducible exact ih0 _ _ _)
      | (with_reducible exact LeO.refl _)
      | (with_reducible exact LeO.none _)
      | (with_reducible refine LeO.ite ?_ ?_)
      | (with_reducible refine LeO.bind ?_ (fun _ => ?_))
      | exact ih0 _ _ _
      | exact LeO.none _
      | refine LeO.ite ?_ ?_
      | refine LeO.bind ?_ (fun _ => ?_)
theorem patchworkref1_Join.mono : ∀ a0 k, LeO (patchworkref1_Join.f k a0) (patchworkref1_Join.f (k + 1) a0) := by
  intro a0 k
  have ih0 := patchworkref1_Join.mono_l k
  unfold patchworkref1_Join.f
  repeat' first
      | (with_reducible exact ih0 _ _ _)
      | (with_reducible exact LeO.refl _)
      | (with_reducible exact LeO.none _)
      | (with_reducible refine LeO.ite ?_ ?_)
      | (with_reducible refine LeO.bind ?_ (fun _ => ?_))
      | exact ih0 _ _ _
      | exact LeO.none _
      | refine LeO.ite ?_ ?_
      | refine LeO.bind ?_ (fun _ => ?_)

def patchworklaw9_Short.f (k : Nat) (l0 : List ByteArray) : Option (Bool) := if (l0.length : Int) ≤ 300 then ((patchworkref1_Join.f k l0).bind fun t126 => (some (decide ((t126.size : Int) ≤ 2000)))) else (some false)
theorem patchworklaw9_Short.mono : ∀ a0 k, LeO (patchworklaw9_Short.f k a0) (patchworklaw9_Short.f (k + 1) a0) := by
  intro a0 k
  unfold patchworklaw9_Short.f
  repeat' first
      | (with_reducible exact patchworkref1_Join.mono _ _)
      | (with_reducible exact LeO.refl _)
      | (with_reducible exact LeO.none _)
      | (with_reducible refine LeO.ite ?_ ?_)
      | (with_reducible refine LeO.bind ?_ (fun _ => ?_))
      | exact patchworkref1_Join.mono _ _
      | exact LeO.none _
      | refine LeO.ite ?_ ?_
      | refine LeO.bind ?_ (fun _ => ?_)

def patchworkref8_table.f (l0 : List ByteArray) (l1 : List ByteArray) : Option (List (List Int)) := if l0.length ≤ 1000000 ∧ l1.length ≤ 1000000 then some (tabRows l0 l1) else none

def patchworkref8_LcsLen.f (l0 : List ByteArray) (l1 : List ByteArray) : Option (Int) := (patchworkref8_table.f l0 l1).bind fun t127 => (if 0 < (t127.length : Int) then (if 0 < ((rd_L6 t127 0).length : Int) then (some (rd (rd_L6 t127 0) 0)) else (none)) else (none))

def patchworkref8_Same.l0 : Nat → List (Op) → List (Op) → Int → Option (Bool)
  | 0, _, _, _ => none
  | k + 1, x0, x1, x5 => if x5 < (x0.length : Int) then (if 0 ≤ x5 then (if x5 < (x1.length : Int) then (if (!(((rd_Op x0 x5).f0) == ((rd_Op x1 x5).f0)) || (!(((rd_Op x0 x5).f1) == ((rd_Op x1 x5).f1)) || (!((((rd_Op x0 x5).f2).toList) == (((rd_Op x1 x5).f2).toList))))) = true then (some false) else (patchworkref8_Same.l0 k x0 x1 (wrap64 (x5 + 1)))) else (none)) else (none)) else (some true)
def patchworkref8_Same.f (k : Nat) (l0 : List (Op)) (l1 : List (Op)) : Option (Bool) := if (l0.length : Int) = (l1.length : Int) then (patchworkref8_Same.l0 k l0 l1 0) else (some false)
theorem patchworkref8_Same.mono_l : ∀ k, (∀ y0 y1 y2, LeO (patchworkref8_Same.l0 k y0 y1 y2) (patchworkref8_Same.l0 (k + 1) y0 y1 y2))
  | 0 => fun _ _ _ r h => by simp [patchworkref8_Same.l0] at h
  | k + 1 => by
    have ih0 := patchworkref8_Same.mono_l k
    · intro y0 y1 y2
      unfold patchworkref8_Same.l0
      repeat' first
      | (with_reducible exact ih0 _ _ _)
      | (with_reducible exact LeO.refl _)
      | (with_reducible exact LeO.none _)
      | (with_reducible refine LeO.ite ?_ ?_)
      | (with_reducible refine LeO.bind ?_ (fun _ => ?_))
      | exact ih0 _ _ _
      | exact LeO.none _
      | refine LeO.ite ?_ ?_
      | refine LeO.bind ?_ (fun _ => ?_)
theorem patchworkref8_Same.mono : ∀ a0 a1 k, LeO (patchworkref8_Same.f k a0 a1) (patchworkref8_Same.f (k + 1) a0 a1) := by
  intro a0 a1 k
  have ih0 := patchworkref8_Same.mono_l k
  unfold patchworkref8_Same.f
  repeat' first
      | (with_reducible exact ih0 _ _ _)
      | (with_reducible exact LeO.refl _)
      | (with_reducible exact LeO.none _)
      | (with_reducible refine LeO.ite ?_ ?_)
      | (with_reducible refine LeO.bind ?_ (fun _ => ?_))
      | exact ih0 _ _ _
      | exact LeO.none _
      | refine LeO.ite ?_ ?_
      | refine LeO.bind ?_ (fun _ => ?_)

mutual
def patchworkref8_LcsDiff.l0 : Nat → List ByteArray → List ByteArray → List (List Int) → List (Op) → Int → Int → Option ((List (Op)))
  | 0, _, _, _, _, _, _ => none
  | k + 1, x0, x1, x5, x6, x7, x8 => if x7 < (x0.length : Int) then (patchworkref8_LcsDiff.j1 k x0 x1 x5 x6 x7 x8 true) else (patchworkref8_LcsDiff.j1 k x0 x1 x5 x6 x7 x8 (decide (x8 < (x1.length : Int))))
def patchworkref8_LcsDiff.j1 : Nat → List ByteArray → List ByteArray → List (List Int) → List (Op) → Int → Int → Bool → Option ((List (Op)))
  | 0, _, _, _, _, _, _, _ => none
  | k + 1, x0, x1, x5, x6, x7, x8, x21 => if x21 = true then (if x7 < (x0.length : Int) then (if x8 < (x1.length : Int) then (if 0 ≤ x7 then (if 0 ≤ x8 then (if (rdOf ByteArray.empty x0 x7).toList = (rdOf ByteArray.empty x1 x8).toList then (if x7 < (x5.length : Int) then (if x8 < ((rd_L6 x5 x7).length : Int) then (if 0 ≤ (wrap64 (x7 + 1)) then (if (wrap64 (x7 + 1)) < (x5.length : Int) then (if 0 ≤ (wrap64 (x8 + 1)) then (if (wrap64 (x8 + 1)) < ((rd_L6 x5 (wrap64 (x7 + 1))).length : Int) then (patchworkref8_LcsDiff.j2 k x0 x1 x5 x6 x7 x8 ((rd (rd_L6 x5 x7) x8) == (wrap64 ((rd (rd_L6 x5 (wrap64 (x7 + 1))) (wrap64 (x8 + 1))) + 1)))) else (none)) else (none)) else (none)) else (none)) else (none)) else (none)) else (patchworkref8_LcsDiff.j2 k x0 x1 x5 x6 x7 x8 false)) else (none)) else (none)) else (patchworkref8_LcsDiff.j2 k x0 x1 x5 x6 x7 x8 false)) else (patchworkref8_LcsDiff.j2 k x0 x1 x5 x6 x7 x8 false)) else (some x6)
def patchworkref8_LcsDiff.j2 : Nat → List ByteArray → List ByteArray → List (List Int) → List (Op) → Int → Int → Bool → Option ((List (Op)))
  | 0, _, _, _, _, _, _, _ => none
  | k + 1, x0, x1, x5, x6, x7, x8, x32 => if x32 = true then (if 0 ≤ x7 then (if x7 < (x0.length : Int) then (if x6.length < 4398046511104 then (patchworkref8_LcsDiff.l0 k x0 x1 x5 (x6 ++ [(⟨2, 0, rdOf ByteArray.empty x0 x7⟩ : Op)]) (wrap64 (x7 + 1)) (wrap64 (x8 + 1))) else (none)) else (none)) else (none)) else (if x8 = (x1.length : Int) then (if 0 ≤ x7 then (if x7 < (x0.length : Int) then (if x6.length < 4398046511104 then (patchworkref8_LcsDiff.l0 k x0 x1 x5 (x6 ++ [(⟨3, 0, rdOf ByteArray.empty x0 x7⟩ : Op)]) (wrap64 (x7 + 1)) x8) else (none)) else (none)) else (none)) else (if x7 < (x0.length : Int) then (if 0 ≤ (wrap64 (x7 + 1)) then (if (wrap64 (x7 + 1)) < (x5.length : Int) then (if 0 ≤ x8 then (if x8 < ((rd_L6 x5 (wrap64 (x7 + 1))).length : Int) then (if 0 ≤ x7 then (if x7 < (x5.length : Int) then (if 0 ≤ (wrap64 (x8 + 1)) then (if (wrap64 (x8 + 1)) < ((rd_L6 x5 x7).length : Int) then (if (rd (rd_L6 x5 (wrap64 (x7 + 1))) x8) ≥ (rd (rd_L6 x5 x7) (wrap64 (x8 + 1))) then (if x6.length < 4398046511104 then (patchworkref8_LcsDiff.l0 k x0 x1 x5 (x6 ++ [(⟨3, 0, rdOf ByteArray.empty x0 x7⟩ : Op)]) (wrap64 (x7 + 1)) x8) else (none)) else (if x8 < (x1.length : Int) then (if x6.length < 4398046511104 then (patchworkref8_LcsDiff.l0 k x0 x1 x5 (x6 ++ [(⟨4, 0, rdOf ByteArray.empty x1 x8⟩ : Op)]) x7 (wrap64 (x8 + 1))) else (none)) else (none))) else (none)) else (none)) else (none)) else (none)) else (none)) else (none)) else (none)) else (none)) else (if 0 ≤ x8 then (if x8 < (x1.length : Int) then (if x6.length < 4398046511104 then (patchworkref8_LcsDiff.l0 k x0 x1 x5 (x6 ++ [(⟨4, 0, rdOf ByteArray.empty x1 x8⟩ : Op)]) x7 (wrap64 (x8 + 1))) else (none)) else (none)) else (none))))
end
def patchworkref8_LcsDiff.f (k : Nat) (l0 : List ByteArray) (l1 : List ByteArray) : Option ((List (Op))) := (patchworkref8_table.f l0 l1).bind fun t134 => (patchworkref8_LcsDiff.l0 k l0 l1 t134 ([] : List (Op)) 0 0)
theorem patchworkref8_LcsDiff.mono_l : ∀ k, (∀ y0 y1 y2 y3 y4 y5, LeO (patchworkref8_LcsDiff.l0 k y0 y1 y2 y3 y4 y5) (patchworkref8_LcsDiff.l0 (k + 1) y0 y1 y2 y3 y4 y5)) ∧ (∀ y0 y1 y2 y3 y4 y5 y6, LeO (patchworkref8_LcsDiff.j1 k y0 y1 y2 y3 y4 y5 y6) (patchworkref8_LcsDiff.j1 (k + 1) y0 y1 y2 y3 y4 y5 y6)) ∧ (∀ y0 y1 y2 y3 y4 y5 y6, LeO (patchworkref8_LcsDiff.j2 k y0 y1 y2 y3 y4 y5 y6) (patchworkref8_LcsDiff.j2 (k + 1) y0 y1 y2 y3 y4 y5 y6))
  | 0 => ⟨fun _ _ _ _ _ _ r h => by simp [patchworkref8_LcsDiff.l0] at h, fun _ _ _ _ _ _ _ r h => by simp [patchworkref8_LcsDiff.j1] at h, fun _ _ _ _ _ _ _ r h => by simp [patchworkref8_LcsDiff.j2] at h⟩
  | k + 1 => by
    obtain ⟨ih0, ih1, ih2⟩ := patchworkref8_LcsDiff.mono_l k
    refine ⟨?_, ?_, ?_⟩
    · intro y0 y1 y2 y3 y4 y5
      unfold patchworkref8_LcsDiff.l0
      repeat' first
      | (with_reducible exact ih0 _ _ _ _ _ _)
      | (with_reducible exact ih1 _ _ _ _ _ _ _)
      | (with_reducible exact ih2 _ _ _ _ _ _ _)
      | (with_reducible exact LeO.refl _)
      | (with_reducible exact LeO.none _)
      | (with_reducible refine LeO.ite ?_ ?_)
      | (with_reducible refine LeO.bind ?_ (fun _ => ?_))
      | exact ih0 _ _ _ _ _ _
      | exact ih1 _ _ _ _ _ _ _
      | exact ih2 _ _ _ _ _ _ _
      | exact LeO.none _
      | refine LeO.ite ?_ ?_
      | refine LeO.bind ?_ (fun _ => ?_)
    · intro y0 y1 y2 y3 y4 y5 y6
      unfold patchworkref8_LcsDiff.j1
      repeat' first
      | (with_reducible exact ih0 _ _ _ _ _ _)
      | (with_reducible exact ih1 _ _ _ _ _ _ _)
      | (with_reducible exact ih2 _ _ _ _ _ _ _)
      | (with_reducible exact LeO.refl _)
      | (with_reducible exact LeO.none _)
      | (with_reducible refine LeO.ite ?_ ?_)
      | (with_reducible refine LeO.bind ?_ (fun _ => ?_))
      | exact ih0 _ _ _ _ _ _
      | exact ih1 _ _ _ _ _ _ _
      | exact ih2 _ _ _ _ _ _ _
      | exact LeO.none _
      | refine LeO.ite ?_ ?_
      | refine LeO.bind ?_ (fun _ => ?_)
    · intro y0 y1 y2 y3 y4 y5 y6
      unfold patchworkref8_LcsDiff.j2
      repeat' first
      | (with_reducible exact ih0 _ _ _ _ _ _)
      | (with_reducible exact ih1 _ _ _ _ _ _ _)
      | (with_reducible exact ih2 _ _ _ _ _ _ _)
      | (with_reducible exact LeO.refl _)
      | (with_reducible exact LeO.none _)
      | (with_reducible refine LeO.ite ?_ ?_)
      | (with_reducible refine LeO.bind ?_ (fun _ => ?_))
      | exact ih0 _ _ _ _ _ _
      | exact ih1 _ _ _ _ _ _ _
      | exact ih2 _ _ _ _ _ _ _
      | exact LeO.none _
      | refine LeO.ite ?_ ?_
      | refine LeO.bind ?_ (fun _ => ?_)
theorem patchworkref8_LcsDiff.mono : ∀ a0 a1 k, LeO (patchworkref8_LcsDiff.f k a0 a1) (patchworkref8_LcsDiff.f (k + 1) a0 a1) := by
  intro a0 a1 k
  obtain ⟨ih0, ih1, ih2⟩ := patchworkref8_LcsDiff.mono_l k
  unfold patchworkref8_LcsDiff.f
  repeat' first
      | (with_reducible exact ih0 _ _ _ _ _ _)
      | (with_reducible exact ih1 _ _ _ _ _ _ _)
      | (with_reducible exact ih2 _ _ _ _ _ _ _)
      | (with_reducible exact LeO.refl _)
      | (with_reducible exact LeO.none _)
      | (with_reducible refine LeO.ite ?_ ?_)
      | (with_reducible refine LeO.bind ?_ (fun _ => ?_))
      | exact ih0 _ _ _ _ _ _
      | exact ih1 _ _ _ _ _ _ _
      | exact ih2 _ _ _ _ _ _ _
      | exact LeO.none _
      | refine LeO.ite ?_ ?_
      | refine LeO.bind ?_ (fun _ => ?_)

def patchworklaw12_LcsTells.j0 : Nat → List ByteArray → List ByteArray → Bool → Bool → Option (Bool)
  | 0, _, _, _, _ => none
  | k + 1, x0, x1, x5, x28 => if x28 = true then (some x5) else ((lcs_Len.f x0 x1).bind fun t170 => ((patchworkref8_LcsLen.f x0 x1).bind fun t171 => (if t170 = t171 then (if ([] : List ByteArray).length + x0.length < 8796093022208 then (if ([] : List ByteArray).length + x1.length < 8796093022208 then ((lcs_Diff.f (([] : List ByteArray) ++ x0) (([] : List ByteArray) ++ x1)).bind fun t178 => ((patchworkref8_LcsDiff.f k x0 x1).bind fun t181 => ((patchworkref8_Same.f k t178 t181).bind fun t184 => (some t184)))) else (none)) else (none)) else (some false))))
def patchworklaw12_LcsTells.f (k : Nat) (l0 : List ByteArray) (l1 : List ByteArray) : Option (Bool) := (patchworklaw12_alive.f).bind fun t167 => (if t167 = true then ((patchworklaw9_Short.f k l0).bind fun t168 => (if t168 = true then ((patchworklaw9_Short.f k l1).bind fun t169 => (if t169 = true then (if (l0.length : Int) > 60 then (patchworklaw12_LcsTells.j0 k l0 l1 t167 true) else (patchworklaw12_LcsTells.j0 k l0 l1 t167 (decide ((l1.length : Int) > 60)))) else (patchworklaw12_LcsTells.j0 k l0 l1 t167 true))) else (patchworklaw12_LcsTells.j0 k l0 l1 t167 true))) else (patchworklaw12_LcsTells.j0 k l0 l1 t167 true))
theorem patchworklaw12_LcsTells.mono_l : ∀ k, (∀ y0 y1 y2 y3, LeO (patchworklaw12_LcsTells.j0 k y0 y1 y2 y3) (patchworklaw12_LcsTells.j0 (k + 1) y0 y1 y2 y3))
  | 0 => fun _ _ _ _ r h => by simp [patchworklaw12_LcsTells.j0] at h
  | k + 1 => by
    have ih0 := patchworklaw12_LcsTells.mono_l k
    · intro y0 y1 y2 y3
      unfold patchworklaw12_LcsTells.j0
      repeat' first
      | (with_reducible exact ih0 _ _ _ _)
      | (with_reducible exact patchworklaw9_Short.mono _ _)
      | (with_reducible exact patchworkref8_LcsDiff.mono _ _ _)
      | (with_reducible exact patchworkref8_Same.mono _ _ _)
      | (with_reducible exact LeO.refl _)
      | (with_reducible exact LeO.none _)
      | (with_reducible refine LeO.ite ?_ ?_)
      | (with_reducible refine LeO.bind ?_ (fun _ => ?_))
      | exact ih0 _ _ _ _
      | exact patchworklaw9_Short.mono _ _
      | exact patchworkref8_LcsDiff.mono _ _ _
      | exact patchworkref8_Same.mono _ _ _
      | exact LeO.none _
      | refine LeO.ite ?_ ?_
      | refine LeO.bind ?_ (fun _ => ?_)
theorem patchworklaw12_LcsTells.mono : ∀ a0 a1 k, LeO (patchworklaw12_LcsTells.f k a0 a1) (patchworklaw12_LcsTells.f (k + 1) a0 a1) := by
  intro a0 a1 k
  have ih0 := patchworklaw12_LcsTells.mono_l k
  unfold patchworklaw12_LcsTells.f
  repeat' first
      | (with_reducible exact ih0 _ _ _ _)
      | (with_reducible exact patchworklaw9_Short.mono _ _)
      | (with_reducible exact patchworkref8_LcsDiff.mono _ _ _)
      | (with_reducible exact patchworkref8_Same.mono _ _ _)
      | (with_reducible exact LeO.refl _)
      | (with_reducible exact LeO.none _)
      | (with_reducible refine LeO.ite ?_ ?_)
      | (with_reducible refine LeO.bind ?_ (fun _ => ?_))
      | exact ih0 _ _ _ _
      | exact patchworklaw9_Short.mono _ _
      | exact patchworkref8_LcsDiff.mono _ _ _
      | exact patchworkref8_Same.mono _ _ _
      | exact LeO.none _
      | refine LeO.ite ?_ ?_
      | refine LeO.bind ?_ (fun _ => ?_)

def patchworkref1_SameTexts.l0 : Nat → List ByteArray → List ByteArray → Int → Option (Bool)
  | 0, _, _, _ => none
  | k + 1, x0, x1, x5 => if x5 < (x0.length : Int) then (if 0 ≤ x5 then (if x5 < (x1.length : Int) then (if (rdOf ByteArray.empty x0 x5).toList = (rdOf ByteArray.empty x1 x5).toList then (patchworkref1_SameTexts.l0 k x0 x1 (wrap64 (x5 + 1))) else (some false)) else (none)) else (none)) else (some true)
def patchworkref1_SameTexts.f (k : Nat) (l0 : List ByteArray) (l1 : List ByteArray) : Option (Bool) := if (l0.length : Int) = (l1.length : Int) then (patchworkref1_SameTexts.l0 k l0 l1 0) else (some false)
theorem patchworkref1_SameTexts.mono_l : ∀ k, (∀ y0 y1 y2, LeO (patchworkref1_SameTexts.l0 k y0 y1 y2) (patchworkref1_SameTexts.l0 (k + 1) y0 y1 y2))
  | 0 => fun _ _ _ r h => by simp [patchworkref1_SameTexts.l0] at h
  | k + 1 => by
    have ih0 := patchworkref1_SameTexts.mono_l k
    · intro y0 y1 y2
      unfold patchworkref1_SameTexts.l0
      repeat' first
      | (with_reducible exact ih0 _ _ _)
      | (with_reducible exact LeO.refl _)
      | (with_reducible exact LeO.none _)
      | (with_reducible refine LeO.ite ?_ ?_)
      | (with_reducible refine LeO.bind ?_ (fun _ => ?_))
      | exact ih0 _ _ _
      | exact LeO.none _
      | refine LeO.ite ?_ ?_
      | refine LeO.bind ?_ (fun _ => ?_)
theorem patchworkref1_SameTexts.mono : ∀ a0 a1 k, LeO (patchworkref1_SameTexts.f k a0 a1) (patchworkref1_SameTexts.f (k + 1) a0 a1) := by
  intro a0 a1 k
  have ih0 := patchworkref1_SameTexts.mono_l k
  unfold patchworkref1_SameTexts.f
  repeat' first
      | (with_reducible exact ih0 _ _ _)
      | (with_reducible exact LeO.refl _)
      | (with_reducible exact LeO.none _)
      | (with_reducible refine LeO.ite ?_ ?_)
      | (with_reducible refine LeO.bind ?_ (fun _ => ?_))
      | exact ih0 _ _ _
      | exact LeO.none _
      | refine LeO.ite ?_ ?_
      | refine LeO.bind ?_ (fun _ => ?_)

mutual
def patchworklaw12_LcsLeads.j0 : Nat → List ByteArray → List ByteArray → Bool → Bool → Option (Bool)
  | 0, _, _, _, _ => none
  | k + 1, x0, x1, x5, x33 => if x33 = true then (some x5) else ((lcs_Diff.f x0 x1).bind fun t190 => (patchworklaw12_LcsLeads.l0 k x0 x1 t190 ([] : List ByteArray) ([] : List ByteArray) 0 0))
def patchworklaw12_LcsLeads.l0 : Nat → List ByteArray → List ByteArray → List (Op) → List ByteArray → List ByteArray → Int → Int → Option (Bool)
  | 0, _, _, _, _, _, _, _ => none
  | k + 1, x0, x1, x6, x7, x8, x9, x10 => if x10 < (x6.length : Int) then (if 0 ≤ x10 then (if ((rd_Op x6 x10).f0) = 4 then (patchworklaw12_LcsLeads.j2 k x0 x1 x6 x7 x8 x9 x10) else (if x7.length < 8796093022208 then (patchworklaw12_LcsLeads.j2 k x0 x1 x6 (x7 ++ [(rd_Op x6 x10).f2]) x8 x9 x10) else (none))) else (none)) else ((patchworkref1_SameTexts.f k x7 x0).bind fun t205 => (if t205 = true then ((patchworkref1_SameTexts.f k x8 x1).bind fun t206 => (if t206 = true then ((lcs_Len.f x0 x1).bind fun t207 => (if x9 = t207 then ((lcs_Len.f x1 x0).bind fun t208 => (some (x9 == t208))) else (some false))) else (some false))) else (some false)))
def patchworklaw12_LcsLeads.j2 : Nat → List ByteArray → List ByteArray → List (Op) → List ByteArray → List ByteArray → Int → Int → Option (Bool)
  | 0, _, _, _, _, _, _, _ => none
  | k + 1, x0, x1, x6, x7, x8, x9, x10 => if 0 ≤ x10 then (if x10 < (x6.length : Int) then (if ((rd_Op x6 x10).f0) = 3 then (if ((rd_Op x6 x10).f0) = 2 then (patchworklaw12_LcsLeads.l0 k x0 x1 x6 x7 x8 (wrap64 (x9 + 1)) (wrap64 (x10 + 1))) else (patchworklaw12_LcsLeads.l0 k x0 x1 x6 x7 x8 x9 (wrap64 (x10 + 1)))) else (if x8.length < 8796093022208 then ((some (x8 ++ [(rd_Op x6 x10).f2] : List ByteArray)).bind fun y201 => (if ((rd_Op x6 x10).f0) = 2 then (patchworklaw12_LcsLeads.l0 k x0 x1 x6 x7 y201 (wrap64 (x9 + 1)) (wrap64 (x10 + 1))) else (patchworklaw12_LcsLeads.l0 k x0 x1 x6 x7 y201 x9 (wrap64 (x10 + 1))))) else (none))) else (none)) else (none)
end
def patchworklaw12_LcsLeads.f (k : Nat) (l0 : List ByteArray) (l1 : List ByteArray) : Option (Bool) := (patchworklaw12_alive.f).bind fun t187 => (if t187 = true then ((patchworklaw9_Short.f k l0).bind fun t188 => (if t188 = true then ((patchworklaw9_Short.f k l1).bind fun t189 => (if t189 = true then (if (l0.length : Int) > 60 then (patchworklaw12_LcsLeads.j0 k l0 l1 t187 true) else (patchworklaw12_LcsLeads.j0 k l0 l1 t187 (decide ((l1.length : Int) > 60)))) else (patchworklaw12_LcsLeads.j0 k l0 l1 t187 true))) else (patchworklaw12_LcsLeads.j0 k l0 l1 t187 true))) else (patchworklaw12_LcsLeads.j0 k l0 l1 t187 true))
theorem patchworklaw12_LcsLeads.mono_l : ∀ k, (∀ y0 y1 y2 y3, LeO (patchworklaw12_LcsLeads.j0 k y0 y1 y2 y3) (patchworklaw12_LcsLeads.j0 (k + 1) y0 y1 y2 y3)) ∧ (∀ y0 y1 y2 y3 y4 y5 y6, LeO (patchworklaw12_LcsLeads.l0 k y0 y1 y2 y3 y4 y5 y6) (patchworklaw12_LcsLeads.l0 (k + 1) y0 y1 y2 y3 y4 y5 y6)) ∧ (∀ y0 y1 y2 y3 y4 y5 y6, LeO (patchworklaw12_LcsLeads.j2 k y0 y1 y2 y3 y4 y5 y6) (patchworklaw12_LcsLeads.j2 (k + 1) y0 y1 y2 y3 y4 y5 y6))
  | 0 => ⟨fun _ _ _ _ r h => by simp [patchworklaw12_LcsLeads.j0] at h, fun _ _ _ _ _ _ _ r h => by simp [patchworklaw12_LcsLeads.l0] at h, fun _ _ _ _ _ _ _ r h => by simp [patchworklaw12_LcsLeads.j2] at h⟩
  | k + 1 => by
    obtain ⟨ih0, ih1, ih2⟩ := patchworklaw12_LcsLeads.mono_l k
    refine ⟨?_, ?_, ?_⟩
    · intro y0 y1 y2 y3
      unfold patchworklaw12_LcsLeads.j0
      repeat' first
      | (with_reducible exact ih0 _ _ _ _)
      | (with_reducible exact ih1 _ _ _ _ _ _ _)
      | (with_reducible exact ih2 _ _ _ _ _ _ _)
      | (with_reducible exact patchworklaw9_Short.mono _ _)
      | (with_reducible exact patchworkref1_SameTexts.mono _ _ _)
      | (with_reducible exact LeO.refl _)
      | (with_reducible exact LeO.none _)
      | (with_reducible refine LeO.ite ?_ ?_)
      | (with_reducible refine LeO.bind ?_ (fun _ => ?_))
      | exact ih0 _ _ _ _
      | exact ih1 _ _ _ _ _ _ _
      | exact ih2 _ _ _ _ _ _ _
      | exact patchworklaw9_Short.mono _ _
      | exact patchworkref1_SameTexts.mono _ _ _
      | exact LeO.none _
      | refine LeO.ite ?_ ?_
      | refine LeO.bind ?_ (fun _ => ?_)
    · intro y0 y1 y2 y3 y4 y5 y6
      unfold patchworklaw12_LcsLeads.l0
      repeat' first
      | (with_reducible exact ih0 _ _ _ _)
      | (with_reducible exact ih1 _ _ _ _ _ _ _)
      | (with_reducible exact ih2 _ _ _ _ _ _ _)
      | (with_reducible exact patchworklaw9_Short.mono _ _)
      | (with_reducible exact patchworkref1_SameTexts.mono _ _ _)
      | (with_reducible exact LeO.refl _)
      | (with_reducible exact LeO.none _)
      | (with_reducible refine LeO.ite ?_ ?_)
      | (with_reducible refine LeO.bind ?_ (fun _ => ?_))
      | exact ih0 _ _ _ _
      | exact ih1 _ _ _ _ _ _ _
      | exact ih2 _ _ _ _ _ _ _
      | exact patchworklaw9_Short.mono _ _
      | exact patchworkref1_SameTexts.mono _ _ _
      | exact LeO.none _
      | refine LeO.ite ?_ ?_
      | refine LeO.bind ?_ (fun _ => ?_)
    · intro y0 y1 y2 y3 y4 y5 y6
      unfold patchworklaw12_LcsLeads.j2
      repeat' first
      | (with_reducible exact ih0 _ _ _ _)
      | (with_reducible exact ih1 _ _ _ _ _ _ _)
      | (with_reducible exact ih2 _ _ _ _ _ _ _)
      | (with_reducible exact patchworklaw9_Short.mono _ _)
      | (with_reducible exact patchworkref1_SameTexts.mono _ _ _)
      | (with_reducible exact LeO.refl _)
      | (with_reducible exact LeO.none _)
      | (with_reducible refine LeO.ite ?_ ?_)
      | (with_reducible refine LeO.bind ?_ (fun _ => ?_))
      | exact ih0 _ _ _ _
      | exact ih1 _ _ _ _ _ _ _
      | exact ih2 _ _ _ _ _ _ _
      | exact patchworklaw9_Short.mono _ _
      | exact patchworkref1_SameTexts.mono _ _ _
      | exact LeO.none _
      | refine LeO.ite ?_ ?_
      | refine LeO.bind ?_ (fun _ => ?_)
theorem patchworklaw12_LcsLeads.mono : ∀ a0 a1 k, LeO (patchworklaw12_LcsLeads.f k a0 a1) (patchworklaw12_LcsLeads.f (k + 1) a0 a1) := by
  intro a0 a1 k
  obtain ⟨ih0, ih1, ih2⟩ := patchworklaw12_LcsLeads.mono_l k
  unfold patchworklaw12_LcsLeads.f
  repeat' first
      | (with_reducible exact ih0 _ _ _ _)
      | (with_reducible exact ih1 _ _ _ _ _ _ _)
      | (with_reducible exact ih2 _ _ _ _ _ _ _)
      | (with_reducible exact patchworklaw9_Short.mono _ _)
      | (with_reducible exact patchworkref1_SameTexts.mono _ _ _)
      | (with_reducible exact LeO.refl _)
      | (with_reducible exact LeO.none _)
      | (with_reducible refine LeO.ite ?_ ?_)
      | (with_reducible refine LeO.bind ?_ (fun _ => ?_))
      | exact ih0 _ _ _ _
      | exact ih1 _ _ _ _ _ _ _
      | exact ih2 _ _ _ _ _ _ _
      | exact patchworklaw9_Short.mono _ _
      | exact patchworkref1_SameTexts.mono _ _ _
      | exact LeO.none _
      | refine LeO.ite ?_ ?_
      | refine LeO.bind ?_ (fun _ => ?_)

mutual
def patchworklaw12_LcsBounds.j0 : Nat → List ByteArray → List ByteArray → List ByteArray → List Int → Bool → Bool → Option (Bool)
  | 0, _, _, _, _, _, _ => none
  | k + 1, x0, x1, x2, x3, x9, x56 => if x56 = true then (some x9) else (patchworklaw12_LcsBounds.l0 k x0 x1 x2 x3 ([] : List ByteArray) 0)
def patchworklaw12_LcsBounds.l0 : Nat → List ByteArray → List ByteArray → List ByteArray → List Int → List ByteArray → Int → Option (Bool)
  | 0, _, _, _, _, _, _ => none
  | k + 1, x0, x1, x2, x3, x10, x11 => if x11 < (x0.length : Int) then (if 0 ≤ x11 then (if x11 < (x3.length : Int) then (if (Go.bits .and .i64 (rd x3 x11) 1) = 1 then (if x10.length < 8796093022208 then (patchworklaw12_LcsBounds.l0 k x0 x1 x2 x3 (x10 ++ [rdOf ByteArray.empty x0 x11]) (wrap64 (x11 + 1))) else (none)) else (patchworklaw12_LcsBounds.l0 k x0 x1 x2 x3 x10 (wrap64 (x11 + 1)))) else (none)) else (none)) else (if ([] : List ByteArray).length + x2.length < 8796093022208 then ((some (([] : List ByteArray) ++ x2 : List ByteArray)).bind fun y218 => (if y218.length + x0.length < 8796093022208 then ((some (([] : List ByteArray) ++ x2 : List ByteArray)).bind fun y224 => (if y224.length + x1.length < 8796093022208 then (if ([] : List ByteArray).length + x0.length < 8796093022208 then ((some (([] : List ByteArray) ++ x0 : List ByteArray)).bind fun y230 => (if y230.length + x2.length < 8796093022208 then (if ([] : List ByteArray).length + x1.length < 8796093022208 then ((some (([] : List ByteArray) ++ x1 : List ByteArray)).bind fun y236 => (if y236.length + x2.length < 8796093022208 then ((lcs_Len.f x0 x1).bind fun t242 => ((lcs_Len.f x0 x10).bind fun t243 => (if t243 = (x10.length : Int) then ((lcs_Len.f (y218 ++ x0) (y224 ++ x1)).bind fun t244 => (if t244 = (wrap64 (t242 + (x2.length : Int))) then ((lcs_Len.f (y230 ++ x2) (y236 ++ x2)).bind fun t245 => (if t245 = (wrap64 (t242 + (x2.length : Int))) then (if t242 ≤ (x0.length : Int) then (if t242 ≤ (x1.length : Int) then ((lcs_Len.f x10 x1).bind fun t246 => (some (decide (t242 ≥ t246)))) else (some false)) else (some false)) else (some false))) else (some false))) else (some false)))) else (none))) else (none)) else (none))) else (none)) else (none))) else (none))) else (none))
end
def patchworklaw12_LcsBounds.f (k : Nat) (l0 : List ByteArray) (l1 : List ByteArray) (l2 : List ByteArray) (l3 : List Int) : Option (Bool) := (patchworklaw12_alive.f).bind fun t209 => (if t209 = true then ((patchworklaw9_Short.f k l0).bind fun t210 => (if t210 = true then ((patchworklaw9_Short.f k l1).bind fun t211 => (if t211 = true then ((patchworklaw9_Short.f k l2).bind fun t212 => (if t212 = true then (if (l0.length : Int) > 40 then (patchworklaw12_LcsBounds.j0 k l0 l1 l2 l3 t209 true) else (if (l1.length : Int) > 40 then (patchworklaw12_LcsBounds.j0 k l0 l1 l2 l3 t209 true) else (if (l2.length : Int) > 40 then (patchworklaw12_LcsBounds.j0 k l0 l1 l2 l3 t209 true) else (patchworklaw12_LcsBounds.j0 k l0 l1 l2 l3 t209 (decide ((l3.length : Int) < (l0.length : Int))))))) else (patchworklaw12_LcsBounds.j0 k l0 l1 l2 l3 t209 true))) else (patchworklaw12_LcsBounds.j0 k l0 l1 l2 l3 t209 true))) else (patchworklaw12_LcsBounds.j0 k l0 l1 l2 l3 t209 true))) else (patchworklaw12_LcsBounds.j0 k l0 l1 l2 l3 t209 true))
theorem patchworklaw12_LcsBounds.mono_l : ∀ k, (∀ y0 y1 y2 y3 y4 y5, LeO (patchworklaw12_LcsBounds.j0 k y0 y1 y2 y3 y4 y5) (patchworklaw12_LcsBounds.j0 (k + 1) y0 y1 y2 y3 y4 y5)) ∧ (∀ y0 y1 y2 y3 y4 y5, LeO (patchworklaw12_LcsBounds.l0 k y0 y1 y2 y3 y4 y5) (patchworklaw12_LcsBounds.l0 (k + 1) y0 y1 y2 y3 y4 y5))
  | 0 => ⟨fun _ _ _ _ _ _ r h => by simp [patchworklaw12_LcsBounds.j0] at h, fun _ _ _ _ _ _ r h => by simp [patchworklaw12_LcsBounds.l0] at h⟩
  | k + 1 => by
    obtain ⟨ih0, ih1⟩ := patchworklaw12_LcsBounds.mono_l k
    refine ⟨?_, ?_⟩
    · intro y0 y1 y2 y3 y4 y5
      unfold patchworklaw12_LcsBounds.j0
      repeat' first
      | (with_reducible exact ih0 _ _ _ _ _ _)
      | (with_reducible exact ih1 _ _ _ _ _ _)
      | (with_reducible exact patchworklaw9_Short.mono _ _)
      | (with_reducible exact LeO.refl _)
      | (with_reducible exact LeO.none _)
      | (with_reducible refine LeO.ite ?_ ?_)
      | (with_reducible refine LeO.bind ?_ (fun _ => ?_))
      | exact ih0 _ _ _ _ _ _
      | exact ih1 _ _ _ _ _ _
      | exact patchworklaw9_Short.mono _ _
      | exact LeO.none _
      | refine LeO.ite ?_ ?_
      | refine LeO.bind ?_ (fun _ => ?_)
    · intro y0 y1 y2 y3 y4 y5
      unfold patchworklaw12_LcsBounds.l0
      repeat' first
      | (with_reducible exact ih0 _ _ _ _ _ _)
      | (with_reducible exact ih1 _ _ _ _ _ _)
      | (with_reducible exact patchworklaw9_Short.mono _ _)
      | (with_reducible exact LeO.refl _)
      | (with_reducible exact LeO.none _)
      | (with_reducible refine LeO.ite ?_ ?_)
      | (with_reducible refine LeO.bind ?_ (fun _ => ?_))
      | exact ih0 _ _ _ _ _ _
      | exact ih1 _ _ _ _ _ _
      | exact patchworklaw9_Short.mono _ _
      | exact LeO.none _
      | refine LeO.ite ?_ ?_
      | refine LeO.bind ?_ (fun _ => ?_)
theorem patchworklaw12_LcsBounds.mono : ∀ a0 a1 a2 a3 k, LeO (patchworklaw12_LcsBounds.f k a0 a1 a2 a3) (patchworklaw12_LcsBounds.f (k + 1) a0 a1 a2 a3) := by
  intro a0 a1 a2 a3 k
  obtain ⟨ih0, ih1⟩ := patchworklaw12_LcsBounds.mono_l k
  unfold patchworklaw12_LcsBounds.f
  repeat' first
      | (with_reducible exact ih0 _ _ _ _ _ _)
      | (with_reducible exact ih1 _ _ _ _ _ _)
      | (with_reducible exact patchworklaw9_Short.mono _ _)
      | (with_reducible exact LeO.refl _)
      | (with_reducible exact LeO.none _)
      | (with_reducible refine LeO.ite ?_ ?_)
      | (with_reducible refine LeO.bind ?_ (fun _ => ?_))
      | exact ih0 _ _ _ _ _ _
      | exact ih1 _ _ _ _ _ _
      | exact patchworklaw9_Short.mono _ _
      | exact LeO.none _
      | refine LeO.ite ?_ ?_
      | refine LeO.bind ?_ (fun _ => ?_)

mutual
def patchworklaw12_LcsSame.j0 : Nat → List ByteArray → List ByteArray → Bool → Bool → Option (Bool)
  | 0, _, _, _, _ => none
  | k + 1, x0, x1, x5, x33 => if x33 = true then (some x5) else ((lcs_Diff.f x0 x0).bind fun t250 => ((lcs_Diff.f ([] : List ByteArray) x0).bind fun t253 => ((lcs_Diff.f x0 ([] : List ByteArray)).bind fun t256 => (if (t250.length : Int) = (x0.length : Int) then (if (t253.length : Int) = (x0.length : Int) then (patchworklaw12_LcsSame.j1 k x0 x1 t250 t253 t256 ((t256.length : Int) != (x0.length : Int))) else (patchworklaw12_LcsSame.j1 k x0 x1 t250 t253 t256 true)) else (patchworklaw12_LcsSame.j1 k x0 x1 t250 t253 t256 true)))))
def patchworklaw12_LcsSame.j1 : Nat → List ByteArray → List ByteArray → List (Op) → List (Op) → List (Op) → Bool → Option (Bool)
  | 0, _, _, _, _, _, _ => none
  | k + 1, x0, x1, x6, x7, x8, x60 => if x60 = true then (some false) else (patchworklaw12_LcsSame.l0 k x0 x1 x6 x7 x8 0)
def patchworklaw12_LcsSame.l0 : Nat → List ByteArray → List ByteArray → List (Op) → List (Op) → List (Op) → Int → Option (Bool)
  | 0, _, _, _, _, _, _ => none
  | k + 1, x0, x1, x6, x7, x8, x9 => if x9 < (x0.length : Int) then (if 0 ≤ x9 then (if x9 < (x6.length : Int) then (if (!(((rd_Op x6 x9).f0) == 2) || (!(((rd_Op x6 x9).f1) == 0) || (!((((rd_Op x6 x9).f2).toList) == ((rdOf ByteArray.empty x0 x9).toList))))) = true then (some false) else (if x9 < (x7.length : Int) then (if (!(((rd_Op x7 x9).f0) == 4) || (!(((rd_Op x7 x9).f1) == 0) || (!((((rd_Op x7 x9).f2).toList) == ((rdOf ByteArray.empty x0 x9).toList))))) = true then (some false) else (if x9 < (x8.length : Int) then (if (!(((rd_Op x8 x9).f0) == 3) || (!(((rd_Op x8 x9).f1) == 0) || (!((((rd_Op x8 x9).f2).toList) == ((rdOf ByteArray.empty x0 x9).toList))))) = true then (some false) else (patchworklaw12_LcsSame.l0 k x0 x1 x6 x7 x8 (wrap64 (x9 + 1)))) else (none))) else (none))) else (none)) else (none)) else ((lcs_Len.f x0 x1).bind fun t265 => (if t265 > 0 then (some true) else ((lcs_Diff.f x0 x1).bind fun t266 => (if ([] : List (Op)).length + x8.length < 4398046511104 then ((some (([] : List (Op)) ++ x8 : List (Op))).bind fun y269 => ((lcs_Diff.f ([] : List ByteArray) x1).bind fun t272 => (if y269.length + t272.length < 4398046511104 then ((patchworkref8_Same.f k t266 (y269 ++ t272)).bind fun t278 => (some t278)) else (none)))) else (none)))))
end
def patchworklaw12_LcsSame.f (k : Nat) (l0 : List ByteArray) (l1 : List ByteArray) : Option (Bool) := (patchworklaw12_alive.f).bind fun t247 => (if t247 = true then ((patchworklaw9_Short.f k l0).bind fun t248 => (if t248 = true then ((patchworklaw9_Short.f k l1).bind fun t249 => (if t249 = true then (if (l0.length : Int) > 40 then (patchworklaw12_LcsSame.j0 k l0 l1 t247 true) else (patchworklaw12_LcsSame.j0 k l0 l1 t247 (decide ((l1.length : Int) > 40)))) else (patchworklaw12_LcsSame.j0 k l0 l1 t247 true))) else (patchworklaw12_LcsSame.j0 k l0 l1 t247 true))) else (patchworklaw12_LcsSame.j0 k l0 l1 t247 true))
theorem patchworklaw12_LcsSame.mono_l : ∀ k, (∀ y0 y1 y2 y3, LeO (patchworklaw12_LcsSame.j0 k y0 y1 y2 y3) (patchworklaw12_LcsSame.j0 (k + 1) y0 y1 y2 y3)) ∧ (∀ y0 y1 y2 y3 y4 y5, LeO (patchworklaw12_LcsSame.j1 k y0 y1 y2 y3 y4 y5) (patchworklaw12_LcsSame.j1 (k + 1) y0 y1 y2 y3 y4 y5)) ∧ (∀ y0 y1 y2 y3 y4 y5, LeO (patchworklaw12_LcsSame.l0 k y0 y1 y2 y3 y4 y5) (patchworklaw12_LcsSame.l0 (k + 1) y0 y1 y2 y3 y4 y5))
  | 0 => ⟨fun _ _ _ _ r h => by simp [patchworklaw12_LcsSame.j0] at h, fun _ _ _ _ _ _ r h => by simp [patchworklaw12_LcsSame.j1] at h, fun _ _ _ _ _ _ r h => by simp [patchworklaw12_LcsSame.l0] at h⟩
  | k + 1 => by
    obtain ⟨ih0, ih1, ih2⟩ := patchworklaw12_LcsSame.mono_l k
    refine ⟨?_, ?_, ?_⟩
    · intro y0 y1 y2 y3
      unfold patchworklaw12_LcsSame.j0
      repeat' first
      | (with_reducible exact ih0 _ _ _ _)
      | (with_reducible exact ih1 _ _ _ _ _ _)
      | (with_reducible exact ih2 _ _ _ _ _ _)
      | (with_reducible exact patchworklaw9_Short.mono _ _)
      | (with_reducible exact patchworkref8_Same.mono _ _ _)
      | (with_reducible exact LeO.refl _)
      | (with_reducible exact LeO.none _)
      | (with_reducible refine LeO.ite ?_ ?_)
      | (with_reducible refine LeO.bind ?_ (fun _ => ?_))
      | exact ih0 _ _ _ _
      | exact ih1 _ _ _ _ _ _
      | exact ih2 _ _ _ _ _ _
      | exact patchworklaw9_Short.mono _ _
      | exact patchworkref8_Same.mono _ _ _
      | exact LeO.none _
      | refine LeO.ite ?_ ?_
      | refine LeO.bind ?_ (fun _ => ?_)
    · intro y0 y1 y2 y3 y4 y5
      unfold patchworklaw12_LcsSame.j1
      repeat' first
      | (with_reducible exact ih0 _ _ _ _)
      | (with_reducible exact ih1 _ _ _ _ _ _)
      | (with_reducible exact ih2 _ _ _ _ _ _)
      | (with_reducible exact patchworklaw9_Short.mono _ _)
      | (with_reducible exact patchworkref8_Same.mono _ _ _)
      | (with_reducible exact LeO.refl _)
      | (with_reducible exact LeO.none _)
      | (with_reducible refine LeO.ite ?_ ?_)
      | (with_reducible refine LeO.bind ?_ (fun _ => ?_))
      | exact ih0 _ _ _ _
      | exact ih1 _ _ _ _ _ _
      | exact ih2 _ _ _ _ _ _
      | exact patchworklaw9_Short.mono _ _
      | exact patchworkref8_Same.mono _ _ _
      | exact LeO.none _
      | refine LeO.ite ?_ ?_
      | refine LeO.bind ?_ (fun _ => ?_)
    · intro y0 y1 y2 y3 y4 y5
      unfold patchworklaw12_LcsSame.l0
      repeat' first
      | (with_reducible exact ih0 _ _ _ _)
      | (with_reducible exact ih1 _ _ _ _ _ _)
      | (with_reducible exact ih2 _ _ _ _ _ _)
      | (with_reducible exact patchworklaw9_Short.mono _ _)
      | (with_reducible exact patchworkref8_Same.mono _ _ _)
      | (with_reducible exact LeO.refl _)
      | (with_reducible exact LeO.none _)
      | (with_reducible refine LeO.ite ?_ ?_)
      | (with_reducible refine LeO.bind ?_ (fun _ => ?_))
      | exact ih0 _ _ _ _
      | exact ih1 _ _ _ _ _ _
      | exact ih2 _ _ _ _ _ _
      | exact patchworklaw9_Short.mono _ _
      | exact patchworkref8_Same.mono _ _ _
      | exact LeO.none _
      | refine LeO.ite ?_ ?_
      | refine LeO.bind ?_ (fun _ => ?_)
theorem patchworklaw12_LcsSame.mono : ∀ a0 a1 k, LeO (patchworklaw12_LcsSame.f k a0 a1) (patchworklaw12_LcsSame.f (k + 1) a0 a1) := by
  intro a0 a1 k
  obtain ⟨ih0, ih1, ih2⟩ := patchworklaw12_LcsSame.mono_l k
  unfold patchworklaw12_LcsSame.f
  repeat' first
      | (with_reducible exact ih0 _ _ _ _)
      | (with_reducible exact ih1 _ _ _ _ _ _)
      | (with_reducible exact ih2 _ _ _ _ _ _)
      | (with_reducible exact patchworklaw9_Short.mono _ _)
      | (with_reducible exact patchworkref8_Same.mono _ _ _)
      | (with_reducible exact LeO.refl _)
      | (with_reducible exact LeO.none _)
      | (with_reducible refine LeO.ite ?_ ?_)
      | (with_reducible refine LeO.bind ?_ (fun _ => ?_))
      | exact ih0 _ _ _ _
      | exact ih1 _ _ _ _ _ _
      | exact ih2 _ _ _ _ _ _
      | exact patchworklaw9_Short.mono _ _
      | exact patchworkref8_Same.mono _ _ _
      | exact LeO.none _
      | refine LeO.ite ?_ ?_
      | refine LeO.bind ?_ (fun _ => ?_)

end Go.Proofs.Ytbmcpfbhcafkdaa.P
