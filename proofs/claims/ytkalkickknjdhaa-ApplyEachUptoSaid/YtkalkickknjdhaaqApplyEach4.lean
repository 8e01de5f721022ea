/- Own and printed texts that the theorem of ApplyEach reaches, put together. -/
import Derived.Test.YtkalkickknjdhaaqApplyEach3
set_option linter.unusedVariables false
set_option linter.unusedSimpArgs false
namespace Go.Proofs.Ytkalkickknjdhaa.P
open Go.RowKit Go.Proofs.YtkalkickknjdhaaW.PrintWords Go.Proofs.YtkalkickknjdhaaW.PrintLast Go.Proofs.YtkalkickknjdhaaW.PrintMore
attribute [local go_sem] max2_int min2_int max_two min_two max_three min_three max_four min_four
def ops_New.f (a0 : Int) : Option (Bool) := if a0 = 1 then (some true) else (if a0 = 2 then (some true) else (some (a0 == 4)))
def ops_Old.f (a0 : Int) : Option (Bool) := if a0 = 1 then (some true) else (if a0 = 2 then (some true) else (some (a0 == 3)))
def ops_Change.f (a0 : Int) : Option (Bool) := if a0 = 3 then (some true) else (some (a0 == 4))
def strings_Contains.f (a0 : ByteArray) (a1 : ByteArray) : Option (Bool) := match a1.data.toList with
 | [c] => some (decide (c ∈ a0.data.toList))
 | _ => none
theorem has_byte (l : List UInt8) (c : UInt8) : decide (0 ≤ Lib.indexByte l c) = decide (c ∈ l) := by
 have h : (0 ≤ Lib.indexByte l c) ↔ c ∈ l := by
  induction l with
  | nil => simp [Lib.indexByte]
  | cons b l ih =>
   have hg := Lib.indexByte_ge l c
   by_cases hb : b = c
   ·subst hb; simp [Lib.indexByte]
   ·have hb' : ¬ c = b := fun e => hb e.symm
    by_cases hm : Lib.indexByte l c = -1
    ·have : ¬ c ∈ l := fun hc => by have := ih.mpr hc; omega
     simp [Lib.indexByte, hb, hb', hm, this]
    ·have : c ∈ l := ih.mp (by omega)
     simp [Lib.indexByte, hb, hm, this]; omega
 simp only [h]
def stringslite_HasSuffix.f (a0 : ByteArray) (a1 : ByteArray) : Option (Bool) := if (a0.size : Int) ≥ (a1.size : Int) then (if 0 ≤ (wrap64 ((a0.size : Int) - (a1.size : Int))) then (if (wrap64 ((a0.size : Int) - (a1.size : Int))) ≤ (a0.size : Int) then (some ((a0.extract ((wrap64 ((a0.size : Int) - (a1.size : Int))) : Int).toNat a0.size).toList == a1.toList)) else (none)) else (none)) else (some false)
def stringslite_TrimSuffix.f (a0 : ByteArray) (a1 : ByteArray) : Option (ByteArray) := (stringslite_HasSuffix.f a0 a1).bind fun t101 => (if t101 = true then (if 0 ≤ (wrap64 ((a0.size : Int) - (a1.size : Int))) then (if (wrap64 ((a0.size : Int) - (a1.size : Int))) ≤ (a0.size : Int) then (some (a0.extract 0 ((wrap64 ((a0.size : Int) - (a1.size : Int))) : Int).toNat)) else (none)) else (none)) else (some a0))
def strings_TrimSuffix.f (a0 : ByteArray) (a1 : ByteArray) : Option (ByteArray) := (stringslite_TrimSuffix.f a0 a1).bind fun t102 => (some t102)
def lines_Right.f (a0 : ByteArray) : Option (Bool) := if a0.toList = ([] : List UInt8) then (some false) else ((strings_TrimSuffix.f a0 (⟨#[10]⟩ : ByteArray)).bind fun t103 => ((strings_Contains.f t103 (⟨#[10]⟩ : ByteArray)).bind fun t104 => (some (!t104))))
def ops_one.f (a0_0 : Int) (a0_1 : Int) (a0_2 : ByteArray) : Option (Bool) := if a0_0 = 1 then (if a0_1 ≥ 1 then (if a0_1 ≤ 2147483648 then (some (a0_2.toList == ([] : List UInt8))) else (some false)) else (some false)) else (if a0_0 = 2 then (if a0_1 = 0 then ((lines_Right.f a0_2).bind fun t106 => (some t106)) else (some false)) else ((ops_Change.f a0_0).bind fun t107 => (if t107 = true then (if a0_1 = 0 then ((lines_Right.f a0_2).bind fun t108 => (some t108)) else (some false)) else (some false))))
def ops_Right_1.f (a0_0 : Int) (a0_1 : Int) (a0_2 : ByteArray) : Option (Bool) := (ops_one.f a0_0 a0_1 a0_2).bind fun t110 => (some (!t110))
def ops_count.l0 : Nat → Int → Int → List (Op) → Int → Int → Option (Int)
 | 0, _, _, _, _, _ => none
 | k + 1, x1, x5, x8, x9, x10 => if x10 < x9 then (if 0 ≤ x10 then (if x10 < (x8.length : Int) then (if ((rd_Op x8 x10).f0) = 1 then (ops_count.l0 k x1 (mn (wrap64 (x5 + (mx 0 (mn ((rd_Op x8 x10).f1) 1099511627776)))) 1099511627776) x8 x9 (wrap64 (x10 + 1))) else (if ((rd_Op x8 x10).f0) = 2 then (ops_count.l0 k x1 (mn (wrap64 (x5 + 1)) 1099511627776) x8 x9 (wrap64 (x10 + 1))) else (if ((rd_Op x8 x10).f0) = x1 then (ops_count.l0 k x1 (mn (wrap64 (x5 + 1)) 1099511627776) x8 x9 (wrap64 (x10 + 1))) else (ops_count.l0 k x1 (mn x5 1099511627776) x8 x9 (wrap64 (x10 + 1)))))) else (none)) else (none)) else (some x5)
def ops_count.f (k : Nat) (l0 : List (Op)) (a1 : Int) : Option (Int) := ops_count.l0 k a1 0 l0 (l0.length : Int) 0
theorem ops_count.mono_l : ∀ k, (∀ y0 y1 y2 y3 y4, LeO (ops_count.l0 k y0 y1 y2 y3 y4) (ops_count.l0 (k + 1) y0 y1 y2 y3 y4))
 | 0 => fun _ _ _ _ _ r h => by simp [ops_count.l0] at h
 | k + 1 => by
  have ih0 := ops_count.mono_l k
  ·intro y0 y1 y2 y3 y4
   unfold ops_count.l0
   repeat' first
   | (with_reducible exact ih0 _ _ _ _ _)
   | (with_reducible exact LeO.refl _)
   | (with_reducible exact LeO.none _)
   | (with_reducible refine LeO.ite ?_ ?_)
   | (with_reducible refine LeO.bind ?_ (fun _ => ?_))
   | exact ih0 _ _ _ _ _
   | exact LeO.none _
   | refine LeO.ite ?_ ?_
   | refine LeO.bind ?_ (fun _ => ?_)
theorem ops_count.mono : ∀ a0 a1 k, LeO (ops_count.f k a0 a1) (ops_count.f (k + 1) a0 a1) := by
 intro a0 a1 k
 have ih0 := ops_count.mono_l k
 unfold ops_count.f
 repeat' first
   | (with_reducible exact ih0 _ _ _ _ _)
   | (with_reducible exact LeO.refl _)
   | (with_reducible exact LeO.none _)
   | (with_reducible refine LeO.ite ?_ ?_)
   | (with_reducible refine LeO.bind ?_ (fun _ => ?_))
   | exact ih0 _ _ _ _ _
   | exact LeO.none _
   | refine LeO.ite ?_ ?_
   | refine LeO.bind ?_ (fun _ => ?_)
def ops_Olds.f (k : Nat) (l0 : List (Op)) : Option (Int) := (ops_count.f k l0 3).bind fun t113 => (some t113)
theorem ops_Olds.mono : ∀ a0 k, LeO (ops_Olds.f k a0) (ops_Olds.f (k + 1) a0) := by
 intro a0 k
 unfold ops_Olds.f
 repeat' first
   | (with_reducible exact ops_count.mono _ _ _)
   | (with_reducible exact LeO.refl _)
   | (with_reducible exact LeO.none _)
   | (with_reducible refine LeO.ite ?_ ?_)
   | (with_reducible refine LeO.bind ?_ (fun _ => ?_))
   | exact ops_count.mono _ _ _
   | exact LeO.none _
   | refine LeO.ite ?_ ?_
   | refine LeO.bind ?_ (fun _ => ?_)
def ops_News.f (k : Nat) (l0 : List (Op)) : Option (Int) := (ops_count.f k l0 4).bind fun t114 => (some t114)
theorem ops_News.mono : ∀ a0 k, LeO (ops_News.f k a0) (ops_News.f (k + 1) a0) := by
 intro a0 k
 unfold ops_News.f
 repeat' first
   | (with_reducible exact ops_count.mono _ _ _)
   | (with_reducible exact LeO.refl _)
   | (with_reducible exact LeO.none _)
   | (with_reducible refine LeO.ite ?_ ?_)
   | (with_reducible refine LeO.bind ?_ (fun _ => ?_))
   | exact ops_count.mono _ _ _
   | exact LeO.none _
   | refine LeO.ite ?_ ?_
   | refine LeO.bind ?_ (fun _ => ?_)
def strings_HasSuffix.f (a0 : ByteArray) (a1 : ByteArray) : Option (Bool) := (stringslite_HasSuffix.f a0 a1).bind fun t115 => (some t115)
def lines_Closed.f (a0 : ByteArray) : Option (Bool) := (strings_HasSuffix.f a0 (⟨#[10]⟩ : ByteArray)).bind fun t116 => (some t116)
def slices_IndexFunc_Op_ops_Right_1.l0 : Nat → List (Op) → Int → Int → Option (Int)
 | 0, _, _, _ => none
 | k + 1, x0, x7, x8 => if x8 < x7 then (if 0 ≤ x8 then (if x8 < (x0.length : Int) then ((ops_Right_1.f ((rd_Op x0 x8).f0) ((rd_Op x0 x8).f1) ((rd_Op x0 x8).f2)).bind fun t118 => (if t118 = true then (some x8) else (slices_IndexFunc_Op_ops_Right_1.l0 k x0 x7 (wrap64 (x8 + 1))))) else (none)) else (none)) else (some (-1))
def slices_IndexFunc_Op_ops_Right_1.f (k : Nat) (l0 : List (Op))  : Option (Int) := slices_IndexFunc_Op_ops_Right_1.l0 k l0 (l0.length : Int) 0
theorem slices_IndexFunc_Op_ops_Right_1.mono_l : ∀ k, (∀ y0 y1 y2, LeO (slices_IndexFunc_Op_ops_Right_1.l0 k y0 y1 y2) (slices_IndexFunc_Op_ops_Right_1.l0 (k + 1) y0 y1 y2))
 | 0 => fun _ _ _ r h => by simp [slices_IndexFunc_Op_ops_Right_1.l0] at h
 | k + 1 => by
  have ih0 := slices_IndexFunc_Op_ops_Right_1.mono_l k
  ·intro y0 y1 y2
   unfold slices_IndexFunc_Op_ops_Right_1.l0
   repeat' first
   | (with_reducible exact ih0 _ _ _)
   | (with_reducible exact LeO.refl _)
   | (with_reducible exact LeO.none _)
   | (with_reducible refine LeO.ite ?_ ?_)
   | (with_reducible refine LeO.bind ?_ (fun _ => ?_))
   | exact ih0 _ _ _
   | exact LeO.none _
   | refine LeO.ite ?_ ?_
   | refine LeO.bind ?_ (fun _ => ?_)
theorem slices_IndexFunc_Op_ops_Right_1.mono : ∀ a0 k, LeO (slices_IndexFunc_Op_ops_Right_1.f k a0) (slices_IndexFunc_Op_ops_Right_1.f (k + 1) a0) := by
 intro a0 k
 have ih0 := slices_IndexFunc_Op_ops_Right_1.mono_l k
 unfold slices_IndexFunc_Op_ops_Right_1.f
 repeat' first
   | (with_reducible exact ih0 _ _ _)
   | (with_reducible exact LeO.refl _)
   | (with_reducible exact LeO.none _)
   | (with_reducible refine LeO.ite ?_ ?_)
   | (with_reducible refine LeO.bind ?_ (fun _ => ?_))
   | exact ih0 _ _ _
   | exact LeO.none _
   | refine LeO.ite ?_ ?_
   | refine LeO.bind ?_ (fun _ => ?_)
def slices_ContainsFunc_Op_ops_Right_1.f (k : Nat) (l0 : List (Op))  : Option (Bool) := (slices_IndexFunc_Op_ops_Right_1.f k l0).bind fun t119 => (some (decide (t119 ≥ 0)))
theorem slices_ContainsFunc_Op_ops_Right_1.mono : ∀ a0 k, LeO (slices_ContainsFunc_Op_ops_Right_1.f k a0) (slices_ContainsFunc_Op_ops_Right_1.f (k + 1) a0) := by
 intro a0 k
 unfold slices_ContainsFunc_Op_ops_Right_1.f
 repeat' first
   | (with_reducible exact slices_IndexFunc_Op_ops_Right_1.mono _ _)
   | (with_reducible exact LeO.refl _)
   | (with_reducible exact LeO.none _)
   | (with_reducible refine LeO.ite ?_ ?_)
   | (with_reducible refine LeO.bind ?_ (fun _ => ?_))
   | exact slices_IndexFunc_Op_ops_Right_1.mono _ _
   | exact LeO.none _
   | refine LeO.ite ?_ ?_
   | refine LeO.bind ?_ (fun _ => ?_)
def ops_closed_ops_Old.l0 : Nat → Bool → List (Op) → Int → Int → Option (Bool)
 | 0, _, _, _, _ => none
 | k + 1, x5, x8, x9, x10 => if x10 < x9 then (if 0 ≤ x10 then (if x10 < (x8.length : Int) then ((ops_Old.f ((rd_Op x8 x10).f0)).bind fun t122 => (if t122 = true then (if x5 = true then (some false) else (if ((rd_Op x8 x10).f0) = 1 then (ops_closed_ops_Old.l0 k false x8 x9 (wrap64 (x10 + 1))) else ((lines_Closed.f ((rd_Op x8 x10).f2)).bind fun t123 => (ops_closed_ops_Old.l0 k (!t123) x8 x9 (wrap64 (x10 + 1)))))) else (ops_closed_ops_Old.l0 k x5 x8 x9 (wrap64 (x10 + 1))))) else (none)) else (none)) else (some true)
def ops_closed_ops_Old.f (k : Nat) (l0 : List (Op))  : Option (Bool) := ops_closed_ops_Old.l0 k false l0 (l0.length : Int) 0
theorem ops_closed_ops_Old.mono_l : ∀ k, (∀ y0 y1 y2 y3, LeO (ops_closed_ops_Old.l0 k y0 y1 y2 y3) (ops_closed_ops_Old.l0 (k + 1) y0 y1 y2 y3))
 | 0 => fun _ _ _ _ r h => by simp [ops_closed_ops_Old.l0] at h
 | k + 1 => by
  have ih0 := ops_closed_ops_Old.mono_l k
  ·intro y0 y1 y2 y3
   unfold ops_closed_ops_Old.l0
   repeat' first
   | (with_reducible exact ih0 _ _ _ _)
   | (with_reducible exact LeO.refl _)
   | (with_reducible exact LeO.none _)
   | (with_reducible refine LeO.ite ?_ ?_)
   | (with_reducible refine LeO.bind ?_ (fun _ => ?_))
   | exact ih0 _ _ _ _
   | exact LeO.none _
   | refine LeO.ite ?_ ?_
   | refine LeO.bind ?_ (fun _ => ?_)
theorem ops_closed_ops_Old.mono : ∀ a0 k, LeO (ops_closed_ops_Old.f k a0) (ops_closed_ops_Old.f (k + 1) a0) := by
 intro a0 k
 have ih0 := ops_closed_ops_Old.mono_l k
 unfold ops_closed_ops_Old.f
 repeat' first
   | (with_reducible exact ih0 _ _ _ _)
   | (with_reducible exact LeO.refl _)
   | (with_reducible exact LeO.none _)
   | (with_reducible refine LeO.ite ?_ ?_)
   | (with_reducible refine LeO.bind ?_ (fun _ => ?_))
   | exact ih0 _ _ _ _
   | exact LeO.none _
   | refine LeO.ite ?_ ?_
   | refine LeO.bind ?_ (fun _ => ?_)
def ops_closed_ops_New.l0 : Nat → Bool → List (Op) → Int → Int → Option (Bool)
 | 0, _, _, _, _ => none
 | k + 1, x5, x8, x9, x10 => if x10 < x9 then (if 0 ≤ x10 then (if x10 < (x8.length : Int) then ((ops_New.f ((rd_Op x8 x10).f0)).bind fun t126 => (if t126 = true then (if x5 = true then (some false) else (if ((rd_Op x8 x10).f0) = 1 then (ops_closed_ops_New.l0 k false x8 x9 (wrap64 (x10 + 1))) else ((lines_Closed.f ((rd_Op x8 x10).f2)).bind fun t127 => (ops_closed_ops_New.l0 k (!t127) x8 x9 (wrap64 (x10 + 1)))))) else (ops_closed_ops_New.l0 k x5 x8 x9 (wrap64 (x10 + 1))))) else (none)) else (none)) else (some true)
def ops_closed_ops_New.f (k : Nat) (l0 : List (Op))  : Option (Bool) := ops_closed_ops_New.l0 k false l0 (l0.length : Int) 0
theorem ops_closed_ops_New.mono_l : ∀ k, (∀ y0 y1 y2 y3, LeO (ops_closed_ops_New.l0 k y0 y1 y2 y3) (ops_closed_ops_New.l0 (k + 1) y0 y1 y2 y3))
 | 0 => fun _ _ _ _ r h => by simp [ops_closed_ops_New.l0] at h
 | k + 1 => by
  have ih0 := ops_closed_ops_New.mono_l k
  ·intro y0 y1 y2 y3
   unfold ops_closed_ops_New.l0
   repeat' first
   | (with_reducible exact ih0 _ _ _ _)
   | (with_reducible exact LeO.refl _)
   | (with_reducible exact LeO.none _)
   | (with_reducible refine LeO.ite ?_ ?_)
   | (with_reducible refine LeO.bind ?_ (fun _ => ?_))
   | exact ih0 _ _ _ _
   | exact LeO.none _
   | refine LeO.ite ?_ ?_
   | refine LeO.bind ?_ (fun _ => ?_)
theorem ops_closed_ops_New.mono : ∀ a0 k, LeO (ops_closed_ops_New.f k a0) (ops_closed_ops_New.f (k + 1) a0) := by
 intro a0 k
 have ih0 := ops_closed_ops_New.mono_l k
 unfold ops_closed_ops_New.f
 repeat' first
   | (with_reducible exact ih0 _ _ _ _)
   | (with_reducible exact LeO.refl _)
   | (with_reducible exact LeO.none _)
   | (with_reducible refine LeO.ite ?_ ?_)
   | (with_reducible refine LeO.bind ?_ (fun _ => ?_))
   | exact ih0 _ _ _ _
   | exact LeO.none _
   | refine LeO.ite ?_ ?_
   | refine LeO.bind ?_ (fun _ => ?_)
def ops_Right.f (k : Nat) (l0 : List (Op)) : Option (Bool) := (slices_ContainsFunc_Op_ops_Right_1.f k l0).bind fun t128 => (if t128 = true then (some false) else ((ops_Olds.f k l0).bind fun t129 => (if t129 ≤ 2147483648 then ((ops_News.f k l0).bind fun t130 => (if t130 ≤ 2147483648 then ((ops_closed_ops_Old.f k l0).bind fun t131 => (if t131 = true then ((ops_closed_ops_New.f k l0).bind fun t132 => (some t132)) else (some false))) else (some false))) else (some false))))
theorem ops_Right.mono : ∀ a0 k, LeO (ops_Right.f k a0) (ops_Right.f (k + 1) a0) := by
 intro a0 k
 unfold ops_Right.f
 repeat' first
   | (with_reducible exact ops_News.mono _ _)
   | (with_reducible exact ops_Olds.mono _ _)
   | (with_reducible exact ops_closed_ops_New.mono _ _)
   | (with_reducible exact ops_closed_ops_Old.mono _ _)
   | (with_reducible exact slices_ContainsFunc_Op_ops_Right_1.mono _ _)
   | (with_reducible exact LeO.refl _)
   | (with_reducible exact LeO.none _)
   | (with_reducible refine LeO.ite ?_ ?_)
   | (with_reducible refine LeO.bind ?_ (fun _ => ?_))
   | exact ops_News.mono _ _
   | exact ops_Olds.mono _ _
   | exact ops_closed_ops_New.mono _ _
   | exact ops_closed_ops_Old.mono _ _
   | exact slices_ContainsFunc_Op_ops_Right_1.mono _ _
   | exact LeO.none _
   | refine LeO.ite ?_ ?_
   | refine LeO.bind ?_ (fun _ => ?_)
def lines_Whole.l0 : Nat → List ByteArray → List ByteArray → Int → Int → Option (Bool)
 | 0, _, _, _, _ => none
 | k + 1, x0, x5, x6, x7 => if x7 < x6 then (if 0 ≤ x7 then (if x7 < (x5.length : Int) then ((lines_Right.f (rdOf ByteArray.empty x5 x7)).bind fun t134 => (if t134 = true then (if x7 < (wrap64 ((x0.length : Int) - 1)) then ((lines_Closed.f (rdOf ByteArray.empty x5 x7)).bind fun t135 => (if t135 = true then (lines_Whole.l0 k x0 x5 x6 (wrap64 (x7 + 1))) else (some false))) else (lines_Whole.l0 k x0 x5 x6 (wrap64 (x7 + 1)))) else (some false))) else (none)) else (none)) else (some true)
def lines_Whole.f (k : Nat) (l0 : List ByteArray) : Option (Bool) := lines_Whole.l0 k l0 l0 (l0.length : Int) 0
theorem lines_Whole.mono_l : ∀ k, (∀ y0 y1 y2 y3, LeO (lines_Whole.l0 k y0 y1 y2 y3) (lines_Whole.l0 (k + 1) y0 y1 y2 y3))
 | 0 => fun _ _ _ _ r h => by simp [lines_Whole.l0] at h
 | k + 1 => by
  have ih0 := lines_Whole.mono_l k
  ·intro y0 y1 y2 y3
   unfold lines_Whole.l0
   repeat' first
   | (with_reducible exact ih0 _ _ _ _)
   | (with_reducible exact LeO.refl _)
   | (with_reducible exact LeO.none _)
   | (with_reducible refine LeO.ite ?_ ?_)
   | (with_reducible refine LeO.bind ?_ (fun _ => ?_))
   | exact ih0 _ _ _ _
   | exact LeO.none _
   | refine LeO.ite ?_ ?_
   | refine LeO.bind ?_ (fun _ => ?_)
theorem lines_Whole.mono : ∀ a0 k, LeO (lines_Whole.f k a0) (lines_Whole.f (k + 1) a0) := by
 intro a0 k
 have ih0 := lines_Whole.mono_l k
 unfold lines_Whole.f
 repeat' first
   | (with_reducible exact ih0 _ _ _ _)
   | (with_reducible exact LeO.refl _)
   | (with_reducible exact LeO.none _)
   | (with_reducible refine LeO.ite ?_ ?_)
   | (with_reducible refine LeO.bind ?_ (fun _ => ?_))
   | exact ih0 _ _ _ _
   | exact LeO.none _
   | refine LeO.ite ?_ ?_
   | refine LeO.bind ?_ (fun _ => ?_)
mutual
def apply_Do.j0 : Nat → List (Op) → List ByteArray → Bool → Option (List ByteArray × Bool)
 | 0, _, _, _ => none
 | k + 1, x0, x1, x18 => if x18 = true then (some (([] : List ByteArray), false)) else (apply_Do.l0 k ([] : List ByteArray) x1 x0 (x0.length : Int) 0)
def apply_Do.l0 : Nat → List ByteArray → List ByteArray → List (Op) → Int → Int → Option (List ByteArray × Bool)
 | 0, _, _, _, _, _ => none
 | k + 1, x6, x7, x20, x21, x22 => if x22 < x21 then (if 0 ≤ x22 then (if x22 < (x20.length : Int) then (if ((rd_Op x20 x22).f0) = 1 then (apply_Do.j2 k x6 x7 ((rd_Op x20 x22).f1) x20 x21 x22 ((rd_Op x20 x22).f0) ((rd_Op x20 x22).f1) ((rd_Op x20 x22).f2)) else (apply_Do.j2 k x6 x7 1 x20 x21 x22 ((rd_Op x20 x22).f0) ((rd_Op x20 x22).f1) ((rd_Op x20 x22).f2))) else (none)) else (none)) else (if x6.length + x7.length < 8796093022208 then ((some (x6 ++ x7 : List ByteArray)).bind fun y138 => ((lines_Whole.f k y138).bind fun t141 => (if t141 = true then (some (y138, true)) else (some (([] : List ByteArray), false))))) else (none))
def apply_Do.j2 : Nat → List ByteArray → List ByteArray → Int → List (Op) → Int → Int → Int → Int → ByteArray → Option (List ByteArray × Bool)
 | 0, _, _, _, _, _, _, _, _, _ => none
 | k + 1, x6, x7, x10, x20, x21, x22, x144000, x144001, x144002 => (ops_Old.f x144000).bind fun t144 => (if t144 = true then (if x10 > (x7.length : Int) then (apply_Do.j3 k x6 x7 x10 x20 x21 x22 true x144000 x144001 x144002) else (if x144000 = 1 then (apply_Do.j3 k x6 x7 x10 x20 x21 x22 false x144000 x144001 x144002) else (if 0 < (x7.length : Int) then (apply_Do.j3 k x6 x7 x10 x20 x21 x22 ((rdOf ByteArray.empty x7 0).toList != x144002.toList) x144000 x144001 x144002) else (none)))) else (if x6.length < 8796093022208 then (apply_Do.l0 k (x6 ++ [x144002]) x7 x20 x21 (wrap64 (x22 + 1))) else (none)))
def apply_Do.j3 : Nat → List ByteArray → List ByteArray → Int → List (Op) → Int → Int → Bool → Int → Int → ByteArray → Option (List ByteArray × Bool)
 | 0, _, _, _, _, _, _, _, _, _, _ => none
 | k + 1, x6, x7, x10, x20, x21, x22, x50, x144000, x144001, x144002 => if x50 = true then (some (([] : List ByteArray), false)) else (if x144000 = 3 then (if 0 ≤ x10 then (if x10 ≤ (x7.length : Int) then (apply_Do.l0 k x6 (x7.drop (x10 : Int).toNat) x20 x21 (wrap64 (x22 + 1))) else (none)) else (none)) else (if 0 ≤ x10 then (if x10 ≤ (x7.length : Int) then ((some (x7.take (x10 : Int).toNat : List ByteArray)).bind fun y151 => (if x6.length + y151.length < 8796093022208 then (apply_Do.l0 k (x6 ++ y151) (x7.drop (x10 : Int).toNat) x20 x21 (wrap64 (x22 + 1))) else (none))) else (none)) else (none)))
end
def apply_Do.f (k : Nat) (l0 : List (Op)) (l1 : List ByteArray) : Option (List ByteArray × Bool) := (ops_Right.f k l0).bind fun t136 => (if t136 = true then ((lines_Whole.f k l1).bind fun t137 => (apply_Do.j0 k l0 l1 (!t137))) else (apply_Do.j0 k l0 l1 true))
theorem apply_Do.mono_l : ∀ k, (∀ y0 y1 y2, LeO (apply_Do.j0 k y0 y1 y2) (apply_Do.j0 (k + 1) y0 y1 y2)) ∧ (∀ y0 y1 y2 y3 y4, LeO (apply_Do.l0 k y0 y1 y2 y3 y4) (apply_Do.l0 (k + 1) y0 y1 y2 y3 y4)) ∧ (∀ y0 y1 y2 y3 y4 y5 y6 y7 y8, LeO (apply_Do.j2 k y0 y1 y2 y3 y4 y5 y6 y7 y8) (apply_Do.j2 (k + 1) y0 y1 y2 y3 y4 y5 y6 y7 y8)) ∧ (∀ y0 y1 y2 y3 y4 y5 y6 y7 y8 y9, LeO (apply_Do.j3 k y0 y1 y2 y3 y4 y5 y6 y7 y8 y9) (apply_Do.j3 (k + 1) y0 y1 y2 y3 y4 y5 y6 y7 y8 y9))
 | 0 => ⟨fun _ _ _ r h => by simp [apply_Do.j0] at h, fun _ _ _ _ _ r h => by simp [apply_Do.l0] at h, fun _ _ _ _ _ _ _ _ _ r h => by simp [apply_Do.j2] at h, fun _ _ _ _ _ _ _ _ _ _ r h => by simp [apply_Do.j3] at h⟩
 | k + 1 => by
  obtain ⟨ih0, ih1, ih2, ih3⟩ := apply_Do.mono_l k
  refine ⟨?_, ?_, ?_, ?_⟩
  ·intro y0 y1 y2
   unfold apply_Do.j0
   repeat' first
   | (with_reducible exact ih0 _ _ _)
   | (with_reducible exact ih1 _ _ _ _ _)
   | (with_reducible exact ih2 _ _ _ _ _ _ _ _ _)
   | (with_reducible exact ih3 _ _ _ _ _ _ _ _ _ _)
   | (with_reducible exact lines_Whole.mono _ _)
   | (with_reducible exact ops_Right.mono _ _)
   | (with_reducible exact LeO.refl _)
   | (with_reducible exact LeO.none _)
   | (with_reducible refine LeO.ite ?_ ?_)
   | (with_reducible refine LeO.bind ?_ (fun _ => ?_))
   | exact ih0 _ _ _
   | exact ih1 _ _ _ _ _
   | exact ih2 _ _ _ _ _ _ _ _ _
   | exact ih3 _ _ _ _ _ _ _ _ _ _
   | exact lines_Whole.mono _ _
   | exact ops_Right.mono _ _
   | exact LeO.none _
   | refine LeO.ite ?_ ?_
   | refine LeO.bind ?_ (fun _ => ?_)
  ·intro y0 y1 y2 y3 y4
   unfold apply_Do.l0
   repeat' first
   | (with_reducible exact ih0 _ _ _)
   | (with_reducible exact ih1 _ _ _ _ _)
   | (with_reducible exact ih2 _ _ _ _ _ _ _ _ _)
   | (with_reducible exact ih3 _ _ _ _ _ _ _ _ _ _)
   | (with_reducible exact lines_Whole.mono _ _)
   | (with_reducible exact ops_Right.mono _ _)
   | (with_reducible exact LeO.refl _)
   | (with_reducible exact LeO.none _)
   | (with_reducible refine LeO.ite ?_ ?_)
   | (with_reducible refine LeO.bind ?_ (fun _ => ?_))
   | exact ih0 _ _ _
   | exact ih1 _ _ _ _ _
   | exact ih2 _ _ _ _ _ _ _ _ _
   | exact ih3 _ _ _ _ _ _ _ _ _ _
   | exact lines_Whole.mono _ _
   | exact ops_Right.mono _ _
   | exact LeO.none _
   | refine LeO.ite ?_ ?_
   | refine LeO.bind ?_ (fun _ => ?_)
  ·intro y0 y1 y2 y3 y4 y5 y6 y7 y8
   unfold apply_Do.j2
   repeat' first
   | (with_reducible exact ih0 _ _ _)
   | (with_reducible exact ih1 _ _ _ _ _)
   | (with_reducible exact ih2 _ _ _ _ _ _ _ _ _)
   | (with_reducible exact ih3 _ _ _ _ _ _ _ _ _ _)
   | (with_reducible exact lines_Whole.mono _ _)
   | (with_reducible exact ops_Right.mono _ _)
   | (with_reducible exact LeO.refl _)
   | (with_reducible exact LeO.none _)
   | (with_reducible refine LeO.ite ?_ ?_)
   | (with_reducible refine LeO.bind ?_ (fun _ => ?_))
   | exact ih0 _ _ _
   | exact ih1 _ _ _ _ _
   | exact ih2 _ _ _ _ _ _ _ _ _
   | exact ih3 _ _ _ _ _ _ _ _ _ _
   | exact lines_Whole.mono _ _
   | exact ops_Right.mono _ _
   | exact LeO.none _
   | refine LeO.ite ?_ ?_
   | refine LeO.bind ?_ (fun _ => ?_)
  ·intro y0 y1 y2 y3 y4 y5 y6 y7 y8 y9
   unfold apply_Do.j3
   repeat' first
   | (with_reducible exact ih0 _ _ _)
   | (with_reducible exact ih1 _ _ _ _ _)
   | (with_reducible exact ih2 _ _ _ _ _ _ _ _ _)
   | (with_reducible exact ih3 _ _ _ _ _ _ _ _ _ _)
   | (with_reducible exact lines_Whole.mono _ _)
   | (with_reducible exact ops_Right.mono _ _)
   | (with_reducible exact LeO.refl _)
   | (with_reducible exact LeO.none _)
   | (with_reducible refine LeO.ite ?_ ?_)
   | (with_reducible refine LeO.bind ?_ (fun _ => ?_))
   | exact ih0 _ _ _
   | exact ih1 _ _ _ _ _
   | exact ih2 _ _ _ _ _ _ _ _ _
   | exact ih3 _ _ _ _ _ _ _ _ _ _
   | exact lines_Whole.mono _ _
   | exact ops_Right.mono _ _
   | exact LeO.none _
   | refine LeO.ite ?_ ?_
   | refine LeO.bind ?_ (fun _ => ?_)
theorem apply_Do.mono : ∀ a0 a1 k, LeO (apply_Do.f k a0 a1) (apply_Do.f (k + 1) a0 a1) := by
 intro a0 a1 k
 obtain ⟨ih0, ih1, ih2, ih3⟩ := apply_Do.mono_l k
 unfold apply_Do.f
 repeat' first
   | (with_reducible exact ih0 _ _ _)
   | (with_reducible exact ih1 _ _ _ _ _)
   | (with_reducible exact ih2 _ _ _ _ _ _ _ _ _)
   | (with_reducible exact ih3 _ _ _ _ _ _ _ _ _ _)
   | (with_reducible exact lines_Whole.mono _ _)
   | (with_reducible exact ops_Right.mono _ _)
   | (with_reducible exact LeO.refl _)
   | (with_reducible exact LeO.none _)
   | (with_reducible refine LeO.ite ?_ ?_)
   | (with_reducible refine LeO.bind ?_ (fun _ => ?_))
   | exact ih0 _ _ _
   | exact ih1 _ _ _ _ _
   | exact ih2 _ _ _ _ _ _ _ _ _
   | exact ih3 _ _ _ _ _ _ _ _ _ _
   | exact lines_Whole.mono _ _
   | exact ops_Right.mono _ _
   | exact LeO.none _
   | refine LeO.ite ?_ ?_
   | refine LeO.bind ?_ (fun _ => ?_)
def apply_Fits.f (k : Nat) (l0 : List (Op)) (l1 : List ByteArray) : Option (Bool) := (apply_Do.f k l0 l1).bind fun bt167 => (some bt167.2)
theorem apply_Fits.mono : ∀ a0 a1 k, LeO (apply_Fits.f k a0 a1) (apply_Fits.f (k + 1) a0 a1) := by
 intro a0 a1 k
 unfold apply_Fits.f
 repeat' first
   | (with_reducible exact apply_Do.mono _ _ _)
   | (with_reducible exact LeO.refl _)
   | (with_reducible exact LeO.none _)
   | (with_reducible refine LeO.ite ?_ ?_)
   | (with_reducible refine LeO.bind ?_ (fun _ => ?_))
   | exact apply_Do.mono _ _ _
   | exact LeO.none _
   | refine LeO.ite ?_ ?_
   | refine LeO.bind ?_ (fun _ => ?_)
def patchworklaw9_alive.f (k : Nat)  : Option (Bool) := (apply_Do.f k ([] : List (Op)) (([(⟨#[97, 10]⟩ : ByteArray)] : List ByteArray))).bind fun bt174 => ((apply_Do.f k (([(⟨2, 0, (⟨#[97, 10]⟩ : ByteArray)⟩ : Op), (⟨4, 0, (⟨#[98, 10]⟩ : ByteArray)⟩ : Op)] : List (Op))) (([(⟨#[97, 10]⟩ : ByteArray)] : List ByteArray))).bind fun bt184 => (if (bt174.1.length : Int) = 1 then (if bt174.2 = true then (if (bt184.1.length : Int) = 2 then (if bt184.2 = true then ((apply_Fits.f k ([] : List (Op)) ([] : List ByteArray)).bind fun t188 => (some t188)) else (some false)) else (some false)) else (some false)) else (some false)))
theorem patchworklaw9_alive.mono : ∀ k, LeO (patchworklaw9_alive.f k ) (patchworklaw9_alive.f (k + 1) ) := by
 intro  k
 unfold patchworklaw9_alive.f
 repeat' first
   | (with_reducible exact apply_Do.mono _ _ _)
   | (with_reducible exact apply_Fits.mono _ _ _)
   | (with_reducible exact LeO.refl _)
   | (with_reducible exact LeO.none _)
   | (with_reducible refine LeO.ite ?_ ?_)
   | (with_reducible refine LeO.bind ?_ (fun _ => ?_))
   | exact apply_Do.mono _ _ _
   | exact apply_Fits.mono _ _ _
   | exact LeO.none _
   | refine LeO.ite ?_ ?_
   | refine LeO.bind ?_ (fun _ => ?_)
def patchworklaw8_Few.l0 : Nat → List (Op) → Int → Int → Option (Bool)
 | 0, _, _, _ => none
 | k + 1, x0, x3, x4 => if x4 < (x0.length : Int) then (if 0 ≤ x4 then (patchworklaw8_Few.l0 k x0 (wrap64 ((wrap64 (x3 + 1)) + (((rd_Op x0 x4).f2).size : Int))) (wrap64 (x4 + 1))) else (none)) else (some (decide (x3 ≤ 600)))
def patchworkref1_Join.l0 : Nat → List ByteArray → List Int → Int → Option (ByteArray)
 | 0, _, _, _ => none
 | k + 1, x0, x3, x4 => if x4 < (x0.length : Int) then (if 0 ≤ x4 then (if x3.length + (rdOf ByteArray.empty x0 x4).size < 140737488355328 then (patchworkref1_Join.l0 k x0 (x3 ++ bytesOf (rdOf ByteArray.empty x0 x4)) (wrap64 (x4 + 1))) else (none)) else (none)) else (some (strOfNums x3))
def patchworkref1_Join.f (k : Nat) (l0 : List ByteArray) : Option (ByteArray) := patchworkref1_Join.l0 k l0 ([] : List Int) 0
theorem patchworkref1_Join.mono_l : ∀ k, (∀ y0 y1 y2, LeO (patchworkref1_Join.l0 k y0 y1 y2) (patchworkref1_Join.l0 (k + 1) y0 y1 y2))
 | 0 => fun _ _ _ r h => by simp [patchworkref1_Join.l0] at h
 | k + 1 => by
  have ih0 := patchworkref1_Join.mono_l k
  ·intro y0 y1 y2
   unfold patchworkref1_Join.l0
   repeat' first
   | (with_reducible exact ih0 _ _ _)
   | (with_reducible exact LeO.refl _)
   | (with_reducible exact LeO.none _)
   | (with_reducible refine LeO.ite ?_ ?_)
   | (with_reducible refine LeO.bind ?_ (fun _ => ?_))
   | exact ih0 _ _ _
   | exact LeO.none _
   | refine LeO.ite ?_ ?_
   | refine LeO.bind ?_ (fun _ => ?_)
theorem patchworkref1_Join.mono : ∀ a0 k, LeO (patchworkref1_Join.f k a0) (patchworkref1_Join.f (k + 1) a0) := by
 intro a0 k
 have ih0 := patchworkref1_Join.mono_l k
 unfold patchworkref1_Join.f
 repeat' first
   | (with_reducible exact ih0 _ _ _)
   | (with_reducible exact LeO.refl _)
   | (with_reducible exact LeO.none _)
   | (with_reducible refine LeO.ite ?_ ?_)
   | (with_reducible refine LeO.bind ?_ (fun _ => ?_))
   | exact ih0 _ _ _
   | exact LeO.none _
   | refine LeO.ite ?_ ?_
   | refine LeO.bind ?_ (fun _ => ?_)
def patchworkref8_old.f (a0_0 : Int) (a0_1 : Int) (a0_2 : ByteArray) : Option (Int) := if a0_0 = 1 then (if a0_1 > 0 then (some a0_1) else (some 0)) else (if a0_0 = 2 then (some 1) else (if a0_0 = 3 then (some 1) else (some 0)))
def patchworkref8_plus.f (a0 : Int) (a1 : Int) : Option (Int) := if a0 ≥ 1099511627776 then (some 1099511627776) else (if a1 ≥ 1099511627776 then (some 1099511627776) else (if (wrap64 (a0 + a1)) > 1099511627776 then (some 1099511627776) else (some (wrap64 (a0 + a1)))))
def patchworkref8_Olds.l0 : Nat → List (Op) → Int → Int → Option (Int)
 | 0, _, _, _ => none
 | k + 1, x0, x3, x4 => if x4 < (x0.length : Int) then (if 0 ≤ x4 then ((patchworkref8_old.f ((rd_Op x0 x4).f0) ((rd_Op x0 x4).f1) ((rd_Op x0 x4).f2)).bind fun t197 => ((patchworkref8_plus.f x3 t197).bind fun t198 => (patchworkref8_Olds.l0 k x0 t198 (wrap64 (x4 + 1))))) else (none)) else (some x3)
def patchworkref8_Olds.f (k : Nat) (l0 : List (Op)) : Option (Int) := patchworkref8_Olds.l0 k l0 0 0
def patchworkref8_fresh.f (a0_0 : Int) (a0_1 : Int) (a0_2 : ByteArray) : Option (Int) := if a0_0 = 3 then (some 0) else (if a0_0 = 4 then (some 1) else ((patchworkref8_old.f a0_0 a0_1 a0_2).bind fun t200 => (some t200)))
def patchworkref8_News.l0 : Nat → List (Op) → Int → Int → Option (Int)
 | 0, _, _, _ => none
 | k + 1, x0, x3, x4 => if x4 < (x0.length : Int) then (if 0 ≤ x4 then ((patchworkref8_fresh.f ((rd_Op x0 x4).f0) ((rd_Op x0 x4).f1) ((rd_Op x0 x4).f2)).bind fun t202 => ((patchworkref8_plus.f x3 t202).bind fun t203 => (patchworkref8_News.l0 k x0 t203 (wrap64 (x4 + 1))))) else (none)) else (some x3)
def patchworkref8_News.f (k : Nat) (l0 : List (Op)) : Option (Int) := patchworkref8_News.l0 k l0 0 0
def patchworkref1_RightLine.l0 : Nat → ByteArray → Int → Option (Bool)
 | 0, _, _ => none
 | k + 1, x0, x3 => if (wrap64 (x3 + 1)) < (x0.size : Int) then (if 0 ≤ x3 then (if x3 < (x0.size : Int) then (if (bt x0 x3) = 10 then (some false) else (patchworkref1_RightLine.l0 k x0 (wrap64 (x3 + 1)))) else (none)) else (none)) else (some (x0.toList != ([] : List UInt8)))
def patchworkref1_RightLine.f (k : Nat) (a0 : ByteArray) : Option (Bool) := patchworkref1_RightLine.l0 k a0 0
def patchworkref1_Open.f (a0 : ByteArray) : Option (Bool) := if a0.toList = ([] : List UInt8) then (some true) else (if 0 ≤ (wrap64 ((a0.size : Int) - 1)) then (if (wrap64 ((a0.size : Int) - 1)) < (a0.size : Int) then (some ((bt a0 (wrap64 ((a0.size : Int) - 1))) != 10)) else (none)) else (none))
mutual
def patchworkref8_Right.l0 : Nat → List (Op) → Bool → Bool → Int → Option (Bool)
 | 0, _, _, _, _ => none
 | k + 1, x0, x3, x4, x5 => if x5 < (x0.length : Int) then (if 0 ≤ x5 then ((patchworkref8_old.f ((rd_Op x0 x5).f0) ((rd_Op x0 x5).f1) ((rd_Op x0 x5).f2)).bind fun t208 => (if t208 > 0 then (if x3 = true then (patchworkref8_Right.j1 k x0 x3 x4 x5 true ((rd_Op x0 x5).f0) ((rd_Op x0 x5).f1) ((rd_Op x0 x5).f2)) else ((patchworkref8_fresh.f ((rd_Op x0 x5).f0) ((rd_Op x0 x5).f1) ((rd_Op x0 x5).f2)).bind fun t209 => (if t209 > 0 then (patchworkref8_Right.j1 k x0 x3 x4 x5 x4 ((rd_Op x0 x5).f0) ((rd_Op x0 x5).f1) ((rd_Op x0 x5).f2)) else (patchworkref8_Right.j1 k x0 x3 x4 x5 false ((rd_Op x0 x5).f0) ((rd_Op x0 x5).f1) ((rd_Op x0 x5).f2))))) else ((patchworkref8_fresh.f ((rd_Op x0 x5).f0) ((rd_Op x0 x5).f1) ((rd_Op x0 x5).f2)).bind fun t210 => (if t210 > 0 then (patchworkref8_Right.j1 k x0 x3 x4 x5 x4 ((rd_Op x0 x5).f0) ((rd_Op x0 x5).f1) ((rd_Op x0 x5).f2)) else (patchworkref8_Right.j1 k x0 x3 x4 x5 false ((rd_Op x0 x5).f0) ((rd_Op x0 x5).f1) ((rd_Op x0 x5).f2)))))) else (none)) else ((patchworkref8_Olds.f k x0).bind fun t204 => (if t204 ≤ 2147483648 then ((patchworkref8_News.f k x0).bind fun t205 => (some (decide (t205 ≤ 2147483648)))) else (some false)))
def patchworkref8_Right.j1 : Nat → List (Op) → Bool → Bool → Int → Bool → Int → Int → ByteArray → Option (Bool)
 | 0, _, _, _, _, _, _, _, _ => none
 | k + 1, x0, x3, x4, x5, x30, x208000, x208001, x208002 => if x30 = true then (some false) else (if x208000 = 1 then (if x208001 < 1 then (some false) else (if x208001 > 2147483648 then (some false) else (if x208002.toList = ([] : List UInt8) then (patchworkref8_Right.l0 k x0 x3 x4 (wrap64 (x5 + 1))) else (some false)))) else (if x208000 = 2 then (patchworkref8_Right.j2 k x0 x3 x4 x5 x208000 x208001 x208002) else (if x208000 = 3 then (patchworkref8_Right.j2 k x0 x3 x4 x5 x208000 x208001 x208002) else (if x208000 = 4 then (patchworkref8_Right.j2 k x0 x3 x4 x5 x208000 x208001 x208002) else (some false)))))
def patchworkref8_Right.j2 : Nat → List (Op) → Bool → Bool → Int → Int → Int → ByteArray → Option (Bool)
 | 0, _, _, _, _, _, _, _ => none
 | k + 1, x0, x3, x4, x5, x208000, x208001, x208002 => if x208001 = 0 then ((patchworkref1_RightLine.f k x208002).bind fun t211 => (patchworkref8_Right.j3 k x0 x3 x4 x5 (!t211) x208000 x208001 x208002)) else (patchworkref8_Right.j3 k x0 x3 x4 x5 true x208000 x208001 x208002)
def patchworkref8_Right.j3 : Nat → List (Op) → Bool → Bool → Int → Bool → Int → Int → ByteArray → Option (Bool)
 | 0, _, _, _, _, _, _, _, _ => none
 | k + 1, x0, x3, x4, x5, x60, x208000, x208001, x208002 => if x60 = true then (some false) else ((patchworkref1_Open.f x208002).bind fun t212 => (if t212 = true then (if x3 = true then (if x4 = true then (patchworkref8_Right.l0 k x0 true true (wrap64 (x5 + 1))) else (patchworkref8_Right.l0 k x0 true (x208000 != 3) (wrap64 (x5 + 1)))) else (if x4 = true then (patchworkref8_Right.l0 k x0 (x208000 != 4) true (wrap64 (x5 + 1))) else (patchworkref8_Right.l0 k x0 (x208000 != 4) (x208000 != 3) (wrap64 (x5 + 1))))) else (patchworkref8_Right.l0 k x0 x3 x4 (wrap64 (x5 + 1)))))
end
def patchworkref1_Whole.l0 : Nat → List ByteArray → Int → Option (Bool)
 | 0, _, _ => none
 | k + 1, x0, x3 => if x3 < (x0.length : Int) then (if 0 ≤ x3 then ((patchworkref1_RightLine.f k (rdOf ByteArray.empty x0 x3)).bind fun t214 => (if t214 = true then ((patchworkref1_Open.f (rdOf ByteArray.empty x0 x3)).bind fun t216 => (if t216 = true then (if (wrap64 (x3 + 1)) < (x0.length : Int) then (some false) else (patchworkref1_Whole.l0 k x0 (wrap64 (x3 + 1)))) else (patchworkref1_Whole.l0 k x0 (wrap64 (x3 + 1))))) else (some false))) else (none)) else (some true)
def patchworkref1_Whole.f (k : Nat) (l0 : List ByteArray) : Option (Bool) := patchworkref1_Whole.l0 k l0 0
mutual
def patchworkref8_Do.j0 : Nat → List (Op) → List ByteArray → Bool → Option (List ByteArray × Bool)
 | 0, _, _, _ => none
 | k + 1, x0, x1, x17 => if x17 = true then (some (([] : List ByteArray), false)) else (patchworkref8_Do.l0 k x0 x1 ([] : List ByteArray) 0 0)
def patchworkref8_Do.l0 : Nat → List (Op) → List ByteArray → List ByteArray → Int → Int → Option (List ByteArray × Bool)
 | 0, _, _, _, _, _ => none
 | k + 1, x0, x1, x6, x7, x8 => if x8 < (x0.length : Int) then (if 0 ≤ x8 then (if ((rd_Op x0 x8).f0) = 1 then (if (wrap64 ((x1.length : Int) - x7)) < ((rd_Op x0 x8).f1) then (some (([] : List ByteArray), false)) else (if 0 ≤ x7 then (if x7 ≤ (wrap64 (x7 + ((rd_Op x0 x8).f1))) then (if (wrap64 (x7 + ((rd_Op x0 x8).f1))) ≤ (x1.length : Int) then (if x6.length + ((x1.take ((wrap64 (x7 + ((rd_Op x0 x8).f1))) : Int).toNat).drop (x7 : Int).toNat).length < 8796093022208 then (patchworkref8_Do.l0 k x0 x1 (x6 ++ ((x1.take ((wrap64 (x7 + ((rd_Op x0 x8).f1))) : Int).toNat).drop (x7 : Int).toNat)) (wrap64 (x7 + ((rd_Op x0 x8).f1))) (wrap64 (x8 + 1))) else (none)) else (none)) else (none)) else (none))) else (if ((rd_Op x0 x8).f0) = 4 then (if x6.length < 8796093022208 then (patchworkref8_Do.l0 k x0 x1 (x6 ++ [(rd_Op x0 x8).f2]) x7 (wrap64 (x8 + 1))) else (none)) else (if x7 ≥ (x1.length : Int) then (patchworkref8_Do.j2 k x0 x1 x6 x7 x8 true ((rd_Op x0 x8).f0) ((rd_Op x0 x8).f1) ((rd_Op x0 x8).f2)) else (if 0 ≤ x7 then (if x7 < (x1.length : Int) then (patchworkref8_Do.j2 k x0 x1 x6 x7 x8 ((rdOf ByteArray.empty x1 x7).toList != ((rd_Op x0 x8).f2).toList) ((rd_Op x0 x8).f0) ((rd_Op x0 x8).f1) ((rd_Op x0 x8).f2)) else (none)) else (none))))) else (none)) else (if 0 ≤ x7 then (if x7 ≤ (x1.length : Int) then (if x6.length + (x1.drop (x7 : Int).toNat).length < 8796093022208 then ((some (x6 ++ (x1.drop (x7 : Int).toNat) : List ByteArray)).bind fun y220 => ((patchworkref1_Whole.f k y220).bind fun t223 => (if t223 = true then (some (y220, true)) else (some (([] : List ByteArray), false))))) else (none)) else (none)) else (none))
def patchworkref8_Do.j2 : Nat → List (Op) → List ByteArray → List ByteArray → Int → Int → Bool → Int → Int → ByteArray → Option (List ByteArray × Bool)
 | 0, _, _, _, _, _, _, _, _, _ => none
 | k + 1, x0, x1, x6, x7, x8, x42, x226000, x226001, x226002 => if x42 = true then (some (([] : List ByteArray), false)) else (if x226000 = 2 then (if x6.length < 8796093022208 then (patchworkref8_Do.l0 k x0 x1 (x6 ++ [x226002]) (wrap64 (x7 + 1)) (wrap64 (x8 + 1))) else (none)) else (patchworkref8_Do.l0 k x0 x1 x6 (wrap64 (x7 + 1)) (wrap64 (x8 + 1))))
end
def patchworkref1_SameTexts.l0 : Nat → List ByteArray → List ByteArray → Int → Option (Bool)
 | 0, _, _, _ => none
 | k + 1, x0, x1, x5 => if x5 < (x0.length : Int) then (if 0 ≤ x5 then (if x5 < (x1.length : Int) then (if (rdOf ByteArray.empty x0 x5).toList = (rdOf ByteArray.empty x1 x5).toList then (patchworkref1_SameTexts.l0 k x0 x1 (wrap64 (x5 + 1))) else (some false)) else (none)) else (none)) else (some true)
mutual
def patchworkref8_norm.l0 : Nat → List (Op) → List (Op) → List (Op) → Int → Option ((List (Op)))
 | 0, _, _, _, _ => none
 | k + 1, x0, x3, x4, x5 => if x5 ≤ (x0.length : Int) then (if x5 < (x0.length : Int) then (if 0 ≤ x5 then (patchworkref8_norm.j1 k x0 x3 x4 x5 (((rd_Op x0 x5).f0) == 4)) else (none)) else (patchworkref8_norm.j1 k x0 x3 x4 x5 false)) else (some x3)
def patchworkref8_norm.j1 : Nat → List (Op) → List (Op) → List (Op) → Int → Bool → Option ((List (Op)))
 | 0, _, _, _, _, _ => none
 | k + 1, x0, x3, x4, x5, x23 => if x23 = true then (if 0 ≤ x5 then (if x5 < (x0.length : Int) then (if x4.length < 4398046511104 then (patchworkref8_norm.l0 k x0 x3 (x4 ++ [(⟨(rd_Op x0 x5).f0, (rd_Op x0 x5).f1, (rd_Op x0 x5).f2⟩ : Op)]) (wrap64 (x5 + 1))) else (none)) else (none)) else (none)) else (if x5 = (x0.length : Int) then (patchworkref8_norm.j2 k x0 x3 x4 x5 true) else (if 0 ≤ x5 then (if x5 < (x0.length : Int) then (patchworkref8_norm.j2 k x0 x3 x4 x5 (((rd_Op x0 x5).f0) != 3)) else (none)) else (none)))
def patchworkref8_norm.j2 : Nat → List (Op) → List (Op) → List (Op) → Int → Bool → Option ((List (Op)))
 | 0, _, _, _, _, _ => none
 | k + 1, x0, x3, x4, x5, x42 => if x42 = true then (if x3.length + x4.length < 4398046511104 then (patchworkref8_norm.j3 k x0 (x3 ++ x4) ([] : List (Op)) x5) else (none)) else (patchworkref8_norm.j3 k x0 x3 x4 x5)
def patchworkref8_norm.j3 : Nat → List (Op) → List (Op) → List (Op) → Int → Option ((List (Op)))
 | 0, _, _, _, _ => none
 | k + 1, x0, x3, x4, x5 => if x5 = (x0.length : Int) then (some x3) else (if 0 ≤ x5 then (if x5 < (x0.length : Int) then (if ((rd_Op x0 x5).f0) = 1 then (if (x3.length : Int) > 0 then (if 0 ≤ (wrap64 ((x3.length : Int) - 1)) then (if (wrap64 ((x3.length : Int) - 1)) < (x3.length : Int) then (if ((rd_Op x3 (wrap64 ((x3.length : Int) - 1))).f0) = 1 then ((patchworkref8_plus.f ((rd_Op x3 (wrap64 ((x3.length : Int) - 1))).f1) ((rd_Op x0 x5).f1)).bind fun t271 => (patchworkref8_norm.l0 k x0 (x3.set ((wrap64 ((x3.length : Int) - 1)) : Int).toNat (⟨(rd_Op x3 (wrap64 ((x3.length : Int) - 1))).f0, t271, (rd_Op x3 (wrap64 ((x3.length : Int) - 1))).f2⟩ : Op)) x4 (wrap64 (x5 + 1)))) else (if x3.length < 4398046511104 then (patchworkref8_norm.l0 k x0 (x3 ++ [(⟨(rd_Op x0 x5).f0, (rd_Op x0 x5).f1, (rd_Op x0 x5).f2⟩ : Op)]) x4 (wrap64 (x5 + 1))) else (none))) else (none)) else (none)) else (if x3.length < 4398046511104 then (patchworkref8_norm.l0 k x0 (x3 ++ [(⟨(rd_Op x0 x5).f0, (rd_Op x0 x5).f1, (rd_Op x0 x5).f2⟩ : Op)]) x4 (wrap64 (x5 + 1))) else (none))) else (if x3.length < 4398046511104 then (patchworkref8_norm.l0 k x0 (x3 ++ [(⟨(rd_Op x0 x5).f0, (rd_Op x0 x5).f1, (rd_Op x0 x5).f2⟩ : Op)]) x4 (wrap64 (x5 + 1))) else (none))) else (none)) else (none))
end
def patchworkref1_Split.l0 : Nat → ByteArray → List ByteArray → Int → Int → Option (List ByteArray)
 | 0, _, _, _, _ => none
 | k + 1, x0, x3, x4, x5 => if x5 < (x0.size : Int) then (if 0 ≤ x5 then (if (bt x0 x5) = 10 then (if 0 ≤ x4 then (if x4 ≤ (wrap64 (x5 + 1)) then (if (wrap64 (x5 + 1)) ≤ (x0.size : Int) then (if x3.length < 8796093022208 then (patchworkref1_Split.l0 k x0 (x3 ++ [x0.extract (x4 : Int).toNat ((wrap64 (x5 + 1)) : Int).toNat]) (wrap64 (x5 + 1)) (wrap64 (x5 + 1))) else (none)) else (none)) else (none)) else (none)) else (if (wrap64 (x5 + 1)) = (x0.size : Int) then (if 0 ≤ x4 then (if x4 ≤ (wrap64 (x5 + 1)) then (if (wrap64 (x5 + 1)) ≤ (x0.size : Int) then (if x3.length < 8796093022208 then (patchworkref1_Split.l0 k x0 (x3 ++ [x0.extract (x4 : Int).toNat ((wrap64 (x5 + 1)) : Int).toNat]) (wrap64 (x5 + 1)) (wrap64 (x5 + 1))) else (none)) else (none)) else (none)) else (none)) else (patchworkref1_Split.l0 k x0 x3 x4 (wrap64 (x5 + 1))))) else (none)) else (some x3)
def patchworkref1_Split.f (k : Nat) (a0 : ByteArray) : Option (List ByteArray) := patchworkref1_Split.l0 k a0 ([] : List ByteArray) 0 0
theorem patchworkref1_Split.mono_l : ∀ k, (∀ y0 y1 y2 y3, LeO (patchworkref1_Split.l0 k y0 y1 y2 y3) (patchworkref1_Split.l0 (k + 1) y0 y1 y2 y3))
 | 0 => fun _ _ _ _ r h => by simp [patchworkref1_Split.l0] at h
 | k + 1 => by
  have ih0 := patchworkref1_Split.mono_l k
  ·intro y0 y1 y2 y3
   unfold patchworkref1_Split.l0
   repeat' first
   | (with_reducible exact ih0 _ _ _ _)
   | (with_reducible exact LeO.refl _)
   | (with_reducible exact LeO.none _)
   | (with_reducible refine LeO.ite ?_ ?_)
   | (with_reducible refine LeO.bind ?_ (fun _ => ?_))
   | exact ih0 _ _ _ _
   | exact LeO.none _
   | refine LeO.ite ?_ ?_
   | refine LeO.bind ?_ (fun _ => ?_)
theorem patchworkref1_Split.mono : ∀ a0 k, LeO (patchworkref1_Split.f k a0) (patchworkref1_Split.f (k + 1) a0) := by
 intro a0 k
 have ih0 := patchworkref1_Split.mono_l k
 unfold patchworkref1_Split.f
 repeat' first
   | (with_reducible exact ih0 _ _ _ _)
   | (with_reducible exact LeO.refl _)
   | (with_reducible exact LeO.none _)
   | (with_reducible refine LeO.ite ?_ ?_)
   | (with_reducible refine LeO.bind ?_ (fun _ => ?_))
   | exact ih0 _ _ _ _
   | exact LeO.none _
   | refine LeO.ite ?_ ?_
   | refine LeO.bind ?_ (fun _ => ?_)
def ops_Changes.l0 : Nat → Int → List (Op) → Int → Int → Option (Int)
 | 0, _, _, _, _ => none
 | k + 1, x3, x6, x7, x8 => if x8 < x7 then (if 0 ≤ x8 then (if x8 < (x6.length : Int) then ((ops_Change.f ((rd_Op x6 x8).f0)).bind fun t415 => (if t415 = true then (ops_Changes.l0 k (wrap64 (x3 + 1)) x6 x7 (wrap64 (x8 + 1))) else (ops_Changes.l0 k x3 x6 x7 (wrap64 (x8 + 1))))) else (none)) else (none)) else (some x3)
def slices_Equal_Op.l0 : Nat → List (Op) → List (Op) → Int → Int → Option (Bool)
 | 0, _, _, _, _ => none
 | k + 1, x0, x1, x12, x13 => if x13 < x12 then (if 0 ≤ x13 then (if x13 < (x0.length : Int) then (if x13 < (x1.length : Int) then (if (!(((rd_Op x0 x13).f0) == ((rd_Op x1 x13).f0)) || (!(((rd_Op x0 x13).f1) == ((rd_Op x1 x13).f1)) || (!((((rd_Op x0 x13).f2).toList) == (((rd_Op x1 x13).f2).toList))))) = true then (some false) else (slices_Equal_Op.l0 k x0 x1 x12 (wrap64 (x13 + 1)))) else (none)) else (none)) else (none)) else (some true)
def ops_Some.l0 : Nat → Int → List (Op) → List (Op) → Int → Int → Option ((List (Op)))
 | 0, _, _, _, _, _ => none
 | k + 1, x1, x5, x8, x9, x10 => if x10 < x9 then (if 0 ≤ x10 then (if x10 < (x8.length : Int) then (if ((rd_Op x8 x10).f0) = x1 then (if x5.length < 4398046511104 then (ops_Some.l0 k x1 (x5 ++ [(⟨(rd_Op x8 x10).f0, (rd_Op x8 x10).f1, (rd_Op x8 x10).f2⟩ : Op)]) x8 x9 (wrap64 (x10 + 1))) else (none)) else (ops_Some.l0 k x1 x5 x8 x9 (wrap64 (x10 + 1)))) else (none)) else (none)) else (some x5)
def ops_Some.f (k : Nat) (l0 : List (Op)) (a1 : Int) : Option ((List (Op))) := ops_Some.l0 k a1 ([] : List (Op)) l0 (l0.length : Int) 0
mutual
def ops_Norm.l0 : Nat → List (Op) → List (Op) → Int → Option ((List (Op)))
 | 0, _, _, _ => none
 | k + 1, x0, x3, x4 => if x4 < (x0.length : Int) then (ops_Norm.l1 k x0 x3 x4 x4) else (some x3)
def ops_Norm.j2 : Nat → List (Op) → List (Op) → Int → Int → Option ((List (Op)))
 | 0, _, _, _, _ => none
 | k + 1, x0, x3, x4, x5 => if 0 ≤ x5 then (if x5 ≤ x4 then (if x4 ≤ (x0.length : Int) then ((ops_Some.f k ((x0.take (x4 : Int).toNat).drop (x5 : Int).toNat) 3).bind fun t431 => (if x3.length + t431.length < 4398046511104 then ((some (x3 ++ t431 : List (Op))).bind fun y434 => ((ops_Some.f k ((x0.take (x4 : Int).toNat).drop (x5 : Int).toNat) 4).bind fun t441 => (if y434.length + t441.length < 4398046511104 then ((some (y434 ++ t441 : List (Op))).bind fun y444 => (if x4 = (x0.length : Int) then (some y444) else (if 0 ≤ x4 then (if x4 < (x0.length : Int) then (ops_Norm.l2 k x0 y444 (wrap64 (x4 + 1)) ((rd_Op x0 x4).f0) ((rd_Op x0 x4).f1) ((rd_Op x0 x4).f2)) else (none)) else (none)))) else (none)))) else (none))) else (none)) else (none)) else (none)
def ops_Norm.l2 : Nat → List (Op) → List (Op) → Int → Int → Int → ByteArray → Option ((List (Op)))
 | 0, _, _, _, _, _, _ => none
 | k + 1, x0, x3, x4, x449000, x449001, x449002 => if x449000 = 1 then (if x4 < (x0.length : Int) then (if 0 ≤ x4 then (if ((rd_Op x0 x4).f0) = 1 then (ops_Norm.l2 k x0 x3 (wrap64 (x4 + 1)) x449000 (wrap64 (x449001 + ((rd_Op x0 x4).f1))) x449002) else (if x3.length < 4398046511104 then (ops_Norm.l0 k x0 (x3 ++ [(⟨x449000, x449001, x449002⟩ : Op)]) x4) else (none))) else (none)) else (if x3.length < 4398046511104 then (ops_Norm.l0 k x0 (x3 ++ [(⟨x449000, x449001, x449002⟩ : Op)]) x4) else (none))) else (if x3.length < 4398046511104 then (ops_Norm.l0 k x0 (x3 ++ [(⟨x449000, x449001, x449002⟩ : Op)]) x4) else (none))
def ops_Norm.l1 : Nat → List (Op) → List (Op) → Int → Int → Option ((List (Op)))
 | 0, _, _, _, _ => none
 | k + 1, x0, x3, x4, x5 => if x4 < (x0.length : Int) then (if 0 ≤ x4 then ((ops_Change.f ((rd_Op x0 x4).f0)).bind fun t426 => (if t426 = true then (ops_Norm.l1 k x0 x3 (wrap64 (x4 + 1)) x5) else (ops_Norm.j2 k x0 x3 x4 x5))) else (none)) else (ops_Norm.j2 k x0 x3 x4 x5)
end
def ops_Norm.T14 : Bool × List (List Nat × List Nat) := (true, [([], []), ([0], [0]), ([], []), ([], []), ([2, 3], [2, 3]), ([4], [4]), ([5], [5]), ([1, 6], [1, 6]), ([0, 1, 2, 3, 4, 5, 6, 7], []), ([8, 7, 0, 1, 2, 3, 4, 5, 6, 7], [7, 8])])
def ops_Norm.B14 : List Nat := [0, 1, 0, 0, 12, 28, 60, 127, 255, 511]
theorem ops_Norm.tab14 : rtab .any (opsOf Try.f35 14) = ops_Norm.T14 := by kernel_rfl
theorem ops_Norm.bits14 : waitsOk ops_Norm.T14.2 ops_Norm.B14 = true := by kernel_rfl
def patchworkref8_change.f (a0_0 : Int) (a0_1 : Int) (a0_2 : ByteArray) : Option (Bool) := if a0_0 = 3 then (some true) else (some (a0_0 == 4))
def patchworkref8_Changes.l0 : Nat → List (Op) → Int → Int → Option (Int)
 | 0, _, _, _ => none
 | k + 1, x0, x3, x4 => if x4 < (x0.length : Int) then (if 0 ≤ x4 then ((patchworkref8_change.f ((rd_Op x0 x4).f0) ((rd_Op x0 x4).f1) ((rd_Op x0 x4).f2)).bind fun t474 => (if t474 = true then (patchworkref8_Changes.l0 k x0 (wrap64 (x3 + 1)) (wrap64 (x4 + 1))) else (patchworkref8_Changes.l0 k x0 x3 (wrap64 (x4 + 1))))) else (none)) else (some x3)
def patchworkref8_Same.l0 : Nat → List (Op) → List (Op) → Int → Option (Bool)
 | 0, _, _, _ => none
 | k + 1, x0, x1, x5 => if x5 < (x0.length : Int) then (if 0 ≤ x5 then (if x5 < (x1.length : Int) then (if (!(((rd_Op x0 x5).f0) == ((rd_Op x1 x5).f0)) || (!(((rd_Op x0 x5).f1) == ((rd_Op x1 x5).f1)) || (!((((rd_Op x0 x5).f2).toList) == (((rd_Op x1 x5).f2).toList))))) = true then (some false) else (patchworkref8_Same.l0 k x0 x1 (wrap64 (x5 + 1)))) else (none)) else (none)) else (some true)
def patchworklaw8_Known.l0 : Nat → List (Op) → Int → List ByteArray → Int → Option (List ByteArray)
 | 0, _, _, _, _ => none
 | k + 1, x0, x1, x5, x6 => if x6 < (x0.length : Int) then (if 0 ≤ x6 then (if ((rd_Op x0 x6).f0) = 1 then (patchworklaw8_Known.l0 k x0 x1 x5 (wrap64 (x6 + 1))) else (if ((rd_Op x0 x6).f0) = x1 then (patchworklaw8_Known.l0 k x0 x1 x5 (wrap64 (x6 + 1))) else (if x5.length < 8796093022208 then (patchworklaw8_Known.l0 k x0 x1 (x5 ++ [(rd_Op x0 x6).f2]) (wrap64 (x6 + 1))) else (none)))) else (none)) else (some x5)
end Go.Proofs.Ytkalkickknjdhaa.P
