/- Own and printed texts that the theorem of InterEach reaches, put together. -/
import Derived.Test.YtfoponahdidddaaqInterEach3
set_option linter.unusedVariables false
set_option linter.unusedSimpArgs false
namespace Go.Proofs.Ytfoponahdidddaa.P
open Go.RowKit Go.Proofs.YtfoponahdidddaaW.PrintWords Go.Proofs.YtfoponahdidddaaW.PrintLast Go.Proofs.YtfoponahdidddaaW.PrintMore
attribute [local go_sem] max2_int min2_int max_two min_two max_three min_three max_four min_four
def ops_New.f (a0 : Int) : Option (Bool) := if a0 = 1 then (some true) else (if a0 = 2 then (some true) else (some (a0 == 4)))
def ops_Old.f (a0 : Int) : Option (Bool) := if a0 = 1 then (some true) else (if a0 = 2 then (some true) else (some (a0 == 3)))
def ops_Change.f (a0 : Int) : Option (Bool) := if a0 = 3 then (some true) else (some (a0 == 4))
def strings_Contains.f (a0 : ByteArray) (a1 : ByteArray) : Option (Bool) := match a1.data.toList with
 | [c] => some (decide (c ∈ a0.data.toList))
 | _ => none
theorem has_byte (l : List UInt8) (c : UInt8) : decide (0 ≤ Lib.indexByte l c) = decide (c ∈ l) := by
 have h : (0 ≤ Lib.indexByte l c) ↔ c ∈ l := by
  induction l with
  | nil => simp [Lib.indexByte]
  | cons b l ih =>
   have hg := Lib.indexByte_ge l c
   by_cases hb : b = c
   ·subst hb; simp [Lib.indexByte]
   ·have hb' : ¬ c = b := fun e => hb e.symm
    by_cases hm : Lib.indexByte l c = -1
    ·have : ¬ c ∈ l := fun hc => by have := ih.mpr hc; omega
     simp [Lib.indexByte, hb, hb', hm, this]
    ·have : c ∈ l := ih.mp (by omega)
     simp [Lib.indexByte, hb, hm, this]; omega
 simp only [h]
def stringslite_HasSuffix.f (a0 : ByteArray) (a1 : ByteArray) : Option (Bool) := if (a0.size : Int) ≥ (a1.size : Int) then (if 0 ≤ (wrap64 ((a0.size : Int) - (a1.size : Int))) then (if (wrap64 ((a0.size : Int) - (a1.size : Int))) ≤ (a0.size : Int) then (some ((a0.extract ((wrap64 ((a0.size : Int) - (a1.size : Int))) : Int).toNat a0.size).toList == a1.toList)) else (none)) else (none)) else (some false)
def stringslite_TrimSuffix.f (a0 : ByteArray) (a1 : ByteArray) : Option (ByteArray) := (stringslite_HasSuffix.f a0 a1).bind fun t101 => (if t101 = true then (if 0 ≤ (wrap64 ((a0.size : Int) - (a1.size : Int))) then (if (wrap64 ((a0.size : Int) - (a1.size : Int))) ≤ (a0.size : Int) then (some (a0.extract 0 ((wrap64 ((a0.size : Int) - (a1.size : Int))) : Int).toNat)) else (none)) else (none)) else (some a0))
def strings_TrimSuffix.f (a0 : ByteArray) (a1 : ByteArray) : Option (ByteArray) := (stringslite_TrimSuffix.f a0 a1).bind fun t102 => (some t102)
def lines_Right.f (a0 : ByteArray) : Option (Bool) := if a0.toList = ([] : List UInt8) then (some false) else ((strings_TrimSuffix.f a0 (⟨#[10]⟩ : ByteArray)).bind fun t103 => ((strings_Contains.f t103 (⟨#[10]⟩ : ByteArray)).bind fun t104 => (some (!t104))))
def ops_one.f (a0_0 : Int) (a0_1 : Int) (a0_2 : ByteArray) : Option (Bool) := if a0_0 = 1 then (if a0_1 ≥ 1 then (if a0_1 ≤ 2147483648 then (some (a0_2.toList == ([] : List UInt8))) else (some false)) else (some false)) else (if a0_0 = 2 then (if a0_1 = 0 then ((lines_Right.f a0_2).bind fun t106 => (some t106)) else (some false)) else ((ops_Change.f a0_0).bind fun t107 => (if t107 = true then (if a0_1 = 0 then ((lines_Right.f a0_2).bind fun t108 => (some t108)) else (some false)) else (some false))))
def ops_Right_1.f (a0_0 : Int) (a0_1 : Int) (a0_2 : ByteArray) : Option (Bool) := (ops_one.f a0_0 a0_1 a0_2).bind fun t110 => (some (!t110))
def ops_count.l0 : Nat → Int → Int → List (Op) → Int → Int → Option (Int)
 | 0, _, _, _, _, _ => none
 | k + 1, x1, x5, x8, x9, x10 => if x10 < x9 then (if 0 ≤ x10 then (if x10 < (x8.length : Int) then (if ((rd_Op x8 x10).f0) = 1 then (ops_count.l0 k x1 (mn (wrap64 (x5 + (mx 0 (mn ((rd_Op x8 x10).f1) 1099511627776)))) 1099511627776) x8 x9 (wrap64 (x10 + 1))) else (if ((rd_Op x8 x10).f0) = 2 then (ops_count.l0 k x1 (mn (wrap64 (x5 + 1)) 1099511627776) x8 x9 (wrap64 (x10 + 1))) else (if ((rd_Op x8 x10).f0) = x1 then (ops_count.l0 k x1 (mn (wrap64 (x5 + 1)) 1099511627776) x8 x9 (wrap64 (x10 + 1))) else (ops_count.l0 k x1 (mn x5 1099511627776) x8 x9 (wrap64 (x10 + 1)))))) else (none)) else (none)) else (some x5)
def ops_count.f (k : Nat) (l0 : List (Op)) (a1 : Int) : Option (Int) := ops_count.l0 k a1 0 l0 (l0.length : Int) 0
theorem ops_count.mono_l : ∀ k, (∀ y0 y1 y2 y3 y4, LeO (ops_count.l0 k y0 y1 y2 y3 y4) (ops_count.l0 (k + 1) y0 y1 y2 y3 y4))
 | 0 => fun _ _ _ _ _ r h => by simp [ops_count.l0] at h
 | k + 1 => by
  have ih0 := ops_count.mono_l k
  ·intro y0 y1 y2 y3 y4
   unfold ops_count.l0
   repeat' first
   | (with_reducible exact ih0 _ _ _ _ _)
   | (with_reducible exact LeO.refl _)
   | (with_reducible exact LeO.none _)
   | (with_reducible refine LeO.ite ?_ ?_)
   | (with_reducible refine LeO.bind ?_ (fun _ => ?_))
   | exact ih0 _ _ _ _ _
   | exact LeO.none _
   | refine LeO.ite ?_ ?_
   | refine LeO.bind ?_ (fun _ => ?_)
theorem ops_count.mono : ∀ a0 a1 k, LeO (ops_count.f k a0 a1) (ops_count.f (k + 1) a0 a1) := by
 intro a0 a1 k
 have ih0 := ops_count.mono_l k
 unfold ops_count.f
 repeat' first
   | (with_reducible exact ih0 _ _ _ _ _)
   | (with_reducible exact LeO.refl _)
   | (with_reducible exact LeO.none _)
   | (with_reducible refine LeO.ite ?_ ?_)
   | (with_reducible refine LeO.bind ?_ (fun _ => ?_))
   | exact ih0 _ _ _ _ _
   | exact LeO.none _
   | refine LeO.ite ?_ ?_
   | refine LeO.bind ?_ (fun _ => ?_)
def ops_Olds.f (k : Nat) (l0 : List (Op)) : Option (Int) := (ops_count.f k l0 3).bind fun t113 => (some t113)
theorem ops_Olds.mono : ∀ a0 k, LeO (ops_Olds.f k a0) (ops_Olds.f (k + 1) a0) := by
 intro a0 k
 unfold ops_Olds.f
 repeat' first
   | (with_reducible exact ops_count.mono _ _ _)
   | (with_reducible exact LeO.refl _)
   | (with_reducible exact LeO.none _)
   | (with_reducible refine LeO.ite ?_ ?_)
   | (with_reducible refine LeO.bind ?_ (fun _ => ?_))
   | exact ops_count.mono _ _ _
   | exact LeO.none _
   | refine LeO.ite ?_ ?_
   | refine LeO.bind ?_ (fun _ => ?_)
def ops_News.f (k : Nat) (l0 : List (Op)) : Option (Int) := (ops_count.f k l0 4).bind fun t114 => (some t114)
theorem ops_News.mono : ∀ a0 k, LeO (ops_News.f k a0) (ops_News.f (k + 1) a0) := by
 intro a0 k
 unfold ops_News.f
 repeat' first
   | (with_reducible exact ops_count.mono _ _ _)
   | (with_reducible exact LeO.refl _)
   | (with_reducible exact LeO.none _)
   | (with_reducible refine LeO.ite ?_ ?_)
   | (with_reducible refine LeO.bind ?_ (fun _ => ?_))
   | exact ops_count.mono _ _ _
   | exact LeO.none _
   | refine LeO.ite ?_ ?_
   | refine LeO.bind ?_ (fun _ => ?_)
def strings_HasSuffix.f (a0 : ByteArray) (a1 : ByteArray) : Option (Bool) := (stringslite_HasSuffix.f a0 a1).bind fun t115 => (some t115)
def lines_Closed.f (a0 : ByteArray) : Option (Bool) := (strings_HasSuffix.f a0 (⟨#[10]⟩ : ByteArray)).bind fun t116 => (some t116)
def slices_IndexFunc_Op_ops_Right_1.l0 : Nat → List (Op) → Int → Int → Option (Int)
 | 0, _, _, _ => none
 | k + 1, x0, x7, x8 => if x8 < x7 then (if 0 ≤ x8 then (if x8 < (x0.length : Int) then ((ops_Right_1.f ((rd_Op x0 x8).f0) ((rd_Op x0 x8).f1) ((rd_Op x0 x8).f2)).bind fun t118 => (if t118 = true then (some x8) else (slices_IndexFunc_Op_ops_Right_1.l0 k x0 x7 (wrap64 (x8 + 1))))) else (none)) else (none)) else (some (-1))
def slices_IndexFunc_Op_ops_Right_1.f (k : Nat) (l0 : List (Op))  : Option (Int) := slices_IndexFunc_Op_ops_Right_1.l0 k l0 (l0.length : Int) 0
theorem slices_IndexFunc_Op_ops_Right_1.mono_l : ∀ k, (∀ y0 y1 y2, LeO (slices_IndexFunc_Op_ops_Right_1.l0 k y0 y1 y2) (slices_IndexFunc_Op_ops_Right_1.l0 (k + 1) y0 y1 y2))
 | 0 => fun _ _ _ r h => by simp [slices_IndexFunc_Op_ops_Right_1.l0] at h
 | k + 1 => by
  have ih0 := slices_IndexFunc_Op_ops_Right_1.mono_l k
  ·intro y0 y1 y2
   unfold slices_IndexFunc_Op_ops_Right_1.l0
   repeat' first
   | (with_reducible exact ih0 _ _ _)
   | (with_reducible exact LeO.refl _)
   | (with_reducible exact LeO.none _)
   | (with_reducible refine LeO.ite ?_ ?_)
   | (with_reducible refine LeO.bind ?_ (fun _ => ?_))
   | exact ih0 _ _ _
   | exact LeO.none _
   | refine LeO.ite ?_ ?_
   | refine LeO.bind ?_ (fun _ => ?_)
theorem slices_IndexFunc_Op_ops_Right_1.mono : ∀ a0 k, LeO (slices_IndexFunc_Op_ops_Right_1.f k a0) (slices_IndexFunc_Op_ops_Right_1.f (k + 1) a0) := by
 intro a0 k
 have ih0 := slices_IndexFunc_Op_ops_Right_1.mono_l k
 unfold slices_IndexFunc_Op_ops_Right_1.f
 repeat' first
   | (with_reducible exact ih0 _ _ _)
   | (with_reducible exact LeO.refl _)
   | (with_reducible exact LeO.none _)
   | (with_reducible refine LeO.ite ?_ ?_)
   | (with_reducible refine LeO.bind ?_ (fun _ => ?_))
   | exact ih0 _ _ _
   | exact LeO.none _
   | refine LeO.ite ?_ ?_
   | refine LeO.bind ?_ (fun _ => ?_)
def slices_ContainsFunc_Op_ops_Right_1.f (k : Nat) (l0 : List (Op))  : Option (Bool) := (slices_IndexFunc_Op_ops_Right_1.f k l0).bind fun t119 => (some (decide (t119 ≥ 0)))
theorem slices_ContainsFunc_Op_ops_Right_1.mono : ∀ a0 k, LeO (slices_ContainsFunc_Op_ops_Right_1.f k a0) (slices_ContainsFunc_Op_ops_Right_1.f (k + 1) a0) := by
 intro a0 k
 unfold slices_ContainsFunc_Op_ops_Right_1.f
 repeat' first
   | (with_reducible exact slices_IndexFunc_Op_ops_Right_1.mono _ _)
   | (with_reducible exact LeO.refl _)
   | (with_reducible exact LeO.none _)
   | (with_reducible refine LeO.ite ?_ ?_)
   | (with_reducible refine LeO.bind ?_ (fun _ => ?_))
   | exact slices_IndexFunc_Op_ops_Right_1.mono _ _
   | exact LeO.none _
   | refine LeO.ite ?_ ?_
   | refine LeO.bind ?_ (fun _ => ?_)
def ops_closed_ops_Old.l0 : Nat → Bool → List (Op) → Int → Int → Option (Bool)
 | 0, _, _, _, _ => none
 | k + 1, x5, x8, x9, x10 => if x10 < x9 then (if 0 ≤ x10 then (if x10 < (x8.length : Int) then ((ops_Old.f ((rd_Op x8 x10).f0)).bind fun t122 => (if t122 = true then (if x5 = true then (some false) else (if ((rd_Op x8 x10).f0) = 1 then (ops_closed_ops_Old.l0 k false x8 x9 (wrap64 (x10 + 1))) else ((lines_Closed.f ((rd_Op x8 x10).f2)).bind fun t123 => (ops_closed_ops_Old.l0 k (!t123) x8 x9 (wrap64 (x10 + 1)))))) else (ops_closed_ops_Old.l0 k x5 x8 x9 (wrap64 (x10 + 1))))) else (none)) else (none)) else (some true)
def ops_closed_ops_Old.f (k : Nat) (l0 : List (Op))  : Option (Bool) := ops_closed_ops_Old.l0 k false l0 (l0.length : Int) 0
theorem ops_closed_ops_Old.mono_l : ∀ k, (∀ y0 y1 y2 y3, LeO (ops_closed_ops_Old.l0 k y0 y1 y2 y3) (ops_closed_ops_Old.l0 (k + 1) y0 y1 y2 y3))
 | 0 => fun _ _ _ _ r h => by simp [ops_closed_ops_Old.l0] at h
 | k + 1 => by
  have ih0 := ops_closed_ops_Old.mono_l k
  ·intro y0 y1 y2 y3
   unfold ops_closed_ops_Old.l0
   repeat' first
   | (with_reducible exact ih0 _ _ _ _)
   | (with_reducible exact LeO.refl _)
   | (with_reducible exact LeO.none _)
   | (with_reducible refine LeO.ite ?_ ?_)
   | (with_reducible refine LeO.bind ?_ (fun _ => ?_))
   | exact ih0 _ _ _ _
   | exact LeO.none _
   | refine LeO.ite ?_ ?_
   | refine LeO.bind ?_ (fun _ => ?_)
theorem ops_closed_ops_Old.mono : ∀ a0 k, LeO (ops_closed_ops_Old.f k a0) (ops_closed_ops_Old.f (k + 1) a0) := by
 intro a0 k
 have ih0 := ops_closed_ops_Old.mono_l k
 unfold ops_closed_ops_Old.f
 repeat' first
   | (with_reducible exact ih0 _ _ _ _)
   | (with_reducible exact LeO.refl _)
   | (with_reducible exact LeO.none _)
   | (with_reducible refine LeO.ite ?_ ?_)
   | (with_reducible refine LeO.bind ?_ (fun _ => ?_))
   | exact ih0 _ _ _ _
   | exact LeO.none _
   | refine LeO.ite ?_ ?_
   | refine LeO.bind ?_ (fun _ => ?_)
def ops_closed_ops_New.l0 : Nat → Bool → List (Op) → Int → Int → Option (Bool)
 | 0, _, _, _, _ => none
 | k + 1, x5, x8, x9, x10 => if x10 < x9 then (if 0 ≤ x10 then (if x10 < (x8.length : Int) then ((ops_New.f ((rd_Op x8 x10).f0)).bind fun t126 => (if t126 = true then (if x5 = true then (some false) else (if ((rd_Op x8 x10).f0) = 1 then (ops_closed_ops_New.l0 k false x8 x9 (wrap64 (x10 + 1))) else ((lines_Closed.f ((rd_Op x8 x10).f2)).bind fun t127 => (ops_closed_ops_New.l0 k (!t127) x8 x9 (wrap64 (x10 + 1)))))) else (ops_closed_ops_New.l0 k x5 x8 x9 (wrap64 (x10 + 1))))) else (none)) else (none)) else (some true)
def ops_closed_ops_New.f (k : Nat) (l0 : List (Op))  : Option (Bool) := ops_closed_ops_New.l0 k false l0 (l0.length : Int) 0
theorem ops_closed_ops_New.mono_l : ∀ k, (∀ y0 y1 y2 y3, LeO (ops_closed_ops_New.l0 k y0 y1 y2 y3) (ops_closed_ops_New.l0 (k + 1) y0 y1 y2 y3))
 | 0 => fun _ _ _ _ r h => by simp [ops_closed_ops_New.l0] at h
 | k + 1 => by
  have ih0 := ops_closed_ops_New.mono_l k
  ·intro y0 y1 y2 y3
   unfold ops_closed_ops_New.l0
   repeat' first
   | (with_reducible exact ih0 _ _ _ _)
   | (with_reducible exact LeO.refl _)
   | (with_reducible exact LeO.none _)
   | (with_reducible refine LeO.ite ?_ ?_)
   | (with_reducible refine LeO.bind ?_ (fun _ => ?_))
   | exact ih0 _ _ _ _
   | exact LeO.none _
   | refine LeO.ite ?_ ?_
   | refine LeO.bind ?_ (fun _ => ?_)
theorem ops_closed_ops_New.mono : ∀ a0 k, LeO (ops_closed_ops_New.f k a0) (ops_closed_ops_New.f (k + 1) a0) := by
 intro a0 k
 have ih0 := ops_closed_ops_New.mono_l k
 unfold ops_closed_ops_New.f
 repeat' first
   | (with_reducible exact ih0 _ _ _ _)
   | (with_reducible exact LeO.refl _)
   | (with_reducible exact LeO.none _)
   | (with_reducible refine LeO.ite ?_ ?_)
   | (with_reducible refine LeO.bind ?_ (fun _ => ?_))
   | exact ih0 _ _ _ _
   | exact LeO.none _
   | refine LeO.ite ?_ ?_
   | refine LeO.bind ?_ (fun _ => ?_)
def ops_Right.f (k : Nat) (l0 : List (Op)) : Option (Bool) := (slices_ContainsFunc_Op_ops_Right_1.f k l0).bind fun t128 => (if t128 = true then (some false) else ((ops_Olds.f k l0).bind fun t129 => (if t129 ≤ 2147483648 then ((ops_News.f k l0).bind fun t130 => (if t130 ≤ 2147483648 then ((ops_closed_ops_Old.f k l0).bind fun t131 => (if t131 = true then ((ops_closed_ops_New.f k l0).bind fun t132 => (some t132)) else (some false))) else (some false))) else (some false))))
theorem ops_Right.mono : ∀ a0 k, LeO (ops_Right.f k a0) (ops_Right.f (k + 1) a0) := by
 intro a0 k
 unfold ops_Right.f
 repeat' first
   | (with_reducible exact ops_News.mono _ _)
   | (with_reducible exact ops_Olds.mono _ _)
   | (with_reducible exact ops_closed_ops_New.mono _ _)
   | (with_reducible exact ops_closed_ops_Old.mono _ _)
   | (with_reducible exact slices_ContainsFunc_Op_ops_Right_1.mono _ _)
   | (with_reducible exact LeO.refl _)
   | (with_reducible exact LeO.none _)
   | (with_reducible refine LeO.ite ?_ ?_)
   | (with_reducible refine LeO.bind ?_ (fun _ => ?_))
   | exact ops_News.mono _ _
   | exact ops_Olds.mono _ _
   | exact ops_closed_ops_New.mono _ _
   | exact ops_closed_ops_Old.mono _ _
   | exact slices_ContainsFunc_Op_ops_Right_1.mono _ _
   | exact LeO.none _
   | refine LeO.ite ?_ ?_
   | refine LeO.bind ?_ (fun _ => ?_)
def compose_told.l0 : Nat → List (Op) → List (Step) → Int → Int → Option ((List (Op)) × Bool)
 | 0, _, _, _, _ => none
 | k + 1, x4, x7, x8, x9 => if x9 < x8 then (if 0 ≤ x9 then (if x9 < (x7.length : Int) then (if ((rd_Step x7 x9).f2 = true) then (compose_told.l0 k x4 x7 x8 (wrap64 (x9 + 1))) else (if x4.length < 4398046511104 then (compose_told.l0 k (x4 ++ [(⟨(rd_Step x7 x9).f0.f0, (rd_Step x7 x9).f0.f1, (rd_Step x7 x9).f0.f2⟩ : Op)]) x7 x8 (wrap64 (x9 + 1))) else (none))) else (none)) else (none)) else ((ops_Right.f k x4).bind fun t138 => (some (x4, t138)))
def compose_told.f (k : Nat) (l0 : List (Step)) : Option ((List (Op)) × Bool) := compose_told.l0 k ([] : List (Op)) l0 (l0.length : Int) 0
theorem compose_told.mono_l : ∀ k, (∀ y0 y1 y2 y3, LeO (compose_told.l0 k y0 y1 y2 y3) (compose_told.l0 (k + 1) y0 y1 y2 y3))
 | 0 => fun _ _ _ _ r h => by simp [compose_told.l0] at h
 | k + 1 => by
  have ih0 := compose_told.mono_l k
  ·intro y0 y1 y2 y3
   unfold compose_told.l0
   repeat' first
   | (with_reducible exact ih0 _ _ _ _)
   | (with_reducible exact ops_Right.mono _ _)
   | (with_reducible exact LeO.refl _)
   | (with_reducible exact LeO.none _)
   | (with_reducible refine LeO.ite ?_ ?_)
   | (with_reducible refine LeO.bind ?_ (fun _ => ?_))
   | exact ih0 _ _ _ _
   | exact ops_Right.mono _ _
   | exact LeO.none _
   | refine LeO.ite ?_ ?_
   | refine LeO.bind ?_ (fun _ => ?_)
theorem compose_told.mono : ∀ a0 k, LeO (compose_told.f k a0) (compose_told.f (k + 1) a0) := by
 intro a0 k
 have ih0 := compose_told.mono_l k
 unfold compose_told.f
 repeat' first
   | (with_reducible exact ih0 _ _ _ _)
   | (with_reducible exact ops_Right.mono _ _)
   | (with_reducible exact LeO.refl _)
   | (with_reducible exact LeO.none _)
   | (with_reducible refine LeO.ite ?_ ?_)
   | (with_reducible refine LeO.bind ?_ (fun _ => ?_))
   | exact ih0 _ _ _ _
   | exact ops_Right.mono _ _
   | exact LeO.none _
   | refine LeO.ite ?_ ?_
   | refine LeO.bind ?_ (fun _ => ?_)
def compose_next.f (l0 : List (Op)) (a1 : Int) : Option (Int × Int × ByteArray) := if (l0.length : Int) = 0 then (some (1, a1, (⟨#[]⟩ : ByteArray))) else (if 0 < (l0.length : Int) then (some ((rd_Op l0 0).f0, (rd_Op l0 0).f1, (rd_Op l0 0).f2)) else (none))
def compose_Walk.f (k : Nat) (l0 : List (Op)) (l1 : List (Op)) : Option ((List (Step)) × Bool) := (ops_Right.f k l0).bind fun t0 => if t0 = true then ((ops_Right.f k l1).bind fun t1 => if t1 = true then (if okW l0 l1 = true then (match walkO (l0.length + l1.length) l0 l1 false with | none => some ([], false) | some os => (compose_told.f k os).bind fun t => if t.2 = true then some (os, true) else some ([], false)) else none) else some ([], false)) else some ([], false)
theorem compose_Walk.mono : ∀ a0 a1 k, LeO (compose_Walk.f k a0 a1) (compose_Walk.f (k + 1) a0 a1) := by
 intro a0 a1 k r h
 unfold compose_Walk.f at h ⊢
 obtain ⟨t0, h0, h⟩ := Option.bind_eq_some_iff.mp h
 rw [ops_Right.mono _ _ _ h0, Option.bind_some]
 split at h
 ·rename_i e0
  rw [if_pos e0]
  obtain ⟨t1, h1, h⟩ := Option.bind_eq_some_iff.mp h
  rw [ops_Right.mono _ _ _ h1, Option.bind_some]
  split at h
  ·rename_i e1
   rw [if_pos e1]
   split at h
   ·rename_i e2
    rw [if_pos e2]
    split at h
    ·exact h
    ·rename_i os e3
     obtain ⟨t, h3, h⟩ := Option.bind_eq_some_iff.mp h
     show (compose_told.f (k + 1) os).bind _ = _
     rw [compose_told.mono _ _ _ h3, Option.bind_some]; exact h
   ·exact absurd h (by simp)
  ·rename_i e1
   rw [if_neg e1]; exact h
 ·rename_i e0
  rw [if_neg e0]; exact h
mutual
def swap_side.l0 : Nat → Int → Int → List (Op) → List (Step) → Int → Int → Option ((List (Op)))
 | 0, _, _, _, _, _, _ => none
 | k + 1, x1, x2, x7, x11, x12, x13 => if x13 < x12 then (if 0 ≤ x13 then (if x13 < (x11.length : Int) then (if ((rd_Step x11 x13).f1) = 0 then (swap_side.j1 k x1 x2 x7 x11 x12 x13 false ((rd_Step x11 x13).f0.f0) ((rd_Step x11 x13).f0.f1) ((rd_Step x11 x13).f0.f2)) else (swap_side.j1 k x1 x2 x7 x11 x12 x13 (((rd_Step x11 x13).f1) != x1) ((rd_Step x11 x13).f0.f0) ((rd_Step x11 x13).f0.f1) ((rd_Step x11 x13).f0.f2))) else (none)) else (none)) else (some x7)
def swap_side.j1 : Nat → Int → Int → List (Op) → List (Step) → Int → Int → Bool → Int → Int → ByteArray → Option ((List (Op)))
 | 0, _, _, _, _, _, _, _, _, _, _ => none
 | k + 1, x1, x2, x7, x11, x12, x13, x27, x144000, x144001, x144002 => if x27 = true then (if x144000 = x2 then (if x7.length < 4398046511104 then (swap_side.l0 k x1 x2 (x7 ++ [(⟨2, x144001, x144002⟩ : Op)]) x11 x12 (wrap64 (x13 + 1))) else (none)) else (swap_side.l0 k x1 x2 x7 x11 x12 (wrap64 (x13 + 1)))) else (if x7.length < 4398046511104 then (swap_side.l0 k x1 x2 (x7 ++ [(⟨x144000, x144001, x144002⟩ : Op)]) x11 x12 (wrap64 (x13 + 1))) else (none))
end
def swap_side.f (k : Nat) (l0 : List (Step)) (a1 : Int) (a2 : Int) : Option ((List (Op))) := swap_side.l0 k a1 a2 ([] : List (Op)) l0 (l0.length : Int) 0
def swap_touch.l0 : Nat → Int → List (Step) → Int → Int → Option (Bool)
 | 0, _, _, _, _ => none
 | k + 1, x3, x6, x7, x8 => if x8 < x7 then (if 0 ≤ x8 then (if x8 < (x6.length : Int) then (if (rd_Step x6 x8).f2 = true then (some true) else (if ((rd_Step x6 x8).f1) = 0 then (swap_touch.l0 k ((rd_Step x6 x8).f1) x6 x7 (wrap64 (x8 + 1))) else (if x3 = 0 then (swap_touch.l0 k ((rd_Step x6 x8).f1) x6 x7 (wrap64 (x8 + 1))) else (if ((rd_Step x6 x8).f1) = x3 then (swap_touch.l0 k ((rd_Step x6 x8).f1) x6 x7 (wrap64 (x8 + 1))) else (some true))))) else (none)) else (none)) else (some false)
def swap_touch.f (k : Nat) (l0 : List (Step)) : Option (Bool) := swap_touch.l0 k 0 l0 (l0.length : Int) 0
def ops_Some.l0 : Nat → Int → List (Op) → List (Op) → Int → Int → Option ((List (Op)))
 | 0, _, _, _, _, _ => none
 | k + 1, x1, x5, x8, x9, x10 => if x10 < x9 then (if 0 ≤ x10 then (if x10 < (x8.length : Int) then (if ((rd_Op x8 x10).f0) = x1 then (if x5.length < 4398046511104 then (ops_Some.l0 k x1 (x5 ++ [(⟨(rd_Op x8 x10).f0, (rd_Op x8 x10).f1, (rd_Op x8 x10).f2⟩ : Op)]) x8 x9 (wrap64 (x10 + 1))) else (none)) else (ops_Some.l0 k x1 x5 x8 x9 (wrap64 (x10 + 1)))) else (none)) else (none)) else (some x5)
def ops_Some.f (k : Nat) (l0 : List (Op)) (a1 : Int) : Option ((List (Op))) := ops_Some.l0 k a1 ([] : List (Op)) l0 (l0.length : Int) 0
theorem ops_Some.mono_l : ∀ k, (∀ y0 y1 y2 y3 y4, LeO (ops_Some.l0 k y0 y1 y2 y3 y4) (ops_Some.l0 (k + 1) y0 y1 y2 y3 y4))
 | 0 => fun _ _ _ _ _ r h => by simp [ops_Some.l0] at h
 | k + 1 => by
  have ih0 := ops_Some.mono_l k
  ·intro y0 y1 y2 y3 y4
   unfold ops_Some.l0
   repeat' first
   | (with_reducible exact ih0 _ _ _ _ _)
   | (with_reducible exact LeO.refl _)
   | (with_reducible exact LeO.none _)
   | (with_reducible refine LeO.ite ?_ ?_)
   | (with_reducible refine LeO.bind ?_ (fun _ => ?_))
   | exact ih0 _ _ _ _ _
   | exact LeO.none _
   | refine LeO.ite ?_ ?_
   | refine LeO.bind ?_ (fun _ => ?_)
theorem ops_Some.mono : ∀ a0 a1 k, LeO (ops_Some.f k a0 a1) (ops_Some.f (k + 1) a0 a1) := by
 intro a0 a1 k
 have ih0 := ops_Some.mono_l k
 unfold ops_Some.f
 repeat' first
   | (with_reducible exact ih0 _ _ _ _ _)
   | (with_reducible exact LeO.refl _)
   | (with_reducible exact LeO.none _)
   | (with_reducible refine LeO.ite ?_ ?_)
   | (with_reducible refine LeO.bind ?_ (fun _ => ?_))
   | exact ih0 _ _ _ _ _
   | exact LeO.none _
   | refine LeO.ite ?_ ?_
   | refine LeO.bind ?_ (fun _ => ?_)
mutual
def ops_Norm.l0 : Nat → List (Op) → List (Op) → Int → Option ((List (Op)))
 | 0, _, _, _ => none
 | k + 1, x0, x3, x4 => if x4 < (x0.length : Int) then (ops_Norm.l1 k x0 x3 x4 x4) else (some x3)
def ops_Norm.j2 : Nat → List (Op) → List (Op) → Int → Int → Option ((List (Op)))
 | 0, _, _, _, _ => none
 | k + 1, x0, x3, x4, x5 => if 0 ≤ x5 then (if x5 ≤ x4 then (if x4 ≤ (x0.length : Int) then ((ops_Some.f k ((x0.take (x4 : Int).toNat).drop (x5 : Int).toNat) 3).bind fun t164 => (if x3.length + t164.length < 4398046511104 then ((some (x3 ++ t164 : List (Op))).bind fun y167 => ((ops_Some.f k ((x0.take (x4 : Int).toNat).drop (x5 : Int).toNat) 4).bind fun t174 => (if y167.length + t174.length < 4398046511104 then ((some (y167 ++ t174 : List (Op))).bind fun y177 => (if x4 = (x0.length : Int) then (some y177) else (if 0 ≤ x4 then (if x4 < (x0.length : Int) then (ops_Norm.l2 k x0 y177 (wrap64 (x4 + 1)) ((rd_Op x0 x4).f0) ((rd_Op x0 x4).f1) ((rd_Op x0 x4).f2)) else (none)) else (none)))) else (none)))) else (none))) else (none)) else (none)) else (none)
def ops_Norm.l2 : Nat → List (Op) → List (Op) → Int → Int → Int → ByteArray → Option ((List (Op)))
 | 0, _, _, _, _, _, _ => none
 | k + 1, x0, x3, x4, x182000, x182001, x182002 => if x182000 = 1 then (if x4 < (x0.length : Int) then (if 0 ≤ x4 then (if ((rd_Op x0 x4).f0) = 1 then (ops_Norm.l2 k x0 x3 (wrap64 (x4 + 1)) x182000 (wrap64 (x182001 + ((rd_Op x0 x4).f1))) x182002) else (if x3.length < 4398046511104 then (ops_Norm.l0 k x0 (x3 ++ [(⟨x182000, x182001, x182002⟩ : Op)]) x4) else (none))) else (none)) else (if x3.length < 4398046511104 then (ops_Norm.l0 k x0 (x3 ++ [(⟨x182000, x182001, x182002⟩ : Op)]) x4) else (none))) else (if x3.length < 4398046511104 then (ops_Norm.l0 k x0 (x3 ++ [(⟨x182000, x182001, x182002⟩ : Op)]) x4) else (none))
def ops_Norm.l1 : Nat → List (Op) → List (Op) → Int → Int → Option ((List (Op)))
 | 0, _, _, _, _ => none
 | k + 1, x0, x3, x4, x5 => if x4 < (x0.length : Int) then (if 0 ≤ x4 then ((ops_Change.f ((rd_Op x0 x4).f0)).bind fun t159 => (if t159 = true then (ops_Norm.l1 k x0 x3 (wrap64 (x4 + 1)) x5) else (ops_Norm.j2 k x0 x3 x4 x5))) else (none)) else (ops_Norm.j2 k x0 x3 x4 x5)
end
def ops_Norm.f (k : Nat) (l0 : List (Op)) : Option ((List (Op))) := (ops_Right.f k l0).bind fun t157 => (if t157 = true then (ops_Norm.l0 k l0 ([] : List (Op)) 0) else (some ([] : List (Op))))
theorem ops_Norm.mono_l : ∀ k, (∀ y0 y1 y2, LeO (ops_Norm.l0 k y0 y1 y2) (ops_Norm.l0 (k + 1) y0 y1 y2)) ∧ (∀ y0 y1 y2 y3, LeO (ops_Norm.j2 k y0 y1 y2 y3) (ops_Norm.j2 (k + 1) y0 y1 y2 y3)) ∧ (∀ y0 y1 y2 y3 y4 y5, LeO (ops_Norm.l2 k y0 y1 y2 y3 y4 y5) (ops_Norm.l2 (k + 1) y0 y1 y2 y3 y4 y5)) ∧ (∀ y0 y1 y2 y3, LeO (ops_Norm.l1 k y0 y1 y2 y3) (ops_Norm.l1 (k + 1) y0 y1 y2 y3))
 | 0 => ⟨fun _ _ _ r h => by simp [ops_Norm.l0] at h, fun _ _ _ _ r h => by simp [ops_Norm.j2] at h, fun _ _ _ _ _ _ r h => by simp [ops_Norm.l2] at h, fun _ _ _ _ r h => by simp [ops_Norm.l1] at h⟩
 | k + 1 => by
  obtain ⟨ih0, ih1, ih2, ih3⟩ := ops_Norm.mono_l k
  refine ⟨?_, ?_, ?_, ?_⟩
  ·intro y0 y1 y2
   unfold ops_Norm.l0
   repeat' first
   | (with_reducible exact ih0 _ _ _)
   | (with_reducible exact ih1 _ _ _ _)
   | (with_reducible exact ih2 _ _ _ _ _ _)
   | (with_reducible exact ih3 _ _ _ _)
   | (with_reducible exact ops_Right.mono _ _)
   | (with_reducible exact ops_Some.mono _ _ _)
   | (with_reducible exact LeO.refl _)
   | (with_reducible exact LeO.none _)
   | (with_reducible refine LeO.ite ?_ ?_)
   | (with_reducible refine LeO.bind ?_ (fun _ => ?_))
   | exact ih0 _ _ _
   | exact ih1 _ _ _ _
   | exact ih2 _ _ _ _ _ _
   | exact ih3 _ _ _ _
   | exact ops_Right.mono _ _
   | exact ops_Some.mono _ _ _
   | exact LeO.none _
   | refine LeO.ite ?_ ?_
   | refine LeO.bind ?_ (fun _ => ?_)
  ·intro y0 y1 y2 y3
   unfold ops_Norm.j2
   repeat' first
   | (with_reducible exact ih0 _ _ _)
   | (with_reducible exact ih1 _ _ _ _)
   | (with_reducible exact ih2 _ _ _ _ _ _)
   | (with_reducible exact ih3 _ _ _ _)
   | (with_reducible exact ops_Right.mono _ _)
   | (with_reducible exact ops_Some.mono _ _ _)
   | (with_reducible exact LeO.refl _)
   | (with_reducible exact LeO.none _)
   | (with_reducible refine LeO.ite ?_ ?_)
   | (with_reducible refine LeO.bind ?_ (fun _ => ?_))
   | exact ih0 _ _ _
   | exact ih1 _ _ _ _
   | exact ih2 _ _ _ _ _ _
   | exact ih3 _ _ _ _
   | exact ops_Right.mono _ _
   | exact ops_Some.mono _ _ _
   | exact LeO.none _
   | refine LeO.ite ?_ ?_
   | refine LeO.bind ?_ (fun _ => ?_)
  ·intro y0 y1 y2 y3 y4 y5
   unfold ops_Norm.l2
   repeat' first
   | (with_reducible exact ih0 _ _ _)
   | (with_reducible exact ih1 _ _ _ _)
   | (with_reducible exact ih2 _ _ _ _ _ _)
   | (with_reducible exact ih3 _ _ _ _)
   | (with_reducible exact ops_Right.mono _ _)
   | (with_reducible exact ops_Some.mono _ _ _)
   | (with_reducible exact LeO.refl _)
   | (with_reducible exact LeO.none _)
   | (with_reducible refine LeO.ite ?_ ?_)
   | (with_reducible refine LeO.bind ?_ (fun _ => ?_))
   | exact ih0 _ _ _
   | exact ih1 _ _ _ _
   | exact ih2 _ _ _ _ _ _
   | exact ih3 _ _ _ _
   | exact ops_Right.mono _ _
   | exact ops_Some.mono _ _ _
   | exact LeO.none _
   | refine LeO.ite ?_ ?_
   | refine LeO.bind ?_ (fun _ => ?_)
  ·intro y0 y1 y2 y3
   unfold ops_Norm.l1
   repeat' first
   | (with_reducible exact ih0 _ _ _)
   | (with_reducible exact ih1 _ _ _ _)
   | (with_reducible exact ih2 _ _ _ _ _ _)
   | (with_reducible exact ih3 _ _ _ _)
   | (with_reducible exact ops_Right.mono _ _)
   | (with_reducible exact ops_Some.mono _ _ _)
   | (with_reducible exact LeO.refl _)
   | (with_reducible exact LeO.none _)
   | (with_reducible refine LeO.ite ?_ ?_)
   | (with_reducible refine LeO.bind ?_ (fun _ => ?_))
   | exact ih0 _ _ _
   | exact ih1 _ _ _ _
   | exact ih2 _ _ _ _ _ _
   | exact ih3 _ _ _ _
   | exact ops_Right.mono _ _
   | exact ops_Some.mono _ _ _
   | exact LeO.none _
   | refine LeO.ite ?_ ?_
   | refine LeO.bind ?_ (fun _ => ?_)
theorem ops_Norm.mono : ∀ a0 k, LeO (ops_Norm.f k a0) (ops_Norm.f (k + 1) a0) := by
 intro a0 k
 obtain ⟨ih0, ih1, ih2, ih3⟩ := ops_Norm.mono_l k
 unfold ops_Norm.f
 repeat' first
   | (with_reducible exact ih0 _ _ _)
   | (with_reducible exact ih1 _ _ _ _)
   | (with_reducible exact ih2 _ _ _ _ _ _)
   | (with_reducible exact ih3 _ _ _ _)
   | (with_reducible exact ops_Right.mono _ _)
   | (with_reducible exact ops_Some.mono _ _ _)
   | (with_reducible exact LeO.refl _)
   | (with_reducible exact LeO.none _)
   | (with_reducible refine LeO.ite ?_ ?_)
   | (with_reducible refine LeO.bind ?_ (fun _ => ?_))
   | exact ih0 _ _ _
   | exact ih1 _ _ _ _
   | exact ih2 _ _ _ _ _ _
   | exact ih3 _ _ _ _
   | exact ops_Right.mono _ _
   | exact ops_Some.mono _ _ _
   | exact LeO.none _
   | refine LeO.ite ?_ ?_
   | refine LeO.bind ?_ (fun _ => ?_)
def ops_Norm.T9 : Bool × List (List Nat × List Nat) := (true, [([], []), ([], []), ([], []), ([], []), ([1, 2, 3], [1, 2, 3]), ([4], [4]), ([0, 5, 5], [0, 5]), ([], []), ([], []), ([], []), ([7, 8, 9], [7, 8, 9]), ([10, 6], [10]), ([6, 11, 11], [6, 11]), ([12, 12, 0, 1, 2, 3, 4, 5, 6, 7, 8, 9, 10, 11, 12], [0, 12])])
def ops_Norm.B9 : List Nat := [0, 0, 0, 0, 14, 30, 63, 0, 0, 0, 896, 2047, 4095, 8191]
theorem ops_Norm.tab9 : rtab .any (opsOf Try.f39 9) = ops_Norm.T9 := by kernel_rfl
theorem ops_Norm.bits9 : waitsOk ops_Norm.T9.2 ops_Norm.B9 = true := by kernel_rfl
def ops_Norm.T14 : Bool × List (List Nat × List Nat) := (true, [([], []), ([0], [0]), ([], []), ([], []), ([2, 3], [2, 3]), ([4], [4]), ([5], [5]), ([1, 6], [1, 6]), ([0, 1, 2, 3, 4, 5, 6, 7], []), ([8, 7, 0, 1, 2, 3, 4, 5, 6, 7], [7, 8])])
def ops_Norm.B14 : List Nat := [0, 1, 0, 0, 12, 28, 60, 127, 255, 511]
theorem ops_Norm.tab14 : rtab .any (opsOf Try.f39 14) = ops_Norm.T14 := by kernel_rfl
theorem ops_Norm.bits14 : waitsOk ops_Norm.T14.2 ops_Norm.B14 = true := by kernel_rfl
mutual
def swap_Ops.j0 : Nat → List (Op) → List (Op) → Bool → Option ((List (Op)) × (List (Op)) × Int)
 | 0, _, _, _ => none
 | k + 1, x0, x1, x18 => if x18 = true then (some (([] : List (Op)), ([] : List (Op)), 1)) else ((compose_Walk.f k x0 x1).bind fun bt195 => (if bt195.2 = true then ((swap_side.f k bt195.1 2 3).bind fun t199 => ((swap_side.f k bt195.1 1 4).bind fun t202 => ((swap_touch.f k bt195.1).bind fun t205 => (if t205 = true then (swap_Ops.j1 k t199 t202 true) else ((ops_Right.f k t199).bind fun t206 => (if t206 = true then ((ops_Right.f k t202).bind fun t207 => (swap_Ops.j1 k t199 t202 (!t207))) else (swap_Ops.j1 k t199 t202 true))))))) else (some (([] : List (Op)), ([] : List (Op)), 6))))
def swap_Ops.j1 : Nat → List (Op) → List (Op) → Bool → Option ((List (Op)) × (List (Op)) × Int)
 | 0, _, _, _ => none
 | k + 1, x9, x10, x42 => if x42 = true then (some (([] : List (Op)), ([] : List (Op)), 7)) else ((ops_Norm.f k x9).bind fun t208 => ((ops_Norm.f k x10).bind fun t211 => (some (t208, t211, 0))))
end
def patchworklaw8_Few.l0 : Nat → List (Op) → Int → Int → Option (Bool)
 | 0, _, _, _ => none
 | k + 1, x0, x3, x4 => if x4 < (x0.length : Int) then (if 0 ≤ x4 then (patchworklaw8_Few.l0 k x0 (wrap64 ((wrap64 (x3 + 1)) + (((rd_Op x0 x4).f2).size : Int))) (wrap64 (x4 + 1))) else (none)) else (some (decide (x3 ≤ 600)))
def patchworkref8_plus.f (a0 : Int) (a1 : Int) : Option (Int) := if a0 ≥ 1099511627776 then (some 1099511627776) else (if a1 ≥ 1099511627776 then (some 1099511627776) else (if (wrap64 (a0 + a1)) > 1099511627776 then (some 1099511627776) else (some (wrap64 (a0 + a1)))))
def patchworkref8_old.f (a0_0 : Int) (a0_1 : Int) (a0_2 : ByteArray) : Option (Int) := if a0_0 = 1 then (if a0_1 > 0 then (some a0_1) else (some 0)) else (if a0_0 = 2 then (some 1) else (if a0_0 = 3 then (some 1) else (some 0)))
def patchworkref8_Olds.l0 : Nat → List (Op) → Int → Int → Option (Int)
 | 0, _, _, _ => none
 | k + 1, x0, x3, x4 => if x4 < (x0.length : Int) then (if 0 ≤ x4 then ((patchworkref8_old.f ((rd_Op x0 x4).f0) ((rd_Op x0 x4).f1) ((rd_Op x0 x4).f2)).bind fun t240 => ((patchworkref8_plus.f x3 t240).bind fun t241 => (patchworkref8_Olds.l0 k x0 t241 (wrap64 (x4 + 1))))) else (none)) else (some x3)
def patchworkref8_Olds.f (k : Nat) (l0 : List (Op)) : Option (Int) := patchworkref8_Olds.l0 k l0 0 0
def patchworkref8_fresh.f (a0_0 : Int) (a0_1 : Int) (a0_2 : ByteArray) : Option (Int) := if a0_0 = 3 then (some 0) else (if a0_0 = 4 then (some 1) else ((patchworkref8_old.f a0_0 a0_1 a0_2).bind fun t243 => (some t243)))
def patchworkref1_RightLine.l0 : Nat → ByteArray → Int → Option (Bool)
 | 0, _, _ => none
 | k + 1, x0, x3 => if (wrap64 (x3 + 1)) < (x0.size : Int) then (if 0 ≤ x3 then (if x3 < (x0.size : Int) then (if (bt x0 x3) = 10 then (some false) else (patchworkref1_RightLine.l0 k x0 (wrap64 (x3 + 1)))) else (none)) else (none)) else (some (x0.toList != ([] : List UInt8)))
def patchworkref1_RightLine.f (k : Nat) (a0 : ByteArray) : Option (Bool) := patchworkref1_RightLine.l0 k a0 0
def patchworkref1_Open.f (a0 : ByteArray) : Option (Bool) := if a0.toList = ([] : List UInt8) then (some true) else (if 0 ≤ (wrap64 ((a0.size : Int) - 1)) then (if (wrap64 ((a0.size : Int) - 1)) < (a0.size : Int) then (some ((bt a0 (wrap64 ((a0.size : Int) - 1))) != 10)) else (none)) else (none))
def patchworkref8_News.l0 : Nat → List (Op) → Int → Int → Option (Int)
 | 0, _, _, _ => none
 | k + 1, x0, x3, x4 => if x4 < (x0.length : Int) then (if 0 ≤ x4 then ((patchworkref8_fresh.f ((rd_Op x0 x4).f0) ((rd_Op x0 x4).f1) ((rd_Op x0 x4).f2)).bind fun t245 => ((patchworkref8_plus.f x3 t245).bind fun t246 => (patchworkref8_News.l0 k x0 t246 (wrap64 (x4 + 1))))) else (none)) else (some x3)
def patchworkref8_News.f (k : Nat) (l0 : List (Op)) : Option (Int) := patchworkref8_News.l0 k l0 0 0
mutual
def patchworkref8_Right.l0 : Nat → List (Op) → Bool → Bool → Int → Option (Bool)
 | 0, _, _, _, _ => none
 | k + 1, x0, x3, x4, x5 => if x5 < (x0.length : Int) then (if 0 ≤ x5 then ((patchworkref8_old.f ((rd_Op x0 x5).f0) ((rd_Op x0 x5).f1) ((rd_Op x0 x5).f2)).bind fun t251 => (if t251 > 0 then (if x3 = true then (patchworkref8_Right.j1 k x0 x3 x4 x5 true ((rd_Op x0 x5).f0) ((rd_Op x0 x5).f1) ((rd_Op x0 x5).f2)) else ((patchworkref8_fresh.f ((rd_Op x0 x5).f0) ((rd_Op x0 x5).f1) ((rd_Op x0 x5).f2)).bind fun t252 => (if t252 > 0 then (patchworkref8_Right.j1 k x0 x3 x4 x5 x4 ((rd_Op x0 x5).f0) ((rd_Op x0 x5).f1) ((rd_Op x0 x5).f2)) else (patchworkref8_Right.j1 k x0 x3 x4 x5 false ((rd_Op x0 x5).f0) ((rd_Op x0 x5).f1) ((rd_Op x0 x5).f2))))) else ((patchworkref8_fresh.f ((rd_Op x0 x5).f0) ((rd_Op x0 x5).f1) ((rd_Op x0 x5).f2)).bind fun t253 => (if t253 > 0 then (patchworkref8_Right.j1 k x0 x3 x4 x5 x4 ((rd_Op x0 x5).f0) ((rd_Op x0 x5).f1) ((rd_Op x0 x5).f2)) else (patchworkref8_Right.j1 k x0 x3 x4 x5 false ((rd_Op x0 x5).f0) ((rd_Op x0 x5).f1) ((rd_Op x0 x5).f2)))))) else (none)) else ((patchworkref8_Olds.f k x0).bind fun t247 => (if t247 ≤ 2147483648 then ((patchworkref8_News.f k x0).bind fun t248 => (some (decide (t248 ≤ 2147483648)))) else (some false)))
def patchworkref8_Right.j1 : Nat → List (Op) → Bool → Bool → Int → Bool → Int → Int → ByteArray → Option (Bool)
 | 0, _, _, _, _, _, _, _, _ => none
 | k + 1, x0, x3, x4, x5, x30, x251000, x251001, x251002 => if x30 = true then (some false) else (if x251000 = 1 then (if x251001 < 1 then (some false) else (if x251001 > 2147483648 then (some false) else (if x251002.toList = ([] : List UInt8) then (patchworkref8_Right.l0 k x0 x3 x4 (wrap64 (x5 + 1))) else (some false)))) else (if x251000 = 2 then (patchworkref8_Right.j2 k x0 x3 x4 x5 x251000 x251001 x251002) else (if x251000 = 3 then (patchworkref8_Right.j2 k x0 x3 x4 x5 x251000 x251001 x251002) else (if x251000 = 4 then (patchworkref8_Right.j2 k x0 x3 x4 x5 x251000 x251001 x251002) else (some false)))))
def patchworkref8_Right.j2 : Nat → List (Op) → Bool → Bool → Int → Int → Int → ByteArray → Option (Bool)
 | 0, _, _, _, _, _, _, _ => none
 | k + 1, x0, x3, x4, x5, x251000, x251001, x251002 => if x251001 = 0 then ((patchworkref1_RightLine.f k x251002).bind fun t254 => (patchworkref8_Right.j3 k x0 x3 x4 x5 (!t254) x251000 x251001 x251002)) else (patchworkref8_Right.j3 k x0 x3 x4 x5 true x251000 x251001 x251002)
def patchworkref8_Right.j3 : Nat → List (Op) → Bool → Bool → Int → Bool → Int → Int → ByteArray → Option (Bool)
 | 0, _, _, _, _, _, _, _, _ => none
 | k + 1, x0, x3, x4, x5, x60, x251000, x251001, x251002 => if x60 = true then (some false) else ((patchworkref1_Open.f x251002).bind fun t255 => (if t255 = true then (if x3 = true then (if x4 = true then (patchworkref8_Right.l0 k x0 true true (wrap64 (x5 + 1))) else (patchworkref8_Right.l0 k x0 true (x251000 != 3) (wrap64 (x5 + 1)))) else (if x4 = true then (patchworkref8_Right.l0 k x0 (x251000 != 4) true (wrap64 (x5 + 1))) else (patchworkref8_Right.l0 k x0 (x251000 != 4) (x251000 != 3) (wrap64 (x5 + 1))))) else (patchworkref8_Right.l0 k x0 x3 x4 (wrap64 (x5 + 1)))))
end
def patchworkref8_Right.f (k : Nat) (l0 : List (Op)) : Option (Bool) := patchworkref8_Right.l0 k l0 false false 0
def patchworkref8_walk.f (l0 : List (Op)) (l1 : List (Op)) : Option ((List (By)) × Bool × Bool) := if okR l0 l1 = true then (match walkO (l0.length + l1.length) l0 l1 false with | none => some ([], false, false) | some os => some (byS os, metS os, true)) else none
mutual
def patchworkref8_norm.l0 : Nat → List (Op) → List (Op) → List (Op) → Int → Option ((List (Op)))
 | 0, _, _, _, _ => none
 | k + 1, x0, x3, x4, x5 => if x5 ≤ (x0.length : Int) then (if x5 < (x0.length : Int) then (if 0 ≤ x5 then (patchworkref8_norm.j1 k x0 x3 x4 x5 (((rd_Op x0 x5).f0) == 4)) else (none)) else (patchworkref8_norm.j1 k x0 x3 x4 x5 false)) else (some x3)
def patchworkref8_norm.j1 : Nat → List (Op) → List (Op) → List (Op) → Int → Bool → Option ((List (Op)))
 | 0, _, _, _, _, _ => none
 | k + 1, x0, x3, x4, x5, x23 => if x23 = true then (if 0 ≤ x5 then (if x5 < (x0.length : Int) then (if x4.length < 4398046511104 then (patchworkref8_norm.l0 k x0 x3 (x4 ++ [(⟨(rd_Op x0 x5).f0, (rd_Op x0 x5).f1, (rd_Op x0 x5).f2⟩ : Op)]) (wrap64 (x5 + 1))) else (none)) else (none)) else (none)) else (if x5 = (x0.length : Int) then (patchworkref8_norm.j2 k x0 x3 x4 x5 true) else (if 0 ≤ x5 then (if x5 < (x0.length : Int) then (patchworkref8_norm.j2 k x0 x3 x4 x5 (((rd_Op x0 x5).f0) != 3)) else (none)) else (none)))
def patchworkref8_norm.j2 : Nat → List (Op) → List (Op) → List (Op) → Int → Bool → Option ((List (Op)))
 | 0, _, _, _, _, _ => none
 | k + 1, x0, x3, x4, x5, x42 => if x42 = true then (if x3.length + x4.length < 4398046511104 then (patchworkref8_norm.j3 k x0 (x3 ++ x4) ([] : List (Op)) x5) else (none)) else (patchworkref8_norm.j3 k x0 x3 x4 x5)
def patchworkref8_norm.j3 : Nat → List (Op) → List (Op) → List (Op) → Int → Option ((List (Op)))
 | 0, _, _, _, _ => none
 | k + 1, x0, x3, x4, x5 => if x5 = (x0.length : Int) then (some x3) else (if 0 ≤ x5 then (if x5 < (x0.length : Int) then (if ((rd_Op x0 x5).f0) = 1 then (if (x3.length : Int) > 0 then (if 0 ≤ (wrap64 ((x3.length : Int) - 1)) then (if (wrap64 ((x3.length : Int) - 1)) < (x3.length : Int) then (if ((rd_Op x3 (wrap64 ((x3.length : Int) - 1))).f0) = 1 then ((patchworkref8_plus.f ((rd_Op x3 (wrap64 ((x3.length : Int) - 1))).f1) ((rd_Op x0 x5).f1)).bind fun t293 => (patchworkref8_norm.l0 k x0 (x3.set ((wrap64 ((x3.length : Int) - 1)) : Int).toNat (⟨(rd_Op x3 (wrap64 ((x3.length : Int) - 1))).f0, t293, (rd_Op x3 (wrap64 ((x3.length : Int) - 1))).f2⟩ : Op)) x4 (wrap64 (x5 + 1)))) else (if x3.length < 4398046511104 then (patchworkref8_norm.l0 k x0 (x3 ++ [(⟨(rd_Op x0 x5).f0, (rd_Op x0 x5).f1, (rd_Op x0 x5).f2⟩ : Op)]) x4 (wrap64 (x5 + 1))) else (none))) else (none)) else (none)) else (if x3.length < 4398046511104 then (patchworkref8_norm.l0 k x0 (x3 ++ [(⟨(rd_Op x0 x5).f0, (rd_Op x0 x5).f1, (rd_Op x0 x5).f2⟩ : Op)]) x4 (wrap64 (x5 + 1))) else (none))) else (if x3.length < 4398046511104 then (patchworkref8_norm.l0 k x0 (x3 ++ [(⟨(rd_Op x0 x5).f0, (rd_Op x0 x5).f1, (rd_Op x0 x5).f2⟩ : Op)]) x4 (wrap64 (x5 + 1))) else (none))) else (none)) else (none))
end
def patchworkref8_norm.f (k : Nat) (l0 : List (Op)) : Option ((List (Op))) := patchworkref8_norm.l0 k l0 ([] : List (Op)) ([] : List (Op)) 0
def patchworkref8_ops.l0 : Nat → List (By) → List (Op) → Int → Option ((List (Op)))
 | 0, _, _, _ => none
 | k + 1, x0, x3, x4 => if x4 < (x0.length : Int) then (if 0 ≤ x4 then (if x3.length < 4398046511104 then (patchworkref8_ops.l0 k x0 (x3 ++ [(⟨(rd_By x0 x4).f0.f0, (rd_By x0 x4).f0.f1, (rd_By x0 x4).f0.f2⟩ : Op)]) (wrap64 (x4 + 1))) else (none)) else (none)) else (some x3)
def patchworkref8_ops.f (k : Nat) (l0 : List (By)) : Option ((List (Op))) := patchworkref8_ops.l0 k l0 ([] : List (Op)) 0
mutual
def patchworkref8_Swap.j0 : Nat → List (Op) → List (Op) → Bool → Option ((List (Op)) × (List (Op)) × Int)
 | 0, _, _, _ => none
 | k + 1, x0, x1, x22 => if x22 = true then (some (([] : List (Op)), ([] : List (Op)), 1)) else ((patchworkref8_walk.f x0 x1).bind fun bt313 => (if bt313.2.2 = true then ((patchworkref8_ops.f k bt313.1).bind fun t318 => ((patchworkref8_norm.f k t318).bind fun t321 => ((patchworkref8_Right.f k t321).bind fun t324 => (patchworkref8_Swap.j1 k bt313.1 bt313.2.1 (!t324))))) else (patchworkref8_Swap.j1 k bt313.1 bt313.2.1 true)))
def patchworkref8_Swap.j1 : Nat → List (By) → Bool → Bool → Option ((List (Op)) × (List (Op)) × Int)
 | 0, _, _, _ => none
 | k + 1, x7, x8, x38 => if x38 = true then (some (([] : List (Op)), ([] : List (Op)), 6)) else (if x8 = true then (some (([] : List (Op)), ([] : List (Op)), 7)) else (patchworkref8_Swap.l0 k x7 ([] : List (Op)) ([] : List (Op)) 0))
def patchworkref8_Swap.l0 : Nat → List (By) → List (Op) → List (Op) → Int → Option ((List (Op)) × (List (Op)) × Int)
 | 0, _, _, _, _ => none
 | k + 1, x7, x10, x11, x12 => if x12 < (x7.length : Int) then (if 0 ≤ x12 then (if x12 > 0 then (if ((rd_By x7 x12).f1) > 0 then (if 0 ≤ (wrap64 (x12 - 1)) then (if (wrap64 (x12 - 1)) < (x7.length : Int) then (if ((rd_By x7 (wrap64 (x12 - 1))).f1) > 0 then (patchworkref8_Swap.j3 k x7 x10 x11 x12 (((rd_By x7 x12).f1) != ((rd_By x7 (wrap64 (x12 - 1))).f1)) ((rd_By x7 x12).f0.f0) ((rd_By x7 x12).f0.f1) ((rd_By x7 x12).f0.f2) ((rd_By x7 x12).f1)) else (patchworkref8_Swap.j3 k x7 x10 x11 x12 false ((rd_By x7 x12).f0.f0) ((rd_By x7 x12).f0.f1) ((rd_By x7 x12).f0.f2) ((rd_By x7 x12).f1))) else (none)) else (none)) else (patchworkref8_Swap.j3 k x7 x10 x11 x12 false ((rd_By x7 x12).f0.f0) ((rd_By x7 x12).f0.f1) ((rd_By x7 x12).f0.f2) ((rd_By x7 x12).f1))) else (patchworkref8_Swap.j3 k x7 x10 x11 x12 false ((rd_By x7 x12).f0.f0) ((rd_By x7 x12).f0.f1) ((rd_By x7 x12).f0.f2) ((rd_By x7 x12).f1))) else (none)) else ((patchworkref8_norm.f k x10).bind fun t348 => ((patchworkref8_norm.f k x11).bind fun t351 => ((patchworkref8_Right.f k t348).bind fun t354 => (if t354 = true then ((patchworkref8_Right.f k t351).bind fun t355 => (if t355 = true then (some (t348, t351, 0)) else (some (([] : List (Op)), ([] : List (Op)), 7)))) else (some (([] : List (Op)), ([] : List (Op)), 7))))))
def patchworkref8_Swap.j3 : Nat → List (By) → List (Op) → List (Op) → Int → Bool → Int → Int → ByteArray → Int → Option ((List (Op)) × (List (Op)) × Int)
 | 0, _, _, _, _, _, _, _, _, _ => none
 | k + 1, x7, x10, x11, x12, x76, x327000, x327001, x327002, x327003 => if x76 = true then (some (([] : List (Op)), ([] : List (Op)), 7)) else (if x327003 = 0 then (if x10.length < 4398046511104 then (if x11.length < 4398046511104 then (patchworkref8_Swap.l0 k x7 (x10 ++ [(⟨x327000, x327001, x327002⟩ : Op)]) (x11 ++ [(⟨x327000, x327001, x327002⟩ : Op)]) (wrap64 (x12 + 1))) else (none)) else (none)) else (if x327003 = 2 then (if x10.length < 4398046511104 then ((some (x10 ++ [(⟨x327000, x327001, x327002⟩ : Op)] : List (Op))).bind fun y336 => (if x327000 = 4 then (if x11.length < 4398046511104 then (patchworkref8_Swap.l0 k x7 y336 (x11 ++ [(⟨2, x327001, x327002⟩ : Op)]) (wrap64 (x12 + 1))) else (none)) else (patchworkref8_Swap.l0 k x7 y336 x11 (wrap64 (x12 + 1))))) else (none)) else (if x11.length < 4398046511104 then ((some (x11 ++ [(⟨x327000, x327001, x327002⟩ : Op)] : List (Op))).bind fun y342 => (if x327000 = 3 then (if x10.length < 4398046511104 then (patchworkref8_Swap.l0 k x7 (x10 ++ [(⟨2, x327001, x327002⟩ : Op)]) y342 (wrap64 (x12 + 1))) else (none)) else (patchworkref8_Swap.l0 k x7 x10 y342 (wrap64 (x12 + 1))))) else (none))))
end
def patchworkref8_Same.l0 : Nat → List (Op) → List (Op) → Int → Option (Bool)
 | 0, _, _, _ => none
 | k + 1, x0, x1, x5 => if x5 < (x0.length : Int) then (if 0 ≤ x5 then (if x5 < (x1.length : Int) then (if (!(((rd_Op x0 x5).f0) == ((rd_Op x1 x5).f0)) || (!(((rd_Op x0 x5).f1) == ((rd_Op x1 x5).f1)) || (!((((rd_Op x0 x5).f2).toList) == (((rd_Op x1 x5).f2).toList))))) = true then (some false) else (patchworkref8_Same.l0 k x0 x1 (wrap64 (x5 + 1)))) else (none)) else (none)) else (some true)
def patchworkref8_Same.f (k : Nat) (l0 : List (Op)) (l1 : List (Op)) : Option (Bool) := if (l0.length : Int) = (l1.length : Int) then (patchworkref8_Same.l0 k l0 l1 0) else (some false)
theorem patchworkref8_Same.mono_l : ∀ k, (∀ y0 y1 y2, LeO (patchworkref8_Same.l0 k y0 y1 y2) (patchworkref8_Same.l0 (k + 1) y0 y1 y2))
 | 0 => fun _ _ _ r h => by simp [patchworkref8_Same.l0] at h
 | k + 1 => by
  have ih0 := patchworkref8_Same.mono_l k
  ·intro y0 y1 y2
   unfold patchworkref8_Same.l0
   repeat' first
   | (with_reducible exact ih0 _ _ _)
   | (with_reducible exact LeO.refl _)
   | (with_reducible exact LeO.none _)
   | (with_reducible refine LeO.ite ?_ ?_)
   | (with_reducible refine LeO.bind ?_ (fun _ => ?_))
   | exact ih0 _ _ _
   | exact LeO.none _
   | refine LeO.ite ?_ ?_
   | refine LeO.bind ?_ (fun _ => ?_)
theorem patchworkref8_Same.mono : ∀ a0 a1 k, LeO (patchworkref8_Same.f k a0 a1) (patchworkref8_Same.f (k + 1) a0 a1) := by
 intro a0 a1 k
 have ih0 := patchworkref8_Same.mono_l k
 unfold patchworkref8_Same.f
 repeat' first
   | (with_reducible exact ih0 _ _ _)
   | (with_reducible exact LeO.refl _)
   | (with_reducible exact LeO.none _)
   | (with_reducible refine LeO.ite ?_ ?_)
   | (with_reducible refine LeO.bind ?_ (fun _ => ?_))
   | exact ih0 _ _ _
   | exact LeO.none _
   | refine LeO.ite ?_ ?_
   | refine LeO.bind ?_ (fun _ => ?_)
def patchworkref1_Join.l0 : Nat → List ByteArray → List Int → Int → Option (ByteArray)
 | 0, _, _, _ => none
 | k + 1, x0, x3, x4 => if x4 < (x0.length : Int) then (if 0 ≤ x4 then (if x3.length + (rdOf ByteArray.empty x0 x4).size < 140737488355328 then (patchworkref1_Join.l0 k x0 (x3 ++ bytesOf (rdOf ByteArray.empty x0 x4)) (wrap64 (x4 + 1))) else (none)) else (none)) else (some (strOfNums x3))
def patchworkref1_Whole.l0 : Nat → List ByteArray → Int → Option (Bool)
 | 0, _, _ => none
 | k + 1, x0, x3 => if x3 < (x0.length : Int) then (if 0 ≤ x3 then ((patchworkref1_RightLine.f k (rdOf ByteArray.empty x0 x3)).bind fun t390 => (if t390 = true then ((patchworkref1_Open.f (rdOf ByteArray.empty x0 x3)).bind fun t392 => (if t392 = true then (if (wrap64 (x3 + 1)) < (x0.length : Int) then (some false) else (patchworkref1_Whole.l0 k x0 (wrap64 (x3 + 1)))) else (patchworkref1_Whole.l0 k x0 (wrap64 (x3 + 1))))) else (some false))) else (none)) else (some true)
def patchworkref1_Whole.f (k : Nat) (l0 : List ByteArray) : Option (Bool) := patchworkref1_Whole.l0 k l0 0
mutual
def patchworkref8_Do.j0 : Nat → List (Op) → List ByteArray → Bool → Option (List ByteArray × Bool)
 | 0, _, _, _ => none
 | k + 1, x0, x1, x17 => if x17 = true then (some (([] : List ByteArray), false)) else (patchworkref8_Do.l0 k x0 x1 ([] : List ByteArray) 0 0)
def patchworkref8_Do.l0 : Nat → List (Op) → List ByteArray → List ByteArray → Int → Int → Option (List ByteArray × Bool)
 | 0, _, _, _, _, _ => none
 | k + 1, x0, x1, x6, x7, x8 => if x8 < (x0.length : Int) then (if 0 ≤ x8 then (if ((rd_Op x0 x8).f0) = 1 then (if (wrap64 ((x1.length : Int) - x7)) < ((rd_Op x0 x8).f1) then (some (([] : List ByteArray), false)) else (if 0 ≤ x7 then (if x7 ≤ (wrap64 (x7 + ((rd_Op x0 x8).f1))) then (if (wrap64 (x7 + ((rd_Op x0 x8).f1))) ≤ (x1.length : Int) then (if x6.length + ((x1.take ((wrap64 (x7 + ((rd_Op x0 x8).f1))) : Int).toNat).drop (x7 : Int).toNat).length < 8796093022208 then (patchworkref8_Do.l0 k x0 x1 (x6 ++ ((x1.take ((wrap64 (x7 + ((rd_Op x0 x8).f1))) : Int).toNat).drop (x7 : Int).toNat)) (wrap64 (x7 + ((rd_Op x0 x8).f1))) (wrap64 (x8 + 1))) else (none)) else (none)) else (none)) else (none))) else (if ((rd_Op x0 x8).f0) = 4 then (if x6.length < 8796093022208 then (patchworkref8_Do.l0 k x0 x1 (x6 ++ [(rd_Op x0 x8).f2]) x7 (wrap64 (x8 + 1))) else (none)) else (if x7 ≥ (x1.length : Int) then (patchworkref8_Do.j2 k x0 x1 x6 x7 x8 true ((rd_Op x0 x8).f0) ((rd_Op x0 x8).f1) ((rd_Op x0 x8).f2)) else (if 0 ≤ x7 then (if x7 < (x1.length : Int) then (patchworkref8_Do.j2 k x0 x1 x6 x7 x8 ((rdOf ByteArray.empty x1 x7).toList != ((rd_Op x0 x8).f2).toList) ((rd_Op x0 x8).f0) ((rd_Op x0 x8).f1) ((rd_Op x0 x8).f2)) else (none)) else (none))))) else (none)) else (if 0 ≤ x7 then (if x7 ≤ (x1.length : Int) then (if x6.length + (x1.drop (x7 : Int).toNat).length < 8796093022208 then ((some (x6 ++ (x1.drop (x7 : Int).toNat) : List ByteArray)).bind fun y396 => ((patchworkref1_Whole.f k y396).bind fun t399 => (if t399 = true then (some (y396, true)) else (some (([] : List ByteArray), false))))) else (none)) else (none)) else (none))
def patchworkref8_Do.j2 : Nat → List (Op) → List ByteArray → List ByteArray → Int → Int → Bool → Int → Int → ByteArray → Option (List ByteArray × Bool)
 | 0, _, _, _, _, _, _, _, _, _ => none
 | k + 1, x0, x1, x6, x7, x8, x42, x402000, x402001, x402002 => if x42 = true then (some (([] : List ByteArray), false)) else (if x402000 = 2 then (if x6.length < 8796093022208 then (patchworkref8_Do.l0 k x0 x1 (x6 ++ [x402002]) (wrap64 (x7 + 1)) (wrap64 (x8 + 1))) else (none)) else (patchworkref8_Do.l0 k x0 x1 x6 (wrap64 (x7 + 1)) (wrap64 (x8 + 1))))
end
def patchworkref1_SameTexts.l0 : Nat → List ByteArray → List ByteArray → Int → Option (Bool)
 | 0, _, _, _ => none
 | k + 1, x0, x1, x5 => if x5 < (x0.length : Int) then (if 0 ≤ x5 then (if x5 < (x1.length : Int) then (if (rdOf ByteArray.empty x0 x5).toList = (rdOf ByteArray.empty x1 x5).toList then (patchworkref1_SameTexts.l0 k x0 x1 (wrap64 (x5 + 1))) else (some false)) else (none)) else (none)) else (some true)
def patchworklaw15_changes.l0 : Nat → List (Op) → List (Op) → Int → Option ((List (Op)))
 | 0, _, _, _ => none
 | k + 1, x0, x3, x4 => if x4 < (x0.length : Int) then (if 0 ≤ x4 then (if ((rd_Op x0 x4).f0) = 3 then (if x3.length < 4398046511104 then (patchworklaw15_changes.l0 k x0 (x3 ++ [(⟨(rd_Op x0 x4).f0, (rd_Op x0 x4).f1, (rd_Op x0 x4).f2⟩ : Op)]) (wrap64 (x4 + 1))) else (none)) else (if ((rd_Op x0 x4).f0) = 4 then (if x3.length < 4398046511104 then (patchworklaw15_changes.l0 k x0 (x3 ++ [(⟨(rd_Op x0 x4).f0, (rd_Op x0 x4).f1, (rd_Op x0 x4).f2⟩ : Op)]) (wrap64 (x4 + 1))) else (none)) else (patchworklaw15_changes.l0 k x0 x3 (wrap64 (x4 + 1))))) else (none)) else (some x3)
def patchworkref8_Rest.l0 : Nat → List (Op) → Int → Option ((List (Op)))
 | 0, _, _ => none
 | k + 1, x0, x3 => if x3 > 0 then (if 0 ≤ (wrap64 (x3 - 1)) then (if (wrap64 (x3 - 1)) < (x0.length : Int) then (if ((rd_Op x0 (wrap64 (x3 - 1))).f0) = 1 then (patchworkref8_Rest.l0 k x0 (wrap64 (x3 - 1))) else (if 0 ≤ x3 then (if x3 ≤ (x0.length : Int) then ((some (x0.take (x3 : Int).toNat : List (Op))).bind fun y491 => (if ([] : List (Op)).length + y491.length < 4398046511104 then (some (([] : List (Op)) ++ y491)) else (none))) else (none)) else (none))) else (none)) else (none)) else (if 0 ≤ x3 then (if x3 ≤ (x0.length : Int) then ((some (x0.take (x3 : Int).toNat : List (Op))).bind fun y498 => (if ([] : List (Op)).length + y498.length < 4398046511104 then (some (([] : List (Op)) ++ y498)) else (none))) else (none)) else (none))
def patchworkref8_Rest.f (k : Nat) (l0 : List (Op)) : Option ((List (Op))) := patchworkref8_Rest.l0 k l0 (l0.length : Int)
def patchworkref8_change.f (a0_0 : Int) (a0_1 : Int) (a0_2 : ByteArray) : Option (Bool) := if a0_0 = 3 then (some true) else (some (a0_0 == 4))
mutual
def patchworkref8_near.l0 : Nat → List (Op) → Int → Int → Int → Int → Option (Bool)
 | 0, _, _, _, _, _ => none
 | k + 1, x0, x2, x3, x9, x10 => if x10 ≥ 0 then (patchworkref8_near.j1 k x0 x2 x3 x9 x10 (decide (x10 < (x0.length : Int)))) else (patchworkref8_near.j1 k x0 x2 x3 x9 x10 false)
def patchworkref8_near.j1 : Nat → List (Op) → Int → Int → Int → Int → Bool → Option (Bool)
 | 0, _, _, _, _, _, _ => none
 | k + 1, x0, x2, x3, x9, x10, x21 => if x21 = true then (if 0 ≤ x10 then (if x10 < (x0.length : Int) then ((patchworkref8_change.f ((rd_Op x0 x10).f0) ((rd_Op x0 x10).f1) ((rd_Op x0 x10).f2)).bind fun t507 => (if t507 = true then (some (decide (x9 < x3))) else (if ((rd_Op x0 x10).f0) = 1 then (some false) else (patchworkref8_near.l0 k x0 x2 x3 (wrap64 (x9 + 1)) (wrap64 (x10 + x2)))))) else (none)) else (none)) else (some false)
end
def patchworkref8_near.f (k : Nat) (l0 : List (Op)) (a1 : Int) (a2 : Int) (a3 : Int) : Option (Bool) := patchworkref8_near.l0 k l0 a2 a3 0 (wrap64 (a1 + a2))
def patchworkref8_Trim.l0 : Nat → List (Op) → Int → List (Op) → Int → Option ((List (Op)))
 | 0, _, _, _, _ => none
 | k + 1, x0, x1, x5, x6 => if x6 < (x0.length : Int) then (if 0 ≤ x6 then (if ((rd_Op x0 x6).f0) = 2 then ((patchworkref8_near.f k x0 x6 1 x1).bind fun t522 => (if t522 = true then (if x5.length < 4398046511104 then (patchworkref8_Trim.l0 k x0 x1 (x5 ++ [(⟨(rd_Op x0 x6).f0, (rd_Op x0 x6).f1, (rd_Op x0 x6).f2⟩ : Op)]) (wrap64 (x6 + 1))) else (none)) else ((patchworkref8_near.f k x0 x6 (-1) x1).bind fun t526 => (if t526 = true then (if x5.length < 4398046511104 then (patchworkref8_Trim.l0 k x0 x1 (x5 ++ [(⟨(rd_Op x0 x6).f0, (rd_Op x0 x6).f1, (rd_Op x0 x6).f2⟩ : Op)]) (wrap64 (x6 + 1))) else (none)) else (if x5.length < 4398046511104 then (patchworkref8_Trim.l0 k x0 x1 (x5 ++ [(⟨1, 1, (⟨#[]⟩ : ByteArray)⟩ : Op)]) (wrap64 (x6 + 1))) else (none)))))) else (if x5.length < 4398046511104 then (patchworkref8_Trim.l0 k x0 x1 (x5 ++ [(⟨(rd_Op x0 x6).f0, (rd_Op x0 x6).f1, (rd_Op x0 x6).f2⟩ : Op)]) (wrap64 (x6 + 1))) else (none))) else (none)) else ((patchworkref8_norm.f k x5).bind fun t514 => ((patchworkref8_Rest.f k t514).bind fun t517 => (some t517)))
def patchworklaw15_come.l0 : Nat → Int → ByteArray → List (Op) → Int → Option ((List (Op)))
 | 0, _, _, _, _ => none
 | k + 1, x0, x1, x5, x6 => if x6 < x0 then (if x5.length < 4398046511104 then (patchworklaw15_come.l0 k x0 x1 (x5 ++ [(⟨4, 0, x1⟩ : Op)]) (wrap64 (x6 + 1))) else (none)) else (some x5)
def compose_Then.f (k : Nat) (l0 : List (Op)) (l1 : List (Op)) : Option ((List (Op)) × Bool) := (compose_Walk.f k l0 l1).bind fun bt680 => (if bt680.2 = true then ((compose_told.f k bt680.1).bind fun bt684 => ((ops_Norm.f k bt684.1).bind fun t688 => (some (t688, true)))) else (some (([] : List (Op)), false)))
theorem compose_Then.mono : ∀ a0 a1 k, LeO (compose_Then.f k a0 a1) (compose_Then.f (k + 1) a0 a1) := by
 intro a0 a1 k
 unfold compose_Then.f
 repeat' first
   | (with_reducible exact compose_Walk.mono _ _ _)
   | (with_reducible exact compose_told.mono _ _)
   | (with_reducible exact ops_Norm.mono _ _)
   | (with_reducible exact LeO.refl _)
   | (with_reducible exact LeO.none _)
   | (with_reducible refine LeO.ite ?_ ?_)
   | (with_reducible refine LeO.bind ?_ (fun _ => ?_))
   | exact compose_Walk.mono _ _ _
   | exact compose_told.mono _ _
   | exact ops_Norm.mono _ _
   | exact LeO.none _
   | refine LeO.ite ?_ ?_
   | refine LeO.bind ?_ (fun _ => ?_)
def flip_Ops.l0 : Nat → List (Op) → List (Op) → Int → Int → Option ((List (Op)))
 | 0, _, _, _, _ => none
 | k + 1, x3, x9, x10, x11 => if x11 < x10 then (if 0 ≤ x11 then (if x11 < (x9.length : Int) then (if ((rd_Op x9 x11).f0) = 3 then (if x3.length < 4398046511104 then (flip_Ops.l0 k (x3 ++ [(⟨4, (rd_Op x9 x11).f1, (rd_Op x9 x11).f2⟩ : Op)]) x9 x10 (wrap64 (x11 + 1))) else (none)) else (if ((rd_Op x9 x11).f0) = 4 then (if x3.length < 4398046511104 then (flip_Ops.l0 k (x3 ++ [(⟨3, (rd_Op x9 x11).f1, (rd_Op x9 x11).f2⟩ : Op)]) x9 x10 (wrap64 (x11 + 1))) else (none)) else (if x3.length < 4398046511104 then (flip_Ops.l0 k (x3 ++ [(⟨(rd_Op x9 x11).f0, (rd_Op x9 x11).f1, (rd_Op x9 x11).f2⟩ : Op)]) x9 x10 (wrap64 (x11 + 1))) else (none)))) else (none)) else (none)) else ((ops_Norm.f k x3).bind fun t692 => (some t692))
def flip_Ops.f (k : Nat) (l0 : List (Op)) : Option ((List (Op))) := (ops_Right.f k l0).bind fun t691 => (if t691 = true then (flip_Ops.l0 k ([] : List (Op)) l0 (l0.length : Int) 0) else (some ([] : List (Op))))
theorem flip_Ops.mono_l : ∀ k, (∀ y0 y1 y2 y3, LeO (flip_Ops.l0 k y0 y1 y2 y3) (flip_Ops.l0 (k + 1) y0 y1 y2 y3))
 | 0 => fun _ _ _ _ r h => by simp [flip_Ops.l0] at h
 | k + 1 => by
  have ih0 := flip_Ops.mono_l k
  ·intro y0 y1 y2 y3
   unfold flip_Ops.l0
   repeat' first
   | (with_reducible exact ih0 _ _ _ _)
   | (with_reducible exact ops_Norm.mono _ _)
   | (with_reducible exact ops_Right.mono _ _)
   | (with_reducible exact LeO.refl _)
   | (with_reducible exact LeO.none _)
   | (with_reducible refine LeO.ite ?_ ?_)
   | (with_reducible refine LeO.bind ?_ (fun _ => ?_))
   | exact ih0 _ _ _ _
   | exact ops_Norm.mono _ _
   | exact ops_Right.mono _ _
   | exact LeO.none _
   | refine LeO.ite ?_ ?_
   | refine LeO.bind ?_ (fun _ => ?_)
theorem flip_Ops.mono : ∀ a0 k, LeO (flip_Ops.f k a0) (flip_Ops.f (k + 1) a0) := by
 intro a0 k
 have ih0 := flip_Ops.mono_l k
 unfold flip_Ops.f
 repeat' first
   | (with_reducible exact ih0 _ _ _ _)
   | (with_reducible exact ops_Norm.mono _ _)
   | (with_reducible exact ops_Right.mono _ _)
   | (with_reducible exact LeO.refl _)
   | (with_reducible exact LeO.none _)
   | (with_reducible refine LeO.ite ?_ ?_)
   | (with_reducible refine LeO.bind ?_ (fun _ => ?_))
   | exact ih0 _ _ _ _
   | exact ops_Norm.mono _ _
   | exact ops_Right.mono _ _
   | exact LeO.none _
   | refine LeO.ite ?_ ?_
   | refine LeO.bind ?_ (fun _ => ?_)
def lcs_ahead.l0 : Nat → List ByteArray → List ByteArray → Int → Option (Int)
 | 0, _, _, _ => none
 | k + 1, x0, x1, x5 => if x5 < (x0.length : Int) then (if x5 < (x1.length : Int) then (if 0 ≤ x5 then (if (rdOf ByteArray.empty x0 x5).toList = (rdOf ByteArray.empty x1 x5).toList then (lcs_ahead.l0 k x0 x1 (wrap64 (x5 + 1))) else (some x5)) else (none)) else (some x5)) else (some x5)
def lcs_ahead.f (k : Nat) (l0 : List ByteArray) (l1 : List ByteArray) : Option (Int) := lcs_ahead.l0 k l0 l1 0
def lcs_Diff.f (l0 : List ByteArray) (l1 : List ByteArray) : Option (List (Op)) := if l0.length ≤ 1000000 ∧ l1.length ≤ 1000000 then some (diffOps l0 l1) else none
def tidy_texts_ops_Old.l0 : Nat → List ByteArray → List (Op) → Int → Int → Option (List ByteArray)
 | 0, _, _, _, _ => none
 | k + 1, x5, x8, x9, x10 => if x10 < x9 then (if 0 ≤ x10 then (if x10 < (x8.length : Int) then ((ops_Old.f ((rd_Op x8 x10).f0)).bind fun t710 => (if t710 = true then (if x5.length < 8796093022208 then (tidy_texts_ops_Old.l0 k (x5 ++ [(rd_Op x8 x10).f2]) x8 x9 (wrap64 (x10 + 1))) else (none)) else (tidy_texts_ops_Old.l0 k x5 x8 x9 (wrap64 (x10 + 1))))) else (none)) else (none)) else (some x5)
def tidy_texts_ops_Old.f (k : Nat) (l0 : List (Op))  : Option (List ByteArray) := tidy_texts_ops_Old.l0 k ([] : List ByteArray) l0 (l0.length : Int) 0
theorem tidy_texts_ops_Old.mono_l : ∀ k, (∀ y0 y1 y2 y3, LeO (tidy_texts_ops_Old.l0 k y0 y1 y2 y3) (tidy_texts_ops_Old.l0 (k + 1) y0 y1 y2 y3))
 | 0 => fun _ _ _ _ r h => by simp [tidy_texts_ops_Old.l0] at h
 | k + 1 => by
  have ih0 := tidy_texts_ops_Old.mono_l k
  ·intro y0 y1 y2 y3
   unfold tidy_texts_ops_Old.l0
   repeat' first
   | (with_reducible exact ih0 _ _ _ _)
   | (with_reducible exact LeO.refl _)
   | (with_reducible exact LeO.none _)
   | (with_reducible refine LeO.ite ?_ ?_)
   | (with_reducible refine LeO.bind ?_ (fun _ => ?_))
   | exact ih0 _ _ _ _
   | exact LeO.none _
   | refine LeO.ite ?_ ?_
   | refine LeO.bind ?_ (fun _ => ?_)
theorem tidy_texts_ops_Old.mono : ∀ a0 k, LeO (tidy_texts_ops_Old.f k a0) (tidy_texts_ops_Old.f (k + 1) a0) := by
 intro a0 k
 have ih0 := tidy_texts_ops_Old.mono_l k
 unfold tidy_texts_ops_Old.f
 repeat' first
   | (with_reducible exact ih0 _ _ _ _)
   | (with_reducible exact LeO.refl _)
   | (with_reducible exact LeO.none _)
   | (with_reducible refine LeO.ite ?_ ?_)
   | (with_reducible refine LeO.bind ?_ (fun _ => ?_))
   | exact ih0 _ _ _ _
   | exact LeO.none _
   | refine LeO.ite ?_ ?_
   | refine LeO.bind ?_ (fun _ => ?_)
def tidy_texts_ops_New.l0 : Nat → List ByteArray → List (Op) → Int → Int → Option (List ByteArray)
 | 0, _, _, _, _ => none
 | k + 1, x5, x8, x9, x10 => if x10 < x9 then (if 0 ≤ x10 then (if x10 < (x8.length : Int) then ((ops_New.f ((rd_Op x8 x10).f0)).bind fun t716 => (if t716 = true then (if x5.length < 8796093022208 then (tidy_texts_ops_New.l0 k (x5 ++ [(rd_Op x8 x10).f2]) x8 x9 (wrap64 (x10 + 1))) else (none)) else (tidy_texts_ops_New.l0 k x5 x8 x9 (wrap64 (x10 + 1))))) else (none)) else (none)) else (some x5)
def tidy_texts_ops_New.f (k : Nat) (l0 : List (Op))  : Option (List ByteArray) := tidy_texts_ops_New.l0 k ([] : List ByteArray) l0 (l0.length : Int) 0
theorem tidy_texts_ops_New.mono_l : ∀ k, (∀ y0 y1 y2 y3, LeO (tidy_texts_ops_New.l0 k y0 y1 y2 y3) (tidy_texts_ops_New.l0 (k + 1) y0 y1 y2 y3))
 | 0 => fun _ _ _ _ r h => by simp [tidy_texts_ops_New.l0] at h
 | k + 1 => by
  have ih0 := tidy_texts_ops_New.mono_l k
  ·intro y0 y1 y2 y3
   unfold tidy_texts_ops_New.l0
   repeat' first
   | (with_reducible exact ih0 _ _ _ _)
   | (with_reducible exact LeO.refl _)
   | (with_reducible exact LeO.none _)
   | (with_reducible refine LeO.ite ?_ ?_)
   | (with_reducible refine LeO.bind ?_ (fun _ => ?_))
   | exact ih0 _ _ _ _
   | exact LeO.none _
   | refine LeO.ite ?_ ?_
   | refine LeO.bind ?_ (fun _ => ?_)
theorem tidy_texts_ops_New.mono : ∀ a0 k, LeO (tidy_texts_ops_New.f k a0) (tidy_texts_ops_New.f (k + 1) a0) := by
 intro a0 k
 have ih0 := tidy_texts_ops_New.mono_l k
 unfold tidy_texts_ops_New.f
 repeat' first
   | (with_reducible exact ih0 _ _ _ _)
   | (with_reducible exact LeO.refl _)
   | (with_reducible exact LeO.none _)
   | (with_reducible refine LeO.ite ?_ ?_)
   | (with_reducible refine LeO.bind ?_ (fun _ => ?_))
   | exact ih0 _ _ _ _
   | exact LeO.none _
   | refine LeO.ite ?_ ?_
   | refine LeO.bind ?_ (fun _ => ?_)
mutual
def tidy_Ops.l0 : Nat → List (Op) → List (Op) → Int → Option ((List (Op)))
 | 0, _, _, _ => none
 | k + 1, x0, x3, x4 => if x4 < (x0.length : Int) then (tidy_Ops.l1 k x0 x3 x4 x4) else ((ops_Norm.f k x3).bind fun t721 => (some t721))
def tidy_Ops.j2 : Nat → List (Op) → List (Op) → Int → Int → Option ((List (Op)))
 | 0, _, _, _, _ => none
 | k + 1, x0, x3, x4, x5 => if 0 ≤ x5 then (if x5 ≤ x4 then (if x4 ≤ (x0.length : Int) then ((tidy_texts_ops_Old.f k ((x0.take (x4 : Int).toNat).drop (x5 : Int).toNat)).bind fun t729 => ((tidy_texts_ops_New.f k ((x0.take (x4 : Int).toNat).drop (x5 : Int).toNat)).bind fun t736 => ((lcs_Diff.f t729 t736).bind fun t739 => (if x3.length + t739.length < 4398046511104 then ((some (x3 ++ t739 : List (Op))).bind fun y742 => (if x4 < (x0.length : Int) then (if 0 ≤ x4 then (if y742.length < 4398046511104 then (tidy_Ops.l0 k x0 (y742 ++ [(⟨(rd_Op x0 x4).f0, (rd_Op x0 x4).f1, (rd_Op x0 x4).f2⟩ : Op)]) (wrap64 (x4 + 1))) else (none)) else (none)) else (tidy_Ops.l0 k x0 y742 (wrap64 (x4 + 1))))) else (none))))) else (none)) else (none)) else (none)
def tidy_Ops.l1 : Nat → List (Op) → List (Op) → Int → Int → Option ((List (Op)))
 | 0, _, _, _, _ => none
 | k + 1, x0, x3, x4, x5 => if x4 < (x0.length : Int) then (if 0 ≤ x4 then (if ((rd_Op x0 x4).f0) = 1 then (tidy_Ops.j2 k x0 x3 x4 x5) else (tidy_Ops.l1 k x0 x3 (wrap64 (x4 + 1)) x5)) else (none)) else (tidy_Ops.j2 k x0 x3 x4 x5)
end
def tidy_Ops.f (k : Nat) (l0 : List (Op)) : Option ((List (Op))) := (ops_Right.f k l0).bind fun t720 => (if t720 = true then (tidy_Ops.l0 k l0 ([] : List (Op)) 0) else (some ([] : List (Op))))
theorem tidy_Ops.mono_l : ∀ k, (∀ y0 y1 y2, LeO (tidy_Ops.l0 k y0 y1 y2) (tidy_Ops.l0 (k + 1) y0 y1 y2)) ∧ (∀ y0 y1 y2 y3, LeO (tidy_Ops.j2 k y0 y1 y2 y3) (tidy_Ops.j2 (k + 1) y0 y1 y2 y3)) ∧ (∀ y0 y1 y2 y3, LeO (tidy_Ops.l1 k y0 y1 y2 y3) (tidy_Ops.l1 (k + 1) y0 y1 y2 y3))
 | 0 => ⟨fun _ _ _ r h => by simp [tidy_Ops.l0] at h, fun _ _ _ _ r h => by simp [tidy_Ops.j2] at h, fun _ _ _ _ r h => by simp [tidy_Ops.l1] at h⟩
 | k + 1 => by
  obtain ⟨ih0, ih1, ih2⟩ := tidy_Ops.mono_l k
  refine ⟨?_, ?_, ?_⟩
  ·intro y0 y1 y2
   unfold tidy_Ops.l0
   repeat' first
   | (with_reducible exact ih0 _ _ _)
   | (with_reducible exact ih1 _ _ _ _)
   | (with_reducible exact ih2 _ _ _ _)
   | (with_reducible exact ops_Norm.mono _ _)
   | (with_reducible exact ops_Right.mono _ _)
   | (with_reducible exact tidy_texts_ops_New.mono _ _)
   | (with_reducible exact tidy_texts_ops_Old.mono _ _)
   | (with_reducible exact LeO.refl _)
   | (with_reducible exact LeO.none _)
   | (with_reducible refine LeO.ite ?_ ?_)
   | (with_reducible refine LeO.bind ?_ (fun _ => ?_))
   | exact ih0 _ _ _
   | exact ih1 _ _ _ _
   | exact ih2 _ _ _ _
   | exact ops_Norm.mono _ _
   | exact ops_Right.mono _ _
   | exact tidy_texts_ops_New.mono _ _
   | exact tidy_texts_ops_Old.mono _ _
   | exact LeO.none _
   | refine LeO.ite ?_ ?_
   | refine LeO.bind ?_ (fun _ => ?_)
  ·intro y0 y1 y2 y3
   unfold tidy_Ops.j2
   repeat' first
   | (with_reducible exact ih0 _ _ _)
   | (with_reducible exact ih1 _ _ _ _)
   | (with_reducible exact ih2 _ _ _ _)
   | (with_reducible exact ops_Norm.mono _ _)
   | (with_reducible exact ops_Right.mono _ _)
   | (with_reducible exact tidy_texts_ops_New.mono _ _)
   | (with_reducible exact tidy_texts_ops_Old.mono _ _)
   | (with_reducible exact LeO.refl _)
   | (with_reducible exact LeO.none _)
   | (with_reducible refine LeO.ite ?_ ?_)
   | (with_reducible refine LeO.bind ?_ (fun _ => ?_))
   | exact ih0 _ _ _
   | exact ih1 _ _ _ _
   | exact ih2 _ _ _ _
   | exact ops_Norm.mono _ _
   | exact ops_Right.mono _ _
   | exact tidy_texts_ops_New.mono _ _
   | exact tidy_texts_ops_Old.mono _ _
   | exact LeO.none _
   | refine LeO.ite ?_ ?_
   | refine LeO.bind ?_ (fun _ => ?_)
  ·intro y0 y1 y2 y3
   unfold tidy_Ops.l1
   repeat' first
   | (with_reducible exact ih0 _ _ _)
   | (with_reducible exact ih1 _ _ _ _)
   | (with_reducible exact ih2 _ _ _ _)
   | (with_reducible exact ops_Norm.mono _ _)
   | (with_reducible exact ops_Right.mono _ _)
   | (with_reducible exact tidy_texts_ops_New.mono _ _)
   | (with_reducible exact tidy_texts_ops_Old.mono _ _)
   | (with_reducible exact LeO.refl _)
   | (with_reducible exact LeO.none _)
   | (with_reducible refine LeO.ite ?_ ?_)
   | (with_reducible refine LeO.bind ?_ (fun _ => ?_))
   | exact ih0 _ _ _
   | exact ih1 _ _ _ _
   | exact ih2 _ _ _ _
   | exact ops_Norm.mono _ _
   | exact ops_Right.mono _ _
   | exact tidy_texts_ops_New.mono _ _
   | exact tidy_texts_ops_Old.mono _ _
   | exact LeO.none _
   | refine LeO.ite ?_ ?_
   | refine LeO.bind ?_ (fun _ => ?_)
theorem tidy_Ops.mono : ∀ a0 k, LeO (tidy_Ops.f k a0) (tidy_Ops.f (k + 1) a0) := by
 intro a0 k
 obtain ⟨ih0, ih1, ih2⟩ := tidy_Ops.mono_l k
 unfold tidy_Ops.f
 repeat' first
   | (with_reducible exact ih0 _ _ _)
   | (with_reducible exact ih1 _ _ _ _)
   | (with_reducible exact ih2 _ _ _ _)
   | (with_reducible exact ops_Norm.mono _ _)
   | (with_reducible exact ops_Right.mono _ _)
   | (with_reducible exact tidy_texts_ops_New.mono _ _)
   | (with_reducible exact tidy_texts_ops_Old.mono _ _)
   | (with_reducible exact LeO.refl _)
   | (with_reducible exact LeO.none _)
   | (with_reducible refine LeO.ite ?_ ?_)
   | (with_reducible refine LeO.bind ?_ (fun _ => ?_))
   | exact ih0 _ _ _
   | exact ih1 _ _ _ _
   | exact ih2 _ _ _ _
   | exact ops_Norm.mono _ _
   | exact ops_Right.mono _ _
   | exact tidy_texts_ops_New.mono _ _
   | exact tidy_texts_ops_Old.mono _ _
   | exact LeO.none _
   | refine LeO.ite ?_ ?_
   | refine LeO.bind ?_ (fun _ => ?_)
def tidy_Ops.T10 : Bool × List (List Nat × List Nat) := (true, [([], []), ([], []), ([], []), ([], []), ([1, 2, 3], [1, 2, 3]), ([4], [4]), ([], []), ([], []), ([], []), ([6, 7, 8], [6, 7, 8]), ([9, 5], [9]), ([5, 10, 10], [5, 10]), ([0, 11, 11], [0, 11]), ([12, 12, 0, 1, 2, 3, 4, 5, 6, 7, 8, 9, 10, 11, 12], [0, 12])])
def tidy_Ops.B10 : List Nat := [0, 0, 0, 0, 14, 30, 0, 0, 0, 448, 1022, 2046, 4095, 8191]
theorem tidy_Ops.tab10 : rtab .any (opsOf Try.f51 10) = tidy_Ops.T10 := by kernel_rfl
theorem tidy_Ops.bits10 : waitsOk tidy_Ops.T10.2 tidy_Ops.B10 = true := by kernel_rfl
def inter_Ops.f (k : Nat) (l0 : List (Op)) (l1 : List (Op)) : Option ((List (Op)) × Bool) := (ops_Right.f k l0).bind fun t749 => (if t749 = true then ((flip_Ops.f k l0).bind fun t750 => ((compose_Then.f k t750 l1).bind fun bt753 => (if bt753.2 = true then ((tidy_Ops.f k bt753.1).bind fun t757 => (some (t757, true))) else (some (([] : List (Op)), false))))) else (some (([] : List (Op)), false)))
theorem inter_Ops.mono : ∀ a0 a1 k, LeO (inter_Ops.f k a0 a1) (inter_Ops.f (k + 1) a0 a1) := by
 intro a0 a1 k
 unfold inter_Ops.f
 repeat' first
   | (with_reducible exact compose_Then.mono _ _ _)
   | (with_reducible exact flip_Ops.mono _ _)
   | (with_reducible exact ops_Right.mono _ _)
   | (with_reducible exact tidy_Ops.mono _ _)
   | (with_reducible exact LeO.refl _)
   | (with_reducible exact LeO.none _)
   | (with_reducible refine LeO.ite ?_ ?_)
   | (with_reducible refine LeO.bind ?_ (fun _ => ?_))
   | exact compose_Then.mono _ _ _
   | exact flip_Ops.mono _ _
   | exact ops_Right.mono _ _
   | exact tidy_Ops.mono _ _
   | exact LeO.none _
   | refine LeO.ite ?_ ?_
   | refine LeO.bind ?_ (fun _ => ?_)
def patchworklaw14_alive.f (k : Nat)  : Option (Bool) := (inter_Ops.f k ([] : List (Op)) ([] : List (Op))).bind fun bt760 => ((inter_Ops.f k (([(⟨4, 0, (⟨#[97, 10]⟩ : ByteArray)⟩ : Op)] : List (Op))) (([(⟨4, 0, (⟨#[98, 10]⟩ : ByteArray)⟩ : Op)] : List (Op)))).bind fun bt770 => (if (bt760.1.length : Int) = 0 then (if bt760.2 = true then (if (bt770.1.length : Int) = 2 then (if bt770.2 = true then (if 0 < (bt770.1.length : Int) then (some (((rd_Op bt770.1 0).f0) == 3)) else (none)) else (some false)) else (some false)) else (some false)) else (some false)))
theorem patchworklaw14_alive.mono : ∀ k, LeO (patchworklaw14_alive.f k ) (patchworklaw14_alive.f (k + 1) ) := by
 intro  k
 unfold patchworklaw14_alive.f
 repeat' first
   | (with_reducible exact inter_Ops.mono _ _ _)
   | (with_reducible exact LeO.refl _)
   | (with_reducible exact LeO.none _)
   | (with_reducible refine LeO.ite ?_ ?_)
   | (with_reducible refine LeO.bind ?_ (fun _ => ?_))
   | exact inter_Ops.mono _ _ _
   | exact LeO.none _
   | refine LeO.ite ?_ ?_
   | refine LeO.bind ?_ (fun _ => ?_)
def patchworkref8_Then.j0 : Nat → List (Op) → List (Op) → Bool → Option ((List (Op)) × Bool)
 | 0, _, _, _ => none
 | k + 1, x0, x1, x17 => if x17 = true then (some (([] : List (Op)), false)) else ((patchworkref8_walk.f x0 x1).bind fun bt777 => ((patchworkref8_ops.f k bt777.1).bind fun t782 => ((patchworkref8_norm.f k t782).bind fun t785 => (if bt777.2.2 = true then ((patchworkref8_Right.f k t785).bind fun t788 => (if t788 = true then (some (t785, true)) else (some (([] : List (Op)), false)))) else (some (([] : List (Op)), false))))))
def patchworkref8_Then.f (k : Nat) (l0 : List (Op)) (l1 : List (Op)) : Option ((List (Op)) × Bool) := (patchworkref8_Right.f k l0).bind fun t775 => (if t775 = true then ((patchworkref8_Right.f k l1).bind fun t776 => (patchworkref8_Then.j0 k l0 l1 (!t776))) else (patchworkref8_Then.j0 k l0 l1 true))
def patchworkref8_Flip.l0 : Nat → List (Op) → List (Op) → Int → Option ((List (Op)))
 | 0, _, _, _ => none
 | k + 1, x0, x3, x4 => if x4 < (x0.length : Int) then (if 0 ≤ x4 then (if ((rd_Op x0 x4).f0) = 3 then (if x3.length < 4398046511104 then (patchworkref8_Flip.l0 k x0 (x3 ++ [(⟨4, (rd_Op x0 x4).f1, (rd_Op x0 x4).f2⟩ : Op)]) (wrap64 (x4 + 1))) else (none)) else (if ((rd_Op x0 x4).f0) = 4 then (if x3.length < 4398046511104 then (patchworkref8_Flip.l0 k x0 (x3 ++ [(⟨3, (rd_Op x0 x4).f1, (rd_Op x0 x4).f2⟩ : Op)]) (wrap64 (x4 + 1))) else (none)) else (if x3.length < 4398046511104 then (patchworkref8_Flip.l0 k x0 (x3 ++ [(⟨(rd_Op x0 x4).f0, (rd_Op x0 x4).f1, (rd_Op x0 x4).f2⟩ : Op)]) (wrap64 (x4 + 1))) else (none)))) else (none)) else ((patchworkref8_norm.f k x3).bind fun t790 => (some t790))
def patchworkref8_Flip.f (k : Nat) (l0 : List (Op)) : Option ((List (Op))) := (patchworkref8_Right.f k l0).bind fun t789 => (if t789 = true then (patchworkref8_Flip.l0 k l0 ([] : List (Op)) 0) else (some ([] : List (Op))))
def patchworkref8_table.f (l0 : List ByteArray) (l1 : List ByteArray) : Option (List (List Int)) := if l0.length ≤ 1000000 ∧ l1.length ≤ 1000000 then some (tabRows l0 l1) else none
mutual
def patchworkref8_LcsDiff.l0 : Nat → List ByteArray → List ByteArray → List (List Int) → List (Op) → Int → Int → Option ((List (Op)))
 | 0, _, _, _, _, _, _ => none
 | k + 1, x0, x1, x5, x6, x7, x8 => if x7 < (x0.length : Int) then (patchworkref8_LcsDiff.j1 k x0 x1 x5 x6 x7 x8 true) else (patchworkref8_LcsDiff.j1 k x0 x1 x5 x6 x7 x8 (decide (x8 < (x1.length : Int))))
def patchworkref8_LcsDiff.j1 : Nat → List ByteArray → List ByteArray → List (List Int) → List (Op) → Int → Int → Bool → Option ((List (Op)))
 | 0, _, _, _, _, _, _, _ => none
 | k + 1, x0, x1, x5, x6, x7, x8, x21 => if x21 = true then (if x7 < (x0.length : Int) then (if x8 < (x1.length : Int) then (if 0 ≤ x7 then (if 0 ≤ x8 then (if (rdOf ByteArray.empty x0 x7).toList = (rdOf ByteArray.empty x1 x8).toList then (if x7 < (x5.length : Int) then (if x8 < ((rd_L11 x5 x7).length : Int) then (if 0 ≤ (wrap64 (x7 + 1)) then (if (wrap64 (x7 + 1)) < (x5.length : Int) then (if 0 ≤ (wrap64 (x8 + 1)) then (if (wrap64 (x8 + 1)) < ((rd_L11 x5 (wrap64 (x7 + 1))).length : Int) then (patchworkref8_LcsDiff.j2 k x0 x1 x5 x6 x7 x8 ((rd (rd_L11 x5 x7) x8) == (wrap64 ((rd (rd_L11 x5 (wrap64 (x7 + 1))) (wrap64 (x8 + 1))) + 1)))) else (none)) else (none)) else (none)) else (none)) else (none)) else (none)) else (patchworkref8_LcsDiff.j2 k x0 x1 x5 x6 x7 x8 false)) else (none)) else (none)) else (patchworkref8_LcsDiff.j2 k x0 x1 x5 x6 x7 x8 false)) else (patchworkref8_LcsDiff.j2 k x0 x1 x5 x6 x7 x8 false)) else (some x6)
def patchworkref8_LcsDiff.j2 : Nat → List ByteArray → List ByteArray → List (List Int) → List (Op) → Int → Int → Bool → Option ((List (Op)))
 | 0, _, _, _, _, _, _, _ => none
 | k + 1, x0, x1, x5, x6, x7, x8, x32 => if x32 = true then (if 0 ≤ x7 then (if x7 < (x0.length : Int) then (if x6.length < 4398046511104 then (patchworkref8_LcsDiff.l0 k x0 x1 x5 (x6 ++ [(⟨2, 0, rdOf ByteArray.empty x0 x7⟩ : Op)]) (wrap64 (x7 + 1)) (wrap64 (x8 + 1))) else (none)) else (none)) else (none)) else (if x8 = (x1.length : Int) then (if 0 ≤ x7 then (if x7 < (x0.length : Int) then (if x6.length < 4398046511104 then (patchworkref8_LcsDiff.l0 k x0 x1 x5 (x6 ++ [(⟨3, 0, rdOf ByteArray.empty x0 x7⟩ : Op)]) (wrap64 (x7 + 1)) x8) else (none)) else (none)) else (none)) else (if x7 < (x0.length : Int) then (if 0 ≤ (wrap64 (x7 + 1)) then (if (wrap64 (x7 + 1)) < (x5.length : Int) then (if 0 ≤ x8 then (if x8 < ((rd_L11 x5 (wrap64 (x7 + 1))).length : Int) then (if 0 ≤ x7 then (if x7 < (x5.length : Int) then (if 0 ≤ (wrap64 (x8 + 1)) then (if (wrap64 (x8 + 1)) < ((rd_L11 x5 x7).length : Int) then (if (rd (rd_L11 x5 (wrap64 (x7 + 1))) x8) ≥ (rd (rd_L11 x5 x7) (wrap64 (x8 + 1))) then (if x6.length < 4398046511104 then (patchworkref8_LcsDiff.l0 k x0 x1 x5 (x6 ++ [(⟨3, 0, rdOf ByteArray.empty x0 x7⟩ : Op)]) (wrap64 (x7 + 1)) x8) else (none)) else (if x8 < (x1.length : Int) then (if x6.length < 4398046511104 then (patchworkref8_LcsDiff.l0 k x0 x1 x5 (x6 ++ [(⟨4, 0, rdOf ByteArray.empty x1 x8⟩ : Op)]) x7 (wrap64 (x8 + 1))) else (none)) else (none))) else (none)) else (none)) else (none)) else (none)) else (none)) else (none)) else (none)) else (none)) else (if 0 ≤ x8 then (if x8 < (x1.length : Int) then (if x6.length < 4398046511104 then (patchworkref8_LcsDiff.l0 k x0 x1 x5 (x6 ++ [(⟨4, 0, rdOf ByteArray.empty x1 x8⟩ : Op)]) x7 (wrap64 (x8 + 1))) else (none)) else (none)) else (none))))
end
def patchworkref8_LcsDiff.f (k : Nat) (l0 : List ByteArray) (l1 : List ByteArray) : Option ((List (Op))) := (patchworkref8_table.f l0 l1).bind fun t804 => (patchworkref8_LcsDiff.l0 k l0 l1 t804 ([] : List (Op)) 0 0)
mutual
def patchworkref8_Tidy.l0 : Nat → List (Op) → List (Op) → List ByteArray → List ByteArray → Int → Option ((List (Op)))
 | 0, _, _, _, _, _ => none
 | k + 1, x0, x3, x4, x5, x6 => if x6 ≤ (x0.length : Int) then (if x6 = (x0.length : Int) then (patchworkref8_Tidy.j1 k x0 x3 x4 x5 x6 true) else (if 0 ≤ x6 then (if x6 < (x0.length : Int) then (patchworkref8_Tidy.j1 k x0 x3 x4 x5 x6 (((rd_Op x0 x6).f0) == 1)) else (none)) else (none))) else ((patchworkref8_norm.f k x3).bind fun t838 => (some t838))
def patchworkref8_Tidy.j1 : Nat → List (Op) → List (Op) → List ByteArray → List ByteArray → Int → Bool → Option ((List (Op)))
 | 0, _, _, _, _, _, _ => none
 | k + 1, x0, x3, x4, x5, x6, x27 => if x27 = true then ((patchworkref8_LcsDiff.f k x4 x5).bind fun t842 => (if x3.length + t842.length < 4398046511104 then ((some (x3 ++ t842 : List (Op))).bind fun y845 => (if x6 < (x0.length : Int) then (if 0 ≤ x6 then (if y845.length < 4398046511104 then (patchworkref8_Tidy.l0 k x0 (y845 ++ [(⟨(rd_Op x0 x6).f0, (rd_Op x0 x6).f1, (rd_Op x0 x6).f2⟩ : Op)]) ([] : List ByteArray) ([] : List ByteArray) (wrap64 (x6 + 1))) else (none)) else (none)) else (patchworkref8_Tidy.l0 k x0 y845 ([] : List ByteArray) ([] : List ByteArray) (wrap64 (x6 + 1))))) else (none))) else (if 0 ≤ x6 then (if x6 < (x0.length : Int) then (if ((rd_Op x0 x6).f0) = 4 then (if ((rd_Op x0 x6).f0) = 3 then (patchworkref8_Tidy.l0 k x0 x3 x4 x5 (wrap64 (x6 + 1))) else (if x5.length < 8796093022208 then (patchworkref8_Tidy.l0 k x0 x3 x4 (x5 ++ [(rd_Op x0 x6).f2]) (wrap64 (x6 + 1))) else (none))) else (if x4.length < 8796093022208 then ((some (x4 ++ [(rd_Op x0 x6).f2] : List ByteArray)).bind fun y859 => (if ((rd_Op x0 x6).f0) = 3 then (patchworkref8_Tidy.l0 k x0 x3 y859 x5 (wrap64 (x6 + 1))) else (if x5.length < 8796093022208 then (patchworkref8_Tidy.l0 k x0 x3 y859 (x5 ++ [(rd_Op x0 x6).f2]) (wrap64 (x6 + 1))) else (none)))) else (none))) else (none)) else (none))
end
def patchworkref8_Tidy.f (k : Nat) (l0 : List (Op)) : Option ((List (Op))) := (patchworkref8_Right.f k l0).bind fun t837 => (if t837 = true then (patchworkref8_Tidy.l0 k l0 ([] : List (Op)) ([] : List ByteArray) ([] : List ByteArray) 0) else (some ([] : List (Op))))
def patchworkref8_Inter.j0 : Nat → List (Op) → List (Op) → Bool → Option ((List (Op)) × Bool)
 | 0, _, _, _ => none
 | k + 1, x0, x1, x15 => if x15 = true then (some (([] : List (Op)), false)) else ((patchworkref8_Flip.f k x0).bind fun t869 => ((patchworkref8_Then.f k t869 x1).bind fun bt872 => (if bt872.2 = true then ((patchworkref8_Tidy.f k bt872.1).bind fun t876 => (some (t876, true))) else (some (([] : List (Op)), false)))))
def patchworkref8_Changes.l0 : Nat → List (Op) → Int → Int → Option (Int)
 | 0, _, _, _ => none
 | k + 1, x0, x3, x4 => if x4 < (x0.length : Int) then (if 0 ≤ x4 then ((patchworkref8_change.f ((rd_Op x0 x4).f0) ((rd_Op x0 x4).f1) ((rd_Op x0 x4).f2)).bind fun t928 => (if t928 = true then (patchworkref8_Changes.l0 k x0 (wrap64 (x3 + 1)) (wrap64 (x4 + 1))) else (patchworkref8_Changes.l0 k x0 x3 (wrap64 (x4 + 1))))) else (none)) else (some x3)
end Go.Proofs.Ytfoponahdidddaa.P
