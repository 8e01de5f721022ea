/- Own and printed texts that the theorem of TidyIdle reaches, put together. -/
import Derived.Test.YtacpejblnjgcoaaqTidyIdle3
set_option linter.unusedVariables false
set_option linter.unusedSimpArgs false
namespace Go.Proofs.Ytacpejblnjgcoaa.P
open Go.RowKit Go.Proofs.YtacpejblnjgcoaaW.PrintWords Go.Proofs.YtacpejblnjgcoaaW.PrintLast Go.Proofs.YtacpejblnjgcoaaW.PrintMore
attribute [local go_sem] max2_int min2_int max_two min_two max_three min_three max_four min_four
def ops_New.f (a0 : Int) : Option (Bool) := if a0 = 1 then (some true) else (if a0 = 2 then (some true) else (some (a0 == 4)))
def ops_Old.f (a0 : Int) : Option (Bool) := if a0 = 1 then (some true) else (if a0 = 2 then (some true) else (some (a0 == 3)))
def ops_Change.f (a0 : Int) : Option (Bool) := if a0 = 3 then (some true) else (some (a0 == 4))
def strings_Contains.f (a0 : ByteArray) (a1 : ByteArray) : Option (Bool) := match a1.data.toList with
 | [c] => some (decide (c ∈ a0.data.toList))
 | _ => none
theorem has_byte (l : List UInt8) (c : UInt8) : decide (0 ≤ Lib.indexByte l c) = decide (c ∈ l) := by
 have h : (0 ≤ Lib.indexByte l c) ↔ c ∈ l := by
  induction l with
  | nil => simp [Lib.indexByte]
  | cons b l ih =>
   have hg := Lib.indexByte_ge l c
   by_cases hb : b = c
   ·subst hb; simp [Lib.indexByte]
   ·have hb' : ¬ c = b := fun e => hb e.symm
    by_cases hm : Lib.indexByte l c = -1
    ·have : ¬ c ∈ l := fun hc => by have := ih.mpr hc; omega
     simp [Lib.indexByte, hb, hb', hm, this]
    ·have : c ∈ l := ih.mp (by omega)
     simp [Lib.indexByte, hb, hm, this]; omega
 simp only [h]
def stringslite_HasSuffix.f (a0 : ByteArray) (a1 : ByteArray) : Option (Bool) := if (a0.size : Int) ≥ (a1.size : Int) then (if 0 ≤ (wrap64 ((a0.size : Int) - (a1.size : Int))) then (if (wrap64 ((a0.size : Int) - (a1.size : Int))) ≤ (a0.size : Int) then (some ((a0.extract ((wrap64 ((a0.size : Int) - (a1.size : Int))) : Int).toNat a0.size).toList == a1.toList)) else (none)) else (none)) else (some false)
def stringslite_TrimSuffix.f (a0 : ByteArray) (a1 : ByteArray) : Option (ByteArray) := (stringslite_HasSuffix.f a0 a1).bind fun t101 => (if t101 = true then (if 0 ≤ (wrap64 ((a0.size : Int) - (a1.size : Int))) then (if (wrap64 ((a0.size : Int) - (a1.size : Int))) ≤ (a0.size : Int) then (some (a0.extract 0 ((wrap64 ((a0.size : Int) - (a1.size : Int))) : Int).toNat)) else (none)) else (none)) else (some a0))
def strings_TrimSuffix.f (a0 : ByteArray) (a1 : ByteArray) : Option (ByteArray) := (stringslite_TrimSuffix.f a0 a1).bind fun t102 => (some t102)
def lines_Right.f (a0 : ByteArray) : Option (Bool) := if a0.toList = ([] : List UInt8) then (some false) else ((strings_TrimSuffix.f a0 (⟨#[10]⟩ : ByteArray)).bind fun t103 => ((strings_Contains.f t103 (⟨#[10]⟩ : ByteArray)).bind fun t104 => (some (!t104))))
def ops_one.f (a0_0 : Int) (a0_1 : Int) (a0_2 : ByteArray) : Option (Bool) := if a0_0 = 1 then (if a0_1 ≥ 1 then (if a0_1 ≤ 2147483648 then (some (a0_2.toList == ([] : List UInt8))) else (some false)) else (some false)) else (if a0_0 = 2 then (if a0_1 = 0 then ((lines_Right.f a0_2).bind fun t106 => (some t106)) else (some false)) else ((ops_Change.f a0_0).bind fun t107 => (if t107 = true then (if a0_1 = 0 then ((lines_Right.f a0_2).bind fun t108 => (some t108)) else (some false)) else (some false))))
def ops_Right_1.f (a0_0 : Int) (a0_1 : Int) (a0_2 : ByteArray) : Option (Bool) := (ops_one.f a0_0 a0_1 a0_2).bind fun t110 => (some (!t110))
def ops_count.l0 : Nat → Int → Int → List (Op) → Int → Int → Option (Int)
 | 0, _, _, _, _, _ => none
 | k + 1, x1, x5, x8, x9, x10 => if x10 < x9 then (if 0 ≤ x10 then (if x10 < (x8.length : Int) then (if ((rd_Op x8 x10).f0) = 1 then (ops_count.l0 k x1 (mn (wrap64 (x5 + (mx 0 (mn ((rd_Op x8 x10).f1) 1099511627776)))) 1099511627776) x8 x9 (wrap64 (x10 + 1))) else (if ((rd_Op x8 x10).f0) = 2 then (ops_count.l0 k x1 (mn (wrap64 (x5 + 1)) 1099511627776) x8 x9 (wrap64 (x10 + 1))) else (if ((rd_Op x8 x10).f0) = x1 then (ops_count.l0 k x1 (mn (wrap64 (x5 + 1)) 1099511627776) x8 x9 (wrap64 (x10 + 1))) else (ops_count.l0 k x1 (mn x5 1099511627776) x8 x9 (wrap64 (x10 + 1)))))) else (none)) else (none)) else (some x5)
def ops_count.f (k : Nat) (l0 : List (Op)) (a1 : Int) : Option (Int) := ops_count.l0 k a1 0 l0 (l0.length : Int) 0
def ops_Olds.f (k : Nat) (l0 : List (Op)) : Option (Int) := (ops_count.f k l0 3).bind fun t113 => (some t113)
def ops_News.f (k : Nat) (l0 : List (Op)) : Option (Int) := (ops_count.f k l0 4).bind fun t114 => (some t114)
def strings_HasSuffix.f (a0 : ByteArray) (a1 : ByteArray) : Option (Bool) := (stringslite_HasSuffix.f a0 a1).bind fun t115 => (some t115)
def lines_Closed.f (a0 : ByteArray) : Option (Bool) := (strings_HasSuffix.f a0 (⟨#[10]⟩ : ByteArray)).bind fun t116 => (some t116)
def slices_IndexFunc_Op_ops_Right_1.l0 : Nat → List (Op) → Int → Int → Option (Int)
 | 0, _, _, _ => none
 | k + 1, x0, x7, x8 => if x8 < x7 then (if 0 ≤ x8 then (if x8 < (x0.length : Int) then ((ops_Right_1.f ((rd_Op x0 x8).f0) ((rd_Op x0 x8).f1) ((rd_Op x0 x8).f2)).bind fun t118 => (if t118 = true then (some x8) else (slices_IndexFunc_Op_ops_Right_1.l0 k x0 x7 (wrap64 (x8 + 1))))) else (none)) else (none)) else (some (-1))
def slices_IndexFunc_Op_ops_Right_1.f (k : Nat) (l0 : List (Op))  : Option (Int) := slices_IndexFunc_Op_ops_Right_1.l0 k l0 (l0.length : Int) 0
def slices_ContainsFunc_Op_ops_Right_1.f (k : Nat) (l0 : List (Op))  : Option (Bool) := (slices_IndexFunc_Op_ops_Right_1.f k l0).bind fun t119 => (some (decide (t119 ≥ 0)))
def ops_closed_ops_Old.l0 : Nat → Bool → List (Op) → Int → Int → Option (Bool)
 | 0, _, _, _, _ => none
 | k + 1, x5, x8, x9, x10 => if x10 < x9 then (if 0 ≤ x10 then (if x10 < (x8.length : Int) then ((ops_Old.f ((rd_Op x8 x10).f0)).bind fun t122 => (if t122 = true then (if x5 = true then (some false) else (if ((rd_Op x8 x10).f0) = 1 then (ops_closed_ops_Old.l0 k false x8 x9 (wrap64 (x10 + 1))) else ((lines_Closed.f ((rd_Op x8 x10).f2)).bind fun t123 => (ops_closed_ops_Old.l0 k (!t123) x8 x9 (wrap64 (x10 + 1)))))) else (ops_closed_ops_Old.l0 k x5 x8 x9 (wrap64 (x10 + 1))))) else (none)) else (none)) else (some true)
def ops_closed_ops_Old.f (k : Nat) (l0 : List (Op))  : Option (Bool) := ops_closed_ops_Old.l0 k false l0 (l0.length : Int) 0
def ops_closed_ops_New.l0 : Nat → Bool → List (Op) → Int → Int → Option (Bool)
 | 0, _, _, _, _ => none
 | k + 1, x5, x8, x9, x10 => if x10 < x9 then (if 0 ≤ x10 then (if x10 < (x8.length : Int) then ((ops_New.f ((rd_Op x8 x10).f0)).bind fun t126 => (if t126 = true then (if x5 = true then (some false) else (if ((rd_Op x8 x10).f0) = 1 then (ops_closed_ops_New.l0 k false x8 x9 (wrap64 (x10 + 1))) else ((lines_Closed.f ((rd_Op x8 x10).f2)).bind fun t127 => (ops_closed_ops_New.l0 k (!t127) x8 x9 (wrap64 (x10 + 1)))))) else (ops_closed_ops_New.l0 k x5 x8 x9 (wrap64 (x10 + 1))))) else (none)) else (none)) else (some true)
def ops_closed_ops_New.f (k : Nat) (l0 : List (Op))  : Option (Bool) := ops_closed_ops_New.l0 k false l0 (l0.length : Int) 0
def ops_Right.f (k : Nat) (l0 : List (Op)) : Option (Bool) := (slices_ContainsFunc_Op_ops_Right_1.f k l0).bind fun t128 => (if t128 = true then (some false) else ((ops_Olds.f k l0).bind fun t129 => (if t129 ≤ 2147483648 then ((ops_News.f k l0).bind fun t130 => (if t130 ≤ 2147483648 then ((ops_closed_ops_Old.f k l0).bind fun t131 => (if t131 = true then ((ops_closed_ops_New.f k l0).bind fun t132 => (some t132)) else (some false))) else (some false))) else (some false))))
def lcs_ahead.l0 : Nat → List ByteArray → List ByteArray → Int → Option (Int)
 | 0, _, _, _ => none
 | k + 1, x0, x1, x5 => if x5 < (x0.length : Int) then (if x5 < (x1.length : Int) then (if 0 ≤ x5 then (if (rdOf ByteArray.empty x0 x5).toList = (rdOf ByteArray.empty x1 x5).toList then (lcs_ahead.l0 k x0 x1 (wrap64 (x5 + 1))) else (some x5)) else (none)) else (some x5)) else (some x5)
def lcs_ahead.f (k : Nat) (l0 : List ByteArray) (l1 : List ByteArray) : Option (Int) := lcs_ahead.l0 k l0 l1 0
def lcs_Diff.f (l0 : List ByteArray) (l1 : List ByteArray) : Option (List (Op)) := if l0.length ≤ 1000000 ∧ l1.length ≤ 1000000 then some (diffOps l0 l1) else none
def ops_Some.l0 : Nat → Int → List (Op) → List (Op) → Int → Int → Option ((List (Op)))
 | 0, _, _, _, _, _ => none
 | k + 1, x1, x5, x8, x9, x10 => if x10 < x9 then (if 0 ≤ x10 then (if x10 < (x8.length : Int) then (if ((rd_Op x8 x10).f0) = x1 then (if x5.length < 4398046511104 then (ops_Some.l0 k x1 (x5 ++ [(⟨(rd_Op x8 x10).f0, (rd_Op x8 x10).f1, (rd_Op x8 x10).f2⟩ : Op)]) x8 x9 (wrap64 (x10 + 1))) else (none)) else (ops_Some.l0 k x1 x5 x8 x9 (wrap64 (x10 + 1)))) else (none)) else (none)) else (some x5)
def ops_Some.f (k : Nat) (l0 : List (Op)) (a1 : Int) : Option ((List (Op))) := ops_Some.l0 k a1 ([] : List (Op)) l0 (l0.length : Int) 0
mutual
def ops_Norm.l0 : Nat → List (Op) → List (Op) → Int → Option ((List (Op)))
 | 0, _, _, _ => none
 | k + 1, x0, x3, x4 => if x4 < (x0.length : Int) then (ops_Norm.l1 k x0 x3 x4 x4) else (some x3)
def ops_Norm.j2 : Nat → List (Op) → List (Op) → Int → Int → Option ((List (Op)))
 | 0, _, _, _, _ => none
 | k + 1, x0, x3, x4, x5 => if 0 ≤ x5 then (if x5 ≤ x4 then (if x4 ≤ (x0.length : Int) then ((ops_Some.f k ((x0.take (x4 : Int).toNat).drop (x5 : Int).toNat) 3).bind fun t147 => (if x3.length + t147.length < 4398046511104 then ((some (x3 ++ t147 : List (Op))).bind fun y150 => ((ops_Some.f k ((x0.take (x4 : Int).toNat).drop (x5 : Int).toNat) 4).bind fun t157 => (if y150.length + t157.length < 4398046511104 then ((some (y150 ++ t157 : List (Op))).bind fun y160 => (if x4 = (x0.length : Int) then (some y160) else (if 0 ≤ x4 then (if x4 < (x0.length : Int) then (ops_Norm.l2 k x0 y160 (wrap64 (x4 + 1)) ((rd_Op x0 x4).f0) ((rd_Op x0 x4).f1) ((rd_Op x0 x4).f2)) else (none)) else (none)))) else (none)))) else (none))) else (none)) else (none)) else (none)
def ops_Norm.l2 : Nat → List (Op) → List (Op) → Int → Int → Int → ByteArray → Option ((List (Op)))
 | 0, _, _, _, _, _, _ => none
 | k + 1, x0, x3, x4, x165000, x165001, x165002 => if x165000 = 1 then (if x4 < (x0.length : Int) then (if 0 ≤ x4 then (if ((rd_Op x0 x4).f0) = 1 then (ops_Norm.l2 k x0 x3 (wrap64 (x4 + 1)) x165000 (wrap64 (x165001 + ((rd_Op x0 x4).f1))) x165002) else (if x3.length < 4398046511104 then (ops_Norm.l0 k x0 (x3 ++ [(⟨x165000, x165001, x165002⟩ : Op)]) x4) else (none))) else (none)) else (if x3.length < 4398046511104 then (ops_Norm.l0 k x0 (x3 ++ [(⟨x165000, x165001, x165002⟩ : Op)]) x4) else (none))) else (if x3.length < 4398046511104 then (ops_Norm.l0 k x0 (x3 ++ [(⟨x165000, x165001, x165002⟩ : Op)]) x4) else (none))
def ops_Norm.l1 : Nat → List (Op) → List (Op) → Int → Int → Option ((List (Op)))
 | 0, _, _, _, _ => none
 | k + 1, x0, x3, x4, x5 => if x4 < (x0.length : Int) then (if 0 ≤ x4 then ((ops_Change.f ((rd_Op x0 x4).f0)).bind fun t142 => (if t142 = true then (ops_Norm.l1 k x0 x3 (wrap64 (x4 + 1)) x5) else (ops_Norm.j2 k x0 x3 x4 x5))) else (none)) else (ops_Norm.j2 k x0 x3 x4 x5)
end
def ops_Norm.f (k : Nat) (l0 : List (Op)) : Option ((List (Op))) := (ops_Right.f k l0).bind fun t140 => (if t140 = true then (ops_Norm.l0 k l0 ([] : List (Op)) 0) else (some ([] : List (Op))))
def ops_Norm.T9 : Bool × List (List Nat × List Nat) := (true, [([], []), ([], []), ([], []), ([], []), ([1, 2, 3], [1, 2, 3]), ([4], [4]), ([0, 5, 5], [0, 5]), ([], []), ([], []), ([], []), ([7, 8, 9], [7, 8, 9]), ([10, 6], [10]), ([6, 11, 11], [6, 11]), ([12, 12, 0, 1, 2, 3, 4, 5, 6, 7, 8, 9, 10, 11, 12], [0, 12])])
def ops_Norm.B9 : List Nat := [0, 0, 0, 0, 14, 30, 63, 0, 0, 0, 896, 2047, 4095, 8191]
theorem ops_Norm.tab9 : rtab .any (opsOf Try.f45 9) = ops_Norm.T9 := by kernel_rfl
theorem ops_Norm.bits9 : waitsOk ops_Norm.T9.2 ops_Norm.B9 = true := by kernel_rfl
def ops_Norm.T14 : Bool × List (List Nat × List Nat) := (true, [([], []), ([0], [0]), ([], []), ([], []), ([2, 3], [2, 3]), ([4], [4]), ([5], [5]), ([1, 6], [1, 6]), ([0, 1, 2, 3, 4, 5, 6, 7], []), ([8, 7, 0, 1, 2, 3, 4, 5, 6, 7], [7, 8])])
def ops_Norm.B14 : List Nat := [0, 1, 0, 0, 12, 28, 60, 127, 255, 511]
theorem ops_Norm.tab14 : rtab .any (opsOf Try.f45 14) = ops_Norm.T14 := by kernel_rfl
theorem ops_Norm.bits14 : waitsOk ops_Norm.T14.2 ops_Norm.B14 = true := by kernel_rfl
def tidy_texts_ops_Old.l0 : Nat → List ByteArray → List (Op) → Int → Int → Option (List ByteArray)
 | 0, _, _, _, _ => none
 | k + 1, x5, x8, x9, x10 => if x10 < x9 then (if 0 ≤ x10 then (if x10 < (x8.length : Int) then ((ops_Old.f ((rd_Op x8 x10).f0)).bind fun t178 => (if t178 = true then (if x5.length < 8796093022208 then (tidy_texts_ops_Old.l0 k (x5 ++ [(rd_Op x8 x10).f2]) x8 x9 (wrap64 (x10 + 1))) else (none)) else (tidy_texts_ops_Old.l0 k x5 x8 x9 (wrap64 (x10 + 1))))) else (none)) else (none)) else (some x5)
def tidy_texts_ops_Old.f (k : Nat) (l0 : List (Op))  : Option (List ByteArray) := tidy_texts_ops_Old.l0 k ([] : List ByteArray) l0 (l0.length : Int) 0
def tidy_texts_ops_New.l0 : Nat → List ByteArray → List (Op) → Int → Int → Option (List ByteArray)
 | 0, _, _, _, _ => none
 | k + 1, x5, x8, x9, x10 => if x10 < x9 then (if 0 ≤ x10 then (if x10 < (x8.length : Int) then ((ops_New.f ((rd_Op x8 x10).f0)).bind fun t184 => (if t184 = true then (if x5.length < 8796093022208 then (tidy_texts_ops_New.l0 k (x5 ++ [(rd_Op x8 x10).f2]) x8 x9 (wrap64 (x10 + 1))) else (none)) else (tidy_texts_ops_New.l0 k x5 x8 x9 (wrap64 (x10 + 1))))) else (none)) else (none)) else (some x5)
def tidy_texts_ops_New.f (k : Nat) (l0 : List (Op))  : Option (List ByteArray) := tidy_texts_ops_New.l0 k ([] : List ByteArray) l0 (l0.length : Int) 0
mutual
def tidy_Ops.l0 : Nat → List (Op) → List (Op) → Int → Option ((List (Op)))
 | 0, _, _, _ => none
 | k + 1, x0, x3, x4 => if x4 < (x0.length : Int) then (tidy_Ops.l1 k x0 x3 x4 x4) else ((ops_Norm.f k x3).bind fun t189 => (some t189))
def tidy_Ops.j2 : Nat → List (Op) → List (Op) → Int → Int → Option ((List (Op)))
 | 0, _, _, _, _ => none
 | k + 1, x0, x3, x4, x5 => if 0 ≤ x5 then (if x5 ≤ x4 then (if x4 ≤ (x0.length : Int) then ((tidy_texts_ops_Old.f k ((x0.take (x4 : Int).toNat).drop (x5 : Int).toNat)).bind fun t197 => ((tidy_texts_ops_New.f k ((x0.take (x4 : Int).toNat).drop (x5 : Int).toNat)).bind fun t204 => ((lcs_Diff.f t197 t204).bind fun t207 => (if x3.length + t207.length < 4398046511104 then ((some (x3 ++ t207 : List (Op))).bind fun y210 => (if x4 < (x0.length : Int) then (if 0 ≤ x4 then (if y210.length < 4398046511104 then (tidy_Ops.l0 k x0 (y210 ++ [(⟨(rd_Op x0 x4).f0, (rd_Op x0 x4).f1, (rd_Op x0 x4).f2⟩ : Op)]) (wrap64 (x4 + 1))) else (none)) else (none)) else (tidy_Ops.l0 k x0 y210 (wrap64 (x4 + 1))))) else (none))))) else (none)) else (none)) else (none)
def tidy_Ops.l1 : Nat → List (Op) → List (Op) → Int → Int → Option ((List (Op)))
 | 0, _, _, _, _ => none
 | k + 1, x0, x3, x4, x5 => if x4 < (x0.length : Int) then (if 0 ≤ x4 then (if ((rd_Op x0 x4).f0) = 1 then (tidy_Ops.j2 k x0 x3 x4 x5) else (tidy_Ops.l1 k x0 x3 (wrap64 (x4 + 1)) x5)) else (none)) else (tidy_Ops.j2 k x0 x3 x4 x5)
end
def tidy_Ops.f (k : Nat) (l0 : List (Op)) : Option ((List (Op))) := (ops_Right.f k l0).bind fun t188 => (if t188 = true then (tidy_Ops.l0 k l0 ([] : List (Op)) 0) else (some ([] : List (Op))))
def tidy_Ops.T10 : Bool × List (List Nat × List Nat) := (true, [([], []), ([], []), ([], []), ([], []), ([1, 2, 3], [1, 2, 3]), ([4], [4]), ([], []), ([], []), ([], []), ([6, 7, 8], [6, 7, 8]), ([9, 5], [9]), ([5, 10, 10], [5, 10]), ([0, 11, 11], [0, 11]), ([12, 12, 0, 1, 2, 3, 4, 5, 6, 7, 8, 9, 10, 11, 12], [0, 12])])
def tidy_Ops.B10 : List Nat := [0, 0, 0, 0, 14, 30, 0, 0, 0, 448, 1022, 2046, 4095, 8191]
theorem tidy_Ops.tab10 : rtab .any (opsOf Try.f16 10) = tidy_Ops.T10 := by kernel_rfl
theorem tidy_Ops.bits10 : waitsOk tidy_Ops.T10.2 tidy_Ops.B10 = true := by kernel_rfl
def ops_Changes.l0 : Nat → Int → List (Op) → Int → Int → Option (Int)
 | 0, _, _, _, _ => none
 | k + 1, x3, x6, x7, x8 => if x8 < x7 then (if 0 ≤ x8 then (if x8 < (x6.length : Int) then ((ops_Change.f ((rd_Op x6 x8).f0)).bind fun t219 => (if t219 = true then (ops_Changes.l0 k (wrap64 (x3 + 1)) x6 x7 (wrap64 (x8 + 1))) else (ops_Changes.l0 k x3 x6 x7 (wrap64 (x8 + 1))))) else (none)) else (none)) else (some x3)
def ops_Changes.f (k : Nat) (l0 : List (Op)) : Option (Int) := ops_Changes.l0 k 0 l0 (l0.length : Int) 0
def tidy_Idle.f (k : Nat) (l0 : List (Op)) : Option (Bool) := (tidy_Ops.f k l0).bind fun t220 => ((ops_Changes.f k t220).bind fun t223 => (some (t223 == 0)))
def patchworklaw13_alive.f (k : Nat)  : Option (Bool) := (some (([(⟨3, 0, (⟨#[97, 10]⟩ : ByteArray)⟩ : Op), (⟨4, 0, (⟨#[97, 10]⟩ : ByteArray)⟩ : Op)] : List (Op)) : List (Op))).bind fun y224 => ((tidy_Idle.f k ([] : List (Op))).bind fun t227 => (if t227 = true then ((tidy_Idle.f k y224).bind fun t228 => (if t228 = true then ((tidy_Ops.f k y224).bind fun t229 => (if (t229.length : Int) = 1 then (if 1 ≤ (y224.length : Int) then ((tidy_Idle.f k (y224.take 1)).bind fun t236 => (some (!t236))) else (none)) else (some false))) else (some false))) else (some false)))
def patchworklaw8_Few.l0 : Nat → List (Op) → Int → Int → Option (Bool)
 | 0, _, _, _ => none
 | k + 1, x0, x3, x4 => if x4 < (x0.length : Int) then (if 0 ≤ x4 then (patchworklaw8_Few.l0 k x0 (wrap64 ((wrap64 (x3 + 1)) + (((rd_Op x0 x4).f2).size : Int))) (wrap64 (x4 + 1))) else (none)) else (some (decide (x3 ≤ 600)))
def patchworklaw8_Few.f (k : Nat) (l0 : List (Op)) : Option (Bool) := patchworklaw8_Few.l0 k l0 0 0
def patchworkref8_Same.l0 : Nat → List (Op) → List (Op) → Int → Option (Bool)
 | 0, _, _, _ => none
 | k + 1, x0, x1, x5 => if x5 < (x0.length : Int) then (if 0 ≤ x5 then (if x5 < (x1.length : Int) then (if (!(((rd_Op x0 x5).f0) == ((rd_Op x1 x5).f0)) || (!(((rd_Op x0 x5).f1) == ((rd_Op x1 x5).f1)) || (!((((rd_Op x0 x5).f2).toList) == (((rd_Op x1 x5).f2).toList))))) = true then (some false) else (patchworkref8_Same.l0 k x0 x1 (wrap64 (x5 + 1)))) else (none)) else (none)) else (some true)
def patchworkref8_Same.f (k : Nat) (l0 : List (Op)) (l1 : List (Op)) : Option (Bool) := if (l0.length : Int) = (l1.length : Int) then (patchworkref8_Same.l0 k l0 l1 0) else (some false)
def patchworkref8_old.f (a0_0 : Int) (a0_1 : Int) (a0_2 : ByteArray) : Option (Int) := if a0_0 = 1 then (if a0_1 > 0 then (some a0_1) else (some 0)) else (if a0_0 = 2 then (some 1) else (if a0_0 = 3 then (some 1) else (some 0)))
def patchworkref8_plus.f (a0 : Int) (a1 : Int) : Option (Int) := if a0 ≥ 1099511627776 then (some 1099511627776) else (if a1 ≥ 1099511627776 then (some 1099511627776) else (if (wrap64 (a0 + a1)) > 1099511627776 then (some 1099511627776) else (some (wrap64 (a0 + a1)))))
def patchworkref8_Olds.l0 : Nat → List (Op) → Int → Int → Option (Int)
 | 0, _, _, _ => none
 | k + 1, x0, x3, x4 => if x4 < (x0.length : Int) then (if 0 ≤ x4 then ((patchworkref8_old.f ((rd_Op x0 x4).f0) ((rd_Op x0 x4).f1) ((rd_Op x0 x4).f2)).bind fun t242 => ((patchworkref8_plus.f x3 t242).bind fun t243 => (patchworkref8_Olds.l0 k x0 t243 (wrap64 (x4 + 1))))) else (none)) else (some x3)
def patchworkref8_Olds.f (k : Nat) (l0 : List (Op)) : Option (Int) := patchworkref8_Olds.l0 k l0 0 0
def patchworkref8_fresh.f (a0_0 : Int) (a0_1 : Int) (a0_2 : ByteArray) : Option (Int) := if a0_0 = 3 then (some 0) else (if a0_0 = 4 then (some 1) else ((patchworkref8_old.f a0_0 a0_1 a0_2).bind fun t245 => (some t245)))
def patchworkref8_News.l0 : Nat → List (Op) → Int → Int → Option (Int)
 | 0, _, _, _ => none
 | k + 1, x0, x3, x4 => if x4 < (x0.length : Int) then (if 0 ≤ x4 then ((patchworkref8_fresh.f ((rd_Op x0 x4).f0) ((rd_Op x0 x4).f1) ((rd_Op x0 x4).f2)).bind fun t247 => ((patchworkref8_plus.f x3 t247).bind fun t248 => (patchworkref8_News.l0 k x0 t248 (wrap64 (x4 + 1))))) else (none)) else (some x3)
def patchworkref8_News.f (k : Nat) (l0 : List (Op)) : Option (Int) := patchworkref8_News.l0 k l0 0 0
def patchworkref1_RightLine.l0 : Nat → ByteArray → Int → Option (Bool)
 | 0, _, _ => none
 | k + 1, x0, x3 => if (wrap64 (x3 + 1)) < (x0.size : Int) then (if 0 ≤ x3 then (if x3 < (x0.size : Int) then (if (bt x0 x3) = 10 then (some false) else (patchworkref1_RightLine.l0 k x0 (wrap64 (x3 + 1)))) else (none)) else (none)) else (some (x0.toList != ([] : List UInt8)))
def patchworkref1_RightLine.f (k : Nat) (a0 : ByteArray) : Option (Bool) := patchworkref1_RightLine.l0 k a0 0
def patchworkref1_Open.f (a0 : ByteArray) : Option (Bool) := if a0.toList = ([] : List UInt8) then (some true) else (if 0 ≤ (wrap64 ((a0.size : Int) - 1)) then (if (wrap64 ((a0.size : Int) - 1)) < (a0.size : Int) then (some ((bt a0 (wrap64 ((a0.size : Int) - 1))) != 10)) else (none)) else (none))
mutual
def patchworkref8_Right.l0 : Nat → List (Op) → Bool → Bool → Int → Option (Bool)
 | 0, _, _, _, _ => none
 | k + 1, x0, x3, x4, x5 => if x5 < (x0.length : Int) then (if 0 ≤ x5 then ((patchworkref8_old.f ((rd_Op x0 x5).f0) ((rd_Op x0 x5).f1) ((rd_Op x0 x5).f2)).bind fun t253 => (if t253 > 0 then (if x3 = true then (patchworkref8_Right.j1 k x0 x3 x4 x5 true ((rd_Op x0 x5).f0) ((rd_Op x0 x5).f1) ((rd_Op x0 x5).f2)) else ((patchworkref8_fresh.f ((rd_Op x0 x5).f0) ((rd_Op x0 x5).f1) ((rd_Op x0 x5).f2)).bind fun t254 => (if t254 > 0 then (patchworkref8_Right.j1 k x0 x3 x4 x5 x4 ((rd_Op x0 x5).f0) ((rd_Op x0 x5).f1) ((rd_Op x0 x5).f2)) else (patchworkref8_Right.j1 k x0 x3 x4 x5 false ((rd_Op x0 x5).f0) ((rd_Op x0 x5).f1) ((rd_Op x0 x5).f2))))) else ((patchworkref8_fresh.f ((rd_Op x0 x5).f0) ((rd_Op x0 x5).f1) ((rd_Op x0 x5).f2)).bind fun t255 => (if t255 > 0 then (patchworkref8_Right.j1 k x0 x3 x4 x5 x4 ((rd_Op x0 x5).f0) ((rd_Op x0 x5).f1) ((rd_Op x0 x5).f2)) else (patchworkref8_Right.j1 k x0 x3 x4 x5 false ((rd_Op x0 x5).f0) ((rd_Op x0 x5).f1) ((rd_Op x0 x5).f2)))))) else (none)) else ((patchworkref8_Olds.f k x0).bind fun t249 => (if t249 ≤ 2147483648 then ((patchworkref8_News.f k x0).bind fun t250 => (some (decide (t250 ≤ 2147483648)))) else (some false)))
def patchworkref8_Right.j1 : Nat → List (Op) → Bool → Bool → Int → Bool → Int → Int → ByteArray → Option (Bool)
 | 0, _, _, _, _, _, _, _, _ => none
 | k + 1, x0, x3, x4, x5, x30, x253000, x253001, x253002 => if x30 = true then (some false) else (if x253000 = 1 then (if x253001 < 1 then (some false) else (if x253001 > 2147483648 then (some false) else (if x253002.toList = ([] : List UInt8) then (patchworkref8_Right.l0 k x0 x3 x4 (wrap64 (x5 + 1))) else (some false)))) else (if x253000 = 2 then (patchworkref8_Right.j2 k x0 x3 x4 x5 x253000 x253001 x253002) else (if x253000 = 3 then (patchworkref8_Right.j2 k x0 x3 x4 x5 x253000 x253001 x253002) else (if x253000 = 4 then (patchworkref8_Right.j2 k x0 x3 x4 x5 x253000 x253001 x253002) else (some false)))))
def patchworkref8_Right.j2 : Nat → List (Op) → Bool → Bool → Int → Int → Int → ByteArray → Option (Bool)
 | 0, _, _, _, _, _, _, _ => none
 | k + 1, x0, x3, x4, x5, x253000, x253001, x253002 => if x253001 = 0 then ((patchworkref1_RightLine.f k x253002).bind fun t256 => (patchworkref8_Right.j3 k x0 x3 x4 x5 (!t256) x253000 x253001 x253002)) else (patchworkref8_Right.j3 k x0 x3 x4 x5 true x253000 x253001 x253002)
def patchworkref8_Right.j3 : Nat → List (Op) → Bool → Bool → Int → Bool → Int → Int → ByteArray → Option (Bool)
 | 0, _, _, _, _, _, _, _, _ => none
 | k + 1, x0, x3, x4, x5, x60, x253000, x253001, x253002 => if x60 = true then (some false) else ((patchworkref1_Open.f x253002).bind fun t257 => (if t257 = true then (if x3 = true then (if x4 = true then (patchworkref8_Right.l0 k x0 true true (wrap64 (x5 + 1))) else (patchworkref8_Right.l0 k x0 true (x253000 != 3) (wrap64 (x5 + 1)))) else (if x4 = true then (patchworkref8_Right.l0 k x0 (x253000 != 4) true (wrap64 (x5 + 1))) else (patchworkref8_Right.l0 k x0 (x253000 != 4) (x253000 != 3) (wrap64 (x5 + 1))))) else (patchworkref8_Right.l0 k x0 x3 x4 (wrap64 (x5 + 1)))))
end
def patchworkref8_Right.f (k : Nat) (l0 : List (Op)) : Option (Bool) := patchworkref8_Right.l0 k l0 false false 0
def patchworkref8_table.f (l0 : List ByteArray) (l1 : List ByteArray) : Option (List (List Int)) := if l0.length ≤ 1000000 ∧ l1.length ≤ 1000000 then some (tabRows l0 l1) else none
mutual
def patchworkref8_LcsDiff.l0 : Nat → List ByteArray → List ByteArray → List (List Int) → List (Op) → Int → Int → Option ((List (Op)))
 | 0, _, _, _, _, _, _ => none
 | k + 1, x0, x1, x5, x6, x7, x8 => if x7 < (x0.length : Int) then (patchworkref8_LcsDiff.j1 k x0 x1 x5 x6 x7 x8 true) else (patchworkref8_LcsDiff.j1 k x0 x1 x5 x6 x7 x8 (decide (x8 < (x1.length : Int))))
def patchworkref8_LcsDiff.j1 : Nat → List ByteArray → List ByteArray → List (List Int) → List (Op) → Int → Int → Bool → Option ((List (Op)))
 | 0, _, _, _, _, _, _, _ => none
 | k + 1, x0, x1, x5, x6, x7, x8, x21 => if x21 = true then (if x7 < (x0.length : Int) then (if x8 < (x1.length : Int) then (if 0 ≤ x7 then (if 0 ≤ x8 then (if (rdOf ByteArray.empty x0 x7).toList = (rdOf ByteArray.empty x1 x8).toList then (if x7 < (x5.length : Int) then (if x8 < ((rd_L6 x5 x7).length : Int) then (if 0 ≤ (wrap64 (x7 + 1)) then (if (wrap64 (x7 + 1)) < (x5.length : Int) then (if 0 ≤ (wrap64 (x8 + 1)) then (if (wrap64 (x8 + 1)) < ((rd_L6 x5 (wrap64 (x7 + 1))).length : Int) then (patchworkref8_LcsDiff.j2 k x0 x1 x5 x6 x7 x8 ((rd (rd_L6 x5 x7) x8) == (wrap64 ((rd (rd_L6 x5 (wrap64 (x7 + 1))) (wrap64 (x8 + 1))) + 1)))) else (none)) else (none)) else (none)) else (none)) else (none)) else (none)) else (patchworkref8_LcsDiff.j2 k x0 x1 x5 x6 x7 x8 false)) else (none)) else (none)) else (patchworkref8_LcsDiff.j2 k x0 x1 x5 x6 x7 x8 false)) else (patchworkref8_LcsDiff.j2 k x0 x1 x5 x6 x7 x8 false)) else (some x6)
def patchworkref8_LcsDiff.j2 : Nat → List ByteArray → List ByteArray → List (List Int) → List (Op) → Int → Int → Bool → Option ((List (Op)))
 | 0, _, _, _, _, _, _, _ => none
 | k + 1, x0, x1, x5, x6, x7, x8, x32 => if x32 = true then (if 0 ≤ x7 then (if x7 < (x0.length : Int) then (if x6.length < 4398046511104 then (patchworkref8_LcsDiff.l0 k x0 x1 x5 (x6 ++ [(⟨2, 0, rdOf ByteArray.empty x0 x7⟩ : Op)]) (wrap64 (x7 + 1)) (wrap64 (x8 + 1))) else (none)) else (none)) else (none)) else (if x8 = (x1.length : Int) then (if 0 ≤ x7 then (if x7 < (x0.length : Int) then (if x6.length < 4398046511104 then (patchworkref8_LcsDiff.l0 k x0 x1 x5 (x6 ++ [(⟨3, 0, rdOf ByteArray.empty x0 x7⟩ : Op)]) (wrap64 (x7 + 1)) x8) else (none)) else (none)) else (none)) else (if x7 < (x0.length : Int) then (if 0 ≤ (wrap64 (x7 + 1)) then (if (wrap64 (x7 + 1)) < (x5.length : Int) then (if 0 ≤ x8 then (if x8 < ((rd_L6 x5 (wrap64 (x7 + 1))).length : Int) then (if 0 ≤ x7 then (if x7 < (x5.length : Int) then (if 0 ≤ (wrap64 (x8 + 1)) then (if (wrap64 (x8 + 1)) < ((rd_L6 x5 x7).length : Int) then (if (rd (rd_L6 x5 (wrap64 (x7 + 1))) x8) ≥ (rd (rd_L6 x5 x7) (wrap64 (x8 + 1))) then (if x6.length < 4398046511104 then (patchworkref8_LcsDiff.l0 k x0 x1 x5 (x6 ++ [(⟨3, 0, rdOf ByteArray.empty x0 x7⟩ : Op)]) (wrap64 (x7 + 1)) x8) else (none)) else (if x8 < (x1.length : Int) then (if x6.length < 4398046511104 then (patchworkref8_LcsDiff.l0 k x0 x1 x5 (x6 ++ [(⟨4, 0, rdOf ByteArray.empty x1 x8⟩ : Op)]) x7 (wrap64 (x8 + 1))) else (none)) else (none))) else (none)) else (none)) else (none)) else (none)) else (none)) else (none)) else (none)) else (none)) else (if 0 ≤ x8 then (if x8 < (x1.length : Int) then (if x6.length < 4398046511104 then (patchworkref8_LcsDiff.l0 k x0 x1 x5 (x6 ++ [(⟨4, 0, rdOf ByteArray.empty x1 x8⟩ : Op)]) x7 (wrap64 (x8 + 1))) else (none)) else (none)) else (none))))
end
def patchworkref8_LcsDiff.f (k : Nat) (l0 : List ByteArray) (l1 : List ByteArray) : Option ((List (Op))) := (patchworkref8_table.f l0 l1).bind fun t258 => (patchworkref8_LcsDiff.l0 k l0 l1 t258 ([] : List (Op)) 0 0)
mutual
def patchworkref8_norm.l0 : Nat → List (Op) → List (Op) → List (Op) → Int → Option ((List (Op)))
 | 0, _, _, _, _ => none
 | k + 1, x0, x3, x4, x5 => if x5 ≤ (x0.length : Int) then (if x5 < (x0.length : Int) then (if 0 ≤ x5 then (patchworkref8_norm.j1 k x0 x3 x4 x5 (((rd_Op x0 x5).f0) == 4)) else (none)) else (patchworkref8_norm.j1 k x0 x3 x4 x5 false)) else (some x3)
def patchworkref8_norm.j1 : Nat → List (Op) → List (Op) → List (Op) → Int → Bool → Option ((List (Op)))
 | 0, _, _, _, _, _ => none
 | k + 1, x0, x3, x4, x5, x23 => if x23 = true then (if 0 ≤ x5 then (if x5 < (x0.length : Int) then (if x4.length < 4398046511104 then (patchworkref8_norm.l0 k x0 x3 (x4 ++ [(⟨(rd_Op x0 x5).f0, (rd_Op x0 x5).f1, (rd_Op x0 x5).f2⟩ : Op)]) (wrap64 (x5 + 1))) else (none)) else (none)) else (none)) else (if x5 = (x0.length : Int) then (patchworkref8_norm.j2 k x0 x3 x4 x5 true) else (if 0 ≤ x5 then (if x5 < (x0.length : Int) then (patchworkref8_norm.j2 k x0 x3 x4 x5 (((rd_Op x0 x5).f0) != 3)) else (none)) else (none)))
def patchworkref8_norm.j2 : Nat → List (Op) → List (Op) → List (Op) → Int → Bool → Option ((List (Op)))
 | 0, _, _, _, _, _ => none
 | k + 1, x0, x3, x4, x5, x42 => if x42 = true then (if x3.length + x4.length < 4398046511104 then (patchworkref8_norm.j3 k x0 (x3 ++ x4) ([] : List (Op)) x5) else (none)) else (patchworkref8_norm.j3 k x0 x3 x4 x5)
def patchworkref8_norm.j3 : Nat → List (Op) → List (Op) → List (Op) → Int → Option ((List (Op)))
 | 0, _, _, _, _ => none
 | k + 1, x0, x3, x4, x5 => if x5 = (x0.length : Int) then (some x3) else (if 0 ≤ x5 then (if x5 < (x0.length : Int) then (if ((rd_Op x0 x5).f0) = 1 then (if (x3.length : Int) > 0 then (if 0 ≤ (wrap64 ((x3.length : Int) - 1)) then (if (wrap64 ((x3.length : Int) - 1)) < (x3.length : Int) then (if ((rd_Op x3 (wrap64 ((x3.length : Int) - 1))).f0) = 1 then ((patchworkref8_plus.f ((rd_Op x3 (wrap64 ((x3.length : Int) - 1))).f1) ((rd_Op x0 x5).f1)).bind fun t304 => (patchworkref8_norm.l0 k x0 (x3.set ((wrap64 ((x3.length : Int) - 1)) : Int).toNat (⟨(rd_Op x3 (wrap64 ((x3.length : Int) - 1))).f0, t304, (rd_Op x3 (wrap64 ((x3.length : Int) - 1))).f2⟩ : Op)) x4 (wrap64 (x5 + 1)))) else (if x3.length < 4398046511104 then (patchworkref8_norm.l0 k x0 (x3 ++ [(⟨(rd_Op x0 x5).f0, (rd_Op x0 x5).f1, (rd_Op x0 x5).f2⟩ : Op)]) x4 (wrap64 (x5 + 1))) else (none))) else (none)) else (none)) else (if x3.length < 4398046511104 then (patchworkref8_norm.l0 k x0 (x3 ++ [(⟨(rd_Op x0 x5).f0, (rd_Op x0 x5).f1, (rd_Op x0 x5).f2⟩ : Op)]) x4 (wrap64 (x5 + 1))) else (none))) else (if x3.length < 4398046511104 then (patchworkref8_norm.l0 k x0 (x3 ++ [(⟨(rd_Op x0 x5).f0, (rd_Op x0 x5).f1, (rd_Op x0 x5).f2⟩ : Op)]) x4 (wrap64 (x5 + 1))) else (none))) else (none)) else (none))
end
def patchworkref8_norm.f (k : Nat) (l0 : List (Op)) : Option ((List (Op))) := patchworkref8_norm.l0 k l0 ([] : List (Op)) ([] : List (Op)) 0
mutual
def patchworkref8_Tidy.l0 : Nat → List (Op) → List (Op) → List ByteArray → List ByteArray → Int → Option ((List (Op)))
 | 0, _, _, _, _, _ => none
 | k + 1, x0, x3, x4, x5, x6 => if x6 ≤ (x0.length : Int) then (if x6 = (x0.length : Int) then (patchworkref8_Tidy.j1 k x0 x3 x4 x5 x6 true) else (if 0 ≤ x6 then (if x6 < (x0.length : Int) then (patchworkref8_Tidy.j1 k x0 x3 x4 x5 x6 (((rd_Op x0 x6).f0) == 1)) else (none)) else (none))) else ((patchworkref8_norm.f k x3).bind fun t319 => (some t319))
def patchworkref8_Tidy.j1 : Nat → List (Op) → List (Op) → List ByteArray → List ByteArray → Int → Bool → Option ((List (Op)))
 | 0, _, _, _, _, _, _ => none
 | k + 1, x0, x3, x4, x5, x6, x27 => if x27 = true then ((patchworkref8_LcsDiff.f k x4 x5).bind fun t323 => (if x3.length + t323.length < 4398046511104 then ((some (x3 ++ t323 : List (Op))).bind fun y326 => (if x6 < (x0.length : Int) then (if 0 ≤ x6 then (if y326.length < 4398046511104 then (patchworkref8_Tidy.l0 k x0 (y326 ++ [(⟨(rd_Op x0 x6).f0, (rd_Op x0 x6).f1, (rd_Op x0 x6).f2⟩ : Op)]) ([] : List ByteArray) ([] : List ByteArray) (wrap64 (x6 + 1))) else (none)) else (none)) else (patchworkref8_Tidy.l0 k x0 y326 ([] : List ByteArray) ([] : List ByteArray) (wrap64 (x6 + 1))))) else (none))) else (if 0 ≤ x6 then (if x6 < (x0.length : Int) then (if ((rd_Op x0 x6).f0) = 4 then (if ((rd_Op x0 x6).f0) = 3 then (patchworkref8_Tidy.l0 k x0 x3 x4 x5 (wrap64 (x6 + 1))) else (if x5.length < 8796093022208 then (patchworkref8_Tidy.l0 k x0 x3 x4 (x5 ++ [(rd_Op x0 x6).f2]) (wrap64 (x6 + 1))) else (none))) else (if x4.length < 8796093022208 then ((some (x4 ++ [(rd_Op x0 x6).f2] : List ByteArray)).bind fun y340 => (if ((rd_Op x0 x6).f0) = 3 then (patchworkref8_Tidy.l0 k x0 x3 y340 x5 (wrap64 (x6 + 1))) else (if x5.length < 8796093022208 then (patchworkref8_Tidy.l0 k x0 x3 y340 (x5 ++ [(rd_Op x0 x6).f2]) (wrap64 (x6 + 1))) else (none)))) else (none))) else (none)) else (none))
end
def patchworkref8_change.f (a0_0 : Int) (a0_1 : Int) (a0_2 : ByteArray) : Option (Bool) := if a0_0 = 3 then (some true) else (some (a0_0 == 4))
def patchworkref8_Changes.l0 : Nat → List (Op) → Int → Int → Option (Int)
 | 0, _, _, _ => none
 | k + 1, x0, x3, x4 => if x4 < (x0.length : Int) then (if 0 ≤ x4 then ((patchworkref8_change.f ((rd_Op x0 x4).f0) ((rd_Op x0 x4).f1) ((rd_Op x0 x4).f2)).bind fun t350 => (if t350 = true then (patchworkref8_Changes.l0 k x0 (wrap64 (x3 + 1)) (wrap64 (x4 + 1))) else (patchworkref8_Changes.l0 k x0 x3 (wrap64 (x4 + 1))))) else (none)) else (some x3)
def patchworkref8_Changes.f (k : Nat) (l0 : List (Op)) : Option (Int) := patchworkref8_Changes.l0 k l0 0 0
def patchworkref1_Join.l0 : Nat → List ByteArray → List Int → Int → Option (ByteArray)
 | 0, _, _, _ => none
 | k + 1, x0, x3, x4 => if x4 < (x0.length : Int) then (if 0 ≤ x4 then (if x3.length + (rdOf ByteArray.empty x0 x4).size < 140737488355328 then (patchworkref1_Join.l0 k x0 (x3 ++ bytesOf (rdOf ByteArray.empty x0 x4)) (wrap64 (x4 + 1))) else (none)) else (none)) else (some (strOfNums x3))
def patchworkref1_Whole.l0 : Nat → List ByteArray → Int → Option (Bool)
 | 0, _, _ => none
 | k + 1, x0, x3 => if x3 < (x0.length : Int) then (if 0 ≤ x3 then ((patchworkref1_RightLine.f k (rdOf ByteArray.empty x0 x3)).bind fun t375 => (if t375 = true then ((patchworkref1_Open.f (rdOf ByteArray.empty x0 x3)).bind fun t377 => (if t377 = true then (if (wrap64 (x3 + 1)) < (x0.length : Int) then (some false) else (patchworkref1_Whole.l0 k x0 (wrap64 (x3 + 1)))) else (patchworkref1_Whole.l0 k x0 (wrap64 (x3 + 1))))) else (some false))) else (none)) else (some true)
def patchworkref1_Whole.f (k : Nat) (l0 : List ByteArray) : Option (Bool) := patchworkref1_Whole.l0 k l0 0
mutual
def patchworkref8_Do.j0 : Nat → List (Op) → List ByteArray → Bool → Option (List ByteArray × Bool)
 | 0, _, _, _ => none
 | k + 1, x0, x1, x17 => if x17 = true then (some (([] : List ByteArray), false)) else (patchworkref8_Do.l0 k x0 x1 ([] : List ByteArray) 0 0)
def patchworkref8_Do.l0 : Nat → List (Op) → List ByteArray → List ByteArray → Int → Int → Option (List ByteArray × Bool)
 | 0, _, _, _, _, _ => none
 | k + 1, x0, x1, x6, x7, x8 => if x8 < (x0.length : Int) then (if 0 ≤ x8 then (if ((rd_Op x0 x8).f0) = 1 then (if (wrap64 ((x1.length : Int) - x7)) < ((rd_Op x0 x8).f1) then (some (([] : List ByteArray), false)) else (if 0 ≤ x7 then (if x7 ≤ (wrap64 (x7 + ((rd_Op x0 x8).f1))) then (if (wrap64 (x7 + ((rd_Op x0 x8).f1))) ≤ (x1.length : Int) then (if x6.length + ((x1.take ((wrap64 (x7 + ((rd_Op x0 x8).f1))) : Int).toNat).drop (x7 : Int).toNat).length < 8796093022208 then (patchworkref8_Do.l0 k x0 x1 (x6 ++ ((x1.take ((wrap64 (x7 + ((rd_Op x0 x8).f1))) : Int).toNat).drop (x7 : Int).toNat)) (wrap64 (x7 + ((rd_Op x0 x8).f1))) (wrap64 (x8 + 1))) else (none)) else (none)) else (none)) else (none))) else (if ((rd_Op x0 x8).f0) = 4 then (if x6.length < 8796093022208 then (patchworkref8_Do.l0 k x0 x1 (x6 ++ [(rd_Op x0 x8).f2]) x7 (wrap64 (x8 + 1))) else (none)) else (if x7 ≥ (x1.length : Int) then (patchworkref8_Do.j2 k x0 x1 x6 x7 x8 true ((rd_Op x0 x8).f0) ((rd_Op x0 x8).f1) ((rd_Op x0 x8).f2)) else (if 0 ≤ x7 then (if x7 < (x1.length : Int) then (patchworkref8_Do.j2 k x0 x1 x6 x7 x8 ((rdOf ByteArray.empty x1 x7).toList != ((rd_Op x0 x8).f2).toList) ((rd_Op x0 x8).f0) ((rd_Op x0 x8).f1) ((rd_Op x0 x8).f2)) else (none)) else (none))))) else (none)) else (if 0 ≤ x7 then (if x7 ≤ (x1.length : Int) then (if x6.length + (x1.drop (x7 : Int).toNat).length < 8796093022208 then ((some (x6 ++ (x1.drop (x7 : Int).toNat) : List ByteArray)).bind fun y381 => ((patchworkref1_Whole.f k y381).bind fun t384 => (if t384 = true then (some (y381, true)) else (some (([] : List ByteArray), false))))) else (none)) else (none)) else (none))
def patchworkref8_Do.j2 : Nat → List (Op) → List ByteArray → List ByteArray → Int → Int → Bool → Int → Int → ByteArray → Option (List ByteArray × Bool)
 | 0, _, _, _, _, _, _, _, _, _ => none
 | k + 1, x0, x1, x6, x7, x8, x42, x387000, x387001, x387002 => if x42 = true then (some (([] : List ByteArray), false)) else (if x387000 = 2 then (if x6.length < 8796093022208 then (patchworkref8_Do.l0 k x0 x1 (x6 ++ [x387002]) (wrap64 (x7 + 1)) (wrap64 (x8 + 1))) else (none)) else (patchworkref8_Do.l0 k x0 x1 x6 (wrap64 (x7 + 1)) (wrap64 (x8 + 1))))
end
def patchworkref8_Do.f (k : Nat) (l0 : List (Op)) (l1 : List ByteArray) : Option (List ByteArray × Bool) := (patchworkref8_Right.f k l0).bind fun t378 => (if t378 = true then ((patchworkref1_Whole.f k l1).bind fun t379 => (patchworkref8_Do.j0 k l0 l1 (!t379))) else (patchworkref8_Do.j0 k l0 l1 true))
def patchworkref1_SameTexts.l0 : Nat → List ByteArray → List ByteArray → Int → Option (Bool)
 | 0, _, _, _ => none
 | k + 1, x0, x1, x5 => if x5 < (x0.length : Int) then (if 0 ≤ x5 then (if x5 < (x1.length : Int) then (if (rdOf ByteArray.empty x0 x5).toList = (rdOf ByteArray.empty x1 x5).toList then (patchworkref1_SameTexts.l0 k x0 x1 (wrap64 (x5 + 1))) else (some false)) else (none)) else (none)) else (some true)
def patchworkref1_SameTexts.f (k : Nat) (l0 : List ByteArray) (l1 : List ByteArray) : Option (Bool) := if (l0.length : Int) = (l1.length : Int) then (patchworkref1_SameTexts.l0 k l0 l1 0) else (some false)
def patchworkref1_PutNum.f : Nat → Int → Option (ByteArray)
 | 0, _ => none
 | k + 1, a0 => if a0 ≤ (-10) then ((patchworkref1_PutNum.f k (wrap64 (-(wrap64 (Int.tdiv a0 10))))).bind fun t423 => (if 1 + t423.size ≤ 9223372036854775807 then ((patchworkref1_PutNum.f k (wrap64 (-(Int.tmod a0 10)))).bind fun t424 => (if ((⟨#[45]⟩ : ByteArray) ++ t423).size + t424.size ≤ 9223372036854775807 then (some (((⟨#[45]⟩ : ByteArray) ++ t423) ++ t424)) else (none))) else (none))) else (if a0 < 0 then ((patchworkref1_PutNum.f k (wrap64 (-a0))).bind fun t425 => (if 1 + t425.size ≤ 9223372036854775807 then (some ((⟨#[45]⟩ : ByteArray) ++ t425)) else (none))) else (if 0 ≤ (Int.tmod a0 10) then (if (Int.tmod a0 10) ≤ (wrap64 ((Int.tmod a0 10) + 1)) then (if (wrap64 ((Int.tmod a0 10) + 1)) ≤ 10 then (if a0 > 9 then ((patchworkref1_PutNum.f k (wrap64 (Int.tdiv a0 10))).bind fun t426 => (if t426.size + ((⟨#[48, 49, 50, 51, 52, 53, 54, 55, 56, 57]⟩ : ByteArray).extract ((Int.tmod a0 10) : Int).toNat ((wrap64 ((Int.tmod a0 10) + 1)) : Int).toNat).size ≤ 9223372036854775807 then (some (t426 ++ ((⟨#[48, 49, 50, 51, 52, 53, 54, 55, 56, 57]⟩ : ByteArray).extract ((Int.tmod a0 10) : Int).toNat ((wrap64 ((Int.tmod a0 10) + 1)) : Int).toNat))) else (none))) else (some ((⟨#[48, 49, 50, 51, 52, 53, 54, 55, 56, 57]⟩ : ByteArray).extract ((Int.tmod a0 10) : Int).toNat ((wrap64 ((Int.tmod a0 10) + 1)) : Int).toNat))) else (none)) else (none)) else (none)))
mutual
def patchworkref8_Witness.j0 : Nat → List (Op) → Bool → Option (List ByteArray)
 | 0, _, _ => none
 | k + 1, x0, x13 => if x13 = true then (some ([] : List ByteArray)) else (patchworkref8_Witness.l0 k x0 ([] : List ByteArray) 0)
def patchworkref8_Witness.l0 : Nat → List (Op) → List ByteArray → Int → Option (List ByteArray)
 | 0, _, _, _ => none
 | k + 1, x0, x3, x4 => if x4 < (x0.length : Int) then (if 0 ≤ x4 then (if ((rd_Op x0 x4).f0) = 1 then (patchworkref8_Witness.l1 k x0 x3 x4 0) else (if ((rd_Op x0 x4).f0) = 2 then (if x3.length < 8796093022208 then (patchworkref8_Witness.l0 k x0 (x3 ++ [(rd_Op x0 x4).f2]) (wrap64 (x4 + 1))) else (none)) else (if ((rd_Op x0 x4).f0) = 3 then (if x3.length < 8796093022208 then (patchworkref8_Witness.l0 k x0 (x3 ++ [(rd_Op x0 x4).f2]) (wrap64 (x4 + 1))) else (none)) else (patchworkref8_Witness.l0 k x0 x3 (wrap64 (x4 + 1)))))) else (none)) else (some x3)
def patchworkref8_Witness.l1 : Nat → List (Op) → List ByteArray → Int → Int → Option (List ByteArray)
 | 0, _, _, _, _ => none
 | k + 1, x0, x3, x4, x5 => if 0 ≤ x4 then (if x4 < (x0.length : Int) then (if x5 < ((rd_Op x0 x4).f1) then ((patchworkref1_PutNum.f k (x3.length : Int)).bind fun t431 => (if 1 + t431.size ≤ 9223372036854775807 then (if ((⟨#[63]⟩ : ByteArray) ++ t431).size + 1 ≤ 9223372036854775807 then (if x3.length < 8796093022208 then (patchworkref8_Witness.l1 k x0 (x3 ++ [((⟨#[63]⟩ : ByteArray) ++ t431) ++ (⟨#[10]⟩ : ByteArray)]) x4 (wrap64 (x5 + 1))) else (none)) else (none)) else (none))) else (patchworkref8_Witness.l0 k x0 x3 (wrap64 (x4 + 1)))) else (none)) else (none)
end
def patchworkref8_Witness.f (k : Nat) (l0 : List (Op)) : Option (List ByteArray) := (patchworkref8_Right.f k l0).bind fun t427 => (if t427 = true then ((patchworkref8_Olds.f k l0).bind fun t428 => (patchworkref8_Witness.j0 k l0 (decide (t428 > 5000)))) else (patchworkref8_Witness.j0 k l0 true))
def patchworklaw13_closed.l0 : Nat → List ByteArray → Int → Option (Bool)
 | 0, _, _ => none
 | k + 1, x0, x3 => if x3 < (x0.length : Int) then (if 0 ≤ x3 then ((patchworkref1_RightLine.f k (rdOf ByteArray.empty x0 x3)).bind fun t459 => (if t459 = true then ((patchworkref1_Open.f (rdOf ByteArray.empty x0 x3)).bind fun t461 => (if t461 = true then (some false) else (if ((rdOf ByteArray.empty x0 x3).size : Int) > 20 then (some false) else (patchworklaw13_closed.l0 k x0 (wrap64 (x3 + 1)))))) else (some false))) else (none)) else (some true)
def trim_fits.f (k : Nat) (a0_0 : Int) (a0_1 : Int) (l0_2 : List (Op)) (a1 : Int) (a2 : Int) (a3 : Bool) : Option (Bool) := if (l0_2.length : Int) = 0 then (some false) else ((ops_Some.f k l0_2 1).bind fun t500 => (if (t500.length : Int) > 0 then (some false) else (if a0_0 ≥ a1 then (if a3 = true then (if a0_0 ≤ 2147483648 then (if a0_1 ≥ a2 then (some ((wrap64 (a0_1 - a2)) == (wrap64 (a0_0 - a1)))) else (some false)) else (some false)) else (if a0_0 > a1 then (if a0_0 ≤ 2147483648 then (if a0_1 ≥ a2 then (some ((wrap64 (a0_1 - a2)) == (wrap64 (a0_0 - a1)))) else (some false)) else (some false)) else (some false))) else (some false))))
def trim_Glue.l0 : Nat → List (Op) → Int → Int → List (Hunk) → Int → Int → Option ((List (Op)) × Bool)
 | 0, _, _, _, _, _, _ => none
 | k + 1, x4, x5, x6, x10, x11, x12 => if x12 < x11 then (if 0 ≤ x12 then (if x12 < (x10.length : Int) then ((trim_fits.f k ((rd_Hunk x10 x12).f0) ((rd_Hunk x10 x12).f1) ((rd_Hunk x10 x12).f2) x5 x6 (x12 == 0)).bind fun t506 => (if t506 = true then (if (wrap64 (((rd_Hunk x10 x12).f0) - x5)) > 0 then (if x4.length < 4398046511104 then ((some (x4 ++ [(⟨1, wrap64 (((rd_Hunk x10 x12).f0) - x5), (⟨#[]⟩ : ByteArray)⟩ : Op)] : List (Op))).bind fun y507 => (if y507.length + ((rd_Hunk x10 x12).f2).length < 4398046511104 then ((ops_Olds.f k ((rd_Hunk x10 x12).f2)).bind fun t513 => ((ops_News.f k ((rd_Hunk x10 x12).f2)).bind fun t514 => (trim_Glue.l0 k (y507 ++ ((rd_Hunk x10 x12).f2)) (wrap64 (((rd_Hunk x10 x12).f0) + t513)) (wrap64 (((rd_Hunk x10 x12).f1) + t514)) x10 x11 (wrap64 (x12 + 1))))) else (none))) else (none)) else (if x4.length + ((rd_Hunk x10 x12).f2).length < 4398046511104 then ((ops_Olds.f k ((rd_Hunk x10 x12).f2)).bind fun t518 => ((ops_News.f k ((rd_Hunk x10 x12).f2)).bind fun t519 => (trim_Glue.l0 k (x4 ++ ((rd_Hunk x10 x12).f2)) (wrap64 (((rd_Hunk x10 x12).f0) + t518)) (wrap64 (((rd_Hunk x10 x12).f1) + t519)) x10 x11 (wrap64 (x12 + 1))))) else (none))) else (some (([] : List (Op)), false)))) else (none)) else (none)) else ((ops_Right.f k x4).bind fun t503 => (if t503 = true then (some (x4, true)) else (some (([] : List (Op)), false))))
def compose_Rest.l0 : Nat → List (Op) → Int → Option ((List (Op)))
 | 0, _, _ => none
 | k + 1, x0, x3 => if x3 > 0 then (if 0 ≤ (wrap64 (x3 - 1)) then (if (wrap64 (x3 - 1)) < (x0.length : Int) then (if ((rd_Op x0 (wrap64 (x3 - 1))).f0) = 1 then (compose_Rest.l0 k x0 (wrap64 (x3 - 1))) else (if 0 ≤ x3 then (if x3 ≤ (x0.length : Int) then ((some (x0.take (x3 : Int).toNat : List (Op))).bind fun y521 => (if ([] : List (Op)).length + y521.length < 4398046511104 then (some (([] : List (Op)) ++ y521)) else (none))) else (none)) else (none))) else (none)) else (none)) else (if 0 ≤ x3 then (if x3 ≤ (x0.length : Int) then ((some (x0.take (x3 : Int).toNat : List (Op))).bind fun y528 => (if ([] : List (Op)).length + y528.length < 4398046511104 then (some (([] : List (Op)) ++ y528)) else (none))) else (none)) else (none))
def patchworklaw17_few.l0 : Nat → List (Hunk) → Int → Int → Option (Bool)
 | 0, _, _, _ => none
 | k + 1, x0, x3, x4 => if x4 < (x0.length : Int) then (if 0 ≤ x4 then ((patchworklaw8_Few.f k ((rd_Hunk x0 x4).f2)).bind fun t539 => (if t539 = true then (patchworklaw17_few.l0 k x0 (wrap64 ((wrap64 (x3 + 1)) + (((rd_Hunk x0 x4).f2).length : Int))) (wrap64 (x4 + 1))) else (some false))) else (none)) else (some (decide (x3 ≤ 600)))
mutual
def patchworkref8_Glue.l0 : Nat → List (Hunk) → List (Op) → Int → Option ((List (Op)) × Bool)
 | 0, _, _, _ => none
 | k + 1, x0, x4, x5 => if x5 < (x0.length : Int) then (if 0 ≤ x5 then ((patchworkref8_Olds.f k x4).bind fun t544 => ((patchworkref8_News.f k x4).bind fun t545 => (if (((rd_Hunk x0 x5).f2).length : Int) = 0 then (patchworkref8_Glue.j1 k x0 x4 x5 t544 true ((rd_Hunk x0 x5).f0) ((rd_Hunk x0 x5).f1) ((rd_Hunk x0 x5).f2)) else (if ((rd_Hunk x0 x5).f0) < t544 then (patchworkref8_Glue.j1 k x0 x4 x5 t544 true ((rd_Hunk x0 x5).f0) ((rd_Hunk x0 x5).f1) ((rd_Hunk x0 x5).f2)) else (if x5 > 0 then (if ((rd_Hunk x0 x5).f0) = t544 then (patchworkref8_Glue.j1 k x0 x4 x5 t544 true ((rd_Hunk x0 x5).f0) ((rd_Hunk x0 x5).f1) ((rd_Hunk x0 x5).f2)) else (if ((rd_Hunk x0 x5).f0) > 1099511627776 then (patchworkref8_Glue.j1 k x0 x4 x5 t544 true ((rd_Hunk x0 x5).f0) ((rd_Hunk x0 x5).f1) ((rd_Hunk x0 x5).f2)) else (if ((rd_Hunk x0 x5).f1) < 0 then (patchworkref8_Glue.j1 k x0 x4 x5 t544 true ((rd_Hunk x0 x5).f0) ((rd_Hunk x0 x5).f1) ((rd_Hunk x0 x5).f2)) else (if ((rd_Hunk x0 x5).f1) > 1099511627776 then (patchworkref8_Glue.j1 k x0 x4 x5 t544 true ((rd_Hunk x0 x5).f0) ((rd_Hunk x0 x5).f1) ((rd_Hunk x0 x5).f2)) else (patchworkref8_Glue.j1 k x0 x4 x5 t544 ((wrap64 (((rd_Hunk x0 x5).f1) - t545)) != (wrap64 (((rd_Hunk x0 x5).f0) - t544))) ((rd_Hunk x0 x5).f0) ((rd_Hunk x0 x5).f1) ((rd_Hunk x0 x5).f2)))))) else (if ((rd_Hunk x0 x5).f0) > 1099511627776 then (patchworkref8_Glue.j1 k x0 x4 x5 t544 true ((rd_Hunk x0 x5).f0) ((rd_Hunk x0 x5).f1) ((rd_Hunk x0 x5).f2)) else (if ((rd_Hunk x0 x5).f1) < 0 then (patchworkref8_Glue.j1 k x0 x4 x5 t544 true ((rd_Hunk x0 x5).f0) ((rd_Hunk x0 x5).f1) ((rd_Hunk x0 x5).f2)) else (if ((rd_Hunk x0 x5).f1) > 1099511627776 then (patchworkref8_Glue.j1 k x0 x4 x5 t544 true ((rd_Hunk x0 x5).f0) ((rd_Hunk x0 x5).f1) ((rd_Hunk x0 x5).f2)) else (patchworkref8_Glue.j1 k x0 x4 x5 t544 ((wrap64 (((rd_Hunk x0 x5).f1) - t545)) != (wrap64 (((rd_Hunk x0 x5).f0) - t544))) ((rd_Hunk x0 x5).f0) ((rd_Hunk x0 x5).f1) ((rd_Hunk x0 x5).f2)))))))))) else (none)) else ((patchworkref8_Right.f k x4).bind fun t541 => (if t541 = true then (some (x4, true)) else (some (([] : List (Op)), false))))
def patchworkref8_Glue.j1 : Nat → List (Hunk) → List (Op) → Int → Int → Bool → Int → Int → List (Op) → Option ((List (Op)) × Bool)
 | 0, _, _, _, _, _, _, _, _ => none
 | k + 1, x0, x4, x5, x7, x69, x544000, x544001, x544002 => if x69 = true then (some (([] : List (Op)), false)) else (patchworkref8_Glue.l1 k x0 x4 x5 x7 0 x544000 x544001 x544002)
def patchworkref8_Glue.l1 : Nat → List (Hunk) → List (Op) → Int → Int → Int → Int → Int → List (Op) → Option ((List (Op)) × Bool)
 | 0, _, _, _, _, _, _, _, _ => none
 | k + 1, x0, x4, x5, x7, x9, x544000, x544001, x544002 => if x9 < (x544002.length : Int) then (if 0 ≤ x9 then (if ((rd_Op x544002 x9).f0) = 1 then (some (([] : List (Op)), false)) else (patchworkref8_Glue.l1 k x0 x4 x5 x7 (wrap64 (x9 + 1)) x544000 x544001 x544002)) else (none)) else (if x544000 > x7 then (if x4.length < 4398046511104 then ((some (x4 ++ [(⟨1, wrap64 (x544000 - x7), (⟨#[]⟩ : ByteArray)⟩ : Op)] : List (Op))).bind fun y547 => (if y547.length + x544002.length < 4398046511104 then (patchworkref8_Glue.l0 k x0 (y547 ++ x544002) (wrap64 (x5 + 1))) else (none))) else (none)) else (if x4.length + x544002.length < 4398046511104 then (patchworkref8_Glue.l0 k x0 (x4 ++ x544002) (wrap64 (x5 + 1))) else (none)))
end
mutual
def patchworkref8_near.l0 : Nat → List (Op) → Int → Int → Int → Int → Option (Bool)
 | 0, _, _, _, _, _ => none
 | k + 1, x0, x2, x3, x9, x10 => if x10 ≥ 0 then (patchworkref8_near.j1 k x0 x2 x3 x9 x10 (decide (x10 < (x0.length : Int)))) else (patchworkref8_near.j1 k x0 x2 x3 x9 x10 false)
def patchworkref8_near.j1 : Nat → List (Op) → Int → Int → Int → Int → Bool → Option (Bool)
 | 0, _, _, _, _, _, _ => none
 | k + 1, x0, x2, x3, x9, x10, x21 => if x21 = true then (if 0 ≤ x10 then (if x10 < (x0.length : Int) then ((patchworkref8_change.f ((rd_Op x0 x10).f0) ((rd_Op x0 x10).f1) ((rd_Op x0 x10).f2)).bind fun t557 => (if t557 = true then (some (decide (x9 < x3))) else (if ((rd_Op x0 x10).f0) = 1 then (some false) else (patchworkref8_near.l0 k x0 x2 x3 (wrap64 (x9 + 1)) (wrap64 (x10 + x2)))))) else (none)) else (none)) else (some false)
end
def patchworkref8_near.f (k : Nat) (l0 : List (Op)) (a1 : Int) (a2 : Int) (a3 : Int) : Option (Bool) := patchworkref8_near.l0 k l0 a2 a3 0 (wrap64 (a1 + a2))
def patchworkref8_Rest.l0 : Nat → List (Op) → Int → Option ((List (Op)))
 | 0, _, _ => none
 | k + 1, x0, x3 => if x3 > 0 then (if 0 ≤ (wrap64 (x3 - 1)) then (if (wrap64 (x3 - 1)) < (x0.length : Int) then (if ((rd_Op x0 (wrap64 (x3 - 1))).f0) = 1 then (patchworkref8_Rest.l0 k x0 (wrap64 (x3 - 1))) else (if 0 ≤ x3 then (if x3 ≤ (x0.length : Int) then ((some (x0.take (x3 : Int).toNat : List (Op))).bind fun y560 => (if ([] : List (Op)).length + y560.length < 4398046511104 then (some (([] : List (Op)) ++ y560)) else (none))) else (none)) else (none))) else (none)) else (none)) else (if 0 ≤ x3 then (if x3 ≤ (x0.length : Int) then ((some (x0.take (x3 : Int).toNat : List (Op))).bind fun y567 => (if ([] : List (Op)).length + y567.length < 4398046511104 then (some (([] : List (Op)) ++ y567)) else (none))) else (none)) else (none))
def patchworkref8_Rest.f (k : Nat) (l0 : List (Op)) : Option ((List (Op))) := patchworkref8_Rest.l0 k l0 (l0.length : Int)
def patchworkref8_Trim.l0 : Nat → List (Op) → Int → List (Op) → Int → Option ((List (Op)))
 | 0, _, _, _, _ => none
 | k + 1, x0, x1, x5, x6 => if x6 < (x0.length : Int) then (if 0 ≤ x6 then (if ((rd_Op x0 x6).f0) = 2 then ((patchworkref8_near.f k x0 x6 1 x1).bind fun t587 => (if t587 = true then (if x5.length < 4398046511104 then (patchworkref8_Trim.l0 k x0 x1 (x5 ++ [(⟨(rd_Op x0 x6).f0, (rd_Op x0 x6).f1, (rd_Op x0 x6).f2⟩ : Op)]) (wrap64 (x6 + 1))) else (none)) else ((patchworkref8_near.f k x0 x6 (-1) x1).bind fun t591 => (if t591 = true then (if x5.length < 4398046511104 then (patchworkref8_Trim.l0 k x0 x1 (x5 ++ [(⟨(rd_Op x0 x6).f0, (rd_Op x0 x6).f1, (rd_Op x0 x6).f2⟩ : Op)]) (wrap64 (x6 + 1))) else (none)) else (if x5.length < 4398046511104 then (patchworkref8_Trim.l0 k x0 x1 (x5 ++ [(⟨1, 1, (⟨#[]⟩ : ByteArray)⟩ : Op)]) (wrap64 (x6 + 1))) else (none)))))) else (if x5.length < 4398046511104 then (patchworkref8_Trim.l0 k x0 x1 (x5 ++ [(⟨(rd_Op x0 x6).f0, (rd_Op x0 x6).f1, (rd_Op x0 x6).f2⟩ : Op)]) (wrap64 (x6 + 1))) else (none))) else (none)) else ((patchworkref8_norm.f k x5).bind fun t579 => ((patchworkref8_Rest.f k t579).bind fun t582 => (some t582)))
def patchworkref8_SameHunks.l0 : Nat → List (Hunk) → List (Hunk) → Int → Option (Bool)
 | 0, _, _, _ => none
 | k + 1, x0, x1, x5 => if x5 < (x0.length : Int) then (if 0 ≤ x5 then (if x5 < (x1.length : Int) then (if ((rd_Hunk x0 x5).f0) = ((rd_Hunk x1 x5).f0) then (if ((rd_Hunk x0 x5).f1) = ((rd_Hunk x1 x5).f1) then ((patchworkref8_Same.f k ((rd_Hunk x0 x5).f2) ((rd_Hunk x1 x5).f2)).bind fun t607 => (if t607 = true then (patchworkref8_SameHunks.l0 k x0 x1 (wrap64 (x5 + 1))) else (some false))) else (some false)) else (some false)) else (none)) else (none)) else (some true)
mutual
def patchworkref8_Hunks.l0 : Nat → List (Op) → List (Hunk) → Int → Int → Int → Int → Int → List (Op) → Option ((List (Hunk)))
 | 0, _, _, _, _, _, _, _, _ => none
 | k + 1, x0, x3, x5, x6, x7, x613000, x613001, x613002 => if x7 ≤ (x0.length : Int) then (if x7 < (x0.length : Int) then (if 0 ≤ x7 then (patchworkref8_Hunks.j1 k x0 x3 x5 x6 x7 (((rd_Op x0 x7).f0) != 1) x613000 x613001 x613002) else (none)) else (patchworkref8_Hunks.j1 k x0 x3 x5 x6 x7 false x613000 x613001 x613002)) else (some x3)
def patchworkref8_Hunks.j1 : Nat → List (Op) → List (Hunk) → Int → Int → Int → Bool → Int → Int → List (Op) → Option ((List (Hunk)))
 | 0, _, _, _, _, _, _, _, _, _ => none
 | k + 1, x0, x3, x5, x6, x7, x30, x613000, x613001, x613002 => if x30 = true then (if (x613002.length : Int) = 0 then (if 0 ≤ x7 then (if x7 < (x0.length : Int) then (if ([] : List (Op)).length < 4398046511104 then (patchworkref8_Hunks.j2 k x0 x3 x5 x6 x7 x5 x6 (([] : List (Op)) ++ [(⟨(rd_Op x0 x7).f0, (rd_Op x0 x7).f1, (rd_Op x0 x7).f2⟩ : Op)])) else (none)) else (none)) else (none)) else (if 0 ≤ x7 then (if x7 < (x0.length : Int) then (if x613002.length < 4398046511104 then (patchworkref8_Hunks.j2 k x0 x3 x5 x6 x7 x613000 x613001 (x613002 ++ [(⟨(rd_Op x0 x7).f0, (rd_Op x0 x7).f1, (rd_Op x0 x7).f2⟩ : Op)])) else (none)) else (none)) else (none))) else ((patchworkref8_Changes.f k x613002).bind fun t622 => (if t622 > 0 then (if x3.length < 3518437208883 then (patchworkref8_Hunks.j2 k x0 (x3 ++ [(⟨x613000, x613001, x613002⟩ : Hunk)]) x5 x6 x7 0 0 ([] : List (Op))) else (none)) else (patchworkref8_Hunks.j2 k x0 x3 x5 x6 x7 0 0 ([] : List (Op)))))
def patchworkref8_Hunks.j2 : Nat → List (Op) → List (Hunk) → Int → Int → Int → Int → Int → List (Op) → Option ((List (Hunk)))
 | 0, _, _, _, _, _, _, _, _ => none
 | k + 1, x0, x3, x5, x6, x7, x613000, x613001, x613002 => if x7 < (x0.length : Int) then (if 0 ≤ x7 then ((patchworkref8_old.f ((rd_Op x0 x7).f0) ((rd_Op x0 x7).f1) ((rd_Op x0 x7).f2)).bind fun t627 => ((patchworkref8_plus.f x5 t627).bind fun t628 => ((patchworkref8_fresh.f ((rd_Op x0 x7).f0) ((rd_Op x0 x7).f1) ((rd_Op x0 x7).f2)).bind fun t630 => ((patchworkref8_plus.f x6 t630).bind fun t631 => (patchworkref8_Hunks.l0 k x0 x3 t628 t631 (wrap64 (x7 + 1)) x613000 x613001 x613002))))) else (none)) else (patchworkref8_Hunks.l0 k x0 x3 x5 x6 (wrap64 (x7 + 1)) x613000 x613001 x613002)
end
def patchworkref8_Hunks.T14 : Bool × List (List Nat × List Nat) := (true, [([], []), ([0], [0]), ([], []), ([], []), ([2, 3], [2, 3]), ([4], [4]), ([5], [5]), ([1, 6], [1, 6]), ([0, 1, 2, 3, 4, 5, 6, 7], []), ([8, 7, 7, 0, 1, 2, 3, 4, 5, 6, 7], [7, 8])])
def patchworkref8_Hunks.B14 : List Nat := [0, 1, 0, 0, 12, 28, 60, 127, 255, 511]
theorem patchworkref8_Hunks.tab14 : rtab .any (opsOf Try.f37 14) = patchworkref8_Hunks.T14 := by kernel_rfl
theorem patchworkref8_Hunks.bits14 : waitsOk patchworkref8_Hunks.T14.2 patchworkref8_Hunks.B14 = true := by kernel_rfl
end Go.Proofs.Ytacpejblnjgcoaa.P
