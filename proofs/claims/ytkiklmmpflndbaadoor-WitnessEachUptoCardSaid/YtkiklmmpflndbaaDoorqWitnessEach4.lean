/- Own and printed texts that the theorem of WitnessEach reaches, put together. -/
import Derived.Test.YtkiklmmpflndbaaDoorqWitnessEach3
set_option linter.unusedVariables false
set_option linter.unusedSimpArgs false
namespace Go.Proofs.YtkiklmmpflndbaaDoor.P
open Go.RowKit Go.Proofs.YtkiklmmpflndbaaDoorW.PrintWords Go.Proofs.YtkiklmmpflndbaaDoorW.PrintLast Go.Proofs.YtkiklmmpflndbaaDoorW.PrintMore
attribute [local go_sem] max2_int min2_int max_two min_two max_three min_three max_four min_four
def ops_New.f (a0 : Int) : Option (Bool) := if a0 = 1 then (some true) else (if a0 = 2 then (some true) else (some (a0 == 4)))
def ops_Old.f (a0 : Int) : Option (Bool) := if a0 = 1 then (some true) else (if a0 = 2 then (some true) else (some (a0 == 3)))
def ops_Change.f (a0 : Int) : Option (Bool) := if a0 = 3 then (some true) else (some (a0 == 4))
def strings_Contains.f (a0 : ByteArray) (a1 : ByteArray) : Option (Bool) := match a1.data.toList with
 | [c] => some (decide (c ∈ a0.data.toList))
 | _ => none
theorem has_byte (l : List UInt8) (c : UInt8) : decide (0 ≤ Lib.indexByte l c) = decide (c ∈ l) := by
 have h : (0 ≤ Lib.indexByte l c) ↔ c ∈ l := by
  induction l with
  | nil => simp [Lib.indexByte]
  | cons b l ih =>
   have hg := Lib.indexByte_ge l c
   by_cases hb : b = c
   ·subst hb; simp [Lib.indexByte]
   ·have hb' : ¬ c = b := fun e => hb e.symm
    by_cases hm : Lib.indexByte l c = -1
    ·have : ¬ c ∈ l := fun hc => by have := ih.mpr hc; omega
     simp [Lib.indexByte, hb, hb', hm, this]
    ·have : c ∈ l := ih.mp (by omega)
     simp [Lib.indexByte, hb, hm, this]; omega
 simp only [h]
def stringslite_HasSuffix.f (a0 : ByteArray) (a1 : ByteArray) : Option (Bool) := if (a0.size : Int) ≥ (a1.size : Int) then (if 0 ≤ (wrap64 ((a0.size : Int) - (a1.size : Int))) then (if (wrap64 ((a0.size : Int) - (a1.size : Int))) ≤ (a0.size : Int) then (some ((a0.extract ((wrap64 ((a0.size : Int) - (a1.size : Int))) : Int).toNat a0.size).toList == a1.toList)) else (none)) else (none)) else (some false)
def stringslite_TrimSuffix.f (a0 : ByteArray) (a1 : ByteArray) : Option (ByteArray) := (stringslite_HasSuffix.f a0 a1).bind fun t101 => (if t101 = true then (if 0 ≤ (wrap64 ((a0.size : Int) - (a1.size : Int))) then (if (wrap64 ((a0.size : Int) - (a1.size : Int))) ≤ (a0.size : Int) then (some (a0.extract 0 ((wrap64 ((a0.size : Int) - (a1.size : Int))) : Int).toNat)) else (none)) else (none)) else (some a0))
def strings_TrimSuffix.f (a0 : ByteArray) (a1 : ByteArray) : Option (ByteArray) := (stringslite_TrimSuffix.f a0 a1).bind fun t102 => (some t102)
def lines_Right.f (a0 : ByteArray) : Option (Bool) := if a0.toList = ([] : List UInt8) then (some false) else ((strings_TrimSuffix.f a0 (⟨#[10]⟩ : ByteArray)).bind fun t103 => ((strings_Contains.f t103 (⟨#[10]⟩ : ByteArray)).bind fun t104 => (some (!t104))))
def ops_one.f (a0_0 : Int) (a0_1 : Int) (a0_2 : ByteArray) : Option (Bool) := if a0_0 = 1 then (if a0_1 ≥ 1 then (if a0_1 ≤ 2147483648 then (some (a0_2.toList == ([] : List UInt8))) else (some false)) else (some false)) else (if a0_0 = 2 then (if a0_1 = 0 then ((lines_Right.f a0_2).bind fun t106 => (some t106)) else (some false)) else ((ops_Change.f a0_0).bind fun t107 => (if t107 = true then (if a0_1 = 0 then ((lines_Right.f a0_2).bind fun t108 => (some t108)) else (some false)) else (some false))))
def ops_Right_1.f (a0_0 : Int) (a0_1 : Int) (a0_2 : ByteArray) : Option (Bool) := (ops_one.f a0_0 a0_1 a0_2).bind fun t110 => (some (!t110))
def ops_count.l0 : Nat → Int → Int → List (Op) → Int → Int → Option (Int)
 | 0, _, _, _, _, _ => none
 | k + 1, x1, x5, x8, x9, x10 => if x10 < x9 then (if 0 ≤ x10 then (if x10 < (x8.length : Int) then (if ((rd_Op x8 x10).f0) = 1 then (ops_count.l0 k x1 (mn (wrap64 (x5 + (mx 0 (mn ((rd_Op x8 x10).f1) 1099511627776)))) 1099511627776) x8 x9 (wrap64 (x10 + 1))) else (if ((rd_Op x8 x10).f0) = 2 then (ops_count.l0 k x1 (mn (wrap64 (x5 + 1)) 1099511627776) x8 x9 (wrap64 (x10 + 1))) else (if ((rd_Op x8 x10).f0) = x1 then (ops_count.l0 k x1 (mn (wrap64 (x5 + 1)) 1099511627776) x8 x9 (wrap64 (x10 + 1))) else (ops_count.l0 k x1 (mn x5 1099511627776) x8 x9 (wrap64 (x10 + 1)))))) else (none)) else (none)) else (some x5)
def ops_count.f (k : Nat) (l0 : List (Op)) (a1 : Int) : Option (Int) := ops_count.l0 k a1 0 l0 (l0.length : Int) 0
def ops_Olds.f (k : Nat) (l0 : List (Op)) : Option (Int) := (ops_count.f k l0 3).bind fun t113 => (some t113)
def ops_News.f (k : Nat) (l0 : List (Op)) : Option (Int) := (ops_count.f k l0 4).bind fun t114 => (some t114)
def strings_HasSuffix.f (a0 : ByteArray) (a1 : ByteArray) : Option (Bool) := (stringslite_HasSuffix.f a0 a1).bind fun t115 => (some t115)
def lines_Closed.f (a0 : ByteArray) : Option (Bool) := (strings_HasSuffix.f a0 (⟨#[10]⟩ : ByteArray)).bind fun t116 => (some t116)
def slices_IndexFunc_Op_ops_Right_1.l0 : Nat → List (Op) → Int → Int → Option (Int)
 | 0, _, _, _ => none
 | k + 1, x0, x7, x8 => if x8 < x7 then (if 0 ≤ x8 then (if x8 < (x0.length : Int) then ((ops_Right_1.f ((rd_Op x0 x8).f0) ((rd_Op x0 x8).f1) ((rd_Op x0 x8).f2)).bind fun t118 => (if t118 = true then (some x8) else (slices_IndexFunc_Op_ops_Right_1.l0 k x0 x7 (wrap64 (x8 + 1))))) else (none)) else (none)) else (some (-1))
def slices_IndexFunc_Op_ops_Right_1.f (k : Nat) (l0 : List (Op))  : Option (Int) := slices_IndexFunc_Op_ops_Right_1.l0 k l0 (l0.length : Int) 0
def slices_ContainsFunc_Op_ops_Right_1.f (k : Nat) (l0 : List (Op))  : Option (Bool) := (slices_IndexFunc_Op_ops_Right_1.f k l0).bind fun t119 => (some (decide (t119 ≥ 0)))
def ops_closed_ops_Old.l0 : Nat → Bool → List (Op) → Int → Int → Option (Bool)
 | 0, _, _, _, _ => none
 | k + 1, x5, x8, x9, x10 => if x10 < x9 then (if 0 ≤ x10 then (if x10 < (x8.length : Int) then ((ops_Old.f ((rd_Op x8 x10).f0)).bind fun t122 => (if t122 = true then (if x5 = true then (some false) else (if ((rd_Op x8 x10).f0) = 1 then (ops_closed_ops_Old.l0 k false x8 x9 (wrap64 (x10 + 1))) else ((lines_Closed.f ((rd_Op x8 x10).f2)).bind fun t123 => (ops_closed_ops_Old.l0 k (!t123) x8 x9 (wrap64 (x10 + 1)))))) else (ops_closed_ops_Old.l0 k x5 x8 x9 (wrap64 (x10 + 1))))) else (none)) else (none)) else (some true)
def ops_closed_ops_Old.f (k : Nat) (l0 : List (Op))  : Option (Bool) := ops_closed_ops_Old.l0 k false l0 (l0.length : Int) 0
def ops_closed_ops_New.l0 : Nat → Bool → List (Op) → Int → Int → Option (Bool)
 | 0, _, _, _, _ => none
 | k + 1, x5, x8, x9, x10 => if x10 < x9 then (if 0 ≤ x10 then (if x10 < (x8.length : Int) then ((ops_New.f ((rd_Op x8 x10).f0)).bind fun t126 => (if t126 = true then (if x5 = true then (some false) else (if ((rd_Op x8 x10).f0) = 1 then (ops_closed_ops_New.l0 k false x8 x9 (wrap64 (x10 + 1))) else ((lines_Closed.f ((rd_Op x8 x10).f2)).bind fun t127 => (ops_closed_ops_New.l0 k (!t127) x8 x9 (wrap64 (x10 + 1)))))) else (ops_closed_ops_New.l0 k x5 x8 x9 (wrap64 (x10 + 1))))) else (none)) else (none)) else (some true)
def ops_closed_ops_New.f (k : Nat) (l0 : List (Op))  : Option (Bool) := ops_closed_ops_New.l0 k false l0 (l0.length : Int) 0
def ops_Right.f (k : Nat) (l0 : List (Op)) : Option (Bool) := (slices_ContainsFunc_Op_ops_Right_1.f k l0).bind fun t128 => (if t128 = true then (some false) else ((ops_Olds.f k l0).bind fun t129 => (if t129 ≤ 2147483648 then ((ops_News.f k l0).bind fun t130 => (if t130 ≤ 2147483648 then ((ops_closed_ops_Old.f k l0).bind fun t131 => (if t131 = true then ((ops_closed_ops_New.f k l0).bind fun t132 => (some t132)) else (some false))) else (some false))) else (some false))))
def nums_Put.f (a0 : Int) : Option (ByteArray) := if -9223372036854775808 ≤ a0 ∧ a0 ≤ 9223372036854775807 then some ⟨(Lib.itoa a0).toArray⟩ else none
mutual
def witness_Lines.j0 : Nat → List (Op) → Bool → Option (List ByteArray)
 | 0, _, _ => none
 | k + 1, x0, x13 => if x13 = true then (some ([] : List ByteArray)) else (witness_Lines.l0 k ([] : List ByteArray) x0 (x0.length : Int) 0)
def witness_Lines.l0 : Nat → List ByteArray → List (Op) → Int → Int → Option (List ByteArray)
 | 0, _, _, _, _ => none
 | k + 1, x3, x14, x15, x16 => if x16 < x15 then (if 0 ≤ x16 then (if x16 < (x14.length : Int) then (if ((rd_Op x14 x16).f0) = 1 then (witness_Lines.l1 k x3 x14 x15 x16 ((rd_Op x14 x16).f1) 0) else (if ((rd_Op x14 x16).f0) = 2 then (if x3.length < 8796093022208 then (witness_Lines.l0 k (x3 ++ [(rd_Op x14 x16).f2]) x14 x15 (wrap64 (x16 + 1))) else (none)) else (if ((rd_Op x14 x16).f0) = 3 then (if x3.length < 8796093022208 then (witness_Lines.l0 k (x3 ++ [(rd_Op x14 x16).f2]) x14 x15 (wrap64 (x16 + 1))) else (none)) else (witness_Lines.l0 k x3 x14 x15 (wrap64 (x16 + 1)))))) else (none)) else (none)) else (some x3)
def witness_Lines.l1 : Nat → List ByteArray → List (Op) → Int → Int → Int → Int → Option (List ByteArray)
 | 0, _, _, _, _, _, _ => none
 | k + 1, x3, x14, x15, x16, x25, x26 => if x26 < x25 then ((nums_Put.f (x3.length : Int)).bind fun t137 => (if 1 + t137.size ≤ 9223372036854775807 then (if ((⟨#[63]⟩ : ByteArray) ++ t137).size + 1 ≤ 9223372036854775807 then (if x3.length < 8796093022208 then (witness_Lines.l1 k (x3 ++ [((⟨#[63]⟩ : ByteArray) ++ t137) ++ (⟨#[10]⟩ : ByteArray)]) x14 x15 x16 x25 (wrap64 (x26 + 1))) else (none)) else (none)) else (none))) else (witness_Lines.l0 k x3 x14 x15 (wrap64 (x16 + 1)))
end
def witness_Lines.f (k : Nat) (l0 : List (Op)) : Option (List ByteArray) := (ops_Right.f k l0).bind fun t133 => (if t133 = true then ((ops_Olds.f k l0).bind fun t134 => (witness_Lines.j0 k l0 (decide (t134 > 5000)))) else (witness_Lines.j0 k l0 true))
def compose_told.l0 : Nat → List (Op) → List (Step) → Int → Int → Option ((List (Op)) × Bool)
 | 0, _, _, _, _ => none
 | k + 1, x4, x7, x8, x9 => if x9 < x8 then (if 0 ≤ x9 then (if x9 < (x7.length : Int) then (if ((rd_Step x7 x9).f2 = true) then (compose_told.l0 k x4 x7 x8 (wrap64 (x9 + 1))) else (if x4.length < 4398046511104 then (compose_told.l0 k (x4 ++ [(⟨(rd_Step x7 x9).f0.f0, (rd_Step x7 x9).f0.f1, (rd_Step x7 x9).f0.f2⟩ : Op)]) x7 x8 (wrap64 (x9 + 1))) else (none))) else (none)) else (none)) else ((ops_Right.f k x4).bind fun t152 => (some (x4, t152)))
def compose_told.f (k : Nat) (l0 : List (Step)) : Option ((List (Op)) × Bool) := compose_told.l0 k ([] : List (Op)) l0 (l0.length : Int) 0
def compose_next.f (l0 : List (Op)) (a1 : Int) : Option (Int × Int × ByteArray) := if (l0.length : Int) = 0 then (some (1, a1, (⟨#[]⟩ : ByteArray))) else (if 0 < (l0.length : Int) then (some ((rd_Op l0 0).f0, (rd_Op l0 0).f1, (rd_Op l0 0).f2)) else (none))
def compose_Walk.f (k : Nat) (l0 : List (Op)) (l1 : List (Op)) : Option ((List (Step)) × Bool) := (ops_Right.f k l0).bind fun t0 => if t0 = true then ((ops_Right.f k l1).bind fun t1 => if t1 = true then (if okW l0 l1 = true then (match walkO (l0.length + l1.length) l0 l1 false with | none => some ([], false) | some os => (compose_told.f k os).bind fun t => if t.2 = true then some (os, true) else some ([], false)) else none) else some ([], false)) else some ([], false)
def ops_Some.l0 : Nat → Int → List (Op) → List (Op) → Int → Int → Option ((List (Op)))
 | 0, _, _, _, _, _ => none
 | k + 1, x1, x5, x8, x9, x10 => if x10 < x9 then (if 0 ≤ x10 then (if x10 < (x8.length : Int) then (if ((rd_Op x8 x10).f0) = x1 then (if x5.length < 4398046511104 then (ops_Some.l0 k x1 (x5 ++ [(⟨(rd_Op x8 x10).f0, (rd_Op x8 x10).f1, (rd_Op x8 x10).f2⟩ : Op)]) x8 x9 (wrap64 (x10 + 1))) else (none)) else (ops_Some.l0 k x1 x5 x8 x9 (wrap64 (x10 + 1)))) else (none)) else (none)) else (some x5)
def ops_Some.f (k : Nat) (l0 : List (Op)) (a1 : Int) : Option ((List (Op))) := ops_Some.l0 k a1 ([] : List (Op)) l0 (l0.length : Int) 0
mutual
def ops_Norm.l0 : Nat → List (Op) → List (Op) → Int → Option ((List (Op)))
 | 0, _, _, _ => none
 | k + 1, x0, x3, x4 => if x4 < (x0.length : Int) then (ops_Norm.l1 k x0 x3 x4 x4) else (some x3)
def ops_Norm.j2 : Nat → List (Op) → List (Op) → Int → Int → Option ((List (Op)))
 | 0, _, _, _, _ => none
 | k + 1, x0, x3, x4, x5 => if 0 ≤ x5 then (if x5 ≤ x4 then (if x4 ≤ (x0.length : Int) then ((ops_Some.f k ((x0.take (x4 : Int).toNat).drop (x5 : Int).toNat) 3).bind fun t167 => (if x3.length + t167.length < 4398046511104 then ((some (x3 ++ t167 : List (Op))).bind fun y170 => ((ops_Some.f k ((x0.take (x4 : Int).toNat).drop (x5 : Int).toNat) 4).bind fun t177 => (if y170.length + t177.length < 4398046511104 then ((some (y170 ++ t177 : List (Op))).bind fun y180 => (if x4 = (x0.length : Int) then (some y180) else (if 0 ≤ x4 then (if x4 < (x0.length : Int) then (ops_Norm.l2 k x0 y180 (wrap64 (x4 + 1)) ((rd_Op x0 x4).f0) ((rd_Op x0 x4).f1) ((rd_Op x0 x4).f2)) else (none)) else (none)))) else (none)))) else (none))) else (none)) else (none)) else (none)
def ops_Norm.l2 : Nat → List (Op) → List (Op) → Int → Int → Int → ByteArray → Option ((List (Op)))
 | 0, _, _, _, _, _, _ => none
 | k + 1, x0, x3, x4, x185000, x185001, x185002 => if x185000 = 1 then (if x4 < (x0.length : Int) then (if 0 ≤ x4 then (if ((rd_Op x0 x4).f0) = 1 then (ops_Norm.l2 k x0 x3 (wrap64 (x4 + 1)) x185000 (wrap64 (x185001 + ((rd_Op x0 x4).f1))) x185002) else (if x3.length < 4398046511104 then (ops_Norm.l0 k x0 (x3 ++ [(⟨x185000, x185001, x185002⟩ : Op)]) x4) else (none))) else (none)) else (if x3.length < 4398046511104 then (ops_Norm.l0 k x0 (x3 ++ [(⟨x185000, x185001, x185002⟩ : Op)]) x4) else (none))) else (if x3.length < 4398046511104 then (ops_Norm.l0 k x0 (x3 ++ [(⟨x185000, x185001, x185002⟩ : Op)]) x4) else (none))
def ops_Norm.l1 : Nat → List (Op) → List (Op) → Int → Int → Option ((List (Op)))
 | 0, _, _, _, _ => none
 | k + 1, x0, x3, x4, x5 => if x4 < (x0.length : Int) then (if 0 ≤ x4 then ((ops_Change.f ((rd_Op x0 x4).f0)).bind fun t162 => (if t162 = true then (ops_Norm.l1 k x0 x3 (wrap64 (x4 + 1)) x5) else (ops_Norm.j2 k x0 x3 x4 x5))) else (none)) else (ops_Norm.j2 k x0 x3 x4 x5)
end
def ops_Norm.f (k : Nat) (l0 : List (Op)) : Option ((List (Op))) := (ops_Right.f k l0).bind fun t160 => (if t160 = true then (ops_Norm.l0 k l0 ([] : List (Op)) 0) else (some ([] : List (Op))))
def ops_Norm.T9 : Bool × List (List Nat × List Nat) := (true, [([], []), ([], []), ([], []), ([], []), ([1, 2, 3], [1, 2, 3]), ([4], [4]), ([0, 5, 5], [0, 5]), ([], []), ([], []), ([], []), ([7, 8, 9], [7, 8, 9]), ([10, 6], [10]), ([6, 11, 11], [6, 11]), ([12, 12, 0, 1, 2, 3, 4, 5, 6, 7, 8, 9, 10, 11, 12], [0, 12])])
def ops_Norm.B9 : List Nat := [0, 0, 0, 0, 14, 30, 63, 0, 0, 0, 896, 2047, 4095, 8191]
theorem ops_Norm.tab9 : rtab .any (opsOf Tryd.f46 9) = ops_Norm.T9 := by kernel_rfl
theorem ops_Norm.bits9 : waitsOk ops_Norm.T9.2 ops_Norm.B9 = true := by kernel_rfl
def ops_Norm.T14 : Bool × List (List Nat × List Nat) := (true, [([], []), ([0], [0]), ([], []), ([], []), ([2, 3], [2, 3]), ([4], [4]), ([5], [5]), ([1, 6], [1, 6]), ([0, 1, 2, 3, 4, 5, 6, 7], []), ([8, 7, 0, 1, 2, 3, 4, 5, 6, 7], [7, 8])])
def ops_Norm.B14 : List Nat := [0, 1, 0, 0, 12, 28, 60, 127, 255, 511]
theorem ops_Norm.tab14 : rtab .any (opsOf Tryd.f46 14) = ops_Norm.T14 := by kernel_rfl
theorem ops_Norm.bits14 : waitsOk ops_Norm.T14.2 ops_Norm.B14 = true := by kernel_rfl
def compose_Then.f (k : Nat) (l0 : List (Op)) (l1 : List (Op)) : Option ((List (Op)) × Bool) := (compose_Walk.f k l0 l1).bind fun bt196 => (if bt196.2 = true then ((compose_told.f k bt196.1).bind fun bt200 => ((ops_Norm.f k bt200.1).bind fun t204 => (some (t204, true)))) else (some (([] : List (Op)), false)))
def witness_Both.f (k : Nat) (l0 : List (Op)) (l1 : List (Op)) : Option (List ByteArray × Bool) := (compose_Then.f k l0 l1).bind fun bt207 => (if bt207.2 = true then ((witness_Lines.f k bt207.1).bind fun t211 => (some (t211, true))) else (some (([] : List ByteArray), false)))
def patchworklaw18_alive.f (k : Nat)  : Option (Bool) := (witness_Lines.f k (([(⟨1, 2, (⟨#[]⟩ : ByteArray)⟩ : Op), (⟨3, 0, (⟨#[97, 10]⟩ : ByteArray)⟩ : Op)] : List (Op)))).bind fun t217 => ((witness_Both.f k ([] : List (Op)) ([] : List (Op))).bind fun bt220 => ((witness_Lines.f k ([] : List (Op))).bind fun t224 => (if (t224.length : Int) = 0 then (if (t217.length : Int) = 3 then (if 1 < (t217.length : Int) then (if (rdOf ByteArray.empty t217 1).toList = ([63, 49, 10] : List UInt8) then (if 2 < (t217.length : Int) then (if (rdOf ByteArray.empty t217 2).toList = ([97, 10] : List UInt8) then (if (bt220.1.length : Int) = 0 then (some bt220.2) else (some false)) else (some false)) else (none)) else (some false)) else (none)) else (some false)) else (some false))))
def patchworklaw8_Few.l0 : Nat → List (Op) → Int → Int → Option (Bool)
 | 0, _, _, _ => none
 | k + 1, x0, x3, x4 => if x4 < (x0.length : Int) then (if 0 ≤ x4 then (patchworklaw8_Few.l0 k x0 (wrap64 ((wrap64 (x3 + 1)) + (((rd_Op x0 x4).f2).size : Int))) (wrap64 (x4 + 1))) else (none)) else (some (decide (x3 ≤ 600)))
def patchworkref8_old.f (a0_0 : Int) (a0_1 : Int) (a0_2 : ByteArray) : Option (Int) := if a0_0 = 1 then (if a0_1 > 0 then (some a0_1) else (some 0)) else (if a0_0 = 2 then (some 1) else (if a0_0 = 3 then (some 1) else (some 0)))
def patchworkref8_plus.f (a0 : Int) (a1 : Int) : Option (Int) := if a0 ≥ 1099511627776 then (some 1099511627776) else (if a1 ≥ 1099511627776 then (some 1099511627776) else (if (wrap64 (a0 + a1)) > 1099511627776 then (some 1099511627776) else (some (wrap64 (a0 + a1)))))
def patchworkref8_Olds.l0 : Nat → List (Op) → Int → Int → Option (Int)
 | 0, _, _, _ => none
 | k + 1, x0, x3, x4 => if x4 < (x0.length : Int) then (if 0 ≤ x4 then ((patchworkref8_old.f ((rd_Op x0 x4).f0) ((rd_Op x0 x4).f1) ((rd_Op x0 x4).f2)).bind fun t232 => ((patchworkref8_plus.f x3 t232).bind fun t233 => (patchworkref8_Olds.l0 k x0 t233 (wrap64 (x4 + 1))))) else (none)) else (some x3)
def patchworkref8_Olds.f (k : Nat) (l0 : List (Op)) : Option (Int) := patchworkref8_Olds.l0 k l0 0 0
def patchworkref1_Open.f (a0 : ByteArray) : Option (Bool) := if a0.toList = ([] : List UInt8) then (some true) else (if 0 ≤ (wrap64 ((a0.size : Int) - 1)) then (if (wrap64 ((a0.size : Int) - 1)) < (a0.size : Int) then (some ((bt a0 (wrap64 ((a0.size : Int) - 1))) != 10)) else (none)) else (none))
def patchworkref1_RightLine.l0 : Nat → ByteArray → Int → Option (Bool)
 | 0, _, _ => none
 | k + 1, x0, x3 => if (wrap64 (x3 + 1)) < (x0.size : Int) then (if 0 ≤ x3 then (if x3 < (x0.size : Int) then (if (bt x0 x3) = 10 then (some false) else (patchworkref1_RightLine.l0 k x0 (wrap64 (x3 + 1)))) else (none)) else (none)) else (some (x0.toList != ([] : List UInt8)))
def patchworkref1_RightLine.f (k : Nat) (a0 : ByteArray) : Option (Bool) := patchworkref1_RightLine.l0 k a0 0
def patchworkref8_fresh.f (a0_0 : Int) (a0_1 : Int) (a0_2 : ByteArray) : Option (Int) := if a0_0 = 3 then (some 0) else (if a0_0 = 4 then (some 1) else ((patchworkref8_old.f a0_0 a0_1 a0_2).bind fun t235 => (some t235)))
def patchworkref8_News.l0 : Nat → List (Op) → Int → Int → Option (Int)
 | 0, _, _, _ => none
 | k + 1, x0, x3, x4 => if x4 < (x0.length : Int) then (if 0 ≤ x4 then ((patchworkref8_fresh.f ((rd_Op x0 x4).f0) ((rd_Op x0 x4).f1) ((rd_Op x0 x4).f2)).bind fun t237 => ((patchworkref8_plus.f x3 t237).bind fun t238 => (patchworkref8_News.l0 k x0 t238 (wrap64 (x4 + 1))))) else (none)) else (some x3)
def patchworkref8_News.f (k : Nat) (l0 : List (Op)) : Option (Int) := patchworkref8_News.l0 k l0 0 0
mutual
def patchworkref8_Right.l0 : Nat → List (Op) → Bool → Bool → Int → Option (Bool)
 | 0, _, _, _, _ => none
 | k + 1, x0, x3, x4, x5 => if x5 < (x0.length : Int) then (if 0 ≤ x5 then ((patchworkref8_old.f ((rd_Op x0 x5).f0) ((rd_Op x0 x5).f1) ((rd_Op x0 x5).f2)).bind fun t243 => (if t243 > 0 then (if x3 = true then (patchworkref8_Right.j1 k x0 x3 x4 x5 true ((rd_Op x0 x5).f0) ((rd_Op x0 x5).f1) ((rd_Op x0 x5).f2)) else ((patchworkref8_fresh.f ((rd_Op x0 x5).f0) ((rd_Op x0 x5).f1) ((rd_Op x0 x5).f2)).bind fun t244 => (if t244 > 0 then (patchworkref8_Right.j1 k x0 x3 x4 x5 x4 ((rd_Op x0 x5).f0) ((rd_Op x0 x5).f1) ((rd_Op x0 x5).f2)) else (patchworkref8_Right.j1 k x0 x3 x4 x5 false ((rd_Op x0 x5).f0) ((rd_Op x0 x5).f1) ((rd_Op x0 x5).f2))))) else ((patchworkref8_fresh.f ((rd_Op x0 x5).f0) ((rd_Op x0 x5).f1) ((rd_Op x0 x5).f2)).bind fun t245 => (if t245 > 0 then (patchworkref8_Right.j1 k x0 x3 x4 x5 x4 ((rd_Op x0 x5).f0) ((rd_Op x0 x5).f1) ((rd_Op x0 x5).f2)) else (patchworkref8_Right.j1 k x0 x3 x4 x5 false ((rd_Op x0 x5).f0) ((rd_Op x0 x5).f1) ((rd_Op x0 x5).f2)))))) else (none)) else ((patchworkref8_Olds.f k x0).bind fun t239 => (if t239 ≤ 2147483648 then ((patchworkref8_News.f k x0).bind fun t240 => (some (decide (t240 ≤ 2147483648)))) else (some false)))
def patchworkref8_Right.j1 : Nat → List (Op) → Bool → Bool → Int → Bool → Int → Int → ByteArray → Option (Bool)
 | 0, _, _, _, _, _, _, _, _ => none
 | k + 1, x0, x3, x4, x5, x30, x243000, x243001, x243002 => if x30 = true then (some false) else (if x243000 = 1 then (if x243001 < 1 then (some false) else (if x243001 > 2147483648 then (some false) else (if x243002.toList = ([] : List UInt8) then (patchworkref8_Right.l0 k x0 x3 x4 (wrap64 (x5 + 1))) else (some false)))) else (if x243000 = 2 then (patchworkref8_Right.j2 k x0 x3 x4 x5 x243000 x243001 x243002) else (if x243000 = 3 then (patchworkref8_Right.j2 k x0 x3 x4 x5 x243000 x243001 x243002) else (if x243000 = 4 then (patchworkref8_Right.j2 k x0 x3 x4 x5 x243000 x243001 x243002) else (some false)))))
def patchworkref8_Right.j2 : Nat → List (Op) → Bool → Bool → Int → Int → Int → ByteArray → Option (Bool)
 | 0, _, _, _, _, _, _, _ => none
 | k + 1, x0, x3, x4, x5, x243000, x243001, x243002 => if x243001 = 0 then ((patchworkref1_RightLine.f k x243002).bind fun t246 => (patchworkref8_Right.j3 k x0 x3 x4 x5 (!t246) x243000 x243001 x243002)) else (patchworkref8_Right.j3 k x0 x3 x4 x5 true x243000 x243001 x243002)
def patchworkref8_Right.j3 : Nat → List (Op) → Bool → Bool → Int → Bool → Int → Int → ByteArray → Option (Bool)
 | 0, _, _, _, _, _, _, _, _ => none
 | k + 1, x0, x3, x4, x5, x60, x243000, x243001, x243002 => if x60 = true then (some false) else ((patchworkref1_Open.f x243002).bind fun t247 => (if t247 = true then (if x3 = true then (if x4 = true then (patchworkref8_Right.l0 k x0 true true (wrap64 (x5 + 1))) else (patchworkref8_Right.l0 k x0 true (x243000 != 3) (wrap64 (x5 + 1)))) else (if x4 = true then (patchworkref8_Right.l0 k x0 (x243000 != 4) true (wrap64 (x5 + 1))) else (patchworkref8_Right.l0 k x0 (x243000 != 4) (x243000 != 3) (wrap64 (x5 + 1))))) else (patchworkref8_Right.l0 k x0 x3 x4 (wrap64 (x5 + 1)))))
end
def patchworkref8_Right.f (k : Nat) (l0 : List (Op)) : Option (Bool) := patchworkref8_Right.l0 k l0 false false 0
def patchworkref1_Join.l0 : Nat → List ByteArray → List Int → Int → Option (ByteArray)
 | 0, _, _, _ => none
 | k + 1, x0, x3, x4 => if x4 < (x0.length : Int) then (if 0 ≤ x4 then (if x3.length + (rdOf ByteArray.empty x0 x4).size < 140737488355328 then (patchworkref1_Join.l0 k x0 (x3 ++ bytesOf (rdOf ByteArray.empty x0 x4)) (wrap64 (x4 + 1))) else (none)) else (none)) else (some (strOfNums x3))
def patchworkref1_Whole.l0 : Nat → List ByteArray → Int → Option (Bool)
 | 0, _, _ => none
 | k + 1, x0, x3 => if x3 < (x0.length : Int) then (if 0 ≤ x3 then ((patchworkref1_RightLine.f k (rdOf ByteArray.empty x0 x3)).bind fun t253 => (if t253 = true then ((patchworkref1_Open.f (rdOf ByteArray.empty x0 x3)).bind fun t255 => (if t255 = true then (if (wrap64 (x3 + 1)) < (x0.length : Int) then (some false) else (patchworkref1_Whole.l0 k x0 (wrap64 (x3 + 1)))) else (patchworkref1_Whole.l0 k x0 (wrap64 (x3 + 1))))) else (some false))) else (none)) else (some true)
def patchworkref1_Whole.f (k : Nat) (l0 : List ByteArray) : Option (Bool) := patchworkref1_Whole.l0 k l0 0
mutual
def patchworkref8_Do.j0 : Nat → List (Op) → List ByteArray → Bool → Option (List ByteArray × Bool)
 | 0, _, _, _ => none
 | k + 1, x0, x1, x17 => if x17 = true then (some (([] : List ByteArray), false)) else (patchworkref8_Do.l0 k x0 x1 ([] : List ByteArray) 0 0)
def patchworkref8_Do.l0 : Nat → List (Op) → List ByteArray → List ByteArray → Int → Int → Option (List ByteArray × Bool)
 | 0, _, _, _, _, _ => none
 | k + 1, x0, x1, x6, x7, x8 => if x8 < (x0.length : Int) then (if 0 ≤ x8 then (if ((rd_Op x0 x8).f0) = 1 then (if (wrap64 ((x1.length : Int) - x7)) < ((rd_Op x0 x8).f1) then (some (([] : List ByteArray), false)) else (if 0 ≤ x7 then (if x7 ≤ (wrap64 (x7 + ((rd_Op x0 x8).f1))) then (if (wrap64 (x7 + ((rd_Op x0 x8).f1))) ≤ (x1.length : Int) then (if x6.length + ((x1.take ((wrap64 (x7 + ((rd_Op x0 x8).f1))) : Int).toNat).drop (x7 : Int).toNat).length < 8796093022208 then (patchworkref8_Do.l0 k x0 x1 (x6 ++ ((x1.take ((wrap64 (x7 + ((rd_Op x0 x8).f1))) : Int).toNat).drop (x7 : Int).toNat)) (wrap64 (x7 + ((rd_Op x0 x8).f1))) (wrap64 (x8 + 1))) else (none)) else (none)) else (none)) else (none))) else (if ((rd_Op x0 x8).f0) = 4 then (if x6.length < 8796093022208 then (patchworkref8_Do.l0 k x0 x1 (x6 ++ [(rd_Op x0 x8).f2]) x7 (wrap64 (x8 + 1))) else (none)) else (if x7 ≥ (x1.length : Int) then (patchworkref8_Do.j2 k x0 x1 x6 x7 x8 true ((rd_Op x0 x8).f0) ((rd_Op x0 x8).f1) ((rd_Op x0 x8).f2)) else (if 0 ≤ x7 then (if x7 < (x1.length : Int) then (patchworkref8_Do.j2 k x0 x1 x6 x7 x8 ((rdOf ByteArray.empty x1 x7).toList != ((rd_Op x0 x8).f2).toList) ((rd_Op x0 x8).f0) ((rd_Op x0 x8).f1) ((rd_Op x0 x8).f2)) else (none)) else (none))))) else (none)) else (if 0 ≤ x7 then (if x7 ≤ (x1.length : Int) then (if x6.length + (x1.drop (x7 : Int).toNat).length < 8796093022208 then ((some (x6 ++ (x1.drop (x7 : Int).toNat) : List ByteArray)).bind fun y259 => ((patchworkref1_Whole.f k y259).bind fun t262 => (if t262 = true then (some (y259, true)) else (some (([] : List ByteArray), false))))) else (none)) else (none)) else (none))
def patchworkref8_Do.j2 : Nat → List (Op) → List ByteArray → List ByteArray → Int → Int → Bool → Int → Int → ByteArray → Option (List ByteArray × Bool)
 | 0, _, _, _, _, _, _, _, _, _ => none
 | k + 1, x0, x1, x6, x7, x8, x42, x265000, x265001, x265002 => if x42 = true then (some (([] : List ByteArray), false)) else (if x265000 = 2 then (if x6.length < 8796093022208 then (patchworkref8_Do.l0 k x0 x1 (x6 ++ [x265002]) (wrap64 (x7 + 1)) (wrap64 (x8 + 1))) else (none)) else (patchworkref8_Do.l0 k x0 x1 x6 (wrap64 (x7 + 1)) (wrap64 (x8 + 1))))
end
def patchworkref1_PutNum.f : Nat → Int → Option (ByteArray)
 | 0, _ => none
 | k + 1, a0 => if a0 ≤ (-10) then ((patchworkref1_PutNum.f k (wrap64 (-(wrap64 (Int.tdiv a0 10))))).bind fun t304 => (if 1 + t304.size ≤ 9223372036854775807 then ((patchworkref1_PutNum.f k (wrap64 (-(Int.tmod a0 10)))).bind fun t305 => (if ((⟨#[45]⟩ : ByteArray) ++ t304).size + t305.size ≤ 9223372036854775807 then (some (((⟨#[45]⟩ : ByteArray) ++ t304) ++ t305)) else (none))) else (none))) else (if a0 < 0 then ((patchworkref1_PutNum.f k (wrap64 (-a0))).bind fun t306 => (if 1 + t306.size ≤ 9223372036854775807 then (some ((⟨#[45]⟩ : ByteArray) ++ t306)) else (none))) else (if 0 ≤ (Int.tmod a0 10) then (if (Int.tmod a0 10) ≤ (wrap64 ((Int.tmod a0 10) + 1)) then (if (wrap64 ((Int.tmod a0 10) + 1)) ≤ 10 then (if a0 > 9 then ((patchworkref1_PutNum.f k (wrap64 (Int.tdiv a0 10))).bind fun t307 => (if t307.size + ((⟨#[48, 49, 50, 51, 52, 53, 54, 55, 56, 57]⟩ : ByteArray).extract ((Int.tmod a0 10) : Int).toNat ((wrap64 ((Int.tmod a0 10) + 1)) : Int).toNat).size ≤ 9223372036854775807 then (some (t307 ++ ((⟨#[48, 49, 50, 51, 52, 53, 54, 55, 56, 57]⟩ : ByteArray).extract ((Int.tmod a0 10) : Int).toNat ((wrap64 ((Int.tmod a0 10) + 1)) : Int).toNat))) else (none))) else (some ((⟨#[48, 49, 50, 51, 52, 53, 54, 55, 56, 57]⟩ : ByteArray).extract ((Int.tmod a0 10) : Int).toNat ((wrap64 ((Int.tmod a0 10) + 1)) : Int).toNat))) else (none)) else (none)) else (none)))
mutual
def patchworkref8_Witness.j0 : Nat → List (Op) → Bool → Option (List ByteArray)
 | 0, _, _ => none
 | k + 1, x0, x13 => if x13 = true then (some ([] : List ByteArray)) else (patchworkref8_Witness.l0 k x0 ([] : List ByteArray) 0)
def patchworkref8_Witness.l0 : Nat → List (Op) → List ByteArray → Int → Option (List ByteArray)
 | 0, _, _, _ => none
 | k + 1, x0, x3, x4 => if x4 < (x0.length : Int) then (if 0 ≤ x4 then (if ((rd_Op x0 x4).f0) = 1 then (patchworkref8_Witness.l1 k x0 x3 x4 0) else (if ((rd_Op x0 x4).f0) = 2 then (if x3.length < 8796093022208 then (patchworkref8_Witness.l0 k x0 (x3 ++ [(rd_Op x0 x4).f2]) (wrap64 (x4 + 1))) else (none)) else (if ((rd_Op x0 x4).f0) = 3 then (if x3.length < 8796093022208 then (patchworkref8_Witness.l0 k x0 (x3 ++ [(rd_Op x0 x4).f2]) (wrap64 (x4 + 1))) else (none)) else (patchworkref8_Witness.l0 k x0 x3 (wrap64 (x4 + 1)))))) else (none)) else (some x3)
def patchworkref8_Witness.l1 : Nat → List (Op) → List ByteArray → Int → Int → Option (List ByteArray)
 | 0, _, _, _, _ => none
 | k + 1, x0, x3, x4, x5 => if 0 ≤ x4 then (if x4 < (x0.length : Int) then (if x5 < ((rd_Op x0 x4).f1) then ((patchworkref1_PutNum.f k (x3.length : Int)).bind fun t345 => (if 1 + t345.size ≤ 9223372036854775807 then (if ((⟨#[63]⟩ : ByteArray) ++ t345).size + 1 ≤ 9223372036854775807 then (if x3.length < 8796093022208 then (patchworkref8_Witness.l1 k x0 (x3 ++ [((⟨#[63]⟩ : ByteArray) ++ t345) ++ (⟨#[10]⟩ : ByteArray)]) x4 (wrap64 (x5 + 1))) else (none)) else (none)) else (none))) else (patchworkref8_Witness.l0 k x0 x3 (wrap64 (x4 + 1)))) else (none)) else (none)
end
def patchworkref8_walk.f (l0 : List (Op)) (l1 : List (Op)) : Option ((List (By)) × Bool × Bool) := if okR l0 l1 = true then (match walkO (l0.length + l1.length) l0 l1 false with | none => some ([], false, false) | some os => some (byS os, metS os, true)) else none
mutual
def patchworkref8_norm.l0 : Nat → List (Op) → List (Op) → List (Op) → Int → Option ((List (Op)))
 | 0, _, _, _, _ => none
 | k + 1, x0, x3, x4, x5 => if x5 ≤ (x0.length : Int) then (if x5 < (x0.length : Int) then (if 0 ≤ x5 then (patchworkref8_norm.j1 k x0 x3 x4 x5 (((rd_Op x0 x5).f0) == 4)) else (none)) else (patchworkref8_norm.j1 k x0 x3 x4 x5 false)) else (some x3)
def patchworkref8_norm.j1 : Nat → List (Op) → List (Op) → List (Op) → Int → Bool → Option ((List (Op)))
 | 0, _, _, _, _, _ => none
 | k + 1, x0, x3, x4, x5, x23 => if x23 = true then (if 0 ≤ x5 then (if x5 < (x0.length : Int) then (if x4.length < 4398046511104 then (patchworkref8_norm.l0 k x0 x3 (x4 ++ [(⟨(rd_Op x0 x5).f0, (rd_Op x0 x5).f1, (rd_Op x0 x5).f2⟩ : Op)]) (wrap64 (x5 + 1))) else (none)) else (none)) else (none)) else (if x5 = (x0.length : Int) then (patchworkref8_norm.j2 k x0 x3 x4 x5 true) else (if 0 ≤ x5 then (if x5 < (x0.length : Int) then (patchworkref8_norm.j2 k x0 x3 x4 x5 (((rd_Op x0 x5).f0) != 3)) else (none)) else (none)))
def patchworkref8_norm.j2 : Nat → List (Op) → List (Op) → List (Op) → Int → Bool → Option ((List (Op)))
 | 0, _, _, _, _, _ => none
 | k + 1, x0, x3, x4, x5, x42 => if x42 = true then (if x3.length + x4.length < 4398046511104 then (patchworkref8_norm.j3 k x0 (x3 ++ x4) ([] : List (Op)) x5) else (none)) else (patchworkref8_norm.j3 k x0 x3 x4 x5)
def patchworkref8_norm.j3 : Nat → List (Op) → List (Op) → List (Op) → Int → Option ((List (Op)))
 | 0, _, _, _, _ => none
 | k + 1, x0, x3, x4, x5 => if x5 = (x0.length : Int) then (some x3) else (if 0 ≤ x5 then (if x5 < (x0.length : Int) then (if ((rd_Op x0 x5).f0) = 1 then (if (x3.length : Int) > 0 then (if 0 ≤ (wrap64 ((x3.length : Int) - 1)) then (if (wrap64 ((x3.length : Int) - 1)) < (x3.length : Int) then (if ((rd_Op x3 (wrap64 ((x3.length : Int) - 1))).f0) = 1 then ((patchworkref8_plus.f ((rd_Op x3 (wrap64 ((x3.length : Int) - 1))).f1) ((rd_Op x0 x5).f1)).bind fun t394 => (patchworkref8_norm.l0 k x0 (x3.set ((wrap64 ((x3.length : Int) - 1)) : Int).toNat (⟨(rd_Op x3 (wrap64 ((x3.length : Int) - 1))).f0, t394, (rd_Op x3 (wrap64 ((x3.length : Int) - 1))).f2⟩ : Op)) x4 (wrap64 (x5 + 1)))) else (if x3.length < 4398046511104 then (patchworkref8_norm.l0 k x0 (x3 ++ [(⟨(rd_Op x0 x5).f0, (rd_Op x0 x5).f1, (rd_Op x0 x5).f2⟩ : Op)]) x4 (wrap64 (x5 + 1))) else (none))) else (none)) else (none)) else (if x3.length < 4398046511104 then (patchworkref8_norm.l0 k x0 (x3 ++ [(⟨(rd_Op x0 x5).f0, (rd_Op x0 x5).f1, (rd_Op x0 x5).f2⟩ : Op)]) x4 (wrap64 (x5 + 1))) else (none))) else (if x3.length < 4398046511104 then (patchworkref8_norm.l0 k x0 (x3 ++ [(⟨(rd_Op x0 x5).f0, (rd_Op x0 x5).f1, (rd_Op x0 x5).f2⟩ : Op)]) x4 (wrap64 (x5 + 1))) else (none))) else (none)) else (none))
end
def patchworkref8_norm.f (k : Nat) (l0 : List (Op)) : Option ((List (Op))) := patchworkref8_norm.l0 k l0 ([] : List (Op)) ([] : List (Op)) 0
def patchworkref8_ops.l0 : Nat → List (By) → List (Op) → Int → Option ((List (Op)))
 | 0, _, _, _ => none
 | k + 1, x0, x3, x4 => if x4 < (x0.length : Int) then (if 0 ≤ x4 then (if x3.length < 4398046511104 then (patchworkref8_ops.l0 k x0 (x3 ++ [(⟨(rd_By x0 x4).f0.f0, (rd_By x0 x4).f0.f1, (rd_By x0 x4).f0.f2⟩ : Op)]) (wrap64 (x4 + 1))) else (none)) else (none)) else (some x3)
def patchworkref8_ops.f (k : Nat) (l0 : List (By)) : Option ((List (Op))) := patchworkref8_ops.l0 k l0 ([] : List (Op)) 0
def patchworkref8_Then.j0 : Nat → List (Op) → List (Op) → Bool → Option ((List (Op)) × Bool)
 | 0, _, _, _ => none
 | k + 1, x0, x1, x17 => if x17 = true then (some (([] : List (Op)), false)) else ((patchworkref8_walk.f x0 x1).bind fun bt414 => ((patchworkref8_ops.f k bt414.1).bind fun t419 => ((patchworkref8_norm.f k t419).bind fun t422 => (if bt414.2.2 = true then ((patchworkref8_Right.f k t422).bind fun t425 => (if t425 = true then (some (t422, true)) else (some (([] : List (Op)), false)))) else (some (([] : List (Op)), false))))))
def patchworkref1_SameTexts.l0 : Nat → List ByteArray → List ByteArray → Int → Option (Bool)
 | 0, _, _, _ => none
 | k + 1, x0, x1, x5 => if x5 < (x0.length : Int) then (if 0 ≤ x5 then (if x5 < (x1.length : Int) then (if (rdOf ByteArray.empty x0 x5).toList = (rdOf ByteArray.empty x1 x5).toList then (patchworkref1_SameTexts.l0 k x0 x1 (wrap64 (x5 + 1))) else (some false)) else (none)) else (none)) else (some true)
end Go.Proofs.YtkiklmmpflndbaaDoor.P
