/- Own: plain laws of the table; a text that is read. -/
import Derived.Test.YtacpejblnjgcoaaTd
import Derived.WideShapes
import Derived.Lib.Strings
namespace Go.Proofs.Ytacpejblnjgcoaa.P
open Go.RowKit Go.Proofs.YtacpejblnjgcoaaW.PrintWords Go.Proofs.YtacpejblnjgcoaaW.PrintLast Go.Proofs.YtacpejblnjgcoaaW.PrintMore
set_option linter.unusedVariables false
set_option linter.unusedSimpArgs false

theorem tabL_same {a b : List ByteArray} {i j : Nat} (hi : i < a.length) (hj : j < b.length) (h : a[i] = b[j]) : tabL a b i j = tabL a b (i + 1) (j + 1) + 1 := by
  unfold tabL
  rw [List.drop_eq_getElem_cons hi, List.drop_eq_getElem_cons hj, h, lcs_cons_same]; rfl
theorem tabL_ne {a b : List ByteArray} {i j : Nat} (hi : i < a.length) (hj : j < b.length) (h : a[i] ≠ b[j]) : tabL a b i j = max (tabL a b (i + 1) j) (tabL a b i (j + 1)) := by
  unfold tabL
  rw [List.drop_eq_getElem_cons hi, List.drop_eq_getElem_cons hj, lcs_cons_ne h, ← List.drop_eq_getElem_cons hi, ← List.drop_eq_getElem_cons hj]; omega
theorem tabL_bd (a b : List ByteArray) (i j : Nat) : 0 ≤ tabL a b i j ∧ tabL a b i j ≤ a.length := by
  unfold tabL
  have := lcs_le_left (a.drop i) (b.drop j)
  simp at this; omega
theorem text_eq {s t : ByteArray} (h : s.toList = t.toList) : s = t := by
  rw [Lib.toList_data, Lib.toList_data] at h
  exact WideShapes.bytes_inj h
theorem rd_getElem {a : List ByteArray} {i : Nat} (h : i < a.length) : rdOf ByteArray.empty a (i : Int) = a[i] := by
  unfold rdOf; rw [Int.toNat_natCast, List.getD_eq_getElem?_getD, List.getElem?_eq_getElem h]; rfl
theorem rd_text {a b : List ByteArray} {i j : Nat} (hi : i < a.length) (hj : j < b.length) (h : (rdOf ByteArray.empty a (i : Int)).toList = (rdOf ByteArray.empty b (j : Int)).toList) : a[i] = b[j] := by
  rw [rd_getElem hi, rd_getElem hj, Lib.toList_data, Lib.toList_data] at h
  exact WideShapes.bytes_inj h
theorem rd_text' {a b : List ByteArray} {i j : Nat} (hi : i < a.length) (hj : j < b.length) (h : a[i] = b[j]) : (rdOf ByteArray.empty a (i : Int)).toList = (rdOf ByteArray.empty b (j : Int)).toList := by
  rw [rd_getElem hi, rd_getElem hj, h]

end Go.Proofs.Ytacpejblnjgcoaa.P
