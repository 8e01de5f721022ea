/- Own: what the program and the reference tell of one text: is it a line, and is it open? -/
import Derived.Test.YtfoponahdidddaaQa
namespace Go.Proofs.Ytfoponahdidddaa.P
open Go.RowKit Go.Proofs.YtfoponahdidddaaW.PrintWords Go.Proofs.YtfoponahdidddaaW.PrintLast Go.Proofs.YtfoponahdidddaaW.PrintMore

/-- A line: not empty, and no line end but at its end. An open one has none. -/
def rightT (s : ByteArray) : Bool := decide (s.data.toList ≠ []) && decide ((10 : UInt8) ∉ s.data.toList.dropLast)
def openT (s : ByteArray) : Bool := decide (s.data.toList.getLast? ≠ some 10)
theorem toList_nil {s : ByteArray} : s.toList = ([] : List UInt8) ↔ s.data.toList = [] := by rw [Lib.toList_data]
theorem bt_getD (s : ByteArray) (i : Nat) : bt s (i : Int) = ((s.data.toList.getD i 0).toNat : Int) := by
  unfold bt
  rw [Int.toNat_natCast]
  by_cases h : i < s.size
  · rw [dif_pos h, List.getD_eq_getElem?_getD, List.getElem?_eq_getElem (by rw [data_length]; exact h)]
    rfl
  · rw [dif_neg h, List.getD_eq_getElem?_getD, List.getElem?_eq_none (by rw [data_length]; omega)]
    rfl
theorem u10 {x : UInt8} : ((x.toNat : Int) = 10) ↔ x = 10 := by
  constructor
  · intro h
    have : x.toNat = (10 : UInt8).toNat := by have : (10 : UInt8).toNat = 10 := rfl; omega
    exact UInt8.toNat_inj.mp this
  · rintro rfl; rfl
theorem last_getD {l : List UInt8} (h : l ≠ []) : l.getLast? = some (l.getD (l.length - 1) 0) := by
  have : 0 < l.length := List.length_pos_iff.mpr h
  rw [List.getLast?_eq_getElem?, List.getElem?_eq_getElem (by omega), List.getD_eq_getElem?_getD, List.getElem?_eq_getElem (by omega)]
  rfl
theorem size_pos {s : ByteArray} (h : s.data.toList ≠ []) : 0 < s.size := by rw [← data_length]; exact List.length_pos_iff.mpr h
theorem size_zero {s : ByteArray} (h : s.data.toList = []) : s.size = 0 := by rw [← data_length, h]; rfl
theorem openT_getD {s : ByteArray} (h : s.data.toList ≠ []) : openT s = (s.data.toList.getD (s.size - 1) 0 != 10) := by
  unfold openT
  rw [last_getD h, data_length]
  generalize s.data.toList.getD (s.size - 1) 0 = x
  by_cases h2 : x = 10 <;> simp [h2]
theorem open_val {s : ByteArray} (hb : s.size < 4611686018427387904) : patchworkref1_Open.f s = some (openT s) := by
  unfold patchworkref1_Open.f
  by_cases h : s.data.toList = []
  · rw [if_pos (toList_nil.mpr h)]
    simp [openT, h]
  · have hp := size_pos h
    rw [if_neg (fun e => h (toList_nil.mp e))]
    have w : wrap64 ((s.size : Int) - 1) = ((s.size - 1 : Nat) : Int) := by unfold wrap64; omega
    rw [w, if_pos (by omega), if_pos (by omega), bt_getD, openT_getD h]
    congr 1
    generalize s.data.toList.getD (s.size - 1) 0 = x
    by_cases h2 : x = 10
    · subst h2; rfl
    · have : ¬ (x.toNat : Int) = 10 := fun e => h2 (u10.mp e)
      rw [bne_iff_ne.mpr h2, bne_iff_ne.mpr this]
theorem dropLast_drop {s : ByteArray} {i : Nat} (h : i + 1 < s.size) : s.data.toList.dropLast.drop i = s.data.toList.getD i 0 :: s.data.toList.dropLast.drop (i + 1) := by
  have hl : i < s.data.toList.dropLast.length := by rw [List.length_dropLast, data_length]; omega
  rw [List.drop_eq_getElem_cons hl, List.getElem_dropLast, List.getD_eq_getElem?_getD, List.getElem?_eq_getElem (by rw [data_length]; omega)]
  rfl
theorem rightline_loop {s : ByteArray} (hb : s.size < 4611686018427387904) : ∀ (n i : Nat), s.size - i ≤ n → i ≤ s.size → Ev (fun k => patchworkref1_RightLine.l0 k s (i : Int)) (decide (s.data.toList ≠ []) && decide ((10 : UInt8) ∉ s.data.toList.dropLast.drop i)) := by
  intro n
  induction n with
  | zero =>
    intro i hi hle
    have w : wrap64 ((i : Int) + 1) = ((i + 1 : Nat) : Int) := by unfold wrap64; omega
    have c : ¬ ((i + 1 : Nat) : Int) < (s.size : Int) := by omega
    have d : s.data.toList.dropLast.drop i = [] := List.drop_eq_nil_of_le (by rw [List.length_dropLast, data_length]; omega)
    refine Ev.step (fun k => rfl) ?_
    simp only [patchworkref1_RightLine.l0, w, if_neg c, d]
    have : (s.toList != ([] : List UInt8)) = (decide (s.data.toList ≠ []) && decide ((10 : UInt8) ∉ ([] : List UInt8))) := by
      rw [Lib.toList_data]
      by_cases h : s.data.toList = [] <;> simp [h]
    rw [this]
    exact Ev.now _
  | succ n ih =>
    intro i hi hle
    have w : wrap64 ((i : Int) + 1) = ((i + 1 : Nat) : Int) := by unfold wrap64; omega
    refine Ev.step (fun k => rfl) ?_
    by_cases c : ((i + 1 : Nat) : Int) < (s.size : Int)
    · have c2 : (0 : Int) ≤ (i : Int) := by omega
      have c3 : (i : Int) < (s.size : Int) := by omega
      rw [dropLast_drop (by omega)]
      simp only [patchworkref1_RightLine.l0, w, if_pos c, if_pos c2, if_pos c3, bt_getD]
      by_cases h : s.data.toList.getD i 0 = 10
      · have h' : ((s.data.toList.getD i 0).toNat : Int) = 10 := u10.mpr h
        rw [h] at h' ⊢
        simp only [if_pos h', List.mem_cons, true_or, not_true_eq_false, decide_false, Bool.and_false]
        exact Ev.now _
      · have h' : ¬ ((s.data.toList.getD i 0).toNat : Int) = 10 := fun e => h (u10.mp e)
        have h2 : ¬ (10 : UInt8) = s.data.toList.getD i 0 := fun e => h e.symm
        simp only [if_neg h', List.mem_cons, h2, false_or]
        exact ih (i + 1) (by omega) (by omega)
    · have d : s.data.toList.dropLast.drop i = [] := List.drop_eq_nil_of_le (by rw [List.length_dropLast, data_length]; omega)
      simp only [patchworkref1_RightLine.l0, w, if_neg c, d]
      have : (s.toList != ([] : List UInt8)) = (decide (s.data.toList ≠ []) && decide ((10 : UInt8) ∉ ([] : List UInt8))) := by
        rw [Lib.toList_data]
        by_cases h : s.data.toList = [] <;> simp [h]
      rw [this]
      exact Ev.now _
theorem rightline_ev {s : ByteArray} (hb : s.size < 4611686018427387904) : Ev (fun k => patchworkref1_RightLine.f k s) (rightT s) := by
  have := rightline_loop hb s.size 0 (by omega) (by omega)
  simpa [patchworkref1_RightLine.f, rightT] using this
theorem nl_list : (⟨#[10]⟩ : ByteArray).data.toList = [10] := rfl
theorem ext_list (s : ByteArray) (i j : Nat) : (s.extract i j).data.toList = (s.data.toList.take j).drop i := by
  rw [ByteArray.data_extract, Array.toList_extract, List.extract_eq_take_drop, List.drop_take]
theorem suffix_val {s : ByteArray} (hb : s.size < 4611686018427387904) : stringslite_HasSuffix.f s ⟨#[10]⟩ = some (!openT s) := by
  have h1 : ((⟨#[10]⟩ : ByteArray).size : Int) = 1 := rfl
  unfold stringslite_HasSuffix.f
  rw [h1]
  by_cases h : s.data.toList = []
  · have h0 := size_zero h
    rw [if_neg (by omega)]
    simp [openT, h]
  · have hp := size_pos h
    have w : wrap64 ((s.size : Int) - 1) = ((s.size - 1 : Nat) : Int) := by unfold wrap64; omega
    rw [if_pos (by omega), w, if_pos (by omega), if_pos (by omega), Int.toNat_natCast, Lib.toList_data, Lib.toList_data, ext_list, nl_list, openT_getD h]
    have hl : s.size - 1 < s.data.toList.length := by rw [data_length]; omega
    rw [List.take_of_length_le (by rw [data_length]; exact Nat.le_refl _), List.drop_eq_getElem_cons hl, List.drop_eq_nil_of_le (by rw [data_length]; omega)]
    rw [List.getD_eq_getElem?_getD, List.getElem?_eq_getElem hl]
    simp only [Option.getD_some]
    simp [bne]
theorem closed_val {s : ByteArray} (hb : s.size < 4611686018427387904) : lines_Closed.f s = some (!openT s) := by
  simp [lines_Closed.f, strings_HasSuffix.f, suffix_val hb]
theorem trim_val {s : ByteArray} (hb : s.size < 4611686018427387904) : ∃ t, strings_TrimSuffix.f s ⟨#[10]⟩ = some t ∧ (s.data.toList ≠ [] → (10 ∈ t.data.toList ↔ 10 ∈ s.data.toList.dropLast)) := by
  have h1 : ((⟨#[10]⟩ : ByteArray).size : Int) = 1 := rfl
  unfold strings_TrimSuffix.f stringslite_TrimSuffix.f
  rw [suffix_val hb]
  simp only [Option.bind_some]
  by_cases h : openT s = true
  · refine ⟨s, by simp [h], fun hn => ?_⟩
    constructor
    · intro hm
      have : s.data.toList = s.data.toList.dropLast ++ [s.data.toList.getLast hn] := (List.dropLast_concat_getLast hn).symm
      rw [this] at hm
      rcases List.mem_append.mp hm with hm | hm
      · exact hm
      · exfalso
        have e : s.data.toList.getLast hn = 10 := (List.mem_singleton.mp hm).symm
        have : s.data.toList.getLast? = some 10 := by rw [List.getLast?_eq_some_getLast hn, e]
        simp [openT, this] at h
    · intro hm; exact (List.dropLast_sublist _).subset hm
  · have hn : s.data.toList ≠ [] := by intro e; simp [openT, e] at h
    have hp := size_pos hn
    have w : wrap64 ((s.size : Int) - 1) = ((s.size - 1 : Nat) : Int) := by unfold wrap64; omega
    have h' : openT s = false := by simpa using h
    rw [h', h1, w]
    simp only [Bool.not_false, if_true]
    rw [if_pos (by omega), if_pos (by omega), Int.toNat_natCast]
    refine ⟨_, rfl, fun _ => ?_⟩
    rw [ext_list, List.drop_zero, List.dropLast_eq_take, data_length]
theorem linesright_val {s : ByteArray} (hb : s.size < 4611686018427387904) : lines_Right.f s = some (rightT s) := by
  unfold lines_Right.f
  by_cases h : s.data.toList = []
  · rw [if_pos (toList_nil.mpr h)]
    simp [rightT, h]
  · rw [if_neg (fun e => h (toList_nil.mp e))]
    obtain ⟨t, ht, hm⟩ := trim_val hb
    rw [ht]
    have : strings_Contains.f t ⟨#[10]⟩ = some (decide (10 ∈ t.data.toList)) := by simp [strings_Contains.f]
    simp only [Option.bind_some, this, rightT]
    congr 1
    by_cases c : 10 ∈ t.data.toList
    · simp [c, (hm h).mp c]
    · have c2 : 10 ∉ s.data.toList.dropLast := fun e => c ((hm h).mpr e)
      simp [c, c2, h]
end Go.Proofs.Ytfoponahdidddaa.P
