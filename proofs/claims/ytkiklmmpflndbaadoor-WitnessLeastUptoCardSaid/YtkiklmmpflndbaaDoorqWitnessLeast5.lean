/- Own and printed texts that the theorem of WitnessLeast reaches, put together. -/
import Derived.Test.YtkiklmmpflndbaaDoorqWitnessLeast4
import Derived.WideShapes
import Derived.Lib.Strings
import Derived.Test.YtkiklmmpflndbaaDoorqWitnessLeast3
set_option linter.unusedVariables false
set_option linter.unusedSimpArgs false
namespace Go.Proofs.YtkiklmmpflndbaaDoor.P
open Go.RowKit Go.Proofs.YtkiklmmpflndbaaDoorW.PrintWords Go.Proofs.YtkiklmmpflndbaaDoorW.PrintLast Go.Proofs.YtkiklmmpflndbaaDoorW.PrintMore
attribute [local go_sem] max2_int min2_int max_two min_two max_three min_three max_four min_four
mutual
def patchworklaw18_WitnessLeast.j0 : Nat → List (Op) → List ByteArray → Bool → Bool → Option (Bool)
 | 0, _, _, _, _ => none
 | k + 1, x0, x1, x5, x40 => if x40 = true then (some x5) else ((witness_Lines.f k x0).bind fun t281 => ((patchworkref8_Do.f k x0 x1).bind fun bt284 => (if bt284.2 = true then (patchworklaw18_WitnessLeast.j1 k x0 t281 (decide ((x1.length : Int) < (t281.length : Int)))) else (patchworklaw18_WitnessLeast.j1 k x0 t281 false))))
def patchworklaw18_WitnessLeast.j1 : Nat → List (Op) → List ByteArray → Bool → Option (Bool)
 | 0, _, _, _ => none
 | k + 1, x0, x6, x57 => if x57 = true then (some false) else (patchworklaw18_WitnessLeast.l0 k x0 x6 0)
def patchworklaw18_WitnessLeast.l0 : Nat → List (Op) → List ByteArray → Int → Option (Bool)
 | 0, _, _, _ => none
 | k + 1, x0, x6, x9 => if x9 < (x0.length : Int) then (if 0 ≤ x9 then (if ((rd_Op x0 x9).f0) = 1 then (patchworklaw18_WitnessLeast.l0 k x0 x6 (wrap64 (x9 + 1))) else ((patchworkref1_Open.f ((rd_Op x0 x9).f2)).bind fun t290 => (if t290 = true then (some true) else (patchworklaw18_WitnessLeast.l0 k x0 x6 (wrap64 (x9 + 1)))))) else (none)) else (if ([] : List ByteArray).length + x6.length < 8796093022208 then ((some (([] : List ByteArray) ++ x6 : List ByteArray)).bind fun y291 => ((some (([(⟨#[109, 111, 114, 101, 10]⟩ : ByteArray), (⟨#[108, 97, 115, 116]⟩ : ByteArray)] : List ByteArray) : List ByteArray)).bind fun y294 => (if y291.length + y294.length < 8796093022208 then ((patchworkref8_Do.f k x0 (y291 ++ y294)).bind fun bt300 => (some bt300.2)) else (none)))) else (none))
end
def patchworklaw18_WitnessLeast.f (k : Nat) (l0 : List (Op)) (l1 : List ByteArray) : Option (Bool) := (patchworklaw18_alive.f k).bind fun t276 => (if t276 = true then ((patchworklaw8_Few.f k l0).bind fun t277 => (if t277 = true then ((patchworkref8_Right.f k l0).bind fun t278 => (if t278 = true then (if (l1.length : Int) > 300 then (patchworklaw18_WitnessLeast.j0 k l0 l1 t276 true) else ((patchworkref1_Join.f k l1).bind fun t279 => (if (t279.size : Int) > 2000 then (patchworklaw18_WitnessLeast.j0 k l0 l1 t276 true) else ((patchworkref8_Olds.f k l0).bind fun t280 => (patchworklaw18_WitnessLeast.j0 k l0 l1 t276 (decide (t280 > 300))))))) else (patchworklaw18_WitnessLeast.j0 k l0 l1 t276 true))) else (patchworklaw18_WitnessLeast.j0 k l0 l1 t276 true))) else (patchworklaw18_WitnessLeast.j0 k l0 l1 t276 true))
end Go.Proofs.YtkiklmmpflndbaaDoor.P
namespace Go.Proofs.YtkiklmmpflndbaaDoor.P
open Go.RowKit Go.Proofs.YtkiklmmpflndbaaDoorW.PrintWords Go.Proofs.YtkiklmmpflndbaaDoorW.PrintLast Go.Proofs.YtkiklmmpflndbaaDoorW.PrintMore
theorem txt_eq {s t : ByteArray} (h : s.toList = t.toList) : s = t := by
 rw [Lib.toList_data, Lib.toList_data] at h
 exact WideShapes.bytes_inj h
section
variable {α : Type}
theorem lt_mid (p s : List α) (x : α) : ((p.length : Int) < ((p ++ x :: s).length : Int)) = True := by simp; omega
theorem lt_end (p : List α) : ((p.length : Int) < ((p ++ ([] : List α)).length : Int)) = False := by simp
theorem nn_nat (n : Nat) : ((0 : Int) ≤ (n : Int)) = True := by simp
theorem getD_mid (p s : List α) (x d : α) : (p ++ x :: s).getD (p.length : Int).toNat d = x := by
 rw [Int.toNat_natCast, List.getD_eq_getElem?_getD, List.getElem?_append_right (Nat.le_refl _)]; simp
theorem wrap_len (p : List α) (x : α) (h : p.length < 4611686018427387904) : wrap64 ((p.length : Int) + 1) = ((p ++ [x]).length : Int) := by
 unfold wrap64; simp; omega
theorem len_snoc (p : List α) (x : α) : (p ++ [x]).length = p.length + 1 := by simp
end
theorem wrap_small {n : Int} (h0 : -9223372036854775808 ≤ n) (h1 : n < 9223372036854775808) : wrap64 n = n := by unfold wrap64; omega
theorem rdOf_mid {α : Type} (d : α) (p s : List α) (x : α) : rdOf d (p ++ x :: s) (p.length : Int) = x := getD_mid p s x d
theorem rdOp_mid (p s : List Op) (x : Op) : rd_Op (p ++ x :: s) (p.length : Int) = x := getD_mid p s x zOp
theorem rdOf_get {α : Type} {d : α} {l : List α} {i : Nat} (h : i < l.length) : rdOf d l (i : Int) = l[i] := by
 unfold rdOf; rw [Int.toNat_natCast, List.getD_eq_getElem?_getD, List.getElem?_eq_getElem h]; rfl
theorem Op.ext' {a b : Op} (h0 : a.f0 = b.f0) (h1 : a.f1 = b.f1) (h2 : a.f2 = b.f2) : a = b := by cases a; cases b; simp_all
instance : DecidableEq Op := fun a b => decidable_of_iff (a.f0 = b.f0 ∧ a.f1 = b.f1 ∧ a.f2 = b.f2) ⟨fun h => Op.ext' h.1 h.2.1 h.2.2, fun h => by rw [h]; exact ⟨rfl, rfl, rfl⟩⟩
theorem Ev.bind' {α β : Type} {g : Nat → Option α} {f : Nat → α → Option β} {a : α} {r : β} (h : Ev g a) (k : Ev (fun n => f n a) r) : Ev (fun n => (g n).bind fun t => f n t) r := Ev.bind h k
theorem Ev.bindN {α β : Type} {g : Option α} {f : Nat → α → Option β} {a : α} {r : β} (h : g = some a) (k : Ev (fun n => f n a) r) : Ev (fun n => g.bind fun t => f n t) r := by
 subst h; exact k
end Go.Proofs.YtkiklmmpflndbaaDoor.P
namespace Go.Proofs.YtkiklmmpflndbaaDoor.P
open Go.RowKit Go.Proofs.YtkiklmmpflndbaaDoorW.PrintWords Go.Proofs.YtkiklmmpflndbaaDoorW.PrintLast Go.Proofs.YtkiklmmpflndbaaDoorW.PrintMore
def rightT (s : ByteArray) : Bool := decide (s.data.toList ≠ []) && decide ((10 : UInt8) ∉ s.data.toList.dropLast)
def openT (s : ByteArray) : Bool := decide (s.data.toList.getLast? ≠ some 10)
theorem toList_nil {s : ByteArray} : s.toList = ([] : List UInt8) ↔ s.data.toList = [] := by rw [Lib.toList_data]
theorem bt_getD (s : ByteArray) (i : Nat) : bt s (i : Int) = ((s.data.toList.getD i 0).toNat : Int) := by
 unfold bt
 rw [Int.toNat_natCast]
 by_cases h : i < s.size
 ·rw [dif_pos h, List.getD_eq_getElem?_getD, List.getElem?_eq_getElem (by rw [data_length]; exact h)]
  rfl
 ·rw [dif_neg h, List.getD_eq_getElem?_getD, List.getElem?_eq_none (by rw [data_length]; omega)]
  rfl
theorem u10 {x : UInt8} : ((x.toNat : Int) = 10) ↔ x = 10 := by
 constructor
 ·intro h
  have : x.toNat = (10 : UInt8).toNat := by have : (10 : UInt8).toNat = 10 := rfl; omega
  exact UInt8.toNat_inj.mp this
 ·rintro rfl; rfl
theorem last_getD {l : List UInt8} (h : l ≠ []) : l.getLast? = some (l.getD (l.length - 1) 0) := by
 have : 0 < l.length := List.length_pos_iff.mpr h
 rw [List.getLast?_eq_getElem?, List.getElem?_eq_getElem (by omega), List.getD_eq_getElem?_getD, List.getElem?_eq_getElem (by omega)]
 rfl
theorem size_pos {s : ByteArray} (h : s.data.toList ≠ []) : 0 < s.size := by rw [← data_length]; exact List.length_pos_iff.mpr h
theorem size_zero {s : ByteArray} (h : s.data.toList = []) : s.size = 0 := by rw [← data_length, h]; rfl
theorem openT_getD {s : ByteArray} (h : s.data.toList ≠ []) : openT s = (s.data.toList.getD (s.size - 1) 0 != 10) := by
 unfold openT
 rw [last_getD h, data_length]
 generalize s.data.toList.getD (s.size - 1) 0 = x
 by_cases h2 : x = 10 <;> simp [h2]
theorem open_val {s : ByteArray} (hb : s.size < 4611686018427387904) : patchworkref1_Open.f s = some (openT s) := by
 unfold patchworkref1_Open.f
 by_cases h : s.data.toList = []
 ·rw [if_pos (toList_nil.mpr h)]
  simp [openT, h]
 ·have hp := size_pos h
  rw [if_neg (fun e => h (toList_nil.mp e))]
  have w : wrap64 ((s.size : Int) - 1) = ((s.size - 1 : Nat) : Int) := by unfold wrap64; omega
  rw [w, if_pos (by omega), if_pos (by omega), bt_getD, openT_getD h]
  congr 1
  generalize s.data.toList.getD (s.size - 1) 0 = x
  by_cases h2 : x = 10
  ·subst h2; rfl
  ·have : ¬ (x.toNat : Int) = 10 := fun e => h2 (u10.mp e)
   rw [bne_iff_ne.mpr h2, bne_iff_ne.mpr this]
theorem dropLast_drop {s : ByteArray} {i : Nat} (h : i + 1 < s.size) : s.data.toList.dropLast.drop i = s.data.toList.getD i 0 :: s.data.toList.dropLast.drop (i + 1) := by
 have hl : i < s.data.toList.dropLast.length := by rw [List.length_dropLast, data_length]; omega
 rw [List.drop_eq_getElem_cons hl, List.getElem_dropLast, List.getD_eq_getElem?_getD, List.getElem?_eq_getElem (by rw [data_length]; omega)]
 rfl
theorem rightline_loop {s : ByteArray} (hb : s.size < 4611686018427387904) : ∀ (n i : Nat), s.size - i ≤ n → i ≤ s.size → Ev (fun k => patchworkref1_RightLine.l0 k s (i : Int)) (decide (s.data.toList ≠ []) && decide ((10 : UInt8) ∉ s.data.toList.dropLast.drop i)) := by
 intro n
 induction n with
 | zero =>
  intro i hi hle
  have w : wrap64 ((i : Int) + 1) = ((i + 1 : Nat) : Int) := by unfold wrap64; omega
  have c : ¬ ((i + 1 : Nat) : Int) < (s.size : Int) := by omega
  have d : s.data.toList.dropLast.drop i = [] := List.drop_eq_nil_of_le (by rw [List.length_dropLast, data_length]; omega)
  refine Ev.step (fun k => rfl) ?_
  simp only [patchworkref1_RightLine.l0, w, if_neg c, d]
  have : (s.toList != ([] : List UInt8)) = (decide (s.data.toList ≠ []) && decide ((10 : UInt8) ∉ ([] : List UInt8))) := by
   rw [Lib.toList_data]
   by_cases h : s.data.toList = [] <;> simp [h]
  rw [this]
  exact Ev.now _
 | succ n ih =>
  intro i hi hle
  have w : wrap64 ((i : Int) + 1) = ((i + 1 : Nat) : Int) := by unfold wrap64; omega
  refine Ev.step (fun k => rfl) ?_
  by_cases c : ((i + 1 : Nat) : Int) < (s.size : Int)
  ·have c2 : (0 : Int) ≤ (i : Int) := by omega
   have c3 : (i : Int) < (s.size : Int) := by omega
   rw [dropLast_drop (by omega)]
   simp only [patchworkref1_RightLine.l0, w, if_pos c, if_pos c2, if_pos c3, bt_getD]
   by_cases h : s.data.toList.getD i 0 = 10
   ·have h' : ((s.data.toList.getD i 0).toNat : Int) = 10 := u10.mpr h
    rw [h] at h' ⊢
    simp only [if_pos h', List.mem_cons, true_or, not_true_eq_false, decide_false, Bool.and_false]
    exact Ev.now _
   ·have h' : ¬ ((s.data.toList.getD i 0).toNat : Int) = 10 := fun e => h (u10.mp e)
    have h2 : ¬ (10 : UInt8) = s.data.toList.getD i 0 := fun e => h e.symm
    simp only [if_neg h', List.mem_cons, h2, false_or]
    exact ih (i + 1) (by omega) (by omega)
  ·have d : s.data.toList.dropLast.drop i = [] := List.drop_eq_nil_of_le (by rw [List.length_dropLast, data_length]; omega)
   simp only [patchworkref1_RightLine.l0, w, if_neg c, d]
   have : (s.toList != ([] : List UInt8)) = (decide (s.data.toList ≠ []) && decide ((10 : UInt8) ∉ ([] : List UInt8))) := by
    rw [Lib.toList_data]
    by_cases h : s.data.toList = [] <;> simp [h]
   rw [this]
   exact Ev.now _
theorem rightline_ev {s : ByteArray} (hb : s.size < 4611686018427387904) : Ev (fun k => patchworkref1_RightLine.f k s) (rightT s) := by
 have := rightline_loop hb s.size 0 (by omega) (by omega)
 simpa [patchworkref1_RightLine.f, rightT] using this
theorem nl_list : (⟨#[10]⟩ : ByteArray).data.toList = [10] := rfl
theorem ext_list (s : ByteArray) (i j : Nat) : (s.extract i j).data.toList = (s.data.toList.take j).drop i := by
 rw [ByteArray.data_extract, Array.toList_extract, List.extract_eq_take_drop, List.drop_take]
theorem suffix_val {s : ByteArray} (hb : s.size < 4611686018427387904) : stringslite_HasSuffix.f s ⟨#[10]⟩ = some (!openT s) := by
 have h1 : ((⟨#[10]⟩ : ByteArray).size : Int) = 1 := rfl
 unfold stringslite_HasSuffix.f
 rw [h1]
 by_cases h : s.data.toList = []
 ·have h0 := size_zero h
  rw [if_neg (by omega)]
  simp [openT, h]
 ·have hp := size_pos h
  have w : wrap64 ((s.size : Int) - 1) = ((s.size - 1 : Nat) : Int) := by unfold wrap64; omega
  rw [if_pos (by omega), w, if_pos (by omega), if_pos (by omega), Int.toNat_natCast, Lib.toList_data, Lib.toList_data, ext_list, nl_list, openT_getD h]
  have hl : s.size - 1 < s.data.toList.length := by rw [data_length]; omega
  rw [List.take_of_length_le (by rw [data_length]; exact Nat.le_refl _), List.drop_eq_getElem_cons hl, List.drop_eq_nil_of_le (by rw [data_length]; omega)]
  rw [List.getD_eq_getElem?_getD, List.getElem?_eq_getElem hl]
  simp only [Option.getD_some]
  simp [bne]
theorem closed_val {s : ByteArray} (hb : s.size < 4611686018427387904) : lines_Closed.f s = some (!openT s) := by
 simp [lines_Closed.f, strings_HasSuffix.f, suffix_val hb]
theorem trim_val {s : ByteArray} (hb : s.size < 4611686018427387904) : ∃ t, strings_TrimSuffix.f s ⟨#[10]⟩ = some t ∧ (s.data.toList ≠ [] → (10 ∈ t.data.toList ↔ 10 ∈ s.data.toList.dropLast)) := by
 have h1 : ((⟨#[10]⟩ : ByteArray).size : Int) = 1 := rfl
 unfold strings_TrimSuffix.f stringslite_TrimSuffix.f
 rw [suffix_val hb]
 simp only [Option.bind_some]
 by_cases h : openT s = true
 ·refine ⟨s, by simp [h], fun hn => ?_⟩
  constructor
  ·intro hm
   have : s.data.toList = s.data.toList.dropLast ++ [s.data.toList.getLast hn] := (List.dropLast_concat_getLast hn).symm
   rw [this] at hm
   rcases List.mem_append.mp hm with hm | hm
   ·exact hm
   ·exfalso
    have e : s.data.toList.getLast hn = 10 := (List.mem_singleton.mp hm).symm
    have : s.data.toList.getLast? = some 10 := by rw [List.getLast?_eq_some_getLast hn, e]
    simp [openT, this] at h
  ·intro hm; exact (List.dropLast_sublist _).subset hm
 ·have hn : s.data.toList ≠ [] := by intro e; simp [openT, e] at h
  have hp := size_pos hn
  have w : wrap64 ((s.size : Int) - 1) = ((s.size - 1 : Nat) : Int) := by unfold wrap64; omega
  have h' : openT s = false := by simpa using h
  rw [h', h1, w]
  simp only [Bool.not_false, if_true]
  rw [if_pos (by omega), if_pos (by omega), Int.toNat_natCast]
  refine ⟨_, rfl, fun _ => ?_⟩
  rw [ext_list, List.drop_zero, List.dropLast_eq_take, data_length]
theorem linesright_val {s : ByteArray} (hb : s.size < 4611686018427387904) : lines_Right.f s = some (rightT s) := by
 unfold lines_Right.f
 by_cases h : s.data.toList = []
 ·rw [if_pos (toList_nil.mpr h)]
  simp [rightT, h]
 ·rw [if_neg (fun e => h (toList_nil.mp e))]
  obtain ⟨t, ht, hm⟩ := trim_val hb
  rw [ht]
  have : strings_Contains.f t ⟨#[10]⟩ = some (decide (10 ∈ t.data.toList)) := by simp [strings_Contains.f]
  simp only [Option.bind_some, this, rightT]
  congr 1
  by_cases c : 10 ∈ t.data.toList
  ·simp [c, (hm h).mp c]
  ·have c2 : 10 ∉ s.data.toList.dropLast := fun e => c ((hm h).mpr e)
   simp [c, c2, h]
end Go.Proofs.YtkiklmmpflndbaaDoor.P
namespace Go.Proofs.YtkiklmmpflndbaaDoor.P
open Go.RowKit Go.Proofs.YtkiklmmpflndbaaDoorW.PrintWords Go.Proofs.YtkiklmmpflndbaaDoorW.PrintLast Go.Proofs.YtkiklmmpflndbaaDoorW.PrintMore
attribute [local go_sem] max2_int min2_int max_two min_two max_three min_three max_four min_four
set_option maxHeartbeats 8000000 in
set_option maxRecDepth 100000 in
theorem patchworkref1_Join.calls (k : Nat) (A0 : Option Addr) (c0 : Nat) (l0 : List ByteArray) (r : ByteArray) (w : World) (hr0 : Kd.C Kd.string w A0 l0.length l0) (hc0 : l0.length ≤ c0) (h : patchworkref1_Join.f k l0 = some r) :
  Calls Tryd.prog 11 #[.slice A0 l0.length c0] w fun e w' => e = .returned (.string r) ∧ Below w.heap.size w w' := by
 have HR0 := Aside0.mk hr0
 have HC0 := Aside0.mk hc0
 clear hr0 hc0
 have HB := Aside0.mk (Below.refl w.heap.size w)
 have H : (patchworkref1_Join.l0 k l0 ([] : List Int) 0) = some r := h
 clear h
 have H' := Aside0.mk H
 clear H
 go_enter Tryd.func11, Tryd.ntmps11
 go_wp2
 go_loopg [3, 4] k (fun kq v3 v4 w' => ∃ (x3_1 : List Int) (x4_1 : Int), v4 = .int .i64 x4_1 ∧ Aside0 (patchworkref1_Join.l0 kq l0 x3_1 x4_1 = some r) ∧ Aside0 (kq ≤ k) ∧ Aside0 (Kd.R (Kd.int .u8) 5 w' w.heap.size (fun _ => True) v3 x3_1) ∧ Aside0 (Below w.heap.size w w'))
 case atStart => exact ⟨(([] : List Int)), (0), yE, H', ⟨Nat.le_refl _⟩, ⟨by first | exact Kd.R_nil _ _ _ _ _ | exact Kd.N_nil _ _ _ _ _ | exact Kd.V_nil _ _ _ _ _ | exact Kd.Q_nil _ _ _ _ _ | exact Kd.S_nil _ _ _ _ _⟩, ⟨yB⟩⟩
 case round =>
  clear H'; (try clear c1); obtain ⟨x3_1, x4_1, rfl, HA, HK1, HO_3, HB⟩ := hrel; cases gk with
  | zero => exact absurd HA.out (by simp [patchworkref1_Join.l0])
  | succ k1 =>
   have H := HA.out; clear HA; simp only [patchworkref1_Join.l0] at H
   by_cases c2 : x4_1 < (l0.length : Int)
   ·rw [if_pos c2] at H
    have c2b0 := decide_eq_true c2; clear c2
    by_cases c3 : 0 ≤ x4_1
    ·rw [if_pos c3] at H
     have c3b0 := decide_eq_true c3; clear c3
     by_cases c4 : x3_1.length + (rdOf ByteArray.empty l0 x4_1).size < 140737488355328
     ·rw [if_pos c4] at H
      have LMc4 := Aside0.mk c4; clear c4; obtain ⟨y249, hy249⟩ : ∃ y_ : List Int, y_ = (x3_1 ++ bytesOf (rdOf ByteArray.empty l0 x4_1)) := ⟨_, rfl⟩; replace H : (patchworkref1_Join.l0 k1 l0 y249 (wrap64 (x4_1 + 1))) = some r := yN hy249 H
      have Ny249 := Aside0.mk hy249; clear hy249; have H' := Aside0.mk H; clear H; have p248 : 0 ≤ (x4_1 : Int) := yO; have q248 : x4_1 < (l0.length : Int) := yO; obtain ⟨ad248, e248, hx248_0⟩ := Kd.at_string HR0.out x4_1 p248 q248; cases e248; replace hx248_0 := (HB.out.cell (World.block_lt_of_cell? w _ hx248_0)).trans hx248_0; replace p248 := eq_true p248; replace q248 := eq_true q248
      go_wp2_with (first | (at_builtin; refine print_append_str (w0 := w) w.heap.size rfl (.tmp 11) _ 43 9 5 rfl Tryd.underlying43 Tryd.underlying9 info5 u3 x3_1 (rdOf ByteArray.empty l0 x4_1) rfl rfl ?aO ?aB ?aS ?aL ?_; (case aB => exact yB); (case aO => exact (Kd.own_of_R (yH HO_3.out))); (case aS => exact yW); (case aL => have := LMc4.out; omega); intro v250 w5 ho0 hb hg; have ho := Kd.R_of_own (h1 := fun _ => rfl) (ok := fun _ => True) ho0 (fun _ _ => trivial); clear ho0; have hat := True.intro; rw [← Ny249.out] at ho; change Kd.R (Kd.int .u8) 5 w5 w.heap.size (fun _ => True) v250 y249 at ho; have n0_ := Aside0.mk (hb); have n1_ := Aside0.mk (ho); clear HB; clear HO_3; have HB := n0_; have HO251 := n1_; clear n0_ n1_; clear ho hb hg hat))
      go_roundg k1
      case measure => have := HK1.out; omega
      case rel => exact ⟨(y249), (wrap64 (x4_1 + 1)), yE, H', ⟨by have := HK1.out; omega⟩, ⟨yH HO251.out⟩, ⟨yB⟩⟩
     ·rw [if_neg c4] at H
      exact absurd H (by simp)
    ·rw [if_neg c3] at H
     exact absurd H (by simp)
   ·rw [if_neg c2] at H
    have c2b0 := decide_eq_false c2; clear c2; obtain rfl := Option.some.inj H; have hcv6 := own_string (P := Tryd.prog) Tryd.underlying43 Tryd.underlying5 Tryd.underlying9 (Kd.own_of_R HO_3.out)
    go_wp2
    go_ret
    exact ⟨yE2, yB⟩
end Go.Proofs.YtkiklmmpflndbaaDoor.P
namespace Go.Proofs.YtkiklmmpflndbaaDoor.P
open Go.RowKit Go.Proofs.YtkiklmmpflndbaaDoorW.PrintWords Go.Proofs.YtkiklmmpflndbaaDoorW.PrintLast Go.Proofs.YtkiklmmpflndbaaDoorW.PrintMore
def okOne (o : Op) : Bool := if o.f0 = 1 then (decide (1 ≤ o.f1) && (decide (o.f1 ≤ 2147483648) && decide (o.f2.data.toList = []))) else (decide (o.f0 = 2 ∨ o.f0 = 3 ∨ o.f0 = 4) && (decide (o.f1 = 0) && rightT o.f2))
def cnt (c : Int) (o : Op) : Nat := if o.f0 = 1 then o.f1.toNat else if o.f0 = 2 ∨ o.f0 = c then 1 else 0
def sums (c : Int) (l : List Op) : Nat := (l.map (cnt c)).sum
def far : Int := 1099511627776
def capd (c : Int) (l : List Op) : Int := min (sums c l : Int) far
def closedGo (c : Int) : Bool → List Op → Bool
 | _, [] => true
 | e, o :: l => if o.f0 = 1 ∨ o.f0 = 2 ∨ o.f0 = c then (if e = true then false else closedGo c (decide (o.f0 ≠ 1) && openT o.f2) l) else closedGo c e l
def rightL (l : List Op) : Bool := l.all okOne && (decide (capd 3 l ≤ 2147483648) && (decide (capd 4 l ≤ 2147483648) && (closedGo 3 false l && closedGo 4 false l)))
def Sm (l : List Op) : Prop := l.length < 4398046511104 ∧ ∀ o ∈ l, o.f2.size < 4611686018427387904
theorem Sm.mid {p s : List Op} {o : Op} (h : Sm (p ++ o :: s)) : o.f2.size < 4611686018427387904 := h.2 o (by simp)
theorem Sm.len {p s : List Op} {o : Op} (h : Sm (p ++ o :: s)) : p.length < 4398046511104 := by have := h.1; simp at this; omega
theorem Sm.nil : Sm [] := ⟨by simp, by simp⟩
theorem Sm.snoc {p s : List Op} {o : Op} (h : Sm (p ++ o :: s)) : Sm ((p ++ [o]) ++ s) := by rw [List.append_assoc]; exact h
theorem sums_app (c : Int) (p q : List Op) : sums c (p ++ q) = sums c p + sums c q := by simp [sums]
theorem sums_nil (c : Int) : sums c [] = 0 := rfl
theorem sums_cons (c : Int) (o : Op) (q : List Op) : sums c (o :: q) = cnt c o + sums c q := by simp [sums]
theorem capd_nil (c : Int) : capd c [] = 0 := by unfold capd far; rw [sums_nil]; omega
theorem capd_snoc (c : Int) (p : List Op) (o : Op) : capd c (p ++ [o]) = min (capd c p + (cnt c o : Int)) far := by
 unfold capd far
 rw [sums_app, sums_cons, sums_nil]
 omega
theorem capd_bd (c : Int) (p : List Op) : 0 ≤ capd c p ∧ capd c p ≤ far := by unfold capd far; omega
theorem one_val {o : Op} (hb : o.f2.size < 4611686018427387904) : ops_one.f o.f0 o.f1 o.f2 = some (okOne o) := by
 unfold ops_one.f okOne
 by_cases h1 : o.f0 = 1
 ·rw [if_pos h1, if_pos h1]
  by_cases h2 : o.f1 ≥ 1
  ·rw [if_pos h2]
   by_cases h3 : o.f1 ≤ 2147483648
   ·rw [if_pos h3]
    have h2' : 1 ≤ o.f1 := h2
    rw [Lib.toList_data]
    generalize o.f2.data.toList = z
    by_cases h4 : z = [] <;> simp [h2', h3, h4]
   ·rw [if_neg h3]; simp [h3]
  ·rw [if_neg h2]; simp; omega
 ·rw [if_neg h1, if_neg h1, linesright_val hb]
  by_cases h2 : o.f0 = 2
  ·rw [if_pos h2]
   by_cases h3 : o.f1 = 0
   ·rw [if_pos h3]; simp [h2, h3]
   ·rw [if_neg h3]; simp [h3]
  ·rw [if_neg h2]
   unfold ops_Change.f
   by_cases h4 : o.f0 = 3
   ·rw [if_pos h4]
    simp only [Option.bind_some, if_true]
    by_cases h3 : o.f1 = 0
    ·rw [if_pos h3]; simp [h4, h3]
    ·rw [if_neg h3]; simp [h3]
   ·rw [if_neg h4]
    simp only [Option.bind_some]
    by_cases h5 : o.f0 = 4
    ·rw [if_pos (by simpa using h5)]
     by_cases h3 : o.f1 = 0
     ·rw [if_pos h3]; simp [h5, h3]
     ·rw [if_neg h3]; simp [h3]
    ·rw [if_neg (by simpa using h5)]; simp [h2, h4, h5]
theorem contains_loop (s : List Op) : ∀ (p : List Op), Sm (p ++ s) → Ev (fun k => slices_IndexFunc_Op_ops_Right_1.l0 k (p ++ s) ((p ++ s).length : Int) (p.length : Int)) (if s.all okOne then (-1) else (p.length + (s.takeWhile okOne).length : Int)) := by
 induction s with
 | nil =>
  intro p _
  refine Ev.step (fun k => rfl) ?_
  simp only [slices_IndexFunc_Op_ops_Right_1.l0, lt_end, if_false, List.all_nil, if_true]
  exact Ev.now _
 | cons o s ih =>
  intro p hb
  have := ih (p ++ [o]) hb.snoc
  rw [List.append_assoc, List.singleton_append] at this
  refine Ev.step (fun k => rfl) ?_
  simp only [slices_IndexFunc_Op_ops_Right_1.l0, lt_mid, nn_nat, if_true, rdOp_mid, ops_Right_1.f, one_val hb.mid, Option.bind_some]
  cases ho : okOne o
  ·simp only [Bool.not_false, if_true, List.all_cons, ho, Bool.false_and, Bool.false_eq_true, if_false, List.takeWhile_cons]
   simpa using Ev.now _
  ·simp only [Bool.not_true, Bool.false_eq_true, if_false, List.all_cons, ho, Bool.true_and, List.takeWhile_cons, if_true]
   rw [wrap_len p o (by have := hb.len; omega)]
   have e : ((p.length : Int) + ((o :: s.takeWhile okOne).length : Int)) = (((p ++ [o]).length : Int) + ((s.takeWhile okOne).length : Int)) := by simp; omega
   rw [e]
   exact this
theorem contains_ev {l : List Op} (h : Sm l) : Ev (fun k => slices_ContainsFunc_Op_ops_Right_1.f k l) (!l.all okOne) := by
 have := contains_loop l [] h
 simp only [List.nil_append, List.length_nil, Int.natCast_zero] at this
 refine Ev.bind' this ?_
 cases ha : l.all okOne
 ·simp only [Bool.false_eq_true, if_false, Bool.not_false]
  rw [show (decide ((0 : Int) + ((l.takeWhile okOne).length : Int) ≥ 0)) = true from by simp]
  exact Ev.now _
 ·simp only [if_true, Bool.not_true]
  exact Ev.now _
theorem mn_min (a b : Int) : mn a b = min a b := by unfold mn; omega
theorem mx_max (a b : Int) : mx a b = max a b := by unfold mx; omega
theorem count_loop (c : Int) (hc : c ≠ 1) (s : List Op) : ∀ (p : List Op), Sm (p ++ s) → Ev (fun k => ops_count.l0 k c (capd c p) (p ++ s) ((p ++ s).length : Int) (p.length : Int)) (capd c (p ++ s)) := by
 induction s with
 | nil =>
  intro p _
  refine Ev.step (fun k => rfl) ?_
  simp only [ops_count.l0, lt_end, if_false]
  rw [List.append_nil]
  exact Ev.now _
 | cons o s ih =>
  intro p hb
  have := ih (p ++ [o]) hb.snoc
  rw [List.append_assoc, List.singleton_append] at this
  have hcb := capd_bd c p
  unfold far at hcb
  rw [capd_snoc] at this
  refine Ev.step (fun k => rfl) ?_
  simp only [ops_count.l0, lt_mid, nn_nat, if_true, rdOp_mid, wrap_len p o (by have := hb.len; omega)]
  by_cases h1 : o.f0 = 1
  ·simp only [if_pos h1]
   have e : mn (wrap64 (capd c p + mx 0 (mn o.f1 1099511627776))) 1099511627776 = min (capd c p + (cnt c o : Int)) far := by
    rw [mn_min, mx_max, mn_min, show cnt c o = o.f1.toNat from by simp [cnt, h1]]
    unfold far wrap64; omega
   rw [e]; exact this
  ·simp only [if_neg h1]
   by_cases h2 : o.f0 = 2
   ·simp only [if_pos h2]
    have e : mn (wrap64 (capd c p + 1)) 1099511627776 = min (capd c p + (cnt c o : Int)) far := by
     rw [mn_min, show cnt c o = 1 from by simp [cnt, h2]]
     unfold far wrap64; omega
    rw [e]; exact this
   ·simp only [if_neg h2]
    by_cases h3 : o.f0 = c
    ·simp only [if_pos h3]
     have e : mn (wrap64 (capd c p + 1)) 1099511627776 = min (capd c p + (cnt c o : Int)) far := by
      rw [mn_min, show cnt c o = 1 from by simp [cnt, h3, hc]]
      unfold far wrap64; omega
     rw [e]; exact this
    ·simp only [if_neg h3]
     have e : mn (capd c p) 1099511627776 = min (capd c p + (cnt c o : Int)) far := by
      rw [mn_min, show cnt c o = 0 from by simp [cnt, h1, h2, h3]]
      unfold far; omega
     rw [e]; exact this
theorem olds_ev {l : List Op} (h : Sm l) : Ev (fun k => ops_Olds.f k l) (capd 3 l) := by
 have := count_loop 3 (by decide) l [] h
 rw [capd_nil] at this
 simp only [List.nil_append, List.length_nil, Int.natCast_zero] at this
 exact Ev.bind' this (Ev.now _)
theorem news_ev {l : List Op} (h : Sm l) : Ev (fun k => ops_News.f k l) (capd 4 l) := by
 have := count_loop 4 (by decide) l [] h
 rw [capd_nil] at this
 simp only [List.nil_append, List.length_nil, Int.natCast_zero] at this
 exact Ev.bind' this (Ev.now _)
theorem old_kind (x : Int) : ops_Old.f x = some (decide (x = 1 ∨ x = 2 ∨ x = 3)) := by
 unfold ops_Old.f
 by_cases h1 : x = 1
 ·simp [h1]
 ·by_cases h2 : x = 2
  ·simp [h2]
  ·by_cases h3 : x = 3 <;> simp [h1, h2, h3]
theorem new_kind (x : Int) : ops_New.f x = some (decide (x = 1 ∨ x = 2 ∨ x = 4)) := by
 unfold ops_New.f
 by_cases h1 : x = 1
 ·simp [h1]
 ·by_cases h2 : x = 2
  ·simp [h2]
  ·by_cases h3 : x = 4 <;> simp [h1, h2, h3]
theorem closedOld_loop (s : List Op) : ∀ (p : List Op) (e : Bool), Sm (p ++ s) → Ev (fun k => ops_closed_ops_Old.l0 k e (p ++ s) ((p ++ s).length : Int) (p.length : Int)) (closedGo 3 e s) := by
 induction s with
 | nil =>
  intro p e _
  refine Ev.step (fun k => rfl) ?_
  simp only [ops_closed_ops_Old.l0, lt_end, if_false, closedGo]
  exact Ev.now _
 | cons o s ih =>
  intro p e hb
  have := fun e => ih (p ++ [o]) e hb.snoc
  rw [List.append_assoc, List.singleton_append] at this
  refine Ev.step (fun k => rfl) ?_
  simp only [ops_closed_ops_Old.l0, lt_mid, nn_nat, if_true, rdOp_mid, wrap_len p o (by have := hb.len; omega), old_kind, Option.bind_some, decide_eq_true_eq, closed_val hb.mid]
  by_cases h : o.f0 = 1 ∨ o.f0 = 2 ∨ o.f0 = 3
  ·simp only [if_pos h, closedGo]
   cases e
   ·simp only [Bool.false_eq_true, if_false]
    by_cases h1 : o.f0 = 1
    ·simp only [if_pos h1]
     simpa [h1] using this false
    ·simp only [if_neg h1, Bool.not_not]
     simpa [h1] using this (openT o.f2)
   ·simp only [if_true]
    exact Ev.now _
  ·simp only [if_neg h, closedGo]
   exact this e
theorem closedNew_loop (s : List Op) : ∀ (p : List Op) (e : Bool), Sm (p ++ s) → Ev (fun k => ops_closed_ops_New.l0 k e (p ++ s) ((p ++ s).length : Int) (p.length : Int)) (closedGo 4 e s) := by
 induction s with
 | nil =>
  intro p e _
  refine Ev.step (fun k => rfl) ?_
  simp only [ops_closed_ops_New.l0, lt_end, if_false, closedGo]
  exact Ev.now _
 | cons o s ih =>
  intro p e hb
  have := fun e => ih (p ++ [o]) e hb.snoc
  rw [List.append_assoc, List.singleton_append] at this
  refine Ev.step (fun k => rfl) ?_
  simp only [ops_closed_ops_New.l0, lt_mid, nn_nat, if_true, rdOp_mid, wrap_len p o (by have := hb.len; omega), new_kind, Option.bind_some, decide_eq_true_eq, closed_val hb.mid]
  by_cases h : o.f0 = 1 ∨ o.f0 = 2 ∨ o.f0 = 4
  ·simp only [if_pos h, closedGo]
   cases e
   ·simp only [Bool.false_eq_true, if_false]
    by_cases h1 : o.f0 = 1
    ·simp only [if_pos h1]
     simpa [h1] using this false
    ·simp only [if_neg h1, Bool.not_not]
     simpa [h1] using this (openT o.f2)
   ·simp only [if_true]
    exact Ev.now _
  ·simp only [if_neg h, closedGo]
   exact this e
theorem right_ev {l : List Op} (h : Sm l) : Ev (fun k => ops_Right.f k l) (rightL l) := by
 refine Ev.bind' (contains_ev h) ?_
 unfold rightL
 cases ha : l.all okOne
 ·simp only [Bool.not_false, if_true, Bool.false_and]; exact Ev.now _
 simp only [Bool.not_true, Bool.false_eq_true, if_false, Bool.true_and]
 refine Ev.bind' (olds_ev h) ?_
 by_cases h1 : capd 3 l ≤ 2147483648
 ·simp only [h1, if_true, decide_true, Bool.true_and]
  refine Ev.bind' (news_ev h) ?_
  by_cases h2 : capd 4 l ≤ 2147483648
  ·simp only [h2, if_true, decide_true, Bool.true_and]
   refine Ev.bind' (closedOld_loop l [] false h) ?_
   cases hc : closedGo 3 false l
   ·simp only [Bool.false_eq_true, if_false, Bool.false_and]; exact Ev.now _
   ·simp only [if_true, Bool.true_and]
    exact Ev.bind' (closedNew_loop l [] false h) (Ev.now _)
  ·simp only [h2, if_false, decide_false, Bool.false_and]; exact Ev.now _
 ·simp only [h1, if_false, decide_false, Bool.false_and]; exact Ev.now _
end Go.Proofs.YtkiklmmpflndbaaDoor.P
namespace Go.Proofs.YtkiklmmpflndbaaDoor.P
open Go.RowKit Go.Proofs.YtkiklmmpflndbaaDoorW.PrintWords Go.Proofs.YtkiklmmpflndbaaDoorW.PrintLast Go.Proofs.YtkiklmmpflndbaaDoorW.PrintMore
inductive U where
 | skip
 | keep (t : ByteArray)
 | del (t : ByteArray)
 | ins (t : ByteArray)
def exO (o : Op) : List U := if o.f0 = 1 then List.replicate o.f1.toNat .skip else if o.f0 = 2 then [.keep o.f2] else if o.f0 = 3 then [.del o.f2] else [.ins o.f2]
def ex (l : List Op) : List U := l.flatMap exO
def opU : U → Op
 | .skip => ⟨1, 1, ByteArray.empty⟩
 | .keep t => ⟨2, 0, t⟩
 | .del t => ⟨3, 0, t⟩
 | .ins t => ⟨4, 0, t⟩
def put : U → List Op → List Op
 | .skip, o :: r => if o.f0 = 1 then ⟨1, o.f1 + 1, o.f2⟩ :: r else ⟨1, 1, ByteArray.empty⟩ :: o :: r
 | u, r => opU u :: r
def pack : List U → List Op
 | [] => []
 | x :: u => put x (pack u)
def nf (I : List U) : List U → List U
 | [] => I
 | .ins t :: u => nf (I ++ [.ins t]) u
 | .del t :: u => .del t :: nf I u
 | .keep t :: u => I ++ .keep t :: nf [] u
 | .skip :: u => I ++ .skip :: nf [] u
theorem ex_nil : ex [] = [] := rfl
theorem ex_cons (o : Op) (l : List Op) : ex (o :: l) = exO o ++ ex l := rfl
theorem ex_app (p q : List Op) : ex (p ++ q) = ex p ++ ex q := by simp [ex]
def isSkip : U → Bool
 | .skip => true
 | _ => false
theorem put_ne {x : U} (h : isSkip x = false) (r : List Op) : put x r = opU x :: r := by
 cases x <;> first | (simp [isSkip] at h; done) | rfl
theorem pack_app_ne : ∀ (p q : List U), (∀ x ∈ p, isSkip x = false) → pack (p ++ q) = p.map opU ++ pack q
 | [], q, _ => rfl
 | x :: p, q, h => by
  simp only [List.cons_append, pack, List.map_cons]
  rw [put_ne (h x (List.mem_cons_self ..)), pack_app_ne p q fun y hy => h y (List.mem_cons_of_mem _ hy)]
def NoSk (l : List Op) : Prop := ∀ o r, l = o :: r → o.f0 ≠ 1
def NoSkU (u : List U) : Prop := ∀ x r, u = x :: r → isSkip x = false
theorem opU_kind {x : U} (h : isSkip x = false) : (opU x).f0 ≠ 1 := by
 cases x <;> first | (simp [isSkip] at h; done) | simp [opU]
theorem NoSkU.pack {u : List U} (h : NoSkU u) : NoSk (pack u) := by
 intro o r e
 cases u with
 | nil => simp [P.pack] at e
 | cons x u =>
  have hx := h x u rfl
  rw [P.pack, put_ne hx] at e
  obtain ⟨rfl, _⟩ := List.cons.inj e
  exact opU_kind hx
theorem pack_skips : ∀ (n : Nat) (u : List U), NoSkU u → pack (List.replicate (n + 1) .skip ++ u) = ⟨1, (n + 1 : Nat), ByteArray.empty⟩ :: pack u
 | 0, u, h => by
  have := h.pack
  show put .skip (pack u) = _
  cases hp : pack u with
  | nil => rfl
  | cons o r =>
   have hk := this o r hp
   simp [put, hk]
 | n + 1, u, h => by
  rw [List.replicate_succ, List.cons_append, pack, pack_skips n u h]
  simp [put]
def delsU (u : List U) : List U := u.filter fun x => match x with | .del _ => true | _ => false
def inssU (u : List U) : List U := u.filter fun x => match x with | .ins _ => true | _ => false
def isCh : U → Bool
 | .del _ => true
 | .ins _ => true
 | _ => false
theorem nf_run : ∀ (d I u : List U), (∀ x ∈ d, isCh x = true) → nf I (d ++ u) = delsU d ++ nf (I ++ inssU d) u
 | [], I, u, _ => by simp [delsU, inssU]
 | x :: d, I, u, h => by
  have hx := h x (List.mem_cons_self ..)
  have i := fun I => nf_run d I u fun y hy => h y (List.mem_cons_of_mem _ hy)
  cases x with
  | skip => simp [isCh] at hx
  | keep t => simp [isCh] at hx
  | del t => simp only [List.cons_append, nf]; rw [i]; rfl
  | ins t =>
   simp only [List.cons_append, nf]
   rw [i, List.append_assoc]; rfl
theorem nf_noSk : ∀ (u I : List U), (∀ x ∈ I, isSkip x = false) → (I = [] → NoSkU u) → NoSkU (nf I u)
 | [], I, h, _ => by
  intro x r e
  rw [nf] at e
  exact h x (by rw [e]; exact List.mem_cons_self ..)
 | .ins t :: u, I, h, _ => by
  rw [nf]
  refine nf_noSk u (I ++ [.ins t]) (fun x hx => ?_) (fun e => by simp at e)
  rcases List.mem_append.mp hx with hx | hx
  ·exact h x hx
  ·rw [List.mem_singleton.mp hx]; rfl
 | .del t :: u, I, h, _ => by
  intro x r e
  rw [nf] at e
  obtain ⟨rfl, _⟩ := List.cons.inj e
  rfl
 | .keep t :: u, I, h, _ => by
  intro x r e
  rw [nf] at e
  cases I with
  | nil => obtain ⟨rfl, _⟩ := List.cons.inj e; rfl
  | cons y I => obtain ⟨rfl, _⟩ := List.cons.inj e; exact h _ (List.mem_cons_self ..)
 | .skip :: u, I, h, h0 => by
  intro x r e
  rw [nf] at e
  cases I with
  | nil => exact absurd (h0 rfl .skip u rfl) (by simp [isSkip])
  | cons y I => obtain ⟨rfl, _⟩ := List.cons.inj e; exact h _ (List.mem_cons_self ..)
theorem exO_opU {x : U} : exO (opU x) = [x] := by cases x <;> simp [exO, opU]
theorem pack_pos : ∀ (u : List U), ∀ o ∈ pack u, o.f0 = 1 → 1 ≤ o.f1 ∧ o.f2 = ByteArray.empty
 | [], o, ho => by simp [pack] at ho
 | x :: u, o, ho => by
  have ih := pack_pos u
  rw [pack] at ho
  cases x with
  | skip =>
   cases hp : pack u with
   | nil =>
    rw [hp] at ho
    simp [put, opU] at ho
    subst ho; simp
   | cons y r =>
    rw [hp] at ho ih
    by_cases hy : y.f0 = 1
    ·simp only [put, if_pos hy] at ho
     rcases List.mem_cons.mp ho with rfl | ho
     ·have := ih y (List.mem_cons_self ..) hy
      intro _
      exact ⟨by show 1 ≤ y.f1 + 1; omega, this.2⟩
     ·exact ih o (List.mem_cons_of_mem _ ho)
    ·simp only [put, if_neg hy] at ho
     rcases List.mem_cons.mp ho with rfl | ho
     ·intro _; simp
     ·exact ih o ho
  | keep t =>
   rw [put_ne rfl] at ho
   rcases List.mem_cons.mp ho with rfl | ho
   ·intro h; simp [opU] at h
   ·exact ih o ho
  | del t =>
   rw [put_ne rfl] at ho
   rcases List.mem_cons.mp ho with rfl | ho
   ·intro h; simp [opU] at h
   ·exact ih o ho
  | ins t =>
   rw [put_ne rfl] at ho
   rcases List.mem_cons.mp ho with rfl | ho
   ·intro h; simp [opU] at h
   ·exact ih o ho
theorem ex_pack : ∀ (u : List U), ex (pack u) = u
 | [] => rfl
 | x :: u => by
  have ih := ex_pack u
  rw [pack]
  by_cases hx : isSkip x = false
  ·rw [put_ne hx, ex_cons, exO_opU, ih]; rfl
  ·cases x with
   | skip =>
    cases hp : pack u with
    | nil =>
     rw [hp] at ih
     rw [show put .skip [] = [opU .skip] from rfl, ex_cons, exO_opU, ih]; rfl
    | cons y r =>
     rw [hp] at ih
     by_cases hy : y.f0 = 1
     ·have := (pack_pos u y (by rw [hp]; exact List.mem_cons_self ..) hy).1
      simp only [put, if_pos hy]
      rw [ex_cons] at ih ⊢
      have e1 : exO y = List.replicate y.f1.toNat .skip := by simp [exO, hy]
      have e2 : exO ⟨1, y.f1 + 1, y.f2⟩ = .skip :: List.replicate y.f1.toNat .skip := by
       simp only [exO, if_true]
       rw [show (y.f1 + 1).toNat = y.f1.toNat + 1 from by omega, List.replicate_succ]
      rw [e2, ← e1, List.cons_append, ih]
     ·simp only [put, if_neg hy]
      rw [ex_cons, show (⟨1, 1, ByteArray.empty⟩ : Op) = opU .skip from rfl, exO_opU, ih]; rfl
   | keep t => exact absurd rfl hx
   | del t => exact absurd rfl hx
   | ins t => exact absurd rfl hx
def olds : List U → List (Option ByteArray)
 | [] => []
 | .skip :: u => none :: olds u
 | .keep t :: u => some t :: olds u
 | .del t :: u => some t :: olds u
 | .ins _ :: u => olds u
def news : List U → List (Option ByteArray)
 | [] => []
 | .skip :: u => none :: news u
 | .keep t :: u => some t :: news u
 | .del _ :: u => news u
 | .ins t :: u => some t :: news u
theorem olds_app : ∀ (p q : List U), olds (p ++ q) = olds p ++ olds q
 | [], _ => rfl
 | x :: p, q => by cases x <;> simp [olds, olds_app p q]
theorem news_app : ∀ (p q : List U), news (p ++ q) = news p ++ news q
 | [], _ => rfl
 | x :: p, q => by cases x <;> simp [news, news_app p q]
def AllIns (I : List U) : Prop := ∀ x ∈ I, ∃ t, x = .ins t
theorem AllIns.nil : AllIns [] := fun x h => by simp at h
theorem AllIns.snoc {I : List U} (h : AllIns I) (t : ByteArray) : AllIns (I ++ [.ins t]) := by
 intro x hx
 rcases List.mem_append.mp hx with hx | hx
 ·exact h x hx
 ·exact ⟨t, List.mem_singleton.mp hx⟩
theorem AllIns.olds : ∀ {I : List U}, AllIns I → olds I = []
 | [], _ => rfl
 | x :: I, h => by
  obtain ⟨t, rfl⟩ := h x (List.mem_cons_self ..)
  rw [P.olds]
  exact AllIns.olds (I := I) fun y hy => h y (List.mem_cons_of_mem _ hy)
end Go.Proofs.YtkiklmmpflndbaaDoor.P
namespace Go.Proofs.YtkiklmmpflndbaaDoor.P
open Go.RowKit Go.Proofs.YtkiklmmpflndbaaDoorW.PrintWords Go.Proofs.YtkiklmmpflndbaaDoorW.PrintLast Go.Proofs.YtkiklmmpflndbaaDoorW.PrintMore
theorem some_loop (c : Int) (s : List Op) : ∀ (p out : List Op), Sm (p ++ s) → out.length + s.length < 4398046511104 → Ev (fun k => ops_Some.l0 k c out (p ++ s) ((p ++ s).length : Int) (p.length : Int)) (out ++ s.filter fun o => decide (o.f0 = c)) := by
 induction s with
 | nil =>
  intro p out _ _
  refine Ev.step (fun k => rfl) ?_
  simp only [ops_Some.l0, lt_end, if_false]
  simpa using Ev.now out
 | cons o s ih =>
  intro p out hb hl
  simp only [List.length_cons] at hl
  have i := fun out h => ih (p ++ [o]) out hb.snoc h
  rw [List.append_assoc, List.singleton_append] at i
  have hlo : out.length < 4398046511104 := by omega
  refine Ev.step (fun k => rfl) ?_
  simp only [ops_Some.l0, lt_mid, nn_nat, if_true, rdOp_mid, wrap_len p o (by have := hb.len; omega), if_pos hlo]
  by_cases h : o.f0 = c
  ·simp only [if_pos h]
   have := i (out ++ [o]) (by simp; omega)
   rw [List.filter_cons_of_pos (by simpa using h)]
   simpa using this
  ·simp only [if_neg h]
   rw [List.filter_cons_of_neg (by simpa using h)]
   exact i out (by omega)
theorem some_ev (c : Int) {l : List Op} (h : Sm l) : Ev (fun k => ops_Some.f k l c) (l.filter fun o => decide (o.f0 = c)) := by
 have := some_loop c l [] [] h (by simpa using h.1)
 simpa [ops_Some.f] using this
def chO (o : Op) : Bool := decide (o.f0 = 3 ∨ o.f0 = 4)
theorem change_kind (x : Int) : ops_Change.f x = some (decide (x = 3 ∨ x = 4)) := by
 unfold ops_Change.f
 by_cases h1 : x = 3
 ·simp [h1]
 ·by_cases h2 : x = 4 <;> simp [h1, h2]
theorem Sm.sub {p s : List Op} (h : Sm (p ++ s)) : Sm s := ⟨by have := h.1; simp at this; omega, fun o ho => h.2 o (by simp [ho])⟩
theorem Sm.left {p s : List Op} (h : Sm (p ++ s)) : Sm p := ⟨by have := h.1; simp at this; omega, fun o ho => h.2 o (by simp [ho])⟩
theorem norm_run (r : List Op) : ∀ (p s out : List Op) (from_ : Int) (v : List Op), Sm (p ++ (r ++ s)) → (∀ o ∈ r, chO o = true) → (∀ o t, s = o :: t → chO o = false) →
  Ev (fun k => ops_Norm.j2 k (p ++ (r ++ s)) out ((p ++ r).length : Int) from_) v →
  Ev (fun k => ops_Norm.l1 k (p ++ (r ++ s)) out (p.length : Int) from_) v := by
 induction r with
 | nil =>
  intro p s out from_ v hb _ hs h
  rw [List.append_nil, List.nil_append] at h
  rw [List.nil_append]
  refine Ev.step (fun k => rfl) ?_
  cases s with
  | nil =>
   simp only [ops_Norm.l1, lt_end, if_false]
   exact h
  | cons o t =>
   have ho := hs o t rfl
   have ho' : ¬ (o.f0 = 3 ∨ o.f0 = 4) := by simpa [chO] using ho
   simp only [ops_Norm.l1, lt_mid, nn_nat, if_true, rdOp_mid, change_kind, Option.bind_some, ho', decide_false, Bool.false_eq_true, if_false]
   exact h
 | cons o r ih =>
  intro p s out from_ v hb hr hs h
  have ho : chO o = true := hr o (List.mem_cons_self ..)
  have ho' : o.f0 = 3 ∨ o.f0 = 4 := by simpa [chO] using ho
  have i := ih (p ++ [o]) s out from_ v (by simpa using hb) (fun x hx => hr x (List.mem_cons_of_mem _ hx)) hs (by simpa using h)
  rw [List.append_assoc, List.singleton_append] at i
  rw [List.cons_append] at hb ⊢
  refine Ev.step (fun k => rfl) ?_
  simp only [ops_Norm.l1, lt_mid, nn_nat, if_true, rdOp_mid, change_kind, Option.bind_some, ho', decide_true, wrap_len p o (by have := hb.len; omega)]
  exact i
theorem norm_skips (r : List Op) : ∀ (p s out : List Op) (n : Int) (v : List Op), Sm (p ++ (r ++ s)) → out.length < 4398046511104 → (∀ o ∈ r, o.f0 = 1 ∧ 1 ≤ o.f1) → (∀ o t, s = o :: t → o.f0 ≠ 1) → 0 ≤ n → n + (sums 3 r : Int) < 4611686018427387904 →
  Ev (fun k => ops_Norm.l0 k (p ++ (r ++ s)) (out ++ [(⟨1, n + (sums 3 r : Int), ByteArray.empty⟩ : Op)]) ((p ++ r).length : Int)) v →
  Ev (fun k => ops_Norm.l2 k (p ++ (r ++ s)) out (p.length : Int) 1 n ByteArray.empty) v := by
 induction r with
 | nil =>
  intro p s out n v hb hlo _ hs h0 hn h
  rw [List.append_nil, List.nil_append, sums_nil, Int.natCast_zero, Int.add_zero] at h
  rw [List.nil_append]
  refine Ev.step (fun k => rfl) ?_
  cases s with
  | nil =>
   simp only [ops_Norm.l2, lt_end, if_false, if_true, if_pos hlo]
   exact h
  | cons o t =>
   have ho := hs o t rfl
   simp only [ops_Norm.l2, lt_mid, nn_nat, if_true, rdOp_mid, if_neg ho, if_pos hlo]
   exact h
 | cons o r ih =>
  intro p s out n v hb hlo hr hs h0 hn h
  obtain ⟨hk, h1⟩ := hr o (List.mem_cons_self ..)
  have hc : (cnt 3 o : Int) = o.f1 := by simp [cnt, hk]; omega
  rw [sums_cons] at hn h
  have hw : wrap64 (n + o.f1) = n + o.f1 := by unfold wrap64; omega
  have e : n + ((cnt 3 o + sums 3 r : Nat) : Int) = (n + o.f1) + (sums 3 r : Int) := by omega
  rw [e] at h
  have i := ih (p ++ [o]) s out (n + o.f1) v (by simpa using hb) hlo (fun x hx => hr x (List.mem_cons_of_mem _ hx)) hs (by omega) (by omega) (by simpa using h)
  rw [List.append_assoc, List.singleton_append] at i
  rw [List.cons_append] at hb ⊢
  refine Ev.step (fun k => rfl) ?_
  simp only [ops_Norm.l2, lt_mid, nn_nat, if_true, rdOp_mid, if_pos hk, hw, wrap_len p o (by have := hb.len; omega)]
  exact i
theorem okOne_skip {o : Op} (h : okOne o = true) (hk : o.f0 = 1) : 1 ≤ o.f1 ∧ o.f1 ≤ 2147483648 ∧ o.f2 = ByteArray.empty := by
 unfold okOne at h
 rw [if_pos hk] at h
 simp only [Bool.and_eq_true, decide_eq_true_eq] at h
 refine ⟨h.1, h.2.1, WideShapes.bytes_inj ?_⟩
 rw [h.2.2]; rfl
theorem okOne_ne {o : Op} (h : okOne o = true) (hk : o.f0 ≠ 1) : (o.f0 = 2 ∨ o.f0 = 3 ∨ o.f0 = 4) ∧ o.f1 = 0 ∧ rightT o.f2 = true := by
 unfold okOne at h
 rw [if_neg hk] at h
 simpa only [Bool.and_eq_true, decide_eq_true_eq] using h
theorem cut (f : Op → Bool) : ∀ (l : List Op), ∃ r s, l = r ++ s ∧ (∀ o ∈ r, f o = true) ∧ (∀ o t, s = o :: t → f o = false)
 | [] => ⟨[], [], rfl, fun o h => by simp at h, fun o t h => by simp at h⟩
 | o :: l => by
  by_cases ho : f o = true
  ·obtain ⟨r, s, rfl, h1, h2⟩ := cut f l
   refine ⟨o :: r, s, rfl, fun x hx => ?_, h2⟩
   rcases List.mem_cons.mp hx with rfl | hx
   ·exact ho
   ·exact h1 x hx
  ·exact ⟨[], o :: l, rfl, fun x h => by simp at h, fun x t h => by obtain ⟨rfl, _⟩ := List.cons.inj h; simpa using ho⟩
theorem ex_run : ∀ (r : List Op), (∀ o ∈ r, chO o = true ∧ okOne o = true) → (∀ x ∈ ex r, isCh x = true) ∧ (delsU (ex r)).map opU = r.filter (fun o => decide (o.f0 = 3)) ∧ (inssU (ex r)).map opU = r.filter (fun o => decide (o.f0 = 4)) ∧ AllIns (inssU (ex r))
 | [], _ => ⟨fun x h => by simp [ex] at h, rfl, rfl, .nil⟩
 | o :: r, h => by
  obtain ⟨i1, i2, i3, i4⟩ := ex_run r fun x hx => h x (List.mem_cons_of_mem _ hx)
  obtain ⟨hc, ho⟩ := h o (List.mem_cons_self ..)
  have hc' : o.f0 = 3 ∨ o.f0 = 4 := by simpa [chO] using hc
  obtain ⟨_, h1, _⟩ := okOne_ne ho (by omega)
  rw [ex_cons]
  rcases hc' with hk | hk
  ·have e : exO o = [.del o.f2] := by simp [exO, hk]
   have eo : opU (.del o.f2) = o := Op.ext' hk.symm h1.symm rfl
   rw [e]
   refine ⟨fun x hx => ?_, ?_, ?_, ?_⟩
   ·rcases List.mem_cons.mp hx with rfl | hx
    ·rfl
    ·exact i1 x hx
   ·rw [List.filter_cons_of_pos (by simpa using hk), ← i2, ← eo]; rfl
   ·rw [List.filter_cons_of_neg (by simp [hk]), ← i3]; rfl
   ·exact i4
  ·have e : exO o = [.ins o.f2] := by simp [exO, hk]
   have eo : opU (.ins o.f2) = o := Op.ext' hk.symm h1.symm rfl
   rw [e]
   refine ⟨fun x hx => ?_, ?_, ?_, ?_⟩
   ·rcases List.mem_cons.mp hx with rfl | hx
    ·rfl
    ·exact i1 x hx
   ·rw [List.filter_cons_of_neg (by simp [hk]), ← i2]; rfl
   ·rw [List.filter_cons_of_pos (by simpa using hk), ← i3, ← eo]; rfl
   ·intro x hx
    rcases List.mem_cons.mp hx with rfl | hx
    ·exact ⟨_, rfl⟩
    ·exact i4 x hx
theorem ex_skips : ∀ (r : List Op), (∀ o ∈ r, o.f0 = 1 ∧ 1 ≤ o.f1) → ex r = List.replicate (sums 3 r) .skip
 | [], _ => rfl
 | o :: r, h => by
  obtain ⟨hk, _⟩ := h o (List.mem_cons_self ..)
  rw [ex_cons, ex_skips r fun x hx => h x (List.mem_cons_of_mem _ hx), sums_cons, ← List.replicate_append_replicate]
  simp [exO, cnt, hk]
theorem nf_skips : ∀ (n : Nat) (u : List U), nf [] (List.replicate n .skip ++ u) = List.replicate n .skip ++ nf [] u
 | 0, u => rfl
 | n + 1, u => by
  rw [List.replicate_succ, List.cons_append, nf, nf_skips n u]; rfl
theorem ex_noSk : ∀ {s : List Op}, (∀ o t, s = o :: t → o.f0 ≠ 1) → NoSkU (ex s)
 | [], _ => fun x r e => by simp [ex] at e
 | o :: s, h => by
  have := h o s rfl
  intro x r e
  rw [ex_cons] at e
  unfold exO at e
  rw [if_neg this] at e
  split at e
  ·obtain ⟨rfl, _⟩ := List.cons.inj e; rfl
  ·split at e
   ·obtain ⟨rfl, _⟩ := List.cons.inj e; rfl
   ·obtain ⟨rfl, _⟩ := List.cons.inj e; rfl
theorem dels_noSk (u : List U) : ∀ x ∈ delsU u, isSkip x = false := by
 intro x hx
 have := (List.mem_filter.mp hx).2
 cases x <;> simp_all [isSkip]
theorem AllIns.noSk {u : List U} (h : AllIns u) : ∀ x ∈ u, isSkip x = false := by
 intro x hx
 obtain ⟨t, rfl⟩ := h x hx
 rfl
theorem filt_len : ∀ (r : List Op), (r.filter fun o => decide (o.f0 = 3)).length + (r.filter fun o => decide (o.f0 = 4)).length ≤ r.length
 | [] => by simp
 | o :: r => by
  have ih := filt_len r
  by_cases h3 : o.f0 = 3
  ·rw [List.filter_cons_of_pos (by simpa using h3), List.filter_cons_of_neg (by simp [h3])]
   simp only [List.length_cons]; omega
  ·by_cases h4 : o.f0 = 4
   ·rw [List.filter_cons_of_neg (by simpa using h3), List.filter_cons_of_pos (by simpa using h4)]
    simp only [List.length_cons]; omega
   ·rw [List.filter_cons_of_neg (by simpa using h3), List.filter_cons_of_neg (by simpa using h4)]
    simp only [List.length_cons]; omega
theorem norm_loop : ∀ (m : Nat) (s p out : List Op), s.length ≤ m → Sm (p ++ s) → out.length + s.length < 4398046511104 → (∀ o ∈ s, okOne o = true) → (sums 3 s : Int) < 1099511627776 →
  Ev (fun k => ops_Norm.l0 k (p ++ s) out (p.length : Int)) (out ++ pack (nf [] (ex s))) := by
 intro m
 induction m with
 | zero =>
  intro s p out hm _ _ _ _
  obtain rfl : s = [] := List.length_eq_zero_iff.mp (by omega)
  refine Ev.step (fun k => rfl) ?_
  simp only [ops_Norm.l0, lt_end, if_false]
  simpa [ex, nf, pack] using Ev.now out
 | succ m ih =>
  intro s p out hm hb hl hok hsum
  by_cases hs : s = []
  ·subst hs
   refine Ev.step (fun k => rfl) ?_
   simp only [ops_Norm.l0, lt_end, if_false]
   simpa [ex, nf, pack] using Ev.now out
  have hpos : 0 < s.length := List.length_pos_iff.mpr hs
  have g : ((p.length : Int) < ((p ++ s).length : Int)) := by simp; omega
  refine Ev.step (fun k => rfl) ?_
  simp only [ops_Norm.l0, if_pos g]
  obtain ⟨r, t, rfl, hr, ht⟩ := cut chO s
  obtain ⟨x1, x2, x3, x4⟩ := ex_run r fun o ho => ⟨hr o ho, hok o (by simp [ho])⟩
  simp only [List.length_append] at hm hl hpos
  have hlr := filt_len r
  refine norm_run r p t out _ _ hb hr ht ?_
  have hcut : ((p ++ (r ++ t)).take ((p ++ r).length : Int).toNat).drop (p.length : Int).toNat = r := by
   rw [Int.toNat_natCast, Int.toNat_natCast, ← List.append_assoc, List.take_left' rfl, List.drop_left' rfl]
  have hsr : Sm r := hb.sub.left
  have c1 : (0 : Int) ≤ (p.length : Int) := by omega
  have c2 : (p.length : Int) ≤ ((p ++ r).length : Int) := by simp only [List.length_append]; omega
  have c3 : ((p ++ r).length : Int) ≤ ((p ++ (r ++ t)).length : Int) := by simp; omega
  have c4 : out.length + (r.filter fun o => decide (o.f0 = 3)).length < 4398046511104 := by omega
  have c5 : (out ++ r.filter fun o => decide (o.f0 = 3)).length + (r.filter fun o => decide (o.f0 = 4)).length < 4398046511104 := by simp only [List.length_append]; omega
  refine Ev.step (fun k => rfl) ?_
  simp only [ops_Norm.j2, if_pos c1, if_pos c2, if_pos c3, hcut]
  refine Ev.bind' (some_ev 3 hsr) ?_
  simp only [if_pos c4, Option.bind_some]
  refine Ev.bind' (some_ev 4 hsr) ?_
  simp only [if_pos c5]
  have hout : ∀ u, out ++ pack (nf [] (ex (r ++ t))) = u ↔ ((out ++ r.filter fun o => decide (o.f0 = 3)) ++ pack (nf (inssU (ex r)) (ex t))) = u := by
   intro u
   rw [ex_app, nf_run _ _ _ x1, List.nil_append, pack_app_ne _ _ (dels_noSk _), x2, List.append_assoc]
  rw [(hout _).mpr rfl]
  cases t with
  | nil =>
   have c6 : ((p ++ r).length : Int) = ((p ++ (r ++ [])).length : Int) := by simp
   simp only [if_pos c6]
   have e : pack (nf (inssU (ex r)) (ex [])) = r.filter fun o => decide (o.f0 = 4) := by
    rw [ex_nil, nf, ← x3]
    have := pack_app_ne (inssU (ex r)) [] x4.noSk
    rw [List.append_nil, pack, List.append_nil] at this
    exact this
   rw [e]
   exact Ev.now _
  | cons o t =>
   have c6 : ¬ ((p ++ r).length : Int) = ((p ++ (r ++ o :: t)).length : Int) := by simp only [List.length_append, List.length_cons]; omega
   have c7 : (0 : Int) ≤ ((p ++ r).length : Int) := by omega
   have c8 : ((p ++ r).length : Int) < ((p ++ (r ++ o :: t)).length : Int) := by simp; omega
   have hrd : rd_Op (p ++ (r ++ o :: t)) ((p ++ r).length : Int) = o := by
    rw [← List.append_assoc]; exact rdOp_mid (p ++ r) t o
   have hw : wrap64 (((p ++ r).length : Int) + 1) = (((p ++ r) ++ [o]).length : Int) := wrap_len (p ++ r) o (by have := hb.1; simp at this ⊢; omega)
   simp only [if_neg c6, if_pos c7, if_pos c8, hrd, hw]
   have hoo : okOne o = true := hok o (by simp)
   have hco : chO o = false := ht o t rfl
   have hco' : ¬ (o.f0 = 3 ∨ o.f0 = 4) := by simpa [chO] using hco
   have hnI : ∀ x r', nf (inssU (ex r)) (x :: r') = inssU (ex r) ++ nf [] (x :: r') ∨ isCh x = true := by
    intro x r'
    cases x with
    | skip => exact .inl rfl
    | keep t => exact .inl rfl
    | del t => exact .inr rfl
    | ins t => exact .inr rfl
   simp only [List.length_cons] at hm hl
   by_cases hk : o.f0 = 1
   ·obtain ⟨h1, h2, h3⟩ := okOne_skip hoo hk
    obtain ⟨sk, t', rfl, hsk, ht'⟩ := cut (fun o => decide (o.f0 = 1)) t
    have hsk' : ∀ x ∈ sk, x.f0 = 1 ∧ 1 ≤ x.f1 := fun x hx => by
     have e : x.f0 = 1 := by simpa using hsk x hx
     exact ⟨e, (okOne_skip (hok x (by simp [hx])) e).1⟩
    have ht'' : ∀ x y, t' = x :: y → x.f0 ≠ 1 := fun x y e => by simpa using ht' x y e
    rw [sums_app, sums_cons, sums_app, show cnt 3 o = o.f1.toNat from by simp [cnt, hk]] at hsum
    simp only [List.length_append] at hm hl
    have elist : p ++ (r ++ o :: (sk ++ t')) = ((p ++ r) ++ [o]) ++ (sk ++ t') := by simp
    rw [hk, h3, elist]
    rw [elist] at hb
    refine norm_skips sk ((p ++ r) ++ [o]) t' _ o.f1 _ hb (by simp only [List.length_append]; omega) hsk' ht'' (by omega) (by omega) ?_
    have i := ih t' (((p ++ r) ++ [o]) ++ sk) ((out ++ r.filter fun o => decide (o.f0 = 3)) ++ (r.filter fun o => decide (o.f0 = 4)) ++ [⟨1, o.f1 + (sums 3 sk : Int), ByteArray.empty⟩]) (by omega) (by simpa using hb) (by simp only [List.length_append, List.length_cons, List.length_nil]; omega) (fun x hx => hok x (by simp [hx])) (by omega)
    have e2 : pack (nf (inssU (ex r)) (ex (o :: (sk ++ t')))) = (r.filter fun o => decide (o.f0 = 4)) ++ ⟨1, o.f1 + (sums 3 sk : Int), ByteArray.empty⟩ :: pack (nf [] (ex t')) := by
     have e3 : ex (o :: (sk ++ t')) = List.replicate ((o.f1.toNat + sums 3 sk - 1) + 1) .skip ++ ex t' := by
      rw [ex_cons, ex_app, ex_skips sk hsk', ← List.append_assoc, show exO o = List.replicate o.f1.toNat .skip from by simp [exO, hk], List.replicate_append_replicate]
      congr 2; omega
     rw [e3]
     have e4 : nf (inssU (ex r)) (List.replicate ((o.f1.toNat + sums 3 sk - 1) + 1) .skip ++ ex t') = inssU (ex r) ++ nf [] (List.replicate ((o.f1.toNat + sums 3 sk - 1) + 1) .skip ++ ex t') := by
      rw [List.replicate_succ, List.cons_append]; rfl
     rw [e4, nf_skips, pack_app_ne _ _ x4.noSk, x3, pack_skips _ _ (nf_noSk _ _ (fun x hx => by simp at hx) (fun _ => ex_noSk ht''))]
     congr 2
     have : (((o.f1.toNat + sums 3 sk - 1) + 1 : Nat) : Int) = o.f1 + (sums 3 sk : Int) := by omega
     rw [this]
    rw [e2]
    simpa using i
   ·have hk2 : o.f0 = 2 := by
     have := (okOne_ne hoo hk).1
     omega
    have h1 := (okOne_ne hoo hk).2.1
    have elist : p ++ (r ++ o :: t) = ((p ++ r) ++ [o]) ++ t := by simp
    have hlo : ((out ++ r.filter fun o => decide (o.f0 = 3)) ++ (r.filter fun o => decide (o.f0 = 4))).length < 4398046511104 := by simp only [List.length_append]; omega
    rw [sums_app, sums_cons] at hsum
    rw [elist] at hb ⊢
    have i := ih t ((p ++ r) ++ [o]) ((out ++ r.filter fun o => decide (o.f0 = 3)) ++ (r.filter fun o => decide (o.f0 = 4)) ++ [o]) (by omega) hb (by simp only [List.length_append, List.length_cons, List.length_nil]; omega) (fun x hx => hok x (by simp [hx])) (by omega)
    refine Ev.step (fun k => rfl) ?_
    simp only [ops_Norm.l2, if_neg hk, if_pos hlo]
    have e2 : pack (nf (inssU (ex r)) (ex (o :: t))) = (r.filter fun o => decide (o.f0 = 4)) ++ o :: pack (nf [] (ex t)) := by
     have eo : opU (.keep o.f2) = o := Op.ext' hk2.symm h1.symm rfl
     rw [ex_cons, show exO o = [.keep o.f2] from by simp [exO, hk2], List.singleton_append, nf, pack_app_ne _ _ x4.noSk, x3, pack, put_ne rfl, eo]
    rw [e2]
    simpa using i
def normL (l : List Op) : List Op := pack (nf [] (ex l))
theorem rightL_ok {l : List Op} (h : rightL l = true) : (∀ o ∈ l, okOne o = true) ∧ sums 3 l ≤ 2147483648 ∧ sums 4 l ≤ 2147483648 ∧ closedGo 3 false l = true ∧ closedGo 4 false l = true := by
 unfold rightL at h
 simp only [Bool.and_eq_true, decide_eq_true_eq, List.all_eq_true] at h
 obtain ⟨h1, h2, h3, h4, h5⟩ := h
 refine ⟨h1, ?_, ?_, h4, h5⟩
 ·unfold capd far at h2; omega
 ·unfold capd far at h3; omega
theorem norm_ev {l : List Op} (h : Sm l) : Ev (fun k => ops_Norm.f k l) (if rightL l then normL l else []) := by
 refine Ev.bind' (right_ev h) ?_
 cases hr : rightL l
 ·simp only [Bool.false_eq_true, if_false]; exact Ev.now _
 ·simp only [if_true]
  obtain ⟨h1, h2, _⟩ := rightL_ok hr
  exact norm_loop l.length l [] [] (Nat.le_refl _) h (by simpa using h.1) h1 (by omega)
end Go.Proofs.YtkiklmmpflndbaaDoor.P
namespace Go.Proofs.YtkiklmmpflndbaaDoor.P
open Go.RowKit Go.Proofs.YtkiklmmpflndbaaDoorW.PrintWords Go.Proofs.YtkiklmmpflndbaaDoorW.PrintLast Go.Proofs.YtkiklmmpflndbaaDoorW.PrintMore
theorem refold_val (o : Op) : patchworkref8_old.f o.f0 o.f1 o.f2 = some (cnt 3 o : Int) := by
 unfold patchworkref8_old.f cnt
 by_cases h1 : o.f0 = 1
 ·rw [if_pos h1, if_pos h1]
  by_cases h2 : o.f1 > 0
  ·rw [if_pos h2]; congr 1; omega
  ·rw [if_neg h2]; congr 1; omega
 ·rw [if_neg h1, if_neg h1]
  by_cases h2 : o.f0 = 2
  ·simp [h2]
  ·by_cases h3 : o.f0 = 3 <;> simp [h2, h3]
theorem reffresh_val (o : Op) : patchworkref8_fresh.f o.f0 o.f1 o.f2 = some (cnt 4 o : Int) := by
 unfold patchworkref8_fresh.f
 rw [refold_val]
 by_cases h3 : o.f0 = 3
 ·simp [h3, cnt]
 ·by_cases h4 : o.f0 = 4
  ·simp [h4, cnt]
  ·simp [h3, h4, cnt]
theorem plus_val {c : Int} {p : List Op} {n : Nat} : patchworkref8_plus.f (capd c p) (n : Int) = some (min (capd c p + (n : Int)) far) := by
 have := capd_bd c p
 unfold far at *
 unfold patchworkref8_plus.f
 by_cases h1 : capd c p ≥ 1099511627776
 ·rw [if_pos h1]; congr 1; omega
 ·rw [if_neg h1]
  by_cases h2 : (n : Int) ≥ 1099511627776
  ·rw [if_pos h2]; congr 1; omega
  ·rw [if_neg h2, show wrap64 (capd c p + (n : Int)) = capd c p + (n : Int) from by unfold wrap64; omega]
   by_cases h3 : capd c p + (n : Int) > 1099511627776
   ·rw [if_pos h3]; congr 1; omega
   ·rw [if_neg h3]; congr 1; omega
theorem refolds_loop (s : List Op) : ∀ (p : List Op), Sm (p ++ s) → Ev (fun k => patchworkref8_Olds.l0 k (p ++ s) (capd 3 p) (p.length : Int)) (capd 3 (p ++ s)) := by
 induction s with
 | nil =>
  intro p _
  refine Ev.step (fun k => rfl) ?_
  simp only [patchworkref8_Olds.l0, lt_end, if_false]
  rw [List.append_nil]
  exact Ev.now _
 | cons o s ih =>
  intro p hb
  have := ih (p ++ [o]) hb.snoc
  rw [List.append_assoc, List.singleton_append, capd_snoc] at this
  refine Ev.step (fun k => rfl) ?_
  simp only [patchworkref8_Olds.l0, lt_mid, nn_nat, if_true, rdOp_mid, wrap_len p o (by have := hb.len; omega), refold_val, Option.bind_some, plus_val]
  exact this
theorem refnews_loop (s : List Op) : ∀ (p : List Op), Sm (p ++ s) → Ev (fun k => patchworkref8_News.l0 k (p ++ s) (capd 4 p) (p.length : Int)) (capd 4 (p ++ s)) := by
 induction s with
 | nil =>
  intro p _
  refine Ev.step (fun k => rfl) ?_
  simp only [patchworkref8_News.l0, lt_end, if_false]
  rw [List.append_nil]
  exact Ev.now _
 | cons o s ih =>
  intro p hb
  have := ih (p ++ [o]) hb.snoc
  rw [List.append_assoc, List.singleton_append, capd_snoc] at this
  refine Ev.step (fun k => rfl) ?_
  simp only [patchworkref8_News.l0, lt_mid, nn_nat, if_true, rdOp_mid, wrap_len p o (by have := hb.len; omega), reffresh_val, Option.bind_some, plus_val]
  exact this
theorem refolds_ev {l : List Op} (h : Sm l) : Ev (fun k => patchworkref8_Olds.f k l) (capd 3 l) := by
 have := refolds_loop l [] h
 rw [capd_nil] at this
 exact this
theorem refnews_ev {l : List Op} (h : Sm l) : Ev (fun k => patchworkref8_News.f k l) (capd 4 l) := by
 have := refnews_loop l [] h
 rw [capd_nil] at this
 exact this
def rightRest (p s : List Op) (e f : Bool) : Bool := s.all okOne && (closedGo 3 e s && (closedGo 4 f s && (decide (capd 3 (p ++ s) ≤ 2147483648) && decide (capd 4 (p ++ s) ≤ 2147483648))))
theorem cnt_pos {c : Int} {o : Op} (ho : okOne o = true) : ((cnt c o : Int) > 0) ↔ (o.f0 = 1 ∨ o.f0 = 2 ∨ o.f0 = c) := by
 unfold okOne at ho
 unfold cnt
 by_cases h1 : o.f0 = 1
 ·rw [if_pos h1] at ho ⊢
  simp only [Bool.and_eq_true, decide_eq_true_eq] at ho
  simp [h1]; omega
 ·rw [if_neg h1]
  by_cases h2 : o.f0 = 2 ∨ o.f0 = c
  ·rw [if_pos h2]; simp [h1, h2]
  ·rw [if_neg h2]; simp [h1, h2]
theorem rightRest_bad {p s : List Op} {o : Op} {e f : Bool} (h : okOne o = false) : rightRest p (o :: s) e f = false := by simp [rightRest, h]
theorem rightRest_good {p s : List Op} {o : Op} {e f : Bool} (h : okOne o = true) (he : ¬ ((o.f0 = 1 ∨ o.f0 = 2 ∨ o.f0 = 3) ∧ e = true)) (hf : ¬ ((o.f0 = 1 ∨ o.f0 = 2 ∨ o.f0 = 4) ∧ f = true)) :
  rightRest p (o :: s) e f = rightRest (p ++ [o]) s (if o.f0 = 1 ∨ o.f0 = 2 ∨ o.f0 = 3 then decide (o.f0 ≠ 1) && openT o.f2 else e) (if o.f0 = 1 ∨ o.f0 = 2 ∨ o.f0 = 4 then decide (o.f0 ≠ 1) && openT o.f2 else f) := by
 unfold rightRest
 rw [List.append_assoc, List.singleton_append, List.all_cons, h, Bool.true_and, closedGo, closedGo]
 by_cases h3 : o.f0 = 1 ∨ o.f0 = 2 ∨ o.f0 = 3
 ·have e' : e = false := by cases e; rfl; exact absurd ⟨h3, rfl⟩ he
  by_cases h4 : o.f0 = 1 ∨ o.f0 = 2 ∨ o.f0 = 4
  ·have f' : f = false := by cases f; rfl; exact absurd ⟨h4, rfl⟩ hf
   simp only [if_pos h3, if_pos h4, e', f', Bool.false_eq_true, if_false]
  ·simp only [if_pos h3, if_neg h4, e', Bool.false_eq_true, if_false]
 ·by_cases h4 : o.f0 = 1 ∨ o.f0 = 2 ∨ o.f0 = 4
  ·have f' : f = false := by cases f; rfl; exact absurd ⟨h4, rfl⟩ hf
   simp only [if_neg h3, if_pos h4, f', Bool.false_eq_true, if_false]
  ·simp only [if_neg h3, if_neg h4]
theorem rightRest_old {p s : List Op} {o : Op} {f : Bool} (h : o.f0 = 1 ∨ o.f0 = 2 ∨ o.f0 = 3) : rightRest p (o :: s) true f = false := by simp [rightRest, closedGo, h]
theorem rightRest_new {p s : List Op} {o : Op} {e : Bool} (h : o.f0 = 1 ∨ o.f0 = 2 ∨ o.f0 = 4) : rightRest p (o :: s) e true = false := by simp [rightRest, closedGo, h]
theorem refright_one {p s : List Op} {o : Op} {e f : Bool} (hb : Sm (p ++ o :: s)) (he : (o.f0 = 1 ∨ o.f0 = 2 ∨ o.f0 = 3) → e = false) (hf : (o.f0 = 1 ∨ o.f0 = 2 ∨ o.f0 = 4) → f = false)
  (ih : ∀ e f, Ev (fun k => patchworkref8_Right.l0 k (p ++ o :: s) e f ((p ++ [o]).length : Int)) (rightRest (p ++ [o]) s e f)) :
  okOne o = true → Ev (fun k => patchworkref8_Right.j1 k (p ++ o :: s) e f (p.length : Int) false o.f0 o.f1 o.f2) (rightRest p (o :: s) e f) := by
 intro ho
 rw [rightRest_good ho (fun h => by simp [he h.1] at h) (fun h => by simp [hf h.1] at h)]
 have w := wrap_len p o (by have := hb.len; omega)
 have hm := hb.mid
 refine Ev.step (fun k => rfl) ?_
 unfold okOne at ho
 by_cases h1 : o.f0 = 1
 ·rw [if_pos h1] at ho
  simp only [Bool.and_eq_true, decide_eq_true_eq] at ho
  have c1 : ¬ o.f1 < 1 := by omega
  have c2 : ¬ o.f1 > 2147483648 := by omega
  have c3 : o.f2.toList = ([] : List UInt8) := by rw [Lib.toList_data]; exact ho.2.2
  have e' := he (.inl h1)
  have f' := hf (.inl h1)
  subst e' f'
  simp only [patchworkref8_Right.j1, Bool.false_eq_true, if_false, if_pos h1, if_neg c1, if_neg c2, if_pos c3, w]
  simpa [h1] using ih false false
 ·rw [if_neg h1] at ho
  simp only [Bool.and_eq_true, decide_eq_true_eq] at ho
  obtain ⟨hk, hz, ht⟩ := ho
  have step : Ev (fun k => patchworkref8_Right.j2 k (p ++ o :: s) e f (p.length : Int) o.f0 o.f1 o.f2) (rightRest (p ++ [o]) s (if o.f0 = 1 ∨ o.f0 = 2 ∨ o.f0 = 3 then decide (o.f0 ≠ 1) && openT o.f2 else e) (if o.f0 = 1 ∨ o.f0 = 2 ∨ o.f0 = 4 then decide (o.f0 ≠ 1) && openT o.f2 else f)) := by
   refine Ev.step (fun k => rfl) ?_
   simp only [patchworkref8_Right.j2, if_pos hz]
   refine Ev.bind' (rightline_ev hm) ?_
   rw [ht]
   refine Ev.step (fun k => rfl) ?_
   simp only [patchworkref8_Right.j3, Bool.not_true, Bool.false_eq_true, if_false, open_val hm, Option.bind_some, w]
   rcases hk with h | h | h
   ·have e' := he (.inr (.inl h))
    have f' := hf (.inr (.inl h))
    subst e' f'
    simp only [h]
    cases ho2 : openT o.f2
    ·simpa using ih false false
    ·simpa using ih true true
   ·have e' := he (.inr (.inr h))
    subst e'
    simp only [h]
    cases ho2 : openT o.f2
    ·simpa using ih false f
    ·cases f
     ·simpa using ih true false
     ·simpa using ih true true
   ·have f' := hf (.inr (.inr h))
    subst f'
    simp only [h]
    cases ho2 : openT o.f2
    ·simpa using ih e false
    ·cases e
     ·simpa using ih false true
     ·simpa using ih true true
  rcases hk with h | h | h
  ·have d1 : ¬ o.f0 = 1 := h1
   simp only [patchworkref8_Right.j1, Bool.false_eq_true, if_false, if_neg h1, if_pos h]
   exact step
  ·have d2 : ¬ o.f0 = 2 := by omega
   simp only [patchworkref8_Right.j1, Bool.false_eq_true, if_false, if_neg h1, if_neg d2, if_pos h]
   exact step
  ·have d2 : ¬ o.f0 = 2 := by omega
   have d3 : ¬ o.f0 = 3 := by omega
   simp only [patchworkref8_Right.j1, Bool.false_eq_true, if_false, if_neg h1, if_neg d2, if_neg d3, if_pos h]
   exact step
theorem refright_bad {l : List Op} {o : Op} {e f b : Bool} {i : Int} (hm : o.f2.size < 4611686018427387904) (ho : okOne o = false) : Ev (fun k => patchworkref8_Right.j1 k l e f i b o.f0 o.f1 o.f2) false := by
 refine Ev.step (fun k => rfl) ?_
 cases b
 ·have last : Ev (fun k => patchworkref8_Right.j2 k l e f i o.f0 o.f1 o.f2) false ∨ ¬ (o.f0 = 2 ∨ o.f0 = 3 ∨ o.f0 = 4) := by
   by_cases hk : o.f0 = 2 ∨ o.f0 = 3 ∨ o.f0 = 4
   ·refine .inl ?_
    have h1 : ¬ o.f0 = 1 := by omega
    unfold okOne at ho
    rw [if_neg h1] at ho
    refine Ev.step (fun k => rfl) ?_
    by_cases hz : o.f1 = 0
    ·simp only [patchworkref8_Right.j2, if_pos hz]
     have hr : rightT o.f2 = false := by simpa [hk, hz] using ho
     refine Ev.bind' (rightline_ev hm) ?_
     rw [hr]
     refine Ev.step (fun k => rfl) ?_
     simp only [patchworkref8_Right.j3, Bool.not_false, if_true]
     exact Ev.now _
    ·simp only [patchworkref8_Right.j2, if_neg hz]
     refine Ev.step (fun k => rfl) ?_
     simp only [patchworkref8_Right.j3, if_true]
     exact Ev.now _
   ·exact .inr hk
  by_cases h1 : o.f0 = 1
  ·unfold okOne at ho
   rw [if_pos h1] at ho
   simp only [patchworkref8_Right.j1, Bool.false_eq_true, if_false, if_pos h1]
   by_cases c1 : o.f1 < 1
   ·simp only [if_pos c1]; exact Ev.now _
   simp only [if_neg c1]
   by_cases c2 : o.f1 > 2147483648
   ·simp only [if_pos c2]; exact Ev.now _
   simp only [if_neg c2]
   by_cases c3 : o.f2.toList = ([] : List UInt8)
   ·exfalso
    rw [Lib.toList_data] at c3
    have d1 : 1 ≤ o.f1 := by omega
    have d2 : o.f1 ≤ 2147483648 := by omega
    rw [c3] at ho
    simp [d1, d2] at ho
   ·simp only [if_neg c3]; exact Ev.now _
  ·simp only [patchworkref8_Right.j1, Bool.false_eq_true, if_false, if_neg h1]
   by_cases h2 : o.f0 = 2
   ·simp only [if_pos h2]; exact last.resolve_right (fun h => h (.inl h2))
   simp only [if_neg h2]
   by_cases h3 : o.f0 = 3
   ·simp only [if_pos h3]; exact last.resolve_right (fun h => h (.inr (.inl h3)))
   simp only [if_neg h3]
   by_cases h4 : o.f0 = 4
   ·simp only [if_pos h4]; exact last.resolve_right (fun h => h (.inr (.inr h4)))
   simp only [if_neg h4]
   exact Ev.now _
 ·simp only [patchworkref8_Right.j1, if_true]
  exact Ev.now _
theorem refright_met {l : List Op} {o : Op} {e f : Bool} {i : Int} : Ev (fun k => patchworkref8_Right.j1 k l e f i true o.f0 o.f1 o.f2) false := by
 refine Ev.step (fun k => rfl) ?_
 simp only [patchworkref8_Right.j1, if_true]
 exact Ev.now _
theorem refright_loop (s : List Op) : ∀ (p : List Op) (e f : Bool), Sm (p ++ s) → Ev (fun k => patchworkref8_Right.l0 k (p ++ s) e f (p.length : Int)) (rightRest p s e f) := by
 induction s with
 | nil =>
  intro p e f hb
  refine Ev.step (fun k => rfl) ?_
  simp only [patchworkref8_Right.l0, lt_end, if_false]
  refine Ev.bind' (refolds_ev hb) ?_
  simp only [rightRest, List.all_nil, closedGo, Bool.true_and]
  by_cases h1 : capd 3 (p ++ []) ≤ 2147483648
  ·simp only [h1, if_true, decide_true, Bool.true_and]
   exact Ev.bind' (refnews_ev hb) (Ev.now _)
  ·simp only [h1, if_false, decide_false, Bool.false_and]
   exact Ev.now _
 | cons o s ih =>
  intro p e f hb
  have i := fun e f => ih (p ++ [o]) e f hb.snoc
  rw [List.append_assoc, List.singleton_append] at i
  refine Ev.step (fun k => rfl) ?_
  simp only [patchworkref8_Right.l0, lt_mid, nn_nat, if_true, rdOp_mid, refold_val, reffresh_val, Option.bind_some]
  cases ho : okOne o
  ·rw [rightRest_bad ho]
   have bad := fun b => refright_bad (l := p ++ o :: s) (e := e) (f := f) (b := b) (i := (p.length : Int)) hb.mid ho
   split
   ·split
    ·exact bad _
    ·split
     ·exact bad _
     ·exact bad _
   ·split
    ·exact bad _
    ·exact bad _
  ·have c3 := cnt_pos (c := 3) ho
   have c4 := cnt_pos (c := 4) ho
   by_cases h3 : o.f0 = 1 ∨ o.f0 = 2 ∨ o.f0 = 3
   ·simp only [if_pos (c3.mpr h3)]
    cases e
    ·simp only [Bool.false_eq_true, if_false]
     by_cases h4 : o.f0 = 1 ∨ o.f0 = 2 ∨ o.f0 = 4
     ·simp only [if_pos (c4.mpr h4)]
      cases f
      ·exact refright_one hb (fun _ => rfl) (fun _ => rfl) i ho
      ·rw [rightRest_new h4]; exact refright_met
     ·simp only [if_neg (fun x => h4 (c4.mp x))]
      exact refright_one hb (fun _ => rfl) (fun h => absurd h h4) i ho
    ·simp only [if_true]
     rw [rightRest_old h3]; exact refright_met
   ·simp only [if_neg (fun x => h3 (c3.mp x))]
    by_cases h4 : o.f0 = 1 ∨ o.f0 = 2 ∨ o.f0 = 4
    ·simp only [if_pos (c4.mpr h4)]
     cases f
     ·exact refright_one hb (fun h => absurd h h3) (fun _ => rfl) i ho
     ·rw [rightRest_new h4]; exact refright_met
    ·simp only [if_neg (fun x => h4 (c4.mp x))]
     exact refright_one hb (fun h => absurd h h3) (fun h => absurd h h4) i ho
theorem refright_ev {l : List Op} (h : Sm l) : Ev (fun k => patchworkref8_Right.f k l) (rightL l) := by
 have := refright_loop l [] false false h
 have e : rightRest [] l false false = rightL l := by
  unfold rightRest rightL
  rw [List.nil_append]
  cases l.all okOne <;> cases closedGo 3 false l <;> cases closedGo 4 false l <;> simp
 rw [e] at this
 exact this
end Go.Proofs.YtkiklmmpflndbaaDoor.P
namespace Go.Proofs.YtkiklmmpflndbaaDoor.P
open Go.RowKit Go.Proofs.YtkiklmmpflndbaaDoorW.PrintWords Go.Proofs.YtkiklmmpflndbaaDoorW.PrintLast Go.Proofs.YtkiklmmpflndbaaDoorW.PrintMore
def formO (o : Op) : Prop := (o.f0 = 1 ∧ 1 ≤ o.f1 ∧ o.f2 = ByteArray.empty) ∨ ((o.f0 = 2 ∨ o.f0 = 3 ∨ o.f0 = 4) ∧ o.f1 = 0)
theorem form_of {o : Op} (h : okOne o = true) : formO o := by
 by_cases hk : o.f0 = 1
 ·have := okOne_skip h hk; exact .inl ⟨hk, this.1, this.2.2⟩
 ·have := okOne_ne h hk; exact .inr ⟨this.1, this.2.1⟩
def skips (l : List Op) : Int := (l.map fun o => if o.f0 = 1 then o.f1 else 0).sum
theorem skips_cons (o : Op) (l : List Op) : skips (o :: l) = (if o.f0 = 1 then o.f1 else 0) + skips l := by simp [skips]
theorem skips_le (c : Int) {l : List Op} (h : ∀ o ∈ l, formO o) : skips l ≤ (sums c l : Int) := by
 induction l with
 | nil => exact Int.le_refl _
 | cons o l ih =>
  rw [skips_cons, sums_cons]
  have i := ih fun x hx => h x (List.mem_cons_of_mem _ hx)
  unfold cnt
  rcases h o (List.mem_cons_self ..) with ⟨h1, h2, _⟩ | ⟨h1, _⟩
  ·rw [if_pos h1, if_pos h1]; omega
  ·rw [if_neg (by omega)]; omega
end Go.Proofs.YtkiklmmpflndbaaDoor.P
namespace Go.Proofs.YtkiklmmpflndbaaDoor.P
open Go.RowKit Go.Proofs.YtkiklmmpflndbaaDoorW.PrintWords Go.Proofs.YtkiklmmpflndbaaDoorW.PrintLast Go.Proofs.YtkiklmmpflndbaaDoorW.PrintMore
def closedS : Bool → List (Option ByteArray) → Bool
 | _, [] => true
 | true, _ :: _ => false
 | false, none :: s => closedS false s
 | false, some t :: s => closedS (openT t) s
def textS (s : List (Option ByteArray)) : Bool := s.all fun x => match x with | none => true | some t => rightT t
def okS (s : List (Option ByteArray)) : Bool := textS s && (closedS false s && decide (s.length ≤ 2147483648))
def rightU (u : List U) : Bool := okS (olds u) && okS (news u)
theorem closedS_none : ∀ (n : Nat) (s : List (Option ByteArray)), closedS false (List.replicate n none ++ s) = closedS false s
 | 0, _ => rfl
 | n + 1, s => by rw [List.replicate_succ, List.cons_append, closedS, closedS_none n s]
theorem olds_skips : ∀ (n : Nat), olds (List.replicate n .skip) = List.replicate n none
 | 0 => rfl
 | n + 1 => by rw [List.replicate_succ, olds, olds_skips n, List.replicate_succ]
theorem news_skips : ∀ (n : Nat), news (List.replicate n .skip) = List.replicate n none
 | 0 => rfl
 | n + 1 => by rw [List.replicate_succ, news, news_skips n, List.replicate_succ]
theorem closed_olds : ∀ (l : List Op) (e : Bool), (∀ o ∈ l, formO o) → closedGo 3 e l = closedS e (olds (ex l))
 | [], e, _ => by cases e <;> rfl
 | o :: l, e, h => by
  have i := fun e => closed_olds l e fun x hx => h x (List.mem_cons_of_mem _ hx)
  rw [ex_cons, olds_app]
  rcases h o (List.mem_cons_self ..) with ⟨hk, h1, _⟩ | ⟨hk | hk | hk, _⟩
  ·have epos : o.f1.toNat = (o.f1.toNat - 1) + 1 := by omega
   rw [show exO o = List.replicate o.f1.toNat .skip from by simp [exO, hk], olds_skips]
   cases e
   ·rw [closedS_none, ← i false]; simp [closedGo, hk]
   ·rw [epos, List.replicate_succ]; simp [closedGo, closedS, hk]
  ·rw [show exO o = [.keep o.f2] from by simp [exO, hk]]
   cases e
   ·simp only [olds, List.cons_append, List.nil_append, closedS]; rw [← i]; simp [closedGo, hk]
   ·simp [olds, closedGo, closedS, hk]
  ·rw [show exO o = [.del o.f2] from by simp [exO, hk]]
   cases e
   ·simp only [olds, List.cons_append, List.nil_append, closedS]; rw [← i]; simp [closedGo, hk]
   ·simp [olds, closedGo, closedS, hk]
  ·rw [show exO o = [.ins o.f2] from by simp [exO, hk]]
   simp only [olds, List.nil_append]
   rw [← i]; simp [closedGo, hk]
theorem closed_news : ∀ (l : List Op) (e : Bool), (∀ o ∈ l, formO o) → closedGo 4 e l = closedS e (news (ex l))
 | [], e, _ => by cases e <;> rfl
 | o :: l, e, h => by
  have i := fun e => closed_news l e fun x hx => h x (List.mem_cons_of_mem _ hx)
  rw [ex_cons, news_app]
  rcases h o (List.mem_cons_self ..) with ⟨hk, h1, _⟩ | ⟨hk | hk | hk, _⟩
  ·have epos : o.f1.toNat = (o.f1.toNat - 1) + 1 := by omega
   rw [show exO o = List.replicate o.f1.toNat .skip from by simp [exO, hk], news_skips]
   cases e
   ·rw [closedS_none, ← i false]; simp [closedGo, hk]
   ·rw [epos, List.replicate_succ]; simp [closedGo, closedS, hk]
  ·rw [show exO o = [.keep o.f2] from by simp [exO, hk]]
   cases e
   ·simp only [news, List.cons_append, List.nil_append, closedS]; rw [← i]; simp [closedGo, hk]
   ·simp [news, closedGo, closedS, hk]
  ·rw [show exO o = [.del o.f2] from by simp [exO, hk]]
   simp only [news, List.nil_append]
   rw [← i]; simp [closedGo, hk]
  ·rw [show exO o = [.ins o.f2] from by simp [exO, hk]]
   cases e
   ·simp only [news, List.cons_append, List.nil_append, closedS]; rw [← i]; simp [closedGo, hk]
   ·simp [news, closedGo, closedS, hk]
theorem sums_olds : ∀ (l : List Op), (∀ o ∈ l, formO o) → sums 3 l = (olds (ex l)).length
 | [], _ => rfl
 | o :: l, h => by
  rw [sums_cons, sums_olds l fun x hx => h x (List.mem_cons_of_mem _ hx), ex_cons, olds_app, List.length_append]
  congr 1
  rcases h o (List.mem_cons_self ..) with ⟨hk, h1, _⟩ | ⟨hk | hk | hk, _⟩
  ·rw [show exO o = List.replicate o.f1.toNat .skip from by simp [exO, hk], olds_skips]; simp [cnt, hk]
  ·rw [show exO o = [.keep o.f2] from by simp [exO, hk]]; simp [cnt, hk, olds]
  ·rw [show exO o = [.del o.f2] from by simp [exO, hk]]; simp [cnt, hk, olds]
  ·rw [show exO o = [.ins o.f2] from by simp [exO, hk]]; simp [cnt, hk, olds]
theorem sums_news : ∀ (l : List Op), (∀ o ∈ l, formO o) → sums 4 l = (news (ex l)).length
 | [], _ => rfl
 | o :: l, h => by
  rw [sums_cons, sums_news l fun x hx => h x (List.mem_cons_of_mem _ hx), ex_cons, news_app, List.length_append]
  congr 1
  rcases h o (List.mem_cons_self ..) with ⟨hk, h1, _⟩ | ⟨hk | hk | hk, _⟩
  ·rw [show exO o = List.replicate o.f1.toNat .skip from by simp [exO, hk], news_skips]; simp [cnt, hk]
  ·rw [show exO o = [.keep o.f2] from by simp [exO, hk]]; simp [cnt, hk, news]
  ·rw [show exO o = [.del o.f2] from by simp [exO, hk]]; simp [cnt, hk, news]
  ·rw [show exO o = [.ins o.f2] from by simp [exO, hk]]; simp [cnt, hk, news]
theorem textS_app (p q : List (Option ByteArray)) : textS (p ++ q) = (textS p && textS q) := by simp [textS]
theorem textS_none (n : Nat) : textS (List.replicate n none) = true := by simp [textS]
theorem texts_of : ∀ (l : List Op), (∀ o ∈ l, okOne o = true) → textS (olds (ex l)) = true ∧ textS (news (ex l)) = true
 | [], _ => ⟨rfl, rfl⟩
 | o :: l, h => by
  obtain ⟨i1, i2⟩ := texts_of l fun x hx => h x (List.mem_cons_of_mem _ hx)
  have ho := h o (List.mem_cons_self ..)
  rw [ex_cons, olds_app, news_app, textS_app, textS_app, i1, i2, Bool.and_true, Bool.and_true]
  by_cases hk : o.f0 = 1
  ·rw [show exO o = List.replicate o.f1.toNat .skip from by simp [exO, hk], olds_skips, news_skips]
   exact ⟨textS_none _, textS_none _⟩
  ·obtain ⟨hk | hk | hk, _, ht⟩ := okOne_ne ho hk
   ·rw [show exO o = [.keep o.f2] from by simp [exO, hk]]; simp [olds, news, textS, ht]
   ·rw [show exO o = [.del o.f2] from by simp [exO, hk]]; simp [olds, news, textS, ht]
   ·rw [show exO o = [.ins o.f2] from by simp [exO, hk]]; simp [olds, news, textS, ht]
theorem ok_of : ∀ (l : List Op), (∀ o ∈ l, formO o) → textS (olds (ex l)) = true → textS (news (ex l)) = true → sums 3 l ≤ 2147483648 → ∀ o ∈ l, okOne o = true
 | [], _, _, _, _ => fun o ho => by simp at ho
 | o :: l, h, h1, h2, h3 => by
  have hf := h o (List.mem_cons_self ..)
  rw [ex_cons, olds_app, textS_app, Bool.and_eq_true] at h1
  rw [ex_cons, news_app, textS_app, Bool.and_eq_true] at h2
  rw [sums_cons] at h3
  intro x hx
  rcases List.mem_cons.mp hx with rfl | hx
  ·clear hx
   unfold okOne
   rcases hf with ⟨hk, c1, c2⟩ | ⟨hk, c1⟩
   ·rw [if_pos hk]
    have : cnt 3 x = x.f1.toNat := by simp [cnt, hk]
    have c3 : x.f1 ≤ 2147483648 := by omega
    have c4 : x.f2.data.toList = [] := by rw [c2]; rfl
    simp only [c1, c3, c4, decide_true, Bool.and_self]
   ·rw [if_neg (by omega)]
    have ht : rightT x.f2 = true := by
     rcases hk with hk | hk | hk
     ·have := h1.1
      rw [show exO x = [.keep x.f2] from by simp [exO, hk]] at this
      simpa [olds, textS] using this
     ·have := h1.1
      rw [show exO x = [.del x.f2] from by simp [exO, hk]] at this
      simpa [olds, textS] using this
     ·have := h2.1
      rw [show exO x = [.ins x.f2] from by simp [exO, hk]] at this
      simpa [news, textS] using this
    simp only [hk, c1, ht, decide_true, Bool.and_self]
  ·exact ok_of l (fun y hy => h y (List.mem_cons_of_mem _ hy)) h1.2 h2.2 (by omega) x hx
theorem right_iff {l : List Op} (hf : ∀ o ∈ l, formO o) : rightL l = rightU (ex l) := by
 have hc : ∀ c, decide (capd c l ≤ 2147483648) = decide (sums c l ≤ 2147483648) := by
  intro c
  have : (capd c l ≤ 2147483648) ↔ (sums c l ≤ 2147483648) := by unfold capd far; omega
  simp only [this]
 have h3 := sums_olds l hf
 have h4 := sums_news l hf
 unfold rightL rightU okS
 rw [hc, hc, closed_olds l false hf, closed_news l false hf, ← h3, ← h4]
 cases ha : l.all okOne
 ·rw [Bool.false_and]
  by_cases t1 : textS (olds (ex l)) = true
  ·by_cases t2 : textS (news (ex l)) = true
   ·by_cases s3 : sums 3 l ≤ 2147483648
    ·have := ok_of l hf t1 t2 s3
     have : l.all okOne = true := List.all_eq_true.mpr this
     rw [this] at ha; simp at ha
    ·simp [s3]
   ·simp [t2]
  ·simp [t1]
 ·obtain ⟨t1, t2⟩ := texts_of l (List.all_eq_true.mp ha)
  rw [t1, t2]
  cases closedS false (olds (ex l)) <;> cases closedS false (news (ex l)) <;> by_cases s3 : sums 3 l ≤ 2147483648 <;> by_cases s4 : sums 4 l ≤ 2147483648 <;> simp [s3, s4]
theorem rightL_form {l : List Op} (h : rightL l = true) : ∀ o ∈ l, formO o := fun o ho => form_of ((rightL_ok h).1 o ho)
theorem rightL_U {l : List Op} (h : rightL l = true) : rightU (ex l) = true := by rw [← right_iff (rightL_form h)]; exact h
theorem pack_len (u : List U) : (pack u).length ≤ u.length := by
 induction u with
 | nil => exact Nat.le_refl _
 | cons x u ih =>
  rw [pack]
  cases x with
  | skip =>
   cases hp : pack u with
   | nil => simp [put]
   | cons y r =>
    rw [hp] at ih
    simp only [put]
    split
    ·simp only [List.length_cons] at *; omega
    ·simp only [List.length_cons] at *; omega
  | keep t => rw [put_ne rfl]; simp only [List.length_cons]; omega
  | del t => rw [put_ne rfl]; simp only [List.length_cons]; omega
  | ins t => rw [put_ne rfl]; simp only [List.length_cons]; omega
theorem put_len (x : U) (r : List Op) : (put x r).length ≤ r.length + 1 := by
 cases x with
 | skip =>
  cases r with
  | nil => exact Nat.le_refl _
  | cons y r => simp only [put]; split <;> simp only [List.length_cons] <;> omega
 | keep t => exact Nat.le_refl _
 | del t => exact Nat.le_refl _
 | ins t => exact Nat.le_refl _
theorem pack_app_len : ∀ (a b : List U), (pack (a ++ b)).length ≤ a.length + (pack b).length
 | [], b => by simp
 | x :: a, b => by
  have := pack_app_len a b
  have := put_len x (pack (a ++ b))
  simp only [List.cons_append, pack, List.length_cons]; omega
theorem pack_skips_len : ∀ (n : Nat) (b : List U), (pack (List.replicate n .skip ++ b)).length ≤ 1 + (pack b).length
 | 0, b => by simp
 | 1, b => by have := put_len .skip (pack b); rw [Nat.add_comm]; exact this
 | n + 2, b => by
  have ih := pack_skips_len (n + 1) b
  rw [List.replicate_succ, List.cons_append, pack]
  cases hp : pack (List.replicate (n + 1) .skip ++ b) with
  | nil => simp [put]
  | cons y r =>
   have hy : y.f0 = 1 := by
    rw [List.replicate_succ, List.cons_append, pack] at hp
    cases hq : pack (List.replicate n .skip ++ b) with
    | nil => rw [hq] at hp; obtain ⟨rfl, _⟩ := List.cons.inj hp; rfl
    | cons z w =>
     rw [hq] at hp
     simp only [put] at hp
     split at hp <;> (obtain ⟨rfl, _⟩ := List.cons.inj hp; rfl)
   rw [hp] at ih
   simp only [put, if_pos hy, List.length_cons] at *
   omega
theorem nf_pack_len : ∀ (l : List Op) (I : List U), (∀ o ∈ l, formO o) → (pack (nf I (ex l))).length ≤ I.length + l.length
 | [], I, _ => by rw [ex_nil, nf]; exact pack_len I
 | o :: l, I, h => by
  have hl : ∀ x ∈ l, formO x := fun x hx => h x (List.mem_cons_of_mem _ hx)
  rw [ex_cons, List.length_cons]
  rcases h o (List.mem_cons_self ..) with ⟨hk, h1, _⟩ | ⟨hk | hk | hk, _⟩
  ·have epos : o.f1.toNat = (o.f1.toNat - 1) + 1 := by omega
   rw [show exO o = List.replicate o.f1.toNat .skip from by simp [exO, hk]]
   have e : nf I (List.replicate o.f1.toNat .skip ++ ex l) = I ++ (List.replicate o.f1.toNat .skip ++ nf [] (ex l)) := by
    rw [epos, List.replicate_succ, List.cons_append, nf, nf_skips]; rfl
   rw [e]
   have i1 := pack_app_len I (List.replicate o.f1.toNat .skip ++ nf [] (ex l))
   have i2 := pack_skips_len o.f1.toNat (nf [] (ex l))
   have i3 := nf_pack_len l [] hl
   simp only [List.length_nil] at i3
   omega
  ·rw [show exO o = [.keep o.f2] from by simp [exO, hk], List.singleton_append, nf]
   have i1 := pack_app_len I (.keep o.f2 :: nf [] (ex l))
   have i2 := put_len (.keep o.f2) (pack (nf [] (ex l)))
   have i3 := nf_pack_len l [] hl
   simp only [List.length_nil, pack] at i1 i3
   omega
  ·rw [show exO o = [.del o.f2] from by simp [exO, hk], List.singleton_append, nf]
   have i2 := put_len (.del o.f2) (pack (nf I (ex l)))
   have i3 := nf_pack_len l I hl
   simp only [pack]
   omega
  ·rw [show exO o = [.ins o.f2] from by simp [exO, hk], List.singleton_append, nf]
   have i3 := nf_pack_len l (I ++ [.ins o.f2]) hl
   simp only [List.length_append, List.length_cons, List.length_nil] at i3
   omega
def txU : U → ByteArray
 | .skip => ByteArray.empty
 | .keep t => t
 | .del t => t
 | .ins t => t
theorem tx_pack (u : List U) : ∀ o ∈ pack u, o.f2 = ByteArray.empty ∨ ∃ x ∈ u, o.f2 = txU x := by
 intro o ho
 by_cases hk : o.f0 = 1
 ·exact .inl (pack_pos u o ho hk).2
 ·refine .inr ?_
  have hm : ∀ x ∈ exO o, x ∈ ex (pack u) := fun x hx => List.mem_flatMap.mpr ⟨o, ho, hx⟩
  rw [ex_pack] at hm
  unfold exO at hm
  rw [if_neg hk] at hm
  split at hm
  ·exact ⟨_, hm _ (List.mem_cons_self ..), rfl⟩
  ·split at hm
   ·exact ⟨_, hm _ (List.mem_cons_self ..), rfl⟩
   ·exact ⟨_, hm _ (List.mem_cons_self ..), rfl⟩
theorem nf_mem : ∀ (u I : List U) (x : U), x ∈ nf I u → x ∈ I ∨ x ∈ u
 | [], I, x, h => .inl h
 | .ins t :: u, I, x, h => by
  rw [nf] at h
  rcases nf_mem u _ x h with h | h
  ·rcases List.mem_append.mp h with h | h
   ·exact .inl h
   ·exact .inr (by rw [List.mem_singleton.mp h]; exact List.mem_cons_self ..)
  ·exact .inr (List.mem_cons_of_mem _ h)
 | .del t :: u, I, x, h => by
  rw [nf] at h
  rcases List.mem_cons.mp h with h | h
  ·exact .inr (by rw [h]; exact List.mem_cons_self ..)
  ·rcases nf_mem u I x h with h | h
   ·exact .inl h
   ·exact .inr (List.mem_cons_of_mem _ h)
 | .keep t :: u, I, x, h => by
  rw [nf] at h
  rcases List.mem_append.mp h with h | h
  ·exact .inl h
  ·rcases List.mem_cons.mp h with h | h
   ·exact .inr (by rw [h]; exact List.mem_cons_self ..)
   ·rcases nf_mem u [] x h with h | h
    ·simp at h
    ·exact .inr (List.mem_cons_of_mem _ h)
 | .skip :: u, I, x, h => by
  rw [nf] at h
  rcases List.mem_append.mp h with h | h
  ·exact .inl h
  ·rcases List.mem_cons.mp h with h | h
   ·exact .inr (by rw [h]; exact List.mem_cons_self ..)
   ·rcases nf_mem u [] x h with h | h
    ·simp at h
    ·exact .inr (List.mem_cons_of_mem _ h)
theorem tx_ex {l : List Op} {x : U} (h : x ∈ ex l) : txU x = ByteArray.empty ∨ ∃ o ∈ l, txU x = o.f2 := by
 obtain ⟨o, ho, hx⟩ := List.mem_flatMap.mp h
 unfold exO at hx
 split at hx
 ·rw [List.eq_of_mem_replicate hx]; exact .inl rfl
 ·refine .inr ⟨o, ho, ?_⟩
  split at hx
  ·rw [List.mem_singleton.mp hx]; rfl
  ·split at hx
   ·rw [List.mem_singleton.mp hx]; rfl
   ·rw [List.mem_singleton.mp hx]; rfl
theorem Sm.norm {l : List Op} (h : Sm l) (hf : ∀ o ∈ l, formO o) : Sm (normL l) := by
 unfold normL
 refine ⟨?_, fun o ho => ?_⟩
 ·have := nf_pack_len l [] hf
  have := h.1
  simp only [List.length_nil] at *
  omega
 ·have he : ByteArray.empty.size = 0 := rfl
  rcases tx_pack _ o ho with e | ⟨x, hx, e⟩
  ·rw [e, he]; omega
  ·rcases nf_mem _ _ _ hx with hx | hx
   ·simp at hx
   ·rcases tx_ex hx with e2 | ⟨y, hy, e2⟩
    ·rw [e, e2, he]; omega
    ·rw [e, e2]; exact h.2 y hy
end Go.Proofs.YtkiklmmpflndbaaDoor.P
namespace Go.Proofs.YtkiklmmpflndbaaDoor.P
open Go.RowKit Go.Proofs.YtkiklmmpflndbaaDoorW.PrintWords Go.Proofs.YtkiklmmpflndbaaDoorW.PrintLast Go.Proofs.YtkiklmmpflndbaaDoorW.PrintMore
def textSum (l : List ByteArray) : Nat := (l.map (·.size)).sum
theorem bytesOf_len (s : ByteArray) : (bytesOf s).length = s.size := by simp [bytesOf]
theorem join_loop (l : List ByteArray) : ∀ (p : List ByteArray) (acc : List Int), p.length + l.length < 4611686018427387904 → acc.length + textSum l < 140737488355328 →
  Ev (fun k => patchworkref1_Join.l0 k (p ++ l) acc (p.length : Int)) (strOfNums (acc ++ (l.flatMap bytesOf))) := by
 induction l with
 | nil =>
  intro p acc hb hs
  refine Ev.step (fun k => rfl) ?_
  simp only [patchworkref1_Join.l0, lt_end, if_false]
  simpa using Ev.now _
 | cons x l ih =>
  intro p acc hb hs
  have hs' : acc.length + (x.size + textSum l) < 140737488355328 := by simpa [textSum] using hs
  refine Ev.step (fun k => rfl) ?_
  have h1 : acc.length + x.size < 140737488355328 := by omega
  simp only [patchworkref1_Join.l0, lt_mid, nn_nat, if_true, rdOf_mid, if_pos h1]
  have := ih (p ++ [x]) (acc ++ bytesOf x) (by simp at hb ⊢; omega) (by rw [List.length_append, bytesOf_len]; omega)
  rw [wrap_len p x (by simp at hb; omega)]
  simpa [List.append_assoc] using this
theorem join_ev (l : List ByteArray) (h : l.length ≤ 4294967296) (h2 : textSum l < 140737488355328) : Ev (fun k => patchworkref1_Join.f k l) (strOfNums (l.flatMap bytesOf)) := by
 have := join_loop l [] [] (by simp; omega) (by simpa using h2)
 simpa [patchworkref1_Join.f] using this
theorem textSum_le (l : List ByteArray) : textSum l ≤ (l.map (fun s => s.size + 1)).sum := by
 induction l with
 | nil => simp [textSum]
 | cons x l ih => simp only [textSum, List.map_cons, List.sum_cons] at ih ⊢; omega
theorem wt_len (l : List ByteArray) : l.length ≤ (l.map (fun s => s.size + 1)).sum := by
 induction l with
 | nil => simp
 | cons x l ih => simp only [List.length_cons, List.map_cons, List.sum_cons]; omega
end Go.Proofs.YtkiklmmpflndbaaDoor.P
namespace Go.Proofs.YtkiklmmpflndbaaDoor.P
open Go.RowKit Go.Proofs.YtkiklmmpflndbaaDoorW.PrintWords Go.Proofs.YtkiklmmpflndbaaDoorW.PrintLast Go.Proofs.YtkiklmmpflndbaaDoorW.PrintMore
def wholeL : List ByteArray → Bool
 | [] => true
 | x :: l => rightT x && (if openT x = true ∧ l ≠ [] then false else wholeL l)
def SmT (l : List ByteArray) : Prop := l.length < 4398046511104 ∧ ∀ x ∈ l, x.size < 4611686018427387904
def BgT (l : List ByteArray) : Prop := l.length < 8796093022208 ∧ ∀ x ∈ l, x.size < 4611686018427387904
theorem SmT.big {l : List ByteArray} (h : SmT l) : BgT l := ⟨by have := h.1; omega, h.2⟩
theorem BgT.mid {p s : List ByteArray} {o : ByteArray} (h : BgT (p ++ o :: s)) : o.size < 4611686018427387904 := h.2 o (by simp)
theorem BgT.snoc {p s : List ByteArray} {o : ByteArray} (h : BgT (p ++ o :: s)) : BgT ((p ++ [o]) ++ s) := by rw [List.append_assoc]; exact h
theorem whole_loop (s : List ByteArray) : ∀ (p : List ByteArray), BgT (p ++ s) → Ev (fun k => patchworkref1_Whole.l0 k (p ++ s) (p.length : Int)) (wholeL s) := by
 induction s with
 | nil =>
  intro p _
  refine Ev.step (fun k => rfl) ?_
  simp only [patchworkref1_Whole.l0, lt_end, if_false]
  exact Ev.now _
 | cons x s ih =>
  intro p hb
  have i := ih (p ++ [x]) hb.snoc
  rw [List.append_assoc, List.singleton_append] at i
  have hl := hb.1
  simp only [List.length_append, List.length_cons] at hl
  have w := wrap_len p x (by omega)
  refine Ev.step (fun k => rfl) ?_
  simp only [patchworkref1_Whole.l0, lt_mid, nn_nat, if_true, rdOf_mid, w]
  refine Ev.bind' (rightline_ev hb.mid) ?_
  unfold wholeL
  cases hr : rightT x
  ·simp only [Bool.false_eq_true, if_false, Bool.false_and]; exact Ev.now _
  simp only [if_true, Bool.true_and, open_val hb.mid, Option.bind_some]
  cases ho : openT x
  ·simp only [Bool.false_eq_true, if_false, false_and]; exact i
  simp only [if_true, true_and]
  cases s with
  | nil =>
   have c : ¬ ((p ++ [x]).length : Int) < ((p ++ x :: ([] : List ByteArray)).length : Int) := by simp
   simp only [if_neg c, ne_eq, not_true_eq_false, if_false]
   exact i
  | cons y s =>
   have c : ((p ++ [x]).length : Int) < ((p ++ x :: y :: s).length : Int) := by simp only [List.length_append, List.length_cons, List.length_nil]; omega
   simp only [if_pos c, ne_eq, List.cons_ne_nil, not_false_eq_true, if_true]
   exact Ev.now _
theorem whole_ev {l : List ByteArray} (h : BgT l) : Ev (fun k => patchworkref1_Whole.f k l) (wholeL l) := whole_loop l [] h
theorem whole_closed : ∀ (l : List ByteArray), wholeL l = (textS (l.map some) && closedS false (l.map some))
 | [] => rfl
 | x :: l => by
  unfold wholeL
  rw [whole_closed l, List.map_cons, closedS]
  cases ho : openT x
  ·simp [textS, Bool.and_assoc]
  ·cases l with
   | nil => simp [textS, closedS]
   | cons y l => simp [textS, closedS]
def doU : List U → List ByteArray → Option (List ByteArray)
 | [], ls => some ls
 | .skip :: u, x :: ls => (doU u ls).map (x :: ·)
 | .keep t :: u, x :: ls => if x = t then (doU u ls).map (x :: ·) else none
 | .del t :: u, x :: ls => if x = t then doU u ls else none
 | .ins t :: u, ls => (doU u ls).map (t :: ·)
 | .skip :: _, [] => none
 | .keep _ :: _, [] => none
 | .del _ :: _, [] => none
theorem doU_skips : ∀ (n : Nat) (u : List U) (ls : List ByteArray), doU (List.replicate n .skip ++ u) ls = if ls.length < n then none else (doU u (ls.drop n)).map (ls.take n ++ ·)
 | 0, u, ls => by simp
 | n + 1, u, [] => by simp [List.replicate_succ, doU]
 | n + 1, u, x :: ls => by
  rw [List.replicate_succ, List.cons_append, doU, doU_skips n u ls]
  by_cases h : ls.length < n
  ·simp [h]
  ·simp only [h, if_false, List.length_cons, show ¬ ls.length + 1 < n + 1 from by omega, List.drop_succ_cons, List.take_succ_cons, Option.map_map, Function.comp_def, List.cons_append]
def told (out : List ByteArray) : Option (List ByteArray) → List ByteArray × Bool
 | none => ([], false)
 | some r => if wholeL (out ++ r) then (out ++ r, true) else ([], false)
theorem told_map (out a : List ByteArray) (r : Option (List ByteArray)) : told out (r.map (a ++ ·)) = told (out ++ a) r := by
 cases r with
 | none => rfl
 | some r => simp [told]
theorem told_map1 (out : List ByteArray) (x : ByteArray) (r : Option (List ByteArray)) : told out (r.map (x :: ·)) = told (out ++ [x]) r := by
 cases r with
 | none => rfl
 | some r => simp [told]
theorem refdo_loop {ls : List ByteArray} (hls : SmT ls) (s : List Op) : ∀ (p : List Op) (out : List ByteArray) (i : Nat), Sm (p ++ s) → (∀ o ∈ s, okOne o = true) → i ≤ ls.length → out.length ≤ i + p.length → (∀ x ∈ out, x.size < 4611686018427387904) →
  Ev (fun k => patchworkref8_Do.l0 k (p ++ s) ls out (i : Int) (p.length : Int)) (told out (doU (ex s) (ls.drop i))) := by
 induction s with
 | nil =>
  intro p out i hb _ hi ho hx
  have hl1 := hls.1
  have hp := hb.1
  simp only [List.append_nil] at hp
  have c1 : (0 : Int) ≤ (i : Int) := by omega
  have c2 : (i : Int) ≤ (ls.length : Int) := by omega
  have c3 : out.length + (ls.drop (i : Int).toNat).length < 8796093022208 := by rw [Int.toNat_natCast, List.length_drop]; omega
  have hw : BgT (out ++ ls.drop (i : Int).toNat) := by
   refine ⟨by rw [List.length_append]; exact c3, fun x h => ?_⟩
   rcases List.mem_append.mp h with h | h
   ·exact hx x h
   ·exact hls.2 x (List.mem_of_mem_drop h)
  refine Ev.step (fun k => rfl) ?_
  simp only [patchworkref8_Do.l0, lt_end, if_false, if_pos c1, if_pos c2, if_pos c3, Option.bind_some]
  refine Ev.bind' (whole_ev hw) ?_
  rw [Int.toNat_natCast, ex_nil, doU, told]
  split <;> exact Ev.now _
 | cons o s ih =>
  intro p out i hb hok hi ho hx
  have hl1 := hls.1
  have hp := hb.len
  have j := fun out i => ih (p ++ [o]) out i hb.snoc (fun x hx => hok x (List.mem_cons_of_mem _ hx))
  rw [List.append_assoc, List.singleton_append] at j
  have w := wrap_len p o (by omega)
  have hplen : (p ++ [o]).length = p.length + 1 := by simp
  refine Ev.step (fun k => rfl) ?_
  simp only [patchworkref8_Do.l0, lt_mid, nn_nat, if_true, rdOp_mid]
  have hoo := hok o (List.mem_cons_self ..)
  rw [ex_cons]
  by_cases hk : o.f0 = 1
  ·obtain ⟨h1, h2, h3⟩ := okOne_skip hoo hk
   rw [show exO o = List.replicate o.f1.toNat .skip from by simp [exO, hk], doU_skips]
   have w1 : wrap64 ((ls.length : Int) - (i : Int)) = (ls.length : Int) - (i : Int) := by unfold wrap64; omega
   simp only [if_pos hk, w1, List.length_drop]
   by_cases c : (ls.length : Int) - (i : Int) < o.f1
   ·simp only [if_pos c]
    rw [if_pos (by omega)]
    exact Ev.now _
   ·simp only [if_neg c]
    rw [if_neg (by omega)]
    have w2 : wrap64 ((i : Int) + o.f1) = ((i + o.f1.toNat : Nat) : Int) := by unfold wrap64; omega
    have c2 : (i : Int) ≤ ((i + o.f1.toNat : Nat) : Int) := by omega
    have c3 : ((i + o.f1.toNat : Nat) : Int) ≤ (ls.length : Int) := by omega
    have e : (ls.take ((i + o.f1.toNat : Nat) : Int).toNat).drop (i : Int).toNat = (ls.drop i).take o.f1.toNat := by
     rw [Int.toNat_natCast, Int.toNat_natCast, List.drop_take]
     congr 1; omega
    have hlen : ((ls.drop i).take o.f1.toNat).length = o.f1.toNat := by rw [List.length_take, List.length_drop]; omega
    have c1 : (0 : Int) ≤ (i : Int) := by omega
    have c4 : out.length + ((ls.take ((i + o.f1.toNat : Nat) : Int).toNat).length - (i : Int).toNat) < 8796093022208 := by rw [List.length_take]; omega
    simp only [w2, if_pos c2, if_pos c3, if_pos c4, w]
    rw [e]
    have := j (out ++ (ls.drop i).take o.f1.toNat) (i + o.f1.toNat) (by omega) (by rw [List.length_append]; omega) (fun x hx' => by
     rcases List.mem_append.mp hx' with h | h
     ·exact hx x h
     ·exact hls.2 x (List.mem_of_mem_drop (List.mem_of_mem_take h)))
    rw [told_map, List.drop_drop]
    exact this
  ·obtain ⟨hk2, h1, h2⟩ := okOne_ne hoo hk
   simp only [if_neg hk]
   have c0 : out.length < 8796093022208 := by omega
   by_cases h4 : o.f0 = 4
   ·rw [show exO o = [.ins o.f2] from by simp [exO, h4], List.singleton_append, doU, told_map1]
    simp only [if_pos h4, if_pos c0, w]
    exact j (out ++ [o.f2]) i hi (by rw [List.length_append, List.length_singleton]; omega) (fun x hx' => by
     rcases List.mem_append.mp hx' with h | h
     ·exact hx x h
     ·rw [List.mem_singleton.mp h]; exact hb.mid)
   ·simp only [if_neg h4]
    by_cases hil : i < ls.length
    ·have c1 : ¬ (i : Int) ≥ (ls.length : Int) := by omega
     have c2 : (i : Int) < (ls.length : Int) := by omega
     have r : rdOf ByteArray.empty ls (i : Int) = ls[i] := rdOf_get hil
     have w2 : wrap64 ((i : Int) + 1) = ((i + 1 : Nat) : Int) := by unfold wrap64; omega
     simp only [if_neg c1, if_pos c2, r]
     rw [List.drop_eq_getElem_cons hil]
     refine Ev.step (fun k => rfl) ?_
     by_cases he : ls[i] = o.f2
     ·have hb2 : (ls[i].toList != o.f2.toList) = false := by rw [he]; simp
      rcases hk2 with h | h | h
      ·rw [show exO o = [.keep o.f2] from by simp [exO, h], List.singleton_append, doU, if_pos he, told_map1]
       simp only [hb2, patchworkref8_Do.j2, Bool.false_eq_true, if_false, if_pos h, if_pos c0, w, w2]
       rw [he]
       exact j (out ++ [o.f2]) (i + 1) (by omega) (by rw [List.length_append, List.length_singleton]; omega) (fun x hx' => by
        rcases List.mem_append.mp hx' with h | h
        ·exact hx x h
        ·rw [List.mem_singleton.mp h]; exact hb.mid)
      ·have h' : ¬ o.f0 = 2 := by omega
       rw [show exO o = [.del o.f2] from by simp [exO, h], List.singleton_append, doU, if_pos he]
       simp only [hb2, patchworkref8_Do.j2, Bool.false_eq_true, if_false, if_neg h', w, w2]
       exact j out (i + 1) (by omega) (by omega) hx
      ·exact absurd h h4
     ·have hb2 : (ls[i].toList != o.f2.toList) = true := by
       rw [bne_iff_ne]; exact fun e => he (txt_eq e)
      have en : doU (exO o ++ ex s) (ls[i] :: ls.drop (i + 1)) = none := by
       rcases hk2 with h | h | h
       ·rw [show exO o = [.keep o.f2] from by simp [exO, h], List.singleton_append, doU, if_neg he]
       ·rw [show exO o = [.del o.f2] from by simp [exO, h], List.singleton_append, doU, if_neg he]
       ·exact absurd h h4
      rw [en]
      simp only [hb2, patchworkref8_Do.j2, if_true]
      exact Ev.now _
    ·have c1 : (i : Int) ≥ (ls.length : Int) := by omega
     simp only [if_pos c1]
     have en : doU (exO o ++ ex s) (ls.drop i) = none := by
      rw [List.drop_eq_nil_of_le (by omega)]
      rcases hk2 with h | h | h
      ·rw [show exO o = [.keep o.f2] from by simp [exO, h], List.singleton_append, doU]
      ·rw [show exO o = [.del o.f2] from by simp [exO, h], List.singleton_append, doU]
      ·exact absurd h h4
     rw [en]
     refine Ev.step (fun k => rfl) ?_
     simp only [patchworkref8_Do.j2, if_true]
     exact Ev.now _
def doL (l : List Op) (ls : List ByteArray) : List ByteArray × Bool := if rightL l = true ∧ wholeL ls = true then told [] (doU (ex l) ls) else ([], false)
theorem refdo_ev {l : List Op} {ls : List ByteArray} (h : Sm l) (hls : SmT ls) : Ev (fun k => patchworkref8_Do.f k l ls) (doL l ls) := by
 unfold doL
 refine Ev.bind' (refright_ev h) ?_
 cases hr : rightL l
 ·simp only [Bool.false_eq_true, if_false, false_and]
  refine Ev.step (fun k => rfl) ?_
  simp only [patchworkref8_Do.j0, if_true]
  exact Ev.now _
 simp only [if_true, true_and]
 refine Ev.bind' (whole_ev hls.big) ?_
 refine Ev.step (fun k => rfl) ?_
 cases hw : wholeL ls
 ·simp only [patchworkref8_Do.j0, Bool.not_false, if_true, Bool.false_eq_true, if_false]
  exact Ev.now _
 simp only [patchworkref8_Do.j0, Bool.not_true, Bool.false_eq_true, if_false, if_true]
 exact refdo_loop hls l [] [] 0 h (rightL_ok hr).1 (by omega) (by simp) (by simp)
end Go.Proofs.YtkiklmmpflndbaaDoor.P
namespace Go.Proofs.YtkiklmmpflndbaaDoor.P
open Go.RowKit Go.Proofs.YtkiklmmpflndbaaDoorW.PrintWords Go.Proofs.YtkiklmmpflndbaaDoorW.PrintLast Go.Proofs.YtkiklmmpflndbaaDoorW.PrintMore
def insN : List U → Nat
 | [] => 0
 | .ins _ :: u => insN u + 1
 | .skip :: u => insN u
 | .keep _ :: u => insN u
 | .del _ :: u => insN u
theorem doU_len : ∀ (u : List U) (ls r : List ByteArray), doU u ls = some r → r.length ≤ ls.length + insN u
 | [], ls, r, h => by rw [doU] at h; rw [Option.some.inj h]; exact Nat.le_refl _
 | .ins t :: u, ls, r, h => by
  rw [doU] at h
  obtain ⟨r', h', rfl⟩ := Option.map_eq_some_iff.mp h
  have := doU_len u ls r' h'
  simp only [List.length_cons, insN]; omega
 | .del t :: u, [], r, h => by rw [doU] at h; simp at h
 | .del t :: u, x :: ls, r, h => by
  rw [doU] at h
  split at h
  ·have := doU_len u ls r h
   simp only [List.length_cons, insN]; omega
  ·simp at h
 | .keep t :: u, [], r, h => by rw [doU] at h; simp at h
 | .keep t :: u, x :: ls, r, h => by
  rw [doU] at h
  split at h
  ·obtain ⟨r', h', rfl⟩ := Option.map_eq_some_iff.mp h
   have := doU_len u ls r' h'
   simp only [List.length_cons, insN]; omega
  ·simp at h
 | .skip :: u, [], r, h => by rw [doU] at h; simp at h
 | .skip :: u, x :: ls, r, h => by
  rw [doU] at h
  obtain ⟨r', h', rfl⟩ := Option.map_eq_some_iff.mp h
  have := doU_len u ls r' h'
  simp only [List.length_cons, insN]; omega
theorem doU_mem : ∀ (u : List U) (ls r : List ByteArray), doU u ls = some r → ∀ y ∈ r, y ∈ ls ∨ ∃ x ∈ u, y = txU x
 | [], ls, r, h, y, hy => by rw [doU] at h; rw [Option.some.inj h]; exact .inl hy
 | .ins t :: u, ls, r, h, y, hy => by
  rw [doU] at h
  obtain ⟨r', h', rfl⟩ := Option.map_eq_some_iff.mp h
  rcases List.mem_cons.mp hy with rfl | hy
  ·exact .inr ⟨_, List.mem_cons_self .., rfl⟩
  ·rcases doU_mem u ls r' h' y hy with h | ⟨x, hx, e⟩
   ·exact .inl h
   ·exact .inr ⟨x, List.mem_cons_of_mem _ hx, e⟩
 | .del t :: u, [], r, h, y, hy => by rw [doU] at h; simp at h
 | .del t :: u, x :: ls, r, h, y, hy => by
  rw [doU] at h
  split at h
  ·rcases doU_mem u ls r h y hy with h | ⟨x, hx, e⟩
   ·exact .inl (List.mem_cons_of_mem _ h)
   ·exact .inr ⟨x, List.mem_cons_of_mem _ hx, e⟩
  ·simp at h
 | .keep t :: u, [], r, h, y, hy => by rw [doU] at h; simp at h
 | .keep t :: u, x :: ls, r, h, y, hy => by
  rw [doU] at h
  split at h
  ·obtain ⟨r', h', rfl⟩ := Option.map_eq_some_iff.mp h
   rcases List.mem_cons.mp hy with rfl | hy
   ·exact .inl (List.mem_cons_self ..)
   ·rcases doU_mem u ls r' h' y hy with h | ⟨x, hx, e⟩
    ·exact .inl (List.mem_cons_of_mem _ h)
    ·exact .inr ⟨x, List.mem_cons_of_mem _ hx, e⟩
  ·simp at h
 | .skip :: u, [], r, h, y, hy => by rw [doU] at h; simp at h
 | .skip :: u, x :: ls, r, h, y, hy => by
  rw [doU] at h
  obtain ⟨r', h', rfl⟩ := Option.map_eq_some_iff.mp h
  rcases List.mem_cons.mp hy with rfl | hy
  ·exact .inl (List.mem_cons_self ..)
  ·rcases doU_mem u ls r' h' y hy with h | ⟨x, hx, e⟩
   ·exact .inl (List.mem_cons_of_mem _ h)
   ·exact .inr ⟨x, List.mem_cons_of_mem _ hx, e⟩
theorem insN_app : ∀ (p q : List U), insN (p ++ q) = insN p + insN q
 | [], q => by simp [insN]
 | x :: p, q => by cases x <;> simp only [List.cons_append, insN, insN_app p q] <;> omega
theorem insN_ex : ∀ (l : List Op), insN (ex l) ≤ l.length
 | [] => Nat.le_refl _
 | o :: l => by
  have h : ∀ n, insN (List.replicate n .skip) = 0 := fun n => by
   induction n with
   | zero => rfl
   | succ n ih => rw [List.replicate_succ, insN, ih]
  have : insN (exO o) ≤ 1 := by
   unfold exO
   split
   ·rw [h]; omega
   ·split
    ·simp [insN]
    ·split <;> simp [insN]
  have := insN_ex l
  rw [ex_cons, insN_app, List.length_cons]; omega
theorem SmT.done {l : List Op} {ls r : List ByteArray} (hl : l.length ≤ 2199023255552) (h : Sm l) (hll : ls.length < 2199023255552) (hls : SmT ls) (hd : doU (ex l) ls = some r) : SmT r := by
 refine ⟨?_, fun y hy => ?_⟩
 ·have := doU_len _ _ _ hd
  have := insN_ex l
  omega
 ·rcases doU_mem _ _ _ hd y hy with h1 | ⟨x, hx, rfl⟩
  ·exact hls.2 y h1
  ·have he : ByteArray.empty.size = 0 := rfl
   rcases tx_ex hx with e | ⟨o, ho, e⟩
   ·rw [e, he]; omega
   ·rw [e]; exact h.2 o ho
theorem doL_true {l : List Op} {ls : List ByteArray} (h : (doL l ls).2 = true) : ∃ r, rightL l = true ∧ wholeL ls = true ∧ doU (ex l) ls = some r ∧ wholeL r = true ∧ doL l ls = (r, true) := by
 unfold doL at h ⊢
 split at h
 ·rename_i hc
  rw [if_pos hc]
  cases hd : doU (ex l) ls with
  | none => rw [hd] at h; simp [told] at h
  | some r =>
   rw [hd] at h
   simp only [told, List.nil_append] at h ⊢
   by_cases hw : wholeL r = true
   ·exact ⟨r, hc.1, hc.2, rfl, hw, by rw [if_pos hw]⟩
   ·rw [if_neg hw] at h; simp at h
 ·simp at h
theorem doL_of {l : List Op} {ls r : List ByteArray} (h1 : rightL l = true) (h2 : wholeL ls = true) (h3 : doU (ex l) ls = some r) (h4 : wholeL r = true) : doL l ls = (r, true) := by
 unfold doL
 rw [if_pos ⟨h1, h2⟩, h3, told, List.nil_append, if_pos h4]
theorem SmT.of_wt {l : List ByteArray} (h : (l.map fun s => s.size + 1).sum ≤ 2199023255551) : SmT l := by
 have hl := wt_len l
 refine ⟨by omega, fun x hx => ?_⟩
 have : x.size + 1 ≤ (l.map fun s => s.size + 1).sum := by
  clear h hl
  induction l with
  | nil => simp at hx
  | cons y l ih =>
   rw [List.map_cons, List.sum_cons]
   rcases List.mem_cons.mp hx with rfl | hx
   ·omega
   ·have := ih hx; omega
 omega
end Go.Proofs.YtkiklmmpflndbaaDoor.P
namespace Go.Proofs.YtkiklmmpflndbaaDoor.P
open Go.RowKit Go.Proofs.YtkiklmmpflndbaaDoorW.PrintWords Go.Proofs.YtkiklmmpflndbaaDoorW.PrintLast Go.Proofs.YtkiklmmpflndbaaDoorW.PrintMore
def putS : List (Option ByteArray) → List ByteArray → List ByteArray
 | [], _ => []
 | none :: o, [] => []
 | none :: o, s :: ss => s :: putS o ss
 | some t :: o, ss => t :: putS o ss
def nones (o : List (Option ByteArray)) : Nat := (o.filter (·.isNone)).length
def askB (t : ByteArray) : Bool := decide (t.data.toList.head? = some 63)
theorem putS_do : ∀ (u : List U) (s : List ByteArray), nones (olds u) = s.length → doU u (putS (olds u) s) = some (putS (news u) s)
 | [], s, h => rfl
 | .skip :: u, [], h => by simp [olds, nones] at h
 | .skip :: u, x :: s, h => by
  have := putS_do u s (by simpa [olds, nones] using h)
  simp only [olds, news, putS, doU, this, Option.map_some]
 | .keep t :: u, s, h => by
  have := putS_do u s (by simpa [olds, nones] using h)
  simp only [olds, news, putS, doU, this, if_true, Option.map_some]
 | .del t :: u, s, h => by
  have := putS_do u s (by simpa [olds, nones] using h)
  simp only [olds, news, putS, doU, this, if_true]
 | .ins t :: u, s, h => by
  have := putS_do u s (by simpa [olds, nones] using h)
  simp only [olds, news, putS, doU, this, Option.map_some]
theorem nones_eq : ∀ u : List U, nones (news u) = nones (olds u)
 | [] => rfl
 | .skip :: u => by have := nones_eq u; simp only [olds, news, nones, List.filter_cons, Option.isNone_none, if_true, List.length_cons] at this ⊢; omega
 | .keep t :: u => by have := nones_eq u; simpa only [olds, news, nones, List.filter_cons, Option.isNone_some, Bool.false_eq_true, if_false] using this
 | .del t :: u => by have := nones_eq u; simpa only [olds, news, nones, List.filter_cons, Option.isNone_some, Bool.false_eq_true, if_false] using this
 | .ins t :: u => by have := nones_eq u; simpa only [olds, news, nones, List.filter_cons, Option.isNone_some, Bool.false_eq_true, if_false] using this
theorem putS_whole : ∀ (o : List (Option ByteArray)) (s : List ByteArray) (e : Bool), textS o = true → closedS e o = true → (∀ x ∈ s, rightT x = true ∧ openT x = false) → textS ((putS o s).map some) = true ∧ closedS e ((putS o s).map some) = true
 | [], s, e, _, _, _ => by cases e <;> exact ⟨rfl, rfl⟩
 | _ :: o, s, true, _, h, _ => by simp [closedS] at h
 | none :: o, [], false, _, _, _ => ⟨rfl, rfl⟩
 | none :: o, x :: s, false, h1, h2, h3 => by
  obtain ⟨a, b⟩ := h3 x (List.mem_cons_self ..)
  obtain ⟨c, d⟩ := putS_whole o s false (by simpa [textS] using h1) (by simpa [closedS] using h2) (fun y hy => h3 y (List.mem_cons_of_mem _ hy))
  refine ⟨?_, ?_⟩
  ·simp only [putS, List.map_cons, textS, List.all_cons, a, Bool.true_and] at c ⊢; exact c
  ·simp only [putS, List.map_cons, closedS, b]; exact d
 | some t :: o, s, false, h1, h2, h3 => by
  simp only [textS, List.all_cons, Bool.and_eq_true] at h1
  obtain ⟨c, d⟩ := putS_whole o s (openT t) h1.2 (by simpa [closedS] using h2) h3
  refine ⟨?_, ?_⟩
  ·simp only [putS, List.map_cons, textS, List.all_cons, h1.1, Bool.true_and] at c ⊢; exact c
  ·simp only [putS, List.map_cons, closedS]; exact d
theorem putS_wholeL {o : List (Option ByteArray)} {s : List ByteArray} (h : okS o = true) (h3 : ∀ x ∈ s, rightT x = true ∧ openT x = false) : wholeL (putS o s) = true := by
 unfold okS at h
 simp only [Bool.and_eq_true] at h
 obtain ⟨a, b⟩ := putS_whole o s false h.1 h.2.1 h3
 rw [whole_closed, a, b]; rfl
end Go.Proofs.YtkiklmmpflndbaaDoor.P
namespace Go.Proofs.YtkiklmmpflndbaaDoor.P
open Go.RowKit Go.Proofs.YtkiklmmpflndbaaDoorW.PrintWords Go.Proofs.YtkiklmmpflndbaaDoorW.PrintLast Go.Proofs.YtkiklmmpflndbaaDoorW.PrintMore
def digB (d : Nat) : ByteArray := (⟨#[48, 49, 50, 51, 52, 53, 54, 55, 56, 57]⟩ : ByteArray).extract d (d + 1)
theorem dig_all : ∀ d : Fin 10, (digB d.val).size = 1 ∧ (10 : UInt8) ∉ (digB d.val).data.toList := by decide +kernel
def numF : Nat → Nat → ByteArray
 | 0, n => digB (n % 10)
 | c + 1, n => if n > 9 then numF c (n / 10) ++ digB (n % 10) else digB (n % 10)
theorem num_facts : ∀ (c n : Nat), (numF c n).size ≤ c + 1 ∧ (10 : UInt8) ∉ (numF c n).data.toList
 | 0, n => by
  have := dig_all ⟨n % 10, by omega⟩
  exact ⟨by rw [numF]; have := this.1; dsimp only at this; omega, this.2⟩
 | c + 1, n => by
  have d := dig_all ⟨n % 10, by omega⟩
  have d1 : (digB (n % 10)).size = 1 := d.1
  obtain ⟨i1, i2⟩ := num_facts c (n / 10)
  rw [numF]
  split
  ·refine ⟨by rw [ByteArray.size_append]; omega, ?_⟩
   rw [ByteArray.data_append, Array.toList_append]
   intro h
   rcases List.mem_append.mp h with h | h
   ·exact i2 h
   ·exact d.2 h
  ·exact ⟨by omega, d.2⟩
end Go.Proofs.YtkiklmmpflndbaaDoor.P
namespace Go.Proofs.YtkiklmmpflndbaaDoor.P
open Go.RowKit Go.Proofs.YtkiklmmpflndbaaDoorW.PrintWords Go.Proofs.YtkiklmmpflndbaaDoorW.PrintLast Go.Proofs.YtkiklmmpflndbaaDoorW.PrintMore
def lineN (n : Nat) : ByteArray := ((⟨#[63]⟩ : ByteArray) ++ numF 4 n) ++ (⟨#[10]⟩ : ByteArray)
def witU : Nat → List U → List ByteArray
 | _, [] => []
 | n, .skip :: u => lineN n :: witU (n + 1) u
 | n, .keep t :: u => t :: witU (n + 1) u
 | n, .del t :: u => t :: witU (n + 1) u
 | n, .ins _ :: u => witU n u
theorem wit_app : ∀ (a b : List U) (n : Nat), witU n (a ++ b) = witU n a ++ witU (n + (olds a).length) b
 | [], b, n => rfl
 | x :: a, b, n => by
  cases x with
  | ins t => simp only [List.cons_append, witU, olds, wit_app a b n]
  | skip => simp only [List.cons_append, witU, olds, wit_app a b (n + 1), List.length_cons, Nat.add_assoc, Nat.add_comm 1]
  | keep t => simp only [List.cons_append, witU, olds, wit_app a b (n + 1), List.length_cons, Nat.add_assoc, Nat.add_comm 1]
  | del t => simp only [List.cons_append, witU, olds, wit_app a b (n + 1), List.length_cons, Nat.add_assoc, Nat.add_comm 1]
theorem wit_len : ∀ (u : List U) (n : Nat), (witU n u).length = (olds u).length
 | [], n => rfl
 | x :: u, n => by cases x <;> simp only [witU, olds, List.length_cons, wit_len u]
theorem line_size (n : Nat) : 1 + (numF 4 n).size ≤ 9223372036854775807 ∧ ((⟨#[63]⟩ : ByteArray) ++ numF 4 n).size + 1 ≤ 9223372036854775807 ∧ (lineN n).size ≤ 7 := by
 have := (num_facts 4 n).1
 have a : ((⟨#[63]⟩ : ByteArray) ++ numF 4 n).size = 1 + (numF 4 n).size := by rw [ByteArray.size_append]; rfl
 have b : (lineN n).size = ((⟨#[63]⟩ : ByteArray) ++ numF 4 n).size + 1 := by unfold lineN; rw [ByteArray.size_append]; rfl
 omega
def witL (l : List Op) : List ByteArray := if rightL l = true ∧ capd 3 l ≤ 5000 then witU 0 (ex l) else []
theorem olds_capd {l : List Op} (h : rightL l = true) : capd 3 l = ((olds (ex l)).length : Int) := by
 have hf := rightL_form h
 unfold capd
 rw [sums_olds l hf]
 have := (rightL_ok h).2.1
 rw [sums_olds l hf] at this
 unfold far
 omega
end Go.Proofs.YtkiklmmpflndbaaDoor.P
namespace Go.Proofs.YtkiklmmpflndbaaDoor.P
open Go.RowKit Go.Proofs.YtkiklmmpflndbaaDoorW.PrintWords Go.Proofs.YtkiklmmpflndbaaDoorW.PrintLast Go.Proofs.YtkiklmmpflndbaaDoorW.PrintMore
def skl : Nat → List U → List ByteArray
 | _, [] => []
 | n, .skip :: u => lineN n :: skl (n + 1) u
 | n, .keep _ :: u => skl (n + 1) u
 | n, .del _ :: u => skl (n + 1) u
 | n, .ins _ :: u => skl n u
theorem nones_none (o : List (Option ByteArray)) : nones (none :: o) = nones o + 1 := by simp [nones]
theorem nones_some (t : ByteArray) (o : List (Option ByteArray)) : nones (some t :: o) = nones o := by simp [nones]
theorem wit_put : ∀ (u : List U) (n : Nat), witU n u = putS (olds u) (skl n u) ∧ (skl n u).length = nones (olds u)
 | [], n => ⟨rfl, rfl⟩
 | x :: u, n => by
  cases x with
  | ins t => obtain ⟨a, b⟩ := wit_put u n; exact ⟨by simp only [witU, olds, skl]; exact a, by simp only [olds, skl]; exact b⟩
  | skip => obtain ⟨a, b⟩ := wit_put u (n + 1); exact ⟨by simp only [witU, olds, skl, putS, a], by simp only [olds, skl, nones_none, List.length_cons, b]⟩
  | keep t => obtain ⟨a, b⟩ := wit_put u (n + 1); exact ⟨by simp only [witU, olds, skl, putS, a], by simp only [olds, skl, nones_some, b]⟩
  | del t => obtain ⟨a, b⟩ := wit_put u (n + 1); exact ⟨by simp only [witU, olds, skl, putS, a], by simp only [olds, skl, nones_some, b]⟩
theorem line_data (n : Nat) : (lineN n).data.toList = 63 :: ((numF 4 n).data.toList ++ [10]) := by
 unfold lineN
 rw [ByteArray.data_append, Array.toList_append, ByteArray.data_append, Array.toList_append]; rfl
theorem line_ok (n : Nat) : rightT (lineN n) = true ∧ openT (lineN n) = false ∧ askB (lineN n) = true := by
 have d := line_data n
 have m := (num_facts 4 n).2
 refine ⟨?_, ?_, ?_⟩
 ·unfold rightT
  rw [d]
  have e : (63 :: ((numF 4 n).data.toList ++ [10]) : List UInt8).dropLast = 63 :: (numF 4 n).data.toList := by
   rw [← List.cons_append, List.dropLast_concat]
  rw [e]
  have : (10 : UInt8) ∉ (63 : UInt8) :: (numF 4 n).data.toList := by
   intro h
   rcases List.mem_cons.mp h with h | h
   ·exact absurd h (by decide)
   ·exact m h
  simp [this]
 ·unfold openT
  rw [d, ← List.cons_append, List.getLast?_concat]; simp
 ·unfold askB
  rw [d]; rfl
theorem skl_all : ∀ (u : List U) (n : Nat), ∀ x ∈ skl n u, ∃ m, x = lineN m
 | [], n, x, h => by simp [skl] at h
 | y :: u, n, x, h => by
  cases y with
  | ins t => exact skl_all u n x h
  | skip =>
   rcases List.mem_cons.mp h with h | h
   ·exact ⟨n, h⟩
   ·exact skl_all u (n + 1) x h
  | keep t => exact skl_all u (n + 1) x h
  | del t => exact skl_all u (n + 1) x h
theorem putS_len : ∀ (o : List (Option ByteArray)) (s : List ByteArray), (putS o s).length ≤ o.length
 | [], s => by cases s <;> simp [putS]
 | none :: o, [] => by simp [putS]
 | none :: o, x :: s => by have := putS_len o s; simp only [putS, List.length_cons]; omega
 | some t :: o, s => by have := putS_len o s; simp only [putS, List.length_cons]; omega
theorem putS_mem : ∀ (o : List (Option ByteArray)) (s : List ByteArray), ∀ y ∈ putS o s, some y ∈ o ∨ y ∈ s
 | [], s, y, h => by cases s <;> simp [putS] at h
 | none :: o, [], y, h => by simp [putS] at h
 | none :: o, x :: s, y, h => by
  simp only [putS] at h
  rcases List.mem_cons.mp h with rfl | h
  ·exact .inr (List.mem_cons_self ..)
  ·rcases putS_mem o s y h with h | h
   ·exact .inl (List.mem_cons_of_mem _ h)
   ·exact .inr (List.mem_cons_of_mem _ h)
 | some t :: o, s, y, h => by
  simp only [putS] at h
  rcases List.mem_cons.mp h with rfl | h
  ·exact .inl (List.mem_cons_self ..)
  ·rcases putS_mem o s y h with h | h
   ·exact .inl (List.mem_cons_of_mem _ h)
   ·exact .inr h
theorem putS_all : ∀ (o : List (Option ByteArray)) (s : List ByteArray), nones o = s.length → (putS o s).length = o.length
 | [], s, _ => by simp [putS]
 | none :: o, [], h => by rw [nones_none] at h; simp at h
 | none :: o, x :: s, h => by
  rw [nones_none, List.length_cons] at h
  simp only [putS, List.length_cons, putS_all o s (by omega)]
 | some t :: o, s, h => by
  rw [nones_some] at h
  simp only [putS, List.length_cons, putS_all o s h]
theorem olds_mem {y : ByteArray} : ∀ u : List U, some y ∈ olds u → ∃ x ∈ u, y = txU x
 | [], h => by simp [olds] at h
 | x :: u, h => by
  have lift : (∃ z ∈ u, y = txU z) → ∃ z ∈ x :: u, y = txU z := fun ⟨z, hz, e⟩ => ⟨z, List.mem_cons_of_mem _ hz, e⟩
  cases x with
  | ins t => exact lift (olds_mem u h)
  | skip =>
   rcases List.mem_cons.mp h with h | h
   ·simp at h
   ·exact lift (olds_mem u h)
  | keep t =>
   rcases List.mem_cons.mp h with h | h
   ·exact ⟨_, List.mem_cons_self .., Option.some.inj h⟩
   ·exact lift (olds_mem u h)
  | del t =>
   rcases List.mem_cons.mp h with h | h
   ·exact ⟨_, List.mem_cons_self .., Option.some.inj h⟩
   ·exact lift (olds_mem u h)
theorem wit_do {l : List Op} (hr : rightL l = true) (hc : capd 3 l ≤ 5000) : witL l = putS (olds (ex l)) (skl 0 (ex l)) ∧ doL l (witL l) = (putS (news (ex l)) (skl 0 (ex l)), true) ∧
  (witL l).length = (olds (ex l)).length ∧ (putS (news (ex l)) (skl 0 (ex l))).length = (news (ex l)).length ∧ (olds (ex l)).length ≤ 5000 := by
 have wl : witL l = putS (olds (ex l)) (skl 0 (ex l)) := by
  unfold witL
  rw [if_pos ⟨hr, hc⟩, (wit_put (ex l) 0).1]
 have sl := (wit_put (ex l) 0).2
 have ru := rightL_U hr
 have ok : okS (olds (ex l)) = true ∧ okS (news (ex l)) = true := by
  unfold rightU at ru
  simpa using ru
 have all3 : ∀ x ∈ skl 0 (ex l), rightT x = true ∧ openT x = false := by
  intro x hx
  obtain ⟨m, rfl⟩ := skl_all _ _ x hx
  exact ⟨(line_ok m).1, (line_ok m).2.1⟩
 have d1 : doU (ex l) (putS (olds (ex l)) (skl 0 (ex l))) = some (putS (news (ex l)) (skl 0 (ex l))) := putS_do _ _ sl.symm
 have lo := olds_capd hr
 refine ⟨wl, ?_, ?_, ?_, by omega⟩
 ·rw [wl]
  exact doL_of hr (putS_wholeL ok.1 all3) d1 (putS_wholeL ok.2 all3)
 ·rw [wl]; exact putS_all _ _ sl.symm
 ·exact putS_all _ _ (by rw [nones_eq]; exact sl.symm)
theorem wit_SmT {l : List Op} (hs : Sm l) : SmT (witL l) := by
 unfold witL
 split
 ·rename_i h
  obtain ⟨hr, hc⟩ := h
  have lo := olds_capd hr
  rw [(wit_put (ex l) 0).1]
  refine ⟨by have := putS_len (olds (ex l)) (skl 0 (ex l)); omega, fun y hy => ?_⟩
  rcases putS_mem _ _ y hy with h1 | h1
  ·have he : ByteArray.empty.size = 0 := rfl
   obtain ⟨x, hx, rfl⟩ := olds_mem _ h1
   rcases tx_ex hx with e | ⟨o, ho, e⟩
   ·rw [e, he]; omega
   ·rw [e]; exact hs.2 o ho
  ·obtain ⟨m, rfl⟩ := skl_all _ _ y h1
   have := (line_size m).2.2
   omega
 ·exact SmT.of_wt (by decide)
theorem wit_le (l : List Op) : (witL l).length ≤ 5000 := by
 by_cases h : rightL l = true ∧ capd 3 l ≤ 5000
 ·obtain ⟨_, _, a, _, b⟩ := wit_do h.1 h.2
  omega
 ·unfold witL
  rw [if_neg h]; simp
end Go.Proofs.YtkiklmmpflndbaaDoor.P
namespace Go.Proofs.YtkiklmmpflndbaaDoor.P
open Go.RowKit Go.Proofs.YtkiklmmpflndbaaDoorW.PrintWords Go.Proofs.YtkiklmmpflndbaaDoorW.PrintLast Go.Proofs.YtkiklmmpflndbaaDoorW.PrintMore
abbrev TU := U × Int
def okT (w : List TU) : Prop := ∀ x ∈ w, isCh x.1 = true → x.2 = 1 ∨ x.2 = 2
theorem okT.tail {x : TU} {w : List TU} (h : okT (x :: w)) : okT w := fun y hy => h y (List.mem_cons_of_mem _ hy)
theorem okT.head {x : TU} {w : List TU} (h : okT (x :: w)) (hc : isCh x.1 = true) : x.2 = 1 ∨ x.2 = 2 := h x (List.mem_cons_self ..) hc
theorem okT.nil : okT [] := fun x h => by simp at h
end Go.Proofs.YtkiklmmpflndbaaDoor.P
namespace Go.Proofs.YtkiklmmpflndbaaDoor.P
open Go.RowKit Go.Proofs.YtkiklmmpflndbaaDoorW.PrintWords Go.Proofs.YtkiklmmpflndbaaDoorW.PrintLast Go.Proofs.YtkiklmmpflndbaaDoorW.PrintMore
def midT : U → U → Option (List TU)
 | .skip, .skip => some [(.skip, 0)]
 | .skip, .keep t => some [(.keep t, 0)]
 | .skip, .del t => some [(.del t, 2)]
 | .keep s, .skip => some [(.keep s, 0)]
 | .keep s, .keep t => if s = t then some [(.keep t, 0)] else none
 | .keep s, .del t => if s = t then some [(.del t, 2)] else none
 | .ins s, .skip => some [(.ins s, 1)]
 | .ins s, .keep t => if s = t then some [(.ins s, 1)] else none
 | .ins s, .del t => if s = t then some [(.ins s, 3)] else none
 | _, _ => none
def opnX : U → Bool
 | .skip => false
 | x => openT (txU x)
def opM (x y : U) : Bool := opnX x || opnX y
def inner (x : U) (f : Bool → List U → Option (List TU)) : Bool → List U → Option (List TU)
 | e, [] => if e = true then none else (midT x .skip).bind fun a => (f (opM x .skip) []).map (a ++ ·)
 | e, y :: q => match y with
  | .ins t => (inner x f e q).map ((.ins t, 2) :: ·)
  | y => if e = true then none else (midT x y).bind fun a => (f (opM x y) q).map (a ++ ·)
def endQ : Bool → List U → Option (List TU)
 | _, [] => some []
 | e, y :: q => match y with
  | .ins t => (endQ e q).map ((.ins t, 2) :: ·)
  | y => if e = true then none else (midT .skip y).bind fun a => (endQ (opM .skip y) q).map (a ++ ·)
def cmpT : List U → Bool → List U → Option (List TU)
 | [] => endQ
 | x :: p => match x with
  | .del t => fun e q => (cmpT p e q).map ((.del t, 1) :: ·)
  | x => inner x (cmpT p)
def nxU : List U → U
 | [] => .skip
 | x :: _ => x
theorem nxU_cons (x : U) (p : List U) : nxU (x :: p) = x := rfl
def NoD (p : List U) : Prop := ∀ t r, p ≠ .del t :: r
def NoI (p : List U) : Prop := ∀ t r, p ≠ .ins t :: r
theorem cmpT_nil (e : Bool) : cmpT [] e [] = some [] := rfl
theorem cmpT_del (t : ByteArray) (p q : List U) (e : Bool) : cmpT (.del t :: p) e q = (cmpT p e q).map ((.del t, 1) :: ·) := rfl
theorem cmpT_ins {p : List U} (h : NoD p) (t : ByteArray) (q : List U) (e : Bool) : cmpT p e (.ins t :: q) = (cmpT p e q).map ((.ins t, 2) :: ·) := by
 cases p with
 | nil => rfl
 | cons x p => cases x <;> first | rfl | exact absurd rfl (h _ _)
theorem cmpT_mid {p q : List U} (hp : NoD p) (hq : NoI q) (hne : p ≠ [] ∨ q ≠ []) (e : Bool) :
  cmpT p e q = if e = true then none else (midT (nxU p) (nxU q)).bind fun a => (cmpT p.tail (opM (nxU p) (nxU q)) q.tail).map (a ++ ·) := by
 cases p with
 | nil =>
  cases q with
  | nil => simp at hne
  | cons y q => cases y <;> first | rfl | exact absurd rfl (hq _ _)
 | cons x p =>
  cases q with
  | nil => cases x <;> first | rfl | exact absurd rfl (hp _ _)
  | cons y q =>
   cases x <;> first | exact absurd rfl (hp _ _) | (cases y <;> first | rfl | exact absurd rfl (hq _ _))
theorem walk_ind {C : List U → List U → Prop} (nil : C [] []) (del : ∀ t p q, C p q → C (.del t :: p) q) (ins : ∀ t p q, NoD p → C p q → C p (.ins t :: q))
  (mid : ∀ p q, NoD p → NoI q → p ≠ [] ∨ q ≠ [] → C p.tail q.tail → C p q) : ∀ p q, C p q := by
 have all : ∀ n p q, p.length + q.length ≤ n → C p q := by
  intro n
  induction n with
  | zero =>
   intro p q h
   obtain rfl : p = [] := List.length_eq_zero_iff.mp (by omega)
   obtain rfl : q = [] := List.length_eq_zero_iff.mp (by omega)
   exact nil
  | succ n ih =>
   intro p q h
   by_cases hp : NoD p
   ·by_cases hq : NoI q
    ·by_cases hne : p ≠ [] ∨ q ≠ []
     ·refine mid p q hp hq hne (ih _ _ ?_)
      rw [List.length_tail, List.length_tail]
      rcases hne with h0 | h0
      ·have := List.length_pos_iff.mpr h0; omega
      ·have := List.length_pos_iff.mpr h0; omega
     ·have h1 : p = [] := Classical.byContradiction fun x => hne (.inl x)
      have h2 : q = [] := Classical.byContradiction fun x => hne (.inr x)
      rw [h1, h2]; exact nil
    ·cases q with
     | nil => exact absurd (fun t r e => by simp at e) hq
     | cons y q =>
      cases y with
      | ins t => exact ins t p q hp (ih _ _ (by simp only [List.length_cons] at h; omega))
      | skip => exact absurd (fun t r e => by simp at e) hq
      | keep t => exact absurd (fun t r e => by simp at e) hq
      | del t => exact absurd (fun t r e => by simp at e) hq
   ·cases p with
    | nil => exact absurd (fun t r e => by simp at e) hp
    | cons x p =>
     cases x with
     | del t => exact del t p q (ih _ _ (by simp only [List.length_cons] at h; omega))
     | skip => exact absurd (fun t r e => by simp at e) hp
     | keep t => exact absurd (fun t r e => by simp at e) hp
     | ins t => exact absurd (fun t r e => by simp at e) hp
 exact fun p q => all _ p q (Nat.le_refl _)
def un (w : List TU) : List U := (w.filter fun x => decide (x.2 ≠ 3)).map (·.1)
theorem un_app (a b : List TU) : un (a ++ b) = un a ++ un b := by simp [un]
theorem un_cons {x : TU} (h : x.2 ≠ 3) (w : List TU) : un (x :: w) = x.1 :: un w := by simp [un, h]
def midU (x y : U) : Option (List U) := (midT x y).map un
def cmpU (p : List U) (e : Bool) (q : List U) : Option (List U) := (cmpT p e q).map un
theorem cmpU_nil (e : Bool) : cmpU [] e [] = some [] := rfl
theorem cmpU_del (t : ByteArray) (p q : List U) (e : Bool) : cmpU (.del t :: p) e q = (cmpU p e q).map (.del t :: ·) := by
 unfold cmpU
 rw [cmpT_del, Option.map_map, Option.map_map]
 congr 1
theorem cmpU_ins {p : List U} (h : NoD p) (t : ByteArray) (q : List U) (e : Bool) : cmpU p e (.ins t :: q) = (cmpU p e q).map (.ins t :: ·) := by
 unfold cmpU
 rw [cmpT_ins h, Option.map_map, Option.map_map]
 congr 1
theorem cmpU_mid {p q : List U} (hp : NoD p) (hq : NoI q) (hne : p ≠ [] ∨ q ≠ []) (e : Bool) :
  cmpU p e q = if e = true then none else (midU (nxU p) (nxU q)).bind fun a => (cmpU p.tail (opM (nxU p) (nxU q)) q.tail).map (a ++ ·) := by
 unfold cmpU midU
 rw [cmpT_mid hp hq hne]
 split
 ·rfl
 ·cases midT (nxU p) (nxU q) with
  | none => rfl
  | some a =>
   simp only [Option.bind_some, Option.map_some, Option.map_map]
   congr 1
   funext r
   exact un_app a r
def AllDel (I : List U) : Prop := ∀ x ∈ I, ∃ t, x = .del t
theorem AllIns.one (t : ByteArray) : AllIns [.ins t] := fun x hx => ⟨t, List.mem_singleton.mp hx⟩
theorem AllDel.one (t : ByteArray) : AllDel [.del t] := fun x hx => ⟨t, List.mem_singleton.mp hx⟩
theorem AllDel.nil : AllDel [] := fun x h => by simp at h
theorem AllIns.tail {x : U} {I : List U} (h : AllIns (x :: I)) : AllIns I := fun y hy => h y (List.mem_cons_of_mem _ hy)
theorem AllIns.head {x : U} {I : List U} (h : AllIns (x :: I)) : ∃ t, x = .ins t := h x (List.mem_cons_self ..)
end Go.Proofs.YtkiklmmpflndbaaDoor.P
namespace Go.Proofs.YtkiklmmpflndbaaDoor.P
open Go.RowKit Go.Proofs.YtkiklmmpflndbaaDoorW.PrintWords Go.Proofs.YtkiklmmpflndbaaDoorW.PrintLast Go.Proofs.YtkiklmmpflndbaaDoorW.PrintMore
inductive Cmp : List U → List U → List U → Prop
 | nil : Cmp [] [] []
 | del (t : ByteArray) {p q w : List U} : Cmp p q w → Cmp (.del t :: p) q (.del t :: w)
 | ins (t : ByteArray) {p q w : List U} : NoD p → Cmp p q w → Cmp p (.ins t :: q) (.ins t :: w)
 | mid {p q a w : List U} : NoD p → NoI q → p ≠ [] ∨ q ≠ [] → midU (nxU p) (nxU q) = some a → Cmp p.tail q.tail w → Cmp p q (a ++ w)
theorem Cmp.of : ∀ p q, ∀ (e : Bool) (w : List U), cmpU p e q = some w → Cmp p q w := by
 refine walk_ind ?_ ?_ ?_ ?_
 ·intro e w h
  rw [cmpU_nil] at h
  rw [← Option.some.inj h]; exact .nil
 ·intro t p q ih e w h
  rw [cmpU_del] at h
  obtain ⟨w', h', rfl⟩ := Option.map_eq_some_iff.mp h
  exact .del t (ih e w' h')
 ·intro t p q hp ih e w h
  rw [cmpU_ins hp] at h
  obtain ⟨w', h', rfl⟩ := Option.map_eq_some_iff.mp h
  exact .ins t hp (ih e w' h')
 ·intro p q hp hq hne ih e w h
  rw [cmpU_mid hp hq hne] at h
  split at h
  ·simp at h
  ·obtain ⟨a, ha, h⟩ := Option.bind_eq_some_iff.mp h
   obtain ⟨w', h', rfl⟩ := Option.map_eq_some_iff.mp h
   exact .mid hp hq hne ha (ih _ w' h')
end Go.Proofs.YtkiklmmpflndbaaDoor.P
namespace Go.Proofs.YtkiklmmpflndbaaDoor.P
open Go.RowKit Go.Proofs.YtkiklmmpflndbaaDoorW.PrintWords Go.Proofs.YtkiklmmpflndbaaDoorW.PrintLast Go.Proofs.YtkiklmmpflndbaaDoorW.PrintMore
theorem Sm.of_wt {l : List Op} (h : (l.map wtOp).sum ≤ 1099511627776) : Sm l := by
 induction l with
 | nil => exact .nil
 | cons o l ih =>
  rw [List.map_cons, List.sum_cons] at h
  unfold wtOp at h
  obtain ⟨i1, i2⟩ := ih (by unfold wtOp; omega)
  have hl : ∀ l : List Op, l.length ≤ (l.map wtOp).sum := by
   intro l
   induction l with
   | nil => simp
   | cons x l ih => rw [List.map_cons, List.sum_cons, List.length_cons]; unfold wtOp at *; omega
  have := hl l
  unfold wtOp at this
  refine ⟨by rw [List.length_cons]; omega, fun x hx => ?_⟩
  rcases List.mem_cons.mp hx with rfl | hx
  ·omega
  ·exact i2 x hx
def fewN (l : List Op) : Nat := (l.map fun o => 1 + o.f2.size).sum
theorem fewN_le (l : List Op) : fewN l ≤ (l.map wtOp).sum := by
 induction l with
 | nil => exact Nat.le_refl _
 | cons o l ih => simp only [fewN, List.map_cons, List.sum_cons] at ih ⊢; unfold wtOp at *; omega
theorem fewN_len (l : List Op) : l.length ≤ fewN l := by
 induction l with
 | nil => exact Nat.le_refl _
 | cons o l ih => simp only [fewN, List.map_cons, List.sum_cons, List.length_cons] at ih ⊢; omega
theorem few_loop (s : List Op) : ∀ (p : List Op), fewN (p ++ s) < 4398046511104 → Ev (fun k => patchworklaw8_Few.l0 k (p ++ s) (fewN p : Int) (p.length : Int)) (decide (fewN (p ++ s) ≤ 600)) := by
 induction s with
 | nil =>
  intro p _
  refine Ev.step (fun k => rfl) ?_
  simp only [patchworklaw8_Few.l0, lt_end, if_false]
  rw [List.append_nil, show decide (fewN p ≤ 600) = decide ((fewN p : Int) ≤ 600) from by
   have : fewN p ≤ 600 ↔ (fewN p : Int) ≤ 600 := by omega
   simp only [this]]
  exact Ev.now _
 | cons o s ih =>
  intro p hb
  have e : fewN (p ++ [o]) = fewN p + (1 + o.f2.size) := by simp [fewN]
  have e2 : fewN (p ++ o :: s) = fewN p + (1 + o.f2.size) + fewN s := by simp [fewN, Nat.add_assoc]
  have hl := fewN_len (p ++ o :: s)
  have := ih (p ++ [o]) (by simpa using hb)
  rw [List.append_assoc, List.singleton_append, e] at this
  have w : wrap64 (wrap64 ((fewN p : Int) + 1) + (o.f2.size : Int)) = ((fewN p + (1 + o.f2.size) : Nat) : Int) := by unfold wrap64; omega
  refine Ev.step (fun k => rfl) ?_
  simp only [patchworklaw8_Few.l0, lt_mid, nn_nat, if_true, rdOp_mid, w, wrap_len p o (by simp at hl; omega)]
  exact this
theorem few_ev {l : List Op} (h : fewN l < 4398046511104) : Ev (fun k => patchworklaw8_Few.f k l) (decide (fewN l ≤ 600)) := few_loop l [] h
end Go.Proofs.YtkiklmmpflndbaaDoor.P
namespace Go.Proofs.YtkiklmmpflndbaaDoor.P
open Go.RowKit Go.Proofs.YtkiklmmpflndbaaDoorW.PrintWords Go.Proofs.YtkiklmmpflndbaaDoorW.PrintLast Go.Proofs.YtkiklmmpflndbaaDoorW.PrintMore
theorem wholeL_cons {x : ByteArray} {l : List ByteArray} (h : wholeL (x :: l) = true) : rightT x = true ∧ wholeL l = true ∧ (openT x = true → l = []) := by
 unfold wholeL at h
 rw [Bool.and_eq_true] at h
 obtain ⟨h1, h2⟩ := h
 split at h2
 ·simp at h2
 ·rename_i c
  refine ⟨h1, h2, fun ho => ?_⟩
  by_cases e : l = []
  ·exact e
  ·exact absurd ⟨ho, e⟩ c
end Go.Proofs.YtkiklmmpflndbaaDoor.P
namespace Go.Proofs.YtkiklmmpflndbaaDoor.P
open Go.RowKit Go.Proofs.YtkiklmmpflndbaaDoorW.PrintWords Go.Proofs.YtkiklmmpflndbaaDoorW.PrintLast Go.Proofs.YtkiklmmpflndbaaDoorW.PrintMore
theorem doU_bal : ∀ (u : List U) (ls r : List ByteArray), doU u ls = some r → r.length + (olds u).length = ls.length + (news u).length ∧ (olds u).length ≤ ls.length
 | [], ls, r, h => by rw [doU] at h; obtain rfl := Option.some.inj h; simp [olds, news]
 | .ins t :: u, ls, r, h => by
  rw [doU] at h
  obtain ⟨r', h', rfl⟩ := Option.map_eq_some_iff.mp h
  have := doU_bal u ls r' h'
  simp only [olds, news, List.length_cons]; omega
 | .del t :: u, [], r, h => by rw [doU] at h; simp at h
 | .del t :: u, x :: ls, r, h => by
  rw [doU] at h
  split at h
  ·have := doU_bal u ls r h
   simp only [olds, news, List.length_cons]; omega
  ·simp at h
 | .keep t :: u, [], r, h => by rw [doU] at h; simp at h
 | .keep t :: u, x :: ls, r, h => by
  rw [doU] at h
  split at h
  ·obtain ⟨r', h', rfl⟩ := Option.map_eq_some_iff.mp h
   have := doU_bal u ls r' h'
   simp only [olds, news, List.length_cons]; omega
  ·simp at h
 | .skip :: u, [], r, h => by rw [doU] at h; simp at h
 | .skip :: u, x :: ls, r, h => by
  rw [doU] at h
  obtain ⟨r', h', rfl⟩ := Option.map_eq_some_iff.mp h
  have := doU_bal u ls r' h'
  simp only [olds, news, List.length_cons]; omega
theorem wholeL_mk {x : ByteArray} {l : List ByteArray} (h1 : rightT x = true) (h2 : wholeL l = true) (h3 : openT x = true → l = []) : wholeL (x :: l) = true := by
 unfold wholeL
 rw [h1, Bool.true_and]
 split
 ·rename_i c; exact absurd (h3 c.1) c.2
 ·exact h2
theorem textS_cons {t : ByteArray} {s : List (Option ByteArray)} (h : textS (some t :: s) = true) : rightT t = true ∧ textS s = true := by
 simpa [textS] using h
theorem textS_none1 {s : List (Option ByteArray)} (h : textS (none :: s) = true) : textS s = true := by simpa [textS] using h
end Go.Proofs.YtkiklmmpflndbaaDoor.P
namespace Go.Proofs.YtkiklmmpflndbaaDoor.P
open Go.RowKit Go.Proofs.YtkiklmmpflndbaaDoorW.PrintWords Go.Proofs.YtkiklmmpflndbaaDoorW.PrintLast Go.Proofs.YtkiklmmpflndbaaDoorW.PrintMore
def HD (p : List U) (x : U) (p' : List U) : Prop := p = x :: p' ∨ (p = [] ∧ x = .skip ∧ p' = [])
theorem HD.of (p : List U) : HD p (nxU p) p.tail := by
 cases p with
 | nil => exact .inr ⟨rfl, rfl, rfl⟩
 | cons x p => exact .inl rfl
inductive WT : List U → Bool → List U → List TU → Prop
 | nil (e : Bool) : WT [] e [] []
 | del (t : ByteArray) (p : List U) (e : Bool) (q : List U) (W : List TU) : WT p e q W → WT (.del t :: p) e q ((.del t, 1) :: W)
 | ins (t : ByteArray) (p : List U) (e : Bool) (q : List U) (W : List TU) : NoD p → WT p e q W → WT p e (.ins t :: q) ((.ins t, 2) :: W)
 | mid (p q p' q' : List U) (x y : U) (a : TU) (W : List TU) : HD p x p' → HD q y q' → (∀ t, x ≠ .del t) → (∀ t, y ≠ .ins t) → (p ≠ [] ∨ q ≠ []) → midT x y = some [a] → WT p' (opM x y) q' W → WT p false q (a :: W)
theorem midT_one {x y : U} {l : List TU} (h : midT x y = some l) : ∃ a, l = [a] := by
 cases x <;> cases y <;> simp only [midT] at h <;> first | (simp at h; done) | exact ⟨_, (Option.some.inj h).symm⟩ | (split at h <;> first | exact ⟨_, (Option.some.inj h).symm⟩ | (simp at h; done))
theorem nx_noD {p : List U} (h : NoD p) : ∀ t, nxU p ≠ .del t := by
 intro t e
 cases p with
 | nil => simp [nxU] at e
 | cons x p => rw [nxU_cons] at e; exact h t p (by rw [e])
theorem nx_noI {p : List U} (h : NoI p) : ∀ t, nxU p ≠ .ins t := by
 intro t e
 cases p with
 | nil => simp [nxU] at e
 | cons x p => rw [nxU_cons] at e; exact h t p (by rw [e])
theorem WT.of : ∀ p q, ∀ (e : Bool) (W : List TU), cmpT p e q = some W → WT p e q W := by
 refine walk_ind ?_ ?_ ?_ ?_
 ·intro e W h
  rw [cmpT_nil] at h
  obtain rfl := Option.some.inj h
  exact .nil e
 ·intro t p q ih e W h
  rw [cmpT_del] at h
  obtain ⟨W', h', rfl⟩ := Option.map_eq_some_iff.mp h
  exact .del t p e q W' (ih e W' h')
 ·intro t p q hp ih e W h
  rw [cmpT_ins hp] at h
  obtain ⟨W', h', rfl⟩ := Option.map_eq_some_iff.mp h
  exact .ins t p e q W' hp (ih e W' h')
 ·intro p q hp hq hne ih e W h
  rw [cmpT_mid hp hq hne] at h
  cases e with
  | true => simp at h
  | false =>
   simp only [Bool.false_eq_true, if_false] at h
   obtain ⟨l, h1, h2⟩ := Option.bind_eq_some_iff.mp h
   obtain ⟨a, rfl⟩ := midT_one h1
   obtain ⟨W', h', rfl⟩ := Option.map_eq_some_iff.mp h2
   exact .mid p q _ _ _ _ a W' (HD.of p) (HD.of q) (nx_noD hp) (nx_noI hq) hne h1 (ih _ W' h')
def no3 (W : List TU) : Prop := ∀ x ∈ W, x.2 ≠ 3
theorem no3.tail {x : TU} {W : List TU} (h : no3 (x :: W)) : no3 W := fun y hy => h y (List.mem_cons_of_mem _ hy)
theorem no3.head {x : TU} {W : List TU} (h : no3 (x :: W)) : x.2 ≠ 3 := h x (List.mem_cons_self ..)
def ownT (x : TU) : Prop := match x.1 with
 | .skip => x.2 = 0
 | .keep _ => x.2 = 0
 | .del _ => x.2 = 1 ∨ x.2 = 2
 | .ins _ => x.2 = 1 ∨ x.2 = 2
def owns (W : List TU) : Prop := ∀ x ∈ W, ownT x
theorem owns.tail {x : TU} {W : List TU} (h : owns (x :: W)) : owns W := fun y hy => h y (List.mem_cons_of_mem _ hy)
theorem owns.head {x : TU} {W : List TU} (h : owns (x :: W)) : ownT x := h x (List.mem_cons_self ..)
theorem owns.cons {x : TU} {W : List TU} (h : ownT x) (hw : owns W) : owns (x :: W) := by
 intro y hy
 rcases List.mem_cons.mp hy with rfl | hy
 ·exact h
 ·exact hw y hy
theorem owns.ok {W : List TU} (h : owns W) : okT W := by
 intro x hx hc
 have := h x hx
 obtain ⟨u, b⟩ := x
 cases u <;> simp [isCh] at hc <;> exact this
theorem mid_ways {x y : U} {a : TU} (h : midT x y = some [a]) (h3 : a.2 ≠ 3) :
  (x = .skip ∧ y = .skip ∧ a = (.skip, 0)) ∨ (∃ t, y = .keep t ∧ (x = .skip ∨ x = .keep t) ∧ a = (.keep t, 0)) ∨ (∃ t, y = .skip ∧ x = .keep t ∧ a = (.keep t, 0)) ∨
  (∃ t, y = .del t ∧ (x = .skip ∨ x = .keep t) ∧ a = (.del t, 2)) ∨ (∃ t, x = .ins t ∧ (y = .skip ∨ y = .keep t) ∧ a = (.ins t, 1)) := by
 cases x <;> cases y <;> simp only [midT] at h <;> first | (simp at h; done) | skip
 ·have := List.cons.inj (Option.some.inj h); exact .inl ⟨rfl, rfl, this.1.symm⟩
 ·rename_i t; have := List.cons.inj (Option.some.inj h); exact .inr (.inl ⟨t, rfl, .inl rfl, this.1.symm⟩)
 ·rename_i t; have := List.cons.inj (Option.some.inj h); exact .inr (.inr (.inr (.inl ⟨t, rfl, .inl rfl, this.1.symm⟩)))
 ·rename_i t; have := List.cons.inj (Option.some.inj h); exact .inr (.inr (.inl ⟨t, rfl, rfl, this.1.symm⟩))
 ·rename_i s t
  split at h
  ·rename_i e; subst e; have := List.cons.inj (Option.some.inj h); exact .inr (.inl ⟨_, rfl, .inr rfl, this.1.symm⟩)
  ·simp at h
 ·rename_i s t
  split at h
  ·rename_i e; subst e; have := List.cons.inj (Option.some.inj h); exact .inr (.inr (.inr (.inl ⟨_, rfl, .inr rfl, this.1.symm⟩)))
  ·simp at h
 ·rename_i t; have := List.cons.inj (Option.some.inj h); exact .inr (.inr (.inr (.inr ⟨t, rfl, .inl rfl, this.1.symm⟩)))
 ·rename_i s t
  split at h
  ·rename_i e; subst e; have := List.cons.inj (Option.some.inj h); exact .inr (.inr (.inr (.inr ⟨_, rfl, .inr rfl, this.1.symm⟩)))
  ·simp at h
 ·rename_i s t
  split at h
  ·have := List.cons.inj (Option.some.inj h); rw [← this.1] at h3; exact absurd rfl h3
  ·simp at h
theorem WT.owns {p : List U} {e : Bool} {q : List U} {W : List TU} (h : WT p e q W) (h3 : no3 W) : owns W := by
 induction h with
 | nil e => exact fun x hx => by simp at hx
 | del t p e q W _ ih => exact .cons (.inl rfl) (ih h3.tail)
 | ins t p e q W _ _ ih => exact .cons (.inr rfl) (ih h3.tail)
 | mid p q p' q' x y a W _ _ _ _ _ hm _ ih =>
  refine .cons ?_ (ih h3.tail)
  rcases mid_ways hm h3.head with ⟨_, _, rfl⟩ | ⟨t, _, _, rfl⟩ | ⟨t, _, _, rfl⟩ | ⟨t, _, _, rfl⟩ | ⟨t, _, _, rfl⟩
  ·rfl
  ·rfl
  ·rfl
  ·exact .inr rfl
  ·exact .inl rfl
theorem HD.eq {p p' : List U} {x : U} (h : HD p x p') (hx : x ≠ .skip) : p = x :: p' := by
 rcases h with h | ⟨_, h, _⟩
 ·exact h
 ·exact absurd h hx
def sw (x : TU) : TU := (x.1, if x.2 = 1 then 2 else if x.2 = 2 then 1 else x.2)
def pend (b : Int) (I : List TU) : Prop := ∀ x ∈ I, (∃ t, x = (.ins t, b)) ∧ (b = 1 ∨ b = 2)
theorem pend.nil (b : Int) : pend b [] := fun x hx => by simp at hx
theorem pend.tail {b : Int} {x : TU} {I : List TU} (h : pend b (x :: I)) : pend b I := fun y hy => h y (List.mem_cons_of_mem _ hy)
theorem pend.snoc {b c : Int} {I : List TU} (h : pend b I) (hb : b = 0 ∨ b = c) (hc : c = 1 ∨ c = 2) (t : ByteArray) : pend c (I ++ [(.ins t, c)]) := by
 intro x hx
 rcases List.mem_append.mp hx with hx | hx
 ·obtain ⟨⟨s, rfl⟩, h0⟩ := h x hx
  rcases hb with hb | hb
  ·omega
  ·exact ⟨⟨s, by rw [hb]⟩, hc⟩
 ·exact ⟨⟨t, List.mem_singleton.mp hx⟩, hc⟩
theorem pend.same {b c : Int} {I : List TU} (h : pend b I) (hb : b = 0 ∨ b = c) : pend c I := by
 intro x hx
 obtain ⟨⟨s, rfl⟩, h0⟩ := h x hx
 rcases hb with hb | hb
 ·omega
 ·subst hb; exact ⟨⟨s, rfl⟩, h0⟩
def swT (W : List TU) : List TU := W.map sw
theorem owns.sw {W : List TU} (h : owns W) : owns (swT W) := by
 intro x hx
 obtain ⟨y, hy, rfl⟩ := List.mem_map.mp hx
 have := h y hy
 obtain ⟨u, b⟩ := y
 cases u with
 | skip => have h : b = 0 := this; subst h; rfl
 | keep t => have h : b = 0 := this; subst h; rfl
 | del t => rcases this with h | h <;> (have h : b = _ := h; subst h; simp [P.sw, ownT])
 | ins t => rcases this with h | h <;> (have h : b = _ := h; subst h; simp [P.sw, ownT])
end Go.Proofs.YtkiklmmpflndbaaDoor.P
