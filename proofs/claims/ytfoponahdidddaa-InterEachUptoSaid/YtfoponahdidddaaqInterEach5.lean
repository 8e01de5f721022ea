/- Own and printed texts that the theorem of InterEach reaches, put together. -/
import Derived.Test.YtfoponahdidddaaqInterEach4
import Derived.Test.YtfoponahdidddaaqInterEach3
import Derived.WideShapes
import Derived.Lib.Strings
set_option linter.unusedVariables false
set_option linter.unusedSimpArgs false
namespace Go.Proofs.Ytfoponahdidddaa.P
open Go.RowKit Go.Proofs.YtfoponahdidddaaW.PrintWords Go.Proofs.YtfoponahdidddaaW.PrintLast Go.Proofs.YtfoponahdidddaaW.PrintMore
attribute [local go_sem] max2_int min2_int max_two min_two max_three min_three max_four min_four
def patchworklaw14_InterEach.j0 : Nat → Int → Bool → List (List (Op)) → List (List (Op)) → List (List (Op)) → Bool → Option (Bool)
 | 0, _, _, _, _, _, _ => none
 | k + 1, x0, x3, x11, x12, x13, x100 => if x100 = true then (some x3) else (if 0 ≤ x0 then (if x0 < (x11.length : Int) then (if x0 < (x12.length : Int) then ((inter_Ops.f k (rd_L5 x11 x0) (rd_L5 x12 x0)).bind fun bt1087 => (if (bt1087.2 == (decide (x0 < 8))) = true then (if x0 < (x13.length : Int) then ((patchworkref8_Same.f k bt1087.1 (rd_L5 x13 x0)).bind fun t1092 => (some t1092)) else (none)) else (some false))) else (none)) else (none)) else (none))
def patchworklaw14_InterEach.f (k : Nat) (a0 : Int) : Option (Bool) := (patchworklaw14_alive.f k).bind fun t990 => ((some (([(([(⟨3, 0, (⟨#[97, 10]⟩ : ByteArray)⟩ : Op)] : List (Op))), (([(⟨3, 0, (⟨#[97, 10]⟩ : ByteArray)⟩ : Op)] : List (Op))), (([] : List (Op))), (([(⟨3, 0, (⟨#[97, 10]⟩ : ByteArray)⟩ : Op), (⟨4, 0, (⟨#[98, 10]⟩ : ByteArray)⟩ : Op)] : List (Op))), (([(⟨3, 0, (⟨#[97, 10]⟩ : ByteArray)⟩ : Op), (⟨4, 0, (⟨#[98, 10]⟩ : ByteArray)⟩ : Op)] : List (Op))), (([(⟨4, 0, (⟨#[98, 10]⟩ : ByteArray)⟩ : Op)] : List (Op))), (([(⟨2, 0, (⟨#[97, 10]⟩ : ByteArray)⟩ : Op)] : List (Op))), (([(⟨1, 2, (⟨#[]⟩ : ByteArray)⟩ : Op), (⟨4, 0, (⟨#[98, 10]⟩ : ByteArray)⟩ : Op)] : List (Op))), (([(⟨3, 0, (⟨#[122, 10]⟩ : ByteArray)⟩ : Op)] : List (Op)))] : List (List (Op))) : List (List (Op)))).bind fun y1025 => ((some (([(([] : List (Op))), (([(⟨3, 0, (⟨#[97, 10]⟩ : ByteArray)⟩ : Op)] : List (Op))), (([(⟨3, 0, (⟨#[97, 10]⟩ : ByteArray)⟩ : Op)] : List (Op))), (([(⟨3, 0, (⟨#[97, 10]⟩ : ByteArray)⟩ : Op), (⟨4, 0, (⟨#[99, 10]⟩ : ByteArray)⟩ : Op)] : List (Op))), (([(⟨3, 0, (⟨#[97, 10]⟩ : ByteArray)⟩ : Op), (⟨4, 0, (⟨#[98, 10]⟩ : ByteArray)⟩ : Op), (⟨4, 0, (⟨#[99, 10]⟩ : ByteArray)⟩ : Op)] : List (Op))), (([(⟨2, 0, (⟨#[97, 10]⟩ : ByteArray)⟩ : Op), (⟨4, 0, (⟨#[99, 10]⟩ : ByteArray)⟩ : Op)] : List (Op))), (([(⟨3, 0, (⟨#[97, 10]⟩ : ByteArray)⟩ : Op)] : List (Op))), (([(⟨4, 0, (⟨#[98, 10]⟩ : ByteArray)⟩ : Op)] : List (Op))), (([(⟨3, 0, (⟨#[97, 10]⟩ : ByteArray)⟩ : Op)] : List (Op)))] : List (List (Op))) : List (List (Op)))).bind fun y1055 => ((some (([(([(⟨4, 0, (⟨#[97, 10]⟩ : ByteArray)⟩ : Op)] : List (Op))), (([] : List (Op))), (([(⟨3, 0, (⟨#[97, 10]⟩ : ByteArray)⟩ : Op)] : List (Op))), (([(⟨3, 0, (⟨#[98, 10]⟩ : ByteArray)⟩ : Op), (⟨4, 0, (⟨#[99, 10]⟩ : ByteArray)⟩ : Op)] : List (Op))), (([(⟨2, 0, (⟨#[98, 10]⟩ : ByteArray)⟩ : Op), (⟨4, 0, (⟨#[99, 10]⟩ : ByteArray)⟩ : Op)] : List (Op))), (([(⟨3, 0, (⟨#[98, 10]⟩ : ByteArray)⟩ : Op), (⟨2, 0, (⟨#[97, 10]⟩ : ByteArray)⟩ : Op), (⟨4, 0, (⟨#[99, 10]⟩ : ByteArray)⟩ : Op)] : List (Op))), (([(⟨3, 0, (⟨#[97, 10]⟩ : ByteArray)⟩ : Op)] : List (Op))), (([(⟨4, 0, (⟨#[98, 10]⟩ : ByteArray)⟩ : Op), (⟨1, 2, (⟨#[]⟩ : ByteArray)⟩ : Op), (⟨3, 0, (⟨#[98, 10]⟩ : ByteArray)⟩ : Op)] : List (Op))), []] : List (List (Op))) : List (List (Op)))).bind fun y1082 => (if t990 = true then (if a0 < 0 then (patchworklaw14_InterEach.j0 k a0 t990 y1025 y1055 y1082 true) else (patchworklaw14_InterEach.j0 k a0 t990 y1025 y1055 y1082 (decide (a0 ≥ (y1025.length : Int))))) else (patchworklaw14_InterEach.j0 k a0 t990 y1025 y1055 y1082 true)))))
theorem patchworklaw14_InterEach.mono_l : ∀ k, (∀ y0 y1 y2 y3 y4 y5, LeO (patchworklaw14_InterEach.j0 k y0 y1 y2 y3 y4 y5) (patchworklaw14_InterEach.j0 (k + 1) y0 y1 y2 y3 y4 y5))
 | 0 => fun _ _ _ _ _ _ r h => by simp [patchworklaw14_InterEach.j0] at h
 | k + 1 => by
  have ih0 := patchworklaw14_InterEach.mono_l k
  ·intro y0 y1 y2 y3 y4 y5
   unfold patchworklaw14_InterEach.j0
   repeat' first
   | (with_reducible exact ih0 _ _ _ _ _ _)
   | (with_reducible exact inter_Ops.mono _ _ _)
   | (with_reducible exact patchworklaw14_alive.mono _)
   | (with_reducible exact patchworkref8_Same.mono _ _ _)
   | (with_reducible exact LeO.refl _)
   | (with_reducible exact LeO.none _)
   | (with_reducible refine LeO.ite ?_ ?_)
   | (with_reducible refine LeO.bind ?_ (fun _ => ?_))
   | exact ih0 _ _ _ _ _ _
   | exact inter_Ops.mono _ _ _
   | exact patchworklaw14_alive.mono _
   | exact patchworkref8_Same.mono _ _ _
   | exact LeO.none _
   | refine LeO.ite ?_ ?_
   | refine LeO.bind ?_ (fun _ => ?_)
def patchworklaw14_InterEach.T14 : Bool × List (List Nat × List Nat) := (true, [([], []), ([], []), ([0, 1], [0, 1]), ([2], [2]), ([], []), ([], []), ([4, 5], [4, 5]), ([6], [6]), ([3, 7], [3, 7]), ([8], [8]), ([9], [9]), ([9], [9]), ([10, 8, 0, 1, 2, 3, 4, 5, 6, 7, 8, 9, 10], [10]), ([11, 12, 0, 1, 2, 3, 4, 5, 6, 7, 8, 9, 10, 11, 12], [11])])
def patchworklaw14_InterEach.B14 : List Nat := [0, 0, 3, 7, 0, 0, 48, 112, 255, 511, 1023, 1023, 2047, 8191]
theorem patchworklaw14_InterEach.tab14 : rtab .any (opsOf Try.f13 14) = patchworklaw14_InterEach.T14 := by kernel_rfl
theorem patchworklaw14_InterEach.bits14 : waitsOk patchworklaw14_InterEach.T14.2 patchworklaw14_InterEach.B14 = true := by kernel_rfl
end Go.Proofs.Ytfoponahdidddaa.P
namespace Go.Proofs.Ytfoponahdidddaa.P
open Go.RowKit Go.Proofs.YtfoponahdidddaaW.PrintWords Go.Proofs.YtfoponahdidddaaW.PrintLast Go.Proofs.YtfoponahdidddaaW.PrintMore
attribute [local go_sem] max2_int min2_int max_two min_two max_three min_three max_four min_four
theorem eqAOp (d : Nat) (w : World) (x0 y0 : Int) (x1 y1 : Int) (x2 y2 : ByteArray) :
  (Op.equalIn (d + 2) 41 (.agg #[.int .i64 x0, .int .i64 x1, .string x2]) (.agg #[.int .i64 y0, .int .i64 y1, .string y2])).run Try.prog w = .ok (x0 == y0 && (x1 == y1 && (x2.toList == y2.toList))) w := by
 refine eqA_of Try.underlying41 (by kernel_rfl) ?_
 refine eqf_cons (by rfl) (by go_simp; rfl) (by go_simp; rfl) (by go_simp) ?_
 refine eqf_cons (by rfl) (by go_simp; rfl) (by go_simp; rfl) (by go_simp) ?_
 exact eqf_last (by rfl) (by go_simp; rfl) (by go_simp; rfl) (by go_simp)
end Go.Proofs.Ytfoponahdidddaa.P
namespace Go.Proofs.Ytfoponahdidddaa.P
open Go.RowKit Go.Proofs.YtfoponahdidddaaW.PrintWords Go.Proofs.YtfoponahdidddaaW.PrintLast Go.Proofs.YtfoponahdidddaaW.PrintMore
attribute [local go_sem] max2_int min2_int max_two min_two max_three min_three max_four min_four
attribute [local go_sem high] eqAOp
set_option maxHeartbeats 8000000 in
set_option maxRecDepth 100000 in
theorem patchworkref8_Same.calls (k : Nat) (A0 : Option Addr) (c0 : Nat) (l0 : List (Op)) (A1 : Option Addr) (c1 : Nat) (l1 : List (Op)) (r : Bool) (w : World) (hr0 : Kd.C kOp w A0 l0.length l0) (hc0 : l0.length ≤ c0) (hr1 : Kd.C kOp w A1 l1.length l1) (hc1 : l1.length ≤ c1) (h : patchworkref8_Same.f k l0 l1 = some r) :
  Calls Try.prog 18 #[.slice A0 l0.length c0, .slice A1 l1.length c1] w fun e w' => e = .returned (.bool r) ∧ Drawn0 w w' := by
 have hu41 := Try.underlying41
 have HR0 := Aside0.mk hr0
 have HC0 := Aside0.mk hc0
 clear hr0 hc0
 have HR1 := Aside0.mk hr1
 have HC1 := Aside0.mk hc1
 clear hr1 hc1
 have H : (if (l0.length : Int) = (l1.length : Int) then (patchworkref8_Same.l0 k l0 l1 0) else (some false)) = some r := h
 clear h
 by_cases c3 : (l0.length : Int) = (l1.length : Int)
 ·rw [if_pos c3] at H
  have c3b0 := beq_iff_eq.mpr c3; have c3b1 := bne_eq_false_iff_eq.mpr c3; have c3b2 : (l0.length == l1.length) = true := by first | simpa using c3 | (simp at c3 ⊢; omega)
  clear c3; have H' := Aside0.mk H; clear H
  go_enter Try.func18, Try.ntmps18
  go_wp2
  repeat (go_quiet (fail); try go_wp2)
  go_loopg [5] k (fun kq v5 w' => ∃ (x5_1 : Int), v5 = .int .i64 x5_1 ∧ Aside0 (patchworkref8_Same.l0 kq l0 l1 x5_1 = some r) ∧ Aside0 (kq ≤ k) ∧ Drawn0 w w')
  case atStart => exact ⟨(0), yE, H', ⟨Nat.le_refl _⟩, yD⟩
  case round =>
   clear H'; (try clear c1); (try clear p2); (try clear c3); (try clear c3b0); (try clear c3b1); (try clear c3b2); obtain ⟨x5_1, rfl, HA, HK1, ⟨m1, rfl⟩⟩ := hrel; cases gk with
   | zero => exact absurd HA.out (by simp [patchworkref8_Same.l0])
   | succ k1 =>
    have H := HA.out; clear HA; simp only [patchworkref8_Same.l0] at H
    by_cases c4 : x5_1 < (l0.length : Int)
    ·rw [if_pos c4] at H
     have c4b0 := decide_eq_true c4; clear c4
     by_cases c5 : 0 ≤ x5_1
     ·rw [if_pos c5] at H
      have c5b0 := decide_eq_true c5; clear c5
      by_cases c6 : x5_1 < (l1.length : Int)
      ·rw [if_pos c6] at H
       have c6b0 := decide_eq_true c6; clear c6
       by_cases c7 : (!(((rd_Op l0 x5_1).f0) == ((rd_Op l1 x5_1).f0)) || (!(((rd_Op l0 x5_1).f1) == ((rd_Op l1 x5_1).f1)) || (!((((rd_Op l0 x5_1).f2).toList) == (((rd_Op l1 x5_1).f2).toList))))) = true
       ·rw [if_pos c7] at H
        have c7b0 : (!(((rd_Op l0 x5_1).f0) == ((rd_Op l1 x5_1).f0)) || (!(((rd_Op l0 x5_1).f1) == ((rd_Op l1 x5_1).f1)) || (!((((rd_Op l0 x5_1).f2).toList) == (((rd_Op l1 x5_1).f2).toList))))) = true := c7; clear c7; obtain rfl := Option.some.inj H; have p356 : 0 ≤ (x5_1 : Int) := yO; have q356 : x5_1 < (l0.length : Int) := yO; obtain ⟨ad356, e356, hx356_0, hx356_1, hx356_2⟩ := at_Op HR0.out x5_1 p356 q356; cases e356; replace p356 := eq_true p356; replace q356 := eq_true q356; have p357 : 0 ≤ (x5_1 : Int) := yO; have q357 : x5_1 < (l1.length : Int) := yO; obtain ⟨ad357, e357, hx357_0, hx357_1, hx357_2⟩ := at_Op HR1.out x5_1 p357 q357; cases e357; replace p357 := eq_true p357; replace q357 := eq_true q357
        go_wp2
        repeat (go_quiet (fail); try go_wp2)
        go_ret
        exact ⟨yE, yD⟩
       ·rw [if_neg c7] at H
        have c7b0 : (!(((rd_Op l0 x5_1).f0) == ((rd_Op l1 x5_1).f0)) || (!(((rd_Op l0 x5_1).f1) == ((rd_Op l1 x5_1).f1)) || (!((((rd_Op l0 x5_1).f2).toList) == (((rd_Op l1 x5_1).f2).toList))))) = false := by simpa using c7
        clear c7; have H' := Aside0.mk H; clear H; have p356 : 0 ≤ (x5_1 : Int) := yO; have q356 : x5_1 < (l0.length : Int) := yO; obtain ⟨ad356, e356, hx356_0, hx356_1, hx356_2⟩ := at_Op HR0.out x5_1 p356 q356; cases e356; replace p356 := eq_true p356; replace q356 := eq_true q356; have p357 : 0 ≤ (x5_1 : Int) := yO; have q357 : x5_1 < (l1.length : Int) := yO; obtain ⟨ad357, e357, hx357_0, hx357_1, hx357_2⟩ := at_Op HR1.out x5_1 p357 q357; cases e357; replace p357 := eq_true p357; replace q357 := eq_true q357
        go_wp2
        repeat (go_quiet (fail); try go_wp2)
        go_roundg k1
        case measure => have := HK1.out; omega
        case rel => exact ⟨(wrap64 (x5_1 + 1)), yE, H', ⟨by have := HK1.out; omega⟩, yD⟩
      ·rw [if_neg c6] at H
       exact absurd H (by simp)
     ·rw [if_neg c5] at H
      exact absurd H (by simp)
    ·rw [if_neg c4] at H
     have c4b0 := decide_eq_false c4; clear c4; obtain rfl := Option.some.inj H
     go_wp2
     repeat (go_quiet (fail); try go_wp2)
     go_ret
     exact ⟨yE, yD⟩
 ·rw [if_neg c3] at H
  have c3b0 := beq_eq_false_iff_ne.mpr c3; have c3b1 := bne_iff_ne.mpr c3; have c3b2 : (l0.length == l1.length) = false := by first | simpa using c3 | (simp at c3 ⊢; omega)
  obtain rfl := Option.some.inj H
  go_enter Try.func18, Try.ntmps18
  go_wp2
  repeat (go_quiet (fail); try go_wp2)
  go_ret
  exact ⟨yE, yD⟩
end Go.Proofs.Ytfoponahdidddaa.P
namespace Go.Proofs.Ytfoponahdidddaa.P
open Go.RowKit Go.Proofs.YtfoponahdidddaaW.PrintWords Go.Proofs.YtfoponahdidddaaW.PrintLast Go.Proofs.YtfoponahdidddaaW.PrintMore
theorem txt_eq {s t : ByteArray} (h : s.toList = t.toList) : s = t := by
 rw [Lib.toList_data, Lib.toList_data] at h
 exact WideShapes.bytes_inj h
section
variable {α : Type}
theorem lt_mid (p s : List α) (x : α) : ((p.length : Int) < ((p ++ x :: s).length : Int)) = True := by simp; omega
theorem lt_end (p : List α) : ((p.length : Int) < ((p ++ ([] : List α)).length : Int)) = False := by simp
theorem nn_nat (n : Nat) : ((0 : Int) ≤ (n : Int)) = True := by simp
theorem getD_mid (p s : List α) (x d : α) : (p ++ x :: s).getD (p.length : Int).toNat d = x := by
 rw [Int.toNat_natCast, List.getD_eq_getElem?_getD, List.getElem?_append_right (Nat.le_refl _)]; simp
theorem wrap_len (p : List α) (x : α) (h : p.length < 4611686018427387904) : wrap64 ((p.length : Int) + 1) = ((p ++ [x]).length : Int) := by
 unfold wrap64; simp; omega
end
theorem rdOp_mid (p s : List Op) (x : Op) : rd_Op (p ++ x :: s) (p.length : Int) = x := getD_mid p s x zOp
theorem Op.ext' {a b : Op} (h0 : a.f0 = b.f0) (h1 : a.f1 = b.f1) (h2 : a.f2 = b.f2) : a = b := by cases a; cases b; simp_all
instance : DecidableEq Op := fun a b => decidable_of_iff (a.f0 = b.f0 ∧ a.f1 = b.f1 ∧ a.f2 = b.f2) ⟨fun h => Op.ext' h.1 h.2.1 h.2.2, fun h => by rw [h]; exact ⟨rfl, rfl, rfl⟩⟩
theorem Ev.bind' {α β : Type} {g : Nat → Option α} {f : Nat → α → Option β} {a : α} {r : β} (h : Ev g a) (k : Ev (fun n => f n a) r) : Ev (fun n => (g n).bind fun t => f n t) r := Ev.bind h k
end Go.Proofs.Ytfoponahdidddaa.P
namespace Go.Proofs.Ytfoponahdidddaa.P
open Go.RowKit Go.Proofs.YtfoponahdidddaaW.PrintWords Go.Proofs.YtfoponahdidddaaW.PrintLast Go.Proofs.YtfoponahdidddaaW.PrintMore
def rightT (s : ByteArray) : Bool := decide (s.data.toList ≠ []) && decide ((10 : UInt8) ∉ s.data.toList.dropLast)
def openT (s : ByteArray) : Bool := decide (s.data.toList.getLast? ≠ some 10)
theorem toList_nil {s : ByteArray} : s.toList = ([] : List UInt8) ↔ s.data.toList = [] := by rw [Lib.toList_data]
theorem last_getD {l : List UInt8} (h : l ≠ []) : l.getLast? = some (l.getD (l.length - 1) 0) := by
 have : 0 < l.length := List.length_pos_iff.mpr h
 rw [List.getLast?_eq_getElem?, List.getElem?_eq_getElem (by omega), List.getD_eq_getElem?_getD, List.getElem?_eq_getElem (by omega)]
 rfl
theorem size_pos {s : ByteArray} (h : s.data.toList ≠ []) : 0 < s.size := by rw [← data_length]; exact List.length_pos_iff.mpr h
theorem size_zero {s : ByteArray} (h : s.data.toList = []) : s.size = 0 := by rw [← data_length, h]; rfl
theorem openT_getD {s : ByteArray} (h : s.data.toList ≠ []) : openT s = (s.data.toList.getD (s.size - 1) 0 != 10) := by
 unfold openT
 rw [last_getD h, data_length]
 generalize s.data.toList.getD (s.size - 1) 0 = x
 by_cases h2 : x = 10 <;> simp [h2]
theorem nl_list : (⟨#[10]⟩ : ByteArray).data.toList = [10] := rfl
theorem ext_list (s : ByteArray) (i j : Nat) : (s.extract i j).data.toList = (s.data.toList.take j).drop i := by
 rw [ByteArray.data_extract, Array.toList_extract, List.extract_eq_take_drop, List.drop_take]
theorem suffix_val {s : ByteArray} (hb : s.size < 4611686018427387904) : stringslite_HasSuffix.f s ⟨#[10]⟩ = some (!openT s) := by
 have h1 : ((⟨#[10]⟩ : ByteArray).size : Int) = 1 := rfl
 unfold stringslite_HasSuffix.f
 rw [h1]
 by_cases h : s.data.toList = []
 ·have h0 := size_zero h
  rw [if_neg (by omega)]
  simp [openT, h]
 ·have hp := size_pos h
  have w : wrap64 ((s.size : Int) - 1) = ((s.size - 1 : Nat) : Int) := by unfold wrap64; omega
  rw [if_pos (by omega), w, if_pos (by omega), if_pos (by omega), Int.toNat_natCast, Lib.toList_data, Lib.toList_data, ext_list, nl_list, openT_getD h]
  have hl : s.size - 1 < s.data.toList.length := by rw [data_length]; omega
  rw [List.take_of_length_le (by rw [data_length]; exact Nat.le_refl _), List.drop_eq_getElem_cons hl, List.drop_eq_nil_of_le (by rw [data_length]; omega)]
  rw [List.getD_eq_getElem?_getD, List.getElem?_eq_getElem hl]
  simp only [Option.getD_some]
  simp [bne]
theorem closed_val {s : ByteArray} (hb : s.size < 4611686018427387904) : lines_Closed.f s = some (!openT s) := by
 simp [lines_Closed.f, strings_HasSuffix.f, suffix_val hb]
theorem trim_val {s : ByteArray} (hb : s.size < 4611686018427387904) : ∃ t, strings_TrimSuffix.f s ⟨#[10]⟩ = some t ∧ (s.data.toList ≠ [] → (10 ∈ t.data.toList ↔ 10 ∈ s.data.toList.dropLast)) := by
 have h1 : ((⟨#[10]⟩ : ByteArray).size : Int) = 1 := rfl
 unfold strings_TrimSuffix.f stringslite_TrimSuffix.f
 rw [suffix_val hb]
 simp only [Option.bind_some]
 by_cases h : openT s = true
 ·refine ⟨s, by simp [h], fun hn => ?_⟩
  constructor
  ·intro hm
   have : s.data.toList = s.data.toList.dropLast ++ [s.data.toList.getLast hn] := (List.dropLast_concat_getLast hn).symm
   rw [this] at hm
   rcases List.mem_append.mp hm with hm | hm
   ·exact hm
   ·exfalso
    have e : s.data.toList.getLast hn = 10 := (List.mem_singleton.mp hm).symm
    have : s.data.toList.getLast? = some 10 := by rw [List.getLast?_eq_some_getLast hn, e]
    simp [openT, this] at h
  ·intro hm; exact (List.dropLast_sublist _).subset hm
 ·have hn : s.data.toList ≠ [] := by intro e; simp [openT, e] at h
  have hp := size_pos hn
  have w : wrap64 ((s.size : Int) - 1) = ((s.size - 1 : Nat) : Int) := by unfold wrap64; omega
  have h' : openT s = false := by simpa using h
  rw [h', h1, w]
  simp only [Bool.not_false, if_true]
  rw [if_pos (by omega), if_pos (by omega), Int.toNat_natCast]
  refine ⟨_, rfl, fun _ => ?_⟩
  rw [ext_list, List.drop_zero, List.dropLast_eq_take, data_length]
theorem linesright_val {s : ByteArray} (hb : s.size < 4611686018427387904) : lines_Right.f s = some (rightT s) := by
 unfold lines_Right.f
 by_cases h : s.data.toList = []
 ·rw [if_pos (toList_nil.mpr h)]
  simp [rightT, h]
 ·rw [if_neg (fun e => h (toList_nil.mp e))]
  obtain ⟨t, ht, hm⟩ := trim_val hb
  rw [ht]
  have : strings_Contains.f t ⟨#[10]⟩ = some (decide (10 ∈ t.data.toList)) := by simp [strings_Contains.f]
  simp only [Option.bind_some, this, rightT]
  congr 1
  by_cases c : 10 ∈ t.data.toList
  ·simp [c, (hm h).mp c]
  ·have c2 : 10 ∉ s.data.toList.dropLast := fun e => c ((hm h).mpr e)
   simp [c, c2, h]
end Go.Proofs.Ytfoponahdidddaa.P
namespace Go.Proofs.Ytfoponahdidddaa.P
open Go.RowKit Go.Proofs.YtfoponahdidddaaW.PrintWords Go.Proofs.YtfoponahdidddaaW.PrintLast Go.Proofs.YtfoponahdidddaaW.PrintMore
def aheadN : List ByteArray → List ByteArray → Nat
 | x :: a, y :: b => if x = y then aheadN a b + 1 else 0
 | _, _ => 0
theorem aheadN_le (a b : List ByteArray) : aheadN a b ≤ a.length ∧ aheadN a b ≤ b.length := by
 induction a generalizing b with
 | nil => simp [aheadN]
 | cons x a ih =>
  cases b with
  | nil => simp [aheadN]
  | cons y b =>
   have := ih b
   simp only [aheadN, List.length_cons]
   split <;> omega
theorem diffOps_ahead (a b : List ByteArray) : diffOps a b = (a.take (aheadN a b)).map (fun t => (⟨2, 0, t⟩ : Op)) ++ diffOps (a.drop (aheadN a b)) (b.drop (aheadN a b)) := by
 induction a generalizing b with
 | nil => simp [aheadN]
 | cons x a ih =>
  cases b with
  | nil => simp [aheadN]
  | cons y b =>
   simp only [aheadN]
   split
   ·rename_i h
    subst h
    rw [diffOps]
    simp only [if_true, List.take_succ_cons, List.map_cons, List.drop_succ_cons, List.cons_append]
    rw [← ih b]
   ·simp
theorem ahead_loop (a : List ByteArray) : ∀ (b p q : List ByteArray), p.length = q.length → p.length + a.length ≤ 1000000 → q.length + b.length ≤ 1000000 →
  Ev (fun k => lcs_ahead.l0 k (p ++ a) (q ++ b) (p.length : Int)) ((p.length + aheadN a b : Nat) : Int) := by
 induction a with
 | nil =>
  intro b p q hpq h1 h2
  refine Ev.step (fun k => rfl) ?_
  have e : ¬ ((p.length : Int) < ((p ++ ([] : List ByteArray)).length : Int)) := by simp
  simp only [lcs_ahead.l0, if_neg e, aheadN, Nat.add_zero]
  exact Ev.now _
 | cons x a ih =>
  intro b p q hpq h1 h2
  have e1 : (p.length : Int) < ((p ++ x :: a).length : Int) := by simp; omega
  have e0 : (0 : Int) ≤ (p.length : Int) := by omega
  cases b with
  | nil =>
   refine Ev.step (fun k => rfl) ?_
   have e : ¬ ((p.length : Int) < ((q ++ ([] : List ByteArray)).length : Int)) := by simp; omega
   simp only [lcs_ahead.l0, if_pos e1, if_neg e, aheadN, Nat.add_zero]
   exact Ev.now _
  | cons y b =>
   have e2 : (p.length : Int) < ((q ++ y :: b).length : Int) := by simp; omega
   have r1 : rdOf ByteArray.empty (p ++ x :: a) (p.length : Int) = x := by simp [rdOf]
   have r2 : rdOf ByteArray.empty (q ++ y :: b) (p.length : Int) = y := by simp [rdOf, hpq]
   refine Ev.step (fun k => rfl) ?_
   simp only [lcs_ahead.l0, if_pos e1, if_pos e2, if_pos e0, r1, r2]
   by_cases h : x = y
   ·subst h
    have ew : wrap64 ((p.length : Int) + 1) = ((p ++ [x]).length : Int) := by unfold wrap64; simp at h1 ⊢; omega
    have := ih b (p ++ [x]) (q ++ [x]) (by simp [hpq]) (by simp at h1 ⊢; omega) (by simp at h2 ⊢; omega)
    simp only [List.append_assoc, List.singleton_append] at this
    simp only [if_true, ew]
    simp only [aheadN, if_true]
    have e3 : (p ++ [x]).length + aheadN a b = p.length + (aheadN a b + 1) := by simp; omega
    rw [← e3]
    exact this
   ·have h' : ¬ x.toList = y.toList := fun e => h (by rw [Lib.toList_data, Lib.toList_data] at e; exact WideShapes.bytes_inj e)
    simp only [if_neg h', aheadN, if_neg h, Nat.add_zero]
    exact Ev.now _
theorem ahead_ev (a b : List ByteArray) (h1 : a.length ≤ 1000000) (h2 : b.length ≤ 1000000) : Ev (fun k => lcs_ahead.f k a b) ((aheadN a b : Nat) : Int) := by
 have := ahead_loop a b [] [] rfl (by simpa using h1) (by simpa using h2)
 simpa [lcs_ahead.f] using this
end Go.Proofs.Ytfoponahdidddaa.P
namespace Go.Proofs.Ytfoponahdidddaa.P
open Go.RowKit Go.Proofs.YtfoponahdidddaaW.PrintWords Go.Proofs.YtfoponahdidddaaW.PrintLast Go.Proofs.YtfoponahdidddaaW.PrintMore
def okOne (o : Op) : Bool := if o.f0 = 1 then (decide (1 ≤ o.f1) && (decide (o.f1 ≤ 2147483648) && decide (o.f2.data.toList = []))) else (decide (o.f0 = 2 ∨ o.f0 = 3 ∨ o.f0 = 4) && (decide (o.f1 = 0) && rightT o.f2))
def cnt (c : Int) (o : Op) : Nat := if o.f0 = 1 then o.f1.toNat else if o.f0 = 2 ∨ o.f0 = c then 1 else 0
def sums (c : Int) (l : List Op) : Nat := (l.map (cnt c)).sum
def far : Int := 1099511627776
def capd (c : Int) (l : List Op) : Int := min (sums c l : Int) far
def closedGo (c : Int) : Bool → List Op → Bool
 | _, [] => true
 | e, o :: l => if o.f0 = 1 ∨ o.f0 = 2 ∨ o.f0 = c then (if e = true then false else closedGo c (decide (o.f0 ≠ 1) && openT o.f2) l) else closedGo c e l
def rightL (l : List Op) : Bool := l.all okOne && (decide (capd 3 l ≤ 2147483648) && (decide (capd 4 l ≤ 2147483648) && (closedGo 3 false l && closedGo 4 false l)))
def Sm (l : List Op) : Prop := l.length < 4398046511104 ∧ ∀ o ∈ l, o.f2.size < 4611686018427387904
theorem Sm.mid {p s : List Op} {o : Op} (h : Sm (p ++ o :: s)) : o.f2.size < 4611686018427387904 := h.2 o (by simp)
theorem Sm.len {p s : List Op} {o : Op} (h : Sm (p ++ o :: s)) : p.length < 4398046511104 := by have := h.1; simp at this; omega
theorem Sm.nil : Sm [] := ⟨by simp, by simp⟩
theorem Sm.snoc {p s : List Op} {o : Op} (h : Sm (p ++ o :: s)) : Sm ((p ++ [o]) ++ s) := by rw [List.append_assoc]; exact h
theorem sums_app (c : Int) (p q : List Op) : sums c (p ++ q) = sums c p + sums c q := by simp [sums]
theorem sums_nil (c : Int) : sums c [] = 0 := rfl
theorem sums_cons (c : Int) (o : Op) (q : List Op) : sums c (o :: q) = cnt c o + sums c q := by simp [sums]
theorem capd_nil (c : Int) : capd c [] = 0 := by unfold capd far; rw [sums_nil]; omega
theorem capd_snoc (c : Int) (p : List Op) (o : Op) : capd c (p ++ [o]) = min (capd c p + (cnt c o : Int)) far := by
 unfold capd far
 rw [sums_app, sums_cons, sums_nil]
 omega
theorem capd_bd (c : Int) (p : List Op) : 0 ≤ capd c p ∧ capd c p ≤ far := by unfold capd far; omega
theorem one_val {o : Op} (hb : o.f2.size < 4611686018427387904) : ops_one.f o.f0 o.f1 o.f2 = some (okOne o) := by
 unfold ops_one.f okOne
 by_cases h1 : o.f0 = 1
 ·rw [if_pos h1, if_pos h1]
  by_cases h2 : o.f1 ≥ 1
  ·rw [if_pos h2]
   by_cases h3 : o.f1 ≤ 2147483648
   ·rw [if_pos h3]
    have h2' : 1 ≤ o.f1 := h2
    rw [Lib.toList_data]
    generalize o.f2.data.toList = z
    by_cases h4 : z = [] <;> simp [h2', h3, h4]
   ·rw [if_neg h3]; simp [h3]
  ·rw [if_neg h2]; simp; omega
 ·rw [if_neg h1, if_neg h1, linesright_val hb]
  by_cases h2 : o.f0 = 2
  ·rw [if_pos h2]
   by_cases h3 : o.f1 = 0
   ·rw [if_pos h3]; simp [h2, h3]
   ·rw [if_neg h3]; simp [h3]
  ·rw [if_neg h2]
   unfold ops_Change.f
   by_cases h4 : o.f0 = 3
   ·rw [if_pos h4]
    simp only [Option.bind_some, if_true]
    by_cases h3 : o.f1 = 0
    ·rw [if_pos h3]; simp [h4, h3]
    ·rw [if_neg h3]; simp [h3]
   ·rw [if_neg h4]
    simp only [Option.bind_some]
    by_cases h5 : o.f0 = 4
    ·rw [if_pos (by simpa using h5)]
     by_cases h3 : o.f1 = 0
     ·rw [if_pos h3]; simp [h5, h3]
     ·rw [if_neg h3]; simp [h3]
    ·rw [if_neg (by simpa using h5)]; simp [h2, h4, h5]
theorem contains_loop (s : List Op) : ∀ (p : List Op), Sm (p ++ s) → Ev (fun k => slices_IndexFunc_Op_ops_Right_1.l0 k (p ++ s) ((p ++ s).length : Int) (p.length : Int)) (if s.all okOne then (-1) else (p.length + (s.takeWhile okOne).length : Int)) := by
 induction s with
 | nil =>
  intro p _
  refine Ev.step (fun k => rfl) ?_
  simp only [slices_IndexFunc_Op_ops_Right_1.l0, lt_end, if_false, List.all_nil, if_true]
  exact Ev.now _
 | cons o s ih =>
  intro p hb
  have := ih (p ++ [o]) hb.snoc
  rw [List.append_assoc, List.singleton_append] at this
  refine Ev.step (fun k => rfl) ?_
  simp only [slices_IndexFunc_Op_ops_Right_1.l0, lt_mid, nn_nat, if_true, rdOp_mid, ops_Right_1.f, one_val hb.mid, Option.bind_some]
  cases ho : okOne o
  ·simp only [Bool.not_false, if_true, List.all_cons, ho, Bool.false_and, Bool.false_eq_true, if_false, List.takeWhile_cons]
   simpa using Ev.now _
  ·simp only [Bool.not_true, Bool.false_eq_true, if_false, List.all_cons, ho, Bool.true_and, List.takeWhile_cons, if_true]
   rw [wrap_len p o (by have := hb.len; omega)]
   have e : ((p.length : Int) + ((o :: s.takeWhile okOne).length : Int)) = (((p ++ [o]).length : Int) + ((s.takeWhile okOne).length : Int)) := by simp; omega
   rw [e]
   exact this
theorem contains_ev {l : List Op} (h : Sm l) : Ev (fun k => slices_ContainsFunc_Op_ops_Right_1.f k l) (!l.all okOne) := by
 have := contains_loop l [] h
 simp only [List.nil_append, List.length_nil, Int.natCast_zero] at this
 refine Ev.bind' this ?_
 cases ha : l.all okOne
 ·simp only [Bool.false_eq_true, if_false, Bool.not_false]
  rw [show (decide ((0 : Int) + ((l.takeWhile okOne).length : Int) ≥ 0)) = true from by simp]
  exact Ev.now _
 ·simp only [if_true, Bool.not_true]
  exact Ev.now _
theorem mn_min (a b : Int) : mn a b = min a b := by unfold mn; omega
theorem mx_max (a b : Int) : mx a b = max a b := by unfold mx; omega
theorem count_loop (c : Int) (hc : c ≠ 1) (s : List Op) : ∀ (p : List Op), Sm (p ++ s) → Ev (fun k => ops_count.l0 k c (capd c p) (p ++ s) ((p ++ s).length : Int) (p.length : Int)) (capd c (p ++ s)) := by
 induction s with
 | nil =>
  intro p _
  refine Ev.step (fun k => rfl) ?_
  simp only [ops_count.l0, lt_end, if_false]
  rw [List.append_nil]
  exact Ev.now _
 | cons o s ih =>
  intro p hb
  have := ih (p ++ [o]) hb.snoc
  rw [List.append_assoc, List.singleton_append] at this
  have hcb := capd_bd c p
  unfold far at hcb
  rw [capd_snoc] at this
  refine Ev.step (fun k => rfl) ?_
  simp only [ops_count.l0, lt_mid, nn_nat, if_true, rdOp_mid, wrap_len p o (by have := hb.len; omega)]
  by_cases h1 : o.f0 = 1
  ·simp only [if_pos h1]
   have e : mn (wrap64 (capd c p + mx 0 (mn o.f1 1099511627776))) 1099511627776 = min (capd c p + (cnt c o : Int)) far := by
    rw [mn_min, mx_max, mn_min, show cnt c o = o.f1.toNat from by simp [cnt, h1]]
    unfold far wrap64; omega
   rw [e]; exact this
  ·simp only [if_neg h1]
   by_cases h2 : o.f0 = 2
   ·simp only [if_pos h2]
    have e : mn (wrap64 (capd c p + 1)) 1099511627776 = min (capd c p + (cnt c o : Int)) far := by
     rw [mn_min, show cnt c o = 1 from by simp [cnt, h2]]
     unfold far wrap64; omega
    rw [e]; exact this
   ·simp only [if_neg h2]
    by_cases h3 : o.f0 = c
    ·simp only [if_pos h3]
     have e : mn (wrap64 (capd c p + 1)) 1099511627776 = min (capd c p + (cnt c o : Int)) far := by
      rw [mn_min, show cnt c o = 1 from by simp [cnt, h3, hc]]
      unfold far wrap64; omega
     rw [e]; exact this
    ·simp only [if_neg h3]
     have e : mn (capd c p) 1099511627776 = min (capd c p + (cnt c o : Int)) far := by
      rw [mn_min, show cnt c o = 0 from by simp [cnt, h1, h2, h3]]
      unfold far; omega
     rw [e]; exact this
theorem olds_ev {l : List Op} (h : Sm l) : Ev (fun k => ops_Olds.f k l) (capd 3 l) := by
 have := count_loop 3 (by decide) l [] h
 rw [capd_nil] at this
 simp only [List.nil_append, List.length_nil, Int.natCast_zero] at this
 exact Ev.bind' this (Ev.now _)
theorem news_ev {l : List Op} (h : Sm l) : Ev (fun k => ops_News.f k l) (capd 4 l) := by
 have := count_loop 4 (by decide) l [] h
 rw [capd_nil] at this
 simp only [List.nil_append, List.length_nil, Int.natCast_zero] at this
 exact Ev.bind' this (Ev.now _)
theorem old_kind (x : Int) : ops_Old.f x = some (decide (x = 1 ∨ x = 2 ∨ x = 3)) := by
 unfold ops_Old.f
 by_cases h1 : x = 1
 ·simp [h1]
 ·by_cases h2 : x = 2
  ·simp [h2]
  ·by_cases h3 : x = 3 <;> simp [h1, h2, h3]
theorem new_kind (x : Int) : ops_New.f x = some (decide (x = 1 ∨ x = 2 ∨ x = 4)) := by
 unfold ops_New.f
 by_cases h1 : x = 1
 ·simp [h1]
 ·by_cases h2 : x = 2
  ·simp [h2]
  ·by_cases h3 : x = 4 <;> simp [h1, h2, h3]
theorem closedOld_loop (s : List Op) : ∀ (p : List Op) (e : Bool), Sm (p ++ s) → Ev (fun k => ops_closed_ops_Old.l0 k e (p ++ s) ((p ++ s).length : Int) (p.length : Int)) (closedGo 3 e s) := by
 induction s with
 | nil =>
  intro p e _
  refine Ev.step (fun k => rfl) ?_
  simp only [ops_closed_ops_Old.l0, lt_end, if_false, closedGo]
  exact Ev.now _
 | cons o s ih =>
  intro p e hb
  have := fun e => ih (p ++ [o]) e hb.snoc
  rw [List.append_assoc, List.singleton_append] at this
  refine Ev.step (fun k => rfl) ?_
  simp only [ops_closed_ops_Old.l0, lt_mid, nn_nat, if_true, rdOp_mid, wrap_len p o (by have := hb.len; omega), old_kind, Option.bind_some, decide_eq_true_eq, closed_val hb.mid]
  by_cases h : o.f0 = 1 ∨ o.f0 = 2 ∨ o.f0 = 3
  ·simp only [if_pos h, closedGo]
   cases e
   ·simp only [Bool.false_eq_true, if_false]
    by_cases h1 : o.f0 = 1
    ·simp only [if_pos h1]
     simpa [h1] using this false
    ·simp only [if_neg h1, Bool.not_not]
     simpa [h1] using this (openT o.f2)
   ·simp only [if_true]
    exact Ev.now _
  ·simp only [if_neg h, closedGo]
   exact this e
theorem closedNew_loop (s : List Op) : ∀ (p : List Op) (e : Bool), Sm (p ++ s) → Ev (fun k => ops_closed_ops_New.l0 k e (p ++ s) ((p ++ s).length : Int) (p.length : Int)) (closedGo 4 e s) := by
 induction s with
 | nil =>
  intro p e _
  refine Ev.step (fun k => rfl) ?_
  simp only [ops_closed_ops_New.l0, lt_end, if_false, closedGo]
  exact Ev.now _
 | cons o s ih =>
  intro p e hb
  have := fun e => ih (p ++ [o]) e hb.snoc
  rw [List.append_assoc, List.singleton_append] at this
  refine Ev.step (fun k => rfl) ?_
  simp only [ops_closed_ops_New.l0, lt_mid, nn_nat, if_true, rdOp_mid, wrap_len p o (by have := hb.len; omega), new_kind, Option.bind_some, decide_eq_true_eq, closed_val hb.mid]
  by_cases h : o.f0 = 1 ∨ o.f0 = 2 ∨ o.f0 = 4
  ·simp only [if_pos h, closedGo]
   cases e
   ·simp only [Bool.false_eq_true, if_false]
    by_cases h1 : o.f0 = 1
    ·simp only [if_pos h1]
     simpa [h1] using this false
    ·simp only [if_neg h1, Bool.not_not]
     simpa [h1] using this (openT o.f2)
   ·simp only [if_true]
    exact Ev.now _
  ·simp only [if_neg h, closedGo]
   exact this e
theorem right_ev {l : List Op} (h : Sm l) : Ev (fun k => ops_Right.f k l) (rightL l) := by
 refine Ev.bind' (contains_ev h) ?_
 unfold rightL
 cases ha : l.all okOne
 ·simp only [Bool.not_false, if_true, Bool.false_and]; exact Ev.now _
 simp only [Bool.not_true, Bool.false_eq_true, if_false, Bool.true_and]
 refine Ev.bind' (olds_ev h) ?_
 by_cases h1 : capd 3 l ≤ 2147483648
 ·simp only [h1, if_true, decide_true, Bool.true_and]
  refine Ev.bind' (news_ev h) ?_
  by_cases h2 : capd 4 l ≤ 2147483648
  ·simp only [h2, if_true, decide_true, Bool.true_and]
   refine Ev.bind' (closedOld_loop l [] false h) ?_
   cases hc : closedGo 3 false l
   ·simp only [Bool.false_eq_true, if_false, Bool.false_and]; exact Ev.now _
   ·simp only [if_true, Bool.true_and]
    exact Ev.bind' (closedNew_loop l [] false h) (Ev.now _)
  ·simp only [h2, if_false, decide_false, Bool.false_and]; exact Ev.now _
 ·simp only [h1, if_false, decide_false, Bool.false_and]; exact Ev.now _
end Go.Proofs.Ytfoponahdidddaa.P
namespace Go.Proofs.Ytfoponahdidddaa.P
open Go.RowKit Go.Proofs.YtfoponahdidddaaW.PrintWords Go.Proofs.YtfoponahdidddaaW.PrintLast Go.Proofs.YtfoponahdidddaaW.PrintMore
inductive U where
 | skip
 | keep (t : ByteArray)
 | del (t : ByteArray)
 | ins (t : ByteArray)
def exO (o : Op) : List U := if o.f0 = 1 then List.replicate o.f1.toNat .skip else if o.f0 = 2 then [.keep o.f2] else if o.f0 = 3 then [.del o.f2] else [.ins o.f2]
def ex (l : List Op) : List U := l.flatMap exO
def opU : U → Op
 | .skip => ⟨1, 1, ByteArray.empty⟩
 | .keep t => ⟨2, 0, t⟩
 | .del t => ⟨3, 0, t⟩
 | .ins t => ⟨4, 0, t⟩
def put : U → List Op → List Op
 | .skip, o :: r => if o.f0 = 1 then ⟨1, o.f1 + 1, o.f2⟩ :: r else ⟨1, 1, ByteArray.empty⟩ :: o :: r
 | u, r => opU u :: r
def pack : List U → List Op
 | [] => []
 | x :: u => put x (pack u)
def nf (I : List U) : List U → List U
 | [] => I
 | .ins t :: u => nf (I ++ [.ins t]) u
 | .del t :: u => .del t :: nf I u
 | .keep t :: u => I ++ .keep t :: nf [] u
 | .skip :: u => I ++ .skip :: nf [] u
theorem ex_nil : ex [] = [] := rfl
theorem ex_cons (o : Op) (l : List Op) : ex (o :: l) = exO o ++ ex l := rfl
theorem ex_app (p q : List Op) : ex (p ++ q) = ex p ++ ex q := by simp [ex]
def isSkip : U → Bool
 | .skip => true
 | _ => false
theorem put_ne {x : U} (h : isSkip x = false) (r : List Op) : put x r = opU x :: r := by
 cases x <;> first | (simp [isSkip] at h; done) | rfl
theorem pack_app_ne : ∀ (p q : List U), (∀ x ∈ p, isSkip x = false) → pack (p ++ q) = p.map opU ++ pack q
 | [], q, _ => rfl
 | x :: p, q, h => by
  simp only [List.cons_append, pack, List.map_cons]
  rw [put_ne (h x (List.mem_cons_self ..)), pack_app_ne p q fun y hy => h y (List.mem_cons_of_mem _ hy)]
def NoSk (l : List Op) : Prop := ∀ o r, l = o :: r → o.f0 ≠ 1
def NoSkU (u : List U) : Prop := ∀ x r, u = x :: r → isSkip x = false
theorem opU_kind {x : U} (h : isSkip x = false) : (opU x).f0 ≠ 1 := by
 cases x <;> first | (simp [isSkip] at h; done) | simp [opU]
theorem NoSkU.pack {u : List U} (h : NoSkU u) : NoSk (pack u) := by
 intro o r e
 cases u with
 | nil => simp [P.pack] at e
 | cons x u =>
  have hx := h x u rfl
  rw [P.pack, put_ne hx] at e
  obtain ⟨rfl, _⟩ := List.cons.inj e
  exact opU_kind hx
theorem pack_skips : ∀ (n : Nat) (u : List U), NoSkU u → pack (List.replicate (n + 1) .skip ++ u) = ⟨1, (n + 1 : Nat), ByteArray.empty⟩ :: pack u
 | 0, u, h => by
  have := h.pack
  show put .skip (pack u) = _
  cases hp : pack u with
  | nil => rfl
  | cons o r =>
   have hk := this o r hp
   simp [put, hk]
 | n + 1, u, h => by
  rw [List.replicate_succ, List.cons_append, pack, pack_skips n u h]
  simp [put]
def delsU (u : List U) : List U := u.filter fun x => match x with | .del _ => true | _ => false
def inssU (u : List U) : List U := u.filter fun x => match x with | .ins _ => true | _ => false
def isCh : U → Bool
 | .del _ => true
 | .ins _ => true
 | _ => false
theorem nf_run : ∀ (d I u : List U), (∀ x ∈ d, isCh x = true) → nf I (d ++ u) = delsU d ++ nf (I ++ inssU d) u
 | [], I, u, _ => by simp [delsU, inssU]
 | x :: d, I, u, h => by
  have hx := h x (List.mem_cons_self ..)
  have i := fun I => nf_run d I u fun y hy => h y (List.mem_cons_of_mem _ hy)
  cases x with
  | skip => simp [isCh] at hx
  | keep t => simp [isCh] at hx
  | del t => simp only [List.cons_append, nf]; rw [i]; rfl
  | ins t =>
   simp only [List.cons_append, nf]
   rw [i, List.append_assoc]; rfl
theorem nf_noSk : ∀ (u I : List U), (∀ x ∈ I, isSkip x = false) → (I = [] → NoSkU u) → NoSkU (nf I u)
 | [], I, h, _ => by
  intro x r e
  rw [nf] at e
  exact h x (by rw [e]; exact List.mem_cons_self ..)
 | .ins t :: u, I, h, _ => by
  rw [nf]
  refine nf_noSk u (I ++ [.ins t]) (fun x hx => ?_) (fun e => by simp at e)
  rcases List.mem_append.mp hx with hx | hx
  ·exact h x hx
  ·rw [List.mem_singleton.mp hx]; rfl
 | .del t :: u, I, h, _ => by
  intro x r e
  rw [nf] at e
  obtain ⟨rfl, _⟩ := List.cons.inj e
  rfl
 | .keep t :: u, I, h, _ => by
  intro x r e
  rw [nf] at e
  cases I with
  | nil => obtain ⟨rfl, _⟩ := List.cons.inj e; rfl
  | cons y I => obtain ⟨rfl, _⟩ := List.cons.inj e; exact h _ (List.mem_cons_self ..)
 | .skip :: u, I, h, h0 => by
  intro x r e
  rw [nf] at e
  cases I with
  | nil => exact absurd (h0 rfl .skip u rfl) (by simp [isSkip])
  | cons y I => obtain ⟨rfl, _⟩ := List.cons.inj e; exact h _ (List.mem_cons_self ..)
theorem exO_opU {x : U} : exO (opU x) = [x] := by cases x <;> simp [exO, opU]
theorem pack_pos : ∀ (u : List U), ∀ o ∈ pack u, o.f0 = 1 → 1 ≤ o.f1 ∧ o.f2 = ByteArray.empty
 | [], o, ho => by simp [pack] at ho
 | x :: u, o, ho => by
  have ih := pack_pos u
  rw [pack] at ho
  cases x with
  | skip =>
   cases hp : pack u with
   | nil =>
    rw [hp] at ho
    simp [put, opU] at ho
    subst ho; simp
   | cons y r =>
    rw [hp] at ho ih
    by_cases hy : y.f0 = 1
    ·simp only [put, if_pos hy] at ho
     rcases List.mem_cons.mp ho with rfl | ho
     ·have := ih y (List.mem_cons_self ..) hy
      intro _
      exact ⟨by show 1 ≤ y.f1 + 1; omega, this.2⟩
     ·exact ih o (List.mem_cons_of_mem _ ho)
    ·simp only [put, if_neg hy] at ho
     rcases List.mem_cons.mp ho with rfl | ho
     ·intro _; simp
     ·exact ih o ho
  | keep t =>
   rw [put_ne rfl] at ho
   rcases List.mem_cons.mp ho with rfl | ho
   ·intro h; simp [opU] at h
   ·exact ih o ho
  | del t =>
   rw [put_ne rfl] at ho
   rcases List.mem_cons.mp ho with rfl | ho
   ·intro h; simp [opU] at h
   ·exact ih o ho
  | ins t =>
   rw [put_ne rfl] at ho
   rcases List.mem_cons.mp ho with rfl | ho
   ·intro h; simp [opU] at h
   ·exact ih o ho
theorem ex_pack : ∀ (u : List U), ex (pack u) = u
 | [] => rfl
 | x :: u => by
  have ih := ex_pack u
  rw [pack]
  by_cases hx : isSkip x = false
  ·rw [put_ne hx, ex_cons, exO_opU, ih]; rfl
  ·cases x with
   | skip =>
    cases hp : pack u with
    | nil =>
     rw [hp] at ih
     rw [show put .skip [] = [opU .skip] from rfl, ex_cons, exO_opU, ih]; rfl
    | cons y r =>
     rw [hp] at ih
     by_cases hy : y.f0 = 1
     ·have := (pack_pos u y (by rw [hp]; exact List.mem_cons_self ..) hy).1
      simp only [put, if_pos hy]
      rw [ex_cons] at ih ⊢
      have e1 : exO y = List.replicate y.f1.toNat .skip := by simp [exO, hy]
      have e2 : exO ⟨1, y.f1 + 1, y.f2⟩ = .skip :: List.replicate y.f1.toNat .skip := by
       simp only [exO, if_true]
       rw [show (y.f1 + 1).toNat = y.f1.toNat + 1 from by omega, List.replicate_succ]
      rw [e2, ← e1, List.cons_append, ih]
     ·simp only [put, if_neg hy]
      rw [ex_cons, show (⟨1, 1, ByteArray.empty⟩ : Op) = opU .skip from rfl, exO_opU, ih]; rfl
   | keep t => exact absurd rfl hx
   | del t => exact absurd rfl hx
   | ins t => exact absurd rfl hx
def olds : List U → List (Option ByteArray)
 | [] => []
 | .skip :: u => none :: olds u
 | .keep t :: u => some t :: olds u
 | .del t :: u => some t :: olds u
 | .ins _ :: u => olds u
def news : List U → List (Option ByteArray)
 | [] => []
 | .skip :: u => none :: news u
 | .keep t :: u => some t :: news u
 | .del _ :: u => news u
 | .ins t :: u => some t :: news u
theorem olds_app : ∀ (p q : List U), olds (p ++ q) = olds p ++ olds q
 | [], _ => rfl
 | x :: p, q => by cases x <;> simp [olds, olds_app p q]
theorem news_app : ∀ (p q : List U), news (p ++ q) = news p ++ news q
 | [], _ => rfl
 | x :: p, q => by cases x <;> simp [news, news_app p q]
def AllIns (I : List U) : Prop := ∀ x ∈ I, ∃ t, x = .ins t
theorem AllIns.nil : AllIns [] := fun x h => by simp at h
theorem AllIns.snoc {I : List U} (h : AllIns I) (t : ByteArray) : AllIns (I ++ [.ins t]) := by
 intro x hx
 rcases List.mem_append.mp hx with hx | hx
 ·exact h x hx
 ·exact ⟨t, List.mem_singleton.mp hx⟩
theorem AllIns.olds : ∀ {I : List U}, AllIns I → olds I = []
 | [], _ => rfl
 | x :: I, h => by
  obtain ⟨t, rfl⟩ := h x (List.mem_cons_self ..)
  rw [P.olds]
  exact AllIns.olds (I := I) fun y hy => h y (List.mem_cons_of_mem _ hy)
theorem olds_nf : ∀ (u I : List U), AllIns I → olds (nf I u) = olds u
 | [], I, h => by rw [nf, h.olds]; rfl
 | .ins t :: u, I, h => by rw [nf, olds_nf u _ (h.snoc t)]; rfl
 | .del t :: u, I, h => by simp only [nf, olds]; rw [olds_nf u I h]
 | .keep t :: u, I, h => by simp only [nf, olds_app, olds, h.olds]; rw [olds_nf u [] .nil]; rfl
 | .skip :: u, I, h => by simp only [nf, olds_app, olds, h.olds]; rw [olds_nf u [] .nil]; rfl
theorem news_nf : ∀ (u I : List U), news (nf I u) = news I ++ news u
 | [], I => by simp [nf, news]
 | .ins t :: u, I => by simp only [nf]; rw [news_nf u, news_app]; simp [news]
 | .del t :: u, I => by simp only [nf, news]; rw [news_nf u I]
 | .keep t :: u, I => by simp only [nf, news_app, news]; rw [news_nf u []]; simp [news]
 | .skip :: u, I => by simp only [nf, news_app, news]; rw [news_nf u []]; simp [news]
theorem olds_nf0 (u : List U) : olds (nf [] u) = olds u := olds_nf u [] .nil
theorem news_nf0 (u : List U) : news (nf [] u) = news u := by rw [news_nf]; simp [news]
end Go.Proofs.Ytfoponahdidddaa.P
namespace Go.Proofs.Ytfoponahdidddaa.P
open Go.RowKit Go.Proofs.YtfoponahdidddaaW.PrintWords Go.Proofs.YtfoponahdidddaaW.PrintLast Go.Proofs.YtfoponahdidddaaW.PrintMore
theorem some_loop (c : Int) (s : List Op) : ∀ (p out : List Op), Sm (p ++ s) → out.length + s.length < 4398046511104 → Ev (fun k => ops_Some.l0 k c out (p ++ s) ((p ++ s).length : Int) (p.length : Int)) (out ++ s.filter fun o => decide (o.f0 = c)) := by
 induction s with
 | nil =>
  intro p out _ _
  refine Ev.step (fun k => rfl) ?_
  simp only [ops_Some.l0, lt_end, if_false]
  simpa using Ev.now out
 | cons o s ih =>
  intro p out hb hl
  simp only [List.length_cons] at hl
  have i := fun out h => ih (p ++ [o]) out hb.snoc h
  rw [List.append_assoc, List.singleton_append] at i
  have hlo : out.length < 4398046511104 := by omega
  refine Ev.step (fun k => rfl) ?_
  simp only [ops_Some.l0, lt_mid, nn_nat, if_true, rdOp_mid, wrap_len p o (by have := hb.len; omega), if_pos hlo]
  by_cases h : o.f0 = c
  ·simp only [if_pos h]
   have := i (out ++ [o]) (by simp; omega)
   rw [List.filter_cons_of_pos (by simpa using h)]
   simpa using this
  ·simp only [if_neg h]
   rw [List.filter_cons_of_neg (by simpa using h)]
   exact i out (by omega)
theorem some_ev (c : Int) {l : List Op} (h : Sm l) : Ev (fun k => ops_Some.f k l c) (l.filter fun o => decide (o.f0 = c)) := by
 have := some_loop c l [] [] h (by simpa using h.1)
 simpa [ops_Some.f] using this
def chO (o : Op) : Bool := decide (o.f0 = 3 ∨ o.f0 = 4)
theorem change_kind (x : Int) : ops_Change.f x = some (decide (x = 3 ∨ x = 4)) := by
 unfold ops_Change.f
 by_cases h1 : x = 3
 ·simp [h1]
 ·by_cases h2 : x = 4 <;> simp [h1, h2]
theorem Sm.sub {p s : List Op} (h : Sm (p ++ s)) : Sm s := ⟨by have := h.1; simp at this; omega, fun o ho => h.2 o (by simp [ho])⟩
theorem Sm.left {p s : List Op} (h : Sm (p ++ s)) : Sm p := ⟨by have := h.1; simp at this; omega, fun o ho => h.2 o (by simp [ho])⟩
theorem norm_run (r : List Op) : ∀ (p s out : List Op) (from_ : Int) (v : List Op), Sm (p ++ (r ++ s)) → (∀ o ∈ r, chO o = true) → (∀ o t, s = o :: t → chO o = false) →
  Ev (fun k => ops_Norm.j2 k (p ++ (r ++ s)) out ((p ++ r).length : Int) from_) v →
  Ev (fun k => ops_Norm.l1 k (p ++ (r ++ s)) out (p.length : Int) from_) v := by
 induction r with
 | nil =>
  intro p s out from_ v hb _ hs h
  rw [List.append_nil, List.nil_append] at h
  rw [List.nil_append]
  refine Ev.step (fun k => rfl) ?_
  cases s with
  | nil =>
   simp only [ops_Norm.l1, lt_end, if_false]
   exact h
  | cons o t =>
   have ho := hs o t rfl
   have ho' : ¬ (o.f0 = 3 ∨ o.f0 = 4) := by simpa [chO] using ho
   simp only [ops_Norm.l1, lt_mid, nn_nat, if_true, rdOp_mid, change_kind, Option.bind_some, ho', decide_false, Bool.false_eq_true, if_false]
   exact h
 | cons o r ih =>
  intro p s out from_ v hb hr hs h
  have ho : chO o = true := hr o (List.mem_cons_self ..)
  have ho' : o.f0 = 3 ∨ o.f0 = 4 := by simpa [chO] using ho
  have i := ih (p ++ [o]) s out from_ v (by simpa using hb) (fun x hx => hr x (List.mem_cons_of_mem _ hx)) hs (by simpa using h)
  rw [List.append_assoc, List.singleton_append] at i
  rw [List.cons_append] at hb ⊢
  refine Ev.step (fun k => rfl) ?_
  simp only [ops_Norm.l1, lt_mid, nn_nat, if_true, rdOp_mid, change_kind, Option.bind_some, ho', decide_true, wrap_len p o (by have := hb.len; omega)]
  exact i
theorem norm_skips (r : List Op) : ∀ (p s out : List Op) (n : Int) (v : List Op), Sm (p ++ (r ++ s)) → out.length < 4398046511104 → (∀ o ∈ r, o.f0 = 1 ∧ 1 ≤ o.f1) → (∀ o t, s = o :: t → o.f0 ≠ 1) → 0 ≤ n → n + (sums 3 r : Int) < 4611686018427387904 →
  Ev (fun k => ops_Norm.l0 k (p ++ (r ++ s)) (out ++ [(⟨1, n + (sums 3 r : Int), ByteArray.empty⟩ : Op)]) ((p ++ r).length : Int)) v →
  Ev (fun k => ops_Norm.l2 k (p ++ (r ++ s)) out (p.length : Int) 1 n ByteArray.empty) v := by
 induction r with
 | nil =>
  intro p s out n v hb hlo _ hs h0 hn h
  rw [List.append_nil, List.nil_append, sums_nil, Int.natCast_zero, Int.add_zero] at h
  rw [List.nil_append]
  refine Ev.step (fun k => rfl) ?_
  cases s with
  | nil =>
   simp only [ops_Norm.l2, lt_end, if_false, if_true, if_pos hlo]
   exact h
  | cons o t =>
   have ho := hs o t rfl
   simp only [ops_Norm.l2, lt_mid, nn_nat, if_true, rdOp_mid, if_neg ho, if_pos hlo]
   exact h
 | cons o r ih =>
  intro p s out n v hb hlo hr hs h0 hn h
  obtain ⟨hk, h1⟩ := hr o (List.mem_cons_self ..)
  have hc : (cnt 3 o : Int) = o.f1 := by simp [cnt, hk]; omega
  rw [sums_cons] at hn h
  have hw : wrap64 (n + o.f1) = n + o.f1 := by unfold wrap64; omega
  have e : n + ((cnt 3 o + sums 3 r : Nat) : Int) = (n + o.f1) + (sums 3 r : Int) := by omega
  rw [e] at h
  have i := ih (p ++ [o]) s out (n + o.f1) v (by simpa using hb) hlo (fun x hx => hr x (List.mem_cons_of_mem _ hx)) hs (by omega) (by omega) (by simpa using h)
  rw [List.append_assoc, List.singleton_append] at i
  rw [List.cons_append] at hb ⊢
  refine Ev.step (fun k => rfl) ?_
  simp only [ops_Norm.l2, lt_mid, nn_nat, if_true, rdOp_mid, if_pos hk, hw, wrap_len p o (by have := hb.len; omega)]
  exact i
theorem okOne_skip {o : Op} (h : okOne o = true) (hk : o.f0 = 1) : 1 ≤ o.f1 ∧ o.f1 ≤ 2147483648 ∧ o.f2 = ByteArray.empty := by
 unfold okOne at h
 rw [if_pos hk] at h
 simp only [Bool.and_eq_true, decide_eq_true_eq] at h
 refine ⟨h.1, h.2.1, WideShapes.bytes_inj ?_⟩
 rw [h.2.2]; rfl
theorem okOne_ne {o : Op} (h : okOne o = true) (hk : o.f0 ≠ 1) : (o.f0 = 2 ∨ o.f0 = 3 ∨ o.f0 = 4) ∧ o.f1 = 0 ∧ rightT o.f2 = true := by
 unfold okOne at h
 rw [if_neg hk] at h
 simpa only [Bool.and_eq_true, decide_eq_true_eq] using h
theorem cut (f : Op → Bool) : ∀ (l : List Op), ∃ r s, l = r ++ s ∧ (∀ o ∈ r, f o = true) ∧ (∀ o t, s = o :: t → f o = false)
 | [] => ⟨[], [], rfl, fun o h => by simp at h, fun o t h => by simp at h⟩
 | o :: l => by
  by_cases ho : f o = true
  ·obtain ⟨r, s, rfl, h1, h2⟩ := cut f l
   refine ⟨o :: r, s, rfl, fun x hx => ?_, h2⟩
   rcases List.mem_cons.mp hx with rfl | hx
   ·exact ho
   ·exact h1 x hx
  ·exact ⟨[], o :: l, rfl, fun x h => by simp at h, fun x t h => by obtain ⟨rfl, _⟩ := List.cons.inj h; simpa using ho⟩
theorem ex_run : ∀ (r : List Op), (∀ o ∈ r, chO o = true ∧ okOne o = true) → (∀ x ∈ ex r, isCh x = true) ∧ (delsU (ex r)).map opU = r.filter (fun o => decide (o.f0 = 3)) ∧ (inssU (ex r)).map opU = r.filter (fun o => decide (o.f0 = 4)) ∧ AllIns (inssU (ex r))
 | [], _ => ⟨fun x h => by simp [ex] at h, rfl, rfl, .nil⟩
 | o :: r, h => by
  obtain ⟨i1, i2, i3, i4⟩ := ex_run r fun x hx => h x (List.mem_cons_of_mem _ hx)
  obtain ⟨hc, ho⟩ := h o (List.mem_cons_self ..)
  have hc' : o.f0 = 3 ∨ o.f0 = 4 := by simpa [chO] using hc
  obtain ⟨_, h1, _⟩ := okOne_ne ho (by omega)
  rw [ex_cons]
  rcases hc' with hk | hk
  ·have e : exO o = [.del o.f2] := by simp [exO, hk]
   have eo : opU (.del o.f2) = o := Op.ext' hk.symm h1.symm rfl
   rw [e]
   refine ⟨fun x hx => ?_, ?_, ?_, ?_⟩
   ·rcases List.mem_cons.mp hx with rfl | hx
    ·rfl
    ·exact i1 x hx
   ·rw [List.filter_cons_of_pos (by simpa using hk), ← i2, ← eo]; rfl
   ·rw [List.filter_cons_of_neg (by simp [hk]), ← i3]; rfl
   ·exact i4
  ·have e : exO o = [.ins o.f2] := by simp [exO, hk]
   have eo : opU (.ins o.f2) = o := Op.ext' hk.symm h1.symm rfl
   rw [e]
   refine ⟨fun x hx => ?_, ?_, ?_, ?_⟩
   ·rcases List.mem_cons.mp hx with rfl | hx
    ·rfl
    ·exact i1 x hx
   ·rw [List.filter_cons_of_neg (by simp [hk]), ← i2]; rfl
   ·rw [List.filter_cons_of_pos (by simpa using hk), ← i3, ← eo]; rfl
   ·intro x hx
    rcases List.mem_cons.mp hx with rfl | hx
    ·exact ⟨_, rfl⟩
    ·exact i4 x hx
theorem ex_skips : ∀ (r : List Op), (∀ o ∈ r, o.f0 = 1 ∧ 1 ≤ o.f1) → ex r = List.replicate (sums 3 r) .skip
 | [], _ => rfl
 | o :: r, h => by
  obtain ⟨hk, _⟩ := h o (List.mem_cons_self ..)
  rw [ex_cons, ex_skips r fun x hx => h x (List.mem_cons_of_mem _ hx), sums_cons, ← List.replicate_append_replicate]
  simp [exO, cnt, hk]
theorem nf_skips : ∀ (n : Nat) (u : List U), nf [] (List.replicate n .skip ++ u) = List.replicate n .skip ++ nf [] u
 | 0, u => rfl
 | n + 1, u => by
  rw [List.replicate_succ, List.cons_append, nf, nf_skips n u]; rfl
theorem ex_noSk : ∀ {s : List Op}, (∀ o t, s = o :: t → o.f0 ≠ 1) → NoSkU (ex s)
 | [], _ => fun x r e => by simp [ex] at e
 | o :: s, h => by
  have := h o s rfl
  intro x r e
  rw [ex_cons] at e
  unfold exO at e
  rw [if_neg this] at e
  split at e
  ·obtain ⟨rfl, _⟩ := List.cons.inj e; rfl
  ·split at e
   ·obtain ⟨rfl, _⟩ := List.cons.inj e; rfl
   ·obtain ⟨rfl, _⟩ := List.cons.inj e; rfl
theorem dels_noSk (u : List U) : ∀ x ∈ delsU u, isSkip x = false := by
 intro x hx
 have := (List.mem_filter.mp hx).2
 cases x <;> simp_all [isSkip]
theorem AllIns.noSk {u : List U} (h : AllIns u) : ∀ x ∈ u, isSkip x = false := by
 intro x hx
 obtain ⟨t, rfl⟩ := h x hx
 rfl
theorem filt_len : ∀ (r : List Op), (r.filter fun o => decide (o.f0 = 3)).length + (r.filter fun o => decide (o.f0 = 4)).length ≤ r.length
 | [] => by simp
 | o :: r => by
  have ih := filt_len r
  by_cases h3 : o.f0 = 3
  ·rw [List.filter_cons_of_pos (by simpa using h3), List.filter_cons_of_neg (by simp [h3])]
   simp only [List.length_cons]; omega
  ·by_cases h4 : o.f0 = 4
   ·rw [List.filter_cons_of_neg (by simpa using h3), List.filter_cons_of_pos (by simpa using h4)]
    simp only [List.length_cons]; omega
   ·rw [List.filter_cons_of_neg (by simpa using h3), List.filter_cons_of_neg (by simpa using h4)]
    simp only [List.length_cons]; omega
theorem norm_loop : ∀ (m : Nat) (s p out : List Op), s.length ≤ m → Sm (p ++ s) → out.length + s.length < 4398046511104 → (∀ o ∈ s, okOne o = true) → (sums 3 s : Int) < 1099511627776 →
  Ev (fun k => ops_Norm.l0 k (p ++ s) out (p.length : Int)) (out ++ pack (nf [] (ex s))) := by
 intro m
 induction m with
 | zero =>
  intro s p out hm _ _ _ _
  obtain rfl : s = [] := List.length_eq_zero_iff.mp (by omega)
  refine Ev.step (fun k => rfl) ?_
  simp only [ops_Norm.l0, lt_end, if_false]
  simpa [ex, nf, pack] using Ev.now out
 | succ m ih =>
  intro s p out hm hb hl hok hsum
  by_cases hs : s = []
  ·subst hs
   refine Ev.step (fun k => rfl) ?_
   simp only [ops_Norm.l0, lt_end, if_false]
   simpa [ex, nf, pack] using Ev.now out
  have hpos : 0 < s.length := List.length_pos_iff.mpr hs
  have g : ((p.length : Int) < ((p ++ s).length : Int)) := by simp; omega
  refine Ev.step (fun k => rfl) ?_
  simp only [ops_Norm.l0, if_pos g]
  obtain ⟨r, t, rfl, hr, ht⟩ := cut chO s
  obtain ⟨x1, x2, x3, x4⟩ := ex_run r fun o ho => ⟨hr o ho, hok o (by simp [ho])⟩
  simp only [List.length_append] at hm hl hpos
  have hlr := filt_len r
  refine norm_run r p t out _ _ hb hr ht ?_
  have hcut : ((p ++ (r ++ t)).take ((p ++ r).length : Int).toNat).drop (p.length : Int).toNat = r := by
   rw [Int.toNat_natCast, Int.toNat_natCast, ← List.append_assoc, List.take_left' rfl, List.drop_left' rfl]
  have hsr : Sm r := hb.sub.left
  have c1 : (0 : Int) ≤ (p.length : Int) := by omega
  have c2 : (p.length : Int) ≤ ((p ++ r).length : Int) := by simp only [List.length_append]; omega
  have c3 : ((p ++ r).length : Int) ≤ ((p ++ (r ++ t)).length : Int) := by simp; omega
  have c4 : out.length + (r.filter fun o => decide (o.f0 = 3)).length < 4398046511104 := by omega
  have c5 : (out ++ r.filter fun o => decide (o.f0 = 3)).length + (r.filter fun o => decide (o.f0 = 4)).length < 4398046511104 := by simp only [List.length_append]; omega
  refine Ev.step (fun k => rfl) ?_
  simp only [ops_Norm.j2, if_pos c1, if_pos c2, if_pos c3, hcut]
  refine Ev.bind' (some_ev 3 hsr) ?_
  simp only [if_pos c4, Option.bind_some]
  refine Ev.bind' (some_ev 4 hsr) ?_
  simp only [if_pos c5]
  have hout : ∀ u, out ++ pack (nf [] (ex (r ++ t))) = u ↔ ((out ++ r.filter fun o => decide (o.f0 = 3)) ++ pack (nf (inssU (ex r)) (ex t))) = u := by
   intro u
   rw [ex_app, nf_run _ _ _ x1, List.nil_append, pack_app_ne _ _ (dels_noSk _), x2, List.append_assoc]
  rw [(hout _).mpr rfl]
  cases t with
  | nil =>
   have c6 : ((p ++ r).length : Int) = ((p ++ (r ++ [])).length : Int) := by simp
   simp only [if_pos c6]
   have e : pack (nf (inssU (ex r)) (ex [])) = r.filter fun o => decide (o.f0 = 4) := by
    rw [ex_nil, nf, ← x3]
    have := pack_app_ne (inssU (ex r)) [] x4.noSk
    rw [List.append_nil, pack, List.append_nil] at this
    exact this
   rw [e]
   exact Ev.now _
  | cons o t =>
   have c6 : ¬ ((p ++ r).length : Int) = ((p ++ (r ++ o :: t)).length : Int) := by simp only [List.length_append, List.length_cons]; omega
   have c7 : (0 : Int) ≤ ((p ++ r).length : Int) := by omega
   have c8 : ((p ++ r).length : Int) < ((p ++ (r ++ o :: t)).length : Int) := by simp; omega
   have hrd : rd_Op (p ++ (r ++ o :: t)) ((p ++ r).length : Int) = o := by
    rw [← List.append_assoc]; exact rdOp_mid (p ++ r) t o
   have hw : wrap64 (((p ++ r).length : Int) + 1) = (((p ++ r) ++ [o]).length : Int) := wrap_len (p ++ r) o (by have := hb.1; simp at this ⊢; omega)
   simp only [if_neg c6, if_pos c7, if_pos c8, hrd, hw]
   have hoo : okOne o = true := hok o (by simp)
   have hco : chO o = false := ht o t rfl
   have hco' : ¬ (o.f0 = 3 ∨ o.f0 = 4) := by simpa [chO] using hco
   have hnI : ∀ x r', nf (inssU (ex r)) (x :: r') = inssU (ex r) ++ nf [] (x :: r') ∨ isCh x = true := by
    intro x r'
    cases x with
    | skip => exact .inl rfl
    | keep t => exact .inl rfl
    | del t => exact .inr rfl
    | ins t => exact .inr rfl
   simp only [List.length_cons] at hm hl
   by_cases hk : o.f0 = 1
   ·obtain ⟨h1, h2, h3⟩ := okOne_skip hoo hk
    obtain ⟨sk, t', rfl, hsk, ht'⟩ := cut (fun o => decide (o.f0 = 1)) t
    have hsk' : ∀ x ∈ sk, x.f0 = 1 ∧ 1 ≤ x.f1 := fun x hx => by
     have e : x.f0 = 1 := by simpa using hsk x hx
     exact ⟨e, (okOne_skip (hok x (by simp [hx])) e).1⟩
    have ht'' : ∀ x y, t' = x :: y → x.f0 ≠ 1 := fun x y e => by simpa using ht' x y e
    rw [sums_app, sums_cons, sums_app, show cnt 3 o = o.f1.toNat from by simp [cnt, hk]] at hsum
    simp only [List.length_append] at hm hl
    have elist : p ++ (r ++ o :: (sk ++ t')) = ((p ++ r) ++ [o]) ++ (sk ++ t') := by simp
    rw [hk, h3, elist]
    rw [elist] at hb
    refine norm_skips sk ((p ++ r) ++ [o]) t' _ o.f1 _ hb (by simp only [List.length_append]; omega) hsk' ht'' (by omega) (by omega) ?_
    have i := ih t' (((p ++ r) ++ [o]) ++ sk) ((out ++ r.filter fun o => decide (o.f0 = 3)) ++ (r.filter fun o => decide (o.f0 = 4)) ++ [⟨1, o.f1 + (sums 3 sk : Int), ByteArray.empty⟩]) (by omega) (by simpa using hb) (by simp only [List.length_append, List.length_cons, List.length_nil]; omega) (fun x hx => hok x (by simp [hx])) (by omega)
    have e2 : pack (nf (inssU (ex r)) (ex (o :: (sk ++ t')))) = (r.filter fun o => decide (o.f0 = 4)) ++ ⟨1, o.f1 + (sums 3 sk : Int), ByteArray.empty⟩ :: pack (nf [] (ex t')) := by
     have e3 : ex (o :: (sk ++ t')) = List.replicate ((o.f1.toNat + sums 3 sk - 1) + 1) .skip ++ ex t' := by
      rw [ex_cons, ex_app, ex_skips sk hsk', ← List.append_assoc, show exO o = List.replicate o.f1.toNat .skip from by simp [exO, hk], List.replicate_append_replicate]
      congr 2; omega
     rw [e3]
     have e4 : nf (inssU (ex r)) (List.replicate ((o.f1.toNat + sums 3 sk - 1) + 1) .skip ++ ex t') = inssU (ex r) ++ nf [] (List.replicate ((o.f1.toNat + sums 3 sk - 1) + 1) .skip ++ ex t') := by
      rw [List.replicate_succ, List.cons_append]; rfl
     rw [e4, nf_skips, pack_app_ne _ _ x4.noSk, x3, pack_skips _ _ (nf_noSk _ _ (fun x hx => by simp at hx) (fun _ => ex_noSk ht''))]
     congr 2
     have : (((o.f1.toNat + sums 3 sk - 1) + 1 : Nat) : Int) = o.f1 + (sums 3 sk : Int) := by omega
     rw [this]
    rw [e2]
    simpa using i
   ·have hk2 : o.f0 = 2 := by
     have := (okOne_ne hoo hk).1
     omega
    have h1 := (okOne_ne hoo hk).2.1
    have elist : p ++ (r ++ o :: t) = ((p ++ r) ++ [o]) ++ t := by simp
    have hlo : ((out ++ r.filter fun o => decide (o.f0 = 3)) ++ (r.filter fun o => decide (o.f0 = 4))).length < 4398046511104 := by simp only [List.length_append]; omega
    rw [sums_app, sums_cons] at hsum
    rw [elist] at hb ⊢
    have i := ih t ((p ++ r) ++ [o]) ((out ++ r.filter fun o => decide (o.f0 = 3)) ++ (r.filter fun o => decide (o.f0 = 4)) ++ [o]) (by omega) hb (by simp only [List.length_append, List.length_cons, List.length_nil]; omega) (fun x hx => hok x (by simp [hx])) (by omega)
    refine Ev.step (fun k => rfl) ?_
    simp only [ops_Norm.l2, if_neg hk, if_pos hlo]
    have e2 : pack (nf (inssU (ex r)) (ex (o :: t))) = (r.filter fun o => decide (o.f0 = 4)) ++ o :: pack (nf [] (ex t)) := by
     have eo : opU (.keep o.f2) = o := Op.ext' hk2.symm h1.symm rfl
     rw [ex_cons, show exO o = [.keep o.f2] from by simp [exO, hk2], List.singleton_append, nf, pack_app_ne _ _ x4.noSk, x3, pack, put_ne rfl, eo]
    rw [e2]
    simpa using i
def normL (l : List Op) : List Op := pack (nf [] (ex l))
theorem rightL_ok {l : List Op} (h : rightL l = true) : (∀ o ∈ l, okOne o = true) ∧ sums 3 l ≤ 2147483648 ∧ sums 4 l ≤ 2147483648 ∧ closedGo 3 false l = true ∧ closedGo 4 false l = true := by
 unfold rightL at h
 simp only [Bool.and_eq_true, decide_eq_true_eq, List.all_eq_true] at h
 obtain ⟨h1, h2, h3, h4, h5⟩ := h
 refine ⟨h1, ?_, ?_, h4, h5⟩
 ·unfold capd far at h2; omega
 ·unfold capd far at h3; omega
theorem norm_ev {l : List Op} (h : Sm l) : Ev (fun k => ops_Norm.f k l) (if rightL l then normL l else []) := by
 refine Ev.bind' (right_ev h) ?_
 cases hr : rightL l
 ·simp only [Bool.false_eq_true, if_false]; exact Ev.now _
 ·simp only [if_true]
  obtain ⟨h1, h2, _⟩ := rightL_ok hr
  exact norm_loop l.length l [] [] (Nat.le_refl _) h (by simpa using h.1) h1 (by omega)
end Go.Proofs.Ytfoponahdidddaa.P
namespace Go.Proofs.Ytfoponahdidddaa.P
open Go.RowKit Go.Proofs.YtfoponahdidddaaW.PrintWords Go.Proofs.YtfoponahdidddaaW.PrintLast Go.Proofs.YtfoponahdidddaaW.PrintMore
def formO (o : Op) : Prop := (o.f0 = 1 ∧ 1 ≤ o.f1 ∧ o.f2 = ByteArray.empty) ∨ ((o.f0 = 2 ∨ o.f0 = 3 ∨ o.f0 = 4) ∧ o.f1 = 0)
theorem form_of {o : Op} (h : okOne o = true) : formO o := by
 by_cases hk : o.f0 = 1
 ·have := okOne_skip h hk; exact .inl ⟨hk, this.1, this.2.2⟩
 ·have := okOne_ne h hk; exact .inr ⟨this.1, this.2.1⟩
def skips (l : List Op) : Int := (l.map fun o => if o.f0 = 1 then o.f1 else 0).sum
theorem skips_nil : skips [] = 0 := rfl
theorem skips_cons (o : Op) (l : List Op) : skips (o :: l) = (if o.f0 = 1 then o.f1 else 0) + skips l := by simp [skips]
theorem skips_app (p q : List Op) : skips (p ++ q) = skips p + skips q := by simp [skips]
theorem skips_le (c : Int) {l : List Op} (h : ∀ o ∈ l, formO o) : skips l ≤ (sums c l : Int) := by
 induction l with
 | nil => exact Int.le_refl _
 | cons o l ih =>
  rw [skips_cons, sums_cons]
  have i := ih fun x hx => h x (List.mem_cons_of_mem _ hx)
  unfold cnt
  rcases h o (List.mem_cons_self ..) with ⟨h1, h2, _⟩ | ⟨h1, _⟩
  ·rw [if_pos h1, if_pos h1]; omega
  ·rw [if_neg (by omega)]; omega
end Go.Proofs.Ytfoponahdidddaa.P
namespace Go.Proofs.Ytfoponahdidddaa.P
open Go.RowKit Go.Proofs.YtfoponahdidddaaW.PrintWords Go.Proofs.YtfoponahdidddaaW.PrintLast Go.Proofs.YtfoponahdidddaaW.PrintMore
def closedS : Bool → List (Option ByteArray) → Bool
 | _, [] => true
 | true, _ :: _ => false
 | false, none :: s => closedS false s
 | false, some t :: s => closedS (openT t) s
def textS (s : List (Option ByteArray)) : Bool := s.all fun x => match x with | none => true | some t => rightT t
def okS (s : List (Option ByteArray)) : Bool := textS s && (closedS false s && decide (s.length ≤ 2147483648))
def rightU (u : List U) : Bool := okS (olds u) && okS (news u)
theorem closedS_none : ∀ (n : Nat) (s : List (Option ByteArray)), closedS false (List.replicate n none ++ s) = closedS false s
 | 0, _ => rfl
 | n + 1, s => by rw [List.replicate_succ, List.cons_append, closedS, closedS_none n s]
theorem olds_skips : ∀ (n : Nat), olds (List.replicate n .skip) = List.replicate n none
 | 0 => rfl
 | n + 1 => by rw [List.replicate_succ, olds, olds_skips n, List.replicate_succ]
theorem news_skips : ∀ (n : Nat), news (List.replicate n .skip) = List.replicate n none
 | 0 => rfl
 | n + 1 => by rw [List.replicate_succ, news, news_skips n, List.replicate_succ]
theorem closed_olds : ∀ (l : List Op) (e : Bool), (∀ o ∈ l, formO o) → closedGo 3 e l = closedS e (olds (ex l))
 | [], e, _ => by cases e <;> rfl
 | o :: l, e, h => by
  have i := fun e => closed_olds l e fun x hx => h x (List.mem_cons_of_mem _ hx)
  rw [ex_cons, olds_app]
  rcases h o (List.mem_cons_self ..) with ⟨hk, h1, _⟩ | ⟨hk | hk | hk, _⟩
  ·have epos : o.f1.toNat = (o.f1.toNat - 1) + 1 := by omega
   rw [show exO o = List.replicate o.f1.toNat .skip from by simp [exO, hk], olds_skips]
   cases e
   ·rw [closedS_none, ← i false]; simp [closedGo, hk]
   ·rw [epos, List.replicate_succ]; simp [closedGo, closedS, hk]
  ·rw [show exO o = [.keep o.f2] from by simp [exO, hk]]
   cases e
   ·simp only [olds, List.cons_append, List.nil_append, closedS]; rw [← i]; simp [closedGo, hk]
   ·simp [olds, closedGo, closedS, hk]
  ·rw [show exO o = [.del o.f2] from by simp [exO, hk]]
   cases e
   ·simp only [olds, List.cons_append, List.nil_append, closedS]; rw [← i]; simp [closedGo, hk]
   ·simp [olds, closedGo, closedS, hk]
  ·rw [show exO o = [.ins o.f2] from by simp [exO, hk]]
   simp only [olds, List.nil_append]
   rw [← i]; simp [closedGo, hk]
theorem closed_news : ∀ (l : List Op) (e : Bool), (∀ o ∈ l, formO o) → closedGo 4 e l = closedS e (news (ex l))
 | [], e, _ => by cases e <;> rfl
 | o :: l, e, h => by
  have i := fun e => closed_news l e fun x hx => h x (List.mem_cons_of_mem _ hx)
  rw [ex_cons, news_app]
  rcases h o (List.mem_cons_self ..) with ⟨hk, h1, _⟩ | ⟨hk | hk | hk, _⟩
  ·have epos : o.f1.toNat = (o.f1.toNat - 1) + 1 := by omega
   rw [show exO o = List.replicate o.f1.toNat .skip from by simp [exO, hk], news_skips]
   cases e
   ·rw [closedS_none, ← i false]; simp [closedGo, hk]
   ·rw [epos, List.replicate_succ]; simp [closedGo, closedS, hk]
  ·rw [show exO o = [.keep o.f2] from by simp [exO, hk]]
   cases e
   ·simp only [news, List.cons_append, List.nil_append, closedS]; rw [← i]; simp [closedGo, hk]
   ·simp [news, closedGo, closedS, hk]
  ·rw [show exO o = [.del o.f2] from by simp [exO, hk]]
   simp only [news, List.nil_append]
   rw [← i]; simp [closedGo, hk]
  ·rw [show exO o = [.ins o.f2] from by simp [exO, hk]]
   cases e
   ·simp only [news, List.cons_append, List.nil_append, closedS]; rw [← i]; simp [closedGo, hk]
   ·simp [news, closedGo, closedS, hk]
theorem sums_olds : ∀ (l : List Op), (∀ o ∈ l, formO o) → sums 3 l = (olds (ex l)).length
 | [], _ => rfl
 | o :: l, h => by
  rw [sums_cons, sums_olds l fun x hx => h x (List.mem_cons_of_mem _ hx), ex_cons, olds_app, List.length_append]
  congr 1
  rcases h o (List.mem_cons_self ..) with ⟨hk, h1, _⟩ | ⟨hk | hk | hk, _⟩
  ·rw [show exO o = List.replicate o.f1.toNat .skip from by simp [exO, hk], olds_skips]; simp [cnt, hk]
  ·rw [show exO o = [.keep o.f2] from by simp [exO, hk]]; simp [cnt, hk, olds]
  ·rw [show exO o = [.del o.f2] from by simp [exO, hk]]; simp [cnt, hk, olds]
  ·rw [show exO o = [.ins o.f2] from by simp [exO, hk]]; simp [cnt, hk, olds]
theorem sums_news : ∀ (l : List Op), (∀ o ∈ l, formO o) → sums 4 l = (news (ex l)).length
 | [], _ => rfl
 | o :: l, h => by
  rw [sums_cons, sums_news l fun x hx => h x (List.mem_cons_of_mem _ hx), ex_cons, news_app, List.length_append]
  congr 1
  rcases h o (List.mem_cons_self ..) with ⟨hk, h1, _⟩ | ⟨hk | hk | hk, _⟩
  ·rw [show exO o = List.replicate o.f1.toNat .skip from by simp [exO, hk], news_skips]; simp [cnt, hk]
  ·rw [show exO o = [.keep o.f2] from by simp [exO, hk]]; simp [cnt, hk, news]
  ·rw [show exO o = [.del o.f2] from by simp [exO, hk]]; simp [cnt, hk, news]
  ·rw [show exO o = [.ins o.f2] from by simp [exO, hk]]; simp [cnt, hk, news]
theorem textS_app (p q : List (Option ByteArray)) : textS (p ++ q) = (textS p && textS q) := by simp [textS]
theorem textS_none (n : Nat) : textS (List.replicate n none) = true := by simp [textS]
theorem texts_of : ∀ (l : List Op), (∀ o ∈ l, okOne o = true) → textS (olds (ex l)) = true ∧ textS (news (ex l)) = true
 | [], _ => ⟨rfl, rfl⟩
 | o :: l, h => by
  obtain ⟨i1, i2⟩ := texts_of l fun x hx => h x (List.mem_cons_of_mem _ hx)
  have ho := h o (List.mem_cons_self ..)
  rw [ex_cons, olds_app, news_app, textS_app, textS_app, i1, i2, Bool.and_true, Bool.and_true]
  by_cases hk : o.f0 = 1
  ·rw [show exO o = List.replicate o.f1.toNat .skip from by simp [exO, hk], olds_skips, news_skips]
   exact ⟨textS_none _, textS_none _⟩
  ·obtain ⟨hk | hk | hk, _, ht⟩ := okOne_ne ho hk
   ·rw [show exO o = [.keep o.f2] from by simp [exO, hk]]; simp [olds, news, textS, ht]
   ·rw [show exO o = [.del o.f2] from by simp [exO, hk]]; simp [olds, news, textS, ht]
   ·rw [show exO o = [.ins o.f2] from by simp [exO, hk]]; simp [olds, news, textS, ht]
theorem ok_of : ∀ (l : List Op), (∀ o ∈ l, formO o) → textS (olds (ex l)) = true → textS (news (ex l)) = true → sums 3 l ≤ 2147483648 → ∀ o ∈ l, okOne o = true
 | [], _, _, _, _ => fun o ho => by simp at ho
 | o :: l, h, h1, h2, h3 => by
  have hf := h o (List.mem_cons_self ..)
  rw [ex_cons, olds_app, textS_app, Bool.and_eq_true] at h1
  rw [ex_cons, news_app, textS_app, Bool.and_eq_true] at h2
  rw [sums_cons] at h3
  intro x hx
  rcases List.mem_cons.mp hx with rfl | hx
  ·clear hx
   unfold okOne
   rcases hf with ⟨hk, c1, c2⟩ | ⟨hk, c1⟩
   ·rw [if_pos hk]
    have : cnt 3 x = x.f1.toNat := by simp [cnt, hk]
    have c3 : x.f1 ≤ 2147483648 := by omega
    have c4 : x.f2.data.toList = [] := by rw [c2]; rfl
    simp only [c1, c3, c4, decide_true, Bool.and_self]
   ·rw [if_neg (by omega)]
    have ht : rightT x.f2 = true := by
     rcases hk with hk | hk | hk
     ·have := h1.1
      rw [show exO x = [.keep x.f2] from by simp [exO, hk]] at this
      simpa [olds, textS] using this
     ·have := h1.1
      rw [show exO x = [.del x.f2] from by simp [exO, hk]] at this
      simpa [olds, textS] using this
     ·have := h2.1
      rw [show exO x = [.ins x.f2] from by simp [exO, hk]] at this
      simpa [news, textS] using this
    simp only [hk, c1, ht, decide_true, Bool.and_self]
  ·exact ok_of l (fun y hy => h y (List.mem_cons_of_mem _ hy)) h1.2 h2.2 (by omega) x hx
theorem right_iff {l : List Op} (hf : ∀ o ∈ l, formO o) : rightL l = rightU (ex l) := by
 have hc : ∀ c, decide (capd c l ≤ 2147483648) = decide (sums c l ≤ 2147483648) := by
  intro c
  have : (capd c l ≤ 2147483648) ↔ (sums c l ≤ 2147483648) := by unfold capd far; omega
  simp only [this]
 have h3 := sums_olds l hf
 have h4 := sums_news l hf
 unfold rightL rightU okS
 rw [hc, hc, closed_olds l false hf, closed_news l false hf, ← h3, ← h4]
 cases ha : l.all okOne
 ·rw [Bool.false_and]
  by_cases t1 : textS (olds (ex l)) = true
  ·by_cases t2 : textS (news (ex l)) = true
   ·by_cases s3 : sums 3 l ≤ 2147483648
    ·have := ok_of l hf t1 t2 s3
     have : l.all okOne = true := List.all_eq_true.mpr this
     rw [this] at ha; simp at ha
    ·simp [s3]
   ·simp [t2]
  ·simp [t1]
 ·obtain ⟨t1, t2⟩ := texts_of l (List.all_eq_true.mp ha)
  rw [t1, t2]
  cases closedS false (olds (ex l)) <;> cases closedS false (news (ex l)) <;> by_cases s3 : sums 3 l ≤ 2147483648 <;> by_cases s4 : sums 4 l ≤ 2147483648 <;> simp [s3, s4]
theorem rightL_form {l : List Op} (h : rightL l = true) : ∀ o ∈ l, formO o := fun o ho => form_of ((rightL_ok h).1 o ho)
theorem rightL_U {l : List Op} (h : rightL l = true) : rightU (ex l) = true := by rw [← right_iff (rightL_form h)]; exact h
theorem form_pack (u : List U) : ∀ o ∈ pack u, formO o := by
 induction u with
 | nil => intro o ho; simp [pack] at ho
 | cons x u ih =>
  intro o ho
  by_cases hk : o.f0 = 1
  ·have := pack_pos (x :: u) o ho hk
   exact .inl ⟨hk, this.1, this.2⟩
  ·rw [pack] at ho
   cases x with
   | skip =>
    cases hp : pack u with
    | nil => rw [hp] at ho; rw [List.mem_singleton.mp ho] at hk; simp [opU] at hk
    | cons y r =>
     rw [hp] at ho ih
     by_cases hy : y.f0 = 1
     ·simp only [put, if_pos hy] at ho
      rcases List.mem_cons.mp ho with rfl | ho
      ·simp at hk
      ·exact ih o (List.mem_cons_of_mem _ ho)
     ·simp only [put, if_neg hy] at ho
      rcases List.mem_cons.mp ho with rfl | ho
      ·simp at hk
      ·exact ih o ho
   | keep t =>
    rw [put_ne rfl] at ho
    rcases List.mem_cons.mp ho with rfl | ho
    ·exact .inr ⟨by simp [opU], rfl⟩
    ·exact ih o ho
   | del t =>
    rw [put_ne rfl] at ho
    rcases List.mem_cons.mp ho with rfl | ho
    ·exact .inr ⟨by simp [opU], rfl⟩
    ·exact ih o ho
   | ins t =>
    rw [put_ne rfl] at ho
    rcases List.mem_cons.mp ho with rfl | ho
    ·exact .inr ⟨by simp [opU], rfl⟩
    ·exact ih o ho
theorem right_pack (u : List U) : rightL (pack u) = rightU u := by rw [right_iff (form_pack u), ex_pack]
theorem rightU_nf (u : List U) : rightU (nf [] u) = rightU u := by unfold rightU; rw [olds_nf0, news_nf0]
theorem pack_len (u : List U) : (pack u).length ≤ u.length := by
 induction u with
 | nil => exact Nat.le_refl _
 | cons x u ih =>
  rw [pack]
  cases x with
  | skip =>
   cases hp : pack u with
   | nil => simp [put]
   | cons y r =>
    rw [hp] at ih
    simp only [put]
    split
    ·simp only [List.length_cons] at *; omega
    ·simp only [List.length_cons] at *; omega
  | keep t => rw [put_ne rfl]; simp only [List.length_cons]; omega
  | del t => rw [put_ne rfl]; simp only [List.length_cons]; omega
  | ins t => rw [put_ne rfl]; simp only [List.length_cons]; omega
def flipX : U → U
 | .skip => .skip
 | .keep t => .keep t
 | .del t => .ins t
 | .ins t => .del t
def flipU (u : List U) : List U := u.map flipX
def flipO (o : Op) : Op := if o.f0 = 3 then ⟨4, o.f1, o.f2⟩ else if o.f0 = 4 then ⟨3, o.f1, o.f2⟩ else o
theorem flipX_flipX (x : U) : flipX (flipX x) = x := by cases x <;> rfl
theorem flipU_flipU (u : List U) : flipU (flipU u) = u := by
 simp only [flipU, List.map_map, Function.comp_def, flipX_flipX, List.map_id']
theorem olds_flip (u : List U) : olds (flipU u) = news u := by
 induction u with
 | nil => rfl
 | cons x u ih => cases x <;> simp only [flipU, List.map_cons, flipX, olds, news] <;> first | exact ih | rw [show (u.map flipX) = flipU u from rfl, ih]
theorem news_flip (u : List U) : news (flipU u) = olds u := by
 have := olds_flip (flipU u)
 rw [flipU_flipU] at this
 exact this.symm
theorem rightU_flip (u : List U) : rightU (flipU u) = rightU u := by
 unfold rightU; rw [olds_flip, news_flip, Bool.and_comm]
theorem ex_flipO {o : Op} (h : formO o) : exO (flipO o) = flipU (exO o) := by
 rcases h with ⟨hk, _⟩ | ⟨hk | hk | hk, _⟩
 ·simp [flipO, exO, hk, flipU, flipX]
 ·simp [flipO, exO, hk, flipU, flipX]
 ·simp [flipO, exO, hk, flipU, flipX]
 ·simp [flipO, exO, hk, flipU, flipX]
theorem ex_flip : ∀ {l : List Op}, (∀ o ∈ l, formO o) → ex (l.map flipO) = flipU (ex l)
 | [], _ => rfl
 | o :: l, h => by
  rw [List.map_cons, ex_cons, ex_cons, ex_flip fun x hx => h x (List.mem_cons_of_mem _ hx), ex_flipO (h o (List.mem_cons_self ..))]
  simp [flipU]
theorem form_flip {o : Op} (h : formO o) : formO (flipO o) := by
 rcases h with ⟨hk, h1, h2⟩ | ⟨hk | hk | hk, h1⟩
 ·exact .inl (by simp [flipO, hk, h1, h2])
 ·exact .inr (by simp [flipO, hk, h1])
 ·exact .inr (by simp [flipO, hk, h1])
 ·exact .inr (by simp [flipO, hk, h1])
def flipL (l : List Op) : List Op := pack (nf [] (flipU (ex l)))
theorem put_len (x : U) (r : List Op) : (put x r).length ≤ r.length + 1 := by
 cases x with
 | skip =>
  cases r with
  | nil => exact Nat.le_refl _
  | cons y r => simp only [put]; split <;> simp only [List.length_cons] <;> omega
 | keep t => exact Nat.le_refl _
 | del t => exact Nat.le_refl _
 | ins t => exact Nat.le_refl _
theorem pack_app_len : ∀ (a b : List U), (pack (a ++ b)).length ≤ a.length + (pack b).length
 | [], b => by simp
 | x :: a, b => by
  have := pack_app_len a b
  have := put_len x (pack (a ++ b))
  simp only [List.cons_append, pack, List.length_cons]; omega
theorem pack_skips_len : ∀ (n : Nat) (b : List U), (pack (List.replicate n .skip ++ b)).length ≤ 1 + (pack b).length
 | 0, b => by simp
 | 1, b => by have := put_len .skip (pack b); rw [Nat.add_comm]; exact this
 | n + 2, b => by
  have ih := pack_skips_len (n + 1) b
  rw [List.replicate_succ, List.cons_append, pack]
  cases hp : pack (List.replicate (n + 1) .skip ++ b) with
  | nil => simp [put]
  | cons y r =>
   have hy : y.f0 = 1 := by
    rw [List.replicate_succ, List.cons_append, pack] at hp
    cases hq : pack (List.replicate n .skip ++ b) with
    | nil => rw [hq] at hp; obtain ⟨rfl, _⟩ := List.cons.inj hp; rfl
    | cons z w =>
     rw [hq] at hp
     simp only [put] at hp
     split at hp <;> (obtain ⟨rfl, _⟩ := List.cons.inj hp; rfl)
   rw [hp] at ih
   simp only [put, if_pos hy, List.length_cons] at *
   omega
theorem nf_pack_len : ∀ (l : List Op) (I : List U), (∀ o ∈ l, formO o) → (pack (nf I (ex l))).length ≤ I.length + l.length
 | [], I, _ => by rw [ex_nil, nf]; exact pack_len I
 | o :: l, I, h => by
  have hl : ∀ x ∈ l, formO x := fun x hx => h x (List.mem_cons_of_mem _ hx)
  rw [ex_cons, List.length_cons]
  rcases h o (List.mem_cons_self ..) with ⟨hk, h1, _⟩ | ⟨hk | hk | hk, _⟩
  ·have epos : o.f1.toNat = (o.f1.toNat - 1) + 1 := by omega
   rw [show exO o = List.replicate o.f1.toNat .skip from by simp [exO, hk]]
   have e : nf I (List.replicate o.f1.toNat .skip ++ ex l) = I ++ (List.replicate o.f1.toNat .skip ++ nf [] (ex l)) := by
    rw [epos, List.replicate_succ, List.cons_append, nf, nf_skips]; rfl
   rw [e]
   have i1 := pack_app_len I (List.replicate o.f1.toNat .skip ++ nf [] (ex l))
   have i2 := pack_skips_len o.f1.toNat (nf [] (ex l))
   have i3 := nf_pack_len l [] hl
   simp only [List.length_nil] at i3
   omega
  ·rw [show exO o = [.keep o.f2] from by simp [exO, hk], List.singleton_append, nf]
   have i1 := pack_app_len I (.keep o.f2 :: nf [] (ex l))
   have i2 := put_len (.keep o.f2) (pack (nf [] (ex l)))
   have i3 := nf_pack_len l [] hl
   simp only [List.length_nil, pack] at i1 i3
   omega
  ·rw [show exO o = [.del o.f2] from by simp [exO, hk], List.singleton_append, nf]
   have i2 := put_len (.del o.f2) (pack (nf I (ex l)))
   have i3 := nf_pack_len l I hl
   simp only [pack]
   omega
  ·rw [show exO o = [.ins o.f2] from by simp [exO, hk], List.singleton_append, nf]
   have i3 := nf_pack_len l (I ++ [.ins o.f2]) hl
   simp only [List.length_append, List.length_cons, List.length_nil] at i3
   omega
def txU : U → ByteArray
 | .skip => ByteArray.empty
 | .keep t => t
 | .del t => t
 | .ins t => t
theorem tx_pack (u : List U) : ∀ o ∈ pack u, o.f2 = ByteArray.empty ∨ ∃ x ∈ u, o.f2 = txU x := by
 intro o ho
 by_cases hk : o.f0 = 1
 ·exact .inl (pack_pos u o ho hk).2
 ·refine .inr ?_
  have hm : ∀ x ∈ exO o, x ∈ ex (pack u) := fun x hx => List.mem_flatMap.mpr ⟨o, ho, hx⟩
  rw [ex_pack] at hm
  unfold exO at hm
  rw [if_neg hk] at hm
  split at hm
  ·exact ⟨_, hm _ (List.mem_cons_self ..), rfl⟩
  ·split at hm
   ·exact ⟨_, hm _ (List.mem_cons_self ..), rfl⟩
   ·exact ⟨_, hm _ (List.mem_cons_self ..), rfl⟩
theorem nf_mem : ∀ (u I : List U) (x : U), x ∈ nf I u → x ∈ I ∨ x ∈ u
 | [], I, x, h => .inl h
 | .ins t :: u, I, x, h => by
  rw [nf] at h
  rcases nf_mem u _ x h with h | h
  ·rcases List.mem_append.mp h with h | h
   ·exact .inl h
   ·exact .inr (by rw [List.mem_singleton.mp h]; exact List.mem_cons_self ..)
  ·exact .inr (List.mem_cons_of_mem _ h)
 | .del t :: u, I, x, h => by
  rw [nf] at h
  rcases List.mem_cons.mp h with h | h
  ·exact .inr (by rw [h]; exact List.mem_cons_self ..)
  ·rcases nf_mem u I x h with h | h
   ·exact .inl h
   ·exact .inr (List.mem_cons_of_mem _ h)
 | .keep t :: u, I, x, h => by
  rw [nf] at h
  rcases List.mem_append.mp h with h | h
  ·exact .inl h
  ·rcases List.mem_cons.mp h with h | h
   ·exact .inr (by rw [h]; exact List.mem_cons_self ..)
   ·rcases nf_mem u [] x h with h | h
    ·simp at h
    ·exact .inr (List.mem_cons_of_mem _ h)
 | .skip :: u, I, x, h => by
  rw [nf] at h
  rcases List.mem_append.mp h with h | h
  ·exact .inl h
  ·rcases List.mem_cons.mp h with h | h
   ·exact .inr (by rw [h]; exact List.mem_cons_self ..)
   ·rcases nf_mem u [] x h with h | h
    ·simp at h
    ·exact .inr (List.mem_cons_of_mem _ h)
theorem tx_ex {l : List Op} {x : U} (h : x ∈ ex l) : txU x = ByteArray.empty ∨ ∃ o ∈ l, txU x = o.f2 := by
 obtain ⟨o, ho, hx⟩ := List.mem_flatMap.mp h
 unfold exO at hx
 split at hx
 ·rw [List.eq_of_mem_replicate hx]; exact .inl rfl
 ·refine .inr ⟨o, ho, ?_⟩
  split at hx
  ·rw [List.mem_singleton.mp hx]; rfl
  ·split at hx
   ·rw [List.mem_singleton.mp hx]; rfl
   ·rw [List.mem_singleton.mp hx]; rfl
theorem Sm.norm {l : List Op} (h : Sm l) (hf : ∀ o ∈ l, formO o) : Sm (normL l) := by
 unfold normL
 refine ⟨?_, fun o ho => ?_⟩
 ·have := nf_pack_len l [] hf
  have := h.1
  simp only [List.length_nil] at *
  omega
 ·have he : ByteArray.empty.size = 0 := rfl
  rcases tx_pack _ o ho with e | ⟨x, hx, e⟩
  ·rw [e, he]; omega
  ·rcases nf_mem _ _ _ hx with hx | hx
   ·simp at hx
   ·rcases tx_ex hx with e2 | ⟨y, hy, e2⟩
    ·rw [e, e2, he]; omega
    ·rw [e, e2]; exact h.2 y hy
end Go.Proofs.Ytfoponahdidddaa.P
namespace Go.Proofs.Ytfoponahdidddaa.P
open Go.RowKit Go.Proofs.YtfoponahdidddaaW.PrintWords Go.Proofs.YtfoponahdidddaaW.PrintLast Go.Proofs.YtfoponahdidddaaW.PrintMore
def wholeL : List ByteArray → Bool
 | [] => true
 | x :: l => rightT x && (if openT x = true ∧ l ≠ [] then false else wholeL l)
def SmT (l : List ByteArray) : Prop := l.length < 4398046511104 ∧ ∀ x ∈ l, x.size < 4611686018427387904
def BgT (l : List ByteArray) : Prop := l.length < 8796093022208 ∧ ∀ x ∈ l, x.size < 4611686018427387904
theorem BgT.mid {p s : List ByteArray} {o : ByteArray} (h : BgT (p ++ o :: s)) : o.size < 4611686018427387904 := h.2 o (by simp)
theorem BgT.snoc {p s : List ByteArray} {o : ByteArray} (h : BgT (p ++ o :: s)) : BgT ((p ++ [o]) ++ s) := by rw [List.append_assoc]; exact h
def doU : List U → List ByteArray → Option (List ByteArray)
 | [], ls => some ls
 | .skip :: u, x :: ls => (doU u ls).map (x :: ·)
 | .keep t :: u, x :: ls => if x = t then (doU u ls).map (x :: ·) else none
 | .del t :: u, x :: ls => if x = t then doU u ls else none
 | .ins t :: u, ls => (doU u ls).map (t :: ·)
 | .skip :: _, [] => none
 | .keep _ :: _, [] => none
 | .del _ :: _, [] => none
def told (out : List ByteArray) : Option (List ByteArray) → List ByteArray × Bool
 | none => ([], false)
 | some r => if wholeL (out ++ r) then (out ++ r, true) else ([], false)
end Go.Proofs.Ytfoponahdidddaa.P
namespace Go.Proofs.Ytfoponahdidddaa.P
open Go.RowKit Go.Proofs.YtfoponahdidddaaW.PrintWords Go.Proofs.YtfoponahdidddaaW.PrintLast Go.Proofs.YtfoponahdidddaaW.PrintMore
def insN : List U → Nat
 | [] => 0
 | .ins _ :: u => insN u + 1
 | .skip :: u => insN u
 | .keep _ :: u => insN u
 | .del _ :: u => insN u
theorem doU_len : ∀ (u : List U) (ls r : List ByteArray), doU u ls = some r → r.length ≤ ls.length + insN u
 | [], ls, r, h => by rw [doU] at h; rw [Option.some.inj h]; exact Nat.le_refl _
 | .ins t :: u, ls, r, h => by
  rw [doU] at h
  obtain ⟨r', h', rfl⟩ := Option.map_eq_some_iff.mp h
  have := doU_len u ls r' h'
  simp only [List.length_cons, insN]; omega
 | .del t :: u, [], r, h => by rw [doU] at h; simp at h
 | .del t :: u, x :: ls, r, h => by
  rw [doU] at h
  split at h
  ·have := doU_len u ls r h
   simp only [List.length_cons, insN]; omega
  ·simp at h
 | .keep t :: u, [], r, h => by rw [doU] at h; simp at h
 | .keep t :: u, x :: ls, r, h => by
  rw [doU] at h
  split at h
  ·obtain ⟨r', h', rfl⟩ := Option.map_eq_some_iff.mp h
   have := doU_len u ls r' h'
   simp only [List.length_cons, insN]; omega
  ·simp at h
 | .skip :: u, [], r, h => by rw [doU] at h; simp at h
 | .skip :: u, x :: ls, r, h => by
  rw [doU] at h
  obtain ⟨r', h', rfl⟩ := Option.map_eq_some_iff.mp h
  have := doU_len u ls r' h'
  simp only [List.length_cons, insN]; omega
theorem doU_mem : ∀ (u : List U) (ls r : List ByteArray), doU u ls = some r → ∀ y ∈ r, y ∈ ls ∨ ∃ x ∈ u, y = txU x
 | [], ls, r, h, y, hy => by rw [doU] at h; rw [Option.some.inj h]; exact .inl hy
 | .ins t :: u, ls, r, h, y, hy => by
  rw [doU] at h
  obtain ⟨r', h', rfl⟩ := Option.map_eq_some_iff.mp h
  rcases List.mem_cons.mp hy with rfl | hy
  ·exact .inr ⟨_, List.mem_cons_self .., rfl⟩
  ·rcases doU_mem u ls r' h' y hy with h | ⟨x, hx, e⟩
   ·exact .inl h
   ·exact .inr ⟨x, List.mem_cons_of_mem _ hx, e⟩
 | .del t :: u, [], r, h, y, hy => by rw [doU] at h; simp at h
 | .del t :: u, x :: ls, r, h, y, hy => by
  rw [doU] at h
  split at h
  ·rcases doU_mem u ls r h y hy with h | ⟨x, hx, e⟩
   ·exact .inl (List.mem_cons_of_mem _ h)
   ·exact .inr ⟨x, List.mem_cons_of_mem _ hx, e⟩
  ·simp at h
 | .keep t :: u, [], r, h, y, hy => by rw [doU] at h; simp at h
 | .keep t :: u, x :: ls, r, h, y, hy => by
  rw [doU] at h
  split at h
  ·obtain ⟨r', h', rfl⟩ := Option.map_eq_some_iff.mp h
   rcases List.mem_cons.mp hy with rfl | hy
   ·exact .inl (List.mem_cons_self ..)
   ·rcases doU_mem u ls r' h' y hy with h | ⟨x, hx, e⟩
    ·exact .inl (List.mem_cons_of_mem _ h)
    ·exact .inr ⟨x, List.mem_cons_of_mem _ hx, e⟩
  ·simp at h
 | .skip :: u, [], r, h, y, hy => by rw [doU] at h; simp at h
 | .skip :: u, x :: ls, r, h, y, hy => by
  rw [doU] at h
  obtain ⟨r', h', rfl⟩ := Option.map_eq_some_iff.mp h
  rcases List.mem_cons.mp hy with rfl | hy
  ·exact .inl (List.mem_cons_self ..)
  ·rcases doU_mem u ls r' h' y hy with h | ⟨x, hx, e⟩
   ·exact .inl (List.mem_cons_of_mem _ h)
   ·exact .inr ⟨x, List.mem_cons_of_mem _ hx, e⟩
theorem insN_app : ∀ (p q : List U), insN (p ++ q) = insN p + insN q
 | [], q => by simp [insN]
 | x :: p, q => by cases x <;> simp only [List.cons_append, insN, insN_app p q] <;> omega
theorem insN_ex : ∀ (l : List Op), insN (ex l) ≤ l.length
 | [] => Nat.le_refl _
 | o :: l => by
  have h : ∀ n, insN (List.replicate n .skip) = 0 := fun n => by
   induction n with
   | zero => rfl
   | succ n ih => rw [List.replicate_succ, insN, ih]
  have : insN (exO o) ≤ 1 := by
   unfold exO
   split
   ·rw [h]; omega
   ·split
    ·simp [insN]
    ·split <;> simp [insN]
  have := insN_ex l
  rw [ex_cons, insN_app, List.length_cons]; omega
theorem SmT.done {l : List Op} {ls r : List ByteArray} (hl : l.length ≤ 2199023255552) (h : Sm l) (hll : ls.length < 2199023255552) (hls : SmT ls) (hd : doU (ex l) ls = some r) : SmT r := by
 refine ⟨?_, fun y hy => ?_⟩
 ·have := doU_len _ _ _ hd
  have := insN_ex l
  omega
 ·rcases doU_mem _ _ _ hd y hy with h1 | ⟨x, hx, rfl⟩
  ·exact hls.2 y h1
  ·have he : ByteArray.empty.size = 0 := rfl
   rcases tx_ex hx with e | ⟨o, ho, e⟩
   ·rw [e, he]; omega
   ·rw [e]; exact h.2 o ho
end Go.Proofs.Ytfoponahdidddaa.P
namespace Go.Proofs.Ytfoponahdidddaa.P
open Go.RowKit Go.Proofs.YtfoponahdidddaaW.PrintWords Go.Proofs.YtfoponahdidddaaW.PrintLast Go.Proofs.YtfoponahdidddaaW.PrintMore
abbrev TU := U × Int
def okT (w : List TU) : Prop := ∀ x ∈ w, isCh x.1 = true → x.2 = 1 ∨ x.2 = 2
theorem okT.tail {x : TU} {w : List TU} (h : okT (x :: w)) : okT w := fun y hy => h y (List.mem_cons_of_mem _ hy)
theorem okT.head {x : TU} {w : List TU} (h : okT (x :: w)) (hc : isCh x.1 = true) : x.2 = 1 ∨ x.2 = 2 := h x (List.mem_cons_self ..) hc
theorem okT.nil : okT [] := fun x h => by simp at h
end Go.Proofs.Ytfoponahdidddaa.P
namespace Go.Proofs.Ytfoponahdidddaa.P
open Go.RowKit Go.Proofs.YtfoponahdidddaaW.PrintWords Go.Proofs.YtfoponahdidddaaW.PrintLast Go.Proofs.YtfoponahdidddaaW.PrintMore
def midT : U → U → Option (List TU)
 | .skip, .skip => some [(.skip, 0)]
 | .skip, .keep t => some [(.keep t, 0)]
 | .skip, .del t => some [(.del t, 2)]
 | .keep s, .skip => some [(.keep s, 0)]
 | .keep s, .keep t => if s = t then some [(.keep t, 0)] else none
 | .keep s, .del t => if s = t then some [(.del t, 2)] else none
 | .ins s, .skip => some [(.ins s, 1)]
 | .ins s, .keep t => if s = t then some [(.ins s, 1)] else none
 | .ins s, .del t => if s = t then some [(.ins s, 3)] else none
 | _, _ => none
def opnX : U → Bool
 | .skip => false
 | x => openT (txU x)
def opM (x y : U) : Bool := opnX x || opnX y
def inner (x : U) (f : Bool → List U → Option (List TU)) : Bool → List U → Option (List TU)
 | e, [] => if e = true then none else (midT x .skip).bind fun a => (f (opM x .skip) []).map (a ++ ·)
 | e, y :: q => match y with
  | .ins t => (inner x f e q).map ((.ins t, 2) :: ·)
  | y => if e = true then none else (midT x y).bind fun a => (f (opM x y) q).map (a ++ ·)
def endQ : Bool → List U → Option (List TU)
 | _, [] => some []
 | e, y :: q => match y with
  | .ins t => (endQ e q).map ((.ins t, 2) :: ·)
  | y => if e = true then none else (midT .skip y).bind fun a => (endQ (opM .skip y) q).map (a ++ ·)
def cmpT : List U → Bool → List U → Option (List TU)
 | [] => endQ
 | x :: p => match x with
  | .del t => fun e q => (cmpT p e q).map ((.del t, 1) :: ·)
  | x => inner x (cmpT p)
def nxU : List U → U
 | [] => .skip
 | x :: _ => x
def NoD (p : List U) : Prop := ∀ t r, p ≠ .del t :: r
def NoI (p : List U) : Prop := ∀ t r, p ≠ .ins t :: r
theorem cmpT_del (t : ByteArray) (p q : List U) (e : Bool) : cmpT (.del t :: p) e q = (cmpT p e q).map ((.del t, 1) :: ·) := rfl
theorem cmpT_ins {p : List U} (h : NoD p) (t : ByteArray) (q : List U) (e : Bool) : cmpT p e (.ins t :: q) = (cmpT p e q).map ((.ins t, 2) :: ·) := by
 cases p with
 | nil => rfl
 | cons x p => cases x <;> first | rfl | exact absurd rfl (h _ _)
theorem cmpT_mid {p q : List U} (hp : NoD p) (hq : NoI q) (hne : p ≠ [] ∨ q ≠ []) (e : Bool) :
  cmpT p e q = if e = true then none else (midT (nxU p) (nxU q)).bind fun a => (cmpT p.tail (opM (nxU p) (nxU q)) q.tail).map (a ++ ·) := by
 cases p with
 | nil =>
  cases q with
  | nil => simp at hne
  | cons y q => cases y <;> first | rfl | exact absurd rfl (hq _ _)
 | cons x p =>
  cases q with
  | nil => cases x <;> first | rfl | exact absurd rfl (hp _ _)
  | cons y q =>
   cases x <;> first | exact absurd rfl (hp _ _) | (cases y <;> first | rfl | exact absurd rfl (hq _ _))
theorem walk_ind {C : List U → List U → Prop} (nil : C [] []) (del : ∀ t p q, C p q → C (.del t :: p) q) (ins : ∀ t p q, NoD p → C p q → C p (.ins t :: q))
  (mid : ∀ p q, NoD p → NoI q → p ≠ [] ∨ q ≠ [] → C p.tail q.tail → C p q) : ∀ p q, C p q := by
 have all : ∀ n p q, p.length + q.length ≤ n → C p q := by
  intro n
  induction n with
  | zero =>
   intro p q h
   obtain rfl : p = [] := List.length_eq_zero_iff.mp (by omega)
   obtain rfl : q = [] := List.length_eq_zero_iff.mp (by omega)
   exact nil
  | succ n ih =>
   intro p q h
   by_cases hp : NoD p
   ·by_cases hq : NoI q
    ·by_cases hne : p ≠ [] ∨ q ≠ []
     ·refine mid p q hp hq hne (ih _ _ ?_)
      rw [List.length_tail, List.length_tail]
      rcases hne with h0 | h0
      ·have := List.length_pos_iff.mpr h0; omega
      ·have := List.length_pos_iff.mpr h0; omega
     ·have h1 : p = [] := Classical.byContradiction fun x => hne (.inl x)
      have h2 : q = [] := Classical.byContradiction fun x => hne (.inr x)
      rw [h1, h2]; exact nil
    ·cases q with
     | nil => exact absurd (fun t r e => by simp at e) hq
     | cons y q =>
      cases y with
      | ins t => exact ins t p q hp (ih _ _ (by simp only [List.length_cons] at h; omega))
      | skip => exact absurd (fun t r e => by simp at e) hq
      | keep t => exact absurd (fun t r e => by simp at e) hq
      | del t => exact absurd (fun t r e => by simp at e) hq
   ·cases p with
    | nil => exact absurd (fun t r e => by simp at e) hp
    | cons x p =>
     cases x with
     | del t => exact del t p q (ih _ _ (by simp only [List.length_cons] at h; omega))
     | skip => exact absurd (fun t r e => by simp at e) hp
     | keep t => exact absurd (fun t r e => by simp at e) hp
     | ins t => exact absurd (fun t r e => by simp at e) hp
 exact fun p q => all _ p q (Nat.le_refl _)
def un (w : List TU) : List U := (w.filter fun x => decide (x.2 ≠ 3)).map (·.1)
theorem un_app (a b : List TU) : un (a ++ b) = un a ++ un b := by simp [un]
theorem un_cons {x : TU} (h : x.2 ≠ 3) (w : List TU) : un (x :: w) = x.1 :: un w := by simp [un, h]
def midU (x y : U) : Option (List U) := (midT x y).map un
def cmpU (p : List U) (e : Bool) (q : List U) : Option (List U) := (cmpT p e q).map un
theorem cmpU_nil (e : Bool) : cmpU [] e [] = some [] := rfl
theorem cmpU_del (t : ByteArray) (p q : List U) (e : Bool) : cmpU (.del t :: p) e q = (cmpU p e q).map (.del t :: ·) := by
 unfold cmpU
 rw [cmpT_del, Option.map_map, Option.map_map]
 congr 1
theorem cmpU_ins {p : List U} (h : NoD p) (t : ByteArray) (q : List U) (e : Bool) : cmpU p e (.ins t :: q) = (cmpU p e q).map (.ins t :: ·) := by
 unfold cmpU
 rw [cmpT_ins h, Option.map_map, Option.map_map]
 congr 1
theorem cmpU_mid {p q : List U} (hp : NoD p) (hq : NoI q) (hne : p ≠ [] ∨ q ≠ []) (e : Bool) :
  cmpU p e q = if e = true then none else (midU (nxU p) (nxU q)).bind fun a => (cmpU p.tail (opM (nxU p) (nxU q)) q.tail).map (a ++ ·) := by
 unfold cmpU midU
 rw [cmpT_mid hp hq hne]
 split
 ·rfl
 ·cases midT (nxU p) (nxU q) with
  | none => rfl
  | some a =>
   simp only [Option.bind_some, Option.map_some, Option.map_map]
   congr 1
   funext r
   exact un_app a r
def AllDel (I : List U) : Prop := ∀ x ∈ I, ∃ t, x = .del t
theorem AllIns.one (t : ByteArray) : AllIns [.ins t] := fun x hx => ⟨t, List.mem_singleton.mp hx⟩
theorem AllDel.one (t : ByteArray) : AllDel [.del t] := fun x hx => ⟨t, List.mem_singleton.mp hx⟩
theorem AllDel.nil : AllDel [] := fun x h => by simp at h
theorem AllIns.tail {x : U} {I : List U} (h : AllIns (x :: I)) : AllIns I := fun y hy => h y (List.mem_cons_of_mem _ hy)
theorem AllIns.head {x : U} {I : List U} (h : AllIns (x :: I)) : ∃ t, x = .ins t := h x (List.mem_cons_self ..)
end Go.Proofs.Ytfoponahdidddaa.P
namespace Go.Proofs.Ytfoponahdidddaa.P
open Go.RowKit Go.Proofs.YtfoponahdidddaaW.PrintWords Go.Proofs.YtfoponahdidddaaW.PrintLast Go.Proofs.YtfoponahdidddaaW.PrintMore
def chU (u : List U) : Nat := (u.filter isCh).length
theorem chU_app (p q : List U) : chU (p ++ q) = chU p + chU q := by simp [chU]
theorem chU_nil : chU [] = 0 := rfl
theorem chU_del (t : ByteArray) (u : List U) : chU (.del t :: u) = chU u + 1 := by unfold chU; rw [List.filter_cons_of_pos rfl]; rfl
theorem chU_ins (t : ByteArray) (u : List U) : chU (.ins t :: u) = chU u + 1 := by unfold chU; rw [List.filter_cons_of_pos rfl]; rfl
theorem chU_keep (t : ByteArray) (u : List U) : chU (.keep t :: u) = chU u := by unfold chU; rw [List.filter_cons_of_neg (by simp [isCh])]
theorem chU_skip (u : List U) : chU (.skip :: u) = chU u := by unfold chU; rw [List.filter_cons_of_neg (by simp [isCh])]
end Go.Proofs.Ytfoponahdidddaa.P
namespace Go.Proofs.Ytfoponahdidddaa.P
open Go.RowKit Go.Proofs.YtfoponahdidddaaW.PrintWords Go.Proofs.YtfoponahdidddaaW.PrintLast Go.Proofs.YtfoponahdidddaaW.PrintMore
inductive Cmp : List U → List U → List U → Prop
 | nil : Cmp [] [] []
 | del (t : ByteArray) {p q w : List U} : Cmp p q w → Cmp (.del t :: p) q (.del t :: w)
 | ins (t : ByteArray) {p q w : List U} : NoD p → Cmp p q w → Cmp p (.ins t :: q) (.ins t :: w)
 | mid {p q a w : List U} : NoD p → NoI q → p ≠ [] ∨ q ≠ [] → midU (nxU p) (nxU q) = some a → Cmp p.tail q.tail w → Cmp p q (a ++ w)
theorem Cmp.of : ∀ p q, ∀ (e : Bool) (w : List U), cmpU p e q = some w → Cmp p q w := by
 refine walk_ind ?_ ?_ ?_ ?_
 ·intro e w h
  rw [cmpU_nil] at h
  rw [← Option.some.inj h]; exact .nil
 ·intro t p q ih e w h
  rw [cmpU_del] at h
  obtain ⟨w', h', rfl⟩ := Option.map_eq_some_iff.mp h
  exact .del t (ih e w' h')
 ·intro t p q hp ih e w h
  rw [cmpU_ins hp] at h
  obtain ⟨w', h', rfl⟩ := Option.map_eq_some_iff.mp h
  exact .ins t hp (ih e w' h')
 ·intro p q hp hq hne ih e w h
  rw [cmpU_mid hp hq hne] at h
  split at h
  ·simp at h
  ·obtain ⟨a, ha, h⟩ := Option.bind_eq_some_iff.mp h
   obtain ⟨w', h', rfl⟩ := Option.map_eq_some_iff.mp h
   exact .mid hp hq hne ha (ih _ w' h')
theorem nx_len (p : List U) : ∃ k, (olds p).length + k = (olds [nxU p]).length + (olds p.tail).length ∧ (news p).length + k = (news [nxU p]).length + (news p.tail).length ∧ chU p = chU [nxU p] + chU p.tail := by
 cases p with
 | nil => exact ⟨1, rfl, rfl, rfl⟩
 | cons x p =>
  refine ⟨0, ?_, ?_, ?_⟩
  ·show (olds ([x] ++ p)).length + 0 = _
   rw [olds_app, List.length_append]; rfl
  ·show (news ([x] ++ p)).length + 0 = _
   rw [news_app, List.length_append]; rfl
  ·show chU ([x] ++ p) = _
   rw [chU_app]; rfl
theorem mid_len {x y : U} {a : List U} (h : midU x y = some a) : (news a).length + (olds [x]).length + (olds [y]).length = (olds a).length + (news [x]).length + (news [y]).length ∧ (olds [x]).length ≤ (olds a).length ∧ (news [y]).length ≤ (news a).length ∧ chU a ≤ chU [x] + chU [y] := by
 cases x <;> cases y <;> simp only [midU, midT] at h <;> (try split at h) <;> simp [un] at h <;> subst h <;> simp [olds, news, chU_del, chU_ins, chU_keep, chU_skip, chU_nil]
theorem Cmp.counts {p q w : List U} (h : Cmp p q w) : (news w).length + (olds p).length + (olds q).length = (olds w).length + (news p).length + (news q).length ∧ (olds p).length ≤ (olds w).length ∧ (news q).length ≤ (news w).length ∧ chU w ≤ chU p + chU q := by
 induction h with
 | nil => simp [olds, news, chU]
 | del t _ ih =>
  simp only [olds, news, List.length_cons, chU_del]; omega
 | ins t _ _ ih =>
  simp only [olds, news, List.length_cons, chU_ins]; omega
 | mid hp hq hne ha _ ih =>
  rename_i p q a w _
  obtain ⟨k, k1, k2, k3⟩ := nx_len p
  obtain ⟨m, m1, m2, m3⟩ := nx_len q
  obtain ⟨h1, h2, h3, h4⟩ := mid_len ha
  rw [olds_app, news_app, chU_app, List.length_append, List.length_append]
  omega
end Go.Proofs.Ytfoponahdidddaa.P
namespace Go.Proofs.Ytfoponahdidddaa.P
open Go.RowKit Go.Proofs.YtfoponahdidddaaW.PrintWords Go.Proofs.YtfoponahdidddaaW.PrintLast Go.Proofs.YtfoponahdidddaaW.PrintMore
def okAll (l : List Op) : Prop := ∀ o ∈ l, okOne o = true
theorem okAll.tail {o : Op} {l : List Op} (h : okAll (o :: l)) : okAll l := fun x hx => h x (List.mem_cons_of_mem _ hx)
theorem okAll.head {o : Op} {l : List Op} (h : okAll (o :: l)) : okOne o = true := h o (List.mem_cons_self ..)
def exS (os : List Step) : List TU := os.flatMap fun s => (exO s.f0).map fun u => (u, if s.f2 = true then 3 else s.f1)
theorem exS_cons (s : Step) (os : List Step) : exS (s :: os) = (exO s.f0).map (fun u => (u, if s.f2 = true then 3 else s.f1)) ++ exS os := by simp [exS]
def uO (o : Op) : U := if o.f0 = 1 then .skip else if o.f0 = 2 then .keep o.f2 else if o.f0 = 3 then .del o.f2 else .ins o.f2
theorem exO_skip {o : Op} (hk : o.f0 = 1) : exO o = List.replicate o.f1.toNat .skip := by simp [exO, hk]
theorem exO_ne {o : Op} (hk : o.f0 ≠ 1) : exO o = [uO o] := by
 unfold exO uO
 rw [if_neg hk, if_neg hk]
 split
 ·rfl
 ·split <;> rfl
theorem wrapsub {a n : Int} (h1 : 1 ≤ n) (h2 : n < a) (h3 : a ≤ 2147483648) : wrap64 (a - n) = a - n := by unfold wrap64; omega
theorem okAll.drop {ps : List Op} (h : okAll ps) {n : Int} (hn : 1 ≤ n) : okAll (dropL ps n) := by
 cases ps with
 | nil => exact h
 | cons o r =>
  rw [dropL]
  split
  ·rename_i c
   intro x hx
   rcases List.mem_cons.mp hx with rfl | hx
   ·obtain ⟨h1, h2, h3⟩ := okOne_skip h.head c.1
    unfold okOne
    rw [if_pos c.1, wrapsub hn c.2 h2, h3]
    have a1 : 1 ≤ o.f1 - n := by omega
    have a2 : o.f1 - n ≤ 2147483648 := by omega
    simp [a1, a2]
   ·exact h.tail x hx
  ·exact h.tail
theorem drop_len (ps : List Op) (n : Int) : (dropL ps n).length ≤ ps.length := by
 cases ps with
 | nil => exact Nat.le_refl _
 | cons o r => rw [dropL]; split <;> simp
theorem replicate_toNat {a : Int} (h : 1 ≤ a) : List.replicate a.toNat U.skip = .skip :: List.replicate (a - 1).toNat .skip := by
 rw [show a.toNat = (a - 1).toNat + 1 from by omega, List.replicate_succ]
theorem tail1 {ps : List Op} (h : okAll ps) : ex (dropL ps 1) = (ex ps).tail := by
 cases ps with
 | nil => rfl
 | cons o r =>
  by_cases hk : o.f0 = 1
  ·obtain ⟨h1, h2, h3⟩ := okOne_skip h.head hk
   rw [ex_cons, exO_skip hk, replicate_toNat h1]
   rw [dropL]
   by_cases c : o.f1 > 1
   ·rw [if_pos ⟨hk, c⟩, ex_cons, exO_skip (o := ⟨o.f0, wrap64 (o.f1 - 1), o.f2⟩) hk, wrapsub (by omega) c h2]; rfl
   ·rw [if_neg (fun x => c x.2), show (o.f1 - 1).toNat = 0 from by omega]; rfl
  ·rw [dropL]
   rw [if_neg (fun x => hk x.1), ex_cons, exO_ne hk]; rfl
theorem dropSkip {ps : List Op} (h : okAll ps) {n : Int} (hn : 1 ≤ n) (hk : (nextL ps 2147483648).f0 = 1) (hle : n ≤ (nextL ps 2147483648).f1) :
  ex ps = List.replicate n.toNat .skip ++ ex (dropL ps n) ∨ ex ps = [] ∧ ex (dropL ps n) = [] := by
 cases ps with
 | nil => exact .inr ⟨rfl, rfl⟩
 | cons o r =>
  left
  have hk : o.f0 = 1 := hk
  have hle : n ≤ o.f1 := hle
  obtain ⟨h1, h2, h3⟩ := okOne_skip h.head hk
  rw [dropL]
  by_cases c : o.f1 > n
  ·rw [if_pos ⟨hk, c⟩, ex_cons, ex_cons, exO_skip hk, exO_skip (o := ⟨o.f0, wrap64 (o.f1 - n), o.f2⟩) hk, wrapsub hn c h2, ← List.append_assoc, List.replicate_append_replicate]
   congr 2
   show o.f1.toNat = n.toNat + (o.f1 - n).toNat
   omega
  ·rw [if_neg (fun x => c x.2), ex_cons, exO_skip hk, show o.f1 = n from by omega]
theorem cmpT_skips : ∀ (n : Nat) (p q p' q' : List U), (p = List.replicate (n + 1) .skip ++ p' ∨ p = [] ∧ p' = []) → (q = List.replicate (n + 1) .skip ++ q' ∨ q = [] ∧ q' = []) → (p ≠ [] ∨ q ≠ []) →
  cmpT p false q = (cmpT p' false q').map (List.replicate (n + 1) ((.skip, 0) : TU) ++ ·) := by
 have hd : ∀ (n : Nat) (p p' : List U), (p = List.replicate (n + 1) .skip ++ p' ∨ p = [] ∧ p' = []) → nxU p = .skip ∧ NoD p ∧ NoI p ∧ (p.tail = List.replicate n .skip ++ p' ∨ p.tail = [] ∧ p' = []) := by
  intro n p p' h
  rcases h with rfl | ⟨rfl, rfl⟩
  ·rw [List.replicate_succ]
   exact ⟨rfl, fun t r e => by simp at e, fun t r e => by simp at e, .inl rfl⟩
  ·exact ⟨rfl, fun t r e => by simp at e, fun t r e => by simp at e, .inr ⟨rfl, rfl⟩⟩
 intro n
 induction n with
 | zero =>
  intro p q p' q' hp hq hne
  obtain ⟨p1, p2, _, p4⟩ := hd 0 p p' hp
  obtain ⟨q1, _, q3, q4⟩ := hd 0 q q' hq
  rw [cmpT_mid p2 q3 hne, p1, q1, if_neg (by simp)]
  have e1 : p.tail = p' := by rcases p4 with h | ⟨h, h'⟩ <;> simp [h, *]
  have e2 : q.tail = q' := by rcases q4 with h | ⟨h, h'⟩ <;> simp [h, *]
  rw [e1, e2]; rfl
 | succ n ih =>
  intro p q p' q' hp hq hne
  obtain ⟨p1, p2, _, p4⟩ := hd (n + 1) p p' hp
  obtain ⟨q1, _, q3, q4⟩ := hd (n + 1) q q' hq
  rw [cmpT_mid p2 q3 hne, p1, q1, if_neg (by simp)]
  have hne' : p.tail ≠ [] ∨ q.tail ≠ [] := by
   rcases hp with rfl | ⟨rfl, rfl⟩
   ·left; simp [List.replicate_succ]
   ·rcases hq with rfl | ⟨rfl, rfl⟩
    ·right; simp [List.replicate_succ]
    ·simp at hne
  show (some [((.skip, 0) : TU)]).bind (fun a => (cmpT p.tail (opM .skip .skip) q.tail).map (a ++ ·)) = _
  rw [Option.bind_some, show opM .skip .skip = false from rfl, ih p.tail q.tail p' q' p4 q4 hne', Option.map_map, List.replicate_succ (n := n + 1)]
  rfl
theorem nx_ex {ps : List Op} (h : okAll ps) : nxU (ex ps) = uO (nextL ps 2147483648) := by
 cases ps with
 | nil => rfl
 | cons o r =>
  show nxU (ex (o :: r)) = uO o
  rw [ex_cons]
  by_cases hk : o.f0 = 1
  ·rw [exO_skip hk, replicate_toNat (okOne_skip h.head hk).1]; simp [uO, hk, nxU]
  ·rw [exO_ne hk]; rfl
theorem ex_ne_nil {o : Op} {r : List Op} (h : okOne o = true) : ex (o :: r) ≠ [] := by
 rw [ex_cons]
 by_cases hk : o.f0 = 1
 ·rw [exO_skip hk, replicate_toNat (okOne_skip h hk).1]; simp
 ·rw [exO_ne hk]; simp
theorem head_cases {ps : List Op} (h : okAll ps) : NoD (ex ps) ∨ ∃ o r, ps = o :: r ∧ o.f0 = 3 ∧ ex ps = .del o.f2 :: ex r := by
 cases ps with
 | nil => exact .inl fun t r e => by simp [ex] at e
 | cons o r =>
  by_cases hk : o.f0 = 3
  ·exact .inr ⟨o, r, rfl, hk, by rw [ex_cons, exO_ne (by omega)]; simp [uO, hk]⟩
  ·left
   intro t s e
   have := nx_ex h
   rw [e] at this
   have hu : uO o = .del t := this.symm
   unfold uO at hu
   split at hu
   ·simp at hu
   ·split at hu
    ·simp at hu
    ·simp [hk] at hu
theorem head_casesI {ps : List Op} (h : okAll ps) : NoI (ex ps) ∨ ∃ o r, ps = o :: r ∧ o.f0 = 4 ∧ ex ps = .ins o.f2 :: ex r := by
 cases ps with
 | nil => exact .inl fun t r e => by simp [ex] at e
 | cons o r =>
  by_cases hk : o.f0 = 4
  ·exact .inr ⟨o, r, rfl, hk, by rw [ex_cons, exO_ne (by omega)]; simp [uO, hk]⟩
  ·left
   intro t s e
   have := nx_ex h
   rw [e] at this
   have hu : uO o = .ins t := this.symm
   unfold uO at hu
   by_cases h1 : o.f0 = 1
   ·simp [h1] at hu
   ·obtain ⟨h2, _⟩ := okOne_ne h.head h1
    rcases h2 with h2 | h2 | h2
    ·simp [h2] at hu
    ·simp [h2] at hu
    ·exact hk h2
theorem hdK_iff {k : Int} {ps : List Op} : hdK k ps = true ↔ ∃ o r, ps = o :: r ∧ o.f0 = k := by
 cases ps with
 | nil => simp [hdK]
 | cons o r => simp [hdK]
theorem opnB_right {t : ByteArray} (h : rightT t = true) : opnB t = openT t := by
 unfold rightT at h
 simp only [Bool.and_eq_true, decide_eq_true_eq] at h
 have : t ≠ ⟨#[]⟩ := fun e => h.1 (by rw [e])
 unfold opnB openT
 simp [this]
theorem app_mt (t : ByteArray) : t ++ ByteArray.empty = t := by
 apply WideShapes.bytes_inj; simp
theorem mt_app (t : ByteArray) : ByteArray.empty ++ t = t := by
 apply WideShapes.bytes_inj; simp
theorem nextL_ok {ps : List Op} (h : okAll ps) : okOne (nextL ps 2147483648) = true := by
 cases ps with
 | nil => rfl
 | cons o r => exact h.head
theorem mid_line {x y : Op} (hx : okOne x = true) (hy : okOne y = true) (h3 : x.f0 ≠ 3) (h4 : y.f0 ≠ 4) (hn : ¬ (x.f0 = 1 ∧ y.f0 = 1)) (hno : noneL x y false = false) :
  (lineL x y).2.1 = 1 ∧ midT (uO x) (uO y) = some (exS [(lineL x y).2.2]) ∧ opM (uO x) (uO y) = opnB (lineL x y).1 := by
 have hxs : x.f0 = 1 → x.f2 = ByteArray.empty := fun h => (okOne_skip hx h).2.2
 have hys : y.f0 = 1 → y.f2 = ByteArray.empty := fun h => (okOne_skip hy h).2.2
 have hxr : x.f0 ≠ 1 → opnB x.f2 = openT x.f2 := fun h => opnB_right (okOne_ne hx h).2.2
 have hyr : y.f0 ≠ 1 → opnB y.f2 = openT y.f2 := fun h => opnB_right (okOne_ne hy h).2.2
 have kx : x.f0 = 1 ∨ x.f0 = 2 ∨ x.f0 = 4 := by
  by_cases h : x.f0 = 1
  ·exact .inl h
  ·rcases (okOne_ne hx h).1 with h | h | h
   ·exact .inr (.inl h)
   ·exact absurd h h3
   ·exact .inr (.inr h)
 have ky : y.f0 = 1 ∨ y.f0 = 2 ∨ y.f0 = 3 := by
  by_cases h : y.f0 = 1
  ·exact .inl h
  ·rcases (okOne_ne hy h).1 with h | h | h
   ·exact .inr (.inl h)
   ·exact .inr (.inr h)
   ·exact absurd h h4
 have ht : x.f0 ≠ 1 → y.f0 ≠ 1 → x.f2 = y.f2 := by
  intro h1 h2
  unfold noneL at hno
  simp [h1, h2] at hno
  exact hno
 have eo : ∀ o : Op, o.f0 ≠ 1 → ∀ b : Int, ∀ g : Bool, exS [(⟨o, b, g⟩ : Step)] = [(uO o, if g = true then 3 else b)] := by
  intro o h b g
  rw [exS_cons, exO_ne h]; rfl
 rcases kx with kx | kx | kx <;> rcases ky with ky | ky | ky
 ·exact absurd ⟨kx, ky⟩ hn
 ·have e := hxs kx
  refine ⟨by simp [lineL, kx, ky], ?_, ?_⟩
  ·simp [lineL, kx, ky, eo, uO, midT]
  ·simp [lineL, kx, ky, uO, opM, opnX, txU, e, mt_app, hyr]
 ·have e := hxs kx
  refine ⟨by simp [lineL, kx, ky], ?_, ?_⟩
  ·simp [lineL, kx, ky, eo, uO, midT]
  ·simp [lineL, kx, ky, uO, opM, opnX, txU, e, mt_app, hyr]
 ·have e := hys ky
  refine ⟨by simp [lineL, kx, ky], ?_, ?_⟩
  ·simp [lineL, kx, ky, eo, uO, midT]
  ·simp [lineL, kx, ky, uO, opM, opnX, txU, e, app_mt, hxr]
 ·have e := ht (by omega) (by omega)
  refine ⟨by simp [lineL, kx, ky], ?_, ?_⟩
  ·simp [lineL, kx, ky, eo, uO, midT, e]
  ·simp [lineL, kx, ky, uO, opM, opnX, txU, e, hyr]
 ·have e := ht (by omega) (by omega)
  refine ⟨by simp [lineL, kx, ky], ?_, ?_⟩
  ·simp [lineL, kx, ky, eo, uO, midT, e]
  ·simp [lineL, kx, ky, uO, opM, opnX, txU, e, hyr]
 ·have e := hys ky
  refine ⟨by simp [lineL, kx, ky], ?_, ?_⟩
  ·simp [lineL, kx, ky, eo, uO, midT]
  ·simp [lineL, kx, ky, uO, opM, opnX, txU, e, app_mt, hxr]
 ·have e := ht (by omega) (by omega)
  refine ⟨by simp [lineL, kx, ky], ?_, ?_⟩
  ·simp [lineL, kx, ky, eo, uO, midT, e]
  ·simp [lineL, kx, ky, uO, opM, opnX, txU, e, hyr]
 ·have e := ht (by omega) (by omega)
  refine ⟨by simp [lineL, kx, ky], ?_, ?_⟩
  ·simp [lineL, kx, ky, eo, uO, midT, e]
  ·simp [lineL, kx, ky, uO, opM, opnX, txU, e, hyr]
theorem drop_both {ps qs : List Op} (hp : okAll ps) (hq : okAll qs) (hne : ps.length + qs.length ≠ 0) :
  1 ≤ (lineL (nextL ps 2147483648) (nextL qs 2147483648)).2.1 ∧ (dropL ps (lineL (nextL ps 2147483648) (nextL qs 2147483648)).2.1).length + (dropL qs (lineL (nextL ps 2147483648) (nextL qs 2147483648)).2.1).length < ps.length + qs.length := by
 have a := drop_len ps
 have b := drop_len qs
 generalize hx : nextL ps 2147483648 = x
 generalize hy : nextL qs 2147483648 = y
 have ox : okOne x = true := hx ▸ nextL_ok hp
 have oy : okOne y = true := hy ▸ nextL_ok hq
 have en : ps = [] → x.f0 = 1 ∧ x.f1 = 2147483648 := by rintro rfl; rw [← hx]; exact ⟨rfl, rfl⟩
 have eq : qs = [] → y.f0 = 1 ∧ y.f1 = 2147483648 := by rintro rfl; rw [← hy]; exact ⟨rfl, rfl⟩
 have fp : ∀ n : Int, ps ≠ [] → ¬ (x.f0 = 1 ∧ x.f1 > n) → (dropL ps n).length < ps.length := by
  intro n hl hc
  cases ps with
  | nil => exact absurd rfl hl
  | cons o r =>
   have : o = x := hx
   subst this
   rw [dropL]
   rw [if_neg hc]; simp
 have fq : ∀ n : Int, qs ≠ [] → ¬ (y.f0 = 1 ∧ y.f1 > n) → (dropL qs n).length < qs.length := by
  intro n hl hc
  cases qs with
  | nil => exact absurd rfl hl
  | cons o r =>
   have : o = y := hy
   subst this
   rw [dropL]
   rw [if_neg hc]; simp
 by_cases kx : x.f0 = 1
 ·obtain ⟨x1, x2, _⟩ := okOne_skip ox kx
  by_cases ky : y.f0 = 1
  ·obtain ⟨y1, y2, _⟩ := okOne_skip oy ky
   have e : (lineL x y).2.1 = min x.f1 y.f1 := by simp [lineL, kx, ky]
   rw [e]
   refine ⟨by omega, ?_⟩
   have ap := a (min x.f1 y.f1)
   have bq := b (min x.f1 y.f1)
   by_cases ep : ps = []
   ·have eqn : qs ≠ [] := fun h => hne (by simp [ep, h])
    have := fq (min x.f1 y.f1) eqn (fun h => by have := (en ep).2; omega)
    omega
   ·by_cases eqq : qs = []
    ·have := fp (min x.f1 y.f1) ep (fun h => by have := (eq eqq).2; omega)
     omega
    ·by_cases hm : x.f1 ≤ y.f1
     ·have := fp (min x.f1 y.f1) ep (fun h => by omega)
      omega
     ·have := fq (min x.f1 y.f1) eqq (fun h => by omega)
      omega
  ·have e : (lineL x y).2.1 = 1 := by simp [lineL, kx, ky]
   rw [e]
   have eqn : qs ≠ [] := fun h => ky (eq h).1
   have := fq 1 eqn (fun h => ky h.1)
   have := a 1
   exact ⟨by omega, by omega⟩
 ·have e : (lineL x y).2.1 = 1 := by
   by_cases ky : y.f0 = 1 <;> simp [lineL, kx, ky]
  rw [e]
  have epn : ps ≠ [] := fun h => kx (en h).1
  have := fp 1 epn (fun h => kx h.1)
  have := b 1
  exact ⟨by omega, by omega⟩
theorem walkO_cmp : ∀ (n : Nat) (ps qs : List Op) (e : Bool), ps.length + qs.length ≤ n → okAll ps → okAll qs → (walkO n ps qs e).map exS = cmpT (ex ps) e (ex qs) := by
 intro n
 induction n with
 | zero =>
  intro ps qs e h hp hq
  obtain rfl : ps = [] := List.length_eq_zero_iff.mp (by omega)
  obtain rfl : qs = [] := List.length_eq_zero_iff.mp (by omega)
  rfl
 | succ n ih =>
  intro ps qs e h hp hq
  rw [walkO]
  by_cases h0 : ps.length + qs.length = 0
  ·rw [if_pos h0]
   obtain rfl : ps = [] := List.length_eq_zero_iff.mp (by omega)
   obtain rfl : qs = [] := List.length_eq_zero_iff.mp (by omega)
   rfl
  rw [if_neg h0]
  by_cases hd : hdK 3 ps = true
  ·rw [if_pos hd]
   obtain ⟨o, r, rfl, hk⟩ := hdK_iff.mp hd
   have ee : ex (o :: r) = .del o.f2 :: ex r := by rw [ex_cons, exO_ne (by omega)]; simp [uO, hk]
   simp only [List.length_cons] at h
   rw [ee, cmpT_del, ← ih r qs e (by omega) hp.tail hq, Option.map_map, Option.map_map]
   congr 1
   funext os
   show exS (⟨o, 1, false⟩ :: os) = _
   rw [exS_cons, exO_ne (by show o.f0 ≠ 1; omega)]
   simp [uO, hk]
  rw [if_neg hd]
  have nd : NoD (ex ps) := by
   rcases head_cases hp with h | ⟨o, r, e1, e2, _⟩
   ·exact h
   ·exact absurd (hdK_iff.mpr ⟨o, r, e1, e2⟩) hd
  by_cases hi : hdK 4 qs = true
  ·rw [if_pos hi]
   obtain ⟨o, r, rfl, hk⟩ := hdK_iff.mp hi
   have ee : ex (o :: r) = .ins o.f2 :: ex r := by rw [ex_cons, exO_ne (by omega)]; simp [uO, hk]
   simp only [List.length_cons] at h
   rw [ee, cmpT_ins nd, ← ih ps r e (by omega) hp hq.tail, Option.map_map, Option.map_map]
   congr 1
   funext os
   show exS (⟨o, 2, false⟩ :: os) = _
   rw [exS_cons, exO_ne (by show o.f0 ≠ 1; omega)]
   simp [uO, hk]
  rw [if_neg hi]
  have ni : NoI (ex qs) := by
   rcases head_casesI hq with h | ⟨o, r, e1, e2, _⟩
   ·exact h
   ·exact absurd (hdK_iff.mpr ⟨o, r, e1, e2⟩) hi
  have hne : ex ps ≠ [] ∨ ex qs ≠ [] := by
   cases ps with
   | nil =>
    cases qs with
    | nil => simp at h0
    | cons o r => exact .inr (ex_ne_nil hq.head)
   | cons o r => exact .inl (ex_ne_nil hp.head)
  obtain ⟨d1, d2⟩ := drop_both hp hq h0
  have nx := nx_ex hp
  have ny := nx_ex hq
  have ox := nextL_ok hp
  have oy := nextL_ok hq
  have x3 : (nextL ps 2147483648).f0 ≠ 3 := by
   intro h3
   cases ps with
   | nil => simp [nextL] at h3
   | cons o r => exact hd (hdK_iff.mpr ⟨o, r, rfl, h3⟩)
  have y4 : (nextL qs 2147483648).f0 ≠ 4 := by
   intro h3
   cases qs with
   | nil => simp [nextL] at h3
   | cons o r => exact hi (hdK_iff.mpr ⟨o, r, rfl, h3⟩)
  have i := ih (dropL ps (lineL (nextL ps 2147483648) (nextL qs 2147483648)).2.1) (dropL qs (lineL (nextL ps 2147483648) (nextL qs 2147483648)).2.1) (opnB (lineL (nextL ps 2147483648) (nextL qs 2147483648)).1) (by omega) (hp.drop d1) (hq.drop d1)
  have dsp := fun (n : Int) hn hk hle => dropSkip hp (n := n) hn hk hle
  have dsq := fun (n : Int) hn hk hle => dropSkip hq (n := n) hn hk hle
  generalize nextL ps 2147483648 = x at *
  generalize nextL qs 2147483648 = y at *
  by_cases hno : noneL x y e = true
  ·rw [if_pos hno, cmpT_mid nd ni hne]
   show none = _
   cases e with
   | true => rfl
   | false =>
    rw [if_neg (by simp), nx, ny]
    unfold noneL at hno
    simp only [Bool.false_or, Bool.and_eq_true, decide_eq_true_eq] at hno
    obtain ⟨⟨hx, hy⟩, hxy⟩ := hno
    have : midT (uO x) (uO y) = none := by
     rcases (okOne_ne ox hx).1 with kx | kx | kx <;> rcases (okOne_ne oy hy).1 with ky | ky | ky <;> first | exact absurd kx x3 | exact absurd ky y4 | simp [uO, kx, ky, midT, hxy]
    rw [this]; rfl
  rw [if_neg hno]
  have e0 : e = false := by
   cases e with
   | false => rfl
   | true => exact absurd rfl hno
  subst e0
  have hno' : noneL x y false = false := by simpa using hno
  rw [Option.map_map]
  by_cases hs : x.f0 = 1 ∧ y.f0 = 1
  ·obtain ⟨kx, ky⟩ := hs
   obtain ⟨x1, x2, _⟩ := okOne_skip ox kx
   obtain ⟨y1, y2, _⟩ := okOne_skip oy ky
   have el : lineL x y = (x.f2 ++ y.f2, min x.f1 y.f1, ⟨⟨1, min x.f1 y.f1, ⟨#[]⟩⟩, 0, false⟩) := by simp [lineL, kx, ky]
   have eb : opnB (lineL x y).1 = false := by
    have e1 := (okOne_skip ox kx).2.2
    have e2 := (okOne_skip oy ky).2.2
    rw [el]
    show opnB (x.f2 ++ y.f2) = false
    rw [e1, e2, app_mt]; rfl
   rw [eb] at i
   rw [el] at i d1 ⊢
   simp only at i d1 ⊢
   obtain ⟨m, hm⟩ : ∃ m : Nat, (min x.f1 y.f1).toNat = m + 1 := ⟨(min x.f1 y.f1).toNat - 1, by omega⟩
   have a1 := dsp (min x.f1 y.f1) d1 kx (by omega)
   have a2 := dsq (min x.f1 y.f1) d1 ky (by omega)
   rw [hm] at a1 a2
   rw [cmpT_skips m _ _ _ _ a1 a2 hne, ← i, Option.map_map]
   have : ∀ o : Option (List Step), o.map (exS ∘ (fun os => (⟨⟨1, min x.f1 y.f1, ⟨#[]⟩⟩, 0, false⟩ : Step) :: os)) = o.map ((fun w => List.replicate (m + 1) ((.skip, 0) : TU) ++ w) ∘ exS) := by
    intro o
    congr 1
    funext os
    show exS (_ :: os) = _ ++ exS os
    rw [exS_cons, exO_skip rfl]
    show List.map _ (List.replicate (min x.f1 y.f1).toNat U.skip) ++ _ = _
    rw [hm, List.map_replicate]; rfl
   have eb' : opnB (x.f2 ++ y.f2) = false := by rw [el] at eb; exact eb
   rw [eb']
   exact this _
  ·obtain ⟨m1, m2, m3⟩ := mid_line ox oy x3 y4 hs hno'
   rw [m1] at i ⊢
   rw [cmpT_mid nd ni hne, if_neg (by simp), nx, ny, m2, Option.bind_some, m3, ← tail1 hp, ← tail1 hq, ← i, Option.map_map]
   congr 1
   funext os
   show exS (_ :: os) = exS [_] ++ exS os
   rw [exS_cons, exS_cons]
   simp [exS]
def Sx (l : List Op) : Prop := l.length ≤ 274877906944 ∧ ∀ o ∈ l, o.f2.size < 1073741824
theorem Sx.sm {l : List Op} (h : Sx l) : Sm l := ⟨by have := h.1; omega, fun o ho => by have := h.2 o ho; omega⟩
def stepsL (os : List Step) : List Op := (os.filter fun s => !s.f2).map (·.f0)
theorem stepsL_cons (s : Step) (os : List Step) : stepsL (s :: os) = (if s.f2 = true then [] else [s.f0]) ++ stepsL os := by
 cases h : s.f2 <;> simp [stepsL, h]
def goodS (s : Step) : Prop := (okOne s.f0 = true ∧ s.f0.f2.size < 1073741824) ∧ (s.f1 = 0 ∨ s.f1 = 1 ∨ s.f1 = 2)
def okX (l : List Op) : Prop := ∀ o ∈ l, okOne o = true ∧ o.f2.size < 1073741824
theorem okX.all {l : List Op} (h : okX l) : okAll l := fun o ho => (h o ho).1
theorem okX.drop {l : List Op} (h : okX l) {n : Int} (hn : 1 ≤ n) : okX (dropL l n) := by
 intro o ho
 refine ⟨h.all.drop hn o ho, ?_⟩
 cases l with
 | nil => exact absurd ho (by simp [dropL])
 | cons x r =>
  rw [dropL] at ho
  split at ho
  ·rcases List.mem_cons.mp ho with rfl | ho
   ·exact (h x (List.mem_cons_self ..)).2
   ·exact (h o (List.mem_cons_of_mem _ ho)).2
  ·exact (h o (List.mem_cons_of_mem _ ho)).2
theorem nextL_okX {l : List Op} (h : okX l) : okOne (nextL l 2147483648) = true ∧ (nextL l 2147483648).f2.size < 1073741824 := by
 cases l with
 | nil => exact ⟨rfl, (by decide : (0 : Nat) < 1073741824)⟩
 | cons o r => exact h o (List.mem_cons_self ..)
theorem line_good {x y : Op} (hx : okOne x = true ∧ x.f2.size < 1073741824) (hy : okOne y = true ∧ y.f2.size < 1073741824) : goodS (lineL x y).2.2 := by
 unfold lineL goodS
 by_cases kx : x.f0 = 1
 ·by_cases ky : y.f0 = 1
  ·obtain ⟨x1, x2, _⟩ := okOne_skip hx.1 kx
   obtain ⟨y1, y2, _⟩ := okOne_skip hy.1 ky
   have a1 : 1 ≤ min x.f1 y.f1 := by omega
   have a2 : min x.f1 y.f1 ≤ 2147483648 := by omega
   simp only [kx, ky, ne_eq, not_true_eq_false, false_and, if_false]
   refine ⟨⟨?_, (by decide : (0 : Nat) < 1073741824)⟩, by simp⟩
   unfold okOne
   simp [a1, a2]
  ·simp only [kx, ky, ne_eq, not_true_eq_false, not_false_eq_true, false_and, if_false, if_true]
   exact ⟨hy, by split <;> simp⟩
 ·by_cases ky : y.f0 = 1
  ·simp only [kx, ky, ne_eq, not_true_eq_false, not_false_eq_true, and_false, if_false, if_true]
   exact ⟨hx, by split <;> simp⟩
  ·simp only [kx, ky, ne_eq, not_false_eq_true, and_self, if_true]
   split
   ·exact ⟨hy, by dsimp only; split <;> simp⟩
   ·split
    ·exact ⟨hx, .inr (.inl rfl)⟩
    ·exact ⟨hx, .inr (.inl rfl)⟩
theorem walkO_good : ∀ (n : Nat) (ps qs : List Op) (e : Bool) (os : List Step), okX ps → okX qs → walkO n ps qs e = some os → (∀ s ∈ os, goodS s) ∧ os.length ≤ n := by
 intro n
 induction n with
 | zero =>
  intro ps qs e os _ _ h
  obtain rfl : os = [] := (Option.some.inj h).symm
  exact ⟨fun s hs => by simp at hs, Nat.le_refl _⟩
 | succ n ih =>
  intro ps qs e os hp hq h
  rw [walkO] at h
  have cons : ∀ (s : Step) (os' : List Step), goodS s → (∀ x ∈ os', goodS x) ∧ os'.length ≤ n → (∀ x ∈ s :: os', goodS x) ∧ (s :: os').length ≤ n + 1 := by
   intro s os' hs hr
   refine ⟨fun x hx => ?_, by simp only [List.length_cons]; omega⟩
   rcases List.mem_cons.mp hx with rfl | hx
   ·exact hs
   ·exact hr.1 x hx
  split at h
  ·obtain rfl : os = [] := (Option.some.inj h).symm
   exact ⟨fun s hs => by simp at hs, by simp⟩
  ·rename_i h0
   split at h
   ·rename_i hd
    obtain ⟨o, r, rfl, hk⟩ := hdK_iff.mp hd
    obtain ⟨os', h', rfl⟩ := Option.map_eq_some_iff.mp h
    exact cons _ _ ⟨hp o (List.mem_cons_self ..), .inr (.inl rfl)⟩ (ih r qs e os' (fun x hx => hp x (List.mem_cons_of_mem _ hx)) hq h')
   ·split at h
    ·rename_i hi
     obtain ⟨o, r, rfl, hk⟩ := hdK_iff.mp hi
     obtain ⟨os', h', rfl⟩ := Option.map_eq_some_iff.mp h
     exact cons _ _ ⟨hq o (List.mem_cons_self ..), .inr (.inr rfl)⟩ (ih ps r e os' hp (fun x hx => hq x (List.mem_cons_of_mem _ hx)) h')
    ·split at h
     ·simp at h
     ·obtain ⟨os', h', rfl⟩ := Option.map_eq_some_iff.mp h
      obtain ⟨d1, _⟩ := drop_both hp.all hq.all h0
      exact cons _ _ (line_good (nextL_okX hp) (nextL_okX hq)) (ih _ _ _ os' (hp.drop d1) (hq.drop d1) h')
theorem ex_steps : ∀ (os : List Step), (∀ s ∈ os, goodS s) → ex (stepsL os) = un (exS os)
 | [], _ => rfl
 | s :: os, h => by
  have i := ex_steps os fun x hx => h x (List.mem_cons_of_mem _ hx)
  obtain ⟨_, h2⟩ := h s (List.mem_cons_self ..)
  rw [stepsL_cons, exS_cons, un_app, ex_app, i]
  congr 1
  cases hg : s.f2
  ·have : s.f1 ≠ 3 := by omega
   have e : ∀ l : List U, un (l.map fun u => ((u, s.f1) : TU)) = l := by
    intro l
    induction l with
    | nil => rfl
    | cons u l ih =>
     rw [List.map_cons, un_cons (by exact this), ih]
   simp only [Bool.false_eq_true, if_false, ex_cons, ex_nil, List.append_nil]
   exact (e _).symm
  ·simp [un, ex]
def thenU (p q : List U) : Option (List U) := (cmpU p false q).bind fun u => if rightU u = true then some (nf [] u) else none
def thenL (p q : List Op) : List Op × Bool := if rightL p = true ∧ rightL q = true then (match thenU (ex p) (ex q) with | some u => (pack u, true) | none => ([], false)) else ([], false)
theorem rightL_okX {l : List Op} (h : rightL l = true) (hs : Sx l) : okX l := fun o ho => ⟨(rightL_ok h).1 o ho, hs.2 o ho⟩
theorem okX_W {l : List Op} (h : okX l) : l.all okW1 = true := by
 rw [List.all_eq_true]
 intro o ho
 obtain ⟨h1, h2⟩ := h o ho
 unfold okW1
 by_cases hk : o.f0 = 1
 ·obtain ⟨a, b, _⟩ := okOne_skip h1 hk
  simp [hk, a, b, h2]
 ·simp [hk, h2]
theorem okW_of {p q : List Op} (hp : okX p) (hq : okX q) (h : p.length + q.length ≤ 1099511627776) : okW p q = true := by
 unfold okW
 rw [okX_W hp, okX_W hq]; simp [h]
theorem form_steps {os : List Step} (h : ∀ s ∈ os, goodS s) : ∀ o ∈ stepsL os, formO o := by
 intro o ho
 obtain ⟨s, hs, rfl⟩ := List.mem_map.mp ho
 exact form_of (h s (List.mem_filter.mp hs).1).1.1
theorem sx_steps {os : List Step} (h : ∀ s ∈ os, goodS s) (hl : os.length ≤ 1099511627776) : Sm (stepsL os) := by
 refine ⟨?_, fun o ho => ?_⟩
 ·have : (stepsL os).length ≤ os.length := by unfold stepsL; rw [List.length_map]; exact List.length_filter_le _ _
  omega
 ·obtain ⟨s, hs, rfl⟩ := List.mem_map.mp ho
  have := (h s (List.mem_filter.mp hs).1).1.2
  omega
theorem mid_olds {x y : U} {a : List U} (h : midU x y = some a) : (olds a).length ≤ (olds [x]).length ∧ (olds a).length ≤ 1 := by
 cases x <;> cases y <;> simp only [midU, midT] at h <;> (try split at h) <;> simp [un] at h <;> subst h <;> simp [olds]
theorem Cmp.olds_le {p q w : List U} (h : Cmp p q w) : (olds w).length ≤ (olds p).length + (olds q).length := by
 induction h with
 | nil => simp [olds]
 | del t _ ih => simp only [olds, List.length_cons]; omega
 | ins t _ _ ih => simp only [olds]; omega
 | mid hp hq hne ha _ ih =>
  rename_i p q a w _
  obtain ⟨a1, a2⟩ := mid_olds ha
  rw [olds_app, List.length_append]
  cases p with
  | cons x p =>
   have : (olds (x :: p)).length = (olds [x]).length + (olds p).length := by
    show (olds ([x] ++ p)).length = _
    rw [olds_app, List.length_append]
   have e1 : nxU (x :: p) = x := rfl
   rw [e1] at a1
   have : (olds q.tail).length ≤ (olds q).length := by
    cases q with
    | nil => exact Nat.le_refl _
    | cons y q => cases y <;> simp [olds]
   simp only [List.tail_cons] at ih
   omega
  | nil =>
   cases q with
   | nil => simp at hne
   | cons y q =>
    have : (olds (y :: q)).length = 1 + (olds q).length := by
     cases y with
     | ins t => exact absurd rfl (hq t q)
     | skip => simp [olds]; omega
     | keep t => simp [olds]; omega
     | del t => simp [olds]; omega
    simp only [List.tail_cons, List.tail_nil] at ih
    omega
theorem un_cmp {p q : List U} {e : Bool} {w : List TU} (h : cmpT p e q = some w) : cmpU p e q = some (un w) := by unfold cmpU; rw [h]; rfl
theorem walk_then {p q : List Op} (hp : Sx p) (hq : Sx q) (rp : rightL p = true) (rq : rightL q = true) :
  (walkO (p.length + q.length) p q false = none ∧ thenL p q = ([], false)) ∨
  ∃ os, walkO (p.length + q.length) p q false = some os ∧ cmpT (ex p) false (ex q) = some (exS os) ∧ (∀ s ∈ os, goodS s) ∧ os.length ≤ p.length + q.length ∧ ex (stepsL os) = un (exS os) ∧ (∀ o ∈ stepsL os, formO o) ∧ Sm (stepsL os) ∧
   skips (stepsL os) ≤ 4294967296 ∧ rightL (stepsL os) = rightU (un (exS os)) ∧ thenL p q = if rightL (stepsL os) = true then (normL (stepsL os), true) else ([], false) := by
 have op := rightL_okX rp hp
 have oq := rightL_okX rq hq
 have hc := walkO_cmp (p.length + q.length) p q false (Nat.le_refl _) op.all oq.all
 cases hw : walkO (p.length + q.length) p q false with
 | none =>
  left
  refine ⟨rfl, ?_⟩
  rw [hw] at hc
  have hc : cmpT (ex p) false (ex q) = none := hc.symm
  unfold thenL thenU cmpU
  rw [if_pos ⟨rp, rq⟩, hc]; rfl
 | some os =>
  right
  rw [hw] at hc
  have hc : cmpT (ex p) false (ex q) = some (exS os) := hc.symm
  obtain ⟨g1, g2⟩ := walkO_good _ _ _ _ _ op oq hw
  have he := ex_steps os g1
  have hf := form_steps g1
  have hsm := sx_steps g1 (by have := hp.1; have := hq.1; omega)
  have hr : rightL (stepsL os) = rightU (un (exS os)) := by rw [right_iff hf, he]
  have hu := un_cmp hc
  have hsk : skips (stepsL os) ≤ 4294967296 := by
   have h1 := skips_le 3 hf
   rw [sums_olds _ hf, he] at h1
   have h2 := (Cmp.of _ _ _ _ hu).olds_le
   have h3 := (rightL_ok rp).2.1
   have h4 := (rightL_ok rq).2.1
   rw [sums_olds _ (rightL_form rp)] at h3
   rw [sums_olds _ (rightL_form rq)] at h4
   omega
  refine ⟨os, rfl, hc, g1, g2, he, hf, hsm, hsk, hr, ?_⟩
  unfold thenL thenU
  rw [if_pos ⟨rp, rq⟩, hu, Option.bind_some, hr]
  cases rightU (un (exS os))
  ·rfl
  ·simp only [if_true]
   unfold normL
   rw [he]
end Go.Proofs.Ytfoponahdidddaa.P
namespace Go.Proofs.Ytfoponahdidddaa.P
open Go.RowKit Go.Proofs.YtfoponahdidddaaW.PrintWords Go.Proofs.YtfoponahdidddaaW.PrintLast Go.Proofs.YtfoponahdidddaaW.PrintMore
theorem told_loop (s : List Step) : ∀ (p : List Step) (out v : List Op) (b : Bool), (p ++ s).length < 1099511627777 → out.length ≤ p.length → out ++ stepsL s = v → Ev (fun k => ops_Right.f k v) b → Ev (fun k => compose_told.l0 k out (p ++ s) ((p ++ s).length : Int) (p.length : Int)) (v, b) := by
 induction s with
 | nil =>
  intro p out v b hb ho hv h
  have hv : out = v := by rw [← hv]; simp [stepsL]
  subst hv
  refine Ev.step (fun k => rfl) ?_
  simp only [compose_told.l0, lt_end, if_false]
  exact Ev.bind' h (Ev.now _)
 | cons x s ih =>
  intro p out v b hb ho hv h
  have hl := hb
  simp only [List.length_append, List.length_cons] at hl
  have i := fun out h1 h2 => ih (p ++ [x]) out v b (by simpa using hb) h1 h2 h
  rw [List.append_assoc, List.singleton_append] at i
  have w := wrap_len p x (by omega)
  have e : rd_Step (p ++ x :: s) (p.length : Int) = x := getD_mid p s x zStep
  rw [stepsL_cons] at hv
  have c : out.length < 4398046511104 := by omega
  refine Ev.step (fun k => rfl) ?_
  simp only [compose_told.l0, lt_mid, nn_nat, if_true, e, w, if_pos c]
  cases hg : x.f2
  ·simp only [Bool.false_eq_true, if_false]
   refine i _ (by simp only [List.length_append, List.length_singleton]; omega) ?_
   rw [← hv, hg]; simp
  ·simp only [if_true]
   refine i _ (by simp only [List.length_append, List.length_singleton]; omega) ?_
   rw [← hv, hg]; simp
theorem told_ev {os : List Step} (h : os.length ≤ 1099511627776) (hs : Sm (stepsL os)) : Ev (fun k => compose_told.f k os) (stepsL os, rightL (stepsL os)) :=
 told_loop os [] [] _ _ (by simpa using (by omega : os.length < 1099511627777)) (by simp) (by simp) (right_ev hs)
theorem pthen_ev {p q : List Op} (hp : Sx p) (hq : Sx q) : Ev (fun k => compose_Then.f k p q) (thenL p q) := by
 have hlen : p.length + q.length ≤ 1099511627776 := by have := hp.1; have := hq.1; omega
 cases rp : rightL p
 ·have e : thenL p q = ([], false) := by unfold thenL; simp [rp]
  rw [e]
  refine Ev.bind' (a := ([], false)) ?_ ?_
  ·refine Ev.bind' (right_ev hp.sm) ?_
   simp only [rp, Bool.false_eq_true, if_false]
   exact Ev.now _
  ·simp only [Bool.false_eq_true, if_false]
   exact Ev.now _
 cases rq : rightL q
 ·have e : thenL p q = ([], false) := by unfold thenL; simp [rq]
  rw [e]
  refine Ev.bind' (a := ([], false)) ?_ ?_
  ·refine Ev.bind' (right_ev hp.sm) ?_
   simp only [rp, if_true]
   refine Ev.bind' (right_ev hq.sm) ?_
   simp only [rq, Bool.false_eq_true, if_false]
   exact Ev.now _
  ·simp only [Bool.false_eq_true, if_false]
   exact Ev.now _
 have hW := okW_of (rightL_okX rp hp) (rightL_okX rq hq) hlen
 rcases walk_then hp hq rp rq with ⟨hw, e⟩ | ⟨os, hw, _, g1, g2, he, hf, hsm, hsk, hr, e⟩
 ·rw [e]
  refine Ev.bind' (a := ([], false)) ?_ ?_
  ·refine Ev.bind' (right_ev hp.sm) ?_
   simp only [rp, if_true]
   refine Ev.bind' (right_ev hq.sm) ?_
   simp only [rq, if_true, hW, hw]
   exact Ev.now _
  ·simp only [Bool.false_eq_true, if_false]
   exact Ev.now _
 ·rw [e]
  have ht := told_ev (os := os) (by omega) hsm
  cases hrs : rightL (stepsL os)
  ·refine Ev.bind' (a := ([], false)) ?_ ?_
   ·refine Ev.bind' (right_ev hp.sm) ?_
    simp only [rp, if_true]
    refine Ev.bind' (right_ev hq.sm) ?_
    simp only [rq, if_true, hW, hw]
    refine Ev.bind' ht ?_
    simp only [hrs, Bool.false_eq_true, if_false]
    exact Ev.now _
   ·simp only [Bool.false_eq_true, if_false]
    exact Ev.now _
  ·refine Ev.bind' (a := (os, true)) ?_ ?_
   ·refine Ev.bind' (right_ev hp.sm) ?_
    simp only [rp, if_true]
    refine Ev.bind' (right_ev hq.sm) ?_
    simp only [rq, if_true, hW, hw]
    refine Ev.bind' ht ?_
    simp only [hrs, if_true]
    exact Ev.now _
   ·simp only [if_true]
    refine Ev.bind' ht ?_
    refine Ev.bind' (norm_ev hsm) ?_
    simp only [hrs, if_true]
    exact Ev.now _
theorem thenL_some {p q : List Op} (h : (thenL p q).2 = true) : ∃ u, rightL p = true ∧ rightL q = true ∧ cmpU (ex p) false (ex q) = some u ∧ rightU u = true ∧ thenL p q = (pack (nf [] u), true) := by
 unfold thenL at h ⊢
 split at h
 ·rename_i hr
  rw [if_pos hr]
  unfold thenU at h ⊢
  cases hc : cmpU (ex p) false (ex q) with
  | none => rw [hc] at h; simp at h
  | some u =>
   rw [hc] at h
   simp only [Option.bind_some] at h ⊢
   cases hu : rightU u
   ·rw [hu] at h; simp at h
   ·exact ⟨u, hr.1, hr.2, rfl, hu, by simp⟩
 ·simp at h
theorem thenL_len {p q : List Op} (hp : Sx p) (hq : Sx q) : (thenL p q).1.length ≤ p.length + q.length ∧ ∀ o ∈ (thenL p q).1, o.f2.size < 1073741824 := by
 cases rp : rightL p
 ·unfold thenL; simp [rp]
 cases rq : rightL q
 ·unfold thenL; simp [rq]
 rcases walk_then hp hq rp rq with ⟨hw, e⟩ | ⟨os, hw, _, g1, g2, he, hf, hsm, hsk, hr, e⟩
 ·rw [e]; simp
 ·rw [e]
  split
  ·refine ⟨?_, ?_⟩
   ·have h1 := nf_pack_len (stepsL os) [] hf
    have h2 : (stepsL os).length ≤ os.length := by unfold stepsL; rw [List.length_map]; exact List.length_filter_le _ _
    simp only [List.length_nil] at h1
    show (pack (nf [] (ex (stepsL os)))).length ≤ _
    omega
   ·intro o ho
    have ho : o ∈ pack (nf [] (ex (stepsL os))) := ho
    have he0 : ByteArray.empty.size = 0 := rfl
    rcases tx_pack _ o ho with e | ⟨x, hx, e⟩
    ·rw [e, he0]; omega
    ·rcases nf_mem _ _ _ hx with hx | hx
     ·simp at hx
     ·rcases tx_ex hx with e2 | ⟨y, hy, e2⟩
      ·rw [e, e2, he0]; omega
      ·rw [e, e2]
       obtain ⟨s, hs, rfl⟩ := List.mem_map.mp hy
       exact (g1 s (List.mem_filter.mp hs).1).1.2
  ·simp
theorem Sx.then {p q : List Op} (hp : Sx p) (hq : Sx q) (h : p.length + q.length ≤ 274877906944) : Sx (thenL p q).1 := by
 obtain ⟨h1, h2⟩ := thenL_len hp hq
 exact ⟨by omega, h2⟩
theorem thenL_right {p q : List Op} (h : (thenL p q).2 = true) : rightL (thenL p q).1 = true := by
 obtain ⟨u, _, _, _, hu, e⟩ := thenL_some h
 rw [e, right_pack, rightU_nf]; exact hu
end Go.Proofs.Ytfoponahdidddaa.P
namespace Go.Proofs.Ytfoponahdidddaa.P
open Go.RowKit Go.Proofs.YtfoponahdidddaaW.PrintWords Go.Proofs.YtfoponahdidddaaW.PrintLast Go.Proofs.YtfoponahdidddaaW.PrintMore
theorem norm_small {l : List Op} {B : Nat} (hB : 0 < B) (h : ∀ o ∈ l, o.f2.size < B) : ∀ o ∈ normL l, o.f2.size < B := by
 intro o ho
 have he : ByteArray.empty.size = 0 := rfl
 rcases tx_pack _ o ho with e | ⟨x, hx, e⟩
 ·rw [e, he]; exact hB
 ·rcases nf_mem _ _ x hx with hx | hx
  ·simp at hx
  ·rcases tx_ex hx with e2 | ⟨y, hy, e2⟩
   ·rw [e, e2, he]; exact hB
   ·rw [e, e2]; exact h y hy
theorem norm_len {l : List Op} (h : ∀ o ∈ l, formO o) : (normL l).length ≤ l.length := by
 have := nf_pack_len l [] h
 simpa [normL] using this
end Go.Proofs.Ytfoponahdidddaa.P
namespace Go.Proofs.Ytfoponahdidddaa.P
open Go.RowKit Go.Proofs.YtfoponahdidddaaW.PrintWords Go.Proofs.YtfoponahdidddaaW.PrintLast Go.Proofs.YtfoponahdidddaaW.PrintMore
def dU (a b : List ByteArray) : List U := ex (diffOps a b)
theorem ex_inss (b : List ByteArray) : ex (b.map fun t => (⟨4, 0, t⟩ : Op)) = b.map .ins := by
 induction b with
 | nil => rfl
 | cons t b ih => rw [List.map_cons, ex_cons, ih]; rfl
theorem ex_dels (a : List ByteArray) : ex (a.map fun t => (⟨3, 0, t⟩ : Op)) = a.map .del := by
 induction a with
 | nil => rfl
 | cons t b ih => rw [List.map_cons, ex_cons, ih]; rfl
theorem dU_nil (b : List ByteArray) : dU [] b = b.map .ins := by unfold dU; rw [diffOps_nil_left, ex_inss]
theorem dU_end (a : List ByteArray) : dU a [] = a.map .del := by unfold dU; rw [diffOps_nil_right, ex_dels]
theorem dU_same (x : ByteArray) (a b : List ByteArray) : dU (x :: a) (x :: b) = .keep x :: dU a b := by unfold dU; rw [diffOps_same, ex_cons]; rfl
theorem dU_del {x y : ByteArray} {a b : List ByteArray} (h : x ≠ y) (h2 : lcs (x :: a) b ≤ lcs a (y :: b)) : dU (x :: a) (y :: b) = .del x :: dU a (y :: b) := by unfold dU; rw [diffOps_del h h2, ex_cons]; rfl
theorem dU_ins {x y : ByteArray} {a b : List ByteArray} (h : x ≠ y) (h2 : ¬ lcs (x :: a) b ≤ lcs a (y :: b)) : dU (x :: a) (y :: b) = .ins y :: dU (x :: a) b := by unfold dU; rw [diffOps_ins h h2, ex_cons]; rfl
theorem dU_ind {C : List ByteArray → List ByteArray → List U → Prop} (h1 : ∀ b, C [] b (b.map .ins)) (h2 : ∀ x a, C (x :: a) [] ((x :: a).map .del)) (h3 : ∀ x a b, C a b (dU a b) → C (x :: a) (x :: b) (.keep x :: dU a b))
  (h4 : ∀ x a y b, x ≠ y → lcs (x :: a) b ≤ lcs a (y :: b) → C a (y :: b) (dU a (y :: b)) → C (x :: a) (y :: b) (.del x :: dU a (y :: b)))
  (h5 : ∀ x a y b, x ≠ y → ¬ lcs (x :: a) b ≤ lcs a (y :: b) → C (x :: a) b (dU (x :: a) b) → C (x :: a) (y :: b) (.ins y :: dU (x :: a) b)) : ∀ a b, C a b (dU a b) := by
 intro a b
 induction a, b using diffOps.induct with
 | case1 b => rw [dU_nil]; exact h1 b
 | case2 x a => rw [dU_end]; exact h2 x a
 | case3 a x b ih => rw [dU_same]; exact h3 x a b ih
 | case4 x a y b h k ih => rw [dU_del h k]; exact h4 x a y b h k ih
 | case5 x a y b h k ih => rw [dU_ins h k]; exact h5 x a y b h k ih
theorem sides_inss (b : List ByteArray) : olds (b.map .ins) = [] ∧ news (b.map .ins) = b.map some := by
 induction b with
 | nil => exact ⟨rfl, rfl⟩
 | cons t b ih => simp only [List.map_cons, olds, news, ih, and_self]
theorem sides_dels (b : List ByteArray) : olds (b.map .del) = b.map some ∧ news (b.map .del) = [] := by
 induction b with
 | nil => exact ⟨rfl, rfl⟩
 | cons t b ih => simp only [List.map_cons, olds, news, ih, and_self]
theorem dU_sides : ∀ a b, olds (dU a b) = a.map some ∧ news (dU a b) = b.map some :=
 dU_ind (C := fun a b u => olds u = a.map some ∧ news u = b.map some) (fun b => sides_inss b) (fun x a => sides_dels (x :: a))
  (fun x a b ih => by simp only [olds, news, ih.1, ih.2, List.map_cons, and_self])
  (fun x a y b _ _ ih => by simp only [olds, news, ih.1, ih.2, List.map_cons, and_self])
  (fun x a y b _ _ ih => by simp only [olds, news, ih.1, ih.2, List.map_cons, and_self])
def skf (s : List U) : Prop := ∀ x ∈ s, isSkip x = false
theorem skf.cons {x : U} {s : List U} (hx : isSkip x = false) (h : skf s) : skf (x :: s) := fun y hy => by
 rcases List.mem_cons.mp hy with rfl | hy
 ·exact hx
 ·exact h y hy
theorem skf.tail {x : U} {s : List U} (h : skf (x :: s)) : skf s := fun y hy => h y (List.mem_cons_of_mem _ hy)
def tdU : List ByteArray → List ByteArray → List U → List U
 | a, b, [] => dU a b
 | a, b, .skip :: u => dU a b ++ .skip :: tdU [] [] u
 | a, b, .keep t :: u => tdU (a ++ [t]) (b ++ [t]) u
 | a, b, .del t :: u => tdU (a ++ [t]) b u
 | a, b, .ins t :: u => tdU a (b ++ [t]) u
theorem tdU_sides : ∀ (u : List U) (a b : List ByteArray), olds (tdU a b u) = a.map some ++ olds u ∧ news (tdU a b u) = b.map some ++ news u
 | [], a, b => by have := dU_sides a b; simpa [tdU, olds, news] using this
 | .skip :: u, a, b => by
  have h := dU_sides a b
  have i := tdU_sides u [] []
  simp only [tdU, olds_app, news_app, olds, news, h.1, h.2, i.1, i.2, List.map_nil, List.nil_append, and_self]
 | .keep t :: u, a, b => by
  have i := tdU_sides u (a ++ [t]) (b ++ [t])
  simp only [tdU, olds, news, i.1, i.2, List.map_append, List.map_cons, List.map_nil, List.append_assoc, List.singleton_append, and_self]
 | .del t :: u, a, b => by
  have i := tdU_sides u (a ++ [t]) b
  simp only [tdU, olds, news, i.1, i.2, List.map_append, List.map_cons, List.map_nil, List.append_assoc, List.singleton_append, and_self]
 | .ins t :: u, a, b => by
  have i := tdU_sides u a (b ++ [t])
  simp only [tdU, olds, news, i.1, i.2, List.map_append, List.map_cons, List.map_nil, List.append_assoc, List.singleton_append, and_self]
theorem rightU_td (u : List U) : rightU (tdU [] [] u) = rightU u := by
 have := tdU_sides u [] []
 unfold rightU
 rw [this.1, this.2]; rfl
def seg (a b : List ByteArray) (v : List U) (ls : List ByteArray) : Option (List ByteArray) := if ls.take a.length = a then (doU v (ls.drop a.length)).map (b ++ ·) else none
def tdL : List ByteArray → List ByteArray → List Op → List Op
 | a, b, [] => diffOps a b
 | a, b, o :: l => if o.f0 = 1 then diffOps a b ++ o :: tdL [] [] l else tdL (if o.f0 = 4 then a else a ++ [o.f2]) (if o.f0 = 3 then b else b ++ [o.f2]) l
theorem diffOps_mem (a b : List ByteArray) : ∀ o ∈ diffOps a b, (o.f0 = 2 ∨ o.f0 = 3 ∨ o.f0 = 4) ∧ o.f1 = 0 ∧ (o.f2 ∈ a ∨ o.f2 ∈ b) := by
 induction a, b using diffOps.induct with
 | case1 b =>
  rw [diffOps_nil_left]
  intro o ho
  obtain ⟨t, ht, rfl⟩ := List.mem_map.mp ho
  exact ⟨.inr (.inr rfl), rfl, .inr ht⟩
 | case2 x a =>
  rw [diffOps_nil_right]
  intro o ho
  obtain ⟨t, ht, rfl⟩ := List.mem_map.mp ho
  exact ⟨.inr (.inl rfl), rfl, .inl ht⟩
 | case3 a x b ih =>
  rw [diffOps_same]
  intro o ho
  rcases List.mem_cons.mp ho with rfl | ho
  ·exact ⟨.inl rfl, rfl, .inl (List.mem_cons_self ..)⟩
  ·obtain ⟨h1, h2, h3⟩ := ih o ho
   exact ⟨h1, h2, h3.imp (List.mem_cons_of_mem _) (List.mem_cons_of_mem _)⟩
 | case4 x a y b h k ih =>
  rw [diffOps_del h k]
  intro o ho
  rcases List.mem_cons.mp ho with rfl | ho
  ·exact ⟨.inr (.inl rfl), rfl, .inl (List.mem_cons_self ..)⟩
  ·obtain ⟨h1, h2, h3⟩ := ih o ho
   exact ⟨h1, h2, h3.imp (List.mem_cons_of_mem _) id⟩
 | case5 x a y b h k ih =>
  rw [diffOps_ins h k]
  intro o ho
  rcases List.mem_cons.mp ho with rfl | ho
  ·exact ⟨.inr (.inr rfl), rfl, .inr (List.mem_cons_self ..)⟩
  ·obtain ⟨h1, h2, h3⟩ := ih o ho
   exact ⟨h1, h2, h3.imp id (List.mem_cons_of_mem _)⟩
theorem td_skips (u : List U) (a b : List ByteArray) : ∀ n : Nat, tdU a b (List.replicate (n + 1) .skip ++ u) = dU a b ++ List.replicate (n + 1) .skip ++ tdU [] [] u
 | 0 => by simp [tdU]
 | n + 1 => by
  have i := td_skips u [] [] n
  rw [List.replicate_succ, List.cons_append, tdU, i, show dU [] [] = [] from dU_nil [], List.nil_append]
  simp [List.replicate_succ]
theorem ex_td : ∀ (l : List Op) (a b : List ByteArray), (∀ o ∈ l, formO o) → ex (tdL a b l) = tdU a b (ex l) ∧ (∀ o ∈ tdL a b l, formO o) ∧ skips (tdL a b l) = skips l ∧ (tdL a b l).length ≤ a.length + b.length + 2 * l.length ∧ (∀ o ∈ tdL a b l, o.f2 ∈ a ∨ o.f2 ∈ b ∨ ∃ x ∈ l, o.f2 = x.f2)
 | [], a, b, _ => by
  have hm := diffOps_mem a b
  refine ⟨rfl, fun o ho => .inr ⟨(hm o ho).1, (hm o ho).2.1⟩, ?_, ?_, fun o ho => (hm o ho).2.2.elim .inl (fun h => .inr (.inl h))⟩
  ·rw [tdL, skips_nil]
   have : ∀ l : List Op, (∀ o ∈ l, o.f0 ≠ 1) → skips l = 0 := by
    intro l
    induction l with
    | nil => intro _; rfl
    | cons o l ih => intro h; rw [skips_cons, if_neg (h o (List.mem_cons_self ..)), ih fun x hx => h x (List.mem_cons_of_mem _ hx)]; rfl
   exact this _ fun o ho => by have := (hm o ho).1; omega
  ·rw [tdL]; have := diffOps_len a b; simp; omega
 | o :: l, a, b, h => by
  have fo := h o (List.mem_cons_self ..)
  have i := fun a b => ex_td l a b fun x hx => h x (List.mem_cons_of_mem _ hx)
  rw [tdL, ex_cons]
  rcases fo with ⟨hk, h1, h2⟩ | ⟨hk, h1⟩
  ·obtain ⟨i1, i2, i3, i4, i5⟩ := i [] []
   obtain ⟨m, hm⟩ : ∃ m : Nat, o.f1.toNat = m + 1 := ⟨o.f1.toNat - 1, by omega⟩
   have dm := diffOps_mem a b
   have eo : exO o = List.replicate (m + 1) .skip := by rw [← hm]; simp [exO, hk]
   have z : skips (diffOps a b) = 0 := by
    have : ∀ l : List Op, (∀ o ∈ l, o.f0 ≠ 1) → skips l = 0 := by
     intro l
     induction l with
     | nil => intro _; rfl
     | cons o l ih => intro h; rw [skips_cons, if_neg (h o (List.mem_cons_self ..)), ih fun x hx => h x (List.mem_cons_of_mem _ hx)]; rfl
    exact this _ fun o ho => by have := (dm o ho).1; omega
   rw [if_pos hk]
   refine ⟨?_, ?_, ?_, ?_, ?_⟩
   ·rw [eo, td_skips, ex_app, ex_cons, i1, eo]; simp [dU]
   ·intro x hx
    rcases List.mem_append.mp hx with hx | hx
    ·exact .inr ⟨(dm x hx).1, (dm x hx).2.1⟩
    ·rcases List.mem_cons.mp hx with rfl | hx
     ·exact .inl ⟨hk, h1, h2⟩
     ·exact i2 x hx
   ·rw [skips_app, skips_cons, skips_cons, i3, z]; omega
   ·have := diffOps_len a b
    simp only [List.length_append, List.length_cons, List.length_nil] at i4 ⊢; omega
   ·intro x hx
    rcases List.mem_append.mp hx with hx | hx
    ·rcases (dm x hx).2.2 with h | h
     ·exact .inl h
     ·exact .inr (.inl h)
    ·rcases List.mem_cons.mp hx with rfl | hx
     ·exact .inr (.inr ⟨x, List.mem_cons_self .., rfl⟩)
     ·rcases i5 x hx with h | h | ⟨y, hy, e⟩
      ·simp at h
      ·simp at h
      ·exact .inr (.inr ⟨y, List.mem_cons_of_mem _ hy, e⟩)
  ·have k1 : ¬ o.f0 = 1 := by omega
   rw [if_neg k1]
   obtain ⟨i1, i2, i3, i4, i5⟩ := i (if o.f0 = 4 then a else a ++ [o.f2]) (if o.f0 = 3 then b else b ++ [o.f2])
   refine ⟨?_, i2, by rw [i3, skips_cons, if_neg k1]; omega, ?_, ?_⟩
   ·rw [i1]
    rcases hk with hk | hk | hk
    ·rw [show exO o = [.keep o.f2] from by simp [exO, hk], if_neg (by omega), if_neg (by omega)]; rfl
    ·rw [show exO o = [.del o.f2] from by simp [exO, hk], if_neg (by omega), if_pos hk]; rfl
    ·rw [show exO o = [.ins o.f2] from by simp [exO, hk], if_pos hk, if_neg (by omega)]; rfl
   ·refine Nat.le_trans i4 ?_
    split <;> split <;> simp only [List.length_append, List.length_cons, List.length_nil] <;> omega
   ·intro x hx
    rcases i5 x hx with h | h | ⟨y, hy, e⟩
    ·split at h
     ·exact .inl h
     ·rcases List.mem_append.mp h with h | h
      ·exact .inl h
      ·exact .inr (.inr ⟨o, List.mem_cons_self .., List.mem_singleton.mp h⟩)
    ·split at h
     ·exact .inr (.inl h)
     ·rcases List.mem_append.mp h with h | h
      ·exact .inr (.inl h)
      ·exact .inr (.inr ⟨o, List.mem_cons_self .., List.mem_singleton.mp h⟩)
    ·exact .inr (.inr ⟨y, List.mem_cons_of_mem _ hy, e⟩)
def tidyL (l : List Op) : List Op := pack (nf [] (tdU [] [] (ex l)))
theorem norm_td {l : List Op} (h : ∀ o ∈ l, formO o) : normL (tdL [] [] l) = tidyL l := by
 unfold normL tidyL; rw [(ex_td l [] [] h).1]
theorem right_td {l : List Op} (hr : rightL l = true) : rightL (tdL [] [] l) = true := by
 obtain ⟨e1, e2, _⟩ := ex_td l [] [] (rightL_form hr)
 rw [right_iff e2, e1, rightU_td]; exact rightL_U hr
theorem Sm.td {l : List Op} (h : Sm l) (hl : l.length < 2199023255552) (hf : ∀ o ∈ l, formO o) : Sm (tdL [] [] l) := by
 obtain ⟨_, _, _, e4, e5⟩ := ex_td l [] [] hf
 refine ⟨by simp only [List.length_nil] at e4; omega, fun o ho => ?_⟩
 rcases e5 o ho with h2 | h2 | ⟨x, hx, e⟩
 ·simp at h2
 ·simp at h2
 ·rw [e]; exact h.2 x hx
end Go.Proofs.Ytfoponahdidddaa.P
namespace Go.Proofs.Ytfoponahdidddaa.P
open Go.RowKit Go.Proofs.YtfoponahdidddaaW.PrintWords Go.Proofs.YtfoponahdidddaaW.PrintLast Go.Proofs.YtfoponahdidddaaW.PrintMore
theorem w1 {n : Nat} (h : n ≤ 1000000) : wrap64 ((n : Int) + 1) = ((n + 1 : Nat) : Int) := by unfold wrap64; omega
end Go.Proofs.Ytfoponahdidddaa.P
namespace Go.Proofs.Ytfoponahdidddaa.P
open Go.RowKit Go.Proofs.YtfoponahdidddaaW.PrintWords Go.Proofs.YtfoponahdidddaaW.PrintLast Go.Proofs.YtfoponahdidddaaW.PrintMore
theorem Sm.flip {l : List Op} (h : Sm l) : Sm (l.map flipO) := by
 refine ⟨by rw [List.length_map]; exact h.1, fun o ho => ?_⟩
 obtain ⟨x, hx, rfl⟩ := List.mem_map.mp ho
 have : (flipO x).f2 = x.f2 := by
  unfold flipO
  split
  ·rfl
  ·split <;> rfl
 rw [this]; exact h.2 x hx
theorem right_flip {l : List Op} (h : rightL l = true) : rightL (l.map flipO) = true := by
 have hf := rightL_form h
 have hf2 : ∀ o ∈ l.map flipO, formO o := fun o ho => by
  obtain ⟨x, hx, rfl⟩ := List.mem_map.mp ho
  exact form_flip (hf x hx)
 rw [right_iff hf2, ex_flip hf, rightU_flip]
 exact rightL_U h
theorem norm_flip {l : List Op} (h : rightL l = true) : normL (l.map flipO) = flipL l := by
 unfold normL flipL; rw [ex_flip (rightL_form h)]
theorem flipO_val (o : Op) : flipO o = if o.f0 = 3 then ⟨4, o.f1, o.f2⟩ else if o.f0 = 4 then ⟨3, o.f1, o.f2⟩ else o := rfl
theorem flip_loop (s : List Op) : ∀ (p : List Op) (v : List Op), Sm (p ++ s) → Ev (fun k => (ops_Norm.f k ((p ++ s).map flipO)).bind fun t => some t) v → Ev (fun k => flip_Ops.l0 k (p.map flipO) (p ++ s) ((p ++ s).length : Int) (p.length : Int)) v := by
 induction s with
 | nil =>
  intro p v hb h
  rw [List.append_nil] at h
  refine Ev.step (fun k => rfl) ?_
  simp only [flip_Ops.l0, lt_end, if_false]
  exact h
 | cons o s ih =>
  intro p v hb h
  have i := ih (p ++ [o]) v hb.snoc (by simpa using h)
  rw [List.append_assoc, List.singleton_append, List.map_append, List.map_cons, List.map_nil] at i
  have hlo : (p.map flipO).length < 4398046511104 := by rw [List.length_map]; exact hb.len
  refine Ev.step (fun k => rfl) ?_
  simp only [flip_Ops.l0, lt_mid, nn_nat, if_true, rdOp_mid, if_pos hlo, wrap_len p o (by have := hb.len; omega)]
  unfold flipO at i ⊢
  by_cases h3 : o.f0 = 3
  ·simp only [if_pos h3] at i ⊢; exact i
  ·by_cases h4 : o.f0 = 4
   ·simp only [if_neg h3, if_pos h4] at i ⊢; exact i
   ·simp only [if_neg h3, if_neg h4] at i ⊢; exact i
theorem flip_ev {l : List Op} (h : Sm l) : Ev (fun k => flip_Ops.f k l) (if rightL l then flipL l else []) := by
 refine Ev.bind' (right_ev h) ?_
 cases hr : rightL l
 ·simp only [Bool.false_eq_true, if_false]; exact Ev.now _
 ·simp only [if_true]
  refine flip_loop l [] _ h ?_
  have := norm_ev h.flip
  rw [right_flip hr, if_pos rfl, norm_flip hr] at this
  exact Ev.bind' this (Ev.now _)
end Go.Proofs.Ytfoponahdidddaa.P
