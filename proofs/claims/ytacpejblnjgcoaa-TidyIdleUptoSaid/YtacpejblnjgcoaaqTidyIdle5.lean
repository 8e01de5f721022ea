/- Own and printed texts that the theorem of TidyIdle reaches, put together. -/
import Derived.Test.YtacpejblnjgcoaaqTidyIdle4
import Derived.Test.YtacpejblnjgcoaaqTidyIdle3
import Derived.WideShapes
import Derived.Lib.Strings
set_option linter.unusedVariables false
set_option linter.unusedSimpArgs false
namespace Go.Proofs.Ytacpejblnjgcoaa.P
open Go.RowKit Go.Proofs.YtacpejblnjgcoaaW.PrintWords Go.Proofs.YtacpejblnjgcoaaW.PrintLast Go.Proofs.YtacpejblnjgcoaaW.PrintMore
attribute [local go_sem] max2_int min2_int max_two min_two max_three min_three max_four min_four
mutual
def patchworklaw13_TidyIdle.j0 : Nat → List (Op) → Bool → List ByteArray → Bool → Option (Bool)
 | 0, _, _, _, _ => none
 | k + 1, x0, x3, x4, x27 => if x27 = true then (some x3) else (patchworklaw13_TidyIdle.l0 k x0 x4 0)
def patchworklaw13_TidyIdle.l0 : Nat → List (Op) → List ByteArray → Int → Option (Bool)
 | 0, _, _, _ => none
 | k + 1, x0, x4, x5 => if x5 < (x0.length : Int) then (if 0 ≤ x5 then (if (((rd_Op x0 x5).f2).size : Int) > 0 then (if 0 < (((rd_Op x0 x5).f2).size : Int) then (if (bt ((rd_Op x0 x5).f2) 0) = 63 then (some true) else (patchworklaw13_TidyIdle.l0 k x0 x4 (wrap64 (x5 + 1)))) else (none)) else (patchworklaw13_TidyIdle.l0 k x0 x4 (wrap64 (x5 + 1)))) else (none)) else ((patchworkref8_Do.f k x0 x4).bind fun bt452 => (if bt452.2 = true then ((patchworkref1_SameTexts.f k bt452.1 x4).bind fun t456 => ((tidy_Idle.f k x0).bind fun t457 => (some (t456 == t457)))) else (some false)))
end
def patchworklaw13_TidyIdle.f (k : Nat) (l0 : List (Op)) : Option (Bool) := (patchworklaw13_alive.f k).bind fun t443 => ((patchworkref8_Witness.f k l0).bind fun t444 => (if t443 = true then ((patchworklaw8_Few.f k l0).bind fun t447 => (if t447 = true then ((patchworkref8_Right.f k l0).bind fun t448 => (if t448 = true then ((patchworkref8_Olds.f k l0).bind fun t449 => (patchworklaw13_TidyIdle.j0 k l0 t443 t444 (decide (t449 > 300)))) else (patchworklaw13_TidyIdle.j0 k l0 t443 t444 true))) else (patchworklaw13_TidyIdle.j0 k l0 t443 t444 true))) else (patchworklaw13_TidyIdle.j0 k l0 t443 t444 true)))
end Go.Proofs.Ytacpejblnjgcoaa.P
namespace Go.Proofs.Ytacpejblnjgcoaa.P
open Go.RowKit Go.Proofs.YtacpejblnjgcoaaW.PrintWords Go.Proofs.YtacpejblnjgcoaaW.PrintLast Go.Proofs.YtacpejblnjgcoaaW.PrintMore
attribute [local go_sem] max2_int min2_int max_two min_two max_three min_three max_four min_four
theorem eqAOp (d : Nat) (w : World) (x0 y0 : Int) (x1 y1 : Int) (x2 y2 : ByteArray) :
  (Op.equalIn (d + 2) 36 (.agg #[.int .i64 x0, .int .i64 x1, .string x2]) (.agg #[.int .i64 y0, .int .i64 y1, .string y2])).run Try.prog w = .ok (x0 == y0 && (x1 == y1 && (x2.toList == y2.toList))) w := by
 refine eqA_of Try.underlying36 (by kernel_rfl) ?_
 refine eqf_cons (by rfl) (by go_simp; rfl) (by go_simp; rfl) (by go_simp) ?_
 refine eqf_cons (by rfl) (by go_simp; rfl) (by go_simp; rfl) (by go_simp) ?_
 exact eqf_last (by rfl) (by go_simp; rfl) (by go_simp; rfl) (by go_simp)
end Go.Proofs.Ytacpejblnjgcoaa.P
namespace Go.Proofs.Ytacpejblnjgcoaa.P
open Go.RowKit Go.Proofs.YtacpejblnjgcoaaW.PrintWords Go.Proofs.YtacpejblnjgcoaaW.PrintLast Go.Proofs.YtacpejblnjgcoaaW.PrintMore
def aheadN : List ByteArray → List ByteArray → Nat
 | x :: a, y :: b => if x = y then aheadN a b + 1 else 0
 | _, _ => 0
theorem aheadN_le (a b : List ByteArray) : aheadN a b ≤ a.length ∧ aheadN a b ≤ b.length := by
 induction a generalizing b with
 | nil => simp [aheadN]
 | cons x a ih =>
  cases b with
  | nil => simp [aheadN]
  | cons y b =>
   have := ih b
   simp only [aheadN, List.length_cons]
   split <;> omega
theorem diffOps_ahead (a b : List ByteArray) : diffOps a b = (a.take (aheadN a b)).map (fun t => (⟨2, 0, t⟩ : Op)) ++ diffOps (a.drop (aheadN a b)) (b.drop (aheadN a b)) := by
 induction a generalizing b with
 | nil => simp [aheadN]
 | cons x a ih =>
  cases b with
  | nil => simp [aheadN]
  | cons y b =>
   simp only [aheadN]
   split
   ·rename_i h
    subst h
    rw [diffOps]
    simp only [if_true, List.take_succ_cons, List.map_cons, List.drop_succ_cons, List.cons_append]
    rw [← ih b]
   ·simp
theorem ahead_loop (a : List ByteArray) : ∀ (b p q : List ByteArray), p.length = q.length → p.length + a.length ≤ 1000000 → q.length + b.length ≤ 1000000 →
  Ev (fun k => lcs_ahead.l0 k (p ++ a) (q ++ b) (p.length : Int)) ((p.length + aheadN a b : Nat) : Int) := by
 induction a with
 | nil =>
  intro b p q hpq h1 h2
  refine Ev.step (fun k => rfl) ?_
  have e : ¬ ((p.length : Int) < ((p ++ ([] : List ByteArray)).length : Int)) := by simp
  simp only [lcs_ahead.l0, if_neg e, aheadN, Nat.add_zero]
  exact Ev.now _
 | cons x a ih =>
  intro b p q hpq h1 h2
  have e1 : (p.length : Int) < ((p ++ x :: a).length : Int) := by simp; omega
  have e0 : (0 : Int) ≤ (p.length : Int) := by omega
  cases b with
  | nil =>
   refine Ev.step (fun k => rfl) ?_
   have e : ¬ ((p.length : Int) < ((q ++ ([] : List ByteArray)).length : Int)) := by simp; omega
   simp only [lcs_ahead.l0, if_pos e1, if_neg e, aheadN, Nat.add_zero]
   exact Ev.now _
  | cons y b =>
   have e2 : (p.length : Int) < ((q ++ y :: b).length : Int) := by simp; omega
   have r1 : rdOf ByteArray.empty (p ++ x :: a) (p.length : Int) = x := by simp [rdOf]
   have r2 : rdOf ByteArray.empty (q ++ y :: b) (p.length : Int) = y := by simp [rdOf, hpq]
   refine Ev.step (fun k => rfl) ?_
   simp only [lcs_ahead.l0, if_pos e1, if_pos e2, if_pos e0, r1, r2]
   by_cases h : x = y
   ·subst h
    have ew : wrap64 ((p.length : Int) + 1) = ((p ++ [x]).length : Int) := by unfold wrap64; simp at h1 ⊢; omega
    have := ih b (p ++ [x]) (q ++ [x]) (by simp [hpq]) (by simp at h1 ⊢; omega) (by simp at h2 ⊢; omega)
    simp only [List.append_assoc, List.singleton_append] at this
    simp only [if_true, ew]
    simp only [aheadN, if_true]
    have e3 : (p ++ [x]).length + aheadN a b = p.length + (aheadN a b + 1) := by simp; omega
    rw [← e3]
    exact this
   ·have h' : ¬ x.toList = y.toList := fun e => h (by rw [Lib.toList_data, Lib.toList_data] at e; exact WideShapes.bytes_inj e)
    simp only [if_neg h', aheadN, if_neg h, Nat.add_zero]
    exact Ev.now _
theorem ahead_ev (a b : List ByteArray) (h1 : a.length ≤ 1000000) (h2 : b.length ≤ 1000000) : Ev (fun k => lcs_ahead.f k a b) ((aheadN a b : Nat) : Int) := by
 have := ahead_loop a b [] [] rfl (by simpa using h1) (by simpa using h2)
 simpa [lcs_ahead.f] using this
end Go.Proofs.Ytacpejblnjgcoaa.P
namespace Go.Proofs.Ytacpejblnjgcoaa.P
open Go.RowKit Go.Proofs.YtacpejblnjgcoaaW.PrintWords Go.Proofs.YtacpejblnjgcoaaW.PrintLast Go.Proofs.YtacpejblnjgcoaaW.PrintMore
attribute [local go_sem] max2_int min2_int max_two min_two max_three min_three max_four min_four
set_option maxHeartbeats 8000000 in
set_option maxRecDepth 100000 in
theorem patchworkref1_SameTexts.calls (k : Nat) (A0 : Option Addr) (c0 : Nat) (l0 : List ByteArray) (A1 : Option Addr) (c1 : Nat) (l1 : List ByteArray) (r : Bool) (w : World) (hr0 : Kd.C Kd.string w A0 l0.length l0) (hc0 : l0.length ≤ c0) (hr1 : Kd.C Kd.string w A1 l1.length l1) (hc1 : l1.length ≤ c1) (h : patchworkref1_SameTexts.f k l0 l1 = some r) :
  Calls Try.prog 23 #[.slice A0 l0.length c0, .slice A1 l1.length c1] w fun e w' => e = .returned (.bool r) ∧ Drawn0 w w' := by
 have HR0 := Aside0.mk hr0
 have HC0 := Aside0.mk hc0
 clear hr0 hc0
 have HR1 := Aside0.mk hr1
 have HC1 := Aside0.mk hc1
 clear hr1 hc1
 have H : (if (l0.length : Int) = (l1.length : Int) then (patchworkref1_SameTexts.l0 k l0 l1 0) else (some false)) = some r := h
 clear h
 by_cases c3 : (l0.length : Int) = (l1.length : Int)
 ·rw [if_pos c3] at H
  have c3b0 := beq_iff_eq.mpr c3; have c3b1 := bne_eq_false_iff_eq.mpr c3; have c3b2 : (l0.length == l1.length) = true := by first | simpa using c3 | (simp at c3 ⊢; omega)
  clear c3; have H' := Aside0.mk H; clear H
  go_enter Try.func23, Try.ntmps23
  go_wp2
  repeat (go_quiet (fail); try go_wp2)
  go_loopg [5] k (fun kq v5 w' => ∃ (x5_1 : Int), v5 = .int .i64 x5_1 ∧ Aside0 (patchworkref1_SameTexts.l0 kq l0 l1 x5_1 = some r) ∧ Aside0 (kq ≤ k) ∧ Drawn0 w w')
  case atStart => exact ⟨(0), yE, H', ⟨Nat.le_refl _⟩, yD⟩
  case round =>
   clear H'; (try clear c1); (try clear c2); (try clear p2); (try clear c3); (try clear c3b0); (try clear c3b1); (try clear c3b2); obtain ⟨x5_1, rfl, HA, HK1, ⟨m1, rfl⟩⟩ := hrel; cases gk with
   | zero => exact absurd HA.out (by simp [patchworkref1_SameTexts.l0])
   | succ k1 =>
    have H := HA.out; clear HA; simp only [patchworkref1_SameTexts.l0] at H
    by_cases c4 : x5_1 < (l0.length : Int)
    ·rw [if_pos c4] at H
     have c4b0 := decide_eq_true c4; clear c4
     by_cases c5 : 0 ≤ x5_1
     ·rw [if_pos c5] at H
      have c5b0 := decide_eq_true c5; clear c5
      by_cases c6 : x5_1 < (l1.length : Int)
      ·rw [if_pos c6] at H
       have c6b0 := decide_eq_true c6; clear c6
       by_cases c7 : (rdOf ByteArray.empty l0 x5_1).toList = (rdOf ByteArray.empty l1 x5_1).toList
       ·rw [if_pos c7] at H
        have c7b0 := beq_iff_eq.mpr c7; have c7b1 := bne_eq_false_iff_eq.mpr c7; clear c7; have H' := Aside0.mk H; clear H; have p398 : 0 ≤ (x5_1 : Int) := yO; have q398 : x5_1 < (l0.length : Int) := yO; obtain ⟨ad398, e398, hx398_0⟩ := Kd.at_string HR0.out x5_1 p398 q398; cases e398; replace p398 := eq_true p398; replace q398 := eq_true q398; have p399 : 0 ≤ (x5_1 : Int) := yO; have q399 : x5_1 < (l1.length : Int) := yO; obtain ⟨ad399, e399, hx399_0⟩ := Kd.at_string HR1.out x5_1 p399 q399; cases e399; replace p399 := eq_true p399; replace q399 := eq_true q399
        go_wp2
        repeat (go_quiet (fail); try go_wp2)
        go_roundg k1
        case measure => have := HK1.out; omega
        case rel => exact ⟨(wrap64 (x5_1 + 1)), yE, H', ⟨by have := HK1.out; omega⟩, yD⟩
       ·rw [if_neg c7] at H
        have c7b0 := beq_eq_false_iff_ne.mpr c7; have c7b1 := bne_iff_ne.mpr c7; obtain rfl := Option.some.inj H; have p398 : 0 ≤ (x5_1 : Int) := yO; have q398 : x5_1 < (l0.length : Int) := yO; obtain ⟨ad398, e398, hx398_0⟩ := Kd.at_string HR0.out x5_1 p398 q398; cases e398; replace p398 := eq_true p398; replace q398 := eq_true q398; have p399 : 0 ≤ (x5_1 : Int) := yO; have q399 : x5_1 < (l1.length : Int) := yO; obtain ⟨ad399, e399, hx399_0⟩ := Kd.at_string HR1.out x5_1 p399 q399; cases e399; replace p399 := eq_true p399; replace q399 := eq_true q399
        go_wp2
        repeat (go_quiet (fail); try go_wp2)
        go_ret
        exact ⟨yE, yD⟩
      ·rw [if_neg c6] at H
       exact absurd H (by simp)
     ·rw [if_neg c5] at H
      exact absurd H (by simp)
    ·rw [if_neg c4] at H
     have c4b0 := decide_eq_false c4; clear c4; obtain rfl := Option.some.inj H
     go_wp2
     repeat (go_quiet (fail); try go_wp2)
     go_ret
     exact ⟨yE, yD⟩
 ·rw [if_neg c3] at H
  have c3b0 := beq_eq_false_iff_ne.mpr c3; have c3b1 := bne_iff_ne.mpr c3; have c3b2 : (l0.length == l1.length) = false := by first | simpa using c3 | (simp at c3 ⊢; omega)
  obtain rfl := Option.some.inj H
  go_enter Try.func23, Try.ntmps23
  go_wp2
  repeat (go_quiet (fail); try go_wp2)
  go_ret
  exact ⟨yE, yD⟩
end Go.Proofs.Ytacpejblnjgcoaa.P
namespace Go.Proofs.Ytacpejblnjgcoaa.P
open Go.RowKit Go.Proofs.YtacpejblnjgcoaaW.PrintWords Go.Proofs.YtacpejblnjgcoaaW.PrintLast Go.Proofs.YtacpejblnjgcoaaW.PrintMore
theorem txt_eq {s t : ByteArray} (h : s.toList = t.toList) : s = t := by
 rw [Lib.toList_data, Lib.toList_data] at h
 exact WideShapes.bytes_inj h
section
variable {α : Type}
theorem lt_mid (p s : List α) (x : α) : ((p.length : Int) < ((p ++ x :: s).length : Int)) = True := by simp; omega
theorem lt_end (p : List α) : ((p.length : Int) < ((p ++ ([] : List α)).length : Int)) = False := by simp
theorem nn_nat (n : Nat) : ((0 : Int) ≤ (n : Int)) = True := by simp
theorem getD_mid (p s : List α) (x d : α) : (p ++ x :: s).getD (p.length : Int).toNat d = x := by
 rw [Int.toNat_natCast, List.getD_eq_getElem?_getD, List.getElem?_append_right (Nat.le_refl _)]; simp
theorem wrap_len (p : List α) (x : α) (h : p.length < 4611686018427387904) : wrap64 ((p.length : Int) + 1) = ((p ++ [x]).length : Int) := by
 unfold wrap64; simp; omega
theorem len_snoc (p : List α) (x : α) : (p ++ [x]).length = p.length + 1 := by simp
end
theorem wrap_small {n : Int} (h0 : -9223372036854775808 ≤ n) (h1 : n < 9223372036854775808) : wrap64 n = n := by unfold wrap64; omega
theorem rdOf_mid {α : Type} (d : α) (p s : List α) (x : α) : rdOf d (p ++ x :: s) (p.length : Int) = x := getD_mid p s x d
theorem rdOp_mid (p s : List Op) (x : Op) : rd_Op (p ++ x :: s) (p.length : Int) = x := getD_mid p s x zOp
theorem rdOf_get {α : Type} {d : α} {l : List α} {i : Nat} (h : i < l.length) : rdOf d l (i : Int) = l[i] := by
 unfold rdOf; rw [Int.toNat_natCast, List.getD_eq_getElem?_getD, List.getElem?_eq_getElem h]; rfl
theorem Op.ext' {a b : Op} (h0 : a.f0 = b.f0) (h1 : a.f1 = b.f1) (h2 : a.f2 = b.f2) : a = b := by cases a; cases b; simp_all
instance : DecidableEq Op := fun a b => decidable_of_iff (a.f0 = b.f0 ∧ a.f1 = b.f1 ∧ a.f2 = b.f2) ⟨fun h => Op.ext' h.1 h.2.1 h.2.2, fun h => by rw [h]; exact ⟨rfl, rfl, rfl⟩⟩
theorem Ev.bind' {α β : Type} {g : Nat → Option α} {f : Nat → α → Option β} {a : α} {r : β} (h : Ev g a) (k : Ev (fun n => f n a) r) : Ev (fun n => (g n).bind fun t => f n t) r := Ev.bind h k
end Go.Proofs.Ytacpejblnjgcoaa.P
namespace Go.Proofs.Ytacpejblnjgcoaa.P
open Go.RowKit Go.Proofs.YtacpejblnjgcoaaW.PrintWords Go.Proofs.YtacpejblnjgcoaaW.PrintLast Go.Proofs.YtacpejblnjgcoaaW.PrintMore
def rightT (s : ByteArray) : Bool := decide (s.data.toList ≠ []) && decide ((10 : UInt8) ∉ s.data.toList.dropLast)
def openT (s : ByteArray) : Bool := decide (s.data.toList.getLast? ≠ some 10)
theorem toList_nil {s : ByteArray} : s.toList = ([] : List UInt8) ↔ s.data.toList = [] := by rw [Lib.toList_data]
theorem bt_getD (s : ByteArray) (i : Nat) : bt s (i : Int) = ((s.data.toList.getD i 0).toNat : Int) := by
 unfold bt
 rw [Int.toNat_natCast]
 by_cases h : i < s.size
 ·rw [dif_pos h, List.getD_eq_getElem?_getD, List.getElem?_eq_getElem (by rw [data_length]; exact h)]
  rfl
 ·rw [dif_neg h, List.getD_eq_getElem?_getD, List.getElem?_eq_none (by rw [data_length]; omega)]
  rfl
theorem u10 {x : UInt8} : ((x.toNat : Int) = 10) ↔ x = 10 := by
 constructor
 ·intro h
  have : x.toNat = (10 : UInt8).toNat := by have : (10 : UInt8).toNat = 10 := rfl; omega
  exact UInt8.toNat_inj.mp this
 ·rintro rfl; rfl
theorem last_getD {l : List UInt8} (h : l ≠ []) : l.getLast? = some (l.getD (l.length - 1) 0) := by
 have : 0 < l.length := List.length_pos_iff.mpr h
 rw [List.getLast?_eq_getElem?, List.getElem?_eq_getElem (by omega), List.getD_eq_getElem?_getD, List.getElem?_eq_getElem (by omega)]
 rfl
theorem size_pos {s : ByteArray} (h : s.data.toList ≠ []) : 0 < s.size := by rw [← data_length]; exact List.length_pos_iff.mpr h
theorem size_zero {s : ByteArray} (h : s.data.toList = []) : s.size = 0 := by rw [← data_length, h]; rfl
theorem openT_getD {s : ByteArray} (h : s.data.toList ≠ []) : openT s = (s.data.toList.getD (s.size - 1) 0 != 10) := by
 unfold openT
 rw [last_getD h, data_length]
 generalize s.data.toList.getD (s.size - 1) 0 = x
 by_cases h2 : x = 10 <;> simp [h2]
theorem open_val {s : ByteArray} (hb : s.size < 4611686018427387904) : patchworkref1_Open.f s = some (openT s) := by
 unfold patchworkref1_Open.f
 by_cases h : s.data.toList = []
 ·rw [if_pos (toList_nil.mpr h)]
  simp [openT, h]
 ·have hp := size_pos h
  rw [if_neg (fun e => h (toList_nil.mp e))]
  have w : wrap64 ((s.size : Int) - 1) = ((s.size - 1 : Nat) : Int) := by unfold wrap64; omega
  rw [w, if_pos (by omega), if_pos (by omega), bt_getD, openT_getD h]
  congr 1
  generalize s.data.toList.getD (s.size - 1) 0 = x
  by_cases h2 : x = 10
  ·subst h2; rfl
  ·have : ¬ (x.toNat : Int) = 10 := fun e => h2 (u10.mp e)
   rw [bne_iff_ne.mpr h2, bne_iff_ne.mpr this]
theorem dropLast_drop {s : ByteArray} {i : Nat} (h : i + 1 < s.size) : s.data.toList.dropLast.drop i = s.data.toList.getD i 0 :: s.data.toList.dropLast.drop (i + 1) := by
 have hl : i < s.data.toList.dropLast.length := by rw [List.length_dropLast, data_length]; omega
 rw [List.drop_eq_getElem_cons hl, List.getElem_dropLast, List.getD_eq_getElem?_getD, List.getElem?_eq_getElem (by rw [data_length]; omega)]
 rfl
theorem rightline_loop {s : ByteArray} (hb : s.size < 4611686018427387904) : ∀ (n i : Nat), s.size - i ≤ n → i ≤ s.size → Ev (fun k => patchworkref1_RightLine.l0 k s (i : Int)) (decide (s.data.toList ≠ []) && decide ((10 : UInt8) ∉ s.data.toList.dropLast.drop i)) := by
 intro n
 induction n with
 | zero =>
  intro i hi hle
  have w : wrap64 ((i : Int) + 1) = ((i + 1 : Nat) : Int) := by unfold wrap64; omega
  have c : ¬ ((i + 1 : Nat) : Int) < (s.size : Int) := by omega
  have d : s.data.toList.dropLast.drop i = [] := List.drop_eq_nil_of_le (by rw [List.length_dropLast, data_length]; omega)
  refine Ev.step (fun k => rfl) ?_
  simp only [patchworkref1_RightLine.l0, w, if_neg c, d]
  have : (s.toList != ([] : List UInt8)) = (decide (s.data.toList ≠ []) && decide ((10 : UInt8) ∉ ([] : List UInt8))) := by
   rw [Lib.toList_data]
   by_cases h : s.data.toList = [] <;> simp [h]
  rw [this]
  exact Ev.now _
 | succ n ih =>
  intro i hi hle
  have w : wrap64 ((i : Int) + 1) = ((i + 1 : Nat) : Int) := by unfold wrap64; omega
  refine Ev.step (fun k => rfl) ?_
  by_cases c : ((i + 1 : Nat) : Int) < (s.size : Int)
  ·have c2 : (0 : Int) ≤ (i : Int) := by omega
   have c3 : (i : Int) < (s.size : Int) := by omega
   rw [dropLast_drop (by omega)]
   simp only [patchworkref1_RightLine.l0, w, if_pos c, if_pos c2, if_pos c3, bt_getD]
   by_cases h : s.data.toList.getD i 0 = 10
   ·have h' : ((s.data.toList.getD i 0).toNat : Int) = 10 := u10.mpr h
    rw [h] at h' ⊢
    simp only [if_pos h', List.mem_cons, true_or, not_true_eq_false, decide_false, Bool.and_false]
    exact Ev.now _
   ·have h' : ¬ ((s.data.toList.getD i 0).toNat : Int) = 10 := fun e => h (u10.mp e)
    have h2 : ¬ (10 : UInt8) = s.data.toList.getD i 0 := fun e => h e.symm
    simp only [if_neg h', List.mem_cons, h2, false_or]
    exact ih (i + 1) (by omega) (by omega)
  ·have d : s.data.toList.dropLast.drop i = [] := List.drop_eq_nil_of_le (by rw [List.length_dropLast, data_length]; omega)
   simp only [patchworkref1_RightLine.l0, w, if_neg c, d]
   have : (s.toList != ([] : List UInt8)) = (decide (s.data.toList ≠ []) && decide ((10 : UInt8) ∉ ([] : List UInt8))) := by
    rw [Lib.toList_data]
    by_cases h : s.data.toList = [] <;> simp [h]
   rw [this]
   exact Ev.now _
theorem rightline_ev {s : ByteArray} (hb : s.size < 4611686018427387904) : Ev (fun k => patchworkref1_RightLine.f k s) (rightT s) := by
 have := rightline_loop hb s.size 0 (by omega) (by omega)
 simpa [patchworkref1_RightLine.f, rightT] using this
theorem nl_list : (⟨#[10]⟩ : ByteArray).data.toList = [10] := rfl
theorem ext_list (s : ByteArray) (i j : Nat) : (s.extract i j).data.toList = (s.data.toList.take j).drop i := by
 rw [ByteArray.data_extract, Array.toList_extract, List.extract_eq_take_drop, List.drop_take]
theorem suffix_val {s : ByteArray} (hb : s.size < 4611686018427387904) : stringslite_HasSuffix.f s ⟨#[10]⟩ = some (!openT s) := by
 have h1 : ((⟨#[10]⟩ : ByteArray).size : Int) = 1 := rfl
 unfold stringslite_HasSuffix.f
 rw [h1]
 by_cases h : s.data.toList = []
 ·have h0 := size_zero h
  rw [if_neg (by omega)]
  simp [openT, h]
 ·have hp := size_pos h
  have w : wrap64 ((s.size : Int) - 1) = ((s.size - 1 : Nat) : Int) := by unfold wrap64; omega
  rw [if_pos (by omega), w, if_pos (by omega), if_pos (by omega), Int.toNat_natCast, Lib.toList_data, Lib.toList_data, ext_list, nl_list, openT_getD h]
  have hl : s.size - 1 < s.data.toList.length := by rw [data_length]; omega
  rw [List.take_of_length_le (by rw [data_length]; exact Nat.le_refl _), List.drop_eq_getElem_cons hl, List.drop_eq_nil_of_le (by rw [data_length]; omega)]
  rw [List.getD_eq_getElem?_getD, List.getElem?_eq_getElem hl]
  simp only [Option.getD_some]
  simp [bne]
theorem closed_val {s : ByteArray} (hb : s.size < 4611686018427387904) : lines_Closed.f s = some (!openT s) := by
 simp [lines_Closed.f, strings_HasSuffix.f, suffix_val hb]
theorem trim_val {s : ByteArray} (hb : s.size < 4611686018427387904) : ∃ t, strings_TrimSuffix.f s ⟨#[10]⟩ = some t ∧ (s.data.toList ≠ [] → (10 ∈ t.data.toList ↔ 10 ∈ s.data.toList.dropLast)) := by
 have h1 : ((⟨#[10]⟩ : ByteArray).size : Int) = 1 := rfl
 unfold strings_TrimSuffix.f stringslite_TrimSuffix.f
 rw [suffix_val hb]
 simp only [Option.bind_some]
 by_cases h : openT s = true
 ·refine ⟨s, by simp [h], fun hn => ?_⟩
  constructor
  ·intro hm
   have : s.data.toList = s.data.toList.dropLast ++ [s.data.toList.getLast hn] := (List.dropLast_concat_getLast hn).symm
   rw [this] at hm
   rcases List.mem_append.mp hm with hm | hm
   ·exact hm
   ·exfalso
    have e : s.data.toList.getLast hn = 10 := (List.mem_singleton.mp hm).symm
    have : s.data.toList.getLast? = some 10 := by rw [List.getLast?_eq_some_getLast hn, e]
    simp [openT, this] at h
  ·intro hm; exact (List.dropLast_sublist _).subset hm
 ·have hn : s.data.toList ≠ [] := by intro e; simp [openT, e] at h
  have hp := size_pos hn
  have w : wrap64 ((s.size : Int) - 1) = ((s.size - 1 : Nat) : Int) := by unfold wrap64; omega
  have h' : openT s = false := by simpa using h
  rw [h', h1, w]
  simp only [Bool.not_false, if_true]
  rw [if_pos (by omega), if_pos (by omega), Int.toNat_natCast]
  refine ⟨_, rfl, fun _ => ?_⟩
  rw [ext_list, List.drop_zero, List.dropLast_eq_take, data_length]
theorem linesright_val {s : ByteArray} (hb : s.size < 4611686018427387904) : lines_Right.f s = some (rightT s) := by
 unfold lines_Right.f
 by_cases h : s.data.toList = []
 ·rw [if_pos (toList_nil.mpr h)]
  simp [rightT, h]
 ·rw [if_neg (fun e => h (toList_nil.mp e))]
  obtain ⟨t, ht, hm⟩ := trim_val hb
  rw [ht]
  have : strings_Contains.f t ⟨#[10]⟩ = some (decide (10 ∈ t.data.toList)) := by simp [strings_Contains.f]
  simp only [Option.bind_some, this, rightT]
  congr 1
  by_cases c : 10 ∈ t.data.toList
  ·simp [c, (hm h).mp c]
  ·have c2 : 10 ∉ s.data.toList.dropLast := fun e => c ((hm h).mpr e)
   simp [c, c2, h]
end Go.Proofs.Ytacpejblnjgcoaa.P
namespace Go.Proofs.Ytacpejblnjgcoaa.P
open Go.RowKit Go.Proofs.YtacpejblnjgcoaaW.PrintWords Go.Proofs.YtacpejblnjgcoaaW.PrintLast Go.Proofs.YtacpejblnjgcoaaW.PrintMore
def okOne (o : Op) : Bool := if o.f0 = 1 then (decide (1 ≤ o.f1) && (decide (o.f1 ≤ 2147483648) && decide (o.f2.data.toList = []))) else (decide (o.f0 = 2 ∨ o.f0 = 3 ∨ o.f0 = 4) && (decide (o.f1 = 0) && rightT o.f2))
def cnt (c : Int) (o : Op) : Nat := if o.f0 = 1 then o.f1.toNat else if o.f0 = 2 ∨ o.f0 = c then 1 else 0
def sums (c : Int) (l : List Op) : Nat := (l.map (cnt c)).sum
def far : Int := 1099511627776
def capd (c : Int) (l : List Op) : Int := min (sums c l : Int) far
def closedGo (c : Int) : Bool → List Op → Bool
 | _, [] => true
 | e, o :: l => if o.f0 = 1 ∨ o.f0 = 2 ∨ o.f0 = c then (if e = true then false else closedGo c (decide (o.f0 ≠ 1) && openT o.f2) l) else closedGo c e l
def rightL (l : List Op) : Bool := l.all okOne && (decide (capd 3 l ≤ 2147483648) && (decide (capd 4 l ≤ 2147483648) && (closedGo 3 false l && closedGo 4 false l)))
def Sm (l : List Op) : Prop := l.length < 4398046511104 ∧ ∀ o ∈ l, o.f2.size < 4611686018427387904
theorem Sm.mid {p s : List Op} {o : Op} (h : Sm (p ++ o :: s)) : o.f2.size < 4611686018427387904 := h.2 o (by simp)
theorem Sm.len {p s : List Op} {o : Op} (h : Sm (p ++ o :: s)) : p.length < 4398046511104 := by have := h.1; simp at this; omega
theorem Sm.nil : Sm [] := ⟨by simp, by simp⟩
theorem Sm.snoc {p s : List Op} {o : Op} (h : Sm (p ++ o :: s)) : Sm ((p ++ [o]) ++ s) := by rw [List.append_assoc]; exact h
theorem sums_app (c : Int) (p q : List Op) : sums c (p ++ q) = sums c p + sums c q := by simp [sums]
theorem sums_nil (c : Int) : sums c [] = 0 := rfl
theorem sums_cons (c : Int) (o : Op) (q : List Op) : sums c (o :: q) = cnt c o + sums c q := by simp [sums]
theorem capd_nil (c : Int) : capd c [] = 0 := by unfold capd far; rw [sums_nil]; omega
theorem capd_snoc (c : Int) (p : List Op) (o : Op) : capd c (p ++ [o]) = min (capd c p + (cnt c o : Int)) far := by
 unfold capd far
 rw [sums_app, sums_cons, sums_nil]
 omega
theorem capd_bd (c : Int) (p : List Op) : 0 ≤ capd c p ∧ capd c p ≤ far := by unfold capd far; omega
theorem one_val {o : Op} (hb : o.f2.size < 4611686018427387904) : ops_one.f o.f0 o.f1 o.f2 = some (okOne o) := by
 unfold ops_one.f okOne
 by_cases h1 : o.f0 = 1
 ·rw [if_pos h1, if_pos h1]
  by_cases h2 : o.f1 ≥ 1
  ·rw [if_pos h2]
   by_cases h3 : o.f1 ≤ 2147483648
   ·rw [if_pos h3]
    have h2' : 1 ≤ o.f1 := h2
    rw [Lib.toList_data]
    generalize o.f2.data.toList = z
    by_cases h4 : z = [] <;> simp [h2', h3, h4]
   ·rw [if_neg h3]; simp [h3]
  ·rw [if_neg h2]; simp; omega
 ·rw [if_neg h1, if_neg h1, linesright_val hb]
  by_cases h2 : o.f0 = 2
  ·rw [if_pos h2]
   by_cases h3 : o.f1 = 0
   ·rw [if_pos h3]; simp [h2, h3]
   ·rw [if_neg h3]; simp [h3]
  ·rw [if_neg h2]
   unfold ops_Change.f
   by_cases h4 : o.f0 = 3
   ·rw [if_pos h4]
    simp only [Option.bind_some, if_true]
    by_cases h3 : o.f1 = 0
    ·rw [if_pos h3]; simp [h4, h3]
    ·rw [if_neg h3]; simp [h3]
   ·rw [if_neg h4]
    simp only [Option.bind_some]
    by_cases h5 : o.f0 = 4
    ·rw [if_pos (by simpa using h5)]
     by_cases h3 : o.f1 = 0
     ·rw [if_pos h3]; simp [h5, h3]
     ·rw [if_neg h3]; simp [h3]
    ·rw [if_neg (by simpa using h5)]; simp [h2, h4, h5]
theorem contains_loop (s : List Op) : ∀ (p : List Op), Sm (p ++ s) → Ev (fun k => slices_IndexFunc_Op_ops_Right_1.l0 k (p ++ s) ((p ++ s).length : Int) (p.length : Int)) (if s.all okOne then (-1) else (p.length + (s.takeWhile okOne).length : Int)) := by
 induction s with
 | nil =>
  intro p _
  refine Ev.step (fun k => rfl) ?_
  simp only [slices_IndexFunc_Op_ops_Right_1.l0, lt_end, if_false, List.all_nil, if_true]
  exact Ev.now _
 | cons o s ih =>
  intro p hb
  have := ih (p ++ [o]) hb.snoc
  rw [List.append_assoc, List.singleton_append] at this
  refine Ev.step (fun k => rfl) ?_
  simp only [slices_IndexFunc_Op_ops_Right_1.l0, lt_mid, nn_nat, if_true, rdOp_mid, ops_Right_1.f, one_val hb.mid, Option.bind_some]
  cases ho : okOne o
  ·simp only [Bool.not_false, if_true, List.all_cons, ho, Bool.false_and, Bool.false_eq_true, if_false, List.takeWhile_cons]
   simpa using Ev.now _
  ·simp only [Bool.not_true, Bool.false_eq_true, if_false, List.all_cons, ho, Bool.true_and, List.takeWhile_cons, if_true]
   rw [wrap_len p o (by have := hb.len; omega)]
   have e : ((p.length : Int) + ((o :: s.takeWhile okOne).length : Int)) = (((p ++ [o]).length : Int) + ((s.takeWhile okOne).length : Int)) := by simp; omega
   rw [e]
   exact this
theorem contains_ev {l : List Op} (h : Sm l) : Ev (fun k => slices_ContainsFunc_Op_ops_Right_1.f k l) (!l.all okOne) := by
 have := contains_loop l [] h
 simp only [List.nil_append, List.length_nil, Int.natCast_zero] at this
 refine Ev.bind' this ?_
 cases ha : l.all okOne
 ·simp only [Bool.false_eq_true, if_false, Bool.not_false]
  rw [show (decide ((0 : Int) + ((l.takeWhile okOne).length : Int) ≥ 0)) = true from by simp]
  exact Ev.now _
 ·simp only [if_true, Bool.not_true]
  exact Ev.now _
theorem mn_min (a b : Int) : mn a b = min a b := by unfold mn; omega
theorem mx_max (a b : Int) : mx a b = max a b := by unfold mx; omega
theorem count_loop (c : Int) (hc : c ≠ 1) (s : List Op) : ∀ (p : List Op), Sm (p ++ s) → Ev (fun k => ops_count.l0 k c (capd c p) (p ++ s) ((p ++ s).length : Int) (p.length : Int)) (capd c (p ++ s)) := by
 induction s with
 | nil =>
  intro p _
  refine Ev.step (fun k => rfl) ?_
  simp only [ops_count.l0, lt_end, if_false]
  rw [List.append_nil]
  exact Ev.now _
 | cons o s ih =>
  intro p hb
  have := ih (p ++ [o]) hb.snoc
  rw [List.append_assoc, List.singleton_append] at this
  have hcb := capd_bd c p
  unfold far at hcb
  rw [capd_snoc] at this
  refine Ev.step (fun k => rfl) ?_
  simp only [ops_count.l0, lt_mid, nn_nat, if_true, rdOp_mid, wrap_len p o (by have := hb.len; omega)]
  by_cases h1 : o.f0 = 1
  ·simp only [if_pos h1]
   have e : mn (wrap64 (capd c p + mx 0 (mn o.f1 1099511627776))) 1099511627776 = min (capd c p + (cnt c o : Int)) far := by
    rw [mn_min, mx_max, mn_min, show cnt c o = o.f1.toNat from by simp [cnt, h1]]
    unfold far wrap64; omega
   rw [e]; exact this
  ·simp only [if_neg h1]
   by_cases h2 : o.f0 = 2
   ·simp only [if_pos h2]
    have e : mn (wrap64 (capd c p + 1)) 1099511627776 = min (capd c p + (cnt c o : Int)) far := by
     rw [mn_min, show cnt c o = 1 from by simp [cnt, h2]]
     unfold far wrap64; omega
    rw [e]; exact this
   ·simp only [if_neg h2]
    by_cases h3 : o.f0 = c
    ·simp only [if_pos h3]
     have e : mn (wrap64 (capd c p + 1)) 1099511627776 = min (capd c p + (cnt c o : Int)) far := by
      rw [mn_min, show cnt c o = 1 from by simp [cnt, h3, hc]]
      unfold far wrap64; omega
     rw [e]; exact this
    ·simp only [if_neg h3]
     have e : mn (capd c p) 1099511627776 = min (capd c p + (cnt c o : Int)) far := by
      rw [mn_min, show cnt c o = 0 from by simp [cnt, h1, h2, h3]]
      unfold far; omega
     rw [e]; exact this
theorem olds_ev {l : List Op} (h : Sm l) : Ev (fun k => ops_Olds.f k l) (capd 3 l) := by
 have := count_loop 3 (by decide) l [] h
 rw [capd_nil] at this
 simp only [List.nil_append, List.length_nil, Int.natCast_zero] at this
 exact Ev.bind' this (Ev.now _)
theorem news_ev {l : List Op} (h : Sm l) : Ev (fun k => ops_News.f k l) (capd 4 l) := by
 have := count_loop 4 (by decide) l [] h
 rw [capd_nil] at this
 simp only [List.nil_append, List.length_nil, Int.natCast_zero] at this
 exact Ev.bind' this (Ev.now _)
theorem old_kind (x : Int) : ops_Old.f x = some (decide (x = 1 ∨ x = 2 ∨ x = 3)) := by
 unfold ops_Old.f
 by_cases h1 : x = 1
 ·simp [h1]
 ·by_cases h2 : x = 2
  ·simp [h2]
  ·by_cases h3 : x = 3 <;> simp [h1, h2, h3]
theorem new_kind (x : Int) : ops_New.f x = some (decide (x = 1 ∨ x = 2 ∨ x = 4)) := by
 unfold ops_New.f
 by_cases h1 : x = 1
 ·simp [h1]
 ·by_cases h2 : x = 2
  ·simp [h2]
  ·by_cases h3 : x = 4 <;> simp [h1, h2, h3]
theorem closedOld_loop (s : List Op) : ∀ (p : List Op) (e : Bool), Sm (p ++ s) → Ev (fun k => ops_closed_ops_Old.l0 k e (p ++ s) ((p ++ s).length : Int) (p.length : Int)) (closedGo 3 e s) := by
 induction s with
 | nil =>
  intro p e _
  refine Ev.step (fun k => rfl) ?_
  simp only [ops_closed_ops_Old.l0, lt_end, if_false, closedGo]
  exact Ev.now _
 | cons o s ih =>
  intro p e hb
  have := fun e => ih (p ++ [o]) e hb.snoc
  rw [List.append_assoc, List.singleton_append] at this
  refine Ev.step (fun k => rfl) ?_
  simp only [ops_closed_ops_Old.l0, lt_mid, nn_nat, if_true, rdOp_mid, wrap_len p o (by have := hb.len; omega), old_kind, Option.bind_some, decide_eq_true_eq, closed_val hb.mid]
  by_cases h : o.f0 = 1 ∨ o.f0 = 2 ∨ o.f0 = 3
  ·simp only [if_pos h, closedGo]
   cases e
   ·simp only [Bool.false_eq_true, if_false]
    by_cases h1 : o.f0 = 1
    ·simp only [if_pos h1]
     simpa [h1] using this false
    ·simp only [if_neg h1, Bool.not_not]
     simpa [h1] using this (openT o.f2)
   ·simp only [if_true]
    exact Ev.now _
  ·simp only [if_neg h, closedGo]
   exact this e
theorem closedNew_loop (s : List Op) : ∀ (p : List Op) (e : Bool), Sm (p ++ s) → Ev (fun k => ops_closed_ops_New.l0 k e (p ++ s) ((p ++ s).length : Int) (p.length : Int)) (closedGo 4 e s) := by
 induction s with
 | nil =>
  intro p e _
  refine Ev.step (fun k => rfl) ?_
  simp only [ops_closed_ops_New.l0, lt_end, if_false, closedGo]
  exact Ev.now _
 | cons o s ih =>
  intro p e hb
  have := fun e => ih (p ++ [o]) e hb.snoc
  rw [List.append_assoc, List.singleton_append] at this
  refine Ev.step (fun k => rfl) ?_
  simp only [ops_closed_ops_New.l0, lt_mid, nn_nat, if_true, rdOp_mid, wrap_len p o (by have := hb.len; omega), new_kind, Option.bind_some, decide_eq_true_eq, closed_val hb.mid]
  by_cases h : o.f0 = 1 ∨ o.f0 = 2 ∨ o.f0 = 4
  ·simp only [if_pos h, closedGo]
   cases e
   ·simp only [Bool.false_eq_true, if_false]
    by_cases h1 : o.f0 = 1
    ·simp only [if_pos h1]
     simpa [h1] using this false
    ·simp only [if_neg h1, Bool.not_not]
     simpa [h1] using this (openT o.f2)
   ·simp only [if_true]
    exact Ev.now _
  ·simp only [if_neg h, closedGo]
   exact this e
theorem right_ev {l : List Op} (h : Sm l) : Ev (fun k => ops_Right.f k l) (rightL l) := by
 refine Ev.bind' (contains_ev h) ?_
 unfold rightL
 cases ha : l.all okOne
 ·simp only [Bool.not_false, if_true, Bool.false_and]; exact Ev.now _
 simp only [Bool.not_true, Bool.false_eq_true, if_false, Bool.true_and]
 refine Ev.bind' (olds_ev h) ?_
 by_cases h1 : capd 3 l ≤ 2147483648
 ·simp only [h1, if_true, decide_true, Bool.true_and]
  refine Ev.bind' (news_ev h) ?_
  by_cases h2 : capd 4 l ≤ 2147483648
  ·simp only [h2, if_true, decide_true, Bool.true_and]
   refine Ev.bind' (closedOld_loop l [] false h) ?_
   cases hc : closedGo 3 false l
   ·simp only [Bool.false_eq_true, if_false, Bool.false_and]; exact Ev.now _
   ·simp only [if_true, Bool.true_and]
    exact Ev.bind' (closedNew_loop l [] false h) (Ev.now _)
  ·simp only [h2, if_false, decide_false, Bool.false_and]; exact Ev.now _
 ·simp only [h1, if_false, decide_false, Bool.false_and]; exact Ev.now _
end Go.Proofs.Ytacpejblnjgcoaa.P
namespace Go.Proofs.Ytacpejblnjgcoaa.P
open Go.RowKit Go.Proofs.YtacpejblnjgcoaaW.PrintWords Go.Proofs.YtacpejblnjgcoaaW.PrintLast Go.Proofs.YtacpejblnjgcoaaW.PrintMore
inductive U where
 | skip
 | keep (t : ByteArray)
 | del (t : ByteArray)
 | ins (t : ByteArray)
def exO (o : Op) : List U := if o.f0 = 1 then List.replicate o.f1.toNat .skip else if o.f0 = 2 then [.keep o.f2] else if o.f0 = 3 then [.del o.f2] else [.ins o.f2]
def ex (l : List Op) : List U := l.flatMap exO
def opU : U → Op
 | .skip => ⟨1, 1, ByteArray.empty⟩
 | .keep t => ⟨2, 0, t⟩
 | .del t => ⟨3, 0, t⟩
 | .ins t => ⟨4, 0, t⟩
def put : U → List Op → List Op
 | .skip, o :: r => if o.f0 = 1 then ⟨1, o.f1 + 1, o.f2⟩ :: r else ⟨1, 1, ByteArray.empty⟩ :: o :: r
 | u, r => opU u :: r
def pack : List U → List Op
 | [] => []
 | x :: u => put x (pack u)
def nf (I : List U) : List U → List U
 | [] => I
 | .ins t :: u => nf (I ++ [.ins t]) u
 | .del t :: u => .del t :: nf I u
 | .keep t :: u => I ++ .keep t :: nf [] u
 | .skip :: u => I ++ .skip :: nf [] u
theorem ex_nil : ex [] = [] := rfl
theorem ex_cons (o : Op) (l : List Op) : ex (o :: l) = exO o ++ ex l := rfl
theorem ex_app (p q : List Op) : ex (p ++ q) = ex p ++ ex q := by simp [ex]
def isSkip : U → Bool
 | .skip => true
 | _ => false
theorem put_ne {x : U} (h : isSkip x = false) (r : List Op) : put x r = opU x :: r := by
 cases x <;> first | (simp [isSkip] at h; done) | rfl
theorem pack_app_ne : ∀ (p q : List U), (∀ x ∈ p, isSkip x = false) → pack (p ++ q) = p.map opU ++ pack q
 | [], q, _ => rfl
 | x :: p, q, h => by
  simp only [List.cons_append, pack, List.map_cons]
  rw [put_ne (h x (List.mem_cons_self ..)), pack_app_ne p q fun y hy => h y (List.mem_cons_of_mem _ hy)]
def NoSk (l : List Op) : Prop := ∀ o r, l = o :: r → o.f0 ≠ 1
def NoSkU (u : List U) : Prop := ∀ x r, u = x :: r → isSkip x = false
theorem opU_kind {x : U} (h : isSkip x = false) : (opU x).f0 ≠ 1 := by
 cases x <;> first | (simp [isSkip] at h; done) | simp [opU]
theorem NoSkU.pack {u : List U} (h : NoSkU u) : NoSk (pack u) := by
 intro o r e
 cases u with
 | nil => simp [P.pack] at e
 | cons x u =>
  have hx := h x u rfl
  rw [P.pack, put_ne hx] at e
  obtain ⟨rfl, _⟩ := List.cons.inj e
  exact opU_kind hx
theorem pack_skips : ∀ (n : Nat) (u : List U), NoSkU u → pack (List.replicate (n + 1) .skip ++ u) = ⟨1, (n + 1 : Nat), ByteArray.empty⟩ :: pack u
 | 0, u, h => by
  have := h.pack
  show put .skip (pack u) = _
  cases hp : pack u with
  | nil => rfl
  | cons o r =>
   have hk := this o r hp
   simp [put, hk]
 | n + 1, u, h => by
  rw [List.replicate_succ, List.cons_append, pack, pack_skips n u h]
  simp [put]
def delsU (u : List U) : List U := u.filter fun x => match x with | .del _ => true | _ => false
def inssU (u : List U) : List U := u.filter fun x => match x with | .ins _ => true | _ => false
def isCh : U → Bool
 | .del _ => true
 | .ins _ => true
 | _ => false
theorem nf_run : ∀ (d I u : List U), (∀ x ∈ d, isCh x = true) → nf I (d ++ u) = delsU d ++ nf (I ++ inssU d) u
 | [], I, u, _ => by simp [delsU, inssU]
 | x :: d, I, u, h => by
  have hx := h x (List.mem_cons_self ..)
  have i := fun I => nf_run d I u fun y hy => h y (List.mem_cons_of_mem _ hy)
  cases x with
  | skip => simp [isCh] at hx
  | keep t => simp [isCh] at hx
  | del t => simp only [List.cons_append, nf]; rw [i]; rfl
  | ins t =>
   simp only [List.cons_append, nf]
   rw [i, List.append_assoc]; rfl
theorem nf_noSk : ∀ (u I : List U), (∀ x ∈ I, isSkip x = false) → (I = [] → NoSkU u) → NoSkU (nf I u)
 | [], I, h, _ => by
  intro x r e
  rw [nf] at e
  exact h x (by rw [e]; exact List.mem_cons_self ..)
 | .ins t :: u, I, h, _ => by
  rw [nf]
  refine nf_noSk u (I ++ [.ins t]) (fun x hx => ?_) (fun e => by simp at e)
  rcases List.mem_append.mp hx with hx | hx
  ·exact h x hx
  ·rw [List.mem_singleton.mp hx]; rfl
 | .del t :: u, I, h, _ => by
  intro x r e
  rw [nf] at e
  obtain ⟨rfl, _⟩ := List.cons.inj e
  rfl
 | .keep t :: u, I, h, _ => by
  intro x r e
  rw [nf] at e
  cases I with
  | nil => obtain ⟨rfl, _⟩ := List.cons.inj e; rfl
  | cons y I => obtain ⟨rfl, _⟩ := List.cons.inj e; exact h _ (List.mem_cons_self ..)
 | .skip :: u, I, h, h0 => by
  intro x r e
  rw [nf] at e
  cases I with
  | nil => exact absurd (h0 rfl .skip u rfl) (by simp [isSkip])
  | cons y I => obtain ⟨rfl, _⟩ := List.cons.inj e; exact h _ (List.mem_cons_self ..)
theorem exO_opU {x : U} : exO (opU x) = [x] := by cases x <;> simp [exO, opU]
theorem pack_pos : ∀ (u : List U), ∀ o ∈ pack u, o.f0 = 1 → 1 ≤ o.f1 ∧ o.f2 = ByteArray.empty
 | [], o, ho => by simp [pack] at ho
 | x :: u, o, ho => by
  have ih := pack_pos u
  rw [pack] at ho
  cases x with
  | skip =>
   cases hp : pack u with
   | nil =>
    rw [hp] at ho
    simp [put, opU] at ho
    subst ho; simp
   | cons y r =>
    rw [hp] at ho ih
    by_cases hy : y.f0 = 1
    ·simp only [put, if_pos hy] at ho
     rcases List.mem_cons.mp ho with rfl | ho
     ·have := ih y (List.mem_cons_self ..) hy
      intro _
      exact ⟨by show 1 ≤ y.f1 + 1; omega, this.2⟩
     ·exact ih o (List.mem_cons_of_mem _ ho)
    ·simp only [put, if_neg hy] at ho
     rcases List.mem_cons.mp ho with rfl | ho
     ·intro _; simp
     ·exact ih o ho
  | keep t =>
   rw [put_ne rfl] at ho
   rcases List.mem_cons.mp ho with rfl | ho
   ·intro h; simp [opU] at h
   ·exact ih o ho
  | del t =>
   rw [put_ne rfl] at ho
   rcases List.mem_cons.mp ho with rfl | ho
   ·intro h; simp [opU] at h
   ·exact ih o ho
  | ins t =>
   rw [put_ne rfl] at ho
   rcases List.mem_cons.mp ho with rfl | ho
   ·intro h; simp [opU] at h
   ·exact ih o ho
theorem ex_pack : ∀ (u : List U), ex (pack u) = u
 | [] => rfl
 | x :: u => by
  have ih := ex_pack u
  rw [pack]
  by_cases hx : isSkip x = false
  ·rw [put_ne hx, ex_cons, exO_opU, ih]; rfl
  ·cases x with
   | skip =>
    cases hp : pack u with
    | nil =>
     rw [hp] at ih
     rw [show put .skip [] = [opU .skip] from rfl, ex_cons, exO_opU, ih]; rfl
    | cons y r =>
     rw [hp] at ih
     by_cases hy : y.f0 = 1
     ·have := (pack_pos u y (by rw [hp]; exact List.mem_cons_self ..) hy).1
      simp only [put, if_pos hy]
      rw [ex_cons] at ih ⊢
      have e1 : exO y = List.replicate y.f1.toNat .skip := by simp [exO, hy]
      have e2 : exO ⟨1, y.f1 + 1, y.f2⟩ = .skip :: List.replicate y.f1.toNat .skip := by
       simp only [exO, if_true]
       rw [show (y.f1 + 1).toNat = y.f1.toNat + 1 from by omega, List.replicate_succ]
      rw [e2, ← e1, List.cons_append, ih]
     ·simp only [put, if_neg hy]
      rw [ex_cons, show (⟨1, 1, ByteArray.empty⟩ : Op) = opU .skip from rfl, exO_opU, ih]; rfl
   | keep t => exact absurd rfl hx
   | del t => exact absurd rfl hx
   | ins t => exact absurd rfl hx
def olds : List U → List (Option ByteArray)
 | [] => []
 | .skip :: u => none :: olds u
 | .keep t :: u => some t :: olds u
 | .del t :: u => some t :: olds u
 | .ins _ :: u => olds u
def news : List U → List (Option ByteArray)
 | [] => []
 | .skip :: u => none :: news u
 | .keep t :: u => some t :: news u
 | .del _ :: u => news u
 | .ins t :: u => some t :: news u
theorem olds_app : ∀ (p q : List U), olds (p ++ q) = olds p ++ olds q
 | [], _ => rfl
 | x :: p, q => by cases x <;> simp [olds, olds_app p q]
theorem news_app : ∀ (p q : List U), news (p ++ q) = news p ++ news q
 | [], _ => rfl
 | x :: p, q => by cases x <;> simp [news, news_app p q]
def AllIns (I : List U) : Prop := ∀ x ∈ I, ∃ t, x = .ins t
theorem AllIns.nil : AllIns [] := fun x h => by simp at h
theorem AllIns.snoc {I : List U} (h : AllIns I) (t : ByteArray) : AllIns (I ++ [.ins t]) := by
 intro x hx
 rcases List.mem_append.mp hx with hx | hx
 ·exact h x hx
 ·exact ⟨t, List.mem_singleton.mp hx⟩
theorem AllIns.olds : ∀ {I : List U}, AllIns I → olds I = []
 | [], _ => rfl
 | x :: I, h => by
  obtain ⟨t, rfl⟩ := h x (List.mem_cons_self ..)
  rw [P.olds]
  exact AllIns.olds (I := I) fun y hy => h y (List.mem_cons_of_mem _ hy)
end Go.Proofs.Ytacpejblnjgcoaa.P
namespace Go.Proofs.Ytacpejblnjgcoaa.P
open Go.RowKit Go.Proofs.YtacpejblnjgcoaaW.PrintWords Go.Proofs.YtacpejblnjgcoaaW.PrintLast Go.Proofs.YtacpejblnjgcoaaW.PrintMore
theorem some_loop (c : Int) (s : List Op) : ∀ (p out : List Op), Sm (p ++ s) → out.length + s.length < 4398046511104 → Ev (fun k => ops_Some.l0 k c out (p ++ s) ((p ++ s).length : Int) (p.length : Int)) (out ++ s.filter fun o => decide (o.f0 = c)) := by
 induction s with
 | nil =>
  intro p out _ _
  refine Ev.step (fun k => rfl) ?_
  simp only [ops_Some.l0, lt_end, if_false]
  simpa using Ev.now out
 | cons o s ih =>
  intro p out hb hl
  simp only [List.length_cons] at hl
  have i := fun out h => ih (p ++ [o]) out hb.snoc h
  rw [List.append_assoc, List.singleton_append] at i
  have hlo : out.length < 4398046511104 := by omega
  refine Ev.step (fun k => rfl) ?_
  simp only [ops_Some.l0, lt_mid, nn_nat, if_true, rdOp_mid, wrap_len p o (by have := hb.len; omega), if_pos hlo]
  by_cases h : o.f0 = c
  ·simp only [if_pos h]
   have := i (out ++ [o]) (by simp; omega)
   rw [List.filter_cons_of_pos (by simpa using h)]
   simpa using this
  ·simp only [if_neg h]
   rw [List.filter_cons_of_neg (by simpa using h)]
   exact i out (by omega)
theorem some_ev (c : Int) {l : List Op} (h : Sm l) : Ev (fun k => ops_Some.f k l c) (l.filter fun o => decide (o.f0 = c)) := by
 have := some_loop c l [] [] h (by simpa using h.1)
 simpa [ops_Some.f] using this
def chO (o : Op) : Bool := decide (o.f0 = 3 ∨ o.f0 = 4)
theorem change_kind (x : Int) : ops_Change.f x = some (decide (x = 3 ∨ x = 4)) := by
 unfold ops_Change.f
 by_cases h1 : x = 3
 ·simp [h1]
 ·by_cases h2 : x = 4 <;> simp [h1, h2]
theorem Sm.sub {p s : List Op} (h : Sm (p ++ s)) : Sm s := ⟨by have := h.1; simp at this; omega, fun o ho => h.2 o (by simp [ho])⟩
theorem Sm.left {p s : List Op} (h : Sm (p ++ s)) : Sm p := ⟨by have := h.1; simp at this; omega, fun o ho => h.2 o (by simp [ho])⟩
theorem norm_run (r : List Op) : ∀ (p s out : List Op) (from_ : Int) (v : List Op), Sm (p ++ (r ++ s)) → (∀ o ∈ r, chO o = true) → (∀ o t, s = o :: t → chO o = false) →
  Ev (fun k => ops_Norm.j2 k (p ++ (r ++ s)) out ((p ++ r).length : Int) from_) v →
  Ev (fun k => ops_Norm.l1 k (p ++ (r ++ s)) out (p.length : Int) from_) v := by
 induction r with
 | nil =>
  intro p s out from_ v hb _ hs h
  rw [List.append_nil, List.nil_append] at h
  rw [List.nil_append]
  refine Ev.step (fun k => rfl) ?_
  cases s with
  | nil =>
   simp only [ops_Norm.l1, lt_end, if_false]
   exact h
  | cons o t =>
   have ho := hs o t rfl
   have ho' : ¬ (o.f0 = 3 ∨ o.f0 = 4) := by simpa [chO] using ho
   simp only [ops_Norm.l1, lt_mid, nn_nat, if_true, rdOp_mid, change_kind, Option.bind_some, ho', decide_false, Bool.false_eq_true, if_false]
   exact h
 | cons o r ih =>
  intro p s out from_ v hb hr hs h
  have ho : chO o = true := hr o (List.mem_cons_self ..)
  have ho' : o.f0 = 3 ∨ o.f0 = 4 := by simpa [chO] using ho
  have i := ih (p ++ [o]) s out from_ v (by simpa using hb) (fun x hx => hr x (List.mem_cons_of_mem _ hx)) hs (by simpa using h)
  rw [List.append_assoc, List.singleton_append] at i
  rw [List.cons_append] at hb ⊢
  refine Ev.step (fun k => rfl) ?_
  simp only [ops_Norm.l1, lt_mid, nn_nat, if_true, rdOp_mid, change_kind, Option.bind_some, ho', decide_true, wrap_len p o (by have := hb.len; omega)]
  exact i
theorem norm_skips (r : List Op) : ∀ (p s out : List Op) (n : Int) (v : List Op), Sm (p ++ (r ++ s)) → out.length < 4398046511104 → (∀ o ∈ r, o.f0 = 1 ∧ 1 ≤ o.f1) → (∀ o t, s = o :: t → o.f0 ≠ 1) → 0 ≤ n → n + (sums 3 r : Int) < 4611686018427387904 →
  Ev (fun k => ops_Norm.l0 k (p ++ (r ++ s)) (out ++ [(⟨1, n + (sums 3 r : Int), ByteArray.empty⟩ : Op)]) ((p ++ r).length : Int)) v →
  Ev (fun k => ops_Norm.l2 k (p ++ (r ++ s)) out (p.length : Int) 1 n ByteArray.empty) v := by
 induction r with
 | nil =>
  intro p s out n v hb hlo _ hs h0 hn h
  rw [List.append_nil, List.nil_append, sums_nil, Int.natCast_zero, Int.add_zero] at h
  rw [List.nil_append]
  refine Ev.step (fun k => rfl) ?_
  cases s with
  | nil =>
   simp only [ops_Norm.l2, lt_end, if_false, if_true, if_pos hlo]
   exact h
  | cons o t =>
   have ho := hs o t rfl
   simp only [ops_Norm.l2, lt_mid, nn_nat, if_true, rdOp_mid, if_neg ho, if_pos hlo]
   exact h
 | cons o r ih =>
  intro p s out n v hb hlo hr hs h0 hn h
  obtain ⟨hk, h1⟩ := hr o (List.mem_cons_self ..)
  have hc : (cnt 3 o : Int) = o.f1 := by simp [cnt, hk]; omega
  rw [sums_cons] at hn h
  have hw : wrap64 (n + o.f1) = n + o.f1 := by unfold wrap64; omega
  have e : n + ((cnt 3 o + sums 3 r : Nat) : Int) = (n + o.f1) + (sums 3 r : Int) := by omega
  rw [e] at h
  have i := ih (p ++ [o]) s out (n + o.f1) v (by simpa using hb) hlo (fun x hx => hr x (List.mem_cons_of_mem _ hx)) hs (by omega) (by omega) (by simpa using h)
  rw [List.append_assoc, List.singleton_append] at i
  rw [List.cons_append] at hb ⊢
  refine Ev.step (fun k => rfl) ?_
  simp only [ops_Norm.l2, lt_mid, nn_nat, if_true, rdOp_mid, if_pos hk, hw, wrap_len p o (by have := hb.len; omega)]
  exact i
theorem okOne_skip {o : Op} (h : okOne o = true) (hk : o.f0 = 1) : 1 ≤ o.f1 ∧ o.f1 ≤ 2147483648 ∧ o.f2 = ByteArray.empty := by
 unfold okOne at h
 rw [if_pos hk] at h
 simp only [Bool.and_eq_true, decide_eq_true_eq] at h
 refine ⟨h.1, h.2.1, WideShapes.bytes_inj ?_⟩
 rw [h.2.2]; rfl
theorem okOne_ne {o : Op} (h : okOne o = true) (hk : o.f0 ≠ 1) : (o.f0 = 2 ∨ o.f0 = 3 ∨ o.f0 = 4) ∧ o.f1 = 0 ∧ rightT o.f2 = true := by
 unfold okOne at h
 rw [if_neg hk] at h
 simpa only [Bool.and_eq_true, decide_eq_true_eq] using h
theorem cut (f : Op → Bool) : ∀ (l : List Op), ∃ r s, l = r ++ s ∧ (∀ o ∈ r, f o = true) ∧ (∀ o t, s = o :: t → f o = false)
 | [] => ⟨[], [], rfl, fun o h => by simp at h, fun o t h => by simp at h⟩
 | o :: l => by
  by_cases ho : f o = true
  ·obtain ⟨r, s, rfl, h1, h2⟩ := cut f l
   refine ⟨o :: r, s, rfl, fun x hx => ?_, h2⟩
   rcases List.mem_cons.mp hx with rfl | hx
   ·exact ho
   ·exact h1 x hx
  ·exact ⟨[], o :: l, rfl, fun x h => by simp at h, fun x t h => by obtain ⟨rfl, _⟩ := List.cons.inj h; simpa using ho⟩
theorem ex_run : ∀ (r : List Op), (∀ o ∈ r, chO o = true ∧ okOne o = true) → (∀ x ∈ ex r, isCh x = true) ∧ (delsU (ex r)).map opU = r.filter (fun o => decide (o.f0 = 3)) ∧ (inssU (ex r)).map opU = r.filter (fun o => decide (o.f0 = 4)) ∧ AllIns (inssU (ex r))
 | [], _ => ⟨fun x h => by simp [ex] at h, rfl, rfl, .nil⟩
 | o :: r, h => by
  obtain ⟨i1, i2, i3, i4⟩ := ex_run r fun x hx => h x (List.mem_cons_of_mem _ hx)
  obtain ⟨hc, ho⟩ := h o (List.mem_cons_self ..)
  have hc' : o.f0 = 3 ∨ o.f0 = 4 := by simpa [chO] using hc
  obtain ⟨_, h1, _⟩ := okOne_ne ho (by omega)
  rw [ex_cons]
  rcases hc' with hk | hk
  ·have e : exO o = [.del o.f2] := by simp [exO, hk]
   have eo : opU (.del o.f2) = o := Op.ext' hk.symm h1.symm rfl
   rw [e]
   refine ⟨fun x hx => ?_, ?_, ?_, ?_⟩
   ·rcases List.mem_cons.mp hx with rfl | hx
    ·rfl
    ·exact i1 x hx
   ·rw [List.filter_cons_of_pos (by simpa using hk), ← i2, ← eo]; rfl
   ·rw [List.filter_cons_of_neg (by simp [hk]), ← i3]; rfl
   ·exact i4
  ·have e : exO o = [.ins o.f2] := by simp [exO, hk]
   have eo : opU (.ins o.f2) = o := Op.ext' hk.symm h1.symm rfl
   rw [e]
   refine ⟨fun x hx => ?_, ?_, ?_, ?_⟩
   ·rcases List.mem_cons.mp hx with rfl | hx
    ·rfl
    ·exact i1 x hx
   ·rw [List.filter_cons_of_neg (by simp [hk]), ← i2]; rfl
   ·rw [List.filter_cons_of_pos (by simpa using hk), ← i3, ← eo]; rfl
   ·intro x hx
    rcases List.mem_cons.mp hx with rfl | hx
    ·exact ⟨_, rfl⟩
    ·exact i4 x hx
theorem ex_skips : ∀ (r : List Op), (∀ o ∈ r, o.f0 = 1 ∧ 1 ≤ o.f1) → ex r = List.replicate (sums 3 r) .skip
 | [], _ => rfl
 | o :: r, h => by
  obtain ⟨hk, _⟩ := h o (List.mem_cons_self ..)
  rw [ex_cons, ex_skips r fun x hx => h x (List.mem_cons_of_mem _ hx), sums_cons, ← List.replicate_append_replicate]
  simp [exO, cnt, hk]
theorem nf_skips : ∀ (n : Nat) (u : List U), nf [] (List.replicate n .skip ++ u) = List.replicate n .skip ++ nf [] u
 | 0, u => rfl
 | n + 1, u => by
  rw [List.replicate_succ, List.cons_append, nf, nf_skips n u]; rfl
theorem ex_noSk : ∀ {s : List Op}, (∀ o t, s = o :: t → o.f0 ≠ 1) → NoSkU (ex s)
 | [], _ => fun x r e => by simp [ex] at e
 | o :: s, h => by
  have := h o s rfl
  intro x r e
  rw [ex_cons] at e
  unfold exO at e
  rw [if_neg this] at e
  split at e
  ·obtain ⟨rfl, _⟩ := List.cons.inj e; rfl
  ·split at e
   ·obtain ⟨rfl, _⟩ := List.cons.inj e; rfl
   ·obtain ⟨rfl, _⟩ := List.cons.inj e; rfl
theorem dels_noSk (u : List U) : ∀ x ∈ delsU u, isSkip x = false := by
 intro x hx
 have := (List.mem_filter.mp hx).2
 cases x <;> simp_all [isSkip]
theorem AllIns.noSk {u : List U} (h : AllIns u) : ∀ x ∈ u, isSkip x = false := by
 intro x hx
 obtain ⟨t, rfl⟩ := h x hx
 rfl
theorem filt_len : ∀ (r : List Op), (r.filter fun o => decide (o.f0 = 3)).length + (r.filter fun o => decide (o.f0 = 4)).length ≤ r.length
 | [] => by simp
 | o :: r => by
  have ih := filt_len r
  by_cases h3 : o.f0 = 3
  ·rw [List.filter_cons_of_pos (by simpa using h3), List.filter_cons_of_neg (by simp [h3])]
   simp only [List.length_cons]; omega
  ·by_cases h4 : o.f0 = 4
   ·rw [List.filter_cons_of_neg (by simpa using h3), List.filter_cons_of_pos (by simpa using h4)]
    simp only [List.length_cons]; omega
   ·rw [List.filter_cons_of_neg (by simpa using h3), List.filter_cons_of_neg (by simpa using h4)]
    simp only [List.length_cons]; omega
theorem norm_loop : ∀ (m : Nat) (s p out : List Op), s.length ≤ m → Sm (p ++ s) → out.length + s.length < 4398046511104 → (∀ o ∈ s, okOne o = true) → (sums 3 s : Int) < 1099511627776 →
  Ev (fun k => ops_Norm.l0 k (p ++ s) out (p.length : Int)) (out ++ pack (nf [] (ex s))) := by
 intro m
 induction m with
 | zero =>
  intro s p out hm _ _ _ _
  obtain rfl : s = [] := List.length_eq_zero_iff.mp (by omega)
  refine Ev.step (fun k => rfl) ?_
  simp only [ops_Norm.l0, lt_end, if_false]
  simpa [ex, nf, pack] using Ev.now out
 | succ m ih =>
  intro s p out hm hb hl hok hsum
  by_cases hs : s = []
  ·subst hs
   refine Ev.step (fun k => rfl) ?_
   simp only [ops_Norm.l0, lt_end, if_false]
   simpa [ex, nf, pack] using Ev.now out
  have hpos : 0 < s.length := List.length_pos_iff.mpr hs
  have g : ((p.length : Int) < ((p ++ s).length : Int)) := by simp; omega
  refine Ev.step (fun k => rfl) ?_
  simp only [ops_Norm.l0, if_pos g]
  obtain ⟨r, t, rfl, hr, ht⟩ := cut chO s
  obtain ⟨x1, x2, x3, x4⟩ := ex_run r fun o ho => ⟨hr o ho, hok o (by simp [ho])⟩
  simp only [List.length_append] at hm hl hpos
  have hlr := filt_len r
  refine norm_run r p t out _ _ hb hr ht ?_
  have hcut : ((p ++ (r ++ t)).take ((p ++ r).length : Int).toNat).drop (p.length : Int).toNat = r := by
   rw [Int.toNat_natCast, Int.toNat_natCast, ← List.append_assoc, List.take_left' rfl, List.drop_left' rfl]
  have hsr : Sm r := hb.sub.left
  have c1 : (0 : Int) ≤ (p.length : Int) := by omega
  have c2 : (p.length : Int) ≤ ((p ++ r).length : Int) := by simp only [List.length_append]; omega
  have c3 : ((p ++ r).length : Int) ≤ ((p ++ (r ++ t)).length : Int) := by simp; omega
  have c4 : out.length + (r.filter fun o => decide (o.f0 = 3)).length < 4398046511104 := by omega
  have c5 : (out ++ r.filter fun o => decide (o.f0 = 3)).length + (r.filter fun o => decide (o.f0 = 4)).length < 4398046511104 := by simp only [List.length_append]; omega
  refine Ev.step (fun k => rfl) ?_
  simp only [ops_Norm.j2, if_pos c1, if_pos c2, if_pos c3, hcut]
  refine Ev.bind' (some_ev 3 hsr) ?_
  simp only [if_pos c4, Option.bind_some]
  refine Ev.bind' (some_ev 4 hsr) ?_
  simp only [if_pos c5]
  have hout : ∀ u, out ++ pack (nf [] (ex (r ++ t))) = u ↔ ((out ++ r.filter fun o => decide (o.f0 = 3)) ++ pack (nf (inssU (ex r)) (ex t))) = u := by
   intro u
   rw [ex_app, nf_run _ _ _ x1, List.nil_append, pack_app_ne _ _ (dels_noSk _), x2, List.append_assoc]
  rw [(hout _).mpr rfl]
  cases t with
  | nil =>
   have c6 : ((p ++ r).length : Int) = ((p ++ (r ++ [])).length : Int) := by simp
   simp only [if_pos c6]
   have e : pack (nf (inssU (ex r)) (ex [])) = r.filter fun o => decide (o.f0 = 4) := by
    rw [ex_nil, nf, ← x3]
    have := pack_app_ne (inssU (ex r)) [] x4.noSk
    rw [List.append_nil, pack, List.append_nil] at this
    exact this
   rw [e]
   exact Ev.now _
  | cons o t =>
   have c6 : ¬ ((p ++ r).length : Int) = ((p ++ (r ++ o :: t)).length : Int) := by simp only [List.length_append, List.length_cons]; omega
   have c7 : (0 : Int) ≤ ((p ++ r).length : Int) := by omega
   have c8 : ((p ++ r).length : Int) < ((p ++ (r ++ o :: t)).length : Int) := by simp; omega
   have hrd : rd_Op (p ++ (r ++ o :: t)) ((p ++ r).length : Int) = o := by
    rw [← List.append_assoc]; exact rdOp_mid (p ++ r) t o
   have hw : wrap64 (((p ++ r).length : Int) + 1) = (((p ++ r) ++ [o]).length : Int) := wrap_len (p ++ r) o (by have := hb.1; simp at this ⊢; omega)
   simp only [if_neg c6, if_pos c7, if_pos c8, hrd, hw]
   have hoo : okOne o = true := hok o (by simp)
   have hco : chO o = false := ht o t rfl
   have hco' : ¬ (o.f0 = 3 ∨ o.f0 = 4) := by simpa [chO] using hco
   have hnI : ∀ x r', nf (inssU (ex r)) (x :: r') = inssU (ex r) ++ nf [] (x :: r') ∨ isCh x = true := by
    intro x r'
    cases x with
    | skip => exact .inl rfl
    | keep t => exact .inl rfl
    | del t => exact .inr rfl
    | ins t => exact .inr rfl
   simp only [List.length_cons] at hm hl
   by_cases hk : o.f0 = 1
   ·obtain ⟨h1, h2, h3⟩ := okOne_skip hoo hk
    obtain ⟨sk, t', rfl, hsk, ht'⟩ := cut (fun o => decide (o.f0 = 1)) t
    have hsk' : ∀ x ∈ sk, x.f0 = 1 ∧ 1 ≤ x.f1 := fun x hx => by
     have e : x.f0 = 1 := by simpa using hsk x hx
     exact ⟨e, (okOne_skip (hok x (by simp [hx])) e).1⟩
    have ht'' : ∀ x y, t' = x :: y → x.f0 ≠ 1 := fun x y e => by simpa using ht' x y e
    rw [sums_app, sums_cons, sums_app, show cnt 3 o = o.f1.toNat from by simp [cnt, hk]] at hsum
    simp only [List.length_append] at hm hl
    have elist : p ++ (r ++ o :: (sk ++ t')) = ((p ++ r) ++ [o]) ++ (sk ++ t') := by simp
    rw [hk, h3, elist]
    rw [elist] at hb
    refine norm_skips sk ((p ++ r) ++ [o]) t' _ o.f1 _ hb (by simp only [List.length_append]; omega) hsk' ht'' (by omega) (by omega) ?_
    have i := ih t' (((p ++ r) ++ [o]) ++ sk) ((out ++ r.filter fun o => decide (o.f0 = 3)) ++ (r.filter fun o => decide (o.f0 = 4)) ++ [⟨1, o.f1 + (sums 3 sk : Int), ByteArray.empty⟩]) (by omega) (by simpa using hb) (by simp only [List.length_append, List.length_cons, List.length_nil]; omega) (fun x hx => hok x (by simp [hx])) (by omega)
    have e2 : pack (nf (inssU (ex r)) (ex (o :: (sk ++ t')))) = (r.filter fun o => decide (o.f0 = 4)) ++ ⟨1, o.f1 + (sums 3 sk : Int), ByteArray.empty⟩ :: pack (nf [] (ex t')) := by
     have e3 : ex (o :: (sk ++ t')) = List.replicate ((o.f1.toNat + sums 3 sk - 1) + 1) .skip ++ ex t' := by
      rw [ex_cons, ex_app, ex_skips sk hsk', ← List.append_assoc, show exO o = List.replicate o.f1.toNat .skip from by simp [exO, hk], List.replicate_append_replicate]
      congr 2; omega
     rw [e3]
     have e4 : nf (inssU (ex r)) (List.replicate ((o.f1.toNat + sums 3 sk - 1) + 1) .skip ++ ex t') = inssU (ex r) ++ nf [] (List.replicate ((o.f1.toNat + sums 3 sk - 1) + 1) .skip ++ ex t') := by
      rw [List.replicate_succ, List.cons_append]; rfl
     rw [e4, nf_skips, pack_app_ne _ _ x4.noSk, x3, pack_skips _ _ (nf_noSk _ _ (fun x hx => by simp at hx) (fun _ => ex_noSk ht''))]
     congr 2
     have : (((o.f1.toNat + sums 3 sk - 1) + 1 : Nat) : Int) = o.f1 + (sums 3 sk : Int) := by omega
     rw [this]
    rw [e2]
    simpa using i
   ·have hk2 : o.f0 = 2 := by
     have := (okOne_ne hoo hk).1
     omega
    have h1 := (okOne_ne hoo hk).2.1
    have elist : p ++ (r ++ o :: t) = ((p ++ r) ++ [o]) ++ t := by simp
    have hlo : ((out ++ r.filter fun o => decide (o.f0 = 3)) ++ (r.filter fun o => decide (o.f0 = 4))).length < 4398046511104 := by simp only [List.length_append]; omega
    rw [sums_app, sums_cons] at hsum
    rw [elist] at hb ⊢
    have i := ih t ((p ++ r) ++ [o]) ((out ++ r.filter fun o => decide (o.f0 = 3)) ++ (r.filter fun o => decide (o.f0 = 4)) ++ [o]) (by omega) hb (by simp only [List.length_append, List.length_cons, List.length_nil]; omega) (fun x hx => hok x (by simp [hx])) (by omega)
    refine Ev.step (fun k => rfl) ?_
    simp only [ops_Norm.l2, if_neg hk, if_pos hlo]
    have e2 : pack (nf (inssU (ex r)) (ex (o :: t))) = (r.filter fun o => decide (o.f0 = 4)) ++ o :: pack (nf [] (ex t)) := by
     have eo : opU (.keep o.f2) = o := Op.ext' hk2.symm h1.symm rfl
     rw [ex_cons, show exO o = [.keep o.f2] from by simp [exO, hk2], List.singleton_append, nf, pack_app_ne _ _ x4.noSk, x3, pack, put_ne rfl, eo]
    rw [e2]
    simpa using i
def normL (l : List Op) : List Op := pack (nf [] (ex l))
theorem rightL_ok {l : List Op} (h : rightL l = true) : (∀ o ∈ l, okOne o = true) ∧ sums 3 l ≤ 2147483648 ∧ sums 4 l ≤ 2147483648 ∧ closedGo 3 false l = true ∧ closedGo 4 false l = true := by
 unfold rightL at h
 simp only [Bool.and_eq_true, decide_eq_true_eq, List.all_eq_true] at h
 obtain ⟨h1, h2, h3, h4, h5⟩ := h
 refine ⟨h1, ?_, ?_, h4, h5⟩
 ·unfold capd far at h2; omega
 ·unfold capd far at h3; omega
theorem norm_ev {l : List Op} (h : Sm l) : Ev (fun k => ops_Norm.f k l) (if rightL l then normL l else []) := by
 refine Ev.bind' (right_ev h) ?_
 cases hr : rightL l
 ·simp only [Bool.false_eq_true, if_false]; exact Ev.now _
 ·simp only [if_true]
  obtain ⟨h1, h2, _⟩ := rightL_ok hr
  exact norm_loop l.length l [] [] (Nat.le_refl _) h (by simpa using h.1) h1 (by omega)
end Go.Proofs.Ytacpejblnjgcoaa.P
namespace Go.Proofs.Ytacpejblnjgcoaa.P
open Go.RowKit Go.Proofs.YtacpejblnjgcoaaW.PrintWords Go.Proofs.YtacpejblnjgcoaaW.PrintLast Go.Proofs.YtacpejblnjgcoaaW.PrintMore
theorem refold_val (o : Op) : patchworkref8_old.f o.f0 o.f1 o.f2 = some (cnt 3 o : Int) := by
 unfold patchworkref8_old.f cnt
 by_cases h1 : o.f0 = 1
 ·rw [if_pos h1, if_pos h1]
  by_cases h2 : o.f1 > 0
  ·rw [if_pos h2]; congr 1; omega
  ·rw [if_neg h2]; congr 1; omega
 ·rw [if_neg h1, if_neg h1]
  by_cases h2 : o.f0 = 2
  ·simp [h2]
  ·by_cases h3 : o.f0 = 3 <;> simp [h2, h3]
theorem reffresh_val (o : Op) : patchworkref8_fresh.f o.f0 o.f1 o.f2 = some (cnt 4 o : Int) := by
 unfold patchworkref8_fresh.f
 rw [refold_val]
 by_cases h3 : o.f0 = 3
 ·simp [h3, cnt]
 ·by_cases h4 : o.f0 = 4
  ·simp [h4, cnt]
  ·simp [h3, h4, cnt]
theorem plus_val {c : Int} {p : List Op} {n : Nat} : patchworkref8_plus.f (capd c p) (n : Int) = some (min (capd c p + (n : Int)) far) := by
 have := capd_bd c p
 unfold far at *
 unfold patchworkref8_plus.f
 by_cases h1 : capd c p ≥ 1099511627776
 ·rw [if_pos h1]; congr 1; omega
 ·rw [if_neg h1]
  by_cases h2 : (n : Int) ≥ 1099511627776
  ·rw [if_pos h2]; congr 1; omega
  ·rw [if_neg h2, show wrap64 (capd c p + (n : Int)) = capd c p + (n : Int) from by unfold wrap64; omega]
   by_cases h3 : capd c p + (n : Int) > 1099511627776
   ·rw [if_pos h3]; congr 1; omega
   ·rw [if_neg h3]; congr 1; omega
theorem refolds_loop (s : List Op) : ∀ (p : List Op), Sm (p ++ s) → Ev (fun k => patchworkref8_Olds.l0 k (p ++ s) (capd 3 p) (p.length : Int)) (capd 3 (p ++ s)) := by
 induction s with
 | nil =>
  intro p _
  refine Ev.step (fun k => rfl) ?_
  simp only [patchworkref8_Olds.l0, lt_end, if_false]
  rw [List.append_nil]
  exact Ev.now _
 | cons o s ih =>
  intro p hb
  have := ih (p ++ [o]) hb.snoc
  rw [List.append_assoc, List.singleton_append, capd_snoc] at this
  refine Ev.step (fun k => rfl) ?_
  simp only [patchworkref8_Olds.l0, lt_mid, nn_nat, if_true, rdOp_mid, wrap_len p o (by have := hb.len; omega), refold_val, Option.bind_some, plus_val]
  exact this
theorem refnews_loop (s : List Op) : ∀ (p : List Op), Sm (p ++ s) → Ev (fun k => patchworkref8_News.l0 k (p ++ s) (capd 4 p) (p.length : Int)) (capd 4 (p ++ s)) := by
 induction s with
 | nil =>
  intro p _
  refine Ev.step (fun k => rfl) ?_
  simp only [patchworkref8_News.l0, lt_end, if_false]
  rw [List.append_nil]
  exact Ev.now _
 | cons o s ih =>
  intro p hb
  have := ih (p ++ [o]) hb.snoc
  rw [List.append_assoc, List.singleton_append, capd_snoc] at this
  refine Ev.step (fun k => rfl) ?_
  simp only [patchworkref8_News.l0, lt_mid, nn_nat, if_true, rdOp_mid, wrap_len p o (by have := hb.len; omega), reffresh_val, Option.bind_some, plus_val]
  exact this
theorem refolds_ev {l : List Op} (h : Sm l) : Ev (fun k => patchworkref8_Olds.f k l) (capd 3 l) := by
 have := refolds_loop l [] h
 rw [capd_nil] at this
 exact this
theorem refnews_ev {l : List Op} (h : Sm l) : Ev (fun k => patchworkref8_News.f k l) (capd 4 l) := by
 have := refnews_loop l [] h
 rw [capd_nil] at this
 exact this
def rightRest (p s : List Op) (e f : Bool) : Bool := s.all okOne && (closedGo 3 e s && (closedGo 4 f s && (decide (capd 3 (p ++ s) ≤ 2147483648) && decide (capd 4 (p ++ s) ≤ 2147483648))))
theorem cnt_pos {c : Int} {o : Op} (ho : okOne o = true) : ((cnt c o : Int) > 0) ↔ (o.f0 = 1 ∨ o.f0 = 2 ∨ o.f0 = c) := by
 unfold okOne at ho
 unfold cnt
 by_cases h1 : o.f0 = 1
 ·rw [if_pos h1] at ho ⊢
  simp only [Bool.and_eq_true, decide_eq_true_eq] at ho
  simp [h1]; omega
 ·rw [if_neg h1]
  by_cases h2 : o.f0 = 2 ∨ o.f0 = c
  ·rw [if_pos h2]; simp [h1, h2]
  ·rw [if_neg h2]; simp [h1, h2]
theorem rightRest_bad {p s : List Op} {o : Op} {e f : Bool} (h : okOne o = false) : rightRest p (o :: s) e f = false := by simp [rightRest, h]
theorem rightRest_good {p s : List Op} {o : Op} {e f : Bool} (h : okOne o = true) (he : ¬ ((o.f0 = 1 ∨ o.f0 = 2 ∨ o.f0 = 3) ∧ e = true)) (hf : ¬ ((o.f0 = 1 ∨ o.f0 = 2 ∨ o.f0 = 4) ∧ f = true)) :
  rightRest p (o :: s) e f = rightRest (p ++ [o]) s (if o.f0 = 1 ∨ o.f0 = 2 ∨ o.f0 = 3 then decide (o.f0 ≠ 1) && openT o.f2 else e) (if o.f0 = 1 ∨ o.f0 = 2 ∨ o.f0 = 4 then decide (o.f0 ≠ 1) && openT o.f2 else f) := by
 unfold rightRest
 rw [List.append_assoc, List.singleton_append, List.all_cons, h, Bool.true_and, closedGo, closedGo]
 by_cases h3 : o.f0 = 1 ∨ o.f0 = 2 ∨ o.f0 = 3
 ·have e' : e = false := by cases e; rfl; exact absurd ⟨h3, rfl⟩ he
  by_cases h4 : o.f0 = 1 ∨ o.f0 = 2 ∨ o.f0 = 4
  ·have f' : f = false := by cases f; rfl; exact absurd ⟨h4, rfl⟩ hf
   simp only [if_pos h3, if_pos h4, e', f', Bool.false_eq_true, if_false]
  ·simp only [if_pos h3, if_neg h4, e', Bool.false_eq_true, if_false]
 ·by_cases h4 : o.f0 = 1 ∨ o.f0 = 2 ∨ o.f0 = 4
  ·have f' : f = false := by cases f; rfl; exact absurd ⟨h4, rfl⟩ hf
   simp only [if_neg h3, if_pos h4, f', Bool.false_eq_true, if_false]
  ·simp only [if_neg h3, if_neg h4]
theorem rightRest_old {p s : List Op} {o : Op} {f : Bool} (h : o.f0 = 1 ∨ o.f0 = 2 ∨ o.f0 = 3) : rightRest p (o :: s) true f = false := by simp [rightRest, closedGo, h]
theorem rightRest_new {p s : List Op} {o : Op} {e : Bool} (h : o.f0 = 1 ∨ o.f0 = 2 ∨ o.f0 = 4) : rightRest p (o :: s) e true = false := by simp [rightRest, closedGo, h]
theorem refright_one {p s : List Op} {o : Op} {e f : Bool} (hb : Sm (p ++ o :: s)) (he : (o.f0 = 1 ∨ o.f0 = 2 ∨ o.f0 = 3) → e = false) (hf : (o.f0 = 1 ∨ o.f0 = 2 ∨ o.f0 = 4) → f = false)
  (ih : ∀ e f, Ev (fun k => patchworkref8_Right.l0 k (p ++ o :: s) e f ((p ++ [o]).length : Int)) (rightRest (p ++ [o]) s e f)) :
  okOne o = true → Ev (fun k => patchworkref8_Right.j1 k (p ++ o :: s) e f (p.length : Int) false o.f0 o.f1 o.f2) (rightRest p (o :: s) e f) := by
 intro ho
 rw [rightRest_good ho (fun h => by simp [he h.1] at h) (fun h => by simp [hf h.1] at h)]
 have w := wrap_len p o (by have := hb.len; omega)
 have hm := hb.mid
 refine Ev.step (fun k => rfl) ?_
 unfold okOne at ho
 by_cases h1 : o.f0 = 1
 ·rw [if_pos h1] at ho
  simp only [Bool.and_eq_true, decide_eq_true_eq] at ho
  have c1 : ¬ o.f1 < 1 := by omega
  have c2 : ¬ o.f1 > 2147483648 := by omega
  have c3 : o.f2.toList = ([] : List UInt8) := by rw [Lib.toList_data]; exact ho.2.2
  have e' := he (.inl h1)
  have f' := hf (.inl h1)
  subst e' f'
  simp only [patchworkref8_Right.j1, Bool.false_eq_true, if_false, if_pos h1, if_neg c1, if_neg c2, if_pos c3, w]
  simpa [h1] using ih false false
 ·rw [if_neg h1] at ho
  simp only [Bool.and_eq_true, decide_eq_true_eq] at ho
  obtain ⟨hk, hz, ht⟩ := ho
  have step : Ev (fun k => patchworkref8_Right.j2 k (p ++ o :: s) e f (p.length : Int) o.f0 o.f1 o.f2) (rightRest (p ++ [o]) s (if o.f0 = 1 ∨ o.f0 = 2 ∨ o.f0 = 3 then decide (o.f0 ≠ 1) && openT o.f2 else e) (if o.f0 = 1 ∨ o.f0 = 2 ∨ o.f0 = 4 then decide (o.f0 ≠ 1) && openT o.f2 else f)) := by
   refine Ev.step (fun k => rfl) ?_
   simp only [patchworkref8_Right.j2, if_pos hz]
   refine Ev.bind' (rightline_ev hm) ?_
   rw [ht]
   refine Ev.step (fun k => rfl) ?_
   simp only [patchworkref8_Right.j3, Bool.not_true, Bool.false_eq_true, if_false, open_val hm, Option.bind_some, w]
   rcases hk with h | h | h
   ·have e' := he (.inr (.inl h))
    have f' := hf (.inr (.inl h))
    subst e' f'
    simp only [h]
    cases ho2 : openT o.f2
    ·simpa using ih false false
    ·simpa using ih true true
   ·have e' := he (.inr (.inr h))
    subst e'
    simp only [h]
    cases ho2 : openT o.f2
    ·simpa using ih false f
    ·cases f
     ·simpa using ih true false
     ·simpa using ih true true
   ·have f' := hf (.inr (.inr h))
    subst f'
    simp only [h]
    cases ho2 : openT o.f2
    ·simpa using ih e false
    ·cases e
     ·simpa using ih false true
     ·simpa using ih true true
  rcases hk with h | h | h
  ·have d1 : ¬ o.f0 = 1 := h1
   simp only [patchworkref8_Right.j1, Bool.false_eq_true, if_false, if_neg h1, if_pos h]
   exact step
  ·have d2 : ¬ o.f0 = 2 := by omega
   simp only [patchworkref8_Right.j1, Bool.false_eq_true, if_false, if_neg h1, if_neg d2, if_pos h]
   exact step
  ·have d2 : ¬ o.f0 = 2 := by omega
   have d3 : ¬ o.f0 = 3 := by omega
   simp only [patchworkref8_Right.j1, Bool.false_eq_true, if_false, if_neg h1, if_neg d2, if_neg d3, if_pos h]
   exact step
theorem refright_bad {l : List Op} {o : Op} {e f b : Bool} {i : Int} (hm : o.f2.size < 4611686018427387904) (ho : okOne o = false) : Ev (fun k => patchworkref8_Right.j1 k l e f i b o.f0 o.f1 o.f2) false := by
 refine Ev.step (fun k => rfl) ?_
 cases b
 ·have last : Ev (fun k => patchworkref8_Right.j2 k l e f i o.f0 o.f1 o.f2) false ∨ ¬ (o.f0 = 2 ∨ o.f0 = 3 ∨ o.f0 = 4) := by
   by_cases hk : o.f0 = 2 ∨ o.f0 = 3 ∨ o.f0 = 4
   ·refine .inl ?_
    have h1 : ¬ o.f0 = 1 := by omega
    unfold okOne at ho
    rw [if_neg h1] at ho
    refine Ev.step (fun k => rfl) ?_
    by_cases hz : o.f1 = 0
    ·simp only [patchworkref8_Right.j2, if_pos hz]
     have hr : rightT o.f2 = false := by simpa [hk, hz] using ho
     refine Ev.bind' (rightline_ev hm) ?_
     rw [hr]
     refine Ev.step (fun k => rfl) ?_
     simp only [patchworkref8_Right.j3, Bool.not_false, if_true]
     exact Ev.now _
    ·simp only [patchworkref8_Right.j2, if_neg hz]
     refine Ev.step (fun k => rfl) ?_
     simp only [patchworkref8_Right.j3, if_true]
     exact Ev.now _
   ·exact .inr hk
  by_cases h1 : o.f0 = 1
  ·unfold okOne at ho
   rw [if_pos h1] at ho
   simp only [patchworkref8_Right.j1, Bool.false_eq_true, if_false, if_pos h1]
   by_cases c1 : o.f1 < 1
   ·simp only [if_pos c1]; exact Ev.now _
   simp only [if_neg c1]
   by_cases c2 : o.f1 > 2147483648
   ·simp only [if_pos c2]; exact Ev.now _
   simp only [if_neg c2]
   by_cases c3 : o.f2.toList = ([] : List UInt8)
   ·exfalso
    rw [Lib.toList_data] at c3
    have d1 : 1 ≤ o.f1 := by omega
    have d2 : o.f1 ≤ 2147483648 := by omega
    rw [c3] at ho
    simp [d1, d2] at ho
   ·simp only [if_neg c3]; exact Ev.now _
  ·simp only [patchworkref8_Right.j1, Bool.false_eq_true, if_false, if_neg h1]
   by_cases h2 : o.f0 = 2
   ·simp only [if_pos h2]; exact last.resolve_right (fun h => h (.inl h2))
   simp only [if_neg h2]
   by_cases h3 : o.f0 = 3
   ·simp only [if_pos h3]; exact last.resolve_right (fun h => h (.inr (.inl h3)))
   simp only [if_neg h3]
   by_cases h4 : o.f0 = 4
   ·simp only [if_pos h4]; exact last.resolve_right (fun h => h (.inr (.inr h4)))
   simp only [if_neg h4]
   exact Ev.now _
 ·simp only [patchworkref8_Right.j1, if_true]
  exact Ev.now _
theorem refright_met {l : List Op} {o : Op} {e f : Bool} {i : Int} : Ev (fun k => patchworkref8_Right.j1 k l e f i true o.f0 o.f1 o.f2) false := by
 refine Ev.step (fun k => rfl) ?_
 simp only [patchworkref8_Right.j1, if_true]
 exact Ev.now _
theorem refright_loop (s : List Op) : ∀ (p : List Op) (e f : Bool), Sm (p ++ s) → Ev (fun k => patchworkref8_Right.l0 k (p ++ s) e f (p.length : Int)) (rightRest p s e f) := by
 induction s with
 | nil =>
  intro p e f hb
  refine Ev.step (fun k => rfl) ?_
  simp only [patchworkref8_Right.l0, lt_end, if_false]
  refine Ev.bind' (refolds_ev hb) ?_
  simp only [rightRest, List.all_nil, closedGo, Bool.true_and]
  by_cases h1 : capd 3 (p ++ []) ≤ 2147483648
  ·simp only [h1, if_true, decide_true, Bool.true_and]
   exact Ev.bind' (refnews_ev hb) (Ev.now _)
  ·simp only [h1, if_false, decide_false, Bool.false_and]
   exact Ev.now _
 | cons o s ih =>
  intro p e f hb
  have i := fun e f => ih (p ++ [o]) e f hb.snoc
  rw [List.append_assoc, List.singleton_append] at i
  refine Ev.step (fun k => rfl) ?_
  simp only [patchworkref8_Right.l0, lt_mid, nn_nat, if_true, rdOp_mid, refold_val, reffresh_val, Option.bind_some]
  cases ho : okOne o
  ·rw [rightRest_bad ho]
   have bad := fun b => refright_bad (l := p ++ o :: s) (e := e) (f := f) (b := b) (i := (p.length : Int)) hb.mid ho
   split
   ·split
    ·exact bad _
    ·split
     ·exact bad _
     ·exact bad _
   ·split
    ·exact bad _
    ·exact bad _
  ·have c3 := cnt_pos (c := 3) ho
   have c4 := cnt_pos (c := 4) ho
   by_cases h3 : o.f0 = 1 ∨ o.f0 = 2 ∨ o.f0 = 3
   ·simp only [if_pos (c3.mpr h3)]
    cases e
    ·simp only [Bool.false_eq_true, if_false]
     by_cases h4 : o.f0 = 1 ∨ o.f0 = 2 ∨ o.f0 = 4
     ·simp only [if_pos (c4.mpr h4)]
      cases f
      ·exact refright_one hb (fun _ => rfl) (fun _ => rfl) i ho
      ·rw [rightRest_new h4]; exact refright_met
     ·simp only [if_neg (fun x => h4 (c4.mp x))]
      exact refright_one hb (fun _ => rfl) (fun h => absurd h h4) i ho
    ·simp only [if_true]
     rw [rightRest_old h3]; exact refright_met
   ·simp only [if_neg (fun x => h3 (c3.mp x))]
    by_cases h4 : o.f0 = 1 ∨ o.f0 = 2 ∨ o.f0 = 4
    ·simp only [if_pos (c4.mpr h4)]
     cases f
     ·exact refright_one hb (fun h => absurd h h3) (fun _ => rfl) i ho
     ·rw [rightRest_new h4]; exact refright_met
    ·simp only [if_neg (fun x => h4 (c4.mp x))]
     exact refright_one hb (fun h => absurd h h3) (fun h => absurd h h4) i ho
theorem refright_ev {l : List Op} (h : Sm l) : Ev (fun k => patchworkref8_Right.f k l) (rightL l) := by
 have := refright_loop l [] false false h
 have e : rightRest [] l false false = rightL l := by
  unfold rightRest rightL
  rw [List.nil_append]
  cases l.all okOne <;> cases closedGo 3 false l <;> cases closedGo 4 false l <;> simp
 rw [e] at this
 exact this
end Go.Proofs.Ytacpejblnjgcoaa.P
namespace Go.Proofs.Ytacpejblnjgcoaa.P
open Go.RowKit Go.Proofs.YtacpejblnjgcoaaW.PrintWords Go.Proofs.YtacpejblnjgcoaaW.PrintLast Go.Proofs.YtacpejblnjgcoaaW.PrintMore
def formO (o : Op) : Prop := (o.f0 = 1 ∧ 1 ≤ o.f1 ∧ o.f2 = ByteArray.empty) ∨ ((o.f0 = 2 ∨ o.f0 = 3 ∨ o.f0 = 4) ∧ o.f1 = 0)
theorem form_of {o : Op} (h : okOne o = true) : formO o := by
 by_cases hk : o.f0 = 1
 ·have := okOne_skip h hk; exact .inl ⟨hk, this.1, this.2.2⟩
 ·have := okOne_ne h hk; exact .inr ⟨this.1, this.2.1⟩
def skips (l : List Op) : Int := (l.map fun o => if o.f0 = 1 then o.f1 else 0).sum
theorem skips_nil : skips [] = 0 := rfl
theorem skips_cons (o : Op) (l : List Op) : skips (o :: l) = (if o.f0 = 1 then o.f1 else 0) + skips l := by simp [skips]
theorem skips_app (p q : List Op) : skips (p ++ q) = skips p + skips q := by simp [skips]
end Go.Proofs.Ytacpejblnjgcoaa.P
namespace Go.Proofs.Ytacpejblnjgcoaa.P
open Go.RowKit Go.Proofs.YtacpejblnjgcoaaW.PrintWords Go.Proofs.YtacpejblnjgcoaaW.PrintLast Go.Proofs.YtacpejblnjgcoaaW.PrintMore
def closedS : Bool → List (Option ByteArray) → Bool
 | _, [] => true
 | true, _ :: _ => false
 | false, none :: s => closedS false s
 | false, some t :: s => closedS (openT t) s
def textS (s : List (Option ByteArray)) : Bool := s.all fun x => match x with | none => true | some t => rightT t
def okS (s : List (Option ByteArray)) : Bool := textS s && (closedS false s && decide (s.length ≤ 2147483648))
def rightU (u : List U) : Bool := okS (olds u) && okS (news u)
theorem closedS_none : ∀ (n : Nat) (s : List (Option ByteArray)), closedS false (List.replicate n none ++ s) = closedS false s
 | 0, _ => rfl
 | n + 1, s => by rw [List.replicate_succ, List.cons_append, closedS, closedS_none n s]
theorem olds_skips : ∀ (n : Nat), olds (List.replicate n .skip) = List.replicate n none
 | 0 => rfl
 | n + 1 => by rw [List.replicate_succ, olds, olds_skips n, List.replicate_succ]
theorem news_skips : ∀ (n : Nat), news (List.replicate n .skip) = List.replicate n none
 | 0 => rfl
 | n + 1 => by rw [List.replicate_succ, news, news_skips n, List.replicate_succ]
theorem closed_olds : ∀ (l : List Op) (e : Bool), (∀ o ∈ l, formO o) → closedGo 3 e l = closedS e (olds (ex l))
 | [], e, _ => by cases e <;> rfl
 | o :: l, e, h => by
  have i := fun e => closed_olds l e fun x hx => h x (List.mem_cons_of_mem _ hx)
  rw [ex_cons, olds_app]
  rcases h o (List.mem_cons_self ..) with ⟨hk, h1, _⟩ | ⟨hk | hk | hk, _⟩
  ·have epos : o.f1.toNat = (o.f1.toNat - 1) + 1 := by omega
   rw [show exO o = List.replicate o.f1.toNat .skip from by simp [exO, hk], olds_skips]
   cases e
   ·rw [closedS_none, ← i false]; simp [closedGo, hk]
   ·rw [epos, List.replicate_succ]; simp [closedGo, closedS, hk]
  ·rw [show exO o = [.keep o.f2] from by simp [exO, hk]]
   cases e
   ·simp only [olds, List.cons_append, List.nil_append, closedS]; rw [← i]; simp [closedGo, hk]
   ·simp [olds, closedGo, closedS, hk]
  ·rw [show exO o = [.del o.f2] from by simp [exO, hk]]
   cases e
   ·simp only [olds, List.cons_append, List.nil_append, closedS]; rw [← i]; simp [closedGo, hk]
   ·simp [olds, closedGo, closedS, hk]
  ·rw [show exO o = [.ins o.f2] from by simp [exO, hk]]
   simp only [olds, List.nil_append]
   rw [← i]; simp [closedGo, hk]
theorem closed_news : ∀ (l : List Op) (e : Bool), (∀ o ∈ l, formO o) → closedGo 4 e l = closedS e (news (ex l))
 | [], e, _ => by cases e <;> rfl
 | o :: l, e, h => by
  have i := fun e => closed_news l e fun x hx => h x (List.mem_cons_of_mem _ hx)
  rw [ex_cons, news_app]
  rcases h o (List.mem_cons_self ..) with ⟨hk, h1, _⟩ | ⟨hk | hk | hk, _⟩
  ·have epos : o.f1.toNat = (o.f1.toNat - 1) + 1 := by omega
   rw [show exO o = List.replicate o.f1.toNat .skip from by simp [exO, hk], news_skips]
   cases e
   ·rw [closedS_none, ← i false]; simp [closedGo, hk]
   ·rw [epos, List.replicate_succ]; simp [closedGo, closedS, hk]
  ·rw [show exO o = [.keep o.f2] from by simp [exO, hk]]
   cases e
   ·simp only [news, List.cons_append, List.nil_append, closedS]; rw [← i]; simp [closedGo, hk]
   ·simp [news, closedGo, closedS, hk]
  ·rw [show exO o = [.del o.f2] from by simp [exO, hk]]
   simp only [news, List.nil_append]
   rw [← i]; simp [closedGo, hk]
  ·rw [show exO o = [.ins o.f2] from by simp [exO, hk]]
   cases e
   ·simp only [news, List.cons_append, List.nil_append, closedS]; rw [← i]; simp [closedGo, hk]
   ·simp [news, closedGo, closedS, hk]
theorem sums_olds : ∀ (l : List Op), (∀ o ∈ l, formO o) → sums 3 l = (olds (ex l)).length
 | [], _ => rfl
 | o :: l, h => by
  rw [sums_cons, sums_olds l fun x hx => h x (List.mem_cons_of_mem _ hx), ex_cons, olds_app, List.length_append]
  congr 1
  rcases h o (List.mem_cons_self ..) with ⟨hk, h1, _⟩ | ⟨hk | hk | hk, _⟩
  ·rw [show exO o = List.replicate o.f1.toNat .skip from by simp [exO, hk], olds_skips]; simp [cnt, hk]
  ·rw [show exO o = [.keep o.f2] from by simp [exO, hk]]; simp [cnt, hk, olds]
  ·rw [show exO o = [.del o.f2] from by simp [exO, hk]]; simp [cnt, hk, olds]
  ·rw [show exO o = [.ins o.f2] from by simp [exO, hk]]; simp [cnt, hk, olds]
theorem sums_news : ∀ (l : List Op), (∀ o ∈ l, formO o) → sums 4 l = (news (ex l)).length
 | [], _ => rfl
 | o :: l, h => by
  rw [sums_cons, sums_news l fun x hx => h x (List.mem_cons_of_mem _ hx), ex_cons, news_app, List.length_append]
  congr 1
  rcases h o (List.mem_cons_self ..) with ⟨hk, h1, _⟩ | ⟨hk | hk | hk, _⟩
  ·rw [show exO o = List.replicate o.f1.toNat .skip from by simp [exO, hk], news_skips]; simp [cnt, hk]
  ·rw [show exO o = [.keep o.f2] from by simp [exO, hk]]; simp [cnt, hk, news]
  ·rw [show exO o = [.del o.f2] from by simp [exO, hk]]; simp [cnt, hk, news]
  ·rw [show exO o = [.ins o.f2] from by simp [exO, hk]]; simp [cnt, hk, news]
theorem textS_app (p q : List (Option ByteArray)) : textS (p ++ q) = (textS p && textS q) := by simp [textS]
theorem textS_none (n : Nat) : textS (List.replicate n none) = true := by simp [textS]
theorem texts_of : ∀ (l : List Op), (∀ o ∈ l, okOne o = true) → textS (olds (ex l)) = true ∧ textS (news (ex l)) = true
 | [], _ => ⟨rfl, rfl⟩
 | o :: l, h => by
  obtain ⟨i1, i2⟩ := texts_of l fun x hx => h x (List.mem_cons_of_mem _ hx)
  have ho := h o (List.mem_cons_self ..)
  rw [ex_cons, olds_app, news_app, textS_app, textS_app, i1, i2, Bool.and_true, Bool.and_true]
  by_cases hk : o.f0 = 1
  ·rw [show exO o = List.replicate o.f1.toNat .skip from by simp [exO, hk], olds_skips, news_skips]
   exact ⟨textS_none _, textS_none _⟩
  ·obtain ⟨hk | hk | hk, _, ht⟩ := okOne_ne ho hk
   ·rw [show exO o = [.keep o.f2] from by simp [exO, hk]]; simp [olds, news, textS, ht]
   ·rw [show exO o = [.del o.f2] from by simp [exO, hk]]; simp [olds, news, textS, ht]
   ·rw [show exO o = [.ins o.f2] from by simp [exO, hk]]; simp [olds, news, textS, ht]
theorem ok_of : ∀ (l : List Op), (∀ o ∈ l, formO o) → textS (olds (ex l)) = true → textS (news (ex l)) = true → sums 3 l ≤ 2147483648 → ∀ o ∈ l, okOne o = true
 | [], _, _, _, _ => fun o ho => by simp at ho
 | o :: l, h, h1, h2, h3 => by
  have hf := h o (List.mem_cons_self ..)
  rw [ex_cons, olds_app, textS_app, Bool.and_eq_true] at h1
  rw [ex_cons, news_app, textS_app, Bool.and_eq_true] at h2
  rw [sums_cons] at h3
  intro x hx
  rcases List.mem_cons.mp hx with rfl | hx
  ·clear hx
   unfold okOne
   rcases hf with ⟨hk, c1, c2⟩ | ⟨hk, c1⟩
   ·rw [if_pos hk]
    have : cnt 3 x = x.f1.toNat := by simp [cnt, hk]
    have c3 : x.f1 ≤ 2147483648 := by omega
    have c4 : x.f2.data.toList = [] := by rw [c2]; rfl
    simp only [c1, c3, c4, decide_true, Bool.and_self]
   ·rw [if_neg (by omega)]
    have ht : rightT x.f2 = true := by
     rcases hk with hk | hk | hk
     ·have := h1.1
      rw [show exO x = [.keep x.f2] from by simp [exO, hk]] at this
      simpa [olds, textS] using this
     ·have := h1.1
      rw [show exO x = [.del x.f2] from by simp [exO, hk]] at this
      simpa [olds, textS] using this
     ·have := h2.1
      rw [show exO x = [.ins x.f2] from by simp [exO, hk]] at this
      simpa [news, textS] using this
    simp only [hk, c1, ht, decide_true, Bool.and_self]
  ·exact ok_of l (fun y hy => h y (List.mem_cons_of_mem _ hy)) h1.2 h2.2 (by omega) x hx
theorem right_iff {l : List Op} (hf : ∀ o ∈ l, formO o) : rightL l = rightU (ex l) := by
 have hc : ∀ c, decide (capd c l ≤ 2147483648) = decide (sums c l ≤ 2147483648) := by
  intro c
  have : (capd c l ≤ 2147483648) ↔ (sums c l ≤ 2147483648) := by unfold capd far; omega
  simp only [this]
 have h3 := sums_olds l hf
 have h4 := sums_news l hf
 unfold rightL rightU okS
 rw [hc, hc, closed_olds l false hf, closed_news l false hf, ← h3, ← h4]
 cases ha : l.all okOne
 ·rw [Bool.false_and]
  by_cases t1 : textS (olds (ex l)) = true
  ·by_cases t2 : textS (news (ex l)) = true
   ·by_cases s3 : sums 3 l ≤ 2147483648
    ·have := ok_of l hf t1 t2 s3
     have : l.all okOne = true := List.all_eq_true.mpr this
     rw [this] at ha; simp at ha
    ·simp [s3]
   ·simp [t2]
  ·simp [t1]
 ·obtain ⟨t1, t2⟩ := texts_of l (List.all_eq_true.mp ha)
  rw [t1, t2]
  cases closedS false (olds (ex l)) <;> cases closedS false (news (ex l)) <;> by_cases s3 : sums 3 l ≤ 2147483648 <;> by_cases s4 : sums 4 l ≤ 2147483648 <;> simp [s3, s4]
theorem rightL_form {l : List Op} (h : rightL l = true) : ∀ o ∈ l, formO o := fun o ho => form_of ((rightL_ok h).1 o ho)
theorem rightL_U {l : List Op} (h : rightL l = true) : rightU (ex l) = true := by rw [← right_iff (rightL_form h)]; exact h
theorem form_pack (u : List U) : ∀ o ∈ pack u, formO o := by
 induction u with
 | nil => intro o ho; simp [pack] at ho
 | cons x u ih =>
  intro o ho
  by_cases hk : o.f0 = 1
  ·have := pack_pos (x :: u) o ho hk
   exact .inl ⟨hk, this.1, this.2⟩
  ·rw [pack] at ho
   cases x with
   | skip =>
    cases hp : pack u with
    | nil => rw [hp] at ho; rw [List.mem_singleton.mp ho] at hk; simp [opU] at hk
    | cons y r =>
     rw [hp] at ho ih
     by_cases hy : y.f0 = 1
     ·simp only [put, if_pos hy] at ho
      rcases List.mem_cons.mp ho with rfl | ho
      ·simp at hk
      ·exact ih o (List.mem_cons_of_mem _ ho)
     ·simp only [put, if_neg hy] at ho
      rcases List.mem_cons.mp ho with rfl | ho
      ·simp at hk
      ·exact ih o ho
   | keep t =>
    rw [put_ne rfl] at ho
    rcases List.mem_cons.mp ho with rfl | ho
    ·exact .inr ⟨by simp [opU], rfl⟩
    ·exact ih o ho
   | del t =>
    rw [put_ne rfl] at ho
    rcases List.mem_cons.mp ho with rfl | ho
    ·exact .inr ⟨by simp [opU], rfl⟩
    ·exact ih o ho
   | ins t =>
    rw [put_ne rfl] at ho
    rcases List.mem_cons.mp ho with rfl | ho
    ·exact .inr ⟨by simp [opU], rfl⟩
    ·exact ih o ho
theorem pack_len (u : List U) : (pack u).length ≤ u.length := by
 induction u with
 | nil => exact Nat.le_refl _
 | cons x u ih =>
  rw [pack]
  cases x with
  | skip =>
   cases hp : pack u with
   | nil => simp [put]
   | cons y r =>
    rw [hp] at ih
    simp only [put]
    split
    ·simp only [List.length_cons] at *; omega
    ·simp only [List.length_cons] at *; omega
  | keep t => rw [put_ne rfl]; simp only [List.length_cons]; omega
  | del t => rw [put_ne rfl]; simp only [List.length_cons]; omega
  | ins t => rw [put_ne rfl]; simp only [List.length_cons]; omega
theorem put_len (x : U) (r : List Op) : (put x r).length ≤ r.length + 1 := by
 cases x with
 | skip =>
  cases r with
  | nil => exact Nat.le_refl _
  | cons y r => simp only [put]; split <;> simp only [List.length_cons] <;> omega
 | keep t => exact Nat.le_refl _
 | del t => exact Nat.le_refl _
 | ins t => exact Nat.le_refl _
theorem pack_app_len : ∀ (a b : List U), (pack (a ++ b)).length ≤ a.length + (pack b).length
 | [], b => by simp
 | x :: a, b => by
  have := pack_app_len a b
  have := put_len x (pack (a ++ b))
  simp only [List.cons_append, pack, List.length_cons]; omega
theorem pack_skips_len : ∀ (n : Nat) (b : List U), (pack (List.replicate n .skip ++ b)).length ≤ 1 + (pack b).length
 | 0, b => by simp
 | 1, b => by have := put_len .skip (pack b); rw [Nat.add_comm]; exact this
 | n + 2, b => by
  have ih := pack_skips_len (n + 1) b
  rw [List.replicate_succ, List.cons_append, pack]
  cases hp : pack (List.replicate (n + 1) .skip ++ b) with
  | nil => simp [put]
  | cons y r =>
   have hy : y.f0 = 1 := by
    rw [List.replicate_succ, List.cons_append, pack] at hp
    cases hq : pack (List.replicate n .skip ++ b) with
    | nil => rw [hq] at hp; obtain ⟨rfl, _⟩ := List.cons.inj hp; rfl
    | cons z w =>
     rw [hq] at hp
     simp only [put] at hp
     split at hp <;> (obtain ⟨rfl, _⟩ := List.cons.inj hp; rfl)
   rw [hp] at ih
   simp only [put, if_pos hy, List.length_cons] at *
   omega
theorem nf_pack_len : ∀ (l : List Op) (I : List U), (∀ o ∈ l, formO o) → (pack (nf I (ex l))).length ≤ I.length + l.length
 | [], I, _ => by rw [ex_nil, nf]; exact pack_len I
 | o :: l, I, h => by
  have hl : ∀ x ∈ l, formO x := fun x hx => h x (List.mem_cons_of_mem _ hx)
  rw [ex_cons, List.length_cons]
  rcases h o (List.mem_cons_self ..) with ⟨hk, h1, _⟩ | ⟨hk | hk | hk, _⟩
  ·have epos : o.f1.toNat = (o.f1.toNat - 1) + 1 := by omega
   rw [show exO o = List.replicate o.f1.toNat .skip from by simp [exO, hk]]
   have e : nf I (List.replicate o.f1.toNat .skip ++ ex l) = I ++ (List.replicate o.f1.toNat .skip ++ nf [] (ex l)) := by
    rw [epos, List.replicate_succ, List.cons_append, nf, nf_skips]; rfl
   rw [e]
   have i1 := pack_app_len I (List.replicate o.f1.toNat .skip ++ nf [] (ex l))
   have i2 := pack_skips_len o.f1.toNat (nf [] (ex l))
   have i3 := nf_pack_len l [] hl
   simp only [List.length_nil] at i3
   omega
  ·rw [show exO o = [.keep o.f2] from by simp [exO, hk], List.singleton_append, nf]
   have i1 := pack_app_len I (.keep o.f2 :: nf [] (ex l))
   have i2 := put_len (.keep o.f2) (pack (nf [] (ex l)))
   have i3 := nf_pack_len l [] hl
   simp only [List.length_nil, pack] at i1 i3
   omega
  ·rw [show exO o = [.del o.f2] from by simp [exO, hk], List.singleton_append, nf]
   have i2 := put_len (.del o.f2) (pack (nf I (ex l)))
   have i3 := nf_pack_len l I hl
   simp only [pack]
   omega
  ·rw [show exO o = [.ins o.f2] from by simp [exO, hk], List.singleton_append, nf]
   have i3 := nf_pack_len l (I ++ [.ins o.f2]) hl
   simp only [List.length_append, List.length_cons, List.length_nil] at i3
   omega
def txU : U → ByteArray
 | .skip => ByteArray.empty
 | .keep t => t
 | .del t => t
 | .ins t => t
theorem tx_pack (u : List U) : ∀ o ∈ pack u, o.f2 = ByteArray.empty ∨ ∃ x ∈ u, o.f2 = txU x := by
 intro o ho
 by_cases hk : o.f0 = 1
 ·exact .inl (pack_pos u o ho hk).2
 ·refine .inr ?_
  have hm : ∀ x ∈ exO o, x ∈ ex (pack u) := fun x hx => List.mem_flatMap.mpr ⟨o, ho, hx⟩
  rw [ex_pack] at hm
  unfold exO at hm
  rw [if_neg hk] at hm
  split at hm
  ·exact ⟨_, hm _ (List.mem_cons_self ..), rfl⟩
  ·split at hm
   ·exact ⟨_, hm _ (List.mem_cons_self ..), rfl⟩
   ·exact ⟨_, hm _ (List.mem_cons_self ..), rfl⟩
theorem nf_mem : ∀ (u I : List U) (x : U), x ∈ nf I u → x ∈ I ∨ x ∈ u
 | [], I, x, h => .inl h
 | .ins t :: u, I, x, h => by
  rw [nf] at h
  rcases nf_mem u _ x h with h | h
  ·rcases List.mem_append.mp h with h | h
   ·exact .inl h
   ·exact .inr (by rw [List.mem_singleton.mp h]; exact List.mem_cons_self ..)
  ·exact .inr (List.mem_cons_of_mem _ h)
 | .del t :: u, I, x, h => by
  rw [nf] at h
  rcases List.mem_cons.mp h with h | h
  ·exact .inr (by rw [h]; exact List.mem_cons_self ..)
  ·rcases nf_mem u I x h with h | h
   ·exact .inl h
   ·exact .inr (List.mem_cons_of_mem _ h)
 | .keep t :: u, I, x, h => by
  rw [nf] at h
  rcases List.mem_append.mp h with h | h
  ·exact .inl h
  ·rcases List.mem_cons.mp h with h | h
   ·exact .inr (by rw [h]; exact List.mem_cons_self ..)
   ·rcases nf_mem u [] x h with h | h
    ·simp at h
    ·exact .inr (List.mem_cons_of_mem _ h)
 | .skip :: u, I, x, h => by
  rw [nf] at h
  rcases List.mem_append.mp h with h | h
  ·exact .inl h
  ·rcases List.mem_cons.mp h with h | h
   ·exact .inr (by rw [h]; exact List.mem_cons_self ..)
   ·rcases nf_mem u [] x h with h | h
    ·simp at h
    ·exact .inr (List.mem_cons_of_mem _ h)
theorem tx_ex {l : List Op} {x : U} (h : x ∈ ex l) : txU x = ByteArray.empty ∨ ∃ o ∈ l, txU x = o.f2 := by
 obtain ⟨o, ho, hx⟩ := List.mem_flatMap.mp h
 unfold exO at hx
 split at hx
 ·rw [List.eq_of_mem_replicate hx]; exact .inl rfl
 ·refine .inr ⟨o, ho, ?_⟩
  split at hx
  ·rw [List.mem_singleton.mp hx]; rfl
  ·split at hx
   ·rw [List.mem_singleton.mp hx]; rfl
   ·rw [List.mem_singleton.mp hx]; rfl
theorem Sm.norm {l : List Op} (h : Sm l) (hf : ∀ o ∈ l, formO o) : Sm (normL l) := by
 unfold normL
 refine ⟨?_, fun o ho => ?_⟩
 ·have := nf_pack_len l [] hf
  have := h.1
  simp only [List.length_nil] at *
  omega
 ·have he : ByteArray.empty.size = 0 := rfl
  rcases tx_pack _ o ho with e | ⟨x, hx, e⟩
  ·rw [e, he]; omega
  ·rcases nf_mem _ _ _ hx with hx | hx
   ·simp at hx
   ·rcases tx_ex hx with e2 | ⟨y, hy, e2⟩
    ·rw [e, e2, he]; omega
    ·rw [e, e2]; exact h.2 y hy
end Go.Proofs.Ytacpejblnjgcoaa.P
namespace Go.Proofs.Ytacpejblnjgcoaa.P
open Go.RowKit Go.Proofs.YtacpejblnjgcoaaW.PrintWords Go.Proofs.YtacpejblnjgcoaaW.PrintLast Go.Proofs.YtacpejblnjgcoaaW.PrintMore
theorem texts_loop (a : List ByteArray) : ∀ (b p q : List ByteArray), p.length = q.length → a.length = b.length → p.length + a.length < 4611686018427387904 →
  Ev (fun k => patchworkref1_SameTexts.l0 k (p ++ a) (q ++ b) (p.length : Int)) (decide (a = b)) := by
 induction a with
 | nil =>
  intro b p q hpq hab hb
  obtain rfl : b = [] := List.length_eq_zero_iff.mp hab.symm
  refine Ev.step (fun k => rfl) ?_
  simp only [patchworkref1_SameTexts.l0, lt_end, if_false]
  exact Ev.now _
 | cons x a ih =>
  intro b p q hpq hab hb
  match b, hab with
  | y :: b, hab =>
   have e2 : ((p.length : Int) < ((q ++ y :: b).length : Int)) = True := by rw [hpq]; exact lt_mid q b y
   have r2 : rdOf ByteArray.empty (q ++ y :: b) (p.length : Int) = y := by rw [hpq]; exact rdOf_mid _ q b y
   refine Ev.step (fun k => rfl) ?_
   simp only [patchworkref1_SameTexts.l0, lt_mid, nn_nat, e2, if_true, rdOf_mid, r2]
   by_cases h : x = y
   ·subst h
    have := ih b (p ++ [x]) (q ++ [x]) (by simp [hpq]) (by simpa using hab) (by simp at hb ⊢; omega)
    simp only [List.append_assoc, List.singleton_append] at this
    simp only [if_true]
    rw [wrap_len p x (by simp at hb; omega)]
    simpa using this
   ·have h2 : ¬ x.toList = y.toList := fun e => h (txt_eq e)
    simp only [if_neg h2]
    have : decide (x :: a = y :: b) = false := by simp [h]
    rw [this]
    exact Ev.now _
theorem texts_ev (a b : List ByteArray) (h : a.length < 4611686018427387904) : Ev (fun k => patchworkref1_SameTexts.f k a b) (decide (a = b)) := by
 by_cases hl : a.length = b.length
 ·have := texts_loop a b [] [] rfl hl (by simpa using h)
  simpa [patchworkref1_SameTexts.f, hl] using this
 ·have h1 : ¬ ((a.length : Int) = (b.length : Int)) := by omega
  have h2 : decide (a = b) = false := by
   rw [decide_eq_false_iff_not]; exact fun e => hl (by rw [e])
  simp only [patchworkref1_SameTexts.f, if_neg h1, h2]
  exact Ev.now _
end Go.Proofs.Ytacpejblnjgcoaa.P
namespace Go.Proofs.Ytacpejblnjgcoaa.P
open Go.RowKit Go.Proofs.YtacpejblnjgcoaaW.PrintWords Go.Proofs.YtacpejblnjgcoaaW.PrintLast Go.Proofs.YtacpejblnjgcoaaW.PrintMore
theorem wt_len (l : List ByteArray) : l.length ≤ (l.map (fun s => s.size + 1)).sum := by
 induction l with
 | nil => simp
 | cons x l ih => simp only [List.length_cons, List.map_cons, List.sum_cons]; omega
end Go.Proofs.Ytacpejblnjgcoaa.P
namespace Go.Proofs.Ytacpejblnjgcoaa.P
open Go.RowKit Go.Proofs.YtacpejblnjgcoaaW.PrintWords Go.Proofs.YtacpejblnjgcoaaW.PrintLast Go.Proofs.YtacpejblnjgcoaaW.PrintMore
def wholeL : List ByteArray → Bool
 | [] => true
 | x :: l => rightT x && (if openT x = true ∧ l ≠ [] then false else wholeL l)
def SmT (l : List ByteArray) : Prop := l.length < 4398046511104 ∧ ∀ x ∈ l, x.size < 4611686018427387904
def BgT (l : List ByteArray) : Prop := l.length < 8796093022208 ∧ ∀ x ∈ l, x.size < 4611686018427387904
theorem SmT.big {l : List ByteArray} (h : SmT l) : BgT l := ⟨by have := h.1; omega, h.2⟩
theorem BgT.mid {p s : List ByteArray} {o : ByteArray} (h : BgT (p ++ o :: s)) : o.size < 4611686018427387904 := h.2 o (by simp)
theorem BgT.snoc {p s : List ByteArray} {o : ByteArray} (h : BgT (p ++ o :: s)) : BgT ((p ++ [o]) ++ s) := by rw [List.append_assoc]; exact h
theorem whole_loop (s : List ByteArray) : ∀ (p : List ByteArray), BgT (p ++ s) → Ev (fun k => patchworkref1_Whole.l0 k (p ++ s) (p.length : Int)) (wholeL s) := by
 induction s with
 | nil =>
  intro p _
  refine Ev.step (fun k => rfl) ?_
  simp only [patchworkref1_Whole.l0, lt_end, if_false]
  exact Ev.now _
 | cons x s ih =>
  intro p hb
  have i := ih (p ++ [x]) hb.snoc
  rw [List.append_assoc, List.singleton_append] at i
  have hl := hb.1
  simp only [List.length_append, List.length_cons] at hl
  have w := wrap_len p x (by omega)
  refine Ev.step (fun k => rfl) ?_
  simp only [patchworkref1_Whole.l0, lt_mid, nn_nat, if_true, rdOf_mid, w]
  refine Ev.bind' (rightline_ev hb.mid) ?_
  unfold wholeL
  cases hr : rightT x
  ·simp only [Bool.false_eq_true, if_false, Bool.false_and]; exact Ev.now _
  simp only [if_true, Bool.true_and, open_val hb.mid, Option.bind_some]
  cases ho : openT x
  ·simp only [Bool.false_eq_true, if_false, false_and]; exact i
  simp only [if_true, true_and]
  cases s with
  | nil =>
   have c : ¬ ((p ++ [x]).length : Int) < ((p ++ x :: ([] : List ByteArray)).length : Int) := by simp
   simp only [if_neg c, ne_eq, not_true_eq_false, if_false]
   exact i
  | cons y s =>
   have c : ((p ++ [x]).length : Int) < ((p ++ x :: y :: s).length : Int) := by simp only [List.length_append, List.length_cons, List.length_nil]; omega
   simp only [if_pos c, ne_eq, List.cons_ne_nil, not_false_eq_true, if_true]
   exact Ev.now _
theorem whole_ev {l : List ByteArray} (h : BgT l) : Ev (fun k => patchworkref1_Whole.f k l) (wholeL l) := whole_loop l [] h
theorem whole_closed : ∀ (l : List ByteArray), wholeL l = (textS (l.map some) && closedS false (l.map some))
 | [] => rfl
 | x :: l => by
  unfold wholeL
  rw [whole_closed l, List.map_cons, closedS]
  cases ho : openT x
  ·simp [textS, Bool.and_assoc]
  ·cases l with
   | nil => simp [textS, closedS]
   | cons y l => simp [textS, closedS]
def doU : List U → List ByteArray → Option (List ByteArray)
 | [], ls => some ls
 | .skip :: u, x :: ls => (doU u ls).map (x :: ·)
 | .keep t :: u, x :: ls => if x = t then (doU u ls).map (x :: ·) else none
 | .del t :: u, x :: ls => if x = t then doU u ls else none
 | .ins t :: u, ls => (doU u ls).map (t :: ·)
 | .skip :: _, [] => none
 | .keep _ :: _, [] => none
 | .del _ :: _, [] => none
theorem doU_skips : ∀ (n : Nat) (u : List U) (ls : List ByteArray), doU (List.replicate n .skip ++ u) ls = if ls.length < n then none else (doU u (ls.drop n)).map (ls.take n ++ ·)
 | 0, u, ls => by simp
 | n + 1, u, [] => by simp [List.replicate_succ, doU]
 | n + 1, u, x :: ls => by
  rw [List.replicate_succ, List.cons_append, doU, doU_skips n u ls]
  by_cases h : ls.length < n
  ·simp [h]
  ·simp only [h, if_false, List.length_cons, show ¬ ls.length + 1 < n + 1 from by omega, List.drop_succ_cons, List.take_succ_cons, Option.map_map, Function.comp_def, List.cons_append]
def told (out : List ByteArray) : Option (List ByteArray) → List ByteArray × Bool
 | none => ([], false)
 | some r => if wholeL (out ++ r) then (out ++ r, true) else ([], false)
theorem told_map (out a : List ByteArray) (r : Option (List ByteArray)) : told out (r.map (a ++ ·)) = told (out ++ a) r := by
 cases r with
 | none => rfl
 | some r => simp [told]
theorem told_map1 (out : List ByteArray) (x : ByteArray) (r : Option (List ByteArray)) : told out (r.map (x :: ·)) = told (out ++ [x]) r := by
 cases r with
 | none => rfl
 | some r => simp [told]
theorem refdo_loop {ls : List ByteArray} (hls : SmT ls) (s : List Op) : ∀ (p : List Op) (out : List ByteArray) (i : Nat), Sm (p ++ s) → (∀ o ∈ s, okOne o = true) → i ≤ ls.length → out.length ≤ i + p.length → (∀ x ∈ out, x.size < 4611686018427387904) →
  Ev (fun k => patchworkref8_Do.l0 k (p ++ s) ls out (i : Int) (p.length : Int)) (told out (doU (ex s) (ls.drop i))) := by
 induction s with
 | nil =>
  intro p out i hb _ hi ho hx
  have hl1 := hls.1
  have hp := hb.1
  simp only [List.append_nil] at hp
  have c1 : (0 : Int) ≤ (i : Int) := by omega
  have c2 : (i : Int) ≤ (ls.length : Int) := by omega
  have c3 : out.length + (ls.drop (i : Int).toNat).length < 8796093022208 := by rw [Int.toNat_natCast, List.length_drop]; omega
  have hw : BgT (out ++ ls.drop (i : Int).toNat) := by
   refine ⟨by rw [List.length_append]; exact c3, fun x h => ?_⟩
   rcases List.mem_append.mp h with h | h
   ·exact hx x h
   ·exact hls.2 x (List.mem_of_mem_drop h)
  refine Ev.step (fun k => rfl) ?_
  simp only [patchworkref8_Do.l0, lt_end, if_false, if_pos c1, if_pos c2, if_pos c3, Option.bind_some]
  refine Ev.bind' (whole_ev hw) ?_
  rw [Int.toNat_natCast, ex_nil, doU, told]
  split <;> exact Ev.now _
 | cons o s ih =>
  intro p out i hb hok hi ho hx
  have hl1 := hls.1
  have hp := hb.len
  have j := fun out i => ih (p ++ [o]) out i hb.snoc (fun x hx => hok x (List.mem_cons_of_mem _ hx))
  rw [List.append_assoc, List.singleton_append] at j
  have w := wrap_len p o (by omega)
  have hplen : (p ++ [o]).length = p.length + 1 := by simp
  refine Ev.step (fun k => rfl) ?_
  simp only [patchworkref8_Do.l0, lt_mid, nn_nat, if_true, rdOp_mid]
  have hoo := hok o (List.mem_cons_self ..)
  rw [ex_cons]
  by_cases hk : o.f0 = 1
  ·obtain ⟨h1, h2, h3⟩ := okOne_skip hoo hk
   rw [show exO o = List.replicate o.f1.toNat .skip from by simp [exO, hk], doU_skips]
   have w1 : wrap64 ((ls.length : Int) - (i : Int)) = (ls.length : Int) - (i : Int) := by unfold wrap64; omega
   simp only [if_pos hk, w1, List.length_drop]
   by_cases c : (ls.length : Int) - (i : Int) < o.f1
   ·simp only [if_pos c]
    rw [if_pos (by omega)]
    exact Ev.now _
   ·simp only [if_neg c]
    rw [if_neg (by omega)]
    have w2 : wrap64 ((i : Int) + o.f1) = ((i + o.f1.toNat : Nat) : Int) := by unfold wrap64; omega
    have c2 : (i : Int) ≤ ((i + o.f1.toNat : Nat) : Int) := by omega
    have c3 : ((i + o.f1.toNat : Nat) : Int) ≤ (ls.length : Int) := by omega
    have e : (ls.take ((i + o.f1.toNat : Nat) : Int).toNat).drop (i : Int).toNat = (ls.drop i).take o.f1.toNat := by
     rw [Int.toNat_natCast, Int.toNat_natCast, List.drop_take]
     congr 1; omega
    have hlen : ((ls.drop i).take o.f1.toNat).length = o.f1.toNat := by rw [List.length_take, List.length_drop]; omega
    have c1 : (0 : Int) ≤ (i : Int) := by omega
    have c4 : out.length + ((ls.take ((i + o.f1.toNat : Nat) : Int).toNat).length - (i : Int).toNat) < 8796093022208 := by rw [List.length_take]; omega
    simp only [w2, if_pos c2, if_pos c3, if_pos c4, w]
    rw [e]
    have := j (out ++ (ls.drop i).take o.f1.toNat) (i + o.f1.toNat) (by omega) (by rw [List.length_append]; omega) (fun x hx' => by
     rcases List.mem_append.mp hx' with h | h
     ·exact hx x h
     ·exact hls.2 x (List.mem_of_mem_drop (List.mem_of_mem_take h)))
    rw [told_map, List.drop_drop]
    exact this
  ·obtain ⟨hk2, h1, h2⟩ := okOne_ne hoo hk
   simp only [if_neg hk]
   have c0 : out.length < 8796093022208 := by omega
   by_cases h4 : o.f0 = 4
   ·rw [show exO o = [.ins o.f2] from by simp [exO, h4], List.singleton_append, doU, told_map1]
    simp only [if_pos h4, if_pos c0, w]
    exact j (out ++ [o.f2]) i hi (by rw [List.length_append, List.length_singleton]; omega) (fun x hx' => by
     rcases List.mem_append.mp hx' with h | h
     ·exact hx x h
     ·rw [List.mem_singleton.mp h]; exact hb.mid)
   ·simp only [if_neg h4]
    by_cases hil : i < ls.length
    ·have c1 : ¬ (i : Int) ≥ (ls.length : Int) := by omega
     have c2 : (i : Int) < (ls.length : Int) := by omega
     have r : rdOf ByteArray.empty ls (i : Int) = ls[i] := rdOf_get hil
     have w2 : wrap64 ((i : Int) + 1) = ((i + 1 : Nat) : Int) := by unfold wrap64; omega
     simp only [if_neg c1, if_pos c2, r]
     rw [List.drop_eq_getElem_cons hil]
     refine Ev.step (fun k => rfl) ?_
     by_cases he : ls[i] = o.f2
     ·have hb2 : (ls[i].toList != o.f2.toList) = false := by rw [he]; simp
      rcases hk2 with h | h | h
      ·rw [show exO o = [.keep o.f2] from by simp [exO, h], List.singleton_append, doU, if_pos he, told_map1]
       simp only [hb2, patchworkref8_Do.j2, Bool.false_eq_true, if_false, if_pos h, if_pos c0, w, w2]
       rw [he]
       exact j (out ++ [o.f2]) (i + 1) (by omega) (by rw [List.length_append, List.length_singleton]; omega) (fun x hx' => by
        rcases List.mem_append.mp hx' with h | h
        ·exact hx x h
        ·rw [List.mem_singleton.mp h]; exact hb.mid)
      ·have h' : ¬ o.f0 = 2 := by omega
       rw [show exO o = [.del o.f2] from by simp [exO, h], List.singleton_append, doU, if_pos he]
       simp only [hb2, patchworkref8_Do.j2, Bool.false_eq_true, if_false, if_neg h', w, w2]
       exact j out (i + 1) (by omega) (by omega) hx
      ·exact absurd h h4
     ·have hb2 : (ls[i].toList != o.f2.toList) = true := by
       rw [bne_iff_ne]; exact fun e => he (txt_eq e)
      have en : doU (exO o ++ ex s) (ls[i] :: ls.drop (i + 1)) = none := by
       rcases hk2 with h | h | h
       ·rw [show exO o = [.keep o.f2] from by simp [exO, h], List.singleton_append, doU, if_neg he]
       ·rw [show exO o = [.del o.f2] from by simp [exO, h], List.singleton_append, doU, if_neg he]
       ·exact absurd h h4
      rw [en]
      simp only [hb2, patchworkref8_Do.j2, if_true]
      exact Ev.now _
    ·have c1 : (i : Int) ≥ (ls.length : Int) := by omega
     simp only [if_pos c1]
     have en : doU (exO o ++ ex s) (ls.drop i) = none := by
      rw [List.drop_eq_nil_of_le (by omega)]
      rcases hk2 with h | h | h
      ·rw [show exO o = [.keep o.f2] from by simp [exO, h], List.singleton_append, doU]
      ·rw [show exO o = [.del o.f2] from by simp [exO, h], List.singleton_append, doU]
      ·exact absurd h h4
     rw [en]
     refine Ev.step (fun k => rfl) ?_
     simp only [patchworkref8_Do.j2, if_true]
     exact Ev.now _
def doL (l : List Op) (ls : List ByteArray) : List ByteArray × Bool := if rightL l = true ∧ wholeL ls = true then told [] (doU (ex l) ls) else ([], false)
theorem refdo_ev {l : List Op} {ls : List ByteArray} (h : Sm l) (hls : SmT ls) : Ev (fun k => patchworkref8_Do.f k l ls) (doL l ls) := by
 unfold doL
 refine Ev.bind' (refright_ev h) ?_
 cases hr : rightL l
 ·simp only [Bool.false_eq_true, if_false, false_and]
  refine Ev.step (fun k => rfl) ?_
  simp only [patchworkref8_Do.j0, if_true]
  exact Ev.now _
 simp only [if_true, true_and]
 refine Ev.bind' (whole_ev hls.big) ?_
 refine Ev.step (fun k => rfl) ?_
 cases hw : wholeL ls
 ·simp only [patchworkref8_Do.j0, Bool.not_false, if_true, Bool.false_eq_true, if_false]
  exact Ev.now _
 simp only [patchworkref8_Do.j0, Bool.not_true, Bool.false_eq_true, if_false, if_true]
 exact refdo_loop hls l [] [] 0 h (rightL_ok hr).1 (by omega) (by simp) (by simp)
end Go.Proofs.Ytacpejblnjgcoaa.P
namespace Go.Proofs.Ytacpejblnjgcoaa.P
open Go.RowKit Go.Proofs.YtacpejblnjgcoaaW.PrintWords Go.Proofs.YtacpejblnjgcoaaW.PrintLast Go.Proofs.YtacpejblnjgcoaaW.PrintMore
def insN : List U → Nat
 | [] => 0
 | .ins _ :: u => insN u + 1
 | .skip :: u => insN u
 | .keep _ :: u => insN u
 | .del _ :: u => insN u
theorem doU_len : ∀ (u : List U) (ls r : List ByteArray), doU u ls = some r → r.length ≤ ls.length + insN u
 | [], ls, r, h => by rw [doU] at h; rw [Option.some.inj h]; exact Nat.le_refl _
 | .ins t :: u, ls, r, h => by
  rw [doU] at h
  obtain ⟨r', h', rfl⟩ := Option.map_eq_some_iff.mp h
  have := doU_len u ls r' h'
  simp only [List.length_cons, insN]; omega
 | .del t :: u, [], r, h => by rw [doU] at h; simp at h
 | .del t :: u, x :: ls, r, h => by
  rw [doU] at h
  split at h
  ·have := doU_len u ls r h
   simp only [List.length_cons, insN]; omega
  ·simp at h
 | .keep t :: u, [], r, h => by rw [doU] at h; simp at h
 | .keep t :: u, x :: ls, r, h => by
  rw [doU] at h
  split at h
  ·obtain ⟨r', h', rfl⟩ := Option.map_eq_some_iff.mp h
   have := doU_len u ls r' h'
   simp only [List.length_cons, insN]; omega
  ·simp at h
 | .skip :: u, [], r, h => by rw [doU] at h; simp at h
 | .skip :: u, x :: ls, r, h => by
  rw [doU] at h
  obtain ⟨r', h', rfl⟩ := Option.map_eq_some_iff.mp h
  have := doU_len u ls r' h'
  simp only [List.length_cons, insN]; omega
theorem doU_mem : ∀ (u : List U) (ls r : List ByteArray), doU u ls = some r → ∀ y ∈ r, y ∈ ls ∨ ∃ x ∈ u, y = txU x
 | [], ls, r, h, y, hy => by rw [doU] at h; rw [Option.some.inj h]; exact .inl hy
 | .ins t :: u, ls, r, h, y, hy => by
  rw [doU] at h
  obtain ⟨r', h', rfl⟩ := Option.map_eq_some_iff.mp h
  rcases List.mem_cons.mp hy with rfl | hy
  ·exact .inr ⟨_, List.mem_cons_self .., rfl⟩
  ·rcases doU_mem u ls r' h' y hy with h | ⟨x, hx, e⟩
   ·exact .inl h
   ·exact .inr ⟨x, List.mem_cons_of_mem _ hx, e⟩
 | .del t :: u, [], r, h, y, hy => by rw [doU] at h; simp at h
 | .del t :: u, x :: ls, r, h, y, hy => by
  rw [doU] at h
  split at h
  ·rcases doU_mem u ls r h y hy with h | ⟨x, hx, e⟩
   ·exact .inl (List.mem_cons_of_mem _ h)
   ·exact .inr ⟨x, List.mem_cons_of_mem _ hx, e⟩
  ·simp at h
 | .keep t :: u, [], r, h, y, hy => by rw [doU] at h; simp at h
 | .keep t :: u, x :: ls, r, h, y, hy => by
  rw [doU] at h
  split at h
  ·obtain ⟨r', h', rfl⟩ := Option.map_eq_some_iff.mp h
   rcases List.mem_cons.mp hy with rfl | hy
   ·exact .inl (List.mem_cons_self ..)
   ·rcases doU_mem u ls r' h' y hy with h | ⟨x, hx, e⟩
    ·exact .inl (List.mem_cons_of_mem _ h)
    ·exact .inr ⟨x, List.mem_cons_of_mem _ hx, e⟩
  ·simp at h
 | .skip :: u, [], r, h, y, hy => by rw [doU] at h; simp at h
 | .skip :: u, x :: ls, r, h, y, hy => by
  rw [doU] at h
  obtain ⟨r', h', rfl⟩ := Option.map_eq_some_iff.mp h
  rcases List.mem_cons.mp hy with rfl | hy
  ·exact .inl (List.mem_cons_self ..)
  ·rcases doU_mem u ls r' h' y hy with h | ⟨x, hx, e⟩
   ·exact .inl (List.mem_cons_of_mem _ h)
   ·exact .inr ⟨x, List.mem_cons_of_mem _ hx, e⟩
theorem insN_app : ∀ (p q : List U), insN (p ++ q) = insN p + insN q
 | [], q => by simp [insN]
 | x :: p, q => by cases x <;> simp only [List.cons_append, insN, insN_app p q] <;> omega
theorem insN_ex : ∀ (l : List Op), insN (ex l) ≤ l.length
 | [] => Nat.le_refl _
 | o :: l => by
  have h : ∀ n, insN (List.replicate n .skip) = 0 := fun n => by
   induction n with
   | zero => rfl
   | succ n ih => rw [List.replicate_succ, insN, ih]
  have : insN (exO o) ≤ 1 := by
   unfold exO
   split
   ·rw [h]; omega
   ·split
    ·simp [insN]
    ·split <;> simp [insN]
  have := insN_ex l
  rw [ex_cons, insN_app, List.length_cons]; omega
theorem SmT.done {l : List Op} {ls r : List ByteArray} (hl : l.length ≤ 2199023255552) (h : Sm l) (hll : ls.length < 2199023255552) (hls : SmT ls) (hd : doU (ex l) ls = some r) : SmT r := by
 refine ⟨?_, fun y hy => ?_⟩
 ·have := doU_len _ _ _ hd
  have := insN_ex l
  omega
 ·rcases doU_mem _ _ _ hd y hy with h1 | ⟨x, hx, rfl⟩
  ·exact hls.2 y h1
  ·have he : ByteArray.empty.size = 0 := rfl
   rcases tx_ex hx with e | ⟨o, ho, e⟩
   ·rw [e, he]; omega
   ·rw [e]; exact h.2 o ho
theorem doL_of {l : List Op} {ls r : List ByteArray} (h1 : rightL l = true) (h2 : wholeL ls = true) (h3 : doU (ex l) ls = some r) (h4 : wholeL r = true) : doL l ls = (r, true) := by
 unfold doL
 rw [if_pos ⟨h1, h2⟩, h3, told, List.nil_append, if_pos h4]
theorem SmT.of_wt {l : List ByteArray} (h : (l.map fun s => s.size + 1).sum ≤ 2199023255551) : SmT l := by
 have hl := wt_len l
 refine ⟨by omega, fun x hx => ?_⟩
 have : x.size + 1 ≤ (l.map fun s => s.size + 1).sum := by
  clear h hl
  induction l with
  | nil => simp at hx
  | cons y l ih =>
   rw [List.map_cons, List.sum_cons]
   rcases List.mem_cons.mp hx with rfl | hx
   ·omega
   ·have := ih hx; omega
 omega
end Go.Proofs.Ytacpejblnjgcoaa.P
namespace Go.Proofs.Ytacpejblnjgcoaa.P
open Go.RowKit Go.Proofs.YtacpejblnjgcoaaW.PrintWords Go.Proofs.YtacpejblnjgcoaaW.PrintLast Go.Proofs.YtacpejblnjgcoaaW.PrintMore
def chU (u : List U) : Nat := (u.filter isCh).length
theorem chU_app (p q : List U) : chU (p ++ q) = chU p + chU q := by simp [chU]
theorem chU_nil : chU [] = 0 := rfl
theorem chU_del (t : ByteArray) (u : List U) : chU (.del t :: u) = chU u + 1 := by unfold chU; rw [List.filter_cons_of_pos rfl]; rfl
theorem chU_ins (t : ByteArray) (u : List U) : chU (.ins t :: u) = chU u + 1 := by unfold chU; rw [List.filter_cons_of_pos rfl]; rfl
theorem chU_keep (t : ByteArray) (u : List U) : chU (.keep t :: u) = chU u := by unfold chU; rw [List.filter_cons_of_neg (by simp [isCh])]
theorem chU_skip (u : List U) : chU (.skip :: u) = chU u := by unfold chU; rw [List.filter_cons_of_neg (by simp [isCh])]
theorem chU_nf : ∀ (u I : List U), chU (nf I u) = chU I + chU u
 | [], I => by rw [nf, chU_nil]; rfl
 | .ins t :: u, I => by rw [nf, chU_nf u, chU_app, chU_ins, chU_ins, chU_nil]; omega
 | .del t :: u, I => by rw [nf, chU_del, chU_del, chU_nf u]; omega
 | .keep t :: u, I => by rw [nf, chU_app, chU_keep, chU_keep, chU_nf u, chU_nil]; omega
 | .skip :: u, I => by rw [nf, chU_app, chU_skip, chU_skip, chU_nf u, chU_nil]; omega
def chN (l : List Op) : Nat := (l.filter chO).length
theorem chN_snoc (p : List Op) (o : Op) : chN (p ++ [o]) = chN p + (if chO o then 1 else 0) := by
 simp only [chN, List.filter_append, List.length_append]
 cases h : chO o <;> simp [h]
theorem chN_le (l : List Op) : chN l ≤ l.length := List.length_filter_le _ _
theorem chN_ex : ∀ {l : List Op}, (∀ o ∈ l, formO o) → chN l = chU (ex l)
 | [], _ => rfl
 | o :: l, h => by
  have i := chN_ex (l := l) fun x hx => h x (List.mem_cons_of_mem _ hx)
  have rp : ∀ n, chU (List.replicate n .skip) = 0 := by
   intro n
   induction n with
   | zero => rfl
   | succ n ih => rw [List.replicate_succ, chU_skip, ih]
  rw [ex_cons, chU_app, ← i]
  unfold chN
  rcases h o (List.mem_cons_self ..) with ⟨hk, h1, _⟩ | ⟨hk | hk | hk, _⟩
  ·rw [show exO o = List.replicate o.f1.toNat .skip from by simp [exO, hk], rp, List.filter_cons_of_neg (by simp [chO, hk])]; omega
  ·rw [show exO o = [.keep o.f2] from by simp [exO, hk], List.filter_cons_of_neg (by simp [chO, hk]), chU_keep, chU_nil]; omega
  ·rw [show exO o = [.del o.f2] from by simp [exO, hk], List.filter_cons_of_pos (by simp [chO, hk]), chU_del, chU_nil, List.length_cons]; omega
  ·rw [show exO o = [.ins o.f2] from by simp [exO, hk], List.filter_cons_of_pos (by simp [chO, hk]), chU_ins, chU_nil, List.length_cons]; omega
end Go.Proofs.Ytacpejblnjgcoaa.P
namespace Go.Proofs.Ytacpejblnjgcoaa.P
open Go.RowKit Go.Proofs.YtacpejblnjgcoaaW.PrintWords Go.Proofs.YtacpejblnjgcoaaW.PrintLast Go.Proofs.YtacpejblnjgcoaaW.PrintMore
def dU (a b : List ByteArray) : List U := ex (diffOps a b)
theorem ex_inss (b : List ByteArray) : ex (b.map fun t => (⟨4, 0, t⟩ : Op)) = b.map .ins := by
 induction b with
 | nil => rfl
 | cons t b ih => rw [List.map_cons, ex_cons, ih]; rfl
theorem ex_dels (a : List ByteArray) : ex (a.map fun t => (⟨3, 0, t⟩ : Op)) = a.map .del := by
 induction a with
 | nil => rfl
 | cons t b ih => rw [List.map_cons, ex_cons, ih]; rfl
theorem dU_nil (b : List ByteArray) : dU [] b = b.map .ins := by unfold dU; rw [diffOps_nil_left, ex_inss]
theorem dU_end (a : List ByteArray) : dU a [] = a.map .del := by unfold dU; rw [diffOps_nil_right, ex_dels]
theorem dU_same (x : ByteArray) (a b : List ByteArray) : dU (x :: a) (x :: b) = .keep x :: dU a b := by unfold dU; rw [diffOps_same, ex_cons]; rfl
theorem dU_del {x y : ByteArray} {a b : List ByteArray} (h : x ≠ y) (h2 : lcs (x :: a) b ≤ lcs a (y :: b)) : dU (x :: a) (y :: b) = .del x :: dU a (y :: b) := by unfold dU; rw [diffOps_del h h2, ex_cons]; rfl
theorem dU_ins {x y : ByteArray} {a b : List ByteArray} (h : x ≠ y) (h2 : ¬ lcs (x :: a) b ≤ lcs a (y :: b)) : dU (x :: a) (y :: b) = .ins y :: dU (x :: a) b := by unfold dU; rw [diffOps_ins h h2, ex_cons]; rfl
theorem dU_ind {C : List ByteArray → List ByteArray → List U → Prop} (h1 : ∀ b, C [] b (b.map .ins)) (h2 : ∀ x a, C (x :: a) [] ((x :: a).map .del)) (h3 : ∀ x a b, C a b (dU a b) → C (x :: a) (x :: b) (.keep x :: dU a b))
  (h4 : ∀ x a y b, x ≠ y → lcs (x :: a) b ≤ lcs a (y :: b) → C a (y :: b) (dU a (y :: b)) → C (x :: a) (y :: b) (.del x :: dU a (y :: b)))
  (h5 : ∀ x a y b, x ≠ y → ¬ lcs (x :: a) b ≤ lcs a (y :: b) → C (x :: a) b (dU (x :: a) b) → C (x :: a) (y :: b) (.ins y :: dU (x :: a) b)) : ∀ a b, C a b (dU a b) := by
 intro a b
 induction a, b using diffOps.induct with
 | case1 b => rw [dU_nil]; exact h1 b
 | case2 x a => rw [dU_end]; exact h2 x a
 | case3 a x b ih => rw [dU_same]; exact h3 x a b ih
 | case4 x a y b h k ih => rw [dU_del h k]; exact h4 x a y b h k ih
 | case5 x a y b h k ih => rw [dU_ins h k]; exact h5 x a y b h k ih
theorem sides_inss (b : List ByteArray) : olds (b.map .ins) = [] ∧ news (b.map .ins) = b.map some := by
 induction b with
 | nil => exact ⟨rfl, rfl⟩
 | cons t b ih => simp only [List.map_cons, olds, news, ih, and_self]
theorem sides_dels (b : List ByteArray) : olds (b.map .del) = b.map some ∧ news (b.map .del) = [] := by
 induction b with
 | nil => exact ⟨rfl, rfl⟩
 | cons t b ih => simp only [List.map_cons, olds, news, ih, and_self]
theorem dU_sides : ∀ a b, olds (dU a b) = a.map some ∧ news (dU a b) = b.map some :=
 dU_ind (C := fun a b u => olds u = a.map some ∧ news u = b.map some) (fun b => sides_inss b) (fun x a => sides_dels (x :: a))
  (fun x a b ih => by simp only [olds, news, ih.1, ih.2, List.map_cons, and_self])
  (fun x a y b _ _ ih => by simp only [olds, news, ih.1, ih.2, List.map_cons, and_self])
  (fun x a y b _ _ ih => by simp only [olds, news, ih.1, ih.2, List.map_cons, and_self])
def skf (s : List U) : Prop := ∀ x ∈ s, isSkip x = false
theorem skf.cons {x : U} {s : List U} (hx : isSkip x = false) (h : skf s) : skf (x :: s) := fun y hy => by
 rcases List.mem_cons.mp hy with rfl | hy
 ·exact hx
 ·exact h y hy
theorem dU_self : ∀ a : List ByteArray, dU a a = a.map .keep
 | [] => by rw [dU_nil]; rfl
 | x :: a => by rw [dU_same, dU_self a]; rfl
def tdU : List ByteArray → List ByteArray → List U → List U
 | a, b, [] => dU a b
 | a, b, .skip :: u => dU a b ++ .skip :: tdU [] [] u
 | a, b, .keep t :: u => tdU (a ++ [t]) (b ++ [t]) u
 | a, b, .del t :: u => tdU (a ++ [t]) b u
 | a, b, .ins t :: u => tdU a (b ++ [t]) u
theorem tdU_sides : ∀ (u : List U) (a b : List ByteArray), olds (tdU a b u) = a.map some ++ olds u ∧ news (tdU a b u) = b.map some ++ news u
 | [], a, b => by have := dU_sides a b; simpa [tdU, olds, news] using this
 | .skip :: u, a, b => by
  have h := dU_sides a b
  have i := tdU_sides u [] []
  simp only [tdU, olds_app, news_app, olds, news, h.1, h.2, i.1, i.2, List.map_nil, List.nil_append, and_self]
 | .keep t :: u, a, b => by
  have i := tdU_sides u (a ++ [t]) (b ++ [t])
  simp only [tdU, olds, news, i.1, i.2, List.map_append, List.map_cons, List.map_nil, List.append_assoc, List.singleton_append, and_self]
 | .del t :: u, a, b => by
  have i := tdU_sides u (a ++ [t]) b
  simp only [tdU, olds, news, i.1, i.2, List.map_append, List.map_cons, List.map_nil, List.append_assoc, List.singleton_append, and_self]
 | .ins t :: u, a, b => by
  have i := tdU_sides u a (b ++ [t])
  simp only [tdU, olds, news, i.1, i.2, List.map_append, List.map_cons, List.map_nil, List.append_assoc, List.singleton_append, and_self]
theorem rightU_td (u : List U) : rightU (tdU [] [] u) = rightU u := by
 have := tdU_sides u [] []
 unfold rightU
 rw [this.1, this.2]; rfl
def splitN : List (Option ByteArray) → List ByteArray × Option (List (Option ByteArray))
 | [] => ([], none)
 | none :: s => ([], some s)
 | some t :: s => (t :: (splitN s).1, (splitN s).2)
theorem splitN_app : ∀ (a : List ByteArray) (s : List (Option ByteArray)), splitN (a.map some ++ s) = (a ++ (splitN s).1, (splitN s).2)
 | [], s => rfl
 | t :: a, s => by rw [List.map_cons, List.cons_append, splitN, splitN_app a s]; rfl
theorem splitN_all (a : List ByteArray) : splitN (a.map some) = (a, none) := by
 have := splitN_app a []
 rw [List.append_nil] at this
 rw [this, splitN, List.append_nil]
def Gn : Nat → List (Option ByteArray) → List (Option ByteArray) → List U
 | 0, _, _ => []
 | n + 1, s, t => match (splitN s).2, (splitN t).2 with
  | some s', some t' => dU (splitN s).1 (splitN t).1 ++ .skip :: Gn n s' t'
  | _, _ => dU (splitN s).1 (splitN t).1
theorem td_Gn : ∀ (u : List U) (a b : List ByteArray) (n : Nat), u.length < n → tdU a b u = Gn n (a.map some ++ olds u) (b.map some ++ news u)
 | [], a, b, n + 1, _ => by simp [tdU, Gn, olds, news, splitN_all]
 | .skip :: u, a, b, n + 1, h => by
  have i := td_Gn u [] [] n (by simp only [List.length_cons] at h; omega)
  simp only [List.map_nil, List.nil_append] at i
  simp [tdU, Gn, olds, news, splitN_app, splitN, i]
 | .keep t :: u, a, b, n + 1, h => by
  have i := td_Gn u (a ++ [t]) (b ++ [t]) (n + 1) (by simp only [List.length_cons] at h; omega)
  simp only [List.map_append, List.map_cons, List.map_nil, List.append_assoc, List.singleton_append] at i
  exact i
 | .del t :: u, a, b, n + 1, h => by
  have i := td_Gn u (a ++ [t]) b (n + 1) (by simp only [List.length_cons] at h; omega)
  simp only [List.map_append, List.map_cons, List.map_nil, List.append_assoc, List.singleton_append] at i
  exact i
 | .ins t :: u, a, b, n + 1, h => by
  have i := td_Gn u a (b ++ [t]) (n + 1) (by simp only [List.length_cons] at h; omega)
  simp only [List.map_append, List.map_cons, List.map_nil, List.append_assoc, List.singleton_append] at i
  exact i
theorem ch_keeps (b : List ByteArray) : chU (b.map .keep) = 0 := by
 induction b with
 | nil => rfl
 | cons t b ih => rw [List.map_cons, chU_keep, ih]
theorem Gn_self : ∀ (n : Nat) (s : List (Option ByteArray)), chU (Gn n s s) = 0
 | 0, s => rfl
 | n + 1, s => by
  rw [Gn]
  cases (splitN s).2 with
  | none => simp only; rw [dU_self, ch_keeps]
  | some s' => simp only; rw [dU_self, chU_app, ch_keeps, chU_skip, Gn_self n s']
theorem ch_zero : ∀ {w : List U}, chU w = 0 → olds w = news w
 | [], _ => rfl
 | .skip :: w, h => by rw [chU_skip] at h; rw [olds, news, ch_zero h]
 | .keep t :: w, h => by rw [chU_keep] at h; rw [olds, news, ch_zero h]
 | .del t :: w, h => by rw [chU_del] at h; omega
 | .ins t :: w, h => by rw [chU_ins] at h; omega
theorem td_idle (u : List U) : chU (tdU [] [] u) = 0 ↔ olds u = news u := by
 constructor
 ·intro h
  have := ch_zero h
  have s := tdU_sides u [] []
  rw [s.1, s.2] at this
  exact this
 ·intro h
  rw [td_Gn u [] [] (u.length + 1) (by omega), h]
  exact Gn_self _ _
def tdL : List ByteArray → List ByteArray → List Op → List Op
 | a, b, [] => diffOps a b
 | a, b, o :: l => if o.f0 = 1 then diffOps a b ++ o :: tdL [] [] l else tdL (if o.f0 = 4 then a else a ++ [o.f2]) (if o.f0 = 3 then b else b ++ [o.f2]) l
theorem diffOps_mem (a b : List ByteArray) : ∀ o ∈ diffOps a b, (o.f0 = 2 ∨ o.f0 = 3 ∨ o.f0 = 4) ∧ o.f1 = 0 ∧ (o.f2 ∈ a ∨ o.f2 ∈ b) := by
 induction a, b using diffOps.induct with
 | case1 b =>
  rw [diffOps_nil_left]
  intro o ho
  obtain ⟨t, ht, rfl⟩ := List.mem_map.mp ho
  exact ⟨.inr (.inr rfl), rfl, .inr ht⟩
 | case2 x a =>
  rw [diffOps_nil_right]
  intro o ho
  obtain ⟨t, ht, rfl⟩ := List.mem_map.mp ho
  exact ⟨.inr (.inl rfl), rfl, .inl ht⟩
 | case3 a x b ih =>
  rw [diffOps_same]
  intro o ho
  rcases List.mem_cons.mp ho with rfl | ho
  ·exact ⟨.inl rfl, rfl, .inl (List.mem_cons_self ..)⟩
  ·obtain ⟨h1, h2, h3⟩ := ih o ho
   exact ⟨h1, h2, h3.imp (List.mem_cons_of_mem _) (List.mem_cons_of_mem _)⟩
 | case4 x a y b h k ih =>
  rw [diffOps_del h k]
  intro o ho
  rcases List.mem_cons.mp ho with rfl | ho
  ·exact ⟨.inr (.inl rfl), rfl, .inl (List.mem_cons_self ..)⟩
  ·obtain ⟨h1, h2, h3⟩ := ih o ho
   exact ⟨h1, h2, h3.imp (List.mem_cons_of_mem _) id⟩
 | case5 x a y b h k ih =>
  rw [diffOps_ins h k]
  intro o ho
  rcases List.mem_cons.mp ho with rfl | ho
  ·exact ⟨.inr (.inr rfl), rfl, .inr (List.mem_cons_self ..)⟩
  ·obtain ⟨h1, h2, h3⟩ := ih o ho
   exact ⟨h1, h2, h3.imp id (List.mem_cons_of_mem _)⟩
theorem td_skips (u : List U) (a b : List ByteArray) : ∀ n : Nat, tdU a b (List.replicate (n + 1) .skip ++ u) = dU a b ++ List.replicate (n + 1) .skip ++ tdU [] [] u
 | 0 => by simp [tdU]
 | n + 1 => by
  have i := td_skips u [] [] n
  rw [List.replicate_succ, List.cons_append, tdU, i, show dU [] [] = [] from dU_nil [], List.nil_append]
  simp [List.replicate_succ]
theorem ex_td : ∀ (l : List Op) (a b : List ByteArray), (∀ o ∈ l, formO o) → ex (tdL a b l) = tdU a b (ex l) ∧ (∀ o ∈ tdL a b l, formO o) ∧ skips (tdL a b l) = skips l ∧ (tdL a b l).length ≤ a.length + b.length + 2 * l.length ∧ (∀ o ∈ tdL a b l, o.f2 ∈ a ∨ o.f2 ∈ b ∨ ∃ x ∈ l, o.f2 = x.f2)
 | [], a, b, _ => by
  have hm := diffOps_mem a b
  refine ⟨rfl, fun o ho => .inr ⟨(hm o ho).1, (hm o ho).2.1⟩, ?_, ?_, fun o ho => (hm o ho).2.2.elim .inl (fun h => .inr (.inl h))⟩
  ·rw [tdL, skips_nil]
   have : ∀ l : List Op, (∀ o ∈ l, o.f0 ≠ 1) → skips l = 0 := by
    intro l
    induction l with
    | nil => intro _; rfl
    | cons o l ih => intro h; rw [skips_cons, if_neg (h o (List.mem_cons_self ..)), ih fun x hx => h x (List.mem_cons_of_mem _ hx)]; rfl
   exact this _ fun o ho => by have := (hm o ho).1; omega
  ·rw [tdL]; have := diffOps_len a b; simp; omega
 | o :: l, a, b, h => by
  have fo := h o (List.mem_cons_self ..)
  have i := fun a b => ex_td l a b fun x hx => h x (List.mem_cons_of_mem _ hx)
  rw [tdL, ex_cons]
  rcases fo with ⟨hk, h1, h2⟩ | ⟨hk, h1⟩
  ·obtain ⟨i1, i2, i3, i4, i5⟩ := i [] []
   obtain ⟨m, hm⟩ : ∃ m : Nat, o.f1.toNat = m + 1 := ⟨o.f1.toNat - 1, by omega⟩
   have dm := diffOps_mem a b
   have eo : exO o = List.replicate (m + 1) .skip := by rw [← hm]; simp [exO, hk]
   have z : skips (diffOps a b) = 0 := by
    have : ∀ l : List Op, (∀ o ∈ l, o.f0 ≠ 1) → skips l = 0 := by
     intro l
     induction l with
     | nil => intro _; rfl
     | cons o l ih => intro h; rw [skips_cons, if_neg (h o (List.mem_cons_self ..)), ih fun x hx => h x (List.mem_cons_of_mem _ hx)]; rfl
    exact this _ fun o ho => by have := (dm o ho).1; omega
   rw [if_pos hk]
   refine ⟨?_, ?_, ?_, ?_, ?_⟩
   ·rw [eo, td_skips, ex_app, ex_cons, i1, eo]; simp [dU]
   ·intro x hx
    rcases List.mem_append.mp hx with hx | hx
    ·exact .inr ⟨(dm x hx).1, (dm x hx).2.1⟩
    ·rcases List.mem_cons.mp hx with rfl | hx
     ·exact .inl ⟨hk, h1, h2⟩
     ·exact i2 x hx
   ·rw [skips_app, skips_cons, skips_cons, i3, z]; omega
   ·have := diffOps_len a b
    simp only [List.length_append, List.length_cons, List.length_nil] at i4 ⊢; omega
   ·intro x hx
    rcases List.mem_append.mp hx with hx | hx
    ·rcases (dm x hx).2.2 with h | h
     ·exact .inl h
     ·exact .inr (.inl h)
    ·rcases List.mem_cons.mp hx with rfl | hx
     ·exact .inr (.inr ⟨x, List.mem_cons_self .., rfl⟩)
     ·rcases i5 x hx with h | h | ⟨y, hy, e⟩
      ·simp at h
      ·simp at h
      ·exact .inr (.inr ⟨y, List.mem_cons_of_mem _ hy, e⟩)
  ·have k1 : ¬ o.f0 = 1 := by omega
   rw [if_neg k1]
   obtain ⟨i1, i2, i3, i4, i5⟩ := i (if o.f0 = 4 then a else a ++ [o.f2]) (if o.f0 = 3 then b else b ++ [o.f2])
   refine ⟨?_, i2, by rw [i3, skips_cons, if_neg k1]; omega, ?_, ?_⟩
   ·rw [i1]
    rcases hk with hk | hk | hk
    ·rw [show exO o = [.keep o.f2] from by simp [exO, hk], if_neg (by omega), if_neg (by omega)]; rfl
    ·rw [show exO o = [.del o.f2] from by simp [exO, hk], if_neg (by omega), if_pos hk]; rfl
    ·rw [show exO o = [.ins o.f2] from by simp [exO, hk], if_pos hk, if_neg (by omega)]; rfl
   ·refine Nat.le_trans i4 ?_
    split <;> split <;> simp only [List.length_append, List.length_cons, List.length_nil] <;> omega
   ·intro x hx
    rcases i5 x hx with h | h | ⟨y, hy, e⟩
    ·split at h
     ·exact .inl h
     ·rcases List.mem_append.mp h with h | h
      ·exact .inl h
      ·exact .inr (.inr ⟨o, List.mem_cons_self .., List.mem_singleton.mp h⟩)
    ·split at h
     ·exact .inr (.inl h)
     ·rcases List.mem_append.mp h with h | h
      ·exact .inr (.inl h)
      ·exact .inr (.inr ⟨o, List.mem_cons_self .., List.mem_singleton.mp h⟩)
    ·exact .inr (.inr ⟨y, List.mem_cons_of_mem _ hy, e⟩)
def tidyL (l : List Op) : List Op := pack (nf [] (tdU [] [] (ex l)))
theorem norm_td {l : List Op} (h : ∀ o ∈ l, formO o) : normL (tdL [] [] l) = tidyL l := by
 unfold normL tidyL; rw [(ex_td l [] [] h).1]
theorem right_td {l : List Op} (hr : rightL l = true) : rightL (tdL [] [] l) = true := by
 obtain ⟨e1, e2, _⟩ := ex_td l [] [] (rightL_form hr)
 rw [right_iff e2, e1, rightU_td]; exact rightL_U hr
theorem Sm.td {l : List Op} (h : Sm l) (hl : l.length < 2199023255552) (hf : ∀ o ∈ l, formO o) : Sm (tdL [] [] l) := by
 obtain ⟨_, _, _, e4, e5⟩ := ex_td l [] [] hf
 refine ⟨by simp only [List.length_nil] at e4; omega, fun o ho => ?_⟩
 rcases e5 o ho with h2 | h2 | ⟨x, hx, e⟩
 ·simp at h2
 ·simp at h2
 ·rw [e]; exact h.2 x hx
theorem Sm.tidy {l : List Op} (h : Sm l) (hl : l.length < 2199023255552) (hr : rightL l = true) : Sm (tidyL l) := by
 rw [← norm_td (rightL_form hr)]
 exact (h.td hl (rightL_form hr)).norm (rightL_form (right_td hr))
theorem ch_tidy (l : List Op) : chN (tidyL l) = chU (tdU [] [] (ex l)) := by
 unfold tidyL; rw [chN_ex (form_pack _), ex_pack, chU_nf, chU_nil]; omega
end Go.Proofs.Ytacpejblnjgcoaa.P
namespace Go.Proofs.Ytacpejblnjgcoaa.P
open Go.RowKit Go.Proofs.YtacpejblnjgcoaaW.PrintWords Go.Proofs.YtacpejblnjgcoaaW.PrintLast Go.Proofs.YtacpejblnjgcoaaW.PrintMore
theorem w1 {n : Nat} (h : n ≤ 1000000) : wrap64 ((n : Int) + 1) = ((n + 1 : Nat) : Int) := by unfold wrap64; omega
end Go.Proofs.Ytacpejblnjgcoaa.P
namespace Go.Proofs.Ytacpejblnjgcoaa.P
open Go.RowKit Go.Proofs.YtacpejblnjgcoaaW.PrintWords Go.Proofs.YtacpejblnjgcoaaW.PrintLast Go.Proofs.YtacpejblnjgcoaaW.PrintMore
theorem Sm.of_wt {l : List Op} (h : (l.map wtOp).sum ≤ 1099511627776) : Sm l := by
 induction l with
 | nil => exact .nil
 | cons o l ih =>
  rw [List.map_cons, List.sum_cons] at h
  unfold wtOp at h
  obtain ⟨i1, i2⟩ := ih (by unfold wtOp; omega)
  have hl : ∀ l : List Op, l.length ≤ (l.map wtOp).sum := by
   intro l
   induction l with
   | nil => simp
   | cons x l ih => rw [List.map_cons, List.sum_cons, List.length_cons]; unfold wtOp at *; omega
  have := hl l
  unfold wtOp at this
  refine ⟨by rw [List.length_cons]; omega, fun x hx => ?_⟩
  rcases List.mem_cons.mp hx with rfl | hx
  ·omega
  ·exact i2 x hx
def fewN (l : List Op) : Nat := (l.map fun o => 1 + o.f2.size).sum
theorem fewN_le (l : List Op) : fewN l ≤ (l.map wtOp).sum := by
 induction l with
 | nil => exact Nat.le_refl _
 | cons o l ih => simp only [fewN, List.map_cons, List.sum_cons] at ih ⊢; unfold wtOp at *; omega
theorem fewN_len (l : List Op) : l.length ≤ fewN l := by
 induction l with
 | nil => exact Nat.le_refl _
 | cons o l ih => simp only [fewN, List.map_cons, List.sum_cons, List.length_cons] at ih ⊢; omega
theorem few_loop (s : List Op) : ∀ (p : List Op), fewN (p ++ s) < 4398046511104 → Ev (fun k => patchworklaw8_Few.l0 k (p ++ s) (fewN p : Int) (p.length : Int)) (decide (fewN (p ++ s) ≤ 600)) := by
 induction s with
 | nil =>
  intro p _
  refine Ev.step (fun k => rfl) ?_
  simp only [patchworklaw8_Few.l0, lt_end, if_false]
  rw [List.append_nil, show decide (fewN p ≤ 600) = decide ((fewN p : Int) ≤ 600) from by
   have : fewN p ≤ 600 ↔ (fewN p : Int) ≤ 600 := by omega
   simp only [this]]
  exact Ev.now _
 | cons o s ih =>
  intro p hb
  have e : fewN (p ++ [o]) = fewN p + (1 + o.f2.size) := by simp [fewN]
  have e2 : fewN (p ++ o :: s) = fewN p + (1 + o.f2.size) + fewN s := by simp [fewN, Nat.add_assoc]
  have hl := fewN_len (p ++ o :: s)
  have := ih (p ++ [o]) (by simpa using hb)
  rw [List.append_assoc, List.singleton_append, e] at this
  have w : wrap64 (wrap64 ((fewN p : Int) + 1) + (o.f2.size : Int)) = ((fewN p + (1 + o.f2.size) : Nat) : Int) := by unfold wrap64; omega
  refine Ev.step (fun k => rfl) ?_
  simp only [patchworklaw8_Few.l0, lt_mid, nn_nat, if_true, rdOp_mid, w, wrap_len p o (by simp at hl; omega)]
  exact this
theorem few_ev {l : List Op} (h : fewN l < 4398046511104) : Ev (fun k => patchworklaw8_Few.f k l) (decide (fewN l ≤ 600)) := few_loop l [] h
end Go.Proofs.Ytacpejblnjgcoaa.P
namespace Go.Proofs.Ytacpejblnjgcoaa.P
open Go.RowKit Go.Proofs.YtacpejblnjgcoaaW.PrintWords Go.Proofs.YtacpejblnjgcoaaW.PrintLast Go.Proofs.YtacpejblnjgcoaaW.PrintMore
theorem diff_f' {a b : List ByteArray} (ha : a.length ≤ 1000000) (hb : b.length ≤ 1000000) : lcs_Diff.f a b = some (diffOps a b) := by simp [lcs_Diff.f, ha, hb]
def tOld (l : List Op) : List ByteArray := (l.filter fun o => decide (o.f0 = 1 ∨ o.f0 = 2 ∨ o.f0 = 3)).map (·.f2)
def tNew (l : List Op) : List ByteArray := (l.filter fun o => decide (o.f0 = 1 ∨ o.f0 = 2 ∨ o.f0 = 4)).map (·.f2)
theorem tOld_len (l : List Op) : (tOld l).length ≤ l.length := by unfold tOld; rw [List.length_map]; exact List.length_filter_le _ _
theorem tNew_len (l : List Op) : (tNew l).length ≤ l.length := by unfold tNew; rw [List.length_map]; exact List.length_filter_le _ _
theorem texts_old (s : List Op) : ∀ (p : List Op) (out : List ByteArray), Sm (p ++ s) → out.length ≤ p.length → Ev (fun k => tidy_texts_ops_Old.l0 k out (p ++ s) ((p ++ s).length : Int) (p.length : Int)) (out ++ tOld s) := by
 induction s with
 | nil =>
  intro p out _ _
  refine Ev.step (fun k => rfl) ?_
  simp only [tidy_texts_ops_Old.l0, lt_end, if_false]
  simpa [tOld] using Ev.now out
 | cons o s ih =>
  intro p out hb ho
  have i := fun out => ih (p ++ [o]) out hb.snoc
  rw [List.append_assoc, List.singleton_append] at i
  have hp := hb.len
  have co : out.length < 8796093022208 := by omega
  refine Ev.step (fun k => rfl) ?_
  simp only [tidy_texts_ops_Old.l0, lt_mid, nn_nat, if_true, rdOp_mid, old_kind, Option.bind_some, decide_eq_true_eq, wrap_len p o (by omega), if_pos co]
  by_cases h : o.f0 = 1 ∨ o.f0 = 2 ∨ o.f0 = 3
  ·simp only [if_pos h]
   have := i (out ++ [o.f2]) (by simp; omega)
   have e : tOld (o :: s) = o.f2 :: tOld s := by unfold tOld; rw [List.filter_cons_of_pos (by simpa using h)]; rfl
   rw [e]; simpa using this
  ·simp only [if_neg h]
   have := i out (by simp; omega)
   have e : tOld (o :: s) = tOld s := by unfold tOld; rw [List.filter_cons_of_neg (by simpa using h)]
   rw [e]; exact this
theorem texts_new (s : List Op) : ∀ (p : List Op) (out : List ByteArray), Sm (p ++ s) → out.length ≤ p.length → Ev (fun k => tidy_texts_ops_New.l0 k out (p ++ s) ((p ++ s).length : Int) (p.length : Int)) (out ++ tNew s) := by
 induction s with
 | nil =>
  intro p out _ _
  refine Ev.step (fun k => rfl) ?_
  simp only [tidy_texts_ops_New.l0, lt_end, if_false]
  simpa [tNew] using Ev.now out
 | cons o s ih =>
  intro p out hb ho
  have i := fun out => ih (p ++ [o]) out hb.snoc
  rw [List.append_assoc, List.singleton_append] at i
  have hp := hb.len
  have co : out.length < 8796093022208 := by omega
  refine Ev.step (fun k => rfl) ?_
  simp only [tidy_texts_ops_New.l0, lt_mid, nn_nat, if_true, rdOp_mid, new_kind, Option.bind_some, decide_eq_true_eq, wrap_len p o (by omega), if_pos co]
  by_cases h : o.f0 = 1 ∨ o.f0 = 2 ∨ o.f0 = 4
  ·simp only [if_pos h]
   have := i (out ++ [o.f2]) (by simp; omega)
   have e : tNew (o :: s) = o.f2 :: tNew s := by unfold tNew; rw [List.filter_cons_of_pos (by simpa using h)]; rfl
   rw [e]; simpa using this
  ·simp only [if_neg h]
   have := i out (by simp; omega)
   have e : tNew (o :: s) = tNew s := by unfold tNew; rw [List.filter_cons_of_neg (by simpa using h)]
   rw [e]; exact this
theorem td_run : ∀ (r : List Op) (a b : List ByteArray) (s : List Op), (∀ o ∈ r, o.f0 = 2 ∨ o.f0 = 3 ∨ o.f0 = 4) → tdL a b (r ++ s) = tdL (a ++ tOld r) (b ++ tNew r) s
 | [], a, b, s, _ => by simp [tOld, tNew]
 | o :: r, a, b, s, h => by
  have ho := h o (List.mem_cons_self ..)
  have i := fun a b => td_run r a b s fun x hx => h x (List.mem_cons_of_mem _ hx)
  rw [List.cons_append, tdL, if_neg (by omega), i]
  rcases ho with hk | hk | hk
  ·rw [if_neg (by omega), if_neg (by omega), show tOld (o :: r) = o.f2 :: tOld r from by simp [tOld, hk], show tNew (o :: r) = o.f2 :: tNew r from by simp [tNew, hk]]; simp
  ·rw [if_neg (by omega), if_pos hk, show tOld (o :: r) = o.f2 :: tOld r from by simp [tOld, hk], show tNew (o :: r) = tNew r from by simp [tNew, hk]]; simp
  ·rw [if_pos hk, if_neg (by omega), show tOld (o :: r) = tOld r from by simp [tOld, hk], show tNew (o :: r) = o.f2 :: tNew r from by simp [tNew, hk]]; simp
theorem tidy_run (r : List Op) : ∀ (p s out : List Op) (from_ : Int) (v : List Op), Sm (p ++ (r ++ s)) → (∀ o ∈ r, o.f0 ≠ 1) → (∀ o t, s = o :: t → o.f0 = 1) →
  Ev (fun k => tidy_Ops.j2 k (p ++ (r ++ s)) out ((p ++ r).length : Int) from_) v → Ev (fun k => tidy_Ops.l1 k (p ++ (r ++ s)) out (p.length : Int) from_) v := by
 induction r with
 | nil =>
  intro p s out from_ v hb _ hs h
  rw [List.append_nil, List.nil_append] at h
  rw [List.nil_append]
  refine Ev.step (fun k => rfl) ?_
  cases s with
  | nil =>
   simp only [tidy_Ops.l1, lt_end, if_false]
   exact h
  | cons o t =>
   have ho := hs o t rfl
   simp only [tidy_Ops.l1, lt_mid, nn_nat, if_true, rdOp_mid, if_pos ho]
   exact h
 | cons o r ih =>
  intro p s out from_ v hb hr hs h
  have ho := hr o (List.mem_cons_self ..)
  have i := ih (p ++ [o]) s out from_ v (by simpa using hb) (fun x hx => hr x (List.mem_cons_of_mem _ hx)) hs (by simpa using h)
  rw [List.append_assoc, List.singleton_append] at i
  rw [List.cons_append] at hb ⊢
  refine Ev.step (fun k => rfl) ?_
  simp only [tidy_Ops.l1, lt_mid, nn_nat, if_true, rdOp_mid, if_neg ho, wrap_len p o (by have := hb.len; omega)]
  exact i
theorem tidy_loop : ∀ (m : Nat) (s p out v : List Op), s.length ≤ m → Sm (p ++ s) → (p ++ s).length ≤ 1000000 → (∀ o ∈ s, okOne o = true) → out.length ≤ 2 * p.length →
  Ev (fun k => ops_Norm.f k (out ++ tdL [] [] s)) v → Ev (fun k => tidy_Ops.l0 k (p ++ s) out (p.length : Int)) v := by
 intro m
 induction m with
 | zero =>
  intro s p out v hm hb hl _ _ h
  obtain rfl : s = [] := List.length_eq_zero_iff.mp (by omega)
  refine Ev.step (fun k => rfl) ?_
  simp only [tidy_Ops.l0, lt_end, if_false]
  rw [tdL, diffOps_nil_left, List.map_nil, List.append_nil] at h
  exact Ev.bind' h (Ev.now _)
 | succ m ih =>
  intro s p out v hm hb hl hok ho h
  by_cases hs : s = []
  ·subst hs
   refine Ev.step (fun k => rfl) ?_
   simp only [tidy_Ops.l0, lt_end, if_false]
   rw [tdL, diffOps_nil_left, List.map_nil, List.append_nil] at h
   exact Ev.bind' h (Ev.now _)
  have hpos : 0 < s.length := List.length_pos_iff.mpr hs
  have g : ((p.length : Int) < ((p ++ s).length : Int)) := by simp; omega
  refine Ev.step (fun k => rfl) ?_
  simp only [tidy_Ops.l0, if_pos g]
  obtain ⟨r, t, rfl, hr, ht⟩ := cut (fun o => decide (o.f0 ≠ 1)) s
  have hr1 : ∀ o ∈ r, o.f0 ≠ 1 := fun o h => by simpa using hr o h
  have ht1 : ∀ o y, t = o :: y → o.f0 = 1 := fun o y e => by simpa using ht o y e
  have hr2 : ∀ o ∈ r, o.f0 = 2 ∨ o.f0 = 3 ∨ o.f0 = 4 := fun o h => (okOne_ne (hok o (by simp [h])) (hr1 o h)).1
  rw [td_run r [] [] t hr2, List.nil_append, List.nil_append] at h
  refine tidy_run r p t out _ v hb hr1 ht1 ?_
  simp only [List.length_append] at hm hl hpos
  have c1 : (0 : Int) ≤ (p.length : Int) := by omega
  have c2 : (p.length : Int) ≤ ((p ++ r).length : Int) := by simp only [List.length_append]; omega
  have c3 : ((p ++ r).length : Int) ≤ ((p ++ (r ++ t)).length : Int) := by simp; omega
  have hcut : ((p ++ (r ++ t)).take ((p ++ r).length : Int).toNat).drop (p.length : Int).toNat = r := by
   rw [Int.toNat_natCast, Int.toNat_natCast, ← List.append_assoc, List.take_left' rfl, List.drop_left' rfl]
  have hsr : Sm r := hb.sub.left
  have e1 : Ev (fun k => tidy_texts_ops_Old.f k r) (tOld r) := by
   have := texts_old r [] [] hsr (by simp)
   simpa [tidy_texts_ops_Old.f] using this
  have e2 : Ev (fun k => tidy_texts_ops_New.f k r) (tNew r) := by
   have := texts_new r [] [] hsr (by simp)
   simpa [tidy_texts_ops_New.f] using this
  have l1 := tOld_len r
  have l2 := tNew_len r
  have l3 := diffOps_len (tOld r) (tNew r)
  have c4 : out.length + (diffOps (tOld r) (tNew r)).length < 4398046511104 := by omega
  refine Ev.step (fun k => rfl) ?_
  simp only [tidy_Ops.j2, if_pos c1, if_pos c2, if_pos c3, hcut]
  refine Ev.bind' e1 ?_
  refine Ev.bind' e2 ?_
  simp only [diff_f' (a := tOld r) (b := tNew r) (by omega) (by omega), Option.bind_some, if_pos c4]
  cases t with
  | nil =>
   have c5 : ¬ ((p ++ r).length : Int) < ((p ++ (r ++ [])).length : Int) := by simp
   have w : wrap64 (((p ++ r).length : Int) + 1) = ((p ++ r).length : Int) + 1 := by simp only [List.length_append]; unfold wrap64; omega
   have c6 : ¬ ((p ++ r).length : Int) + 1 < ((p ++ (r ++ [])).length : Int) := by simp; omega
   simp only [if_neg c5, w]
   refine Ev.step (fun k => rfl) ?_
   simp only [tidy_Ops.l0, if_neg c6]
   rw [tdL] at h
   exact Ev.bind' h (Ev.now _)
  | cons o t =>
   have c5 : ((p ++ r).length : Int) < ((p ++ (r ++ o :: t)).length : Int) := by simp; omega
   have c6 : (0 : Int) ≤ ((p ++ r).length : Int) := by omega
   have hrd : rd_Op (p ++ (r ++ o :: t)) ((p ++ r).length : Int) = o := by
    rw [← List.append_assoc]; exact rdOp_mid (p ++ r) t o
   have hw : wrap64 (((p ++ r).length : Int) + 1) = (((p ++ r) ++ [o]).length : Int) := wrap_len (p ++ r) o (by simp only [List.length_append]; omega)
   have c7 : (out ++ diffOps (tOld r) (tNew r)).length < 4398046511104 := by rw [List.length_append]; exact c4
   simp only [if_pos c5, if_pos c6, if_pos c7, hrd, hw]
   rw [tdL, if_pos (ht1 o t rfl)] at h
   have elist : p ++ (r ++ o :: t) = ((p ++ r) ++ [o]) ++ t := by simp
   rw [elist] at hb ⊢
   simp only [List.length_cons] at hm hl hpos
   refine ih t ((p ++ r) ++ [o]) _ v (by omega) hb (by simp only [List.length_append, List.length_cons, List.length_nil]; omega) (fun x hx => hok x (by simp [hx])) ?_ ?_
   ·simp only [List.length_append, List.length_cons, List.length_nil]; omega
   ·simpa using h
theorem ptidy_ev {l : List Op} (h : Sm l) (hl : l.length ≤ 1000000) : Ev (fun k => tidy_Ops.f k l) (if rightL l then tidyL l else []) := by
 refine Ev.bind' (right_ev h) ?_
 cases hr : rightL l
 ·simp only [Bool.false_eq_true, if_false]; exact Ev.now _
 ·simp only [if_true]
  have hf := rightL_form hr
  refine tidy_loop l.length l [] [] _ (Nat.le_refl _) h hl (rightL_ok hr).1 (by simp) ?_
  have := norm_ev (h.td (by omega) hf)
  rw [right_td hr, if_pos rfl, norm_td hf] at this
  exact this
theorem Sm.tidied {l : List Op} (h : Sm l) (hl : l.length ≤ 1000000) : Sm (if rightL l then tidyL l else []) := by
 split
 ·rename_i hr; exact h.tidy (by omega) hr
 ·exact .nil
end Go.Proofs.Ytacpejblnjgcoaa.P
namespace Go.Proofs.Ytacpejblnjgcoaa.P
open Go.RowKit Go.Proofs.YtacpejblnjgcoaaW.PrintWords Go.Proofs.YtacpejblnjgcoaaW.PrintLast Go.Proofs.YtacpejblnjgcoaaW.PrintMore
theorem pchanges_loop (s : List Op) : ∀ (p : List Op), Sm (p ++ s) → Ev (fun k => ops_Changes.l0 k (chN p : Int) (p ++ s) ((p ++ s).length : Int) (p.length : Int)) (chN (p ++ s) : Int) := by
 induction s with
 | nil =>
  intro p _
  refine Ev.step (fun k => rfl) ?_
  simp only [ops_Changes.l0, lt_end, if_false]
  rw [List.append_nil]
  exact Ev.now _
 | cons o s ih =>
  intro p hb
  have i := ih (p ++ [o]) hb.snoc
  rw [List.append_assoc, List.singleton_append, chN_snoc] at i
  have hp := hb.len
  have hcp := chN_le p
  have w2 : wrap64 ((chN p : Int) + 1) = ((chN p + 1 : Nat) : Int) := by unfold wrap64; omega
  refine Ev.step (fun k => rfl) ?_
  simp only [ops_Changes.l0, lt_mid, nn_nat, if_true, rdOp_mid, change_kind, Option.bind_some, wrap_len p o (by omega), w2]
  by_cases hk : o.f0 = 3 ∨ o.f0 = 4
  ·have hc : chO o = true := by simpa [chO] using hk
   simp only [hc, hk, decide_true, if_true] at i ⊢; exact i
  ·have hc : chO o = false := by simpa [chO] using hk
   simp only [hc, hk, decide_false, Bool.false_eq_true, if_false, Nat.add_zero] at i ⊢; exact i
theorem pchanges_ev {l : List Op} (h : Sm l) : Ev (fun k => ops_Changes.f k l) (chN l : Int) := pchanges_loop l [] h
end Go.Proofs.Ytacpejblnjgcoaa.P
namespace Go.Proofs.Ytacpejblnjgcoaa.P
open Go.RowKit Go.Proofs.YtacpejblnjgcoaaW.PrintWords Go.Proofs.YtacpejblnjgcoaaW.PrintLast Go.Proofs.YtacpejblnjgcoaaW.PrintMore
def idleL (l : List Op) : Bool := decide (chN (if rightL l then tidyL l else []) = 0)
theorem pidle_ev {l : List Op} (h : Sm l) (hl : l.length ≤ 1000000) : Ev (fun k => tidy_Idle.f k l) (idleL l) := by
 refine Ev.bind' (ptidy_ev h hl) ?_
 refine Ev.bind' (pchanges_ev (h.tidied hl)) ?_
 unfold idleL
 have : ((chN (if rightL l then tidyL l else []) : Int) == 0) = decide (chN (if rightL l then tidyL l else []) = 0) := by
  rw [Bool.eq_iff_iff]; simp
 rw [this]
 exact Ev.now _
theorem idle_iff {l : List Op} (hr : rightL l = true) : idleL l = decide (olds (ex l) = news (ex l)) := by
 unfold idleL
 rw [hr, if_pos rfl, ch_tidy]
 have := td_idle (ex l)
 simp only [this]
end Go.Proofs.Ytacpejblnjgcoaa.P
namespace Go.Proofs.Ytacpejblnjgcoaa.P
open Go.RowKit Go.Proofs.YtacpejblnjgcoaaW.PrintWords Go.Proofs.YtacpejblnjgcoaaW.PrintLast Go.Proofs.YtacpejblnjgcoaaW.PrintMore
theorem alive13 : Ev (fun k => patchworklaw13_alive.f k) true := by
 have s2 : Sm [(⟨3, 0, ⟨#[97, 10]⟩⟩ : Op), ⟨4, 0, ⟨#[97, 10]⟩⟩] := Sm.of_wt (by decide)
 have s1 : Sm [(⟨3, 0, ⟨#[97, 10]⟩⟩ : Op)] := Sm.of_wt (by decide)
 have r0 : rightL [] = true := by decide
 have r2 : rightL [(⟨3, 0, ⟨#[97, 10]⟩⟩ : Op), ⟨4, 0, ⟨#[97, 10]⟩⟩] = true := by decide
 have r1 : rightL [(⟨3, 0, ⟨#[97, 10]⟩⟩ : Op)] = true := by decide
 have x2 : ex [(⟨3, 0, ⟨#[97, 10]⟩⟩ : Op), ⟨4, 0, ⟨#[97, 10]⟩⟩] = [.del ⟨#[97, 10]⟩, .ins ⟨#[97, 10]⟩] := rfl
 have t2 : tidyL [(⟨3, 0, ⟨#[97, 10]⟩⟩ : Op), ⟨4, 0, ⟨#[97, 10]⟩⟩] = [⟨2, 0, ⟨#[97, 10]⟩⟩] := by
  unfold tidyL
  rw [x2, tdU, tdU, tdU, List.nil_append, dU_self]; rfl
 have i0 : idleL [] = true := by rw [idle_iff r0]; rfl
 have i2 : idleL [(⟨3, 0, ⟨#[97, 10]⟩⟩ : Op), ⟨4, 0, ⟨#[97, 10]⟩⟩] = true := by rw [idle_iff r2, x2]; rfl
 have i1 : idleL [(⟨3, 0, ⟨#[97, 10]⟩⟩ : Op)] = false := by rw [idle_iff r1]; rfl
 have e0 := pidle_ev Sm.nil (by simp)
 rw [i0] at e0
 have e2 := pidle_ev s2 (by simp)
 rw [i2] at e2
 have e3 := ptidy_ev s2 (by simp)
 rw [r2, if_pos rfl, t2] at e3
 have e1 := pidle_ev s1 (by simp)
 rw [i1] at e1
 simp only [patchworklaw13_alive.f, Option.bind_some]
 refine Ev.bind' e0 ?_
 simp only [if_true]
 refine Ev.bind' e2 ?_
 simp only [if_true]
 refine Ev.bind' e3 ?_
 have c1 : (([(⟨2, 0, ⟨#[97, 10]⟩⟩ : Op)] : List Op).length : Int) = 1 := rfl
 have c2 : (1 : Int) ≤ (([(⟨3, 0, ⟨#[97, 10]⟩⟩ : Op), ⟨4, 0, ⟨#[97, 10]⟩⟩] : List Op).length : Int) := by simp
 simp only [if_pos c1, if_pos c2, List.take_succ_cons, List.take_zero]
 exact Ev.bind' e1 (Ev.now _)
end Go.Proofs.Ytacpejblnjgcoaa.P
namespace Go.Proofs.Ytacpejblnjgcoaa.P
open Go.RowKit Go.Proofs.YtacpejblnjgcoaaW.PrintWords Go.Proofs.YtacpejblnjgcoaaW.PrintLast Go.Proofs.YtacpejblnjgcoaaW.PrintMore
def digB (d : Nat) : ByteArray := (⟨#[48, 49, 50, 51, 52, 53, 54, 55, 56, 57]⟩ : ByteArray).extract d (d + 1)
theorem dig_all : ∀ d : Fin 10, (digB d.val).size = 1 ∧ (10 : UInt8) ∉ (digB d.val).data.toList := by decide +kernel
def numF : Nat → Nat → ByteArray
 | 0, n => digB (n % 10)
 | c + 1, n => if n > 9 then numF c (n / 10) ++ digB (n % 10) else digB (n % 10)
theorem num_facts : ∀ (c n : Nat), (numF c n).size ≤ c + 1 ∧ (10 : UInt8) ∉ (numF c n).data.toList
 | 0, n => by
  have := dig_all ⟨n % 10, by omega⟩
  exact ⟨by rw [numF]; have := this.1; dsimp only at this; omega, this.2⟩
 | c + 1, n => by
  have d := dig_all ⟨n % 10, by omega⟩
  have d1 : (digB (n % 10)).size = 1 := d.1
  obtain ⟨i1, i2⟩ := num_facts c (n / 10)
  rw [numF]
  split
  ·refine ⟨by rw [ByteArray.size_append]; omega, ?_⟩
   rw [ByteArray.data_append, Array.toList_append]
   intro h
   rcases List.mem_append.mp h with h | h
   ·exact i2 h
   ·exact d.2 h
  ·exact ⟨by omega, d.2⟩
theorem num_wrap {n : Nat} (h : n < 1000000000000000000) : wrap64 (Int.tdiv (n : Int) 10) = ((n / 10 : Nat) : Int) ∧ Int.tmod (n : Int) 10 = ((n % 10 : Nat) : Int) ∧ wrap64 (((n % 10 : Nat) : Int) + 1) = ((n % 10 + 1 : Nat) : Int) := by
 have a : Int.tdiv (n : Int) 10 = ((n / 10 : Nat) : Int) := rfl
 have b : Int.tmod (n : Int) 10 = ((n % 10 : Nat) : Int) := rfl
 refine ⟨?_, b, ?_⟩
 ·rw [a, wrap_small (by omega) (by omega)]
 ·rw [wrap_small (by omega) (by omega)]; omega
theorem num_ev : ∀ (c n : Nat), c ≤ 16 → n < 10 ^ (c + 1) → Ev (fun k => patchworkref1_PutNum.f k (n : Int)) (numF c n) := by
 intro c
 induction c with
 | zero =>
  intro n _ h
  have g1 : ¬ (n : Int) ≤ -10 := by omega
  have g2 : ¬ (n : Int) < 0 := by omega
  have g3 : (0 : Int) ≤ ((n % 10 : Nat) : Int) := by omega
  have g4 : ((n % 10 : Nat) : Int) ≤ ((n % 10 + 1 : Nat) : Int) := by omega
  have g5 : ((n % 10 + 1 : Nat) : Int) ≤ 10 := by omega
  have g6 : ¬ (n : Int) > 9 := by omega
  obtain ⟨w1, w2, w3⟩ := num_wrap (n := n) (by omega)
  refine Ev.step (fun k => rfl) ?_
  simp only [patchworkref1_PutNum.f, if_neg g1, if_neg g2, w1, w2, w3, if_pos g3, if_pos g4, if_pos g5, if_neg g6, Int.toNat_natCast]
  exact Ev.now _
 | succ c ih =>
  intro n hc h
  have q2 : 10 ^ (c + 1 + 1) = 10 ^ (c + 1) * 10 := rfl
  have le : 10 ^ (c + 1 + 1) ≤ 10 ^ 17 := Nat.pow_le_pow_right (by omega) (by omega)
  have i := ih (n / 10) (by omega) (by omega)
  have g1 : ¬ (n : Int) ≤ -10 := by omega
  have g2 : ¬ (n : Int) < 0 := by omega
  have g3 : (0 : Int) ≤ ((n % 10 : Nat) : Int) := by omega
  have g4 : ((n % 10 : Nat) : Int) ≤ ((n % 10 + 1 : Nat) : Int) := by omega
  have g5 : ((n % 10 + 1 : Nat) : Int) ≤ 10 := by omega
  have f1 := (num_facts c (n / 10)).1
  have d1 : (digB (n % 10)).size = 1 := (dig_all ⟨n % 10, by omega⟩).1
  have f2 : (numF c (n / 10)).size + (digB (n % 10)).size ≤ 9223372036854775807 := by omega
  have nl : n < 1000000000000000000 := by omega
  obtain ⟨w1, w2, w3⟩ := num_wrap nl
  refine Ev.step (fun k => rfl) ?_
  rw [numF]
  by_cases h9 : n > 9
  ·have g6 : (n : Int) > 9 := by clear w1 w2 w3; omega
   simp only [patchworkref1_PutNum.f, if_neg g1, if_neg g2, w1, w2, w3, if_pos g3, if_pos g4, if_pos g5, if_pos g6, if_pos h9, Int.toNat_natCast]
   refine Ev.bind' i ?_
   show Ev (fun k => if (numF c (n / 10)).size + (digB (n % 10)).size ≤ 9223372036854775807 then some (numF c (n / 10) ++ digB (n % 10)) else none) _
   simp only [if_pos f2]
   exact Ev.now _
  ·have g6 : ¬ (n : Int) > 9 := by clear w1 w2 w3; omega
   simp only [patchworkref1_PutNum.f, if_neg g1, if_neg g2, w1, w2, w3, if_pos g3, if_pos g4, if_pos g5, if_neg g6, if_neg h9, Int.toNat_natCast]
   exact Ev.now _
end Go.Proofs.Ytacpejblnjgcoaa.P
