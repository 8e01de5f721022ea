/- Own and printed texts that the theorem of ApplyEach reaches, put together. -/
import Derived.Test.YtkalkickknjdhaaqApplyEach4
import Derived.Test.YtkalkickknjdhaaqApplyEach3
import Derived.WideShapes
import Derived.Lib.Strings
set_option linter.unusedVariables false
set_option linter.unusedSimpArgs false
namespace Go.Proofs.Ytkalkickknjdhaa.P
open Go.RowKit Go.Proofs.YtkalkickknjdhaaW.PrintWords Go.Proofs.YtkalkickknjdhaaW.PrintLast Go.Proofs.YtkalkickknjdhaaW.PrintMore
attribute [local go_sem] max2_int min2_int max_two min_two max_three min_three max_four min_four
def patchworklaw9_ApplyEach.j0 : Nat → Int → Bool → List (List (Op)) → List ByteArray → List ByteArray → Bool → Option (Bool)
 | 0, _, _, _, _, _, _ => none
 | k + 1, x0, x3, x8, x9, x10, x70 => if x70 = true then (some x3) else (if 0 ≤ x0 then (if x0 < (x8.length : Int) then (if x0 < (x9.length : Int) then ((patchworkref1_Split.f k (rdOf ByteArray.empty x9 x0)).bind fun t403 => ((apply_Do.f k (rd_L5 x8 x0) t403).bind fun bt406 => (if x0 < (x10.length : Int) then (if (rdOf ByteArray.empty x10 x0).toList = ([45] : List UInt8) then (if bt406.2 = true then (some false) else (some ((bt406.1.length : Int) == 0))) else (if bt406.2 = true then ((patchworkref1_Join.f k bt406.1).bind fun t411 => (some (t411.toList == (rdOf ByteArray.empty x10 x0).toList))) else (some false))) else (none)))) else (none)) else (none)) else (none))
def patchworklaw9_ApplyEach.f (k : Nat) (a0 : Int) : Option (Bool) := (patchworklaw9_alive.f k).bind fun t342 => ((some (([(([] : List (Op))), (([(⟨3, 0, (⟨#[97, 10]⟩ : ByteArray)⟩ : Op)] : List (Op))), (([(⟨3, 0, (⟨#[97, 10]⟩ : ByteArray)⟩ : Op)] : List (Op))), (([(⟨4, 0, (⟨#[98, 10]⟩ : ByteArray)⟩ : Op)] : List (Op))), (([(⟨1, 1, (⟨#[]⟩ : ByteArray)⟩ : Op), (⟨3, 0, (⟨#[97, 10]⟩ : ByteArray)⟩ : Op)] : List (Op))), (([(⟨1, 1, (⟨#[]⟩ : ByteArray)⟩ : Op), (⟨1, 1, (⟨#[]⟩ : ByteArray)⟩ : Op), (⟨3, 0, (⟨#[97, 10]⟩ : ByteArray)⟩ : Op)] : List (Op))), (([(⟨2, 0, (⟨#[99, 10]⟩ : ByteArray)⟩ : Op), (⟨4, 0, (⟨#[98, 10]⟩ : ByteArray)⟩ : Op)] : List (Op))), (([(⟨2, 0, (⟨#[99, 10]⟩ : ByteArray)⟩ : Op), (⟨4, 0, (⟨#[98, 10]⟩ : ByteArray)⟩ : Op)] : List (Op))), (([(⟨1, 1, (⟨#[]⟩ : ByteArray)⟩ : Op), (⟨4, 0, (⟨#[98, 10]⟩ : ByteArray)⟩ : Op)] : List (Op))), (([(⟨4, 0, (⟨#[98, 10]⟩ : ByteArray)⟩ : Op)] : List (Op))), (([(⟨4, 0, (⟨#[111]⟩ : ByteArray)⟩ : Op)] : List (Op))), (([(⟨4, 0, (⟨#[111]⟩ : ByteArray)⟩ : Op)] : List (Op))), (([(⟨2, 0, (⟨#[99]⟩ : ByteArray)⟩ : Op), (⟨4, 0, (⟨#[98, 10]⟩ : ByteArray)⟩ : Op)] : List (Op))), (([(⟨3, 0, (⟨#[99]⟩ : ByteArray)⟩ : Op), (⟨4, 0, (⟨#[99, 10]⟩ : ByteArray)⟩ : Op), (⟨4, 0, (⟨#[98, 10]⟩ : ByteArray)⟩ : Op)] : List (Op))), (([(⟨1, 1, (⟨#[]⟩ : ByteArray)⟩ : Op)] : List (Op)))] : List (List (Op))) : List (List (Op)))).bind fun y392 => ((some (([(⟨#[120, 10]⟩ : ByteArray), (⟨#[97, 10, 122, 10]⟩ : ByteArray), (⟨#[98, 10]⟩ : ByteArray), (⟨#[]⟩ : ByteArray), (⟨#[122, 10, 97, 10]⟩ : ByteArray), (⟨#[122, 10, 97, 10]⟩ : ByteArray), (⟨#[99, 10, 100, 10]⟩ : ByteArray), (⟨#[100, 10]⟩ : ByteArray), (⟨#[120]⟩ : ByteArray), (⟨#[120, 10, 121]⟩ : ByteArray), (⟨#[]⟩ : ByteArray), (⟨#[120, 10]⟩ : ByteArray), (⟨#[99]⟩ : ByteArray), (⟨#[99]⟩ : ByteArray), (⟨#[]⟩ : ByteArray)] : List ByteArray) : List ByteArray)).bind fun y395 => ((some (([(⟨#[120, 10]⟩ : ByteArray), (⟨#[122, 10]⟩ : ByteArray), (⟨#[45]⟩ : ByteArray), (⟨#[98, 10]⟩ : ByteArray), (⟨#[122, 10]⟩ : ByteArray), (⟨#[45]⟩ : ByteArray), (⟨#[99, 10, 98, 10, 100, 10]⟩ : ByteArray), (⟨#[45]⟩ : ByteArray), (⟨#[45]⟩ : ByteArray), (⟨#[98, 10, 120, 10, 121]⟩ : ByteArray), (⟨#[111]⟩ : ByteArray), (⟨#[45]⟩ : ByteArray), (⟨#[45]⟩ : ByteArray), (⟨#[99, 10, 98, 10]⟩ : ByteArray), (⟨#[45]⟩ : ByteArray)] : List ByteArray) : List ByteArray)).bind fun y398 => (if t342 = true then (if a0 < 0 then (patchworklaw9_ApplyEach.j0 k a0 t342 y392 y395 y398 true) else (patchworklaw9_ApplyEach.j0 k a0 t342 y392 y395 y398 (decide (a0 ≥ (y392.length : Int))))) else (patchworklaw9_ApplyEach.j0 k a0 t342 y392 y395 y398 true)))))
theorem patchworklaw9_ApplyEach.mono_l : ∀ k, (∀ y0 y1 y2 y3 y4 y5, LeO (patchworklaw9_ApplyEach.j0 k y0 y1 y2 y3 y4 y5) (patchworklaw9_ApplyEach.j0 (k + 1) y0 y1 y2 y3 y4 y5))
 | 0 => fun _ _ _ _ _ _ r h => by simp [patchworklaw9_ApplyEach.j0] at h
 | k + 1 => by
  have ih0 := patchworklaw9_ApplyEach.mono_l k
  ·intro y0 y1 y2 y3 y4 y5
   unfold patchworklaw9_ApplyEach.j0
   repeat' first
   | (with_reducible exact ih0 _ _ _ _ _ _)
   | (with_reducible exact apply_Do.mono _ _ _)
   | (with_reducible exact patchworklaw9_alive.mono _)
   | (with_reducible exact patchworkref1_Join.mono _ _)
   | (with_reducible exact patchworkref1_Split.mono _ _)
   | (with_reducible exact LeO.refl _)
   | (with_reducible exact LeO.none _)
   | (with_reducible refine LeO.ite ?_ ?_)
   | (with_reducible refine LeO.bind ?_ (fun _ => ?_))
   | exact ih0 _ _ _ _ _ _
   | exact apply_Do.mono _ _ _
   | exact patchworklaw9_alive.mono _
   | exact patchworkref1_Join.mono _ _
   | exact patchworkref1_Split.mono _ _
   | exact LeO.none _
   | refine LeO.ite ?_ ?_
   | refine LeO.bind ?_ (fun _ => ?_)
def patchworklaw9_ApplyEach.T11 : Bool × List (List Nat × List Nat) := (true, [([], []), ([], []), ([0, 1], [0, 1]), ([2], [2]), ([], []), ([], []), ([4, 5], [4, 5]), ([6], [6]), ([7], [7]), ([3, 8, 8], [3, 8]), ([9], [9]), ([10], [10]), ([10], [10]), ([11, 9, 0, 1, 2, 3, 4, 5, 6, 7, 8, 9, 10, 11], [11]), ([12, 13, 0, 1, 2, 3, 4, 5, 6, 7, 8, 9, 10, 11, 12, 13], [12])])
def patchworklaw9_ApplyEach.B11 : List Nat := [0, 0, 3, 7, 0, 0, 48, 112, 240, 511, 1023, 2047, 2047, 4095, 16383]
theorem patchworklaw9_ApplyEach.tab11 : rtab .any (opsOf Try.f7 11) = patchworklaw9_ApplyEach.T11 := by kernel_rfl
theorem patchworklaw9_ApplyEach.bits11 : waitsOk patchworklaw9_ApplyEach.T11.2 patchworklaw9_ApplyEach.B11 = true := by kernel_rfl
def patchworklaw9_ApplyEach.T14 : Bool × List (List Nat × List Nat) := (true, [([], []), ([0], [0]), ([1], [1]), ([2, 1, 1], [1, 2]), ([1], [1]), ([1], [1]), ([4, 5, 1], [1, 4, 5]), ([6, 1], [1, 6]), ([3, 7, 1], [1, 3, 7]), ([1, 8], [1, 8]), ([9, 3, 0, 1, 2, 3, 4, 5, 6, 7, 8, 9], [9])])
def patchworklaw9_ApplyEach.B14 : List Nat := [0, 1, 3, 7, 3, 3, 51, 115, 255, 511, 1023]
theorem patchworklaw9_ApplyEach.tab14 : rtab .any (opsOf Try.f7 14) = patchworklaw9_ApplyEach.T14 := by kernel_rfl
theorem patchworklaw9_ApplyEach.bits14 : waitsOk patchworklaw9_ApplyEach.T14.2 patchworklaw9_ApplyEach.B14 = true := by kernel_rfl
end Go.Proofs.Ytkalkickknjdhaa.P
namespace Go.Proofs.Ytkalkickknjdhaa.P
open Go.RowKit Go.Proofs.YtkalkickknjdhaaW.PrintWords Go.Proofs.YtkalkickknjdhaaW.PrintLast Go.Proofs.YtkalkickknjdhaaW.PrintMore
open Go.Proofs.YtkalkickknjdhaaW.PrintWords.Aside0 renaming mk → aM
attribute [local go_sem] max2_int min2_int max_two min_two max_three min_three max_four min_four
set_option maxHeartbeats 8000000 in
set_option maxRecDepth 100000 in
theorem patchworkref1_Split.calls (k : Nat) (a0 : ByteArray) (r : List ByteArray) (w : World) (h : patchworkref1_Split.f k a0 = some r) :
  Calls Try.prog 25 #[.string a0] w fun e w' => ∃ v0_ : Value, e = .returned (v0_) ∧ Kd.R Kd.string 9 w' w.heap.size (fun _ => True) v0_ r ∧ Below w.heap.size w w' := by
 have HB := aM (Below.refl w.heap.size w)
 have H : (patchworkref1_Split.l0 k a0 ([] : List ByteArray) 0 0) = some r := h
 clear h
 have H' := aM H
 clear H
 go_enter Try.func25, Try.ntmps25
 go_wp2
 go_loopg [3, 4, 5] k (fun kq v3 v4 v5 w' => ∃ (x3_1 : List ByteArray) (x4_1 : Int) (x5_1 : Int), v4 = .int .i64 x4_1 ∧ v5 = .int .i64 x5_1 ∧ Aside0 (patchworkref1_Split.l0 kq a0 x3_1 x4_1 x5_1 = some r) ∧ Aside0 (kq ≤ k) ∧ Aside0 (Kd.R Kd.string 9 w' w.heap.size (fun _ => True) v3 x3_1) ∧ Aside0 (Below w.heap.size w w'))
 case atStart => exact ⟨(([] : List ByteArray)), (0), (0), yE, yE, H', ⟨Nat.le_refl _⟩, ⟨by first | exact Kd.R_nil _ _ _ _ _ | exact Kd.N_nil _ _ _ _ _ | exact Kd.V_nil _ _ _ _ _ | exact Kd.Q_nil _ _ _ _ _ | exact Kd.S_nil _ _ _ _ _⟩, ⟨yB⟩⟩
 case round =>
  clear H'; obtain ⟨x3_1, x4_1, x5_1, rfl, rfl, HA, HK1, HO_3, HB⟩ := hrel; cases gk with
  | zero => exact absurd HA.out (by simp [patchworkref1_Split.l0])
  | succ k1 =>
   have H := HA.out; clear HA; simp only [patchworkref1_Split.l0] at H
   by_cases c2 : x5_1 < (a0.size : Int)
   ·rw [if_pos c2] at H
    have c2b0 := decide_eq_true c2; clear c2
    by_cases c3 : 0 ≤ x5_1
    ·rw [if_pos c3] at H
     have c3b0 := decide_eq_true c3; clear c3
     by_cases c5 : (bt a0 x5_1) = 10
     ·rw [if_pos c5] at H
      have c5b0 := beq_iff_eq.mpr c5; have c5b1 := bne_eq_false_iff_eq.mpr c5; clear c5
      by_cases c6 : 0 ≤ x4_1
      ·rw [if_pos c6] at H
       have c6b0 := eq_true c6; have c6b1 := decide_eq_true c6; clear c6
       by_cases c7 : x4_1 ≤ (wrap64 (x5_1 + 1))
       ·rw [if_pos c7] at H
        have c7b0 := eq_true c7; have c7b1 := decide_eq_true c7
        by_cases c8 : (wrap64 (x5_1 + 1)) ≤ (a0.size : Int)
        ·rw [if_pos c8] at H
         have c8b0 := eq_true c8; have c8b1 := decide_eq_true c8
         by_cases c9 : x3_1.length < 8796093022208
         ·rw [if_pos c9] at H
          have LMc9 := aM c9; clear c9; obtain ⟨y336, hy336⟩ : ∃ y_ : List ByteArray, y_ = (x3_1 ++ [a0.extract (x4_1 : Int).toNat ((wrap64 (x5_1 + 1)) : Int).toNat]) := ⟨_, rfl⟩; replace H : (patchworkref1_Split.l0 k1 a0 y336 (wrap64 (x5_1 + 1)) (wrap64 (x5_1 + 1))) = some r := yN hy336 H
          have Ny336 := aM hy336; clear hy336; have H' := aM H; clear H; have p4 : 0 ≤ (x5_1 : Int) := yO; have q4 : x5_1 < (a0.size : Int) := yO; have hx4 := bt_at a0 x5_1; replace p4 := eq_true p4; replace q4 := eq_true q4
          go_wp2_with (first | ((with_reducible refine gate_builtin (b := .append) (xs := #[.tmp 23, .tmp 29]) rfl ?_); (try (refine gate_guard (by rfl) ?_; dsimp only)); at_builtin; refine Kd.R_append Kd.string (w0 := w) w.heap.size rfl (.tmp 23) (.tmp 29) 23 9 (.string ⟨#[]⟩) 16 rfl Try.underlying23 info9 rfl (by decide) (by omega) u3 x3_1 (a0.extract (x4_1 : Int).toNat ((wrap64 (x5_1 + 1)) : Int).toNat) [.string (a0.extract (x4_1 : Int).toNat ((wrap64 (x5_1 + 1)) : Int).toNat)] (fun _ => True) (fun _ => False) rfl rfl ?aP (fun _ hk => hk.elim) ?aF ?aO ?aB ?aS ?aL ?_; (case aP => exact rfl); (case aB => exact yB); (case aF => exact (fun _ _ => trivial)); (case aO => exact (yH HO_3.out)); (case aS => exact yW); (case aL => have := LMc9.out; omega); intro v337 w10 ho hb hg hat; rw [← Ny336.out] at ho; have n0_ := aM (hb); have n1_ := aM (ho); clear HB; clear HO_3; have HB := n0_; have HO338 := n1_; clear n0_ n1_; clear ho hb hg hat))
          go_roundg k1
          case measure => have := HK1.out; omega
          case rel => exact ⟨(y336), (wrap64 (x5_1 + 1)), (wrap64 (x5_1 + 1)), yE, yE, H', ⟨by have := HK1.out; omega⟩, ⟨yH HO338.out⟩, ⟨yB⟩⟩
         ·rw [if_neg c9] at H
          exact absurd H (by simp)
        ·rw [if_neg c8] at H
         exact absurd H (by simp)
       ·rw [if_neg c7] at H
        exact absurd H (by simp)
      ·rw [if_neg c6] at H
       exact absurd H (by simp)
     ·rw [if_neg c5] at H
      have c5b0 := beq_eq_false_iff_ne.mpr c5; have c5b1 := bne_iff_ne.mpr c5
      by_cases c11 : (wrap64 (x5_1 + 1)) = (a0.size : Int)
      ·rw [if_pos c11] at H
       have c11b0 := beq_iff_eq.mpr c11; have c11b1 := bne_eq_false_iff_eq.mpr c11; clear c11
       by_cases c12 : 0 ≤ x4_1
       ·rw [if_pos c12] at H
        have c12b0 := eq_true c12; have c12b1 := decide_eq_true c12; clear c12
        by_cases c13 : x4_1 ≤ (wrap64 (x5_1 + 1))
        ·rw [if_pos c13] at H
         have c13b0 := eq_true c13; have c13b1 := decide_eq_true c13
         by_cases c14 : (wrap64 (x5_1 + 1)) ≤ (a0.size : Int)
         ·rw [if_pos c14] at H
          have c14b0 := eq_true c14; have c14b1 := decide_eq_true c14
          by_cases c15 : x3_1.length < 8796093022208
          ·rw [if_pos c15] at H
           have LMc15 := aM c15; clear c15; obtain ⟨y339, hy339⟩ : ∃ y_ : List ByteArray, y_ = (x3_1 ++ [a0.extract (x4_1 : Int).toNat ((wrap64 (x5_1 + 1)) : Int).toNat]) := ⟨_, rfl⟩; replace H : (patchworkref1_Split.l0 k1 a0 y339 (wrap64 (x5_1 + 1)) (wrap64 (x5_1 + 1))) = some r := yN hy339 H
           have Ny339 := aM hy339; clear hy339; have H' := aM H; clear H; have p4 : 0 ≤ (x5_1 : Int) := yO; have q4 : x5_1 < (a0.size : Int) := yO; have hx4 := bt_at a0 x5_1; replace p4 := eq_true p4; replace q4 := eq_true q4
           go_wp2_with (first | ((with_reducible refine gate_builtin (b := .append) (xs := #[.tmp 23, .tmp 29]) rfl ?_); (try (refine gate_guard (by rfl) ?_; dsimp only)); at_builtin; refine Kd.R_append Kd.string (w0 := w) w.heap.size rfl (.tmp 23) (.tmp 29) 23 9 (.string ⟨#[]⟩) 16 rfl Try.underlying23 info9 rfl (by decide) (by omega) u3 x3_1 (a0.extract (x4_1 : Int).toNat ((wrap64 (x5_1 + 1)) : Int).toNat) [.string (a0.extract (x4_1 : Int).toNat ((wrap64 (x5_1 + 1)) : Int).toNat)] (fun _ => True) (fun _ => False) rfl rfl ?aP (fun _ hk => hk.elim) ?aF ?aO ?aB ?aS ?aL ?_; (case aP => exact rfl); (case aB => exact yB); (case aF => exact (fun _ _ => trivial)); (case aO => exact (yH HO_3.out)); (case aS => exact yW); (case aL => have := LMc15.out; omega); intro v340 w16 ho hb hg hat; rw [← Ny339.out] at ho; have n0_ := aM (hb); have n1_ := aM (ho); clear HB; clear HO_3; have HB := n0_; have HO341 := n1_; clear n0_ n1_; clear ho hb hg hat))
           go_roundg k1
           case measure => have := HK1.out; omega
           case rel => exact ⟨(y339), (wrap64 (x5_1 + 1)), (wrap64 (x5_1 + 1)), yE, yE, H', ⟨by have := HK1.out; omega⟩, ⟨yH HO341.out⟩, ⟨yB⟩⟩
          ·rw [if_neg c15] at H
           exact absurd H (by simp)
         ·rw [if_neg c14] at H
          exact absurd H (by simp)
        ·rw [if_neg c13] at H
         exact absurd H (by simp)
       ·rw [if_neg c12] at H
        exact absurd H (by simp)
      ·rw [if_neg c11] at H
       have c11b0 := beq_eq_false_iff_ne.mpr c11; have c11b1 := bne_iff_ne.mpr c11; have H' := aM H; clear H; have p4 : 0 ≤ (x5_1 : Int) := yO; have q4 : x5_1 < (a0.size : Int) := yO; have hx4 := bt_at a0 x5_1; replace p4 := eq_true p4; replace q4 := eq_true q4
       go_wp2
       go_roundg k1
       case measure => have := HK1.out; omega
       case rel => exact ⟨(x3_1), (x4_1), (wrap64 (x5_1 + 1)), yE, yE, H', ⟨by have := HK1.out; omega⟩, ⟨yH HO_3.out⟩, ⟨yB⟩⟩
    ·rw [if_neg c3] at H
     exact absurd H (by simp)
   ·rw [if_neg c2] at H
    have c2b0 := decide_eq_false c2; clear c2; obtain rfl := Option.some.inj H
    go_wp2
    go_ret
    exact ⟨_, by first | rfl | (simp [errW_none, errW_some] <;> rfl) | (simp [*, errW_none, errW_some] <;> rfl), by (with_reducible repeat (first | apply Kd.R_alloc | apply Kd.R_drewN | apply Kd.R_drew)); exact HO_3.out, yB⟩
end Go.Proofs.Ytkalkickknjdhaa.P
namespace Go.Proofs.Ytkalkickknjdhaa.P
open Go.RowKit Go.Proofs.YtkalkickknjdhaaW.PrintWords Go.Proofs.YtkalkickknjdhaaW.PrintLast Go.Proofs.YtkalkickknjdhaaW.PrintMore
theorem txt_eq {s t : ByteArray} (h : s.toList = t.toList) : s = t := by
 rw [Lib.toList_data, Lib.toList_data] at h
 exact WideShapes.bytes_inj h
section
variable {α : Type}
theorem lt_mid (p s : List α) (x : α) : ((p.length : Int) < ((p ++ x :: s).length : Int)) = True := by simp; omega
theorem lt_end (p : List α) : ((p.length : Int) < ((p ++ ([] : List α)).length : Int)) = False := by simp
theorem nn_nat (n : Nat) : ((0 : Int) ≤ (n : Int)) = True := by simp
theorem getD_mid (p s : List α) (x d : α) : (p ++ x :: s).getD (p.length : Int).toNat d = x := by
 rw [Int.toNat_natCast, List.getD_eq_getElem?_getD, List.getElem?_append_right (Nat.le_refl _)]; simp
theorem wrap_len (p : List α) (x : α) (h : p.length < 4611686018427387904) : wrap64 ((p.length : Int) + 1) = ((p ++ [x]).length : Int) := by
 unfold wrap64; simp; omega
end
theorem rdOf_mid {α : Type} (d : α) (p s : List α) (x : α) : rdOf d (p ++ x :: s) (p.length : Int) = x := getD_mid p s x d
theorem rdOp_mid (p s : List Op) (x : Op) : rd_Op (p ++ x :: s) (p.length : Int) = x := getD_mid p s x zOp
theorem Op.ext' {a b : Op} (h0 : a.f0 = b.f0) (h1 : a.f1 = b.f1) (h2 : a.f2 = b.f2) : a = b := by cases a; cases b; simp_all
instance : DecidableEq Op := fun a b => decidable_of_iff (a.f0 = b.f0 ∧ a.f1 = b.f1 ∧ a.f2 = b.f2) ⟨fun h => Op.ext' h.1 h.2.1 h.2.2, fun h => by rw [h]; exact ⟨rfl, rfl, rfl⟩⟩
theorem Ev.bind' {α β : Type} {g : Nat → Option α} {f : Nat → α → Option β} {a : α} {r : β} (h : Ev g a) (k : Ev (fun n => f n a) r) : Ev (fun n => (g n).bind fun t => f n t) r := Ev.bind h k
end Go.Proofs.Ytkalkickknjdhaa.P
namespace Go.Proofs.Ytkalkickknjdhaa.P
open Go.RowKit Go.Proofs.YtkalkickknjdhaaW.PrintWords Go.Proofs.YtkalkickknjdhaaW.PrintLast Go.Proofs.YtkalkickknjdhaaW.PrintMore
def rightT (s : ByteArray) : Bool := decide (s.data.toList ≠ []) && decide ((10 : UInt8) ∉ s.data.toList.dropLast)
def openT (s : ByteArray) : Bool := decide (s.data.toList.getLast? ≠ some 10)
theorem toList_nil {s : ByteArray} : s.toList = ([] : List UInt8) ↔ s.data.toList = [] := by rw [Lib.toList_data]
theorem last_getD {l : List UInt8} (h : l ≠ []) : l.getLast? = some (l.getD (l.length - 1) 0) := by
 have : 0 < l.length := List.length_pos_iff.mpr h
 rw [List.getLast?_eq_getElem?, List.getElem?_eq_getElem (by omega), List.getD_eq_getElem?_getD, List.getElem?_eq_getElem (by omega)]
 rfl
theorem size_pos {s : ByteArray} (h : s.data.toList ≠ []) : 0 < s.size := by rw [← data_length]; exact List.length_pos_iff.mpr h
theorem size_zero {s : ByteArray} (h : s.data.toList = []) : s.size = 0 := by rw [← data_length, h]; rfl
theorem openT_getD {s : ByteArray} (h : s.data.toList ≠ []) : openT s = (s.data.toList.getD (s.size - 1) 0 != 10) := by
 unfold openT
 rw [last_getD h, data_length]
 generalize s.data.toList.getD (s.size - 1) 0 = x
 by_cases h2 : x = 10 <;> simp [h2]
theorem nl_list : (⟨#[10]⟩ : ByteArray).data.toList = [10] := rfl
theorem ext_list (s : ByteArray) (i j : Nat) : (s.extract i j).data.toList = (s.data.toList.take j).drop i := by
 rw [ByteArray.data_extract, Array.toList_extract, List.extract_eq_take_drop, List.drop_take]
theorem suffix_val {s : ByteArray} (hb : s.size < 4611686018427387904) : stringslite_HasSuffix.f s ⟨#[10]⟩ = some (!openT s) := by
 have h1 : ((⟨#[10]⟩ : ByteArray).size : Int) = 1 := rfl
 unfold stringslite_HasSuffix.f
 rw [h1]
 by_cases h : s.data.toList = []
 ·have h0 := size_zero h
  rw [if_neg (by omega)]
  simp [openT, h]
 ·have hp := size_pos h
  have w : wrap64 ((s.size : Int) - 1) = ((s.size - 1 : Nat) : Int) := by unfold wrap64; omega
  rw [if_pos (by omega), w, if_pos (by omega), if_pos (by omega), Int.toNat_natCast, Lib.toList_data, Lib.toList_data, ext_list, nl_list, openT_getD h]
  have hl : s.size - 1 < s.data.toList.length := by rw [data_length]; omega
  rw [List.take_of_length_le (by rw [data_length]; exact Nat.le_refl _), List.drop_eq_getElem_cons hl, List.drop_eq_nil_of_le (by rw [data_length]; omega)]
  rw [List.getD_eq_getElem?_getD, List.getElem?_eq_getElem hl]
  simp only [Option.getD_some]
  simp [bne]
theorem closed_val {s : ByteArray} (hb : s.size < 4611686018427387904) : lines_Closed.f s = some (!openT s) := by
 simp [lines_Closed.f, strings_HasSuffix.f, suffix_val hb]
theorem trim_val {s : ByteArray} (hb : s.size < 4611686018427387904) : ∃ t, strings_TrimSuffix.f s ⟨#[10]⟩ = some t ∧ (s.data.toList ≠ [] → (10 ∈ t.data.toList ↔ 10 ∈ s.data.toList.dropLast)) := by
 have h1 : ((⟨#[10]⟩ : ByteArray).size : Int) = 1 := rfl
 unfold strings_TrimSuffix.f stringslite_TrimSuffix.f
 rw [suffix_val hb]
 simp only [Option.bind_some]
 by_cases h : openT s = true
 ·refine ⟨s, by simp [h], fun hn => ?_⟩
  constructor
  ·intro hm
   have : s.data.toList = s.data.toList.dropLast ++ [s.data.toList.getLast hn] := (List.dropLast_concat_getLast hn).symm
   rw [this] at hm
   rcases List.mem_append.mp hm with hm | hm
   ·exact hm
   ·exfalso
    have e : s.data.toList.getLast hn = 10 := (List.mem_singleton.mp hm).symm
    have : s.data.toList.getLast? = some 10 := by rw [List.getLast?_eq_some_getLast hn, e]
    simp [openT, this] at h
  ·intro hm; exact (List.dropLast_sublist _).subset hm
 ·have hn : s.data.toList ≠ [] := by intro e; simp [openT, e] at h
  have hp := size_pos hn
  have w : wrap64 ((s.size : Int) - 1) = ((s.size - 1 : Nat) : Int) := by unfold wrap64; omega
  have h' : openT s = false := by simpa using h
  rw [h', h1, w]
  simp only [Bool.not_false, if_true]
  rw [if_pos (by omega), if_pos (by omega), Int.toNat_natCast]
  refine ⟨_, rfl, fun _ => ?_⟩
  rw [ext_list, List.drop_zero, List.dropLast_eq_take, data_length]
theorem linesright_val {s : ByteArray} (hb : s.size < 4611686018427387904) : lines_Right.f s = some (rightT s) := by
 unfold lines_Right.f
 by_cases h : s.data.toList = []
 ·rw [if_pos (toList_nil.mpr h)]
  simp [rightT, h]
 ·rw [if_neg (fun e => h (toList_nil.mp e))]
  obtain ⟨t, ht, hm⟩ := trim_val hb
  rw [ht]
  have : strings_Contains.f t ⟨#[10]⟩ = some (decide (10 ∈ t.data.toList)) := by simp [strings_Contains.f]
  simp only [Option.bind_some, this, rightT]
  congr 1
  by_cases c : 10 ∈ t.data.toList
  ·simp [c, (hm h).mp c]
  ·have c2 : 10 ∉ s.data.toList.dropLast := fun e => c ((hm h).mpr e)
   simp [c, c2, h]
end Go.Proofs.Ytkalkickknjdhaa.P
namespace Go.Proofs.Ytkalkickknjdhaa.P
open Go.RowKit Go.Proofs.YtkalkickknjdhaaW.PrintWords Go.Proofs.YtkalkickknjdhaaW.PrintLast Go.Proofs.YtkalkickknjdhaaW.PrintMore
def okOne (o : Op) : Bool := if o.f0 = 1 then (decide (1 ≤ o.f1) && (decide (o.f1 ≤ 2147483648) && decide (o.f2.data.toList = []))) else (decide (o.f0 = 2 ∨ o.f0 = 3 ∨ o.f0 = 4) && (decide (o.f1 = 0) && rightT o.f2))
def cnt (c : Int) (o : Op) : Nat := if o.f0 = 1 then o.f1.toNat else if o.f0 = 2 ∨ o.f0 = c then 1 else 0
def sums (c : Int) (l : List Op) : Nat := (l.map (cnt c)).sum
def far : Int := 1099511627776
def capd (c : Int) (l : List Op) : Int := min (sums c l : Int) far
def closedGo (c : Int) : Bool → List Op → Bool
 | _, [] => true
 | e, o :: l => if o.f0 = 1 ∨ o.f0 = 2 ∨ o.f0 = c then (if e = true then false else closedGo c (decide (o.f0 ≠ 1) && openT o.f2) l) else closedGo c e l
def rightL (l : List Op) : Bool := l.all okOne && (decide (capd 3 l ≤ 2147483648) && (decide (capd 4 l ≤ 2147483648) && (closedGo 3 false l && closedGo 4 false l)))
def Sm (l : List Op) : Prop := l.length < 4398046511104 ∧ ∀ o ∈ l, o.f2.size < 4611686018427387904
theorem Sm.mid {p s : List Op} {o : Op} (h : Sm (p ++ o :: s)) : o.f2.size < 4611686018427387904 := h.2 o (by simp)
theorem Sm.len {p s : List Op} {o : Op} (h : Sm (p ++ o :: s)) : p.length < 4398046511104 := by have := h.1; simp at this; omega
theorem Sm.nil : Sm [] := ⟨by simp, by simp⟩
theorem Sm.snoc {p s : List Op} {o : Op} (h : Sm (p ++ o :: s)) : Sm ((p ++ [o]) ++ s) := by rw [List.append_assoc]; exact h
theorem sums_app (c : Int) (p q : List Op) : sums c (p ++ q) = sums c p + sums c q := by simp [sums]
theorem sums_nil (c : Int) : sums c [] = 0 := rfl
theorem sums_cons (c : Int) (o : Op) (q : List Op) : sums c (o :: q) = cnt c o + sums c q := by simp [sums]
theorem capd_nil (c : Int) : capd c [] = 0 := by unfold capd far; rw [sums_nil]; omega
theorem capd_snoc (c : Int) (p : List Op) (o : Op) : capd c (p ++ [o]) = min (capd c p + (cnt c o : Int)) far := by
 unfold capd far
 rw [sums_app, sums_cons, sums_nil]
 omega
theorem capd_bd (c : Int) (p : List Op) : 0 ≤ capd c p ∧ capd c p ≤ far := by unfold capd far; omega
theorem one_val {o : Op} (hb : o.f2.size < 4611686018427387904) : ops_one.f o.f0 o.f1 o.f2 = some (okOne o) := by
 unfold ops_one.f okOne
 by_cases h1 : o.f0 = 1
 ·rw [if_pos h1, if_pos h1]
  by_cases h2 : o.f1 ≥ 1
  ·rw [if_pos h2]
   by_cases h3 : o.f1 ≤ 2147483648
   ·rw [if_pos h3]
    have h2' : 1 ≤ o.f1 := h2
    rw [Lib.toList_data]
    generalize o.f2.data.toList = z
    by_cases h4 : z = [] <;> simp [h2', h3, h4]
   ·rw [if_neg h3]; simp [h3]
  ·rw [if_neg h2]; simp; omega
 ·rw [if_neg h1, if_neg h1, linesright_val hb]
  by_cases h2 : o.f0 = 2
  ·rw [if_pos h2]
   by_cases h3 : o.f1 = 0
   ·rw [if_pos h3]; simp [h2, h3]
   ·rw [if_neg h3]; simp [h3]
  ·rw [if_neg h2]
   unfold ops_Change.f
   by_cases h4 : o.f0 = 3
   ·rw [if_pos h4]
    simp only [Option.bind_some, if_true]
    by_cases h3 : o.f1 = 0
    ·rw [if_pos h3]; simp [h4, h3]
    ·rw [if_neg h3]; simp [h3]
   ·rw [if_neg h4]
    simp only [Option.bind_some]
    by_cases h5 : o.f0 = 4
    ·rw [if_pos (by simpa using h5)]
     by_cases h3 : o.f1 = 0
     ·rw [if_pos h3]; simp [h5, h3]
     ·rw [if_neg h3]; simp [h3]
    ·rw [if_neg (by simpa using h5)]; simp [h2, h4, h5]
theorem contains_loop (s : List Op) : ∀ (p : List Op), Sm (p ++ s) → Ev (fun k => slices_IndexFunc_Op_ops_Right_1.l0 k (p ++ s) ((p ++ s).length : Int) (p.length : Int)) (if s.all okOne then (-1) else (p.length + (s.takeWhile okOne).length : Int)) := by
 induction s with
 | nil =>
  intro p _
  refine Ev.step (fun k => rfl) ?_
  simp only [slices_IndexFunc_Op_ops_Right_1.l0, lt_end, if_false, List.all_nil, if_true]
  exact Ev.now _
 | cons o s ih =>
  intro p hb
  have := ih (p ++ [o]) hb.snoc
  rw [List.append_assoc, List.singleton_append] at this
  refine Ev.step (fun k => rfl) ?_
  simp only [slices_IndexFunc_Op_ops_Right_1.l0, lt_mid, nn_nat, if_true, rdOp_mid, ops_Right_1.f, one_val hb.mid, Option.bind_some]
  cases ho : okOne o
  ·simp only [Bool.not_false, if_true, List.all_cons, ho, Bool.false_and, Bool.false_eq_true, if_false, List.takeWhile_cons]
   simpa using Ev.now _
  ·simp only [Bool.not_true, Bool.false_eq_true, if_false, List.all_cons, ho, Bool.true_and, List.takeWhile_cons, if_true]
   rw [wrap_len p o (by have := hb.len; omega)]
   have e : ((p.length : Int) + ((o :: s.takeWhile okOne).length : Int)) = (((p ++ [o]).length : Int) + ((s.takeWhile okOne).length : Int)) := by simp; omega
   rw [e]
   exact this
theorem contains_ev {l : List Op} (h : Sm l) : Ev (fun k => slices_ContainsFunc_Op_ops_Right_1.f k l) (!l.all okOne) := by
 have := contains_loop l [] h
 simp only [List.nil_append, List.length_nil, Int.natCast_zero] at this
 refine Ev.bind' this ?_
 cases ha : l.all okOne
 ·simp only [Bool.false_eq_true, if_false, Bool.not_false]
  rw [show (decide ((0 : Int) + ((l.takeWhile okOne).length : Int) ≥ 0)) = true from by simp]
  exact Ev.now _
 ·simp only [if_true, Bool.not_true]
  exact Ev.now _
theorem mn_min (a b : Int) : mn a b = min a b := by unfold mn; omega
theorem mx_max (a b : Int) : mx a b = max a b := by unfold mx; omega
theorem count_loop (c : Int) (hc : c ≠ 1) (s : List Op) : ∀ (p : List Op), Sm (p ++ s) → Ev (fun k => ops_count.l0 k c (capd c p) (p ++ s) ((p ++ s).length : Int) (p.length : Int)) (capd c (p ++ s)) := by
 induction s with
 | nil =>
  intro p _
  refine Ev.step (fun k => rfl) ?_
  simp only [ops_count.l0, lt_end, if_false]
  rw [List.append_nil]
  exact Ev.now _
 | cons o s ih =>
  intro p hb
  have := ih (p ++ [o]) hb.snoc
  rw [List.append_assoc, List.singleton_append] at this
  have hcb := capd_bd c p
  unfold far at hcb
  rw [capd_snoc] at this
  refine Ev.step (fun k => rfl) ?_
  simp only [ops_count.l0, lt_mid, nn_nat, if_true, rdOp_mid, wrap_len p o (by have := hb.len; omega)]
  by_cases h1 : o.f0 = 1
  ·simp only [if_pos h1]
   have e : mn (wrap64 (capd c p + mx 0 (mn o.f1 1099511627776))) 1099511627776 = min (capd c p + (cnt c o : Int)) far := by
    rw [mn_min, mx_max, mn_min, show cnt c o = o.f1.toNat from by simp [cnt, h1]]
    unfold far wrap64; omega
   rw [e]; exact this
  ·simp only [if_neg h1]
   by_cases h2 : o.f0 = 2
   ·simp only [if_pos h2]
    have e : mn (wrap64 (capd c p + 1)) 1099511627776 = min (capd c p + (cnt c o : Int)) far := by
     rw [mn_min, show cnt c o = 1 from by simp [cnt, h2]]
     unfold far wrap64; omega
    rw [e]; exact this
   ·simp only [if_neg h2]
    by_cases h3 : o.f0 = c
    ·simp only [if_pos h3]
     have e : mn (wrap64 (capd c p + 1)) 1099511627776 = min (capd c p + (cnt c o : Int)) far := by
      rw [mn_min, show cnt c o = 1 from by simp [cnt, h3, hc]]
      unfold far wrap64; omega
     rw [e]; exact this
    ·simp only [if_neg h3]
     have e : mn (capd c p) 1099511627776 = min (capd c p + (cnt c o : Int)) far := by
      rw [mn_min, show cnt c o = 0 from by simp [cnt, h1, h2, h3]]
      unfold far; omega
     rw [e]; exact this
theorem olds_ev {l : List Op} (h : Sm l) : Ev (fun k => ops_Olds.f k l) (capd 3 l) := by
 have := count_loop 3 (by decide) l [] h
 rw [capd_nil] at this
 simp only [List.nil_append, List.length_nil, Int.natCast_zero] at this
 exact Ev.bind' this (Ev.now _)
theorem news_ev {l : List Op} (h : Sm l) : Ev (fun k => ops_News.f k l) (capd 4 l) := by
 have := count_loop 4 (by decide) l [] h
 rw [capd_nil] at this
 simp only [List.nil_append, List.length_nil, Int.natCast_zero] at this
 exact Ev.bind' this (Ev.now _)
theorem old_kind (x : Int) : ops_Old.f x = some (decide (x = 1 ∨ x = 2 ∨ x = 3)) := by
 unfold ops_Old.f
 by_cases h1 : x = 1
 ·simp [h1]
 ·by_cases h2 : x = 2
  ·simp [h2]
  ·by_cases h3 : x = 3 <;> simp [h1, h2, h3]
theorem new_kind (x : Int) : ops_New.f x = some (decide (x = 1 ∨ x = 2 ∨ x = 4)) := by
 unfold ops_New.f
 by_cases h1 : x = 1
 ·simp [h1]
 ·by_cases h2 : x = 2
  ·simp [h2]
  ·by_cases h3 : x = 4 <;> simp [h1, h2, h3]
theorem closedOld_loop (s : List Op) : ∀ (p : List Op) (e : Bool), Sm (p ++ s) → Ev (fun k => ops_closed_ops_Old.l0 k e (p ++ s) ((p ++ s).length : Int) (p.length : Int)) (closedGo 3 e s) := by
 induction s with
 | nil =>
  intro p e _
  refine Ev.step (fun k => rfl) ?_
  simp only [ops_closed_ops_Old.l0, lt_end, if_false, closedGo]
  exact Ev.now _
 | cons o s ih =>
  intro p e hb
  have := fun e => ih (p ++ [o]) e hb.snoc
  rw [List.append_assoc, List.singleton_append] at this
  refine Ev.step (fun k => rfl) ?_
  simp only [ops_closed_ops_Old.l0, lt_mid, nn_nat, if_true, rdOp_mid, wrap_len p o (by have := hb.len; omega), old_kind, Option.bind_some, decide_eq_true_eq, closed_val hb.mid]
  by_cases h : o.f0 = 1 ∨ o.f0 = 2 ∨ o.f0 = 3
  ·simp only [if_pos h, closedGo]
   cases e
   ·simp only [Bool.false_eq_true, if_false]
    by_cases h1 : o.f0 = 1
    ·simp only [if_pos h1]
     simpa [h1] using this false
    ·simp only [if_neg h1, Bool.not_not]
     simpa [h1] using this (openT o.f2)
   ·simp only [if_true]
    exact Ev.now _
  ·simp only [if_neg h, closedGo]
   exact this e
theorem closedNew_loop (s : List Op) : ∀ (p : List Op) (e : Bool), Sm (p ++ s) → Ev (fun k => ops_closed_ops_New.l0 k e (p ++ s) ((p ++ s).length : Int) (p.length : Int)) (closedGo 4 e s) := by
 induction s with
 | nil =>
  intro p e _
  refine Ev.step (fun k => rfl) ?_
  simp only [ops_closed_ops_New.l0, lt_end, if_false, closedGo]
  exact Ev.now _
 | cons o s ih =>
  intro p e hb
  have := fun e => ih (p ++ [o]) e hb.snoc
  rw [List.append_assoc, List.singleton_append] at this
  refine Ev.step (fun k => rfl) ?_
  simp only [ops_closed_ops_New.l0, lt_mid, nn_nat, if_true, rdOp_mid, wrap_len p o (by have := hb.len; omega), new_kind, Option.bind_some, decide_eq_true_eq, closed_val hb.mid]
  by_cases h : o.f0 = 1 ∨ o.f0 = 2 ∨ o.f0 = 4
  ·simp only [if_pos h, closedGo]
   cases e
   ·simp only [Bool.false_eq_true, if_false]
    by_cases h1 : o.f0 = 1
    ·simp only [if_pos h1]
     simpa [h1] using this false
    ·simp only [if_neg h1, Bool.not_not]
     simpa [h1] using this (openT o.f2)
   ·simp only [if_true]
    exact Ev.now _
  ·simp only [if_neg h, closedGo]
   exact this e
theorem right_ev {l : List Op} (h : Sm l) : Ev (fun k => ops_Right.f k l) (rightL l) := by
 refine Ev.bind' (contains_ev h) ?_
 unfold rightL
 cases ha : l.all okOne
 ·simp only [Bool.not_false, if_true, Bool.false_and]; exact Ev.now _
 simp only [Bool.not_true, Bool.false_eq_true, if_false, Bool.true_and]
 refine Ev.bind' (olds_ev h) ?_
 by_cases h1 : capd 3 l ≤ 2147483648
 ·simp only [h1, if_true, decide_true, Bool.true_and]
  refine Ev.bind' (news_ev h) ?_
  by_cases h2 : capd 4 l ≤ 2147483648
  ·simp only [h2, if_true, decide_true, Bool.true_and]
   refine Ev.bind' (closedOld_loop l [] false h) ?_
   cases hc : closedGo 3 false l
   ·simp only [Bool.false_eq_true, if_false, Bool.false_and]; exact Ev.now _
   ·simp only [if_true, Bool.true_and]
    exact Ev.bind' (closedNew_loop l [] false h) (Ev.now _)
  ·simp only [h2, if_false, decide_false, Bool.false_and]; exact Ev.now _
 ·simp only [h1, if_false, decide_false, Bool.false_and]; exact Ev.now _
end Go.Proofs.Ytkalkickknjdhaa.P
namespace Go.Proofs.Ytkalkickknjdhaa.P
open Go.RowKit Go.Proofs.YtkalkickknjdhaaW.PrintWords Go.Proofs.YtkalkickknjdhaaW.PrintLast Go.Proofs.YtkalkickknjdhaaW.PrintMore
inductive U where
 | skip
 | keep (t : ByteArray)
 | del (t : ByteArray)
 | ins (t : ByteArray)
def exO (o : Op) : List U := if o.f0 = 1 then List.replicate o.f1.toNat .skip else if o.f0 = 2 then [.keep o.f2] else if o.f0 = 3 then [.del o.f2] else [.ins o.f2]
def ex (l : List Op) : List U := l.flatMap exO
def opU : U → Op
 | .skip => ⟨1, 1, ByteArray.empty⟩
 | .keep t => ⟨2, 0, t⟩
 | .del t => ⟨3, 0, t⟩
 | .ins t => ⟨4, 0, t⟩
def put : U → List Op → List Op
 | .skip, o :: r => if o.f0 = 1 then ⟨1, o.f1 + 1, o.f2⟩ :: r else ⟨1, 1, ByteArray.empty⟩ :: o :: r
 | u, r => opU u :: r
theorem ex_nil : ex [] = [] := rfl
theorem ex_cons (o : Op) (l : List Op) : ex (o :: l) = exO o ++ ex l := rfl
def news : List U → List (Option ByteArray)
 | [] => []
 | .skip :: u => none :: news u
 | .keep t :: u => some t :: news u
 | .del _ :: u => news u
 | .ins t :: u => some t :: news u
def AllIns (I : List U) : Prop := ∀ x ∈ I, ∃ t, x = .ins t
theorem AllIns.nil : AllIns [] := fun x h => by simp at h
theorem AllIns.snoc {I : List U} (h : AllIns I) (t : ByteArray) : AllIns (I ++ [.ins t]) := by
 intro x hx
 rcases List.mem_append.mp hx with hx | hx
 ·exact h x hx
 ·exact ⟨t, List.mem_singleton.mp hx⟩
end Go.Proofs.Ytkalkickknjdhaa.P
namespace Go.Proofs.Ytkalkickknjdhaa.P
open Go.RowKit Go.Proofs.YtkalkickknjdhaaW.PrintWords Go.Proofs.YtkalkickknjdhaaW.PrintLast Go.Proofs.YtkalkickknjdhaaW.PrintMore
theorem Sm.left {p s : List Op} (h : Sm (p ++ s)) : Sm p := ⟨by have := h.1; simp at this; omega, fun o ho => h.2 o (by simp [ho])⟩
theorem okOne_skip {o : Op} (h : okOne o = true) (hk : o.f0 = 1) : 1 ≤ o.f1 ∧ o.f1 ≤ 2147483648 ∧ o.f2 = ByteArray.empty := by
 unfold okOne at h
 rw [if_pos hk] at h
 simp only [Bool.and_eq_true, decide_eq_true_eq] at h
 refine ⟨h.1, h.2.1, WideShapes.bytes_inj ?_⟩
 rw [h.2.2]; rfl
theorem okOne_ne {o : Op} (h : okOne o = true) (hk : o.f0 ≠ 1) : (o.f0 = 2 ∨ o.f0 = 3 ∨ o.f0 = 4) ∧ o.f1 = 0 ∧ rightT o.f2 = true := by
 unfold okOne at h
 rw [if_neg hk] at h
 simpa only [Bool.and_eq_true, decide_eq_true_eq] using h
theorem cut (f : Op → Bool) : ∀ (l : List Op), ∃ r s, l = r ++ s ∧ (∀ o ∈ r, f o = true) ∧ (∀ o t, s = o :: t → f o = false)
 | [] => ⟨[], [], rfl, fun o h => by simp at h, fun o t h => by simp at h⟩
 | o :: l => by
  by_cases ho : f o = true
  ·obtain ⟨r, s, rfl, h1, h2⟩ := cut f l
   refine ⟨o :: r, s, rfl, fun x hx => ?_, h2⟩
   rcases List.mem_cons.mp hx with rfl | hx
   ·exact ho
   ·exact h1 x hx
  ·exact ⟨[], o :: l, rfl, fun x h => by simp at h, fun x t h => by obtain ⟨rfl, _⟩ := List.cons.inj h; simpa using ho⟩
theorem rightL_ok {l : List Op} (h : rightL l = true) : (∀ o ∈ l, okOne o = true) ∧ sums 3 l ≤ 2147483648 ∧ sums 4 l ≤ 2147483648 ∧ closedGo 3 false l = true ∧ closedGo 4 false l = true := by
 unfold rightL at h
 simp only [Bool.and_eq_true, decide_eq_true_eq, List.all_eq_true] at h
 obtain ⟨h1, h2, h3, h4, h5⟩ := h
 refine ⟨h1, ?_, ?_, h4, h5⟩
 ·unfold capd far at h2; omega
 ·unfold capd far at h3; omega
end Go.Proofs.Ytkalkickknjdhaa.P
namespace Go.Proofs.Ytkalkickknjdhaa.P
open Go.RowKit Go.Proofs.YtkalkickknjdhaaW.PrintWords Go.Proofs.YtkalkickknjdhaaW.PrintLast Go.Proofs.YtkalkickknjdhaaW.PrintMore
def txU : U → ByteArray
 | .skip => ByteArray.empty
 | .keep t => t
 | .del t => t
 | .ins t => t
theorem tx_ex {l : List Op} {x : U} (h : x ∈ ex l) : txU x = ByteArray.empty ∨ ∃ o ∈ l, txU x = o.f2 := by
 obtain ⟨o, ho, hx⟩ := List.mem_flatMap.mp h
 unfold exO at hx
 split at hx
 ·rw [List.eq_of_mem_replicate hx]; exact .inl rfl
 ·refine .inr ⟨o, ho, ?_⟩
  split at hx
  ·rw [List.mem_singleton.mp hx]; rfl
  ·split at hx
   ·rw [List.mem_singleton.mp hx]; rfl
   ·rw [List.mem_singleton.mp hx]; rfl
end Go.Proofs.Ytkalkickknjdhaa.P
namespace Go.Proofs.Ytkalkickknjdhaa.P
open Go.RowKit Go.Proofs.YtkalkickknjdhaaW.PrintWords Go.Proofs.YtkalkickknjdhaaW.PrintLast Go.Proofs.YtkalkickknjdhaaW.PrintMore
theorem wt_len (l : List ByteArray) : l.length ≤ (l.map (fun s => s.size + 1)).sum := by
 induction l with
 | nil => simp
 | cons x l ih => simp only [List.length_cons, List.map_cons, List.sum_cons]; omega
end Go.Proofs.Ytkalkickknjdhaa.P
namespace Go.Proofs.Ytkalkickknjdhaa.P
open Go.RowKit Go.Proofs.YtkalkickknjdhaaW.PrintWords Go.Proofs.YtkalkickknjdhaaW.PrintLast Go.Proofs.YtkalkickknjdhaaW.PrintMore
def wholeL : List ByteArray → Bool
 | [] => true
 | x :: l => rightT x && (if openT x = true ∧ l ≠ [] then false else wholeL l)
def SmT (l : List ByteArray) : Prop := l.length < 4398046511104 ∧ ∀ x ∈ l, x.size < 4611686018427387904
def BgT (l : List ByteArray) : Prop := l.length < 8796093022208 ∧ ∀ x ∈ l, x.size < 4611686018427387904
theorem SmT.big {l : List ByteArray} (h : SmT l) : BgT l := ⟨by have := h.1; omega, h.2⟩
theorem BgT.mid {p s : List ByteArray} {o : ByteArray} (h : BgT (p ++ o :: s)) : o.size < 4611686018427387904 := h.2 o (by simp)
theorem BgT.snoc {p s : List ByteArray} {o : ByteArray} (h : BgT (p ++ o :: s)) : BgT ((p ++ [o]) ++ s) := by rw [List.append_assoc]; exact h
def doU : List U → List ByteArray → Option (List ByteArray)
 | [], ls => some ls
 | .skip :: u, x :: ls => (doU u ls).map (x :: ·)
 | .keep t :: u, x :: ls => if x = t then (doU u ls).map (x :: ·) else none
 | .del t :: u, x :: ls => if x = t then doU u ls else none
 | .ins t :: u, ls => (doU u ls).map (t :: ·)
 | .skip :: _, [] => none
 | .keep _ :: _, [] => none
 | .del _ :: _, [] => none
theorem doU_skips : ∀ (n : Nat) (u : List U) (ls : List ByteArray), doU (List.replicate n .skip ++ u) ls = if ls.length < n then none else (doU u (ls.drop n)).map (ls.take n ++ ·)
 | 0, u, ls => by simp
 | n + 1, u, [] => by simp [List.replicate_succ, doU]
 | n + 1, u, x :: ls => by
  rw [List.replicate_succ, List.cons_append, doU, doU_skips n u ls]
  by_cases h : ls.length < n
  ·simp [h]
  ·simp only [h, if_false, List.length_cons, show ¬ ls.length + 1 < n + 1 from by omega, List.drop_succ_cons, List.take_succ_cons, Option.map_map, Function.comp_def, List.cons_append]
def told (out : List ByteArray) : Option (List ByteArray) → List ByteArray × Bool
 | none => ([], false)
 | some r => if wholeL (out ++ r) then (out ++ r, true) else ([], false)
theorem told_map (out a : List ByteArray) (r : Option (List ByteArray)) : told out (r.map (a ++ ·)) = told (out ++ a) r := by
 cases r with
 | none => rfl
 | some r => simp [told]
theorem told_map1 (out : List ByteArray) (x : ByteArray) (r : Option (List ByteArray)) : told out (r.map (x :: ·)) = told (out ++ [x]) r := by
 cases r with
 | none => rfl
 | some r => simp [told]
def doL (l : List Op) (ls : List ByteArray) : List ByteArray × Bool := if rightL l = true ∧ wholeL ls = true then told [] (doU (ex l) ls) else ([], false)
end Go.Proofs.Ytkalkickknjdhaa.P
namespace Go.Proofs.Ytkalkickknjdhaa.P
open Go.RowKit Go.Proofs.YtkalkickknjdhaaW.PrintWords Go.Proofs.YtkalkickknjdhaaW.PrintLast Go.Proofs.YtkalkickknjdhaaW.PrintMore
def insN : List U → Nat
 | [] => 0
 | .ins _ :: u => insN u + 1
 | .skip :: u => insN u
 | .keep _ :: u => insN u
 | .del _ :: u => insN u
theorem doU_len : ∀ (u : List U) (ls r : List ByteArray), doU u ls = some r → r.length ≤ ls.length + insN u
 | [], ls, r, h => by rw [doU] at h; rw [Option.some.inj h]; exact Nat.le_refl _
 | .ins t :: u, ls, r, h => by
  rw [doU] at h
  obtain ⟨r', h', rfl⟩ := Option.map_eq_some_iff.mp h
  have := doU_len u ls r' h'
  simp only [List.length_cons, insN]; omega
 | .del t :: u, [], r, h => by rw [doU] at h; simp at h
 | .del t :: u, x :: ls, r, h => by
  rw [doU] at h
  split at h
  ·have := doU_len u ls r h
   simp only [List.length_cons, insN]; omega
  ·simp at h
 | .keep t :: u, [], r, h => by rw [doU] at h; simp at h
 | .keep t :: u, x :: ls, r, h => by
  rw [doU] at h
  split at h
  ·obtain ⟨r', h', rfl⟩ := Option.map_eq_some_iff.mp h
   have := doU_len u ls r' h'
   simp only [List.length_cons, insN]; omega
  ·simp at h
 | .skip :: u, [], r, h => by rw [doU] at h; simp at h
 | .skip :: u, x :: ls, r, h => by
  rw [doU] at h
  obtain ⟨r', h', rfl⟩ := Option.map_eq_some_iff.mp h
  have := doU_len u ls r' h'
  simp only [List.length_cons, insN]; omega
theorem doU_mem : ∀ (u : List U) (ls r : List ByteArray), doU u ls = some r → ∀ y ∈ r, y ∈ ls ∨ ∃ x ∈ u, y = txU x
 | [], ls, r, h, y, hy => by rw [doU] at h; rw [Option.some.inj h]; exact .inl hy
 | .ins t :: u, ls, r, h, y, hy => by
  rw [doU] at h
  obtain ⟨r', h', rfl⟩ := Option.map_eq_some_iff.mp h
  rcases List.mem_cons.mp hy with rfl | hy
  ·exact .inr ⟨_, List.mem_cons_self .., rfl⟩
  ·rcases doU_mem u ls r' h' y hy with h | ⟨x, hx, e⟩
   ·exact .inl h
   ·exact .inr ⟨x, List.mem_cons_of_mem _ hx, e⟩
 | .del t :: u, [], r, h, y, hy => by rw [doU] at h; simp at h
 | .del t :: u, x :: ls, r, h, y, hy => by
  rw [doU] at h
  split at h
  ·rcases doU_mem u ls r h y hy with h | ⟨x, hx, e⟩
   ·exact .inl (List.mem_cons_of_mem _ h)
   ·exact .inr ⟨x, List.mem_cons_of_mem _ hx, e⟩
  ·simp at h
 | .keep t :: u, [], r, h, y, hy => by rw [doU] at h; simp at h
 | .keep t :: u, x :: ls, r, h, y, hy => by
  rw [doU] at h
  split at h
  ·obtain ⟨r', h', rfl⟩ := Option.map_eq_some_iff.mp h
   rcases List.mem_cons.mp hy with rfl | hy
   ·exact .inl (List.mem_cons_self ..)
   ·rcases doU_mem u ls r' h' y hy with h | ⟨x, hx, e⟩
    ·exact .inl (List.mem_cons_of_mem _ h)
    ·exact .inr ⟨x, List.mem_cons_of_mem _ hx, e⟩
  ·simp at h
 | .skip :: u, [], r, h, y, hy => by rw [doU] at h; simp at h
 | .skip :: u, x :: ls, r, h, y, hy => by
  rw [doU] at h
  obtain ⟨r', h', rfl⟩ := Option.map_eq_some_iff.mp h
  rcases List.mem_cons.mp hy with rfl | hy
  ·exact .inl (List.mem_cons_self ..)
  ·rcases doU_mem u ls r' h' y hy with h | ⟨x, hx, e⟩
   ·exact .inl (List.mem_cons_of_mem _ h)
   ·exact .inr ⟨x, List.mem_cons_of_mem _ hx, e⟩
theorem insN_app : ∀ (p q : List U), insN (p ++ q) = insN p + insN q
 | [], q => by simp [insN]
 | x :: p, q => by cases x <;> simp only [List.cons_append, insN, insN_app p q] <;> omega
theorem insN_ex : ∀ (l : List Op), insN (ex l) ≤ l.length
 | [] => Nat.le_refl _
 | o :: l => by
  have h : ∀ n, insN (List.replicate n .skip) = 0 := fun n => by
   induction n with
   | zero => rfl
   | succ n ih => rw [List.replicate_succ, insN, ih]
  have : insN (exO o) ≤ 1 := by
   unfold exO
   split
   ·rw [h]; omega
   ·split
    ·simp [insN]
    ·split <;> simp [insN]
  have := insN_ex l
  rw [ex_cons, insN_app, List.length_cons]; omega
theorem SmT.done {l : List Op} {ls r : List ByteArray} (hl : l.length ≤ 2199023255552) (h : Sm l) (hll : ls.length < 2199023255552) (hls : SmT ls) (hd : doU (ex l) ls = some r) : SmT r := by
 refine ⟨?_, fun y hy => ?_⟩
 ·have := doU_len _ _ _ hd
  have := insN_ex l
  omega
 ·rcases doU_mem _ _ _ hd y hy with h1 | ⟨x, hx, rfl⟩
  ·exact hls.2 y h1
  ·have he : ByteArray.empty.size = 0 := rfl
   rcases tx_ex hx with e | ⟨o, ho, e⟩
   ·rw [e, he]; omega
   ·rw [e]; exact h.2 o ho
theorem SmT.of_wt {l : List ByteArray} (h : (l.map fun s => s.size + 1).sum ≤ 2199023255551) : SmT l := by
 have hl := wt_len l
 refine ⟨by omega, fun x hx => ?_⟩
 have : x.size + 1 ≤ (l.map fun s => s.size + 1).sum := by
  clear h hl
  induction l with
  | nil => simp at hx
  | cons y l ih =>
   rw [List.map_cons, List.sum_cons]
   rcases List.mem_cons.mp hx with rfl | hx
   ·omega
   ·have := ih hx; omega
 omega
end Go.Proofs.Ytkalkickknjdhaa.P
namespace Go.Proofs.Ytkalkickknjdhaa.P
open Go.RowKit Go.Proofs.YtkalkickknjdhaaW.PrintWords Go.Proofs.YtkalkickknjdhaaW.PrintLast Go.Proofs.YtkalkickknjdhaaW.PrintMore
theorem Sm.of_wt {l : List Op} (h : (l.map wtOp).sum ≤ 1099511627776) : Sm l := by
 induction l with
 | nil => exact .nil
 | cons o l ih =>
  rw [List.map_cons, List.sum_cons] at h
  unfold wtOp at h
  obtain ⟨i1, i2⟩ := ih (by unfold wtOp; omega)
  have hl : ∀ l : List Op, l.length ≤ (l.map wtOp).sum := by
   intro l
   induction l with
   | nil => simp
   | cons x l ih => rw [List.map_cons, List.sum_cons, List.length_cons]; unfold wtOp at *; omega
  have := hl l
  unfold wtOp at this
  refine ⟨by rw [List.length_cons]; omega, fun x hx => ?_⟩
  rcases List.mem_cons.mp hx with rfl | hx
  ·omega
  ·exact i2 x hx
end Go.Proofs.Ytkalkickknjdhaa.P
namespace Go.Proofs.Ytkalkickknjdhaa.P
open Go.RowKit Go.Proofs.YtkalkickknjdhaaW.PrintWords Go.Proofs.YtkalkickknjdhaaW.PrintLast Go.Proofs.YtkalkickknjdhaaW.PrintMore
theorem pwhole_loop (s : List ByteArray) : ∀ (p : List ByteArray), BgT (p ++ s) → Ev (fun k => lines_Whole.l0 k (p ++ s) (p ++ s) ((p ++ s).length : Int) (p.length : Int)) (wholeL s) := by
 induction s with
 | nil =>
  intro p _
  refine Ev.step (fun k => rfl) ?_
  simp only [lines_Whole.l0, lt_end, if_false]
  exact Ev.now _
 | cons x s ih =>
  intro p hb
  have i := ih (p ++ [x]) hb.snoc
  rw [List.append_assoc, List.singleton_append] at i
  have hl := hb.1
  simp only [List.length_append, List.length_cons] at hl
  have w := wrap_len p x (by omega)
  have w2 : wrap64 (((p ++ x :: s).length : Int) - 1) = ((p.length + s.length : Nat) : Int) := by simp only [List.length_append, List.length_cons]; unfold wrap64; omega
  refine Ev.step (fun k => rfl) ?_
  simp only [lines_Whole.l0, lt_mid, nn_nat, if_true, rdOf_mid, w, w2, linesright_val hb.mid, Option.bind_some]
  unfold wholeL
  cases hr : rightT x
  ·simp only [Bool.false_eq_true, if_false, Bool.false_and]; exact Ev.now _
  simp only [if_true, Bool.true_and]
  cases s with
  | nil =>
   have c : ¬ (p.length : Int) < ((p.length + ([] : List ByteArray).length : Nat) : Int) := by simp
   simp only [if_neg c, ne_eq, not_true_eq_false, and_false, if_false]
   exact i
  | cons y s =>
   have c : (p.length : Int) < ((p.length + (y :: s).length : Nat) : Int) := by simp only [List.length_cons]; omega
   simp only [if_pos c, closed_val hb.mid, Option.bind_some]
   cases ho : openT x
   ·simp only [Bool.not_false, if_true, Bool.false_eq_true, false_and, if_false]; exact i
   ·simp only [Bool.not_true, Bool.false_eq_true, if_false, ne_eq, List.cons_ne_nil, not_false_eq_true, and_self, if_true]
    exact Ev.now _
theorem pwhole_ev {l : List ByteArray} (h : BgT l) : Ev (fun k => lines_Whole.f k l) (wholeL l) := pwhole_loop l [] h
theorem pdo_loop (s : List Op) : ∀ (p : List Op) (out rest : List ByteArray), Sm (p ++ s) → (∀ o ∈ s, okOne o = true) → out.length + rest.length + s.length < 8796093022208 → (∀ x ∈ out, x.size < 4611686018427387904) → (∀ x ∈ rest, x.size < 4611686018427387904) →
  Ev (fun k => apply_Do.l0 k out rest (p ++ s) ((p ++ s).length : Int) (p.length : Int)) (told out (doU (ex s) rest)) := by
 induction s with
 | nil =>
  intro p out rest hb _ hl ho hx
  have c3 : out.length + rest.length < 8796093022208 := by simpa using hl
  have hw : BgT (out ++ rest) := by
   refine ⟨by rw [List.length_append]; exact c3, fun x h => ?_⟩
   rcases List.mem_append.mp h with h | h
   ·exact ho x h
   ·exact hx x h
  refine Ev.step (fun k => rfl) ?_
  simp only [apply_Do.l0, lt_end, if_false, if_pos c3, Option.bind_some]
  refine Ev.bind' (pwhole_ev hw) ?_
  rw [ex_nil, doU, told]
  split <;> exact Ev.now _
 | cons o s ih =>
  intro p out rest hb hok hl ho hx
  simp only [List.length_cons] at hl
  have hp := hb.len
  have j := fun out rest => ih (p ++ [o]) out rest hb.snoc (fun x hx => hok x (List.mem_cons_of_mem _ hx))
  rw [List.append_assoc, List.singleton_append] at j
  have w := wrap_len p o (by omega)
  refine Ev.step (fun k => rfl) ?_
  simp only [apply_Do.l0, lt_mid, nn_nat, if_true, rdOp_mid]
  have hoo := hok o (List.mem_cons_self ..)
  have ne : ∀ {x : ByteArray} {y : List ByteArray}, (∀ z ∈ out ++ y, z.size < 4611686018427387904) → (∀ z ∈ out ++ y, z.size < 4611686018427387904) := fun h => h
  rw [ex_cons]
  by_cases hk : o.f0 = 1
  ·obtain ⟨h1, h2, h3⟩ := okOne_skip hoo hk
   rw [show exO o = List.replicate o.f1.toNat .skip from by simp [exO, hk], doU_skips]
   simp only [if_pos hk]
   refine Ev.step (fun k => rfl) ?_
   have hd : decide (o.f0 = 1 ∨ o.f0 = 2 ∨ o.f0 = 3) = true := by simp [hk]
   simp only [apply_Do.j2, old_kind, Option.bind_some, hd, if_true, if_pos hk]
   by_cases c : o.f1 > (rest.length : Int)
   ·simp only [if_pos c]
    rw [if_pos (by omega)]
    refine Ev.step (fun k => rfl) ?_
    simp only [apply_Do.j3, if_true]
    exact Ev.now _
   ·simp only [if_neg c]
    rw [if_neg (by omega)]
    have k3 : ¬ o.f0 = 3 := by omega
    have c1 : 0 ≤ o.f1 := by omega
    have c2 : o.f1 ≤ (rest.length : Int) := by omega
    have hlen : (rest.take o.f1.toNat).length = o.f1.toNat := by rw [List.length_take]; omega
    have c4 : out.length + (rest.take o.f1.toNat).length < 8796093022208 := by omega
    refine Ev.step (fun k => rfl) ?_
    simp only [apply_Do.j3, Bool.false_eq_true, if_false, if_neg k3, if_pos c1, if_pos c2, Option.bind_some, if_pos c4, w]
    rw [told_map]
    refine j (out ++ rest.take o.f1.toNat) (rest.drop o.f1.toNat) (by rw [List.length_append, List.length_drop]; omega) (fun x h => ?_) (fun x h => hx x (List.mem_of_mem_drop h))
    rcases List.mem_append.mp h with h | h
    ·exact ho x h
    ·exact hx x (List.mem_of_mem_take h)
  ·obtain ⟨hk2, h1, h2⟩ := okOne_ne hoo hk
   simp only [if_neg hk]
   have c0 : out.length < 8796093022208 := by omega
   have snoc : ∀ z ∈ out ++ [o.f2], z.size < 4611686018427387904 := fun z hz => by
    rcases List.mem_append.mp hz with h | h
    ·exact ho z h
    ·rw [List.mem_singleton.mp h]; exact hb.mid
   refine Ev.step (fun k => rfl) ?_
   by_cases h4 : o.f0 = 4
   ·have hd : decide (o.f0 = 1 ∨ o.f0 = 2 ∨ o.f0 = 3) = false := by simp [h4]
    rw [show exO o = [.ins o.f2] from by simp [exO, h4], List.singleton_append, doU, told_map1]
    simp only [apply_Do.j2, old_kind, Option.bind_some, hd, Bool.false_eq_true, if_false, if_pos c0, w]
    exact j (out ++ [o.f2]) rest (by rw [List.length_append, List.length_singleton]; omega) snoc hx
   ·have hd : decide (o.f0 = 1 ∨ o.f0 = 2 ∨ o.f0 = 3) = true := by simp; omega
    simp only [apply_Do.j2, old_kind, Option.bind_some, hd, if_true, if_neg hk]
    cases rest with
    | nil =>
     have c : (1 : Int) > (([] : List ByteArray).length : Int) := by simp
     have en : doU (exO o ++ ex s) [] = none := by
      rcases hk2 with h | h | h
      ·rw [show exO o = [.keep o.f2] from by simp [exO, h], List.singleton_append, doU]
      ·rw [show exO o = [.del o.f2] from by simp [exO, h], List.singleton_append, doU]
      ·exact absurd h h4
     rw [en]
     simp only [if_pos c]
     refine Ev.step (fun k => rfl) ?_
     simp only [apply_Do.j3, if_true]
     exact Ev.now _
    | cons y rest =>
     have c : ¬ (1 : Int) > ((y :: rest).length : Int) := by simp only [List.length_cons]; omega
     have c1 : (0 : Int) < ((y :: rest).length : Int) := by simp only [List.length_cons]; omega
     have c2 : (1 : Int) ≤ ((y :: rest).length : Int) := by omega
     have r : rdOf ByteArray.empty (y :: rest) 0 = y := rfl
     simp only [if_neg c, if_pos c1, r]
     simp only [List.length_cons] at hl
     refine Ev.step (fun k => rfl) ?_
     by_cases he : y = o.f2
     ·have hb2 : (y.toList != o.f2.toList) = false := by rw [he]; simp
      rcases hk2 with h | h | h
      ·have k3 : ¬ o.f0 = 3 := by omega
       rw [show exO o = [.keep o.f2] from by simp [exO, h], List.singleton_append, doU, if_pos he, told_map1]
       simp only [hb2, apply_Do.j3, Bool.false_eq_true, if_false, if_neg k3, show (0 : Int) ≤ 1 from by omega, if_true, if_pos c2, Option.bind_some, show (1 : Int).toNat = 1 from rfl, List.take_succ_cons, List.take_zero, List.drop_succ_cons, List.drop_zero, w]
       have c5 : out.length + [y].length < 8796093022208 := by simp only [List.length_singleton]; omega
       simp only [if_pos c5]
       rw [he]
       exact j (out ++ [o.f2]) rest (by rw [List.length_append, List.length_singleton]; omega) snoc (fun x h => hx x (List.mem_cons_of_mem _ h))
      ·rw [show exO o = [.del o.f2] from by simp [exO, h], List.singleton_append, doU, if_pos he]
       simp only [hb2, apply_Do.j3, Bool.false_eq_true, if_false, if_pos h, show (0 : Int) ≤ 1 from by omega, if_true, if_pos c2, show (1 : Int).toNat = 1 from rfl, List.drop_succ_cons, List.drop_zero, w]
       exact j out rest (by omega) ho (fun x h => hx x (List.mem_cons_of_mem _ h))
      ·exact absurd h h4
     ·have hb2 : (y.toList != o.f2.toList) = true := by
       rw [bne_iff_ne]; exact fun e => he (txt_eq e)
      have en : doU (exO o ++ ex s) (y :: rest) = none := by
       rcases hk2 with h | h | h
       ·rw [show exO o = [.keep o.f2] from by simp [exO, h], List.singleton_append, doU, if_neg he]
       ·rw [show exO o = [.del o.f2] from by simp [exO, h], List.singleton_append, doU, if_neg he]
       ·exact absurd h h4
      rw [en]
      simp only [hb2, apply_Do.j3, if_true]
      exact Ev.now _
theorem pdo_ev {l : List Op} {ls : List ByteArray} (h : Sm l) (hls : SmT ls) : Ev (fun k => apply_Do.f k l ls) (doL l ls) := by
 unfold doL
 refine Ev.bind' (right_ev h) ?_
 cases hr : rightL l
 ·simp only [Bool.false_eq_true, if_false, false_and]
  refine Ev.step (fun k => rfl) ?_
  simp only [apply_Do.j0, if_true]
  exact Ev.now _
 simp only [if_true, true_and]
 refine Ev.bind' (pwhole_ev hls.big) ?_
 refine Ev.step (fun k => rfl) ?_
 cases hw : wholeL ls
 ·simp only [apply_Do.j0, Bool.not_false, if_true, Bool.false_eq_true, if_false]
  exact Ev.now _
 simp only [apply_Do.j0, Bool.not_true, Bool.false_eq_true, if_false, if_true]
 have := h.1
 have := hls.1
 exact pdo_loop l [] [] ls h (rightL_ok hr).1 (by simp; omega) (by simp) hls.2
theorem pfits_ev {l : List Op} {ls : List ByteArray} (h : Sm l) (hls : SmT ls) : Ev (fun k => apply_Fits.f k l ls) (doL l ls).2 := Ev.bind' (pdo_ev h hls) (Ev.now _)
theorem alive9 : Ev (fun k => patchworklaw9_alive.f k) true := by
 have t1 : SmT [(⟨#[97, 10]⟩ : ByteArray)] := SmT.of_wt (by decide)
 have t0 : SmT [] := SmT.of_wt (by decide)
 have s1 : Sm [(⟨2, 0, ⟨#[97, 10]⟩⟩ : Op), ⟨4, 0, ⟨#[98, 10]⟩⟩] := Sm.of_wt (by decide)
 have d0 : doL [] [(⟨#[97, 10]⟩ : ByteArray)] = ([⟨#[97, 10]⟩], true) := by decide
 have d1 : doL [(⟨2, 0, ⟨#[97, 10]⟩⟩ : Op), ⟨4, 0, ⟨#[98, 10]⟩⟩] [(⟨#[97, 10]⟩ : ByteArray)] = ([⟨#[97, 10]⟩, ⟨#[98, 10]⟩], true) := by decide
 have d2 : doL [] [] = ([], true) := by decide
 have e0 := pdo_ev Sm.nil t1
 rw [d0] at e0
 have e1 := pdo_ev s1 t1
 rw [d1] at e1
 have e2 := pfits_ev Sm.nil t0
 rw [d2] at e2
 refine Ev.bind' e0 ?_
 refine Ev.bind' e1 ?_
 simp only [List.length_cons, List.length_nil, Int.natCast_add, Int.natCast_zero, show ((0 : Nat) : Int) + 1 = 1 from rfl, show ((0 : Int) + ((1 : Nat) : Int)) = 1 from rfl, if_true]
 exact Ev.bind' e2 (Ev.now _)
end Go.Proofs.Ytkalkickknjdhaa.P
