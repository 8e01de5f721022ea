/- Own and printed texts that the theorem of ApplyEach reaches, put together. -/
import Derived.Test.YtkalkickknjdhaaRows
import Derived.Test.YtkalkickknjdhaaqApplyEach2
import Derived.ProofKit
import Derived.JoinedCond
import Derived.Test.YtkalkickknjdhaaProg
import Derived.Test.YtkalkickknjdhaaqApplyEach1
import Derived.Below
import Derived.Deep.Draws
import Derived.Deep.AppendLies
import Derived.Maps.AppendAt
import Derived.OwnWalk
import Derived.Laws.BytesArg
import Derived.Laws.MakeOwn
import Derived.Laws.OwnMore
import Derived.Deep.OwnRows
import Derived.Tactics
import Derived.Lib.ConvBytes
import Derived.Laws.Slices
import Derived.WalkKit
import Derived.KernelRfl
import Derived.RowKit3
import Derived.Deep.LoopGhost
import Derived.Deep.QuietTactic
import Derived.BigQuiet
import Derived.WideLaws
import Derived.Deep.DeepCutAuto
import Derived.Deep.CutBlock
import Derived.Deep.RegionHeld3
import Derived.Laws.Rows
import Derived.Lib.AppendStr
import Derived.ArgAppend
import Derived.Laws.IdiomCopy
import Derived.OrdersHeld
import Derived.Laws.BitsLemmas
import Derived.RowKit
set_option linter.unusedVariables false
set_option linter.unusedSimpArgs false
namespace Go.Proofs.Ytkalkickknjdhaa.P
open Go.RowKit Go.Proofs.YtkalkickknjdhaaW.PrintWords Go.Proofs.YtkalkickknjdhaaW.PrintLast Go.Proofs.YtkalkickknjdhaaW.PrintMore
theorem small_all {H : Type} {ds : List (DataW H)} (hk : Rows.uptoSmall H ds = true) : Rows.uptoBulkAll ds ≤ 1048576 := of_decide_eq_true hk
end Go.Proofs.Ytkalkickknjdhaa.P
namespace Go.Proofs.Ytkalkickknjdhaa.P
open Go.RowKit Go.Proofs.YtkalkickknjdhaaW.PrintWords Go.Proofs.YtkalkickknjdhaaW.PrintLast Go.Proofs.YtkalkickknjdhaaW.PrintMore
section
variable {P : Program} {ops : Array Oper} {Q : Exit → Act → World → Prop}
theorem gate_value {rest : List Oper} {o : Oper} {a : Act} {W : World} {c : Tmp} {as_ : Array Operand} {ts : Array TypeId} (_ho : o.op = .call { callee := .value (.tmp c), args := as_, argTypes := ts }) (h : wpList P ops Q (o :: rest) a W) : wpList P ops Q (o :: rest) a W := h
theorem goesV_ {rest : List Oper} {oi : Oper} {a : Act} {w : World} (N : Option Tmp) (hd : oi.dst = N) (hg : oi.guard = none) {c : Tmp} {f : FuncId} {fn : Func} {as_ : Array Operand} {ts : Array TypeId} (hf : P.funcs[f]? = some fn) (hname : (fn.name == "runtime.NumGoroutine") = false) (hb : fn.body.isSome = true) (args : Array Value)
  (hop : oi.op = .call { callee := .value (.tmp c), args := as_, argTypes := ts }) (hv : a.eval (.tmp c) = .func (.func f) #[] #[]) (hargs : as_.map a.eval = args)
  (h : Calls P f args w fun e w' => ∃ v, e = .returned v ∧ wpList P ops Q rest (a.put N v) w') : wpList P ops Q (oi :: rest) a w := by
 refine wpList_plain hg fun K hK => ?_
 have he := enters_ hf hname hb args w
 have hrun : (execOp a.eval oi).run P w = .ok (.enter f args) w := by
  unfold execOp
  simp [hop, resolve, Deferred.ofValue, invoke, hv, hargs, he]
 unfold Oper.wp
 rw [hrun, Oper.upon_enter]
 refine h.mono fun e w'' hh => ?_
 obtain ⟨v, rfl, hk⟩ := hh
 subst hd
 exact hK _ _ hk
end
end Go.Proofs.Ytkalkickknjdhaa.P
namespace Go.Proofs.Ytkalkickknjdhaa.P
open Go.RowKit Go.Proofs.YtkalkickknjdhaaW.PrintWords Go.Proofs.YtkalkickknjdhaaW.PrintLast Go.Proofs.YtkalkickknjdhaaW.PrintMore
attribute [local go_sem] max2_int min2_int max_two min_two max_three min_three max_four min_four
def errW : Option Int → Value
 | none => .nilIface
 | some c => .iface 0 (.int .i64 c)
theorem errW_none : errW none = .nilIface := rfl
theorem errW_some (c : Int) : errW (some c) = .iface 0 (.int .i64 c) := rfl
theorem info5 : (Try.prog.info? 5).map (fun i => (i.zero, i.size, i.bytes)) = some (some (.int .u8 0), 1, 1) := by kernel_rfl
theorem info9 : (Try.prog.info? 9).map (fun i => (i.zero, i.size, i.bytes)) = some (some (.string ⟨#[]⟩), 1, 16) := by kernel_rfl
structure Op where
 f0 : Int
 f1 : Int
 f2 : ByteArray
def zOp : Op := ⟨(0 : Int), (0 : Int), (⟨#[]⟩ : ByteArray)⟩
def kOp : Kd Op := Kd.iso (Kd.pair (Kd.int .i64) (Kd.pair (Kd.int .i64) Kd.string)) (fun x : Op => (x.f0, x.f1, x.f2))
theorem kOp_open {w : World} {x : Op} {cs : List Value} (h : kOp.K w x cs) : cs = [.int .i64 x.f0, .int .i64 x.f1, .string x.f2] := by
 obtain ⟨_, _, rfl, rfl, ⟨_, _, rfl, rfl, rfl⟩⟩ := h
 exact rfl
theorem kOp_mkM (w : World) (base : Nat) (ok : Nat → Prop) (x : Op)  : kOp.M w base ok x [.int .i64 x.f0, .int .i64 x.f1, .string x.f2] := ⟨[.int .i64 x.f0], [.int .i64 x.f1, .string x.f2], rfl, rfl, ⟨[.int .i64 x.f1], [.string x.f2], rfl, rfl, rfl⟩⟩
def rd_Op (xs : List Op) (i : Int) : Op := xs.getD i.toNat zOp
theorem at_Op {w : World} {A : Option Addr} {n : Nat} {xs : List Op} (h : Kd.C kOp w A n xs) (i : Int) (h0 : 0 ≤ i) (h1 : i < n) : ∃ ad , A = some ad ∧ w.cell? (ad.add (i.toNat * 3)) = some (.int .i64 (rd_Op xs i).f0) ∧ w.cell? ⟨(ad.add (i.toNat * 3)).block, (ad.add (i.toNat * 3)).off + 1, none⟩ = some (.int .i64 (rd_Op xs i).f1) ∧ w.cell? ⟨(ad.add (i.toNat * 3)).block, (ad.add (i.toNat * 3)).off + 2, none⟩ = some (.string (rd_Op xs i).f2) := by
 obtain ⟨ad, c, e, _, hK, hc0⟩ := Kd.C_get h zOp i h0 h1
 have hc : ∀ j u, c[j]? = some u → w.cell? (ad.add (i.toNat * 3 + j)) = some u := hc0
 obtain rfl := kOp_open hK
 exact ⟨ad, e, hc 0 _ rfl, by rw [← add_field _ _ 1 (by omega)]; exact hc 1 _ rfl, by rw [← add_field _ _ 2 (by omega)]; exact hc 2 _ rfl⟩
def rd_L5 (xs : List (List Op)) (i : Int) : (List Op) := xs.getD i.toNat ([] : List Op)
theorem at_L5 {w : World} {A : Option Addr} {n : Nat} {xs : List (List Op)} (h : Kd.C (Kd.slice 34 kOp) w A n xs) (i : Int) (h0 : 0 ≤ i) (h1 : i < n) : ∃ ad A0 c0, A = some ad ∧ w.cell? (ad.add i.toNat) = some (.slice A0 (rd_L5 xs i).length c0) ∧ (rd_L5 xs i).length ≤ c0 ∧ kOp.C w A0 (rd_L5 xs i).length (rd_L5 xs i) := by
 obtain ⟨ad, c, e, _, hK, hc0⟩ := Kd.C_get h ([] : List Op) i h0 h1
 have hc : ∀ j u, c[j]? = some u → w.cell? (ad.add (i.toNat * 1 + j)) = some u := hc0
 obtain ⟨A0, c0, rfl, l0, g0⟩ := hK
 exact ⟨ad, A0, c0, e, by have hq := hc 0 _ rfl; rwa [Nat.mul_one, Nat.add_zero] at hq, l0, g0⟩
end Go.Proofs.Ytkalkickknjdhaa.P
namespace Go.Proofs.Ytkalkickknjdhaa.P
open Go.RowKit Go.Proofs.YtkalkickknjdhaaW.PrintWords Go.Proofs.YtkalkickknjdhaaW.PrintLast Go.Proofs.YtkalkickknjdhaaW.PrintMore
theorem yB {p : Prop} (h : p := by repeat (first | (with_reducible first | exact HB.out | apply below_alloc | apply pw_below_drewN | apply below_drew1) | exact HB.out)) : p := h
theorem yBg {p q : Prop} (g : q) (h : q → p := by intro g_; repeat (first | (with_reducible first | exact HB.out | apply below_alloc | apply pw_below_drewN | apply below_drew1 | refine below_set ?_ g_) | exact HB.out)) : p := h g
theorem yBh {p q q2 : Prop} (g : q) (g2 : q2) (h : q → q2 → p := by intro g_ g2_; repeat (first | (with_reducible first | exact HB.out | apply below_alloc | apply pw_below_drewN | apply below_drew1 | refine below_set ?_ g_ | refine below_set ?_ g2_) | exact HB.out)) : p := h g g2
theorem yS {p : Prop} (h : p := by rw [hg]; exact (below_size yB)) : p := h
theorem yW {p : Prop} (h : p := by exact (below_size yB)) : p := h
theorem yO {p : Prop} [Decidable p] (h : decide p = true := by first | (with_reducible assumption) | assumption) : p := of_decide_eq_true h
theorem oB {α β : Type} {o : Option α} {f : α → Option β} {b : β} (h : o.bind f = some b) : ∃ a, Aside0 (o = some a) ∧ f a = some b := by
 obtain ⟨a, h1, h2⟩ := Option.bind_eq_some_iff.mp h
 exact ⟨a, ⟨h1⟩, h2⟩
theorem oS {α β : Type} {a : α} {f : α → Option β} {b : β} (h : (some a).bind f = some b) : ∃ y, Aside0 (y = a) ∧ f y = some b := ⟨a, ⟨rfl⟩, h⟩
theorem iT {α : Type} [Decidable (true = true)] {a b c : α} (h : (if true = true then a else b) = c) : a = c := by rwa [if_pos rfl] at h
theorem iF {α : Type} [Decidable (false = true)] {a b c : α} (h : (if false = true then a else b) = c) : b = c := by rwa [if_neg Bool.false_ne_true] at h
theorem yN {p q r : Prop} (hy : q) (H : r) (h : q → r → p := by intro hy H; first | (rw [hy]; with_reducible exact H) | (have H2_ := (Option.bind_some _ _).symm.trans H; rw [hy]; with_reducible exact H2_) | (have H2_ := (Option.bind_some _ _).symm.trans H; with_reducible exact H2_) | with_reducible exact H | (rw [hy]; exact H) | exact H) : p := h hy H
theorem yC {p q : Prop} (x : q) (h : q → p := by intro x_; repeat (first | exact x_ | (with_reducible first | refine Kd.C_alloc ?_ _ | refine Kd.C_drewN ?_ _ | refine Kd.C_drew ?_))) : p := h x
theorem yG {p : Prop} (h : p := by (try simp only [List.map_toArray, List.map_cons, List.map_nil]); first | done | rfl | (simp only [List.length_drop, List.length_take]; rfl)) : p := h
theorem yK {p : Prop} (h : p := by kernel_rfl) : p := h
theorem yE {p : Prop} (h : p := by first | rfl | (simp; done) | (simp [*]; done)) : p := h
theorem yE2 {p : Prop} (h : p := by first | rfl | (simp [errW_none, errW_some] <;> rfl) | (simp [*, errW_none, errW_some] <;> rfl)) : p := h
theorem yD {p : Prop} (h : p := by repeat (first | exact Drawn0.refl _ | apply Drawn0.step)) : p := h
theorem yH {p q : Prop} (x : q) (h : q → p := by intro x_; (with_reducible repeat (first | apply Kd.R_alloc | apply Kd.R_drewN | apply Kd.R_drew)); exact x_) : p := h x
theorem yI {p : Prop} (h : p := by intro _ _ _ h; exact h) : p := h
theorem yP1 {p : Prop} (h : p := by intro w'; go_simp; with_reducible rfl) : p := h
theorem yP2 {p : Prop} (h : p := by simp only [Act.put, List.setIfInBounds_toArray, List.set_cons_zero, List.set_cons_succ, i64_w, i32_w]; rfl) : p := h
theorem yR {p : Prop} (h : p := by rfl) : p := h
theorem yQ {p : Prop} (h : p := by first | (go_simp; done) | (go_simp; rfl)) : p := h
theorem blk3 {w : World} {g : Nat} {t : TypeId} {a b c : Value} (h : w.heap[g]? = some (.cells #[a, b, c] t (0, 0))) : w.cell? ⟨g, 0, none⟩ = some a ∧ w.cell? ⟨g, 1, none⟩ = some b ∧ w.cell? ⟨g, 2, none⟩ = some c ∧ w.frozen? ⟨g, 0, none⟩ = false ∧ w.frozen? ⟨g, 1, none⟩ = false ∧ w.frozen? ⟨g, 2, none⟩ = false :=
 ⟨(blk_cell h 0).trans rfl, (blk_cell h 1).trans rfl, (blk_cell h 2).trans rfl, blk_frozen h 0, blk_frozen h 1, blk_frozen h 2⟩
theorem at_OpB {w W : World} (hB : Below w.heap.size w W) {A : Option Addr} {n : Nat} {xs : List Op} (h : Kd.C kOp w A n xs) (i : Int) (h0 : 0 ≤ i) (h1 : i < n) : ∃ ad , A = some ad ∧ W.cell? (ad.add (i.toNat * 3)) = some (.int .i64 (rd_Op xs i).f0) ∧ W.cell? ⟨(ad.add (i.toNat * 3)).block, (ad.add (i.toNat * 3)).off + 1, none⟩ = some (.int .i64 (rd_Op xs i).f1) ∧ W.cell? ⟨(ad.add (i.toNat * 3)).block, (ad.add (i.toNat * 3)).off + 2, none⟩ = some (.string (rd_Op xs i).f2) := by
 obtain ⟨ad, e, x0, x1, x2⟩ := at_Op h i h0 h1
 exact ⟨ad, e, (hB.cell (World.block_lt_of_cell? w _ x0)).trans x0, (hB.cell (World.block_lt_of_cell? w _ x1)).trans x1, (hB.cell (World.block_lt_of_cell? w _ x2)).trans x2⟩
end Go.Proofs.Ytkalkickknjdhaa.P
namespace Go.Proofs.Ytkalkickknjdhaa.P
open Go.RowKit Go.Proofs.YtkalkickknjdhaaW.PrintWords Go.Proofs.YtkalkickknjdhaaW.PrintLast Go.Proofs.YtkalkickknjdhaaW.PrintMore
def wtOp (x : Op) : Nat := 1 + 1 + (x.f2.size + 1) + 1
end Go.Proofs.Ytkalkickknjdhaa.P
