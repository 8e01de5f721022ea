/- Own and printed texts that the theorem of ApplyNeeds reaches, put together. -/
import Derived.Test.YtkalkickknjdhaaRows
import Derived.Test.YtkalkickknjdhaaqApplyNeeds2
import Derived.ProofKit
import Derived.JoinedCond
import Derived.Test.YtkalkickknjdhaaProg
import Derived.Test.YtkalkickknjdhaaqApplyNeeds1
import Derived.Below
import Derived.Deep.Draws
import Derived.Deep.AppendLies
import Derived.Maps.AppendAt
import Derived.OwnWalk
import Derived.Laws.BytesArg
import Derived.Laws.MakeOwn
import Derived.Laws.OwnMore
import Derived.Deep.OwnRows
import Derived.Tactics
import Derived.Lib.ConvBytes
import Derived.Laws.Slices
import Derived.WalkKit
import Derived.KernelRfl
import Derived.RowKit3
import Derived.Deep.LoopGhost
import Derived.Deep.QuietTactic
import Derived.BigQuiet
import Derived.WideLaws
import Derived.Deep.DeepCutAuto
import Derived.Deep.CutBlock
import Derived.Deep.RegionHeld3
import Derived.Laws.Rows
import Derived.Lib.AppendStr
import Derived.ArgAppend
import Derived.Laws.IdiomCopy
import Derived.OrdersHeld
import Derived.Laws.BitsLemmas
import Derived.RowKit
set_option linter.unusedVariables false
set_option linter.unusedSimpArgs false
namespace Go.Proofs.Ytkalkickknjdhaa.P
open Go.RowKit Go.Proofs.YtkalkickknjdhaaW.PrintWords Go.Proofs.YtkalkickknjdhaaW.PrintLast Go.Proofs.YtkalkickknjdhaaW.PrintMore
structure Opens (P : Program) (t : TypeId) {α : Type} (d : Kd α) (ok : α → Prop) (wt : α → Nat) : Prop where
 cells : P.cellsOf t = d.sz
 read : ∀ {H : Type} {enc : TypeId × Value → H} {w : World} {base : Nat} {spare : Nat → Bool} {held : Bool} {fuel : Nat} {cs : List Value} {x : DataW H × List MemPlace},
  DataW.trod enc P w base spare held fuel t cs = some x → ∃ y : α, d.K w y cs ∧ ok y ∧ wt y ≤ Rows.uptoBulk x.1
theorem gather {α β : Type} (bulk : β → Nat) (wt : α → Nat) : ∀ (es : List β) (R : Nat → β → α → Prop), (∀ i b, es[i]? = some b → ∃ y, R i b y ∧ wt y ≤ bulk b) →
  ∃ xs : List α, xs.length = es.length ∧ (∀ i b y, es[i]? = some b → xs[i]? = some y → R i b y) ∧ (xs.map wt).sum ≤ (es.map bulk).sum
 | [], R, _ => ⟨[], rfl, fun i b y h => by simp at h, by simp⟩
 | b :: es, R, h => by
  obtain ⟨y, hy, hw⟩ := h 0 b rfl
  obtain ⟨xs, hl, hx, hs⟩ := gather bulk wt es (fun i => R (i + 1)) (fun i b' hb => h (i + 1) b' (by simpa using hb))
  refine ⟨y :: xs, by simp [hl], fun i b' y' hb hy' => ?_, by simp; omega⟩
  cases i with
  | zero => simp at hb hy'; subst hb; subst hy'; exact hy
  | succ i => exact hx i b' y' (by simpa using hb) (by simpa using hy')
theorem bulkAll_map {H : Type} (es : List (DataW H × List MemPlace)) : Rows.uptoBulkAll (es.map (·.1)) = (es.map (fun e => Rows.uptoBulk e.1)).sum := by
 induction es with
 | nil => simp [Rows.uptoBulkAll]
 | cons e es ih => simp only [List.map_cons, Rows.uptoBulkAll, ih, List.sum_cons]
section
variable {P : Program} {H : Type} {enc : TypeId × Value → H} {w : World} {base : Nat} {spare : Nat → Bool} {held : Bool} {fuel : Nat}
theorem open_row {t e : TypeId} {α : Type} {d : Kd α} {ok : α → Prop} {wt : α → Nat} {cs : List Value} {x : DataW H × List MemPlace} (ht : P.underlying t = some (.slice e)) (o : Opens P e d ok wt) (h : DataW.trod enc P w base spare held fuel t cs = some x) :
  ∃ (A : Option Addr) (c : Nat) (xs : List α), cs = [.slice A xs.length c] ∧ xs.length ≤ c ∧ Kd.C d w A xs.length xs ∧ (∀ y ∈ xs, ok y) ∧ (xs.map wt).sum + 1 ≤ Rows.uptoBulk x.1 := by
 rcases DataW.trod_slice ht h with ⟨rfl, rfl⟩ | ⟨a, len, cap, elems, rest, n, _, rfl, rfl, hb, hl, hm, hlen, hel, _, _⟩
 ·exact ⟨none, 0, [], rfl, Nat.le_refl _, Kd.C_nil _ _, by simp, by simp [Rows.uptoBulk]⟩
 ·obtain ⟨xs, hxl, hx, hs⟩ := gather (fun e => Rows.uptoBulk e.1) wt elems (fun i _ y => ok y ∧ ∃ c, w.cells? base (a.add (i * P.cellsOf e)) (P.cellsOf e) = some c ∧ d.K w y c) (by
   intro i b hb'
   have hi : i < len := by have := (List.getElem?_eq_some_iff.1 hb').1; omega
   have h1 := hel i hi
   rw [hb', Option.bind_eq_some_iff] at h1
   obtain ⟨c, hc, htr⟩ := h1
   obtain ⟨y, hK, hok, hw⟩ := o.read htr
   exact ⟨y, ⟨hok, c, hc, hK⟩, hw⟩)
  have hsz : P.cellsOf e = d.sz := o.cells
  refine ⟨some a, cap, xs, by rw [hxl, hlen], by omega, ⟨rfl, by unfold maxLen at hm; omega, fun _ => ⟨a, rfl, fun j p hj => ?_⟩⟩, fun y hy => ?_, ?_⟩
  ·have hj' : j < elems.length := by have := (List.getElem?_eq_some_iff.1 hj).1; omega
   obtain ⟨_, c, hc, hK⟩ := hx j _ p (List.getElem?_eq_getElem hj') hj
   refine ⟨c, d.K_len hK, hK, fun i u hu => ?_⟩
   have hi : i < d.sz := by have := (List.getElem?_eq_some_iff.1 hu).1; rw [d.K_len hK] at this; exact this
   have h2 := (World.cells?_some hc).2.2 i (by omega)
   rw [hu] at h2
   rw [← h2, hsz, Addr.add_add]
  ·obtain ⟨j, hj, rfl⟩ := List.getElem_of_mem hy
   exact (hx j _ _ (List.getElem?_eq_getElem (by omega)) (List.getElem?_eq_getElem hj)).1
  ·simp only [Rows.uptoBulk, bulkAll_map]; omega
end
theorem opens_int {P : Program} {t : TypeId} {k : IntKind} (ht : P.underlying t = some (.int k)) (hc : P.cellsOf t = 1) : Opens P t (Kd.int k) (fun n => (Lit.int k n).wf = true) (fun _ => 1) :=
 ⟨hc, fun h => by
  obtain ⟨n, rfl, rfl, hw⟩ := DataW.trod_int ht h
  exact ⟨n, rfl, hw, by simp [Rows.uptoBulk]⟩⟩
theorem opens_string {P : Program} {t : TypeId} (ht : P.underlying t = some .string) (hc : P.cellsOf t = 1) : Opens P t Kd.string (fun _ => True) (fun s => s.size + 1) :=
 ⟨hc, fun h => by
  obtain ⟨s, rfl, rfl, _⟩ := DataW.trod_string ht h
  exact ⟨s, rfl, trivial, by simp [Rows.uptoBulk]⟩⟩
theorem opens_struct3 {P : Program} {t : TypeId} {f0 f1 f2 : Field} {α α0 α1 α2 : Type} {d0 : Kd α0} {d1 : Kd α1} {d2 : Kd α2} {ok0 : α0 → Prop} {ok1 : α1 → Prop} {ok2 : α2 → Prop} {wt0 : α0 → Nat} {wt1 : α1 → Nat} {wt2 : α2 → Nat}
  (ht : P.underlying t = some (.struct #[f0, f1, f2])) (hc : P.cellsOf t = 3) (ho0 : f0.offset = 0) (ho1 : f1.offset = 1) (ho2 : f2.offset = 2) (hs0 : d0.sz = 1) (hs1 : d1.sz = 1) (hs2 : d2.sz = 1)
  (o0 : Opens P f0.type d0 ok0 wt0) (o1 : Opens P f1.type d1 ok1 wt1) (o2 : Opens P f2.type d2 ok2 wt2) (f : α → α0 × α1 × α2) (g : α0 → α1 → α2 → α) (hg : ∀ a b c, f (g a b c) = (a, b, c)) :
  Opens P t (Kd.iso (Kd.pair d0 (Kd.pair d1 d2)) f) (fun x => ok0 (f x).1 ∧ ok1 (f x).2.1 ∧ ok2 (f x).2.2) (fun x => wt0 (f x).1 + wt1 (f x).2.1 + wt2 (f x).2.2 + 1) :=
 ⟨by show P.cellsOf t = d0.sz + (d1.sz + d2.sz); omega, fun h => by
  obtain ⟨xs, n, _, rfl, hl, hn, hf⟩ := DataW.trod_struct ht h
  rename_i cs _
  rw [hc] at hl
  match cs, hl, xs, hn with
  | [c0, c1, c2], _, [x0, x1, x2], _ =>
   have g0 := hf 0 f0 rfl
   have g1 := hf 1 f1 rfl
   have g2 := hf 2 f2 rfl
   rw [ho0, o0.cells, hs0] at g0
   rw [ho1, o1.cells, hs1] at g1
   rw [ho2, o2.cells, hs2] at g2
   simp only [List.drop_zero, List.drop_succ_cons, List.take_succ_cons, List.take_zero, List.getElem?_cons_zero, List.getElem?_cons_succ] at g0 g1 g2
   obtain ⟨y0, k0, p0, w0⟩ := o0.read g0
   obtain ⟨y1, k1, p1, w1⟩ := o1.read g1
   obtain ⟨y2, k2, p2, w2⟩ := o2.read g2
   refine ⟨g y0 y1 y2, ?_, ?_, ?_⟩
   ·show (Kd.pair d0 (Kd.pair d1 d2)).K _ (f (g y0 y1 y2)) [c0, c1, c2]
    rw [hg]
    exact ⟨[c0], [c1, c2], rfl, k0, ⟨[c1], [c2], rfl, k1, k2⟩⟩
   ·rw [hg]; exact ⟨p0, p1, p2⟩
   ·rw [hg]; simp only [Rows.uptoBulk, Rows.uptoBulkAll, List.map_cons, List.map_nil]; omega⟩
theorem small_all {H : Type} {ds : List (DataW H)} (hk : Rows.uptoSmall H ds = true) : Rows.uptoBulkAll ds ≤ 1048576 := of_decide_eq_true hk
end Go.Proofs.Ytkalkickknjdhaa.P
namespace Go.Proofs.Ytkalkickknjdhaa.P
open Go.RowKit Go.Proofs.YtkalkickknjdhaaW.PrintWords Go.Proofs.YtkalkickknjdhaaW.PrintLast Go.Proofs.YtkalkickknjdhaaW.PrintMore
section
variable {P : Program} {ops : Array Oper} {Q : Exit → Act → World → Prop}
theorem gate_value {rest : List Oper} {o : Oper} {a : Act} {W : World} {c : Tmp} {as_ : Array Operand} {ts : Array TypeId} (_ho : o.op = .call { callee := .value (.tmp c), args := as_, argTypes := ts }) (h : wpList P ops Q (o :: rest) a W) : wpList P ops Q (o :: rest) a W := h
theorem goesV_ {rest : List Oper} {oi : Oper} {a : Act} {w : World} (N : Option Tmp) (hd : oi.dst = N) (hg : oi.guard = none) {c : Tmp} {f : FuncId} {fn : Func} {as_ : Array Operand} {ts : Array TypeId} (hf : P.funcs[f]? = some fn) (hname : (fn.name == "runtime.NumGoroutine") = false) (hb : fn.body.isSome = true) (args : Array Value)
  (hop : oi.op = .call { callee := .value (.tmp c), args := as_, argTypes := ts }) (hv : a.eval (.tmp c) = .func (.func f) #[] #[]) (hargs : as_.map a.eval = args)
  (h : Calls P f args w fun e w' => ∃ v, e = .returned v ∧ wpList P ops Q rest (a.put N v) w') : wpList P ops Q (oi :: rest) a w := by
 refine wpList_plain hg fun K hK => ?_
 have he := enters_ hf hname hb args w
 have hrun : (execOp a.eval oi).run P w = .ok (.enter f args) w := by
  unfold execOp
  simp [hop, resolve, Deferred.ofValue, invoke, hv, hargs, he]
 unfold Oper.wp
 rw [hrun, Oper.upon_enter]
 refine h.mono fun e w'' hh => ?_
 obtain ⟨v, rfl, hk⟩ := hh
 subst hd
 exact hK _ _ hk
end
end Go.Proofs.Ytkalkickknjdhaa.P
namespace Go.Proofs.Ytkalkickknjdhaa.P
open Go.RowKit Go.Proofs.YtkalkickknjdhaaW.PrintWords Go.Proofs.YtkalkickknjdhaaW.PrintLast Go.Proofs.YtkalkickknjdhaaW.PrintMore
attribute [local go_sem] max2_int min2_int max_two min_two max_three min_three max_four min_four
def errW : Option Int → Value
 | none => .nilIface
 | some c => .iface 0 (.int .i64 c)
theorem errW_none : errW none = .nilIface := rfl
theorem errW_some (c : Int) : errW (some c) = .iface 0 (.int .i64 c) := rfl
theorem info5 : (Try.prog.info? 5).map (fun i => (i.zero, i.size, i.bytes)) = some (some (.int .u8 0), 1, 1) := by kernel_rfl
theorem info9 : (Try.prog.info? 9).map (fun i => (i.zero, i.size, i.bytes)) = some (some (.string ⟨#[]⟩), 1, 16) := by kernel_rfl
structure Op where
 f0 : Int
 f1 : Int
 f2 : ByteArray
def zOp : Op := ⟨(0 : Int), (0 : Int), (⟨#[]⟩ : ByteArray)⟩
def kOp : Kd Op := Kd.iso (Kd.pair (Kd.int .i64) (Kd.pair (Kd.int .i64) Kd.string)) (fun x : Op => (x.f0, x.f1, x.f2))
theorem kOp_open {w : World} {x : Op} {cs : List Value} (h : kOp.K w x cs) : cs = [.int .i64 x.f0, .int .i64 x.f1, .string x.f2] := by
 obtain ⟨_, _, rfl, rfl, ⟨_, _, rfl, rfl, rfl⟩⟩ := h
 exact rfl
theorem kOp_mkM (w : World) (base : Nat) (ok : Nat → Prop) (x : Op)  : kOp.M w base ok x [.int .i64 x.f0, .int .i64 x.f1, .string x.f2] := ⟨[.int .i64 x.f0], [.int .i64 x.f1, .string x.f2], rfl, rfl, ⟨[.int .i64 x.f1], [.string x.f2], rfl, rfl, rfl⟩⟩
def rd_Op (xs : List Op) (i : Int) : Op := xs.getD i.toNat zOp
theorem at_Op {w : World} {A : Option Addr} {n : Nat} {xs : List Op} (h : Kd.C kOp w A n xs) (i : Int) (h0 : 0 ≤ i) (h1 : i < n) : ∃ ad , A = some ad ∧ w.cell? (ad.add (i.toNat * 3)) = some (.int .i64 (rd_Op xs i).f0) ∧ w.cell? ⟨(ad.add (i.toNat * 3)).block, (ad.add (i.toNat * 3)).off + 1, none⟩ = some (.int .i64 (rd_Op xs i).f1) ∧ w.cell? ⟨(ad.add (i.toNat * 3)).block, (ad.add (i.toNat * 3)).off + 2, none⟩ = some (.string (rd_Op xs i).f2) := by
 obtain ⟨ad, c, e, _, hK, hc0⟩ := Kd.C_get h zOp i h0 h1
 have hc : ∀ j u, c[j]? = some u → w.cell? (ad.add (i.toNat * 3 + j)) = some u := hc0
 obtain rfl := kOp_open hK
 exact ⟨ad, e, hc 0 _ rfl, by rw [← add_field _ _ 1 (by omega)]; exact hc 1 _ rfl, by rw [← add_field _ _ 2 (by omega)]; exact hc 2 _ rfl⟩
end Go.Proofs.Ytkalkickknjdhaa.P
namespace Go.Proofs.Ytkalkickknjdhaa.P
open Go.RowKit Go.Proofs.YtkalkickknjdhaaW.PrintWords Go.Proofs.YtkalkickknjdhaaW.PrintLast Go.Proofs.YtkalkickknjdhaaW.PrintMore
theorem yB {p : Prop} (h : p := by repeat (first | (with_reducible first | exact HB.out | apply below_alloc | apply pw_below_drewN | apply below_drew1) | exact HB.out)) : p := h
theorem yBg {p q : Prop} (g : q) (h : q → p := by intro g_; repeat (first | (with_reducible first | exact HB.out | apply below_alloc | apply pw_below_drewN | apply below_drew1 | refine below_set ?_ g_) | exact HB.out)) : p := h g
theorem yS {p : Prop} (h : p := by rw [hg]; exact (below_size yB)) : p := h
theorem yW {p : Prop} (h : p := by exact (below_size yB)) : p := h
theorem yO {p : Prop} [Decidable p] (h : decide p = true := by first | (with_reducible assumption) | assumption) : p := of_decide_eq_true h
theorem oB {α β : Type} {o : Option α} {f : α → Option β} {b : β} (h : o.bind f = some b) : ∃ a, Aside0 (o = some a) ∧ f a = some b := by
 obtain ⟨a, h1, h2⟩ := Option.bind_eq_some_iff.mp h
 exact ⟨a, ⟨h1⟩, h2⟩
theorem oS {α β : Type} {a : α} {f : α → Option β} {b : β} (h : (some a).bind f = some b) : ∃ y, Aside0 (y = a) ∧ f y = some b := ⟨a, ⟨rfl⟩, h⟩
theorem iT {α : Type} [Decidable (true = true)] {a b c : α} (h : (if true = true then a else b) = c) : a = c := by rwa [if_pos rfl] at h
theorem iF {α : Type} [Decidable (false = true)] {a b c : α} (h : (if false = true then a else b) = c) : b = c := by rwa [if_neg Bool.false_ne_true] at h
theorem yN {p q r : Prop} (hy : q) (H : r) (h : q → r → p := by intro hy H; first | (rw [hy]; with_reducible exact H) | (have H2_ := (Option.bind_some _ _).symm.trans H; rw [hy]; with_reducible exact H2_) | (have H2_ := (Option.bind_some _ _).symm.trans H; with_reducible exact H2_) | with_reducible exact H | (rw [hy]; exact H) | exact H) : p := h hy H
theorem yC {p q : Prop} (x : q) (h : q → p := by intro x_; repeat (first | exact x_ | (with_reducible first | refine Kd.C_alloc ?_ _ | refine Kd.C_drewN ?_ _ | refine Kd.C_drew ?_))) : p := h x
theorem yG {p : Prop} (h : p := by (try simp only [List.map_toArray, List.map_cons, List.map_nil]); first | done | rfl | (simp only [List.length_drop, List.length_take]; rfl)) : p := h
theorem yK {p : Prop} (h : p := by kernel_rfl) : p := h
theorem yE {p : Prop} (h : p := by first | rfl | (simp; done) | (simp [*]; done)) : p := h
theorem yE2 {p : Prop} (h : p := by first | rfl | (simp [errW_none, errW_some] <;> rfl) | (simp [*, errW_none, errW_some] <;> rfl)) : p := h
theorem yD {p : Prop} (h : p := by repeat (first | exact Drawn0.refl _ | apply Drawn0.step)) : p := h
theorem yH {p q : Prop} (x : q) (h : q → p := by intro x_; (with_reducible repeat (first | apply Kd.R_alloc | apply Kd.R_drewN | apply Kd.R_drew)); exact x_) : p := h x
theorem yR {p : Prop} (h : p := by rfl) : p := h
theorem yQ {p : Prop} (h : p := by first | (go_simp; done) | (go_simp; rfl)) : p := h
theorem blk3 {w : World} {g : Nat} {t : TypeId} {a b c : Value} (h : w.heap[g]? = some (.cells #[a, b, c] t (0, 0))) : w.cell? ⟨g, 0, none⟩ = some a ∧ w.cell? ⟨g, 1, none⟩ = some b ∧ w.cell? ⟨g, 2, none⟩ = some c ∧ w.frozen? ⟨g, 0, none⟩ = false ∧ w.frozen? ⟨g, 1, none⟩ = false ∧ w.frozen? ⟨g, 2, none⟩ = false :=
 ⟨(blk_cell h 0).trans rfl, (blk_cell h 1).trans rfl, (blk_cell h 2).trans rfl, blk_frozen h 0, blk_frozen h 1, blk_frozen h 2⟩
theorem at_OpB {w W : World} (hB : Below w.heap.size w W) {A : Option Addr} {n : Nat} {xs : List Op} (h : Kd.C kOp w A n xs) (i : Int) (h0 : 0 ≤ i) (h1 : i < n) : ∃ ad , A = some ad ∧ W.cell? (ad.add (i.toNat * 3)) = some (.int .i64 (rd_Op xs i).f0) ∧ W.cell? ⟨(ad.add (i.toNat * 3)).block, (ad.add (i.toNat * 3)).off + 1, none⟩ = some (.int .i64 (rd_Op xs i).f1) ∧ W.cell? ⟨(ad.add (i.toNat * 3)).block, (ad.add (i.toNat * 3)).off + 2, none⟩ = some (.string (rd_Op xs i).f2) := by
 obtain ⟨ad, e, x0, x1, x2⟩ := at_Op h i h0 h1
 exact ⟨ad, e, (hB.cell (World.block_lt_of_cell? w _ x0)).trans x0, (hB.cell (World.block_lt_of_cell? w _ x1)).trans x1, (hB.cell (World.block_lt_of_cell? w _ x2)).trans x2⟩
end Go.Proofs.Ytkalkickknjdhaa.P
namespace Go.Proofs.Ytkalkickknjdhaa.P
open Go.RowKit Go.Proofs.YtkalkickknjdhaaW.PrintWords Go.Proofs.YtkalkickknjdhaaW.PrintLast Go.Proofs.YtkalkickknjdhaaW.PrintMore
def okOp (x : Op) : Prop := (Lit.int .i64 x.f0).wf = true ∧ (Lit.int .i64 x.f1).wf = true ∧ True
def wtOp (x : Op) : Nat := 1 + 1 + (x.f2.size + 1) + 1
end Go.Proofs.Ytkalkickknjdhaa.P
