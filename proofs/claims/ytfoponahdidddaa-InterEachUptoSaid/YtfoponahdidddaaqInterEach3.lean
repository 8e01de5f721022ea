/- Own and printed texts that the theorem of InterEach reaches, put together. -/
import Derived.Test.YtfoponahdidddaaRows
import Derived.Test.YtfoponahdidddaaqInterEach2
import Derived.ProofKit
import Derived.JoinedCond
import Derived.Test.YtfoponahdidddaaProg
import Derived.Test.YtfoponahdidddaaqInterEach1
import Derived.Below
import Derived.Deep.Draws
import Derived.Deep.AppendLies
import Derived.Maps.AppendAt
import Derived.OwnWalk
import Derived.Laws.BytesArg
import Derived.Laws.MakeOwn
import Derived.Laws.OwnMore
import Derived.Deep.OwnRows
import Derived.Tactics
import Derived.Lib.ConvBytes
import Derived.Laws.Slices
import Derived.WalkKit
import Derived.KernelRfl
import Derived.RowKit3
import Derived.Deep.LoopGhost
import Derived.Deep.QuietTactic
import Derived.BigQuiet
import Derived.WideLaws
import Derived.Deep.DeepCutAuto
import Derived.Deep.CutBlock
import Derived.Deep.RegionHeld3
import Derived.Laws.Rows
import Derived.Lib.AppendStr
import Derived.ArgAppend
import Derived.Laws.IdiomCopy
import Derived.OrdersHeld
import Derived.Laws.BitsLemmas
import Derived.RowKit
import Derived.Outline
import Derived.Lib.SliceRun
import Derived.WideShapes
import Derived.Lib.Strings
import Derived.WalkMore
set_option linter.unusedVariables false
set_option linter.unusedSimpArgs false
namespace Go.Proofs.Ytfoponahdidddaa.P
open Go.RowKit Go.Proofs.YtfoponahdidddaaW.PrintWords Go.Proofs.YtfoponahdidddaaW.PrintLast Go.Proofs.YtfoponahdidddaaW.PrintMore
theorem small_all {H : Type} {ds : List (DataW H)} (hk : Rows.uptoSmall H ds = true) : Rows.uptoBulkAll ds ≤ 1048576 := of_decide_eq_true hk
end Go.Proofs.Ytfoponahdidddaa.P
namespace Go.Proofs.Ytfoponahdidddaa.P
open Go.RowKit Go.Proofs.YtfoponahdidddaaW.PrintWords Go.Proofs.YtfoponahdidddaaW.PrintLast Go.Proofs.YtfoponahdidddaaW.PrintMore
section
variable {P : Program} {ops : Array Oper} {Q : Exit → Act → World → Prop}
theorem gate_value {rest : List Oper} {o : Oper} {a : Act} {W : World} {c : Tmp} {as_ : Array Operand} {ts : Array TypeId} (_ho : o.op = .call { callee := .value (.tmp c), args := as_, argTypes := ts }) (h : wpList P ops Q (o :: rest) a W) : wpList P ops Q (o :: rest) a W := h
theorem goesV_ {rest : List Oper} {oi : Oper} {a : Act} {w : World} (N : Option Tmp) (hd : oi.dst = N) (hg : oi.guard = none) {c : Tmp} {f : FuncId} {fn : Func} {as_ : Array Operand} {ts : Array TypeId} (hf : P.funcs[f]? = some fn) (hname : (fn.name == "runtime.NumGoroutine") = false) (hb : fn.body.isSome = true) (args : Array Value)
  (hop : oi.op = .call { callee := .value (.tmp c), args := as_, argTypes := ts }) (hv : a.eval (.tmp c) = .func (.func f) #[] #[]) (hargs : as_.map a.eval = args)
  (h : Calls P f args w fun e w' => ∃ v, e = .returned v ∧ wpList P ops Q rest (a.put N v) w') : wpList P ops Q (oi :: rest) a w := by
 refine wpList_plain hg fun K hK => ?_
 have he := enters_ hf hname hb args w
 have hrun : (execOp a.eval oi).run P w = .ok (.enter f args) w := by
  unfold execOp
  simp [hop, resolve, Deferred.ofValue, invoke, hv, hargs, he]
 unfold Oper.wp
 rw [hrun, Oper.upon_enter]
 refine h.mono fun e w'' hh => ?_
 obtain ⟨v, rfl, hk⟩ := hh
 subst hd
 exact hK _ _ hk
end
end Go.Proofs.Ytfoponahdidddaa.P
namespace Go.Proofs.Ytfoponahdidddaa.P
open Go.RowKit Go.Proofs.YtfoponahdidddaaW.PrintWords Go.Proofs.YtfoponahdidddaaW.PrintLast Go.Proofs.YtfoponahdidddaaW.PrintMore
attribute [local go_sem] max2_int min2_int max_two min_two max_three min_three max_four min_four
def errW : Option Int → Value
 | none => .nilIface
 | some c => .iface 0 (.int .i64 c)
theorem errW_none : errW none = .nilIface := rfl
theorem errW_some (c : Int) : errW (some c) = .iface 0 (.int .i64 c) := rfl
theorem info9 : (Try.prog.info? 9).map (fun i => (i.zero, i.size, i.bytes)) = some (some (.string ⟨#[]⟩), 1, 16) := by kernel_rfl
theorem info41 : (Try.prog.info? 41).map (fun i => (i.zero, i.size, i.bytes)) = some (some (.agg #[(.int .i64 0), (.int .i64 0), (.string ⟨#[]⟩)]), 3, 32) := by kernel_rfl
structure Op where
 f0 : Int
 f1 : Int
 f2 : ByteArray
def zOp : Op := ⟨(0 : Int), (0 : Int), (⟨#[]⟩ : ByteArray)⟩
def kOp : Kd Op := Kd.iso (Kd.pair (Kd.int .i64) (Kd.pair (Kd.int .i64) Kd.string)) (fun x : Op => (x.f0, x.f1, x.f2))
theorem kOp_open {w : World} {x : Op} {cs : List Value} (h : kOp.K w x cs) : cs = [.int .i64 x.f0, .int .i64 x.f1, .string x.f2] := by
 obtain ⟨_, _, rfl, rfl, ⟨_, _, rfl, rfl, rfl⟩⟩ := h
 exact rfl
theorem kOp_openM {w : World} {base : Nat} {ok : Nat → Prop} {x : Op} {cs : List Value} (h : kOp.M w base ok x cs) : cs = [.int .i64 x.f0, .int .i64 x.f1, .string x.f2] := by
 obtain ⟨_, _, rfl, rfl, ⟨_, _, rfl, rfl, rfl⟩⟩ := h
 exact rfl
theorem kOp_mkM (w : World) (base : Nat) (ok : Nat → Prop) (x : Op)  : kOp.M w base ok x [.int .i64 x.f0, .int .i64 x.f1, .string x.f2] := ⟨[.int .i64 x.f0], [.int .i64 x.f1, .string x.f2], rfl, rfl, ⟨[.int .i64 x.f1], [.string x.f2], rfl, rfl, rfl⟩⟩
def rd_Op (xs : List Op) (i : Int) : Op := xs.getD i.toNat zOp
theorem at_Op {w : World} {A : Option Addr} {n : Nat} {xs : List Op} (h : Kd.C kOp w A n xs) (i : Int) (h0 : 0 ≤ i) (h1 : i < n) : ∃ ad , A = some ad ∧ w.cell? (ad.add (i.toNat * 3)) = some (.int .i64 (rd_Op xs i).f0) ∧ w.cell? ⟨(ad.add (i.toNat * 3)).block, (ad.add (i.toNat * 3)).off + 1, none⟩ = some (.int .i64 (rd_Op xs i).f1) ∧ w.cell? ⟨(ad.add (i.toNat * 3)).block, (ad.add (i.toNat * 3)).off + 2, none⟩ = some (.string (rd_Op xs i).f2) := by
 obtain ⟨ad, c, e, _, hK, hc0⟩ := Kd.C_get h zOp i h0 h1
 have hc : ∀ j u, c[j]? = some u → w.cell? (ad.add (i.toNat * 3 + j)) = some u := hc0
 obtain rfl := kOp_open hK
 exact ⟨ad, e, hc 0 _ rfl, by rw [← add_field _ _ 1 (by omega)]; exact hc 1 _ rfl, by rw [← add_field _ _ 2 (by omega)]; exact hc 2 _ rfl⟩
structure Step where
 f0 : Op
 f1 : Int
 f2 : Bool
def zStep : Step := ⟨zOp, (0 : Int), false⟩
def kStep : Kd Step := Kd.iso (Kd.pair kOp (Kd.pair (Kd.int .i64) Kd.bool)) (fun x : Step => (x.f0, x.f1, x.f2))
theorem kStep_open {w : World} {x : Step} {cs : List Value} (h : kStep.K w x cs) : cs = [.int .i64 x.f0.f0, .int .i64 x.f0.f1, .string x.f0.f2, .int .i64 x.f1, .bool x.f2] := by
 obtain ⟨_, _, rfl, s0, ⟨_, _, rfl, rfl, rfl⟩⟩ := h
 obtain rfl := kOp_open s0
 exact rfl
theorem kStep_mkM (w : World) (base : Nat) (ok : Nat → Prop) (x : Step)  : kStep.M w base ok x [.int .i64 x.f0.f0, .int .i64 x.f0.f1, .string x.f0.f2, .int .i64 x.f1, .bool x.f2] := ⟨[.int .i64 x.f0.f0, .int .i64 x.f0.f1, .string x.f0.f2], [.int .i64 x.f1, .bool x.f2], rfl, (kOp_mkM w base ok x.f0 ), ⟨[.int .i64 x.f1], [.bool x.f2], rfl, rfl, rfl⟩⟩
def rd_Step (xs : List Step) (i : Int) : Step := xs.getD i.toNat zStep
theorem at_Step {w : World} {A : Option Addr} {n : Nat} {xs : List Step} (h : Kd.C kStep w A n xs) (i : Int) (h0 : 0 ≤ i) (h1 : i < n) : ∃ ad , A = some ad ∧ w.cell? (ad.add (i.toNat * 5)) = some (.int .i64 (rd_Step xs i).f0.f0) ∧ w.cell? ⟨(ad.add (i.toNat * 5)).block, (ad.add (i.toNat * 5)).off + 1, none⟩ = some (.int .i64 (rd_Step xs i).f0.f1) ∧ w.cell? ⟨(ad.add (i.toNat * 5)).block, (ad.add (i.toNat * 5)).off + 2, none⟩ = some (.string (rd_Step xs i).f0.f2) ∧ w.cell? ⟨(ad.add (i.toNat * 5)).block, (ad.add (i.toNat * 5)).off + 3, none⟩ = some (.int .i64 (rd_Step xs i).f1) ∧ w.cell? ⟨(ad.add (i.toNat * 5)).block, (ad.add (i.toNat * 5)).off + 4, none⟩ = some (.bool (rd_Step xs i).f2) := by
 obtain ⟨ad, c, e, _, hK, hc0⟩ := Kd.C_get h zStep i h0 h1
 have hc : ∀ j u, c[j]? = some u → w.cell? (ad.add (i.toNat * 5 + j)) = some u := hc0
 obtain rfl := kStep_open hK
 exact ⟨ad, e, hc 0 _ rfl, by rw [← add_field _ _ 1 (by omega)]; exact hc 1 _ rfl, by rw [← add_field _ _ 2 (by omega)]; exact hc 2 _ rfl, by rw [← add_field _ _ 3 (by omega)]; exact hc 3 _ rfl, by rw [← add_field _ _ 4 (by omega)]; exact hc 4 _ rfl⟩
def rd_L5 (xs : List (List Op)) (i : Int) : (List Op) := xs.getD i.toNat ([] : List Op)
theorem at_L5 {w : World} {A : Option Addr} {n : Nat} {xs : List (List Op)} (h : Kd.C (Kd.slice 41 kOp) w A n xs) (i : Int) (h0 : 0 ≤ i) (h1 : i < n) : ∃ ad A0 c0, A = some ad ∧ w.cell? (ad.add i.toNat) = some (.slice A0 (rd_L5 xs i).length c0) ∧ (rd_L5 xs i).length ≤ c0 ∧ kOp.C w A0 (rd_L5 xs i).length (rd_L5 xs i) := by
 obtain ⟨ad, c, e, _, hK, hc0⟩ := Kd.C_get h ([] : List Op) i h0 h1
 have hc : ∀ j u, c[j]? = some u → w.cell? (ad.add (i.toNat * 1 + j)) = some u := hc0
 obtain ⟨A0, c0, rfl, l0, g0⟩ := hK
 exact ⟨ad, A0, c0, e, by have hq := hc 0 _ rfl; rwa [Nat.mul_one, Nat.add_zero] at hq, l0, g0⟩
structure By where
 f0 : Op
 f1 : Int
def zBy : By := ⟨zOp, (0 : Int)⟩
def rd_By (xs : List By) (i : Int) : By := xs.getD i.toNat zBy
def rd_L11 (xs : List (List Int)) (i : Int) : (List Int) := xs.getD i.toNat ([] : List Int)
end Go.Proofs.Ytfoponahdidddaa.P
namespace Go.Proofs.Ytfoponahdidddaa.P
def diffOps : List ByteArray → List ByteArray → List Op
 | [], b => b.map fun t => ⟨4, 0, t⟩
 | x :: a, [] => (x :: a).map fun t => ⟨3, 0, t⟩
 | x :: a, y :: b => if x = y then ⟨2, 0, x⟩ :: diffOps a b else if lcs (x :: a) b ≤ lcs a (y :: b) then ⟨3, 0, x⟩ :: diffOps a (y :: b) else ⟨4, 0, y⟩ :: diffOps (x :: a) b
termination_by a b => a.length + b.length
theorem diffOps_same {x : ByteArray} (a b : List ByteArray) : diffOps (x :: a) (x :: b) = ⟨2, 0, x⟩ :: diffOps a b := by rw [diffOps]; simp
theorem diffOps_del {x y : ByteArray} {a b : List ByteArray} (h : x ≠ y) (h2 : lcs (x :: a) b ≤ lcs a (y :: b)) : diffOps (x :: a) (y :: b) = ⟨3, 0, x⟩ :: diffOps a (y :: b) := by rw [diffOps]; simp [h, h2]
theorem diffOps_ins {x y : ByteArray} {a b : List ByteArray} (h : x ≠ y) (h2 : ¬ lcs (x :: a) b ≤ lcs a (y :: b)) : diffOps (x :: a) (y :: b) = ⟨4, 0, y⟩ :: diffOps (x :: a) b := by rw [diffOps]; simp [h, h2]
theorem diffOps_nil_right (a : List ByteArray) : diffOps a [] = a.map fun t => ⟨3, 0, t⟩ := by cases a <;> simp [diffOps]
theorem diffOps_nil_left (b : List ByteArray) : diffOps [] b = b.map fun t => ⟨4, 0, t⟩ := by simp [diffOps]
theorem diffOps_len (a b : List ByteArray) : (diffOps a b).length ≤ a.length + b.length := by
 induction a, b using diffOps.induct with
 | case1 b => simp [diffOps]
 | case2 x a => simp [diffOps]
 | case3 a x b ih => rw [diffOps_same]; simp; omega
 | case4 x a y b h h2 ih => rw [diffOps_del h h2]; simp at ih ⊢; omega
 | case5 x a y b h h2 ih => rw [diffOps_ins h h2]; simp at ih ⊢; omega
def tabL (a b : List ByteArray) (i j : Nat) : Int := (lcs (a.drop i) (b.drop j) : Int)
def tabRows (a b : List ByteArray) : List (List Int) := (List.range (a.length + 1)).map fun i => (List.range (b.length + 1)).map fun j => tabL a b i j
end Go.Proofs.Ytfoponahdidddaa.P
namespace Go.Proofs.Ytfoponahdidddaa.P
open Go.RowKit Go.Proofs.YtfoponahdidddaaW.PrintWords Go.Proofs.YtfoponahdidddaaW.PrintLast Go.Proofs.YtfoponahdidddaaW.PrintMore
def dropL (l : List Op) (n : Int) : List Op :=
 match l with
 | [] => []
 | o :: l => if o.f0 = 1 ∧ o.f1 > n then ⟨o.f0, wrap64 (o.f1 - n), o.f2⟩ :: l else l
def nextL (l : List Op) (n : Int) : Op := match l with | [] => ⟨1, n, ⟨#[]⟩⟩ | o :: _ => o
def lineL (x y : Op) : ByteArray × Int × Step :=
 if x.f0 ≠ 1 ∧ y.f0 ≠ 1 then (x.f2, 1, if x.f0 = 2 then ⟨y, if y.f0 = 2 then 0 else 2, false⟩ else if y.f0 = 2 then ⟨x, 1, false⟩ else ⟨x, 1, true⟩)
 else if x.f0 ≠ 1 then (x.f2 ++ y.f2, 1, ⟨x, if x.f0 = 2 then 0 else 1, false⟩)
 else if y.f0 ≠ 1 then (x.f2 ++ y.f2, 1, ⟨y, if y.f0 = 2 then 0 else 2, false⟩)
 else (x.f2 ++ y.f2, min x.f1 y.f1, ⟨⟨1, min x.f1 y.f1, ⟨#[]⟩⟩, 0, false⟩)
def noneL (x y : Op) (op : Bool) : Bool := op || (decide (x.f0 ≠ 1) && decide (y.f0 ≠ 1) && decide (x.f2 ≠ y.f2))
def opnB (t : ByteArray) : Bool := decide (t ≠ ⟨#[]⟩) && decide (t.data.toList.getLast? ≠ some 10)
def hdK (k : Int) (l : List Op) : Bool := match l with | [] => false | o :: _ => decide (o.f0 = k)
def headO (l : List Op) : Op := match l with | [] => ⟨0, 0, ⟨#[]⟩⟩ | o :: _ => o
def walkO : Nat → List Op → List Op → Bool → Option (List Step)
 | 0, _, _, _ => some []
 | n + 1, ps, qs, op =>
  if ps.length + qs.length = 0 then some []
  else if hdK 3 ps = true then (walkO n ps.tail qs op).map (⟨headO ps, 1, false⟩ :: ·)
  else if hdK 4 qs = true then (walkO n ps qs.tail op).map (⟨headO qs, 2, false⟩ :: ·)
  else if noneL (nextL ps 2147483648) (nextL qs 2147483648) op = true then none
  else (walkO n (dropL ps (lineL (nextL ps 2147483648) (nextL qs 2147483648)).2.1) (dropL qs (lineL (nextL ps 2147483648) (nextL qs 2147483648)).2.1) (opnB (lineL (nextL ps 2147483648) (nextL qs 2147483648)).1)).map ((lineL (nextL ps 2147483648) (nextL qs 2147483648)).2.2 :: ·)
def okW1 (o : Op) : Bool := (decide (o.f0 ≠ 1) || (decide (1 ≤ o.f1) && decide (o.f1 ≤ 2147483648))) && decide (o.f2.size < 1073741824)
def okW (p q : List Op) : Bool := p.all okW1 && (q.all okW1 && decide (p.length + q.length ≤ 1099511627776))
def okR1 (o : Op) : Bool := okW1 o && ((decide (o.f0 = 1) == decide (o.f2 = ⟨#[]⟩)) && decide (o.f0 = 1 ∨ o.f0 = 2 ∨ o.f0 = 3 ∨ o.f0 = 4))
def okR (p q : List Op) : Bool := p.all okR1 && (q.all okR1 && decide (p.length + q.length ≤ 1099511627776))
def byS (os : List Step) : List By := (os.filter fun s => !s.f2).map fun s => ⟨s.f0, s.f1⟩
def metS (os : List Step) : Bool := os.any fun s => s.f2
end Go.Proofs.Ytfoponahdidddaa.P
namespace Go.Proofs.Ytfoponahdidddaa.P
open Go.RowKit Go.Proofs.YtfoponahdidddaaW.PrintWords Go.Proofs.YtfoponahdidddaaW.PrintLast Go.Proofs.YtfoponahdidddaaW.PrintMore
theorem yB {p : Prop} (h : p := by repeat (first | (with_reducible first | exact HB.out | apply below_alloc | apply pw_below_drewN | apply below_drew1) | exact HB.out)) : p := h
theorem yBg {p q : Prop} (g : q) (h : q → p := by intro g_; repeat (first | (with_reducible first | exact HB.out | apply below_alloc | apply pw_below_drewN | apply below_drew1 | refine below_set ?_ g_) | exact HB.out)) : p := h g
theorem yBh {p q q2 : Prop} (g : q) (g2 : q2) (h : q → q2 → p := by intro g_ g2_; repeat (first | (with_reducible first | exact HB.out | apply below_alloc | apply pw_below_drewN | apply below_drew1 | refine below_set ?_ g_ | refine below_set ?_ g2_) | exact HB.out)) : p := h g g2
theorem yS {p : Prop} (h : p := by rw [hg]; exact (below_size yB)) : p := h
theorem yW {p : Prop} (h : p := by exact (below_size yB)) : p := h
theorem yO {p : Prop} [Decidable p] (h : decide p = true := by first | (with_reducible assumption) | assumption) : p := of_decide_eq_true h
theorem oB {α β : Type} {o : Option α} {f : α → Option β} {b : β} (h : o.bind f = some b) : ∃ a, Aside0 (o = some a) ∧ f a = some b := by
 obtain ⟨a, h1, h2⟩ := Option.bind_eq_some_iff.mp h
 exact ⟨a, ⟨h1⟩, h2⟩
theorem oS {α β : Type} {a : α} {f : α → Option β} {b : β} (h : (some a).bind f = some b) : ∃ y, Aside0 (y = a) ∧ f y = some b := ⟨a, ⟨rfl⟩, h⟩
theorem iT {α : Type} [Decidable (true = true)] {a b c : α} (h : (if true = true then a else b) = c) : a = c := by rwa [if_pos rfl] at h
theorem iF {α : Type} [Decidable (false = true)] {a b c : α} (h : (if false = true then a else b) = c) : b = c := by rwa [if_neg Bool.false_ne_true] at h
theorem yN {p q r : Prop} (hy : q) (H : r) (h : q → r → p := by intro hy H; first | (rw [hy]; with_reducible exact H) | (have H2_ := (Option.bind_some _ _).symm.trans H; rw [hy]; with_reducible exact H2_) | (have H2_ := (Option.bind_some _ _).symm.trans H; with_reducible exact H2_) | with_reducible exact H | (rw [hy]; exact H) | exact H) : p := h hy H
theorem yC {p q : Prop} (x : q) (h : q → p := by intro x_; repeat (first | exact x_ | (with_reducible first | refine Kd.C_alloc ?_ _ | refine Kd.C_drewN ?_ _ | refine Kd.C_drew ?_))) : p := h x
theorem yG {p : Prop} (h : p := by (try simp only [List.map_toArray, List.map_cons, List.map_nil]); first | done | rfl | (simp only [List.length_drop, List.length_take]; rfl)) : p := h
theorem yK {p : Prop} (h : p := by kernel_rfl) : p := h
theorem yE {p : Prop} (h : p := by first | rfl | (simp; done) | (simp [*]; done)) : p := h
theorem yE2 {p : Prop} (h : p := by first | rfl | (simp [errW_none, errW_some] <;> rfl) | (simp [*, errW_none, errW_some] <;> rfl)) : p := h
theorem yD {p : Prop} (h : p := by repeat (first | exact Drawn0.refl _ | apply Drawn0.step)) : p := h
theorem yH {p q : Prop} (x : q) (h : q → p := by intro x_; (with_reducible repeat (first | apply Kd.R_alloc | apply Kd.R_drewN | apply Kd.R_drew)); exact x_) : p := h x
theorem yI {p : Prop} (h : p := by intro _ _ _ h; exact h) : p := h
theorem yP1 {p : Prop} (h : p := by intro w'; go_simp; with_reducible rfl) : p := h
theorem yP2 {p : Prop} (h : p := by simp only [Act.put, List.setIfInBounds_toArray, List.set_cons_zero, List.set_cons_succ, i64_w, i32_w]; rfl) : p := h
theorem yR {p : Prop} (h : p := by rfl) : p := h
theorem yQ {p : Prop} (h : p := by first | (go_simp; done) | (go_simp; rfl)) : p := h
theorem blk3 {w : World} {g : Nat} {t : TypeId} {a b c : Value} (h : w.heap[g]? = some (.cells #[a, b, c] t (0, 0))) : w.cell? ⟨g, 0, none⟩ = some a ∧ w.cell? ⟨g, 1, none⟩ = some b ∧ w.cell? ⟨g, 2, none⟩ = some c ∧ w.frozen? ⟨g, 0, none⟩ = false ∧ w.frozen? ⟨g, 1, none⟩ = false ∧ w.frozen? ⟨g, 2, none⟩ = false :=
 ⟨(blk_cell h 0).trans rfl, (blk_cell h 1).trans rfl, (blk_cell h 2).trans rfl, blk_frozen h 0, blk_frozen h 1, blk_frozen h 2⟩
theorem blk5 {w : World} {g : Nat} {t : TypeId} {a b c d e : Value} (h : w.heap[g]? = some (.cells #[a, b, c, d, e] t (0, 0))) : w.cell? ⟨g, 0, none⟩ = some a ∧ w.cell? ⟨g, 1, none⟩ = some b ∧ w.cell? ⟨g, 2, none⟩ = some c ∧ w.cell? ⟨g, 3, none⟩ = some d ∧ w.cell? ⟨g, 4, none⟩ = some e ∧ w.frozen? ⟨g, 0, none⟩ = false ∧ w.frozen? ⟨g, 1, none⟩ = false ∧ w.frozen? ⟨g, 2, none⟩ = false ∧ w.frozen? ⟨g, 3, none⟩ = false ∧ w.frozen? ⟨g, 4, none⟩ = false :=
 ⟨(blk_cell h 0).trans rfl, (blk_cell h 1).trans rfl, (blk_cell h 2).trans rfl, (blk_cell h 3).trans rfl, (blk_cell h 4).trans rfl, blk_frozen h 0, blk_frozen h 1, blk_frozen h 2, blk_frozen h 3, blk_frozen h 4⟩
theorem at_OpB {w W : World} (hB : Below w.heap.size w W) {A : Option Addr} {n : Nat} {xs : List Op} (h : Kd.C kOp w A n xs) (i : Int) (h0 : 0 ≤ i) (h1 : i < n) : ∃ ad , A = some ad ∧ W.cell? (ad.add (i.toNat * 3)) = some (.int .i64 (rd_Op xs i).f0) ∧ W.cell? ⟨(ad.add (i.toNat * 3)).block, (ad.add (i.toNat * 3)).off + 1, none⟩ = some (.int .i64 (rd_Op xs i).f1) ∧ W.cell? ⟨(ad.add (i.toNat * 3)).block, (ad.add (i.toNat * 3)).off + 2, none⟩ = some (.string (rd_Op xs i).f2) := by
 obtain ⟨ad, e, x0, x1, x2⟩ := at_Op h i h0 h1
 exact ⟨ad, e, (hB.cell (World.block_lt_of_cell? w _ x0)).trans x0, (hB.cell (World.block_lt_of_cell? w _ x1)).trans x1, (hB.cell (World.block_lt_of_cell? w _ x2)).trans x2⟩
end Go.Proofs.Ytfoponahdidddaa.P
namespace Go.Proofs.Ytfoponahdidddaa.P
open Go.RowKit Go.Proofs.YtfoponahdidddaaW.PrintWords Go.Proofs.YtfoponahdidddaaW.PrintLast Go.Proofs.YtfoponahdidddaaW.PrintMore
def WkW (w wr : World) (g : Nat) (ps qs : List Op) (op : Bool) (os : List Step) : Prop :=
 Below w.heap.size w wr ∧ w.heap.size ≤ g ∧ ∃ pv qv ov, wr.heap[g]? = some (.cells #[pv, qv, .bool op, ov] 73 (0, 0)) ∧
  Kd.Q kOp 41 wr w.heap.size (fun k => some k ≠ qv.ownBlock) pv ps ∧ Kd.Q kOp 41 wr w.heap.size (fun k => some k ≠ pv.ownBlock) qv qs ∧ Kd.R kStep 77 wr w.heap.size (fun _ => True) ov os
set_option maxRecDepth 100000 in
theorem WkW.below {w wr w' : World} {g : Nat} {ps qs : List Op} {op : Bool} {os : List Step} (h : WkW w wr g ps qs op os) (hb : Below wr.heap.size wr w') : WkW w w' g ps qs op os := by
 obtain ⟨h1, h2, pv, qv, ov, h3, h4, h5, h6⟩ := h
 exact ⟨below_step h1 hb, h2, pv, qv, ov, blk_below h3 hb, Kd.Q_below h4 hb, Kd.Q_below h5 hb, Kd.R_below h6 hb⟩
set_option maxRecDepth 100000 in
theorem info_Step : (Try.prog.info? 77).map (fun i => (i.zero, i.size, i.bytes)) = some (some (.agg #[(.int .i64 0), (.int .i64 0), (.string ⟨#[]⟩), (.int .i64 0), (.bool false)]), 5, 48) := by kernel_rfl
set_option maxHeartbeats 1000000 in
set_option maxRecDepth 100000 in
theorem wk_put (w wr : World) (g : Nat) (ps qs : List Op) (op : Bool) (os : List Step) (h : WkW w wr g ps qs op os) (hl : os.length < 2199023255552) (o : Op) (by_ : Int) :
  Calls Try.prog 68 #[.pointer (some ⟨g, 0, none⟩), .agg #[.int .i64 o.f0, .int .i64 o.f1, .string o.f2], .int .i64 by_] wr fun e w' => (∃ r, e = .returned r) ∧ WkW w w' g ps qs op (os ++ [⟨o, by_, false⟩]) := by
 obtain ⟨k, n, t⟩ := o
 obtain ⟨h1, h2, pv, qv, ov, h3, h4, h5, h6⟩ := h
 have huS := Try.underlying77
 have hgr : g < wr.heap.size := blk_lt h3
 have HP := Aside0.mk (And.intro h1 (And.intro h2 (And.intro h3 (And.intro h4 (And.intro h5 h6)))))
 have HL := Aside0.mk hl
 clear h1 h2 h3 h4 h5 h6 hl
 go_enter Try.func68, Try.ntmps68
 go_wp2
 have hb0 : Below wr.heap.size wr (wr.alloc (.cells #[.int .i64 k, .int .i64 n, .string t] 41)).drew := below_drew1 (below_alloc (Below.refl _ _) _)
 have hbk : (wr.alloc (.cells #[.int .i64 k, .int .i64 n, .string t] 41)).drew.heap[wr.heap.size]? = some (.cells #[.int .i64 k, .int .i64 n, .string t] 41 (0, 0)) := blk_drew (blk_new _ _)
 have hg0 := blk_below HP.out.2.2.1 hb0
 have HB0 := Aside0.mk hb0
 have HBK := Aside0.mk hbk
 have HG0 := Aside0.mk hg0
 clear hb0 hbk hg0
 refine start_ (n := 13) (S := fun w' => w'.cell? ⟨g, 3, none⟩ = some ov ∧ w'.cell? ⟨wr.heap.size, 0, none⟩ = some (.int .i64 k) ∧ w'.cell? ⟨wr.heap.size, 1, none⟩ = some (.int .i64 n) ∧ w'.cell? ⟨wr.heap.size, 2, none⟩ = some (.string t)) (ds := [9, 12]) #[false, false, false, false, false, false, false, false, false, false, false, false, false] (by kernel_rfl) rfl rfl ⟨(blk_cell HG0.out 3).trans rfl, (blk_cell HBK.out 0).trans rfl, (blk_cell HBK.out 1).trans rfl, (blk_cell HBK.out 2).trans rfl⟩ (fun hHeld => ?_)
 have HP1 := Aside0.mk (And.intro (below_step HP.out.1 HB0.out) (And.intro (Kd.Q_below HP.out.2.2.2.1 HB0.out) (And.intro (Kd.Q_below HP.out.2.2.2.2.1 HB0.out) (Kd.R_below HP.out.2.2.2.2.2 HB0.out))))
 have HG1 := HG0
 clear HG0 HB0
 have HGB := Aside0.mk HP.out.2.1
 clear HP
 generalize (wr.alloc (.cells #[.int .i64 k, .int .i64 n, .string t] 41)).drew = wb at hHeld HP1 HG1 HBK ⊢
 refine pure_ (i := 0) (N := some 6) (v := ?_) (a' := ?_) #[true, false, false, false, false, false, false, false, false, false, false, false, false] rfl rfl (by kernel_rfl) (fun _ _ _ h => h) (Or.inl ⟨by rfl, ?_⟩) ?_ ?_
 rotate_left
 ·intro w'
  go_simp
  with_reducible rfl
 rotate_left
 ·simp only [Act.put, List.setIfInBounds_toArray, List.set_cons_zero, List.set_cons_succ, i64_w, i32_w]
  rfl
 refine pure_ (i := 1) (N := some 7) (v := ?_) (a' := ?_) #[true, true, false, false, false, false, false, false, false, false, false, false, false] rfl rfl (by kernel_rfl) (fun _ _ _ h => h) (Or.inl ⟨by rfl, ?_⟩) ?_ ?_
 rotate_left
 ·intro w'
  go_simp
  with_reducible rfl
 rotate_left
 ·simp only [Act.put, List.setIfInBounds_toArray, List.set_cons_zero, List.set_cons_succ, i64_w, i32_w]
  rfl
 refine pure_ (i := 2) (N := some 8) (v := ?_) (a' := ?_) #[true, true, true, false, false, false, false, false, false, false, false, false, false] rfl rfl (by kernel_rfl) (fun _ _ _ h => h) (Or.inl ⟨by rfl, ?_⟩) ?_ ?_
 rotate_left
 ·intro w'
  go_simp
  with_reducible rfl
 rotate_left
 ·simp only [Act.put, List.setIfInBounds_toArray, List.set_cons_zero, List.set_cons_succ, i64_w, i32_w]
  rfl
 refine pure_ (i := 3) (N := some 9) (v := ?_) (a' := ?_) #[true, true, true, true, false, false, false, false, false, false, false, false, false] rfl rfl (by kernel_rfl) (fun _ _ _ h => h) (Or.inl ⟨by rfl, ?_⟩) ?_ ?_
 rotate_left
 ·intro w'
  go_simp
  with_reducible rfl
 rotate_left
 ·simp only [Act.put, List.setIfInBounds_toArray, List.set_cons_zero, List.set_cons_succ, i64_w, i32_w]
  rfl
 refine pure_ (i := 6) (N := some 12) (v := ?_) (a' := ?_) #[true, true, true, true, false, false, true, false, false, false, false, false, false] rfl rfl (by kernel_rfl) (fun _ _ _ h => h) (Or.inl ⟨by rfl, ?_⟩) ?_ ?_
 rotate_left
 ·intro w'
  go_simp
  with_reducible rfl
 rotate_left
 ·simp only [Act.put, List.setIfInBounds_toArray, List.set_cons_zero, List.set_cons_succ, i64_w, i32_w]
  rfl
 refine take_ (i := 4) (N := some 10) (v := ?_) (a' := ?_) #[true, true, true, true, true, false, true, false, false, false, false, false, false] rfl rfl (by kernel_rfl) (fun _ _ _ h => h) (Or.inl ⟨by rfl, ?_⟩) hHeld ?_ ?_
 rotate_left
 ·rintro w' ⟨s0, s1, s2, s3⟩
  go_simp
  with_reducible rfl
 rotate_left
 ·simp only [Act.put, List.setIfInBounds_toArray, List.set_cons_zero, List.set_cons_succ, i64_w, i32_w]
  rfl
 refine take_ (i := 5) (N := some 11) (v := ?_) (a' := ?_) #[true, true, true, true, true, true, true, false, false, false, false, false, false] rfl rfl (by kernel_rfl) (fun _ _ _ h => h) (Or.inl ⟨by rfl, ?_⟩) hHeld ?_ ?_
 rotate_left
 ·rintro w' ⟨s0, s1, s2, s3⟩
  go_simp
  with_reducible rfl
 rotate_left
 ·simp only [Act.put, List.setIfInBounds_toArray, List.set_cons_zero, List.set_cons_succ, i64_w, i32_w]
  rfl
 refine pure_ (i := 7) (N := some 13) (v := ?_) (a' := ?_) #[true, true, true, true, true, true, true, true, false, false, false, false, false] rfl rfl (by kernel_rfl) (fun _ _ _ h => h) (Or.inl ⟨by rfl, ?_⟩) ?_ ?_
 rotate_left
 ·intro w'
  go_simp
  with_reducible rfl
 rotate_left
 ·simp only [Act.put, List.setIfInBounds_toArray, List.set_cons_zero, List.set_cons_succ, i64_w, i32_w]
  rfl
 refine one_ (i := 8) (N := some 14) #[true, true, true, true, true, true, true, true, true, false, false, false, false] rfl rfl (by kernel_rfl) (by decide) (fun K hK => ?_)
 refine value_ (w1 := ?_) (v := ?_) (by rfl) rfl ?_ ?_
 rotate_left 2
 ·go_simp
  constructor
  ·rfl
  ·rfl
 refine hK.out _ _ ⟨(blk_cell (blk_alloc HG1.out _) 3).trans rfl, (blk_cell (blk_alloc HBK.out _) 0).trans rfl, (blk_cell (blk_alloc HBK.out _) 1).trans rfl, (blk_cell (blk_alloc HBK.out _) 2).trans rfl⟩ (fun hHeld => ?_)
 clear hK K
 refine norm_ (a' := ?_) ?_ ?_
 rotate_left
 ·show Act.put _ (some 14) _ = _
  simp only [Act.put, List.setIfInBounds_toArray, List.set_cons_zero, List.set_cons_succ, i64_w, i32_w]
  rfl
 refine last_ (i := 9) (N := some 15) #[true, true, true, true, true, true, true, true, true, true, false, false, false] rfl rfl (by kernel_rfl) (by decide) (fun K hK => ?_)
 refine Kd.R_append_step kStep (w0 := w) w.heap.size (by rfl) (.tmp 10) (.tmp 14) 51 77 (.agg #[(.int .i64 0), (.int .i64 0), (.string ⟨#[]⟩), (.int .i64 0), (.bool false)]) 48 rfl Try.underlying51 info_Step rfl (by decide) (by omega) ov os (⟨⟨k, n, t⟩, by_, false⟩ : Step) [.int .i64 k, .int .i64 n, .string t, .int .i64 by_, .bool false] (fun _ => True) (fun _ => False) rfl rfl ?aP (fun _ hk => hk.elim) ?aF ?aO ?aB ?aS ?aL ?_
 (case aP => exact kStep_mkM _ _ _ (⟨⟨k, n, t⟩, by_, false⟩ : Step))
 (case aB => exact HP1.out.1)
 (case aF => exact (fun _ _ => trivial))
 (case aO => exact HP1.out.2.2.2)
 (case aS => exact below_size HP1.out.1)
 (case aL => have := HL.out; omega)
 intro v1 w1 ho hb hg hat
 obtain ⟨Ao, co, rfl⟩ := Kd.R_slice ho
 have hg2 := blk_grown HG1.out hg (Kd.R_ne HP1.out.2.2.2 HG1.out (by decide))
 have hcs : w1.cell? ⟨g, 3, none⟩ = some ov := (blk_cell hg2 3).trans rfl
 have hfs := blk_frozen hg2 3
 have HX := Aside0.mk (And.intro ho (And.intro hb hg2))
 have HQ1 := Aside0.mk (Kd.Q_over' HP1.out.2.1 (Kd.R_typed HP1.out.2.2.2) (by decide) hg)
 have HQ2 := Aside0.mk (Kd.Q_over' HP1.out.2.2.1 (Kd.R_typed HP1.out.2.2.2) (by decide) hg)
 clear ho hb hg hat hg2
 refine hK.out _ _ ?_
 clear hK K
 refine norm_ (a' := ?_) ?_ ?_
 rotate_left
 ·show Act.put _ (some 15) _ = _
  simp only [Act.put, List.setIfInBounds_toArray, List.set_cons_zero, List.set_cons_succ, i64_w, i32_w]
  rfl
 refine pure_ (i := 10) (N := some 16) (v := ?_) (a' := ?_) #[true, true, true, true, true, true, true, true, true, true, true, false, false] rfl rfl (by kernel_rfl) (fun _ _ _ h => h) (Or.inl ⟨by rfl, ?_⟩) ?_ ?_
 rotate_left
 ·intro w'
  go_simp
  with_reducible rfl
 rotate_left
 ·simp only [Act.put, List.setIfInBounds_toArray, List.set_cons_zero, List.set_cons_succ, i64_w, i32_w]
  rfl
 refine pure_ (i := 11) (N := some 17) (v := ?_) (a' := ?_) #[true, true, true, true, true, true, true, true, true, true, true, true, false] rfl rfl (by kernel_rfl) (fun _ _ _ h => h) (Or.inl ⟨by rfl, ?_⟩) ?_ ?_
 rotate_left
 ·intro w'
  go_simp
  with_reducible rfl
 rotate_left
 ·simp only [Act.put, List.setIfInBounds_toArray, List.set_cons_zero, List.set_cons_succ, i64_w, i32_w]
  rfl
 refine last_ (i := 12) (N := none) #[true, true, true, true, true, true, true, true, true, true, true, true, true] rfl rfl (by kernel_rfl) (by decide) (fun K hK => ?_)
 refine skip_ (w1 := ?_) (by rfl) rfl ?_ ?_
 rotate_left
 ·go_simp
  rfl
 refine hK.out _ _ ?_
 clear hK K
 refine done_ (by kernel_rfl) ?_
 go_end0
 refine ⟨⟨_, rfl⟩, below_set HX.out.2.1 HGB.out, HGB.out, pv, qv, _, (by simpa using blk_set HX.out.2.2 3 _), Kd.Q_set HQ1.out HX.out.2.2 (by decide) 3 _, Kd.Q_set HQ2.out HX.out.2.2 (by decide) 3 _, ?_⟩
 have hr := Kd.R_set HX.out.1 HX.out.2.2 (by decide) 3 (.slice Ao (os ++ [(⟨⟨k, n, t⟩, by_, false⟩ : Step)]).length co)
 simp only [List.length_append, List.length_singleton] at hr
 exact hr
set_option maxHeartbeats 1000000 in
set_option maxRecDepth 100000 in
theorem wk_knows (w wr : World) (g : Nat) (ps qs : List Op) (op : Bool) (os : List Step) (h : WkW w wr g ps qs op os) (hl : os.length < 2199023255552) (o : Op) (by_ : Int) :
  Calls Try.prog 82 #[.pointer (some ⟨g, 0, none⟩), .agg #[.int .i64 o.f0, .int .i64 o.f1, .string o.f2], .int .i64 by_] wr fun e w' => (∃ r, e = .returned r) ∧ WkW w w' g ps qs op (os ++ [⟨o, if o.f0 = 2 then 0 else by_, false⟩]) := by
 obtain ⟨k, n, t⟩ := o
 have HL := Aside0.mk hl
 have HW := Aside0.mk h
 clear hl h
 go_enter Try.func82, Try.ntmps82
 by_cases hk : k = 2
 ·have c0 : (k == 2) = true := beq_iff_eq.mpr hk
  rw [if_pos hk]
  clear hk
  go_wp2_with (first | ((with_reducible refine gate_dst (N := 4) rfl ?_); refine box_event ?hg (N := 4) ?hd (cs := #[.int .i64 k, .int .i64 n, .string t]) (t := 41) ?hr ?_; (case hd => rfl); (case hg => rfl); (case hr => first | (go_simp; done) | (go_simp; rfl)); intro gb hg w3 hbox hb; have HW1 := Aside0.mk (HW.out.below hb); have x0 : w3.cell? ⟨gb, 0, none⟩ = some (.int .i64 k) := (blk_cell hbox 0).trans rfl; have x1 : w3.cell? ⟨gb, 1, none⟩ = some (.int .i64 n) := (blk_cell hbox 1).trans rfl; have x2 : w3.cell? ⟨gb, 2, none⟩ = some (.string t) := (blk_cell hbox 2).trans rfl; clear hb hbox hg))
  refine (wk_put w _ g ps qs op os HW1.out HL.out ⟨k, n, t⟩ 0).mono ?_
  rintro e w2 ⟨⟨r, rfl⟩, hW⟩
  go_wp2
  go_end0
  exact ⟨⟨_, rfl⟩, hW⟩
 ·have c0 : (k == 2) = false := beq_eq_false_iff_ne.mpr hk
  rw [if_neg hk]
  clear hk
  go_wp2_with (first | ((with_reducible refine gate_dst (N := 4) rfl ?_); refine box_event ?hg (N := 4) ?hd (cs := #[.int .i64 k, .int .i64 n, .string t]) (t := 41) ?hr ?_; (case hd => rfl); (case hg => rfl); (case hr => first | (go_simp; done) | (go_simp; rfl)); intro gb hg w3 hbox hb; have HW1 := Aside0.mk (HW.out.below hb); have x0 : w3.cell? ⟨gb, 0, none⟩ = some (.int .i64 k) := (blk_cell hbox 0).trans rfl; have x1 : w3.cell? ⟨gb, 1, none⟩ = some (.int .i64 n) := (blk_cell hbox 1).trans rfl; have x2 : w3.cell? ⟨gb, 2, none⟩ = some (.string t) := (blk_cell hbox 2).trans rfl; clear hb hbox hg))
  refine (wk_put w _ g ps qs op os HW1.out HL.out ⟨k, n, t⟩ by_).mono ?_
  rintro e w2 ⟨⟨r, rfl⟩, hW⟩
  go_wp2
  go_end0
  exact ⟨⟨_, rfl⟩, hW⟩
end Go.Proofs.Ytfoponahdidddaa.P
namespace Go.Proofs.Ytfoponahdidddaa.P
open Go.RowKit Go.Proofs.YtfoponahdidddaaW.PrintWords Go.Proofs.YtfoponahdidddaaW.PrintLast Go.Proofs.YtfoponahdidddaaW.PrintMore
theorem info_OpC : (Try.prog.info? 41).map (fun i => (i.zero, i.size, i.bytes)) = some (some (.agg #[(.int .i64 0), (.int .i64 0), (.string ⟨#[]⟩)]), 3, 32) := by kernel_rfl
theorem info_OpB : ∃ b, Try.prog.info? 41 = some b ∧ b.size = 3 := by
 obtain ⟨i, hi, _, hs, _⟩ := info_parts info_OpC
 exact ⟨i, hi, hs⟩
set_option maxHeartbeats 2000000 in
theorem drop_walk (w wr : World) (hw : Below w.heap.size w wr) (v : Value) (ok : Nat → Prop) (ps : List Op) (h : Kd.Q kOp 41 wr w.heap.size ok v ps) (n : Int) :
  Calls Try.prog 83 #[v, .int .i64 n] wr fun e w' => ∃ v', e = .returned v' ∧ Below w.heap.size w w' ∧ wr.grownBy w' v.ownBlock ∧ (v'.ownBlock = v.ownBlock ∨ v'.ownBlock = none) ∧ Kd.Q kOp 41 w' w.heap.size ok v' (dropL ps n) := by
 obtain ⟨A, c, rfl, hc⟩ := Kd.Q_slice h
 have HQ := Aside0.mk h
 have HW := Aside0.mk hw
 have HC := Aside0.mk hc
 clear h hw hc
 go_enter Try.func83, Try.ntmps83
 cases ps with
 | nil =>
  have c0 : (((([] : List Op).length : Nat) : Int) == 0) = true := rfl
  go_wp2
  go_ret
  exact ⟨_, rfl, HW.out, World.grownBy.refl _ _, .inr rfl, Kd.Q_nil _ _ _ _ _⟩
 | cons o l =>
  have hlen : 0 < (o :: l).length := by simp
  have hlen0 : (0 : Int) < ((o :: l).length : Nat) := by omega
  obtain ⟨g, off, cap, hv, hg1, hg2, _⟩ := Kd.Q_form HQ.out hlen
  injection hv with hA _ hcap
  subst hA
  subst hcap
  obtain ⟨cs, hcl, hM, hcc, hff⟩ := Kd.Q_elem HQ.out o 0 (by omega) hlen0
  have hcs := kOp_openM hM
  rw [show (o :: l).getD (0 : Int).toNat o = o from rfl] at hcs
  subst hcs
  simp only [Int.toNat_zero, Nat.zero_mul, Nat.add_zero] at hcc hff
  have x0 : wr.cell? ⟨g, off, none⟩ = some (.int .i64 o.f0) := hcc 0 _ rfl
  have x1 : wr.cell? ⟨g, off + 1, none⟩ = some (.int .i64 o.f1) := hcc 1 _ rfl
  have x1f : wr.frozen? ⟨g, off + 1, none⟩ = false := hff 1
  have HCC := Aside0.mk hcc
  have HM := Aside0.mk hM
  obtain ⟨m, hm⟩ : ∃ m, m = (o :: l).length := ⟨_, rfl⟩
  rw [← hm] at hlen
  have HN := Aside0.mk hm
  have HG := Aside0.mk (And.intro hg1 hg2)
  have c0 : ((m : Int) == 0) = false := beq_eq_false_iff_ne.mpr (by omega)
  have i0 : ((0 : Int) < (m : Int)) = True := eq_true (by omega)
  have i1 : (0 < m) = True := eq_true hlen
  rw [← hm]
  have hl1 : (1 : Int) ≤ (m : Int) := by omega
  obtain ⟨bi, hbi, hbs⟩ := info_OpB
  have hmc : m ≤ c := by rw [hm]; exact HC.out
  have hcut := cut_from (P := Try.prog) 22 41 .i64 Try.underlying22 hbi 3 hbs (some ⟨g, off, none⟩) m c 1 (by omega) hl1
  have hdrop := Kd.Q_drop (k := 1) HQ.out (by simp)
  rw [show (o :: l).drop 1 = l from rfl, ← hm] at hdrop
  obtain ⟨A1, hA1⟩ : ∃ x, x = (if c = 1 then some (⟨g, off, none⟩ : Addr) else (some (⟨g, off, none⟩ : Addr)).map (·.add (1 * 3))) := ⟨_, rfl⟩
  have hown : (Value.slice A1 (m - 1) (c - 1)).ownBlock = (Value.slice (some ⟨g, off, none⟩) m c).ownBlock := by
   rw [hA1]
   split <;> simp [Value.ownBlock, Addr.add]
  simp only [show (1 : Int).toNat = 1 from rfl] at hcut
  rw [← hA1] at hcut
  replace hdrop : Kd.Q kOp 41 wr w.heap.size ok (.slice A1 (m - 1) (c - 1)) l := by rw [hA1]; exact hdrop
  have HD := Aside0.mk (And.intro hdrop hown)
  clear hcc hM hcl hff hg1 hg2 hm hlen hlen0 hl1 hbi hbs hmc hA1 hdrop hown
  generalize m - 1 = m1 at hcut HD
  generalize c - 1 = c1 at hcut HD
  by_cases k1 : o.f0 = 1
  ·have d1 : (o.f0 == 1) = true := beq_iff_eq.mpr k1
   by_cases k2 : n < o.f1
   ·have d2 : decide (n < o.f1) = true := decide_eq_true k2
    go_wp2
    have hs := Kd.Q_seg HQ.out 0 (by omega) (by simp only [List.length_cons]; omega) (c := [.int .i64 o.f0, .int .i64 o.f1, .string o.f2]) (seg := [.int .i64 (wrap64 (o.f1 - n))]) (j := 1) (okp := fun k => ok k ∧ k ≠ g) (x' := (⟨o.f0, wrap64 (o.f1 - n), o.f2⟩ : Op)) rfl (by simpa using HCC.out) (show 1 + 1 ≤ 3 by omega) (kOp_mkM _ _ _ (⟨o.f0, wrap64 (o.f1 - n), o.f2⟩ : Op)) (fun _ h => h)
    simp only [Int.toNat_zero, Nat.zero_mul, Nat.add_zero] at hs
    rw [show (o :: l).set 0 (⟨o.f0, wrap64 (o.f1 - n), o.f2⟩ : Op) = dropL (o :: l) n from by rw [dropL, if_pos ⟨k1, k2⟩]; rfl, ← HN.out] at hs
    have hs' : Kd.Q kOp 41 (wr.setCell ⟨g, off + 1, none⟩ (.int .i64 (wrap64 (o.f1 - n)))) w.heap.size ok (.slice (some ⟨g, off, none⟩) m c) (dropL (o :: l) n) ∧ wr.grownBy (wr.setCell ⟨g, off + 1, none⟩ (.int .i64 (wrap64 (o.f1 - n)))) (some g) := hs
    go_ret
    exact ⟨_, rfl, below_set HW.out HG.out.1, by simpa [Value.ownBlock] using hs'.2, .inl rfl, hs'.1⟩
   ·have d2 : decide (n < o.f1) = false := decide_eq_false k2
    go_wp2
    go_ret
    exact ⟨_, rfl, HW.out, World.grownBy.refl _ _, .inl HD.out.2, by rw [dropL, if_neg (fun h => absurd h.2 (by omega))]; exact HD.out.1⟩
  ·have d1 : (o.f0 == 1) = false := beq_eq_false_iff_ne.mpr k1
   go_wp2
   go_ret
   exact ⟨_, rfl, HW.out, World.grownBy.refl _ _, .inl HD.out.2, by rw [dropL, if_neg (fun h => k1 h.1)]; exact HD.out.1⟩
set_option maxHeartbeats 1000000 in
theorem clone_walk (w wr : World) (hw : Below w.heap.size w wr) (A : Option Addr) (c : Nat) (ps : List Op) (hC : Kd.C kOp wr A ps.length ps) (hc : ps.length ≤ c) (hl : ps.length < 4398046511104) :
  Calls Try.prog 67 #[.slice A ps.length c] wr fun e w' => ∃ v', e = .returned v' ∧ Below wr.heap.size wr w' ∧ Kd.R kOp 41 w' wr.heap.size (fun _ => True) v' ps := by
 have HR := Aside0.mk hC
 have HC := Aside0.mk hc
 have HL := Aside0.mk hl
 clear hC hc hl hw
 have hn : ∀ W, (binOp .eql 22 (.slice A ps.length c) (.slice none 0 0)).run Try.prog W = .ok (.bool A.isNone) W := fun W => Lib.run_eql_slice_nil W 22 41 A _ c 0 0 Try.underlying22
 go_enter Try.func67, Try.ntmps67
 cases A with
 | none =>
  have h0 : ps = [] := by
   obtain ⟨_, _, h⟩ := HR.out
   cases ps with
   | nil => rfl
   | cons x l =>
    obtain ⟨ad, he, _⟩ := h (by simp)
    cases he
  have hn0 : Option.isNone (none : Option Addr) = true := rfl
  rw [hn0] at hn
  have H0 := Aside0.mk h0
  clear h0
  go_wp2
  go_ret
  obtain rfl := H0.out
  exact ⟨_, rfl, Below.refl _ _, Kd.R_nil _ _ _ _ _⟩
 | some a =>
  go_wp2_with (first | ((with_reducible refine gate_dst (N := 5) rfl ?_); refine Kd.R_lit kOp _ 41 ?hg (N := 5) ?hd (xs := ([] : List (Op))) (inner := []) (ok := fun _ => True) (okp := fun _ => True) ?hr ?hp (fun _ hk => hk) trivial (Below.refl _ _) (Nat.le_refl _) (by simp) ?_; (case hd => rfl); (case hg => rfl); (case hr => first | (go_simp; done) | (go_simp; rfl)); (case hp => exact (Reps.none _ _)); intro v5 w5 ho5 hb5 hg_ hn_; clear hg_ hn_; obtain ⟨A5, c5, rfl⟩ := Kd.R_slice ho5; have H5 := Aside0.mk (And.intro ho5 hb5); clear ho5 hb5) | ((with_reducible refine gate_builtin (b := .append) (xs := #[.tmp 5, .tmp 6]) rfl ?_); at_builtin; refine Kd.R_append_rows kOp (w0 := wr) wr.heap.size rfl (.tmp 5) (.tmp 6) 22 41 (.agg #[(.int .i64 0), (.int .i64 0), (.string ⟨#[]⟩)]) 32 rfl Try.underlying22 info_OpC rfl (by decide) (by omega) _ ([] : List (Op)) ps _ _ _ (fun _ => True) (fun _ => False) rfl rfl H5.out.1 (Kd.C_below HR.out H5.out.2) (fun _ _ h => h) (fun _ h => h.elim) (fun _ _ => trivial) H5.out.2 (below_size H5.out.2) (by have := HL.out; simp only [List.length_nil]; omega) ?_; intro v7 w7 ho7 hb7 hg_ hat_; have H7 := Aside0.mk (And.intro ho7 hb7); clear ho7 hb7 hg_ hat_))
  go_ret
  exact ⟨_, rfl, H7.out.2, by simpa using H7.out.1⟩
end Go.Proofs.Ytfoponahdidddaa.P
namespace Go.Proofs.Ytfoponahdidddaa.P
open Go.RowKit Go.Proofs.YtfoponahdidddaaW.PrintWords Go.Proofs.YtfoponahdidddaaW.PrintLast Go.Proofs.YtfoponahdidddaaW.PrintMore
theorem okW_text {l : List Op} (h : ∀ o ∈ l, okW1 o = true) : (nextL l 2147483648).f2.size < 1073741824 := by
 cases l with
 | nil => exact (by decide : (0 : Nat) < 1073741824)
 | cons o r =>
  have := h o (List.mem_cons_self ..)
  unfold okW1 at this
  simp only [Bool.and_eq_true, decide_eq_true_eq] at this
  exact this.2
theorem okW_skip {o : Op} (h : okW1 o = true) (hk : o.f0 = 1) : 1 ≤ o.f1 ∧ o.f1 ≤ 2147483648 := by
 unfold okW1 at h
 simp [hk] at h
 exact h.1
theorem okW_left {l : List Op} (h : ∀ o ∈ l, okW1 o = true) {n : Int} (hn : 1 ≤ n) : ∀ o ∈ dropL l n, okW1 o = true := by
 cases l with
 | nil => exact h
 | cons o r =>
  rw [dropL]
  split
  ·rename_i c
   intro x hx
   rcases List.mem_cons.mp hx with rfl | hx
   ·have h0 := h o (List.mem_cons_self ..)
    obtain ⟨h1, h2⟩ := okW_skip h0 c.1
    have e : wrap64 (o.f1 - n) = o.f1 - n := by unfold wrap64; omega
    unfold okW1 at h0 ⊢
    simp only [Bool.and_eq_true, decide_eq_true_eq] at h0
    have a1 : 1 ≤ o.f1 - n := by omega
    have a2 : o.f1 - n ≤ 2147483648 := by omega
    simp [e, a1, a2, h0.2]
   ·exact h x (List.mem_cons_of_mem _ hx)
  ·exact fun x hx => h x (List.mem_cons_of_mem _ hx)
theorem left_len (l : List Op) (n : Int) : (dropL l n).length ≤ l.length := by
 cases l with
 | nil => exact Nat.le_refl _
 | cons o r => rw [dropL]; split <;> simp
theorem left_both {ps qs : List Op} (hp : ∀ o ∈ ps, okW1 o = true) (hq : ∀ o ∈ qs, okW1 o = true) (hne : ps.length + qs.length ≠ 0) :
  1 ≤ (lineL (nextL ps 2147483648) (nextL qs 2147483648)).2.1 ∧ (dropL ps (lineL (nextL ps 2147483648) (nextL qs 2147483648)).2.1).length + (dropL qs (lineL (nextL ps 2147483648) (nextL qs 2147483648)).2.1).length < ps.length + qs.length ∧ True := by
 have a := left_len ps
 have b := left_len qs
 have nf : ∀ l : List Op, (∀ o ∈ l, okW1 o = true) → (nextL l 2147483648).f0 = 1 → 1 ≤ (nextL l 2147483648).f1 ∧ (nextL l 2147483648).f1 ≤ 2147483648 := by
  intro l hl hk
  cases l with
  | nil => exact ⟨by show (1 : Int) ≤ 2147483648; omega, by show (2147483648 : Int) ≤ 2147483648; omega⟩
  | cons o r => exact okW_skip (hl o (List.mem_cons_self ..)) hk
 have fl : ∀ (l : List Op) (n : Int), l ≠ [] → ¬ ((nextL l 2147483648).f0 = 1 ∧ (nextL l 2147483648).f1 > n) → (dropL l n).length < l.length := by
  intro l n hl hc
  cases l with
  | nil => exact absurd rfl hl
  | cons o r =>
   have hc : ¬ (o.f0 = 1 ∧ o.f1 > n) := hc
   rw [dropL, if_neg hc]; simp
 have en : ∀ l : List Op, l = [] → (nextL l 2147483648).f0 = 1 ∧ (nextL l 2147483648).f1 = 2147483648 := by rintro l rfl; exact ⟨rfl, rfl⟩
 have fp := fl ps
 have fq := fl qs
 have np := nf ps hp
 have nq := nf qs hq
 have ep := en ps
 have eq := en qs
 clear fl nf en hp hq
 generalize nextL ps 2147483648 = x at *
 generalize nextL qs 2147483648 = y at *
 have key : 1 ≤ (lineL x y).2.1 ∧ (dropL ps (lineL x y).2.1).length + (dropL qs (lineL x y).2.1).length < ps.length + qs.length := by
  by_cases kx : x.f0 = 1
  ·obtain ⟨x1, x2⟩ := np kx
   by_cases ky : y.f0 = 1
   ·obtain ⟨y1, y2⟩ := nq ky
    have e : (lineL x y).2.1 = min x.f1 y.f1 := by simp [lineL, kx, ky]
    rw [e]
    refine ⟨by omega, ?_⟩
    have ap := a (min x.f1 y.f1)
    have bq := b (min x.f1 y.f1)
    by_cases e1 : ps = []
    ·have e2 : qs ≠ [] := fun h => hne (by simp [e1, h])
     have := fq (min x.f1 y.f1) e2 (fun h => by have := (ep e1).2; omega)
     omega
    ·by_cases e2 : qs = []
     ·have := fp (min x.f1 y.f1) e1 (fun h => by have := (eq e2).2; omega)
      omega
     ·by_cases hm : x.f1 ≤ y.f1
      ·have := fp (min x.f1 y.f1) e1 (fun h => by omega)
       omega
      ·have := fq (min x.f1 y.f1) e2 (fun h => by omega)
       omega
   ·have e : (lineL x y).2.1 = 1 := by simp [lineL, kx, ky]
    rw [e]
    have e2 : qs ≠ [] := fun h => ky (eq h).1
    have := fq 1 e2 (fun h => ky h.1)
    have := a 1
    exact ⟨by omega, by omega⟩
  ·have e : (lineL x y).2.1 = 1 := by
    by_cases ky : y.f0 = 1 <;> simp [lineL, kx, ky]
   rw [e]
   have e1 : ps ≠ [] := fun h => kx (ep h).1
   have := fp 1 e1 (fun h => kx h.1)
   have := b 1
   exact ⟨by omega, by omega⟩
 exact ⟨key.1, key.2, trivial⟩
theorem okW_drop {ps qs : List Op} {op : Bool} {os : List Step} {n : Nat} {st : Step} (h : ps.length + qs.length ≤ n + 1 ∧ os.length + (n + 1) ≤ 1099511627776 ∧ (∀ o ∈ ps, okW1 o = true) ∧ ∀ o ∈ qs, okW1 o = true) (hne : ps.length + qs.length ≠ 0) (hno : noneL (nextL ps 2147483648) (nextL qs 2147483648) op = false) :
  (dropL ps (lineL (nextL ps 2147483648) (nextL qs 2147483648)).2.1).length + (dropL qs (lineL (nextL ps 2147483648) (nextL qs 2147483648)).2.1).length ≤ n ∧ (os ++ [st]).length + n ≤ 1099511627776 ∧ (∀ o ∈ dropL ps (lineL (nextL ps 2147483648) (nextL qs 2147483648)).2.1, okW1 o = true) ∧ ∀ o ∈ dropL qs (lineL (nextL ps 2147483648) (nextL qs 2147483648)).2.1, okW1 o = true := by
 obtain ⟨h1, h2, hp, hq⟩ := h
 obtain ⟨k1, k2, _⟩ := left_both hp hq hne
 exact ⟨by omega, by simp only [List.length_append, List.length_singleton]; omega, okW_left hp k1, okW_left hq k1⟩
end Go.Proofs.Ytfoponahdidddaa.P
namespace Go.Proofs.Ytfoponahdidddaa.P
open Go.RowKit Go.Proofs.YtfoponahdidddaaW.PrintWords Go.Proofs.YtfoponahdidddaaW.PrintLast Go.Proofs.YtfoponahdidddaaW.PrintMore
theorem table_at (g gt n : Nat) (wide i j v : Int) (w : World) (hb : w.heap[g]? = some (.cells #[.int .i64 wide, .slice (some ⟨gt, 0, none⟩) n n] 96 (0, 0)))
  (k : Nat) (hk : i * wide + j = (k : Int)) (hm : i * wide < 4611686018427387904) (hm0 : 0 ≤ i * wide) (hj0 : 0 ≤ j) (hj : j < 4611686018427387904) (hkn : k < n) (hc : w.cell? ⟨gt, k, none⟩ = some (.int .i32 v)) :
  Calls Try.prog 87 #[.pointer (some ⟨g, 0, none⟩), .int .i64 i, .int .i64 j] w fun e w' => e = .returned (.int .i32 v) ∧ Drawn0 w w' := by
 have c0 : w.cell? ⟨g, 0, none⟩ = some (.int .i64 wide) := (blk_cell hb 0).trans rfl
 have c1 : w.cell? ⟨g, 1, none⟩ = some (.slice (some ⟨gt, 0, none⟩) n n) := (blk_cell hb 1).trans rfl
 clear hb
 have h1 : IntKind.i64.wrap (i * wide) = i * wide := by rw [i64_w]; unfold wrap64; omega
 have h2 : IntKind.i64.wrap (i * wide + j) = (k : Int) := by rw [i64_w, hk]; unfold wrap64; omega
 have h3 : (0 : Int) ≤ (k : Int) := by omega
 have h4 : ((k : Int) < (n : Int)) := by omega
 replace h3 := eq_true h3
 replace h4 := eq_true h4
 clear hk hm hm0 hj0 hj
 go_enter Try.func87, Try.ntmps87
 go_wp2
 repeat (go_quiet (fail); try go_wp2)
 go_ret
 exact ⟨rfl, by repeat (first | exact Drawn0.refl _ | apply Drawn0.step)⟩
end Go.Proofs.Ytfoponahdidddaa.P
namespace Go.Proofs.Ytfoponahdidddaa.P
open Go.RowKit Go.Proofs.YtfoponahdidddaaW.PrintWords Go.Proofs.YtfoponahdidddaaW.PrintLast Go.Proofs.YtfoponahdidddaaW.PrintMore
theorem tabL_same {a b : List ByteArray} {i j : Nat} (hi : i < a.length) (hj : j < b.length) (h : a[i] = b[j]) : tabL a b i j = tabL a b (i + 1) (j + 1) + 1 := by
 unfold tabL
 rw [List.drop_eq_getElem_cons hi, List.drop_eq_getElem_cons hj, h, lcs_cons_same]; rfl
theorem tabL_ne {a b : List ByteArray} {i j : Nat} (hi : i < a.length) (hj : j < b.length) (h : a[i] ≠ b[j]) : tabL a b i j = max (tabL a b (i + 1) j) (tabL a b i (j + 1)) := by
 unfold tabL
 rw [List.drop_eq_getElem_cons hi, List.drop_eq_getElem_cons hj, lcs_cons_ne h, ← List.drop_eq_getElem_cons hi, ← List.drop_eq_getElem_cons hj]; omega
theorem tabL_bd (a b : List ByteArray) (i j : Nat) : 0 ≤ tabL a b i j ∧ tabL a b i j ≤ a.length := by
 unfold tabL
 have := lcs_le_left (a.drop i) (b.drop j)
 simp at this; omega
theorem text_eq {s t : ByteArray} (h : s.toList = t.toList) : s = t := by
 rw [Lib.toList_data, Lib.toList_data] at h
 exact WideShapes.bytes_inj h
theorem rd_getElem {a : List ByteArray} {i : Nat} (h : i < a.length) : rdOf ByteArray.empty a (i : Int) = a[i] := by
 unfold rdOf; rw [Int.toNat_natCast, List.getD_eq_getElem?_getD, List.getElem?_eq_getElem h]; rfl
theorem rd_text {a b : List ByteArray} {i j : Nat} (hi : i < a.length) (hj : j < b.length) (h : (rdOf ByteArray.empty a (i : Int)).toList = (rdOf ByteArray.empty b (j : Int)).toList) : a[i] = b[j] := by
 rw [rd_getElem hi, rd_getElem hj, Lib.toList_data, Lib.toList_data] at h
 exact WideShapes.bytes_inj h
theorem rd_text' {a b : List ByteArray} {i j : Nat} (hi : i < a.length) (hj : j < b.length) (h : a[i] = b[j]) : (rdOf ByteArray.empty a (i : Int)).toList = (rdOf ByteArray.empty b (j : Int)).toList := by
 rw [rd_getElem hi, rd_getElem hj, h]
end Go.Proofs.Ytfoponahdidddaa.P
namespace Go.Proofs.Ytfoponahdidddaa.P
open Go.RowKit Go.Proofs.YtfoponahdidddaaW.PrintWords Go.Proofs.YtfoponahdidddaaW.PrintLast Go.Proofs.YtfoponahdidddaaW.PrintMore
attribute [local go_sem] max2_int min2_int max_two min_two
def TabW (w wr : World) (g gt : Nat) (wide : Int) (xs : List Int) : Prop :=
 Below w.heap.size w wr ∧ w.heap.size ≤ g ∧ w.heap.size ≤ gt ∧ g ≠ gt ∧ wr.heap[g]? = some (.cells #[.int .i64 wide, .slice (some ⟨gt, 0, none⟩) xs.length xs.length] 96 (0, 0)) ∧ wr.heap[gt]? = some (.cells (nums .i32 xs).toArray 21 (0, 0))
theorem TabW.cell {w wr : World} {g gt : Nat} {wide : Int} {xs : List Int} (h : TabW w wr g gt wide xs) (k : Nat) (hk : k < xs.length) : wr.cell? ⟨gt, k, none⟩ = some (.int .i32 (xs.getD k 0)) := by
 rw [blk_cell h.2.2.2.2.2 k]
 simp [nums, List.getD, hk]
theorem TabW.drewN {w wr : World} {g gt : Nat} {wide : Int} {xs : List Int} (h : TabW w wr g gt wide xs) (n : Nat) : TabW w (wr.drewN n) g gt wide xs := ⟨pw_below_drewN h.1 n, h.2⟩
theorem TabW.set {w wr : World} {g gt : Nat} {wide : Int} {xs : List Int} (h : TabW w wr g gt wide xs) (k : Nat) (hk : k < xs.length) (v : Int) : TabW w (wr.setCell ⟨gt, k, none⟩ (.int .i32 v)) g gt wide (xs.set k v) := by
 obtain ⟨h1, h2, h3, h4, h5, h6⟩ := h
 refine ⟨below_set h1 h3, h2, h3, h4, ?_, ?_⟩
 ·rw [List.length_set]; exact blk_far h5 h4 _
 ·have := blk_set h6 k (.int .i32 v)
  rw [this]
  congr 2
  simp [nums, List.map_set]
def Good (a b : List ByteArray) (i j : Nat) (xs : List Int) : Prop :=
 xs.length = (a.length + 1) * (b.length + 1) ∧ ∀ i' j', i' ≤ a.length → j' ≤ b.length → (i < i' ∨ (i' = i ∧ j ≤ j') ∨ i' = a.length ∨ j' = b.length) → xs.getD (i' * (b.length + 1) + j') 0 = tabL a b i' j'
theorem Good.start (a b : List ByteArray) : Good a b a.length 0 (List.replicate ((a.length + 1) * (b.length + 1)) 0) := by
 refine ⟨by simp, fun i' j' hi hj h => ?_⟩
 have e : tabL a b i' j' = 0 := by
  unfold tabL
  rcases h with h | ⟨rfl, _⟩ | rfl | rfl
  ·omega
  ·simp [lcs_nil_left]
  ·simp [lcs_nil_left]
  ·simp [lcs_nil_right]
 rw [e]
 simp only [List.getD_eq_getElem?_getD, List.getElem?_replicate]
 split <;> rfl
theorem Good.row {a b : List ByteArray} {g : Nat} {xs : List Int} (h : Good a b (g + 1) 0 xs) : Good a b g b.length xs :=
 ⟨h.1, fun i' j' hi hj hh => h.2 i' j' hi hj (by omega)⟩
theorem idx_lt {la lb i j : Nat} (hi : i ≤ la) (hj : j ≤ lb) : i * (lb + 1) + j < (la + 1) * (lb + 1) := by
 have h1 : i * (lb + 1) ≤ la * (lb + 1) := Nat.mul_le_mul_right _ hi
 rw [Nat.succ_mul]; omega
theorem idx_inj {lb i i' j j' : Nat} (hj : j ≤ lb) (hj' : j' ≤ lb) (h : i * (lb + 1) + j = i' * (lb + 1) + j') : i = i' ∧ j = j' := by
 have h1 : (i * (lb + 1) + j) / (lb + 1) = i := by rw [Nat.mul_comm, Nat.mul_add_div (by omega), Nat.div_eq_of_lt (by omega)]; omega
 have h2 : (i' * (lb + 1) + j') / (lb + 1) = i' := by rw [Nat.mul_comm, Nat.mul_add_div (by omega), Nat.div_eq_of_lt (by omega)]; omega
 have h3 : i = i' := by rw [← h1, ← h2, h]
 subst h3
 exact ⟨rfl, by omega⟩
theorem Good.put {a b : List ByteArray} {i j : Nat} {xs : List Int} (h : Good a b i (j + 1) xs) (hi : i < a.length) (hj : j < b.length) (v : Int) (hv : v = tabL a b i j) : Good a b i j (xs.set (i * (b.length + 1) + j) v) := by
 refine ⟨by rw [List.length_set]; exact h.1, fun i' j' hi' hj' hh => ?_⟩
 have hlt : i * (b.length + 1) + j < xs.length := by rw [h.1]; exact idx_lt (by omega) (by omega)
 by_cases e : i' = i ∧ j' = j
 ·obtain ⟨rfl, rfl⟩ := e
  simp [List.getD_eq_getElem?_getD, List.getElem?_set, hlt, hv]
 ·have hne : ¬ i * (b.length + 1) + j = i' * (b.length + 1) + j' := fun e' => e (by have := idx_inj (by omega) hj' e'; omega)
  have := h.2 i' j' hi' hj' (by omega)
  simpa [List.getD_eq_getElem?_getD, List.getElem?_set, hne] using this
theorem tab_read {w wr : World} {g gt : Nat} {wide : Int} {xs : List Int} (h : TabW w wr g gt wide xs) (i j : Int) (k : Nat) (hk : i * wide + j = (k : Int)) (hm : i * wide < 4611686018427387904) (hm0 : 0 ≤ i * wide) (hj0 : 0 ≤ j) (hj : j < 4611686018427387904) (hkn : k < xs.length) (V : Int) (hV : xs.getD k 0 = V) :
  Calls Try.prog 87 #[.pointer (some ⟨g, 0, none⟩), .int .i64 i, .int .i64 j] wr fun e w' => e = .returned (.int .i32 V) ∧ ∃ n, w' = wr.drewN n :=
 (table_at g gt xs.length wide i j V wr h.2.2.2.2.1 k hk hm hm0 hj0 hj hkn (by rw [h.cell k hkn, hV])).mono fun _ _ ⟨he, hd⟩ => ⟨he, hd.out⟩
end Go.Proofs.Ytfoponahdidddaa.P
namespace Go.Proofs.Ytfoponahdidddaa.P
open Go.RowKit Go.Proofs.YtfoponahdidddaaW.PrintWords Go.Proofs.YtfoponahdidddaaW.PrintLast Go.Proofs.YtfoponahdidddaaW.PrintMore
attribute [local go_sem] max2_int min2_int max_two min_two
theorem info_i32 : (Try.prog.info? 21).map (fun i => (i.zero, i.size, i.bytes)) = some (some (.int .i32 0), 1, 4) := by kernel_rfl
theorem made_tab (w : World) (m : Nat) (wide : Int) : TabW w ((w.alloc (.cells (madeCells #[.int .i32 0] m) 21)).alloc (.cells #[.int .i64 wide, .slice (some ⟨w.heap.size, 0, none⟩) m m] 96)) (w.heap.size + 1) w.heap.size wide (List.replicate m 0) := by
 have e : (nums .i32 (List.replicate m (0 : Int))).toArray = madeCells #[.int .i32 0] m := by
  apply Array.toList_inj.mp
  apply List.ext_getElem
  ·simp [nums, madeCells]
  ·intro i h1 h2
   simp [nums, madeCells, Nat.mod_one]
 refine ⟨below_alloc (below_alloc (Below.refl _ _) _) _, by omega, by omega, by omega, ?_, ?_⟩
 ·simpa using heap_alloc_new (w.alloc (.cells (madeCells #[.int .i32 0] m) 21)) _
 ·rw [e]
  have h1 := heap_alloc_new w (.cells (madeCells #[.int .i32 0] m) 21)
  have hb := below_alloc (Below.refl (w.alloc (.cells (madeCells #[.int .i32 0] m) 21)).heap.size (w.alloc (.cells (madeCells #[.int .i32 0] m) 21))) (.cells #[.int .i64 wide, .slice (some ⟨w.heap.size, 0, none⟩) m m] 96)
  rw [hb.block _ (by simp)]
  exact h1
set_option maxHeartbeats 1000000 in
theorem lcs_of_walk (A0 : Option Addr) (c0 : Nat) (a : List ByteArray) (A1 : Option Addr) (c1 : Nat) (b : List ByteArray) (w : World) (hr0 : Kd.C Kd.string w A0 a.length a) (hr1 : Kd.C Kd.string w A1 b.length b) (ha : a.length ≤ 1000000) (hb : b.length ≤ 1000000) :
  Calls Try.prog 86 #[.slice A0 a.length c0, .slice A1 b.length c1] w fun e w' => ∃ g gt xs, e = .returned (.pointer (some ⟨g, 0, none⟩)) ∧ TabW w w' g gt ((b.length : Int) + 1) xs ∧ Good a b 0 0 xs := by
 have HR0 := Aside0.mk hr0
 have HR1 := Aside0.mk hr1
 clear hr0 hr1
 have la0 : (a.length : Int) ≤ 1000000 := by omega
 have lb0 : (b.length : Int) ≤ 1000000 := by omega
 obtain ⟨m, hm⟩ : ∃ m : Nat, m = (a.length + 1) * (b.length + 1) := ⟨_, rfl⟩
 have hm1 : m ≤ 1000001 * 1000001 := by rw [hm]; exact Nat.mul_le_mul (by omega) (by omega)
 have hmul : wrap64 (((a.length : Int) + 1) * ((b.length : Int) + 1)) = (m : Int) := by
  have : ((a.length : Int) + 1) * ((b.length : Int) + 1) = (m : Int) := by rw [hm]; simp
  rw [this]; unfold wrap64; omega
 have hmk := print_make (P := Try.prog) 94 21 .i32 4 Try.underlying94 info_i32 (by decide) m (by omega)
 have HM := Aside0.mk hm
 clear hm hm1
 go_enter Try.func86, Try.ntmps86
 go_wp2
 go_step3
 go_wp2
 go_step3
 go_wp2
 clear hmk hmul
 go_loopg [6] a.length (fun gh s6 wx => ∃ (i : Int) (xs : List Int), s6 = .int .i64 i ∧ Aside0 (i = (gh : Int) - 1) ∧ Aside0 (gh ≤ a.length) ∧ Aside0 (TabW w wx (w.heap.size + 1) w.heap.size ((b.length : Int) + 1) xs) ∧ Aside0 (Good a b gh 0 xs))
 case atStart => exact ⟨_, List.replicate m 0, rfl, ⟨rfl⟩, ⟨Nat.le_refl _⟩, ⟨made_tab w m _⟩, ⟨by rw [HM.out]; exact Good.start a b⟩⟩
 case round =>
  obtain ⟨i, xs, rfl, HI, HL, HT, HG⟩ := hrel
  cases gk with
  | zero =>
   obtain rfl : i = -1 := by have := HI.out; omega
   clear HI HL
   go_wp2
   try rw [Exit.noGoto_ret]
   go_ret
   exact ⟨_, _, xs, rfl, HT.out, HG.out⟩
  | succ gh =>
   obtain rfl : i = (gh : Int) := by have := HI.out; omega
   have hi0 : (gh : Int) < (a.length : Int) := by have := HL.out; omega
   clear HI
   go_wp2
   go_loopg [7] b.length (fun g2 s7 wy => ∃ (j : Int) (ys : List Int), s7 = .int .i64 j ∧ Aside0 (j = (g2 : Int)) ∧ Aside0 (g2 ≤ b.length) ∧ Aside0 (TabW w wy (w.heap.size + 1) w.heap.size ((b.length : Int) + 1) ys) ∧ Aside0 (Good a b gh g2 ys))
   case atStart => exact ⟨_, xs, rfl, ⟨rfl⟩, ⟨Nat.le_refl _⟩, HT, ⟨HG.out.row⟩⟩
   case round =>
    clear HT HG xs
    obtain ⟨j, ys, rfl, HJ, HL2, HT, HG⟩ := hrel
    cases gk with
    | zero =>
     obtain rfl : j = 0 := by have := HJ.out; omega
     go_wp2
     go_roundg gh
     case measure => omega
     case rel => exact ⟨_, ys, rfl, ⟨by omega⟩, ⟨by omega⟩, HT, HG⟩
    | succ g2 =>
     obtain rfl : j = (g2 : Int) + 1 := by have := HJ.out; omega
     have hj0 : (g2 : Int) < (b.length : Int) := by have := HL2.out; omega
     have hgi : gh < a.length := by omega
     have hgj : g2 < b.length := by omega
     clear HJ
     obtain ⟨V1, hV1⟩ : ∃ V : Int, V = tabL a b (gh + 1) g2 := ⟨_, rfl⟩
     obtain ⟨V2, hV2⟩ : ∃ V : Int, V = tabL a b gh (g2 + 1) := ⟨_, rfl⟩
     obtain ⟨V3, hV3⟩ : ∃ V : Int, V = tabL a b (gh + 1) (g2 + 1) := ⟨_, rfl⟩
     have B1 := tabL_bd a b (gh + 1) g2
     have B2 := tabL_bd a b gh (g2 + 1)
     have B3 := tabL_bd a b (gh + 1) (g2 + 1)
     rw [← hV1] at B1
     rw [← hV2] at B2
     rw [← hV3] at B3
     have hlen : ys.length = (a.length + 1) * (b.length + 1) := HG.out.1
     have HC1 := Aside0.mk ((HG.out.2 (gh + 1) g2 (by omega) (by omega) (by omega)).trans hV1.symm)
     have HC2 := Aside0.mk ((HG.out.2 gh (g2 + 1) (by omega) (by omega) (by omega)).trans hV2.symm)
     have HC3 := Aside0.mk ((HG.out.2 (gh + 1) (g2 + 1) (by omega) (by omega) (by omega)).trans hV3.symm)
     have HV1 := Aside0.mk hV1
     have HV2 := Aside0.mk hV2
     have HV3 := Aside0.mk hV3
     have HLN := Aside0.mk hlen
     clear hV1 hV2 hV3 hlen
     have P1 : ((gh : Int) + 1) * ((b.length : Int) + 1) ≤ 1000000 * 1000001 := Int.mul_le_mul (by omega) (by omega) (by omega) (by omega)
     have P2 : (gh : Int) * ((b.length : Int) + 1) ≤ 1000000 * 1000001 := Int.mul_le_mul (by omega) (by omega) (by omega) (by omega)
     have P3 : 0 ≤ (gh : Int) * ((b.length : Int) + 1) := Int.mul_nonneg (by omega) (by omega)
     have P4 : 0 ≤ ((gh : Int) + 1) * ((b.length : Int) + 1) := Int.mul_nonneg (by omega) (by omega)
     obtain ⟨MX, hMX⟩ : ∃ M : Int, (if V1 < V2 then V2 else V1) = M := ⟨_, rfl⟩
     have HP := Aside0.mk (And.intro P1 (And.intro P2 (And.intro P3 P4)))
     clear P1 P2 P3 P4
     go_wp2_with fail
     refine (tab_read HT.out ((gh : Int) + 1) (g2 : Int) ((gh + 1) * (b.length + 1) + g2) (by simp) (by have := HP.out; omega) HP.out.2.2.2 (by omega) (by omega) (by rw [HLN.out]; exact idx_lt (by omega) (by omega)) V1 HC1.out).mono ?_
     rintro e w1 ⟨rfl, ⟨n1, rfl⟩⟩
     go_wp2_with fail
     refine (tab_read (HT.out.drewN n1) (gh : Int) ((g2 : Int) + 1) (gh * (b.length + 1) + (g2 + 1)) (by simp) (by have := HP.out; omega) HP.out.2.2.1 (by omega) (by omega) (by rw [HLN.out]; exact idx_lt (by omega) (by omega)) V2 HC2.out).mono ?_
     rintro e w2 ⟨rfl, ⟨n2, rfl⟩⟩
     have hs1 := Kd.at_string HR0.out (gh : Int) (by omega) hi0
     obtain ⟨ad1, e1, hx1⟩ := hs1
     cases e1
     replace hx1 := (HT.out.1.cell (World.block_lt_of_cell? w _ hx1)).trans hx1
     obtain ⟨ad2, e2, hx2⟩ := Kd.at_string HR1.out (g2 : Int) (by omega) hj0
     cases e2
     replace hx2 := (HT.out.1.cell (World.block_lt_of_cell? w _ hx2)).trans hx2
     rw [Int.toNat_natCast] at hx1 hx2
     have hgi0 : (0 : Int) ≤ (gh : Int) := by omega
     have hgj0 : (0 : Int) ≤ (g2 : Int) := by omega
     by_cases heq : (rdOf ByteArray.empty a (gh : Int)).toList = (rdOf ByteArray.empty b (g2 : Int)).toList
     ·have heq0 : ((rdOf ByteArray.empty a (gh : Int)).toList == (rdOf ByteArray.empty b (g2 : Int)).toList) = true := beq_iff_eq.mpr heq
      have HEQ := Aside0.mk heq
      clear heq
      go_wp2_with fail
      go_quiet (fail)
      try go_wp2_with fail
      have HMX := Aside0.mk hMX
      clear hMX
      refine (tab_read (HT.out.drewN _) ((gh : Int) + 1) ((g2 : Int) + 1) ((gh + 1) * (b.length + 1) + (g2 + 1)) (by simp) (by have := HP.out; omega) HP.out.2.2.2 (by omega) (by omega) (by rw [HLN.out]; exact idx_lt (by omega) (by omega)) V3 HC3.out).mono ?_
      rintro e w3 ⟨rfl, ⟨n3, rfl⟩⟩
      go_wp2_with fail
      obtain ⟨K, hK⟩ : ∃ K : Nat, K = gh * (b.length + 1) + g2 := ⟨_, rfl⟩
      have hKl : K < ys.length := by rw [hK, HLN.out]; exact idx_lt (by omega) (by omega)
      have hKi : (gh : Int) * ((b.length : Int) + 1) + (g2 : Int) = (K : Int) := by rw [hK]; simp
      have hw1 : IntKind.i64.wrap ((gh : Int) * ((b.length : Int) + 1)) = (gh : Int) * ((b.length : Int) + 1) := by rw [i64_w]; have := HP.out; unfold wrap64; omega
      have hw2 : IntKind.i64.wrap ((gh : Int) * ((b.length : Int) + 1) + (g2 : Int)) = (K : Int) := by rw [i64_w, hKi]; have := HP.out; unfold wrap64; omega
      have hk0 : (0 : Int) ≤ (K : Int) := by omega
      have hk1 : (K : Int) < (ys.length : Int) := by omega
      have hc0 : wr.cell? ⟨w.heap.size + 1, 0, none⟩ = some (.int .i64 ((b.length : Int) + 1)) := (blk_cell HT.out.2.2.2.2.1 0).trans rfl
      have hc1 : wr.cell? ⟨w.heap.size + 1, 1, none⟩ = some (.slice (some ⟨w.heap.size, 0, none⟩) ys.length ys.length) := (blk_cell HT.out.2.2.2.2.1 1).trans rfl
      have hck := HT.out.cell K hKl
      have hfk := blk_frozen HT.out.2.2.2.2.2 K
      have HK := Aside0.mk hK
      clear hK hKi heq0 hx1 hx2
      go_region
      clear hc0 hc1 hck hfk hw1 hw2
      go_wp2
      go_roundg g2
      case measure => omega
      case rel => exact ⟨_, ys.set K (V3 + 1), rfl, ⟨rfl⟩, ⟨by omega⟩, ⟨(HT.out.drewN _).set K hKl _⟩, ⟨by rw [HK.out]; exact HG.out.put hgi hgj _ (by rw [tabL_same hgi hgj (rd_text hgi hgj HEQ.out), HV3.out])⟩⟩
     ·have heq0 : ((rdOf ByteArray.empty a (gh : Int)).toList == (rdOf ByteArray.empty b (g2 : Int)).toList) = false := beq_eq_false_iff_ne.mpr heq
      have HEQ := Aside0.mk heq
      clear heq
      go_wp2_with fail
      go_quiet (fail)
      try go_wp2_with fail
      have HMX := Aside0.mk hMX
      clear hMX
      obtain ⟨K, hK⟩ : ∃ K : Nat, K = gh * (b.length + 1) + g2 := ⟨_, rfl⟩
      have hKl : K < ys.length := by rw [hK, HLN.out]; exact idx_lt (by omega) (by omega)
      have hKi : (gh : Int) * ((b.length : Int) + 1) + (g2 : Int) = (K : Int) := by rw [hK]; simp
      have hw1 : IntKind.i64.wrap ((gh : Int) * ((b.length : Int) + 1)) = (gh : Int) * ((b.length : Int) + 1) := by rw [i64_w]; have := HP.out; unfold wrap64; omega
      have hw2 : IntKind.i64.wrap ((gh : Int) * ((b.length : Int) + 1) + (g2 : Int)) = (K : Int) := by rw [i64_w, hKi]; have := HP.out; unfold wrap64; omega
      have hk0 : (0 : Int) ≤ (K : Int) := by omega
      have hk1 : (K : Int) < (ys.length : Int) := by omega
      have hc0 : wr.cell? ⟨w.heap.size + 1, 0, none⟩ = some (.int .i64 ((b.length : Int) + 1)) := (blk_cell HT.out.2.2.2.2.1 0).trans rfl
      have hc1 : wr.cell? ⟨w.heap.size + 1, 1, none⟩ = some (.slice (some ⟨w.heap.size, 0, none⟩) ys.length ys.length) := (blk_cell HT.out.2.2.2.2.1 1).trans rfl
      have hck := HT.out.cell K hKl
      have hfk := blk_frozen HT.out.2.2.2.2.2 K
      have HK := Aside0.mk hK
      clear hK hKi heq0 hx1 hx2
      go_region
      clear hc0 hc1 hck hfk hw1 hw2
      go_wp2
      go_roundg g2
      case measure => omega
      case rel => exact ⟨_, ys.set K (MX), rfl, ⟨rfl⟩, ⟨by omega⟩, ⟨(HT.out.drewN _).set K hKl _⟩, ⟨by rw [HK.out]; exact HG.out.put hgi hgj _ (by rw [tabL_ne hgi hgj (fun e => HEQ.out (rd_text' hgi hgj e)), ← HV1.out, ← HV2.out]; have := HMX.out; split at this <;> omega)⟩⟩
end Go.Proofs.Ytfoponahdidddaa.P
namespace Go.Proofs.Ytfoponahdidddaa.P
open Go.RowKit Go.Proofs.YtfoponahdidddaaW.PrintWords Go.Proofs.YtfoponahdidddaaW.PrintLast Go.Proofs.YtfoponahdidddaaW.PrintMore
attribute [local go_sem] max2_int min2_int max_two min_two
def OutW (w wr : World) (gb : Nat) (xs : List Op) : Prop :=
 Below w.heap.size w wr ∧ w.heap.size ≤ gb ∧ ∃ v, wr.heap[gb]? = some (.cells #[v] 22 (0, 0)) ∧ Kd.R kOp 41 wr w.heap.size (fun k => k ≠ gb) v xs
def KeepT (wr w' : World) : Prop := wr.heap.size ≤ w'.heap.size ∧ ∀ (k : Nat) (cs : Array Value) (ty : TypeId), wr.heap[k]? = some (.cells cs ty (0, 0)) → ty ≠ 22 → ty ≠ 41 → w'.heap[k]? = wr.heap[k]?
theorem KeepT.refl (w : World) : KeepT w w := ⟨Nat.le_refl _, fun _ _ _ _ _ _ => rfl⟩
theorem KeepT.trans {w1 w2 w3 : World} (h : KeepT w1 w2) (h' : KeepT w2 w3) : KeepT w1 w3 :=
 ⟨Nat.le_trans h.1 h'.1, fun k cs ty hk a b => by rw [h'.2 k cs ty ((h.2 k cs ty hk a b).trans hk) a b, h.2 k cs ty hk a b]⟩
theorem OutW.drewN {w wr : World} {gb : Nat} {xs : List Op} (h : OutW w wr gb xs) (n : Nat) : OutW w (wr.drewN n) gb xs := by
 obtain ⟨h1, h2, v, h3, h4⟩ := h
 exact ⟨pw_below_drewN h1 n, h2, v, h3, Kd.R_drewN h4 n⟩
theorem info_Op : (Try.prog.info? 41).map (fun i => (i.zero, i.size, i.bytes)) = some (some (.agg #[(.int .i64 0), (.int .i64 0), (.string ⟨#[]⟩)]), 3, 32) := by kernel_rfl
set_option maxHeartbeats 1000000 in
theorem put_walk (w wr : World) (gb : Nat) (xs : List Op) (h : OutW w wr gb xs) (hl : xs.length < 4398046511104) (k : Int) (s : ByteArray) :
  Calls Try.prog 84 #[.int .i64 k, .string s, .pointer (some ⟨gb, 0, none⟩)] wr fun e w' => (∃ r, e = .returned r) ∧ OutW w w' gb (xs ++ [⟨k, 0, s⟩]) ∧ KeepT wr w' := by
 obtain ⟨h1, h2, v, h3, h4⟩ := h
 have hc0 : wr.cell? ⟨gb, 0, none⟩ = some v := (blk_cell h3 0).trans rfl
 have HB := Aside0.mk h1
 have HO := Aside0.mk h4
 have H3 := Aside0.mk h3
 have HL := Aside0.mk hl
 have H2 := Aside0.mk h2
 clear h1 h4 h3 hl h2
 have huO := Try.underlying41
 go_enter Try.func84, Try.ntmps84
 go_wp2_with (first | ((with_reducible refine gate_builtin (b := .append) (xs := #[.tmp 5, .tmp 9]) rfl ?_); at_builtin; refine Kd.R_append kOp (w0 := w) w.heap.size rfl (.tmp 5) (.tmp 9) 22 41 (.agg #[(.int .i64 0), (.int .i64 0), (.string ⟨#[]⟩)]) 32 rfl Try.underlying22 info_Op rfl (by decide) (by omega) v xs (⟨k, 0, s⟩ : Op) [.int .i64 k, .int .i64 0, .string s] (fun k_ => k_ ≠ gb) (fun _ => False) rfl rfl ?aP (fun _ hk => hk.elim) ?aF ?aO ?aB ?aS ?aL ?_; (case aP => exact kOp_mkM _ _ _ (⟨k, 0, s⟩ : Op)); (case aB => exact HB.out); (case aF => exact (fun k_ hk => Kd.freshB H3.out k_ hk)); (case aO => exact HO.out); (case aS => exact below_size HB.out); (case aL => have := HL.out; omega); intro v1 w1 ho hb hg hat; obtain ⟨Ao, co, rfl⟩ := Kd.R_slice ho; have HH := Aside0.mk (And.intro ho (And.intro hb (And.intro hg hat))); have hg3 := blk_grown H3.out hg (Kd.R_away HO.out (fun _ hk => hk)); have HG3 := Aside0.mk hg3; have hcs : w1.cell? ⟨gb, 0, none⟩ = some v := (blk_cell hg3 0).trans rfl; have hfs := blk_frozen hg3 0; clear ho hb hg hat hg3))
 go_end0
 obtain ⟨ho, hb, hg, hat⟩ := HH.out
 refine ⟨⟨_, rfl⟩, ⟨below_set hb H2.out, H2.out, _, (by simpa using blk_set HG3.out 0 _), Kd.R_far ho (fun k hk => hk) _⟩, ?_, ?_⟩
 ·simpa using hg.size
 ·intro k cs ty hk a b
  have hne : k ≠ gb := by
   rintro rfl
   rw [H3.out] at hk
   injection hk with hk
   injection hk with _ h2
   exact a h2.symm
  rw [Below.heap_setCell w1 ⟨gb, 0, none⟩ _ k hne]
  exact hg.block k (blk_lt hk) (Kd.R_ne HO.out hk (fun e => b e.symm))
def TabB (wr : World) (g gt : Nat) (wide : Int) (xs : List Int) : Prop :=
 wr.heap[g]? = some (.cells #[.int .i64 wide, .slice (some ⟨gt, 0, none⟩) xs.length xs.length] 96 (0, 0)) ∧ wr.heap[gt]? = some (.cells (nums .i32 xs).toArray 21 (0, 0))
theorem TabW.tab {w wr : World} {g gt : Nat} {wide : Int} {xs : List Int} (h : TabW w wr g gt wide xs) : TabB wr g gt wide xs := h.2.2.2.2
theorem TabB.drewN {wr : World} {g gt : Nat} {wide : Int} {xs : List Int} (h : TabB wr g gt wide xs) (n : Nat) : TabB (wr.drewN n) g gt wide xs := h
theorem TabB.keepT {wr w' : World} {g gt : Nat} {wide : Int} {xs : List Int} (h : TabB wr g gt wide xs) (hk : KeepT wr w') : TabB w' g gt wide xs :=
 ⟨(hk.2 _ _ _ h.1 (by decide) (by decide)).trans h.1, (hk.2 _ _ _ h.2 (by decide) (by decide)).trans h.2⟩
theorem tabB_read {wr : World} {g gt : Nat} {wide : Int} {xs : List Int} (h : TabB wr g gt wide xs) (i j : Int) (k : Nat) (hk : i * wide + j = (k : Int)) (hm : i * wide < 4611686018427387904) (hm0 : 0 ≤ i * wide) (hj0 : 0 ≤ j) (hj : j < 4611686018427387904) (hkn : k < xs.length) (V : Int) (hV : xs.getD k 0 = V) :
  Calls Try.prog 87 #[.pointer (some ⟨g, 0, none⟩), .int .i64 i, .int .i64 j] wr fun e w' => e = .returned (.int .i32 V) ∧ ∃ n, w' = wr.drewN n :=
 (table_at g gt xs.length wide i j V wr h.1 k hk hm hm0 hj0 hj hkn (by
  rw [blk_cell h.2 k, ← hV]
  simp [nums, List.getD, hkn])).mono fun _ _ ⟨he, hd⟩ => ⟨he, hd.out⟩
end Go.Proofs.Ytfoponahdidddaa.P
