/- Own and printed texts that the theorem of WitnessBoth reaches, put together. -/
import Derived.Test.YtkiklmmpflndbaaDoorqWitnessBoth5
import Derived.Test.YtkiklmmpflndbaaDoorqWitnessBoth3
import Derived.Test.YtkiklmmpflndbaaDoorqWitnessBoth13
import Derived.Test.YtkiklmmpflndbaaDoorqWitnessBoth9
import Derived.Outline
set_option linter.unusedVariables false
set_option linter.unusedSimpArgs false
namespace Go.Proofs.YtkiklmmpflndbaaDoor.P
open Go.RowKit Go.Proofs.YtkiklmmpflndbaaDoorW.PrintWords Go.Proofs.YtkiklmmpflndbaaDoorW.PrintLast Go.Proofs.YtkiklmmpflndbaaDoorW.PrintMore
theorem info_OpR : (Tryd.prog.info? 32).map (fun i => (i.zero, i.size, i.bytes)) = some (some (.agg #[(.int .i64 0), (.int .i64 0), (.string ⟨#[]⟩)]), 3, 32) := by kernel_rfl
theorem info_ByR : (Tryd.prog.info? 61).map (fun i => (i.zero, i.size, i.bytes)) = some (some (.agg #[(.int .i64 0), (.int .i64 0), (.string ⟨#[]⟩), (.int .i64 0)]), 4, 40) := by kernel_rfl
theorem kOp_hp : Kd.Heap kOp := Kd.heap_iso _ (Kd.heap_pair (Kd.heap_int .i64) (Kd.heap_pair (Kd.heap_int .i64) Kd.heap_string))
def RefW (w wr : World) (v0 v1 v7 : Value) (ps qs : List Op) (outs : List By) (ok : Nat → Prop) : Prop :=
 Below w.heap.size w wr ∧ Kd.V kOp 32 wr 0 (fun k => ok k ∧ some k ≠ v7.ownBlock) v0 ps ∧ Kd.V kOp 32 wr 0 (fun k => ok k ∧ some k ≠ v7.ownBlock) v1 qs ∧ Kd.R kBy 61 wr w.heap.size (fun _ => True) v7 outs
theorem RefW.below {w wr w' : World} {v0 v1 v7 : Value} {ps qs : List Op} {outs : List By} {ok : Nat → Prop} (h : RefW w wr v0 v1 v7 ps qs outs ok) (hb : Below wr.heap.size wr w') : RefW w w' v0 v1 v7 ps qs outs ok :=
 ⟨below_step h.1 hb, Kd.V_below h.2.1 hb, Kd.V_below h.2.2.1 hb, Kd.R_below h.2.2.2 hb⟩
theorem RefW.app {w wr w1 : World} {v0 v1 v7 v7' : Value} {ps qs : List Op} {outs outs' : List By} {ok : Nat → Prop} (h : RefW w wr v0 v1 v7 ps qs outs ok) (ho : Kd.R kBy 61 w1 w.heap.size (fun _ => True) v7' outs') (hb : Below w.heap.size w w1) (hg : wr.grownBy w1 v7.ownBlock) (hat : v7'.ownBlock = v7.ownBlock ∨ ∃ b, v7'.ownBlock = some b ∧ wr.heap.size ≤ b) : RefW w w1 v0 v1 v7' ps qs outs' ok :=
 ⟨hb, Kd.V_afterv h.2.1 hg hat, Kd.V_afterv h.2.2.1 hg hat, ho⟩
theorem RefW.mono {w wr : World} {v0 v1 v7 : Value} {ps qs : List Op} {outs : List By} {ok ok' : Nat → Prop} (h : RefW w wr v0 v1 v7 ps qs outs ok) (hk : ∀ k, ok k → ok' k) : RefW w wr v0 v1 v7 ps qs outs ok' :=
 ⟨h.1, Kd.V_mono h.2.1 (fun k hx => ⟨hk k hx.1, hx.2⟩), Kd.V_mono h.2.2.1 (fun k hx => ⟨hk k hx.1, hx.2⟩), h.2.2.2⟩
theorem RefW.new {w wr : World} {v0 v1 v7 : Value} {ps qs : List Op} {outs : List By} {ok : Nat → Prop} (h : RefW w wr v0 v1 v7 ps qs outs ok) (g : Nat) (hg : wr.heap.size ≤ g) : RefW w wr v0 v1 v7 ps qs outs (fun k => ok k ∧ k ≠ g) :=
 ⟨h.1, Kd.V_mono (Kd.V_elderB h.2.1 g hg) (fun k hx => ⟨⟨hx.1.1, hx.2⟩, hx.1.2⟩), Kd.V_mono (Kd.V_elderB h.2.2.1 g hg) (fun k hx => ⟨⟨hx.1.1, hx.2⟩, hx.1.2⟩), h.2.2.2⟩
theorem RefW.set {w wr : World} {v0 v1 v7 : Value} {ps qs : List Op} {outs : List By} {ok : Nat → Prop} {g : Nat} {cs : Array Value} (h : RefW w wr v0 v1 v7 ps qs outs ok) (hg : w.heap.size ≤ g) (hk : ∀ k, ok k → k ≠ g) (hb : wr.heap[g]? = some (.cells cs 32 (0, 0))) (j : Nat) (u : Value) : RefW w (wr.setCell ⟨g, j, none⟩ u) v0 v1 v7 ps qs outs ok :=
 ⟨below_set h.1 hg, Kd.V_far (p := ⟨g, j, none⟩) h.2.1 (fun k hx => hk k hx.1) u, Kd.V_far (p := ⟨g, j, none⟩) h.2.2.1 (fun k hx => hk k hx.1) u, Kd.R_set h.2.2.2 hb (by decide) j u⟩
theorem RefW.len0 {w wr : World} {v0 v1 v7 : Value} {ps qs : List Op} {outs : List By} {ok : Nat → Prop} (h : RefW w wr v0 v1 v7 ps qs outs ok) : ∃ A0 c0 A1 c1 A7 c7, v0 = .slice A0 ps.length c0 ∧ v1 = .slice A1 qs.length c1 ∧ v7 = .slice A7 outs.length c7 := by
 obtain ⟨A0, c0, h0⟩ := Kd.V_slice h.2.1
 obtain ⟨A1, c1, h1⟩ := Kd.V_slice h.2.2.1
 obtain ⟨A7, c7, h7⟩ := Kd.R_slice h.2.2.2
 exact ⟨A0, c0, A1, c1, A7, c7, h0, h1, h7⟩
theorem head_v {wr : World} {ok : Nat → Prop} {v : Value} {o : Op} {r : List Op} (h : Kd.V kOp 32 wr 0 ok v (o :: r)) :
  ∃ ad cap A1 c1 m, 0 < m ∧ m = r.length + 1 ∧ v = .slice (some ad) m cap ∧ wr.cell? ad = some (.int .i64 o.f0) ∧ wr.cell? ⟨ad.block, ad.off + 1, none⟩ = some (.int .i64 o.f1) ∧ wr.cell? ⟨ad.block, ad.off + 2, none⟩ = some (.string o.f2) ∧ ok ad.block ∧
   (∀ W, (Instr.slice 22 (.slice (some ad) m cap) (some (.int .i64 1)) none none).run Tryd.prog W = .ok (.slice A1 r.length c1) W) ∧ Kd.V kOp 32 wr 0 ok (.slice A1 r.length c1) r := by
 obtain ⟨A, c, rfl⟩ := Kd.V_slice h
 have hpos : (0 : Int) < ((o :: r).length : Nat) := by simp only [List.length_cons]; omega
 obtain ⟨ad, rfl, x0, x1, x2⟩ := at_Op (Kd.V_reads' h).2.2 0 (by omega) hpos
 rw [show ((0 : Int)).toNat = 0 from rfl, Nat.zero_mul, Addr.add_zero'] at x0 x1 x2
 have hin := Kd.F_in (Kd.V_F h) rfl (by simp) (by decide)
 have hcap := (Kd.V_reads' h).2.1
 obtain ⟨bi, hbi, _, hbs, _⟩ := info_parts info_OpR
 have hcut := cut_from (P := Tryd.prog) 22 32 .i64 Tryd.underlying22 hbi 3 hbs (some ad) (o :: r).length c 1 (by omega) (by simp only [List.length_cons]; omega)
 have hf := Kd.F_cut (m := 1) (c := c) (Kd.V_at h).2.2 (by simp) hcap
 refine ⟨ad, c, _, _, _, ?_, rfl, rfl, x0, x1, x2, hin, hcut, ?_⟩
 ·omega
 ·exact Kd.V_mk (by simp only [List.length_cons] at hcap; show r.length ≤ c - 1; omega) hf
theorem tail_v {wr : World} {ok : Nat → Prop} {ad : Addr} {m cap : Nat} {o : Op} {r : List Op} (h : Kd.V kOp 32 wr 0 ok (.slice (some ad) m cap) (o :: r)) :
  ∃ A1 c1, (∀ W, (Instr.slice 22 (.slice (some ad) m cap) (some (.int .i64 1)) none none).run Tryd.prog W = .ok (.slice A1 r.length c1) W) ∧ Kd.V kOp 32 wr 0 ok (.slice A1 r.length c1) r := by
 obtain ⟨ad', cap', A1, c1, m', _, _, hv, _, _, _, _, hcut, hq⟩ := head_v h
 simp only [Value.slice.injEq, Option.some.injEq] at hv
 obtain ⟨rfl, rfl, rfl⟩ := hv
 exact ⟨A1, c1, hcut, hq⟩
def farL (l : List Op) : Op := nextL l 1099511627776
theorem okR_W {o : Op} (h : okR1 o = true) : okW1 o = true := by
 unfold okR1 at h
 rw [Bool.and_eq_true] at h
 exact h.1
theorem okR_kind {o : Op} (h : okR1 o = true) : o.f0 = 1 ∨ o.f0 = 2 ∨ o.f0 = 3 ∨ o.f0 = 4 := by
 unfold okR1 at h
 rw [Bool.and_eq_true, Bool.and_eq_true] at h
 simpa using h.2.2
theorem okR_text {o : Op} (h : okR1 o = true) : o.f0 = 1 ↔ o.f2 = ⟨#[]⟩ := by
 unfold okR1 at h
 rw [Bool.and_eq_true, Bool.and_eq_true] at h
 have := h.2.1
 simp only [beq_iff_eq, decide_eq_decide] at this
 exact this
theorem okR_skip {o : Op} (h : okR1 o = true) (hk : o.f0 = 1) : 1 ≤ o.f1 ∧ o.f1 ≤ 2147483648 := by
 have h := okR_W h
 unfold okW1 at h
 simp [hk] at h
 exact h.1
theorem okR_size {o : Op} (h : okR1 o = true) : o.f2.size < 1073741824 := by
 have h := okR_W h
 unfold okW1 at h
 simp only [Bool.and_eq_true, decide_eq_true_eq] at h
 exact h.2
theorem far_line {ps qs : List Op} (hp : ∀ o ∈ ps, okR1 o = true) (hq : ∀ o ∈ qs, okR1 o = true) (hne : ps.length + qs.length ≠ 0) : lineL (farL ps) (farL qs) = lineL (nextL ps 2147483648) (nextL qs 2147483648) ∧ ∀ op, noneL (farL ps) (farL qs) op = noneL (nextL ps 2147483648) (nextL qs 2147483648) op := by
 cases ps with
 | nil =>
  cases qs with
  | nil => simp at hne
  | cons y qs =>
   show lineL ⟨1, 1099511627776, ⟨#[]⟩⟩ y = lineL ⟨1, 2147483648, ⟨#[]⟩⟩ y ∧ ∀ op, noneL ⟨1, 1099511627776, ⟨#[]⟩⟩ y op = noneL ⟨1, 2147483648, ⟨#[]⟩⟩ y op
   refine ⟨?_, fun op => rfl⟩
   by_cases ky : y.f0 = 1
   ·have := okR_skip (hq y (List.mem_cons_self ..)) ky
    have e : min (1099511627776 : Int) y.f1 = min 2147483648 y.f1 := by omega
    simp only [lineL, ky, ne_eq, not_true_eq_false, false_and, if_false, e]
   ·simp [lineL, ky]
 | cons x ps =>
  cases qs with
  | nil =>
   show lineL x ⟨1, 1099511627776, ⟨#[]⟩⟩ = lineL x ⟨1, 2147483648, ⟨#[]⟩⟩ ∧ ∀ op, noneL x ⟨1, 1099511627776, ⟨#[]⟩⟩ op = noneL x ⟨1, 2147483648, ⟨#[]⟩⟩ op
   refine ⟨?_, fun op => rfl⟩
   by_cases kx : x.f0 = 1
   ·have := okR_skip (hp x (List.mem_cons_self ..)) kx
    have e : min x.f1 (1099511627776 : Int) = min x.f1 2147483648 := by omega
    simp only [lineL, kx, ne_eq, not_true_eq_false, false_and, and_false, if_false, e]
   ·simp [lineL, kx]
  | cons y qs => exact ⟨rfl, fun op => rfl⟩
def endB (x y : Op) : Bool := ((x.f0 != 1) && openT x.f2) || ((y.f0 != 1) && openT y.f2)
theorem okR_far {l : List Op} (h : ∀ o ∈ l, okR1 o = true) : ((farL l).f0 = 1 ↔ (farL l).f2 = ⟨#[]⟩) ∧ (farL l).f2.size < 1073741824 ∧ ((farL l).f0 = 1 → 1 ≤ (farL l).f1 ∧ (farL l).f1 ≤ 1099511627776) := by
 cases l with
 | nil => exact ⟨⟨fun _ => rfl, fun _ => rfl⟩, (by decide : (0 : Nat) < 1073741824), fun _ => ⟨(by decide : (1 : Int) ≤ 1099511627776), Int.le_refl _⟩⟩
 | cons o r =>
  have ho := h o (List.mem_cons_self ..)
  exact ⟨okR_text ho, okR_size ho, fun hk => ⟨(okR_skip ho hk).1, by have := (okR_skip ho hk).2; show o.f1 ≤ _; omega⟩⟩
theorem opnB_ne {t : ByteArray} (h : t ≠ ⟨#[]⟩) : opnB t = openT t := by
 unfold opnB openT
 simp [h]
theorem end_line {x y : Op} (hx : x.f0 = 1 ↔ x.f2 = ⟨#[]⟩) (hy : y.f0 = 1 ↔ y.f2 = ⟨#[]⟩) (hno : noneL x y false = false) : endB x y = opnB (lineL x y).1 := by
 have am : ∀ t : ByteArray, t ++ ⟨#[]⟩ = t := fun t => WideShapes.bytes_inj (by simp)
 have ma : ∀ t : ByteArray, (⟨#[]⟩ : ByteArray) ++ t = t := fun t => WideShapes.bytes_inj (by simp)
 unfold endB
 by_cases kx : x.f0 = 1
 ·have ex := hx.mp kx
  by_cases ky : y.f0 = 1
  ·have ey := hy.mp ky
   simp only [lineL, kx, ky, ne_eq, not_true_eq_false, false_and, if_false, ex, ey, am]
   rfl
  ·have ey := fun h => ky (hy.mpr h)
   simp [lineL, kx, ky, ex, ma, opnB_ne ey]
 ·have ex := fun h => kx (hx.mpr h)
  by_cases ky : y.f0 = 1
  ·have ey := hy.mp ky
   simp [lineL, kx, ky, ey, am, opnB_ne ex]
  ·have et : x.f2 = y.f2 := by
    unfold noneL at hno
    simp [kx, ky] at hno
    exact hno
   have ey := fun h => ky (hy.mpr h)
   have bx : (x.f0 != 1) = true := bne_iff_ne.mpr kx
   have by_ : (y.f0 != 1) = true := bne_iff_ne.mpr ky
   rw [bx, by_, et]
   simp [lineL, kx, ky, et, opnB_ne ey]
theorem on_val {l : List Op} (h : ∀ o ∈ l, okR1 o = true) (hl : l.length ≤ 1099511627776) (n : Int) : patchworkref8_on.f l n = some (dropL l n) := by
 cases l with
 | nil => rfl
 | cons o r =>
  have c : ¬ (((o :: r).length : Nat) : Int) = 0 := by simp only [List.length_cons]; omega
  have c1 : (0 : Int) < (((o :: r).length : Nat) : Int) := by simp only [List.length_cons]; omega
  have c2 : (1 : Int) ≤ (((o :: r).length : Nat) : Int) := by simp only [List.length_cons]; omega
  have e0 : rd_Op (o :: r) 0 = o := rfl
  have cl : ([(⟨1, wrap64 (o.f1 - n), (⟨#[]⟩ : ByteArray)⟩ : Op)] : List Op).length + (List.drop 1 (o :: r)).length < 4398046511104 := by simp only [List.length_cons, List.length_nil, List.drop_succ_cons, List.drop_zero] at hl ⊢; omega
  rw [patchworkref8_on.f, dropL]
  simp only [if_neg c, if_pos c1, if_pos c2, e0]
  by_cases hk : o.f0 = 1
  ·simp only [if_pos hk]
   have ht := (okR_text (h o (List.mem_cons_self ..))).mp hk
   by_cases hn : o.f1 > n
   ·rw [if_pos hn, if_pos ⟨hk, hn⟩, Option.bind_some, Option.bind_some, if_pos cl, ht, hk]; rfl
   ·rw [if_neg hn, if_neg (fun x => hn x.2)]; rfl
  ·rw [if_neg hk, if_neg (fun x => hk x.1)]; rfl
theorem okR_left {l : List Op} (h : ∀ o ∈ l, okR1 o = true) {n : Int} (hn : 1 ≤ n) : ∀ o ∈ dropL l n, okR1 o = true := by
 cases l with
 | nil => exact h
 | cons o r =>
  rw [dropL]
  split
  ·rename_i c
   intro x hx
   rcases List.mem_cons.mp hx with rfl | hx
   ·have h0 := h o (List.mem_cons_self ..)
    obtain ⟨h1, h2⟩ := okR_skip h0 c.1
    have e : wrap64 (o.f1 - n) = o.f1 - n := by unfold wrap64; omega
    have ht := okR_text h0
    have hs := okR_size h0
    have hc := c.1
    have a1 : 1 ≤ o.f1 - n := by omega
    have a2 : o.f1 - n ≤ 2147483648 := by omega
    unfold okR1 okW1
    simp [e, a1, a2, hs, ht, hc]
    exact ht.mp hc
   ·exact h x (List.mem_cons_of_mem _ hx)
  ·exact fun x hx => h x (List.mem_cons_of_mem _ hx)
theorem okR_drop {ps qs : List Op} {op : Bool} {os : List Step} {n : Nat} {st : Step} (h : ps.length + qs.length ≤ n + 1 ∧ os.length + (n + 1) ≤ 1099511627776 ∧ (∀ o ∈ ps, okR1 o = true) ∧ ∀ o ∈ qs, okR1 o = true) (hne : ps.length + qs.length ≠ 0) (hno : noneL (nextL ps 2147483648) (nextL qs 2147483648) op = false) :
  (dropL ps (lineL (nextL ps 2147483648) (nextL qs 2147483648)).2.1).length + (dropL qs (lineL (nextL ps 2147483648) (nextL qs 2147483648)).2.1).length ≤ n ∧ (os ++ [st]).length + n ≤ 1099511627776 ∧ (∀ o ∈ dropL ps (lineL (nextL ps 2147483648) (nextL qs 2147483648)).2.1, okR1 o = true) ∧ ∀ o ∈ dropL qs (lineL (nextL ps 2147483648) (nextL qs 2147483648)).2.1, okR1 o = true := by
 obtain ⟨h1, h2, hp, hq⟩ := h
 obtain ⟨k1, k2, k3⟩ := left_both (fun o ho => okR_W (hp o ho)) (fun o ho => okR_W (hq o ho)) hne
 exact ⟨by omega, by simp only [List.length_append, List.length_singleton]; omega, okR_left hp k1, okR_left hq k1⟩
def RefS (w wr : World) (v0 v1 v7 : Value) (ps qs : List Op) (outs : List By) (gx gy : Nat) (x y : Op) : Prop :=
 RefW w wr v0 v1 v7 ps qs outs (fun k => k ≠ gx ∧ k ≠ gy) ∧ wr.heap[gx]? = some (.cells #[.int .i64 x.f0, .int .i64 x.f1, .string x.f2] 32 (0, 0)) ∧ wr.heap[gy]? = some (.cells #[.int .i64 y.f0, .int .i64 y.f1, .string y.f2] 32 (0, 0)) ∧ gx ≠ gy ∧ w.heap.size ≤ gx ∧ w.heap.size ≤ gy
theorem RefS.below {w wr w' : World} {v0 v1 v7 : Value} {ps qs : List Op} {outs : List By} {gx gy : Nat} {x y : Op} (h : RefS w wr v0 v1 v7 ps qs outs gx gy x y) (hb : Below wr.heap.size wr w') : RefS w w' v0 v1 v7 ps qs outs gx gy x y :=
 ⟨h.1.below hb, blk_below h.2.1 hb, blk_below h.2.2.1 hb, h.2.2.2⟩
def zFar : Op := ⟨1, 1099511627776, ⟨#[]⟩⟩
theorem RefS.mk0 {w wr : World} {v0 v1 v7 : Value} {ps qs : List Op} {outs : List By} {gx gy : Nat} {x y z : Op} (h : RefS w wr v0 v1 v7 ps qs outs gx gy z y) :
  RefS w (((wr.setCell ⟨gx, 0, none⟩ (.int .i64 x.f0)).setCell ⟨gx, 1, none⟩ (.int .i64 x.f1)).setCell ⟨gx, 2, none⟩ (.string x.f2)) v0 v1 v7 ps qs outs gx gy x y := by
 obtain ⟨h1, h2, h3, h4, h5, h6⟩ := h
 have b1 := blk_set h2 0 (.int .i64 x.f0)
 have b2 := blk_set b1 1 (.int .i64 x.f1)
 have b3 := blk_set b2 2 (.string x.f2)
 refine ⟨RefW.set (RefW.set (RefW.set h1 h5 (fun k hk => hk.1) h2 0 _) h5 (fun k hk => hk.1) b1 1 _) h5 (fun k hk => hk.1) b2 2 _, by simpa using b3, ?_, h4, h5, h6⟩
 exact blk_far (p := ⟨gx, 2, none⟩) (blk_far (p := ⟨gx, 1, none⟩) (blk_far (p := ⟨gx, 0, none⟩) h3 h4.symm _) h4.symm _) h4.symm _
theorem RefS.mk1 {w wr : World} {v0 v1 v7 : Value} {ps qs : List Op} {outs : List By} {gx gy : Nat} {x y z : Op} (h : RefS w wr v0 v1 v7 ps qs outs gx gy x z) :
  RefS w (((wr.setCell ⟨gy, 0, none⟩ (.int .i64 y.f0)).setCell ⟨gy, 1, none⟩ (.int .i64 y.f1)).setCell ⟨gy, 2, none⟩ (.string y.f2)) v0 v1 v7 ps qs outs gx gy x y := by
 obtain ⟨h1, h2, h3, h4, h5, h6⟩ := h
 have b1 := blk_set h3 0 (.int .i64 y.f0)
 have b2 := blk_set b1 1 (.int .i64 y.f1)
 have b3 := blk_set b2 2 (.string y.f2)
 refine ⟨RefW.set (RefW.set (RefW.set h1 h6 (fun k hk => hk.2) h3 0 _) h6 (fun k hk => hk.2) b1 1 _) h6 (fun k hk => hk.2) b2 2 _, ?_, by simpa using b3, h4, h5, h6⟩
 exact blk_far (p := ⟨gy, 2, none⟩) (blk_far (p := ⟨gy, 1, none⟩) (blk_far (p := ⟨gy, 0, none⟩) h2 h4 _) h4 _) h4 _
def RefPost (w : World) (r1 : List By) (r2 r3 : Bool) (e : Ending) (w' : World) : Prop := ∃ v0_ : Value, e = .returned (.tuple #[v0_, .bool r2, .bool r3]) ∧ Kd.R kBy 61 w' w.heap.size (fun _ => True) v0_ r1 ∧ Below w.heap.size w w'
theorem okR_parts {p q : List Op} (h : okR p q = true) : (∀ o ∈ p, okR1 o = true) ∧ (∀ o ∈ q, okR1 o = true) ∧ p.length + q.length ≤ 1099511627776 := by
 unfold okR at h
 simpa only [Bool.and_eq_true, List.all_eq_true, decide_eq_true_eq] using h
theorem byS_app (a b : List Step) : byS (a ++ b) = byS a ++ byS b := by simp [byS]
theorem metS_app (a b : List Step) : metS (a ++ b) = (metS a || metS b) := by simp [metS]
theorem byS_len (a : List Step) : (byS a).length ≤ a.length := by
 unfold byS
 rw [List.length_map]
 exact List.length_filter_le _ _
def loopOf : Code → Option Code
 | .loop c => some c
 | .seq a b => match loopOf a with
  | some c => some c
  | none => loopOf b
 | .block _ c => loopOf c
 | _ => none
def blkOf (n : Nat) : Code → Option Code
 | .block m c => if m = n then some c else blkOf n c
 | .seq a b => match blkOf n a with
  | some c => some c
  | none => blkOf n b
 | .loop c => blkOf n c
 | _ => none
def sfx : Nat → Code → Code
 | n + 1, .seq _ b => sfx n b
 | _, c => c
noncomputable def refLoop : Code := (Tryd.f32.body.bind loopOf).getD .skip
noncomputable def refRest (n : Nat) : Code := sfx n ((Tryd.f32.body.bind (blkOf 1)).getD .skip)
set_option maxHeartbeats 40000000 in
set_option maxRecDepth 100000 in
theorem refD (w wx : World) (K : Exit → Act → World → Prop) {v0 v1 v7 v8 v9 : Value} (ps qs : List Op) (outs : List By) (n : Int) {u4 u5 u6 u10 u11 u13 u14 u15 u16 u17 u18 u19 u20 u21 u22 u23 u24 u25 u26 u27 u28 u29 u30 u31 u32 u33 u34 u35 u36 u37 u38 u39 u40 u41 u42 u43 u44 u45 u46 u47 u48 u49 u50 u51 u52 u53 u54 u55 u56 u57 u58 u59 u60 u61 u62 u63 u64 u65 u66 u67 u68 u69 u70 u71 u72 u73 u74 u75 u76 u77 u78 u79 u80 u81 u82 u83 u84 u85 u86 u87 u88 u89 u90 u91 u92 u93 u94 u95 u96 u97 u98 u99 u100 u101 u102 u103 u104 u105 u106 u107 u108 u109 u110 u111 u112 u113 u114 u115 u116 u117 u118 u119 u120 u121 u122 u123 u124 u125 u126 u127 u128 u129 u130 u131 u132 u133 u134 u135 u136 u137 u138 u139 u140 u141 u142 u143 u144 u145 u146 u147 u148 u149 u150 u151 u152 u153 u154 u155 u156 u157 u158 u159 u160 u161 u162 u163 u164 u165 u166 u167 u168 u169 u170 u171 u172 u173 u174 u175 u176 u177 u178 u179 u180 u181 u182 u183 u184 : Value} (HW : Aside0 (RefW w wx v0 v1 v7 ps qs outs (fun _ => True))) (HP : Aside0 ((∀ o ∈ ps, okR1 o = true) ∧ (∀ o ∈ qs, okR1 o = true) ∧ ps.length + qs.length ≤ 1099511627776))
  (HK : Aside0 (∀ (v0 v1 : Value) (u4 u5 u6 u10 u11 u12 u13 u14 u15 u16 u17 u18 u19 u20 u21 u22 u23 u24 u25 u26 u27 u28 u29 u30 u31 u32 u33 u34 u35 u36 u37 u38 u39 u40 u41 u42 u43 u44 u45 u46 u47 u48 u49 u50 u51 u52 u53 u54 u55 u56 u57 u58 u59 u60 u61 u62 u63 u64 u65 u66 u67 u68 u69 u70 u71 u72 u73 u74 u75 u76 u77 u78 u79 u80 u81 u82 u83 u84 u85 u86 u87 u88 u89 u90 u91 u92 u93 u94 u95 u96 u97 u98 u99 u100 u101 u102 u103 u104 u105 u106 u107 u108 u109 u110 u111 u112 u113 u114 u115 u116 u117 u118 u119 u120 u121 u122 u123 u124 u125 u126 u127 u128 u129 u130 u131 u132 u133 u134 u135 u136 u137 u138 u139 u140 u141 u142 u143 u144 u145 u146 u147 u148 u149 u150 u151 u152 u153 u154 u155 u156 u157 u158 u159 u160 u161 u162 u163 u164 u165 u166 u167 u168 u169 u170 u171 u172 u173 u174 u175 u176 u177 u178 u179 u180 u181 u182 u183 u184 : Value) (w' : World), RefW w w' v0 v1 v7 (dropL ps n) (dropL qs n) outs (fun _ => True) → K .normal ⟨#[v0, v1, undef, undef, u4, u5, u6, v7, v8, v9, u10, u11, u12, u13, u14, u15, u16, u17, u18, u19, u20, u21, u22, u23, u24, u25, u26, u27, u28, u29, u30, u31, u32, u33, u34, u35, u36, u37, u38, u39, u40, u41, u42, u43, u44, u45, u46, u47, u48, u49, u50, u51, u52, u53, u54, u55, u56, u57, u58, u59, u60, u61, u62, u63, u64, u65, u66, u67, u68, u69, u70, u71, u72, u73, u74, u75, u76, u77, u78, u79, u80, u81, u82, u83, u84, u85, u86, u87, u88, u89, u90, u91, u92, u93, u94, u95, u96, u97, u98, u99, u100, u101, u102, u103, u104, u105, u106, u107, u108, u109, u110, u111, u112, u113, u114, u115, u116, u117, u118, u119, u120, u121, u122, u123, u124, u125, u126, u127, u128, u129, u130, u131, u132, u133, u134, u135, u136, u137, u138, u139, u140, u141, u142, u143, u144, u145, u146, u147, u148, u149, u150, u151, u152, u153, u154, u155, u156, u157, u158, u159, u160, u161, u162, u163, u164, u165, u166, u167, u168, u169, u170, u171, u172, u173, u174, u175, u176, u177, u178, u179, u180, u181, u182, u183, u184, undef, undef], []⟩ w')) :
  Code.wp Tryd.prog (refRest 12) K ⟨#[v0, v1, undef, undef, u4, u5, u6, v7, v8, v9, u10, u11, .int .i64 n, u13, u14, u15, u16, u17, u18, u19, u20, u21, u22, u23, u24, u25, u26, u27, u28, u29, u30, u31, u32, u33, u34, u35, u36, u37, u38, u39, u40, u41, u42, u43, u44, u45, u46, u47, u48, u49, u50, u51, u52, u53, u54, u55, u56, u57, u58, u59, u60, u61, u62, u63, u64, u65, u66, u67, u68, u69, u70, u71, u72, u73, u74, u75, u76, u77, u78, u79, u80, u81, u82, u83, u84, u85, u86, u87, u88, u89, u90, u91, u92, u93, u94, u95, u96, u97, u98, u99, u100, u101, u102, u103, u104, u105, u106, u107, u108, u109, u110, u111, u112, u113, u114, u115, u116, u117, u118, u119, u120, u121, u122, u123, u124, u125, u126, u127, u128, u129, u130, u131, u132, u133, u134, u135, u136, u137, u138, u139, u140, u141, u142, u143, u144, u145, u146, u147, u148, u149, u150, u151, u152, u153, u154, u155, u156, u157, u158, u159, u160, u161, u162, u163, u164, u165, u166, u167, u168, u169, u170, u171, u172, u173, u174, u175, u176, u177, u178, u179, u180, u181, u182, u183, u184, undef, undef], []⟩ wx := by
 obtain ⟨Ap, cp, e0⟩ := Kd.V_slice HW.out.2.1
 obtain ⟨Aq, cq, e1⟩ := Kd.V_slice HW.out.2.2.1
 subst e0
 subst e1
 have hlt : ∀ k, v7.ownBlock = some k → k < wx.heap.size := fun k hk => ((Kd.R_bound HW.out.2.2.2).1 k hk).2.2.1
 have HLT := Aside0.mk hlt
 clear hlt
 conv => arg 2; whnf
 go_wp2_with fail
 refine (patchworkref8_on.calls (fun k => True ∧ some k ≠ v7.ownBlock) Ap cp ps n (dropL ps n) _ HW.out.2.1 (on_val HP.out.1 (by have := HP.out.2.2; omega) n)).mono ?_
 rintro e_ w1 ⟨v0', rfl, hq, hb⟩
 have HW1 := Aside0.mk (show RefW w w1 v0' (.slice Aq qs.length cq) v7 (dropL ps n) qs outs (fun _ => True) from ⟨below_step HW.out.1 hb, Kd.V_mono hq (fun k hk => hk.elim (fun h => h) (fun h => ⟨trivial, fun he => by have := HLT.out k he.symm; omega⟩)), Kd.V_below HW.out.2.2.1 hb, Kd.R_below HW.out.2.2.2 hb⟩)
 have HLT1 := Aside0.mk (show ∀ k, v7.ownBlock = some k → k < w1.heap.size from fun k hk => Nat.lt_of_lt_of_le (HLT.out k hk) hb.size)
 clear hq hb HW HLT
 go_wp2_with fail
 refine (patchworkref8_on.calls (fun k => True ∧ some k ≠ v7.ownBlock) Aq cq qs n (dropL qs n) _ HW1.out.2.2.1 (on_val HP.out.2.1 (by have := HP.out.2.2; omega) n)).mono ?_
 rintro e_ w2 ⟨v1', rfl, hq, hb⟩
 have HW2 := Aside0.mk (show RefW w w2 v0' v1' v7 (dropL ps n) (dropL qs n) outs (fun _ => True) from ⟨below_step HW1.out.1 hb, Kd.V_below HW1.out.2.1 hb, Kd.V_mono hq (fun k hk => hk.elim (fun h => h) (fun h => ⟨trivial, fun he => by have := HLT1.out k he.symm; omega⟩)), Kd.R_below HW1.out.2.2.2 hb⟩)
 clear hq hb HW1 HLT1
 go_wp2_with fail
 apply HK.out
 exact HW2.out
set_option maxHeartbeats 40000000 in
set_option maxRecDepth 100000 in
theorem refDel (w wr : World) (K : Exit → Act → World → Prop) {v0 v1 v7 v8 v9 : Value} (o : Op) (r : List Op) (qs : List Op) (os : List Step) {u4 u5 u6 u10 u11 u12 u13 u14 u15 u16 u17 u18 u19 u20 u21 u22 u23 u24 u25 u26 u27 u28 u29 u30 u31 u32 u33 u34 u35 u36 u37 u38 u39 u40 u41 u42 u43 u44 u45 u46 u47 u48 u49 u50 u51 u52 u53 u54 u55 u56 u57 u58 u59 u60 u61 u62 u63 u64 u65 u66 u67 u68 u69 u70 u71 u72 u73 u74 u75 u76 u77 u78 u79 u80 u81 u82 u83 u84 u85 u86 u87 u88 u89 u90 u91 u92 u93 u94 u95 u96 u97 u98 u99 u100 u101 u102 u103 u104 u105 u106 u107 u108 u109 u110 u111 u112 u113 u114 u115 u116 u117 u118 u119 u120 u121 u122 u123 u124 u125 u126 u127 u128 u129 u130 u131 u132 u133 u134 u135 u136 u137 u138 u139 u140 u141 u142 u143 u144 u145 u146 u147 u148 u149 u150 u151 u152 u153 u154 u155 u156 u157 u158 u159 u160 u161 u162 u163 u164 u165 u166 u167 u168 u169 u170 u171 u172 u173 u174 u175 u176 u177 u178 u179 u180 u181 u182 u183 u184 : Value} (HW : Aside0 (RefW w wr v0 v1 v7 (o :: r) qs (byS os) (fun _ => True))) (HL : Aside0 ((byS os).length < 2199023255552)) (hk : o.f0 = 3)
  (HK : Aside0 (∀ (v0 v1 v7 : Value) (u4 u5 u6 u10 u11 u12 u13 u14 u15 u16 u17 u18 u19 u20 u21 u22 u23 u24 u25 u26 u27 u28 u29 u30 u31 u32 u33 u34 u35 u36 u37 u38 u39 u40 u41 u42 u43 u44 u45 u46 u47 u48 u49 u50 u51 u52 u53 u54 u55 u56 u57 u58 u59 u60 u61 u62 u63 u64 u65 u66 u67 u68 u69 u70 u71 u72 u73 u74 u75 u76 u77 u78 u79 u80 u81 u82 u83 u84 u85 u86 u87 u88 u89 u90 u91 u92 u93 u94 u95 u96 u97 u98 u99 u100 u101 u102 u103 u104 u105 u106 u107 u108 u109 u110 u111 u112 u113 u114 u115 u116 u117 u118 u119 u120 u121 u122 u123 u124 u125 u126 u127 u128 u129 u130 u131 u132 u133 u134 u135 u136 u137 u138 u139 u140 u141 u142 u143 u144 u145 u146 u147 u148 u149 u150 u151 u152 u153 u154 u155 u156 u157 u158 u159 u160 u161 u162 u163 u164 u165 u166 u167 u168 u169 u170 u171 u172 u173 u174 u175 u176 u177 u178 u179 u180 u181 u182 u183 u184 : Value) (w' : World), RefW w w' v0 v1 v7 r qs (byS (os ++ [⟨o, 1, false⟩])) (fun _ => True) → K .normal ⟨#[v0, v1, undef, undef, u4, u5, u6, v7, v8, v9, u10, u11, u12, u13, u14, u15, u16, u17, u18, u19, u20, u21, u22, u23, u24, u25, u26, u27, u28, u29, u30, u31, u32, u33, u34, u35, u36, u37, u38, u39, u40, u41, u42, u43, u44, u45, u46, u47, u48, u49, u50, u51, u52, u53, u54, u55, u56, u57, u58, u59, u60, u61, u62, u63, u64, u65, u66, u67, u68, u69, u70, u71, u72, u73, u74, u75, u76, u77, u78, u79, u80, u81, u82, u83, u84, u85, u86, u87, u88, u89, u90, u91, u92, u93, u94, u95, u96, u97, u98, u99, u100, u101, u102, u103, u104, u105, u106, u107, u108, u109, u110, u111, u112, u113, u114, u115, u116, u117, u118, u119, u120, u121, u122, u123, u124, u125, u126, u127, u128, u129, u130, u131, u132, u133, u134, u135, u136, u137, u138, u139, u140, u141, u142, u143, u144, u145, u146, u147, u148, u149, u150, u151, u152, u153, u154, u155, u156, u157, u158, u159, u160, u161, u162, u163, u164, u165, u166, u167, u168, u169, u170, u171, u172, u173, u174, u175, u176, u177, u178, u179, u180, u181, u182, u183, u184, undef, undef], []⟩ w')) :
  Code.wp Tryd.prog refLoop K ⟨#[v0, v1, undef, undef, u4, u5, u6, v7, v8, v9, u10, u11, u12, u13, u14, u15, u16, u17, u18, u19, u20, u21, u22, u23, u24, u25, u26, u27, u28, u29, u30, u31, u32, u33, u34, u35, u36, u37, u38, u39, u40, u41, u42, u43, u44, u45, u46, u47, u48, u49, u50, u51, u52, u53, u54, u55, u56, u57, u58, u59, u60, u61, u62, u63, u64, u65, u66, u67, u68, u69, u70, u71, u72, u73, u74, u75, u76, u77, u78, u79, u80, u81, u82, u83, u84, u85, u86, u87, u88, u89, u90, u91, u92, u93, u94, u95, u96, u97, u98, u99, u100, u101, u102, u103, u104, u105, u106, u107, u108, u109, u110, u111, u112, u113, u114, u115, u116, u117, u118, u119, u120, u121, u122, u123, u124, u125, u126, u127, u128, u129, u130, u131, u132, u133, u134, u135, u136, u137, u138, u139, u140, u141, u142, u143, u144, u145, u146, u147, u148, u149, u150, u151, u152, u153, u154, u155, u156, u157, u158, u159, u160, u161, u162, u163, u164, u165, u166, u167, u168, u169, u170, u171, u172, u173, u174, u175, u176, u177, u178, u179, u180, u181, u182, u183, u184, undef, undef], []⟩ wr := by
 conv => arg 2; whnf
 have d1 : (o.f0 == 3) = true := beq_iff_eq.mpr hk
 clear hk
 obtain ⟨ad, cap, Ax, cx, m, hm0, hm, rfl, y0, y1, y2, hx0, hx1, hx2⟩ := head_v HW.out.2.1
 clear hx0 hx1 hx2 Ax cx
 have i0 : ((0 : Int) < (m : Int)) = True := eq_true (by omega)
 have i1 : (0 < m) = True := eq_true hm0
 clear hm
 go_wp2_with (first | ((with_reducible refine gate_builtin (b := .append) (xs := #[.tmp 31, .tmp 36]) rfl ?_); (try (refine gate_guard (by rfl) ?_; dsimp only)); at_builtin; refine Kd.R_append kBy (w0 := w) w.heap.size rfl (.tmp 31) (.tmp 36) 46 61 (.agg #[(.int .i64 0), (.int .i64 0), (.string ⟨#[]⟩), (.int .i64 0)]) 40 rfl Tryd.underlying46 info_ByR rfl (by decide) (by omega) v7 (byS os) (⟨(⟨o.f0, o.f1, o.f2⟩ : Op), 1⟩ : By) [.int .i64 o.f0, .int .i64 o.f1, .string o.f2, .int .i64 1] (fun _ => True) (fun _ => False) rfl rfl ?aP (fun _ hk => hk.elim) (fun _ _ => trivial) ?aO ?aB ?aS ?aL ?_; (case aP => exact kBy_mkM _ _ _ (⟨(⟨o.f0, o.f1, o.f2⟩ : Op), 1⟩ : By)); (case aO => exact HW.out.2.2.2); (case aB => exact HW.out.1); (case aS => exact below_size HW.out.1); (case aL => have := HL.out; omega); intro v8_ w8_ ho hb hg hat; have HW2 := Aside0.mk (RefW.app HW.out ho hb hg hat); clear ho hb hg hat; obtain ⟨A1', c1', hcut, hq⟩ := tail_v HW2.out.2.1; have HQ := Aside0.mk hq; clear hq HW))
 apply HK.out
 rw [byS_app]
 exact ⟨HW2.out.1, HQ.out, HW2.out.2.2.1, HW2.out.2.2.2⟩
set_option maxHeartbeats 40000000 in
set_option maxRecDepth 100000 in
theorem refIns (w wr : World) (K : Exit → Act → World → Prop) {v0 v1 v7 v8 v9 : Value} (o : Op) (r : List Op) (ps : List Op) (os : List Step) {u4 u5 u6 u10 u11 u12 u13 u14 u15 u16 u17 u18 u19 u20 u21 u22 u23 u24 u25 u26 u27 u28 u29 u30 u31 u32 u33 u34 u35 u36 u37 u38 u39 u40 u41 u42 u43 u44 u45 u46 u47 u48 u49 u50 u51 u52 u53 u54 u55 u56 u57 u58 u59 u60 u61 u62 u63 u64 u65 u66 u67 u68 u69 u70 u71 u72 u73 u74 u75 u76 u77 u78 u79 u80 u81 u82 u83 u84 u85 u86 u87 u88 u89 u90 u91 u92 u93 u94 u95 u96 u97 u98 u99 u100 u101 u102 u103 u104 u105 u106 u107 u108 u109 u110 u111 u112 u113 u114 u115 u116 u117 u118 u119 u120 u121 u122 u123 u124 u125 u126 u127 u128 u129 u130 u131 u132 u133 u134 u135 u136 u137 u138 u139 u140 u141 u142 u143 u144 u145 u146 u147 u148 u149 u150 u151 u152 u153 u154 u155 u156 u157 u158 u159 u160 u161 u162 u163 u164 u165 u166 u167 u168 u169 u170 u171 u172 u173 u174 u175 u176 u177 u178 u179 u180 u181 u182 u183 u184 : Value} (HW : Aside0 (RefW w wr v0 v1 v7 ps (o :: r) (byS os) (fun _ => True))) (HL : Aside0 ((byS os).length < 2199023255552)) (hk : o.f0 = 4) (hd : hdK 3 ps = false)
  (HK : Aside0 (∀ (v0 v1 v7 : Value) (u4 u5 u6 u10 u11 u12 u13 u14 u15 u16 u17 u18 u19 u20 u21 u22 u23 u24 u25 u26 u27 u28 u29 u30 u31 u32 u33 u34 u35 u36 u37 u38 u39 u40 u41 u42 u43 u44 u45 u46 u47 u48 u49 u50 u51 u52 u53 u54 u55 u56 u57 u58 u59 u60 u61 u62 u63 u64 u65 u66 u67 u68 u69 u70 u71 u72 u73 u74 u75 u76 u77 u78 u79 u80 u81 u82 u83 u84 u85 u86 u87 u88 u89 u90 u91 u92 u93 u94 u95 u96 u97 u98 u99 u100 u101 u102 u103 u104 u105 u106 u107 u108 u109 u110 u111 u112 u113 u114 u115 u116 u117 u118 u119 u120 u121 u122 u123 u124 u125 u126 u127 u128 u129 u130 u131 u132 u133 u134 u135 u136 u137 u138 u139 u140 u141 u142 u143 u144 u145 u146 u147 u148 u149 u150 u151 u152 u153 u154 u155 u156 u157 u158 u159 u160 u161 u162 u163 u164 u165 u166 u167 u168 u169 u170 u171 u172 u173 u174 u175 u176 u177 u178 u179 u180 u181 u182 u183 u184 : Value) (w' : World), RefW w w' v0 v1 v7 ps r (byS (os ++ [⟨o, 2, false⟩])) (fun _ => True) → K .normal ⟨#[v0, v1, undef, undef, u4, u5, u6, v7, v8, v9, u10, u11, u12, u13, u14, u15, u16, u17, u18, u19, u20, u21, u22, u23, u24, u25, u26, u27, u28, u29, u30, u31, u32, u33, u34, u35, u36, u37, u38, u39, u40, u41, u42, u43, u44, u45, u46, u47, u48, u49, u50, u51, u52, u53, u54, u55, u56, u57, u58, u59, u60, u61, u62, u63, u64, u65, u66, u67, u68, u69, u70, u71, u72, u73, u74, u75, u76, u77, u78, u79, u80, u81, u82, u83, u84, u85, u86, u87, u88, u89, u90, u91, u92, u93, u94, u95, u96, u97, u98, u99, u100, u101, u102, u103, u104, u105, u106, u107, u108, u109, u110, u111, u112, u113, u114, u115, u116, u117, u118, u119, u120, u121, u122, u123, u124, u125, u126, u127, u128, u129, u130, u131, u132, u133, u134, u135, u136, u137, u138, u139, u140, u141, u142, u143, u144, u145, u146, u147, u148, u149, u150, u151, u152, u153, u154, u155, u156, u157, u158, u159, u160, u161, u162, u163, u164, u165, u166, u167, u168, u169, u170, u171, u172, u173, u174, u175, u176, u177, u178, u179, u180, u181, u182, u183, u184, undef, undef], []⟩ w')) :
  Code.wp Tryd.prog refLoop K ⟨#[v0, v1, undef, undef, u4, u5, u6, v7, v8, v9, u10, u11, u12, u13, u14, u15, u16, u17, u18, u19, u20, u21, u22, u23, u24, u25, u26, u27, u28, u29, u30, u31, u32, u33, u34, u35, u36, u37, u38, u39, u40, u41, u42, u43, u44, u45, u46, u47, u48, u49, u50, u51, u52, u53, u54, u55, u56, u57, u58, u59, u60, u61, u62, u63, u64, u65, u66, u67, u68, u69, u70, u71, u72, u73, u74, u75, u76, u77, u78, u79, u80, u81, u82, u83, u84, u85, u86, u87, u88, u89, u90, u91, u92, u93, u94, u95, u96, u97, u98, u99, u100, u101, u102, u103, u104, u105, u106, u107, u108, u109, u110, u111, u112, u113, u114, u115, u116, u117, u118, u119, u120, u121, u122, u123, u124, u125, u126, u127, u128, u129, u130, u131, u132, u133, u134, u135, u136, u137, u138, u139, u140, u141, u142, u143, u144, u145, u146, u147, u148, u149, u150, u151, u152, u153, u154, u155, u156, u157, u158, u159, u160, u161, u162, u163, u164, u165, u166, u167, u168, u169, u170, u171, u172, u173, u174, u175, u176, u177, u178, u179, u180, u181, u182, u183, u184, undef, undef], []⟩ wr := by
 conv => arg 2; whnf
 have d2 : (o.f0 == 4) = true := beq_iff_eq.mpr hk
 clear hk
 obtain ⟨ad, cap, Ax, cx, m, hm0, hm, rfl, y0, y1, y2, hx0, hx1, hx2⟩ := head_v HW.out.2.2.1
 clear hx0 hx1 hx2 Ax cx
 have i0 : ((0 : Int) < (m : Int)) = True := eq_true (by omega)
 have i1 : (0 < m) = True := eq_true hm0
 clear hm
 rcases ps with _ | ⟨o2, r2⟩
 ·obtain ⟨Ap, cp, rfl⟩ := Kd.V_slice HW.out.2.1
  clear hd
  go_wp2_with (first | ((with_reducible refine gate_builtin (b := .append) (xs := #[.tmp 50, .tmp 55]) rfl ?_); (try (refine gate_guard (by rfl) ?_; dsimp only)); at_builtin; refine Kd.R_append kBy (w0 := w) w.heap.size rfl (.tmp 50) (.tmp 55) 46 61 (.agg #[(.int .i64 0), (.int .i64 0), (.string ⟨#[]⟩), (.int .i64 0)]) 40 rfl Tryd.underlying46 info_ByR rfl (by decide) (by omega) v7 (byS os) (⟨(⟨o.f0, o.f1, o.f2⟩ : Op), 2⟩ : By) [.int .i64 o.f0, .int .i64 o.f1, .string o.f2, .int .i64 2] (fun _ => True) (fun _ => False) rfl rfl ?aP (fun _ hk => hk.elim) (fun _ _ => trivial) ?aO ?aB ?aS ?aL ?_; (case aP => exact kBy_mkM _ _ _ (⟨(⟨o.f0, o.f1, o.f2⟩ : Op), 2⟩ : By)); (case aO => exact HW.out.2.2.2); (case aB => exact HW.out.1); (case aS => exact below_size HW.out.1); (case aL => have := HL.out; omega); intro v8_ w8_ ho hb hg hat; have HW2 := Aside0.mk (RefW.app HW.out ho hb hg hat); clear ho hb hg hat; obtain ⟨A1', c1', hcut, hq⟩ := tail_v HW2.out.2.2.1; have HQ := Aside0.mk hq; clear hq HW))
  apply HK.out
  rw [byS_app]
  exact ⟨HW2.out.1, HW2.out.2.1, HQ.out, HW2.out.2.2.2⟩
 ·have d1 : (o2.f0 == 3) = false := beq_eq_false_iff_ne.mpr (by simpa [hdK] using hd)
  obtain ⟨ad2, cap2, Ax, cx, m2, hm20, hm2, rfl, z0, z1, z2, hx0, hx1, hx2⟩ := head_v HW.out.2.1
  clear hx0 hx1 hx2 Ax cx hd
  have k0 : ((0 : Int) < (m2 : Int)) = True := eq_true (by omega)
  have k1 : (0 < m2) = True := eq_true hm20
  clear hm2
  go_wp2_with (first | ((with_reducible refine gate_builtin (b := .append) (xs := #[.tmp 50, .tmp 55]) rfl ?_); (try (refine gate_guard (by rfl) ?_; dsimp only)); at_builtin; refine Kd.R_append kBy (w0 := w) w.heap.size rfl (.tmp 50) (.tmp 55) 46 61 (.agg #[(.int .i64 0), (.int .i64 0), (.string ⟨#[]⟩), (.int .i64 0)]) 40 rfl Tryd.underlying46 info_ByR rfl (by decide) (by omega) v7 (byS os) (⟨(⟨o.f0, o.f1, o.f2⟩ : Op), 2⟩ : By) [.int .i64 o.f0, .int .i64 o.f1, .string o.f2, .int .i64 2] (fun _ => True) (fun _ => False) rfl rfl ?aP (fun _ hk => hk.elim) (fun _ _ => trivial) ?aO ?aB ?aS ?aL ?_; (case aP => exact kBy_mkM _ _ _ (⟨(⟨o.f0, o.f1, o.f2⟩ : Op), 2⟩ : By)); (case aO => exact HW.out.2.2.2); (case aB => exact HW.out.1); (case aS => exact below_size HW.out.1); (case aL => have := HL.out; omega); intro v8_ w8_ ho hb hg hat; have HW2 := Aside0.mk (RefW.app HW.out ho hb hg hat); clear ho hb hg hat; obtain ⟨A1', c1', hcut, hq⟩ := tail_v HW2.out.2.2.1; have HQ := Aside0.mk hq; clear hq HW))
  apply HK.out
  rw [byS_app]
  exact ⟨HW2.out.1, HW2.out.2.1, HQ.out, HW2.out.2.2.2⟩
end Go.Proofs.YtkiklmmpflndbaaDoor.P
