/- Own words for the rows: what an argument reads as, told by a kind, with its weight in the bulk. -/
import Derived.Test.YtfoponahdidddaaRows
import Derived.Test.YtfoponahdidddaaWAll
import Derived.ProofKit
import Derived.JoinedCond
namespace Go.Proofs.Ytfoponahdidddaa.P
open Go.RowKit Go.Proofs.YtfoponahdidddaaW.PrintWords Go.Proofs.YtfoponahdidddaaW.PrintLast Go.Proofs.YtfoponahdidddaaW.PrintMore
set_option linter.unusedVariables false

/-- What is read at a type is told by a kind; what holds of it, and its weight in the bulk. -/
structure Opens (P : Program) (t : TypeId) {α : Type} (d : Kd α) (ok : α → Prop) (wt : α → Nat) : Prop where
  cells : P.cellsOf t = d.sz
  read : ∀ {H : Type} {enc : TypeId × Value → H} {w : World} {base : Nat} {spare : Nat → Bool} {held : Bool} {fuel : Nat} {cs : List Value} {x : DataW H × List MemPlace},
    DataW.trod enc P w base spare held fuel t cs = some x → ∃ y : α, d.K w y cs ∧ ok y ∧ wt y ≤ Rows.uptoBulk x.1

theorem gather {α β : Type} (bulk : β → Nat) (wt : α → Nat) : ∀ (es : List β) (R : Nat → β → α → Prop), (∀ i b, es[i]? = some b → ∃ y, R i b y ∧ wt y ≤ bulk b) →
    ∃ xs : List α, xs.length = es.length ∧ (∀ i b y, es[i]? = some b → xs[i]? = some y → R i b y) ∧ (xs.map wt).sum ≤ (es.map bulk).sum
  | [], R, _ => ⟨[], rfl, fun i b y h => by simp at h, by simp⟩
  | b :: es, R, h => by
    obtain ⟨y, hy, hw⟩ := h 0 b rfl
    obtain ⟨xs, hl, hx, hs⟩ := gather bulk wt es (fun i => R (i + 1)) (fun i b' hb => h (i + 1) b' (by simpa using hb))
    refine ⟨y :: xs, by simp [hl], fun i b' y' hb hy' => ?_, by simp; omega⟩
    cases i with
    | zero => simp at hb hy'; subst hb; subst hy'; exact hy
    | succ i => exact hx i b' y' (by simpa using hb) (by simpa using hy')

theorem bulkAll_map {H : Type} (es : List (DataW H × List MemPlace)) : Rows.uptoBulkAll (es.map (·.1)) = (es.map (fun e => Rows.uptoBulk e.1)).sum := by
  induction es with
  | nil => simp [Rows.uptoBulkAll]
  | cons e es ih => simp only [List.map_cons, Rows.uptoBulkAll, ih, List.sum_cons]

section
variable {P : Program} {H : Type} {enc : TypeId × Value → H} {w : World} {base : Nat} {spare : Nat → Bool} {held : Bool} {fuel : Nat}
theorem open_row {t e : TypeId} {α : Type} {d : Kd α} {ok : α → Prop} {wt : α → Nat} {cs : List Value} {x : DataW H × List MemPlace} (ht : P.underlying t = some (.slice e)) (o : Opens P e d ok wt) (h : DataW.trod enc P w base spare held fuel t cs = some x) :
    ∃ (A : Option Addr) (c : Nat) (xs : List α), cs = [.slice A xs.length c] ∧ xs.length ≤ c ∧ Kd.C d w A xs.length xs ∧ (∀ y ∈ xs, ok y) ∧ (xs.map wt).sum + 1 ≤ Rows.uptoBulk x.1 := by
  rcases DataW.trod_slice ht h with ⟨rfl, rfl⟩ | ⟨a, len, cap, elems, rest, n, _, rfl, rfl, hb, hl, hm, hlen, hel, _, _⟩
  · exact ⟨none, 0, [], rfl, Nat.le_refl _, Kd.C_nil _ _, by simp, by simp [Rows.uptoBulk]⟩
  · obtain ⟨xs, hxl, hx, hs⟩ := gather (fun e => Rows.uptoBulk e.1) wt elems (fun i _ y => ok y ∧ ∃ c, w.cells? base (a.add (i * P.cellsOf e)) (P.cellsOf e) = some c ∧ d.K w y c) (by
      intro i b hb'
      have hi : i < len := by have := (List.getElem?_eq_some_iff.1 hb').1; omega
      have h1 := hel i hi
      rw [hb', Option.bind_eq_some_iff] at h1
      obtain ⟨c, hc, htr⟩ := h1
      obtain ⟨y, hK, hok, hw⟩ := o.read htr
      exact ⟨y, ⟨hok, c, hc, hK⟩, hw⟩)
    have hsz : P.cellsOf e = d.sz := o.cells
    refine ⟨some a, cap, xs, by rw [hxl, hlen], by omega, ⟨rfl, by unfold maxLen at hm; omega, fun _ => ⟨a, rfl, fun j p hj => ?_⟩⟩, fun y hy => ?_, ?_⟩
    · have hj' : j < elems.length := by have := (List.getElem?_eq_some_iff.1 hj).1; omega
      obtain ⟨_, c, hc, hK⟩ := hx j _ p (List.getElem?_eq_getElem hj') hj
      refine ⟨c, d.K_len hK, hK, fun i u hu => ?_⟩
      have hi : i < d.sz := by have := (List.getElem?_eq_some_iff.1 hu).1; rw [d.K_len hK] at this; exact this
      have h2 := (World.cells?_some hc).2.2 i (by omega)
      rw [hu] at h2
      rw [← h2, hsz, Addr.add_add]
    · obtain ⟨j, hj, rfl⟩ := List.getElem_of_mem hy
      exact (hx j _ _ (List.getElem?_eq_getElem (by omega)) (List.getElem?_eq_getElem hj)).1
    · simp only [Rows.uptoBulk, bulkAll_map]; omega
end

theorem opens_int {P : Program} {t : TypeId} {k : IntKind} (ht : P.underlying t = some (.int k)) (hc : P.cellsOf t = 1) : Opens P t (Kd.int k) (fun n => (Lit.int k n).wf = true) (fun _ => 1) :=
  ⟨hc, fun h => by
    obtain ⟨n, rfl, rfl, hw⟩ := DataW.trod_int ht h
    exact ⟨n, rfl, hw, by simp [Rows.uptoBulk]⟩⟩
theorem opens_bool {P : Program} {t : TypeId} (ht : P.underlying t = some .bool) (hc : P.cellsOf t = 1) : Opens P t Kd.bool (fun _ => True) (fun _ => 1) :=
  ⟨hc, fun h => by
    obtain ⟨n, rfl, rfl⟩ := DataW.trod_bool ht h
    exact ⟨n, rfl, trivial, by simp [Rows.uptoBulk]⟩⟩
theorem opens_string {P : Program} {t : TypeId} (ht : P.underlying t = some .string) (hc : P.cellsOf t = 1) : Opens P t Kd.string (fun _ => True) (fun s => s.size + 1) :=
  ⟨hc, fun h => by
    obtain ⟨s, rfl, rfl, _⟩ := DataW.trod_string ht h
    exact ⟨s, rfl, trivial, by simp [Rows.uptoBulk]⟩⟩
theorem opens_slice {P : Program} {t e : TypeId} {α : Type} {d : Kd α} {ok : α → Prop} {wt : α → Nat} (ht : P.underlying t = some (.slice e)) (hc : P.cellsOf t = 1) (o : Opens P e d ok wt) :
    Opens P t (Kd.slice e d) (fun xs => ∀ y ∈ xs, ok y) (fun xs => (xs.map wt).sum + 1) :=
  ⟨hc, fun h => by
    obtain ⟨A, c, xs, rfl, h1, h2, h3, h4⟩ := open_row ht o h
    exact ⟨xs, ⟨A, c, rfl, h1, h2⟩, h3, h4⟩⟩
/-- A struct of three fields of one cell. -/
theorem opens_struct3 {P : Program} {t : TypeId} {f0 f1 f2 : Field} {α α0 α1 α2 : Type} {d0 : Kd α0} {d1 : Kd α1} {d2 : Kd α2} {ok0 : α0 → Prop} {ok1 : α1 → Prop} {ok2 : α2 → Prop} {wt0 : α0 → Nat} {wt1 : α1 → Nat} {wt2 : α2 → Nat}
    (ht : P.underlying t = some (.struct #[f0, f1, f2])) (hc : P.cellsOf t = 3) (ho0 : f0.offset = 0) (ho1 : f1.offset = 1) (ho2 : f2.offset = 2) (hs0 : d0.sz = 1) (hs1 : d1.sz = 1) (hs2 : d2.sz = 1)
    (o0 : Opens P f0.type d0 ok0 wt0) (o1 : Opens P f1.type d1 ok1 wt1) (o2 : Opens P f2.type d2 ok2 wt2) (f : α → α0 × α1 × α2) (g : α0 → α1 → α2 → α) (hg : ∀ a b c, f (g a b c) = (a, b, c)) :
    Opens P t (Kd.iso (Kd.pair d0 (Kd.pair d1 d2)) f) (fun x => ok0 (f x).1 ∧ ok1 (f x).2.1 ∧ ok2 (f x).2.2) (fun x => wt0 (f x).1 + wt1 (f x).2.1 + wt2 (f x).2.2 + 1) :=
  ⟨by show P.cellsOf t = d0.sz + (d1.sz + d2.sz); omega, fun h => by
    obtain ⟨xs, n, _, rfl, hl, hn, hf⟩ := DataW.trod_struct ht h
    rename_i cs _
    rw [hc] at hl
    match cs, hl, xs, hn with
    | [c0, c1, c2], _, [x0, x1, x2], _ =>
      have g0 := hf 0 f0 rfl
      have g1 := hf 1 f1 rfl
      have g2 := hf 2 f2 rfl
      rw [ho0, o0.cells, hs0] at g0
      rw [ho1, o1.cells, hs1] at g1
      rw [ho2, o2.cells, hs2] at g2
      simp only [List.drop_zero, List.drop_succ_cons, List.take_succ_cons, List.take_zero, List.getElem?_cons_zero, List.getElem?_cons_succ] at g0 g1 g2
      obtain ⟨y0, k0, p0, w0⟩ := o0.read g0
      obtain ⟨y1, k1, p1, w1⟩ := o1.read g1
      obtain ⟨y2, k2, p2, w2⟩ := o2.read g2
      refine ⟨g y0 y1 y2, ?_, ?_, ?_⟩
      · show (Kd.pair d0 (Kd.pair d1 d2)).K _ (f (g y0 y1 y2)) [c0, c1, c2]
        rw [hg]
        exact ⟨[c0], [c1, c2], rfl, k0, ⟨[c1], [c2], rfl, k1, k2⟩⟩
      · rw [hg]; exact ⟨p0, p1, p2⟩
      · rw [hg]; simp only [Rows.uptoBulk, Rows.uptoBulkAll, List.map_cons, List.map_nil]; omega⟩

theorem small_all {H : Type} {ds : List (DataW H)} (hk : Rows.uptoSmall H ds = true) : Rows.uptoBulkAll ds ≤ 1048576 := of_decide_eq_true hk
end Go.Proofs.Ytfoponahdidddaa.P
