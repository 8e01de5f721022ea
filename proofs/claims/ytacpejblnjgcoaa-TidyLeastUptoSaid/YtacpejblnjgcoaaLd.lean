/- Own: the walks of lcs.Len and lcs.Diff. -/
import Derived.Test.YtacpejblnjgcoaaLc
namespace Go.Proofs.Ytacpejblnjgcoaa.P
open Go.RowKit Go.Proofs.YtacpejblnjgcoaaW.PrintWords Go.Proofs.YtacpejblnjgcoaaW.PrintLast Go.Proofs.YtacpejblnjgcoaaW.PrintMore
set_option linter.unusedVariables false
set_option linter.unusedSimpArgs false
attribute [local go_sem] max2_int min2_int max_two min_two

/-- The steps that are put: a variable in memory that holds a row of the call's own. -/
def OutW (w wr : World) (gb : Nat) (xs : List Op) : Prop :=
  Below w.heap.size w wr ∧ w.heap.size ≤ gb ∧ ∃ v, wr.heap[gb]? = some (.cells #[v] 22 (0, 0)) ∧ Kd.R kOp 36 wr w.heap.size (fun k => k ≠ gb) v xs
/-- What is of other types stays. -/
def KeepT (wr w' : World) : Prop := wr.heap.size ≤ w'.heap.size ∧ ∀ (k : Nat) (cs : Array Value) (ty : TypeId), wr.heap[k]? = some (.cells cs ty (0, 0)) → ty ≠ 22 → ty ≠ 36 → w'.heap[k]? = wr.heap[k]?
theorem KeepT.refl (w : World) : KeepT w w := ⟨Nat.le_refl _, fun _ _ _ _ _ _ => rfl⟩
theorem KeepT.trans {w1 w2 w3 : World} (h : KeepT w1 w2) (h' : KeepT w2 w3) : KeepT w1 w3 :=
  ⟨Nat.le_trans h.1 h'.1, fun k cs ty hk a b => by rw [h'.2 k cs ty ((h.2 k cs ty hk a b).trans hk) a b, h.2 k cs ty hk a b]⟩
theorem OutW.drewN {w wr : World} {gb : Nat} {xs : List Op} (h : OutW w wr gb xs) (n : Nat) : OutW w (wr.drewN n) gb xs := by
  obtain ⟨h1, h2, v, h3, h4⟩ := h
  exact ⟨pw_below_drewN h1 n, h2, v, h3, Kd.R_drewN h4 n⟩

theorem info_Op : (Try.prog.info? 36).map (fun i => (i.zero, i.size, i.bytes)) = some (some (.agg #[(.int .i64 0), (.int .i64 0), (.string ⟨#[]⟩)]), 3, 32) := by kernel_rfl
set_option maxHeartbeats 1000000 in
theorem put_walk (w wr : World) (gb : Nat) (xs : List Op) (h : OutW w wr gb xs) (hl : xs.length < 4398046511104) (k : Int) (s : ByteArray) :
    Calls Try.prog 73 #[.int .i64 k, .string s, .pointer (some ⟨gb, 0, none⟩)] wr fun e w' => (∃ r, e = .returned r) ∧ OutW w w' gb (xs ++ [⟨k, 0, s⟩]) ∧ KeepT wr w' := by
  obtain ⟨h1, h2, v, h3, h4⟩ := h
  have hc0 : wr.cell? ⟨gb, 0, none⟩ = some v := (blk_cell h3 0).trans rfl
  have HB := Aside0.mk h1
  have HO := Aside0.mk h4
  have H3 := Aside0.mk h3
  have HL := Aside0.mk hl
  have H2 := Aside0.mk h2
  clear h1 h4 h3 hl h2
  have huO := Try.underlying36
  go_enter Try.func73, Try.ntmps73
  go_wp2_with (first | ((with_reducible refine gate_builtin (b := .append) (xs := #[.tmp 5, .tmp 9]) rfl ?_); at_builtin; refine Kd.R_append kOp (w0 := w) w.heap.size rfl (.tmp 5) (.tmp 9) 22 36 (.agg #[(.int .i64 0), (.int .i64 0), (.string ⟨#[]⟩)]) 32 rfl Try.underlying22 info_Op rfl (by decide) (by omega) v xs (⟨k, 0, s⟩ : Op) [.int .i64 k, .int .i64 0, .string s] (fun k_ => k_ ≠ gb) (fun _ => False) rfl rfl ?aP (fun _ hk => hk.elim) ?aF ?aO ?aB ?aS ?aL ?_; (case aP => exact kOp_mkM _ _ _ (⟨k, 0, s⟩ : Op)); (case aB => exact HB.out); (case aF => exact (fun k_ hk => Kd.freshB H3.out k_ hk)); (case aO => exact HO.out); (case aS => exact below_size HB.out); (case aL => have := HL.out; omega); intro v1 w1 ho hb hg hat; obtain ⟨Ao, co, rfl⟩ := Kd.R_slice ho; have HH := Aside0.mk (And.intro ho (And.intro hb (And.intro hg hat))); have hg3 := blk_grown H3.out hg (Kd.R_away HO.out (fun _ hk => hk)); have HG3 := Aside0.mk hg3; have hcs : w1.cell? ⟨gb, 0, none⟩ = some v := (blk_cell hg3 0).trans rfl; have hfs := blk_frozen hg3 0; clear ho hb hg hat hg3))
  go_end0
  obtain ⟨ho, hb, hg, hat⟩ := HH.out
  refine ⟨⟨_, rfl⟩, ⟨below_set hb H2.out, H2.out, _, (by simpa using blk_set HG3.out 0 _), Kd.R_far ho (fun k hk => hk) _⟩, ?_, ?_⟩
  · simpa using hg.size
  · intro k cs ty hk a b
    have hne : k ≠ gb := by
      rintro rfl
      rw [H3.out] at hk
      injection hk with hk
      injection hk with _ h2
      exact a h2.symm
    rw [Below.heap_setCell w1 ⟨gb, 0, none⟩ _ k hne]
    exact hg.block k (blk_lt hk) (Kd.R_ne HO.out hk (fun e => b e.symm))
/-- The table alone. -/
def TabB (wr : World) (g gt : Nat) (wide : Int) (xs : List Int) : Prop :=
  wr.heap[g]? = some (.cells #[.int .i64 wide, .slice (some ⟨gt, 0, none⟩) xs.length xs.length] 86 (0, 0)) ∧ wr.heap[gt]? = some (.cells (nums .i32 xs).toArray 21 (0, 0))
theorem TabW.tab {w wr : World} {g gt : Nat} {wide : Int} {xs : List Int} (h : TabW w wr g gt wide xs) : TabB wr g gt wide xs := h.2.2.2.2
theorem TabB.drewN {wr : World} {g gt : Nat} {wide : Int} {xs : List Int} (h : TabB wr g gt wide xs) (n : Nat) : TabB (wr.drewN n) g gt wide xs := h
theorem TabB.keepT {wr w' : World} {g gt : Nat} {wide : Int} {xs : List Int} (h : TabB wr g gt wide xs) (hk : KeepT wr w') : TabB w' g gt wide xs :=
  ⟨(hk.2 _ _ _ h.1 (by decide) (by decide)).trans h.1, (hk.2 _ _ _ h.2 (by decide) (by decide)).trans h.2⟩
theorem tabB_read {wr : World} {g gt : Nat} {wide : Int} {xs : List Int} (h : TabB wr g gt wide xs) (i j : Int) (k : Nat) (hk : i * wide + j = (k : Int)) (hm : i * wide < 4611686018427387904) (hm0 : 0 ≤ i * wide) (hj0 : 0 ≤ j) (hj : j < 4611686018427387904) (hkn : k < xs.length) (V : Int) (hV : xs.getD k 0 = V) :
    Calls Try.prog 76 #[.pointer (some ⟨g, 0, none⟩), .int .i64 i, .int .i64 j] wr fun e w' => e = .returned (.int .i32 V) ∧ ∃ n, w' = wr.drewN n :=
  (table_at g gt xs.length wide i j V wr h.1 k hk hm hm0 hj0 hj hkn (by
    rw [blk_cell h.2 k, ← hV]
    simp [nums, List.getD, hkn])).mono fun _ _ ⟨he, hd⟩ => ⟨he, hd.out⟩

end Go.Proofs.Ytacpejblnjgcoaa.P
