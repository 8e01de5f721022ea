/- Own: the walk of compose's walker: what it holds, put, knows. (The rows of a drawing region are written by gen-Ka.py.) -/
import Derived.Test.YtfoponahdidddaaP0
import Derived.Test.YtfoponahdidddaaH
import Derived.Outline
-- words: Q_below Q_over' Q_set Q_mono Q_drop Q_seg Q_elem Q_reads' Q_lt Q_base Q_typed Q_ne Q_form Q_slice Q_nil Q_of_R Q_grown Q_bound Q_far Q_new' Q_lower Q_elder' Q_append R_below R_set R_over' R_ne R_typed R_append_step R_append_rows R_lit R_nil R_new' R_elder' R_apart' R_mono blk_grown blk_set blk_far blk_frozen blk_cell blk_below blk_alloc blk_new blk_drew start_ pure_ take_ one_ last_ norm_ done_ value_ skip_ goes_ below_step below_set below_alloc below_size pw_below_drewN below_drew1 keep_cell cell_far V_mono V_far Q_V R_V two_ join_ putAll setCells_far setCells_row own_blk fresh' freshB box_event box_step gate_dst at_builtin
namespace Go.Proofs.Ytfoponahdidddaa.P
open Go.RowKit Go.Proofs.YtfoponahdidddaaW.PrintWords Go.Proofs.YtfoponahdidddaaW.PrintLast Go.Proofs.YtfoponahdidddaaW.PrintMore
set_option linter.unusedVariables false
set_option linter.unusedSimpArgs false

/-- The walker in memory: what is left of both, whether the middle's last line is open, what is told. -/
def WkW (w wr : World) (g : Nat) (ps qs : List Op) (op : Bool) (os : List Step) : Prop :=
  Below w.heap.size w wr ∧ w.heap.size ≤ g ∧ ∃ pv qv ov, wr.heap[g]? = some (.cells #[pv, qv, .bool op, ov] 73 (0, 0)) ∧
    Kd.Q kOp 41 wr w.heap.size (fun k => some k ≠ qv.ownBlock) pv ps ∧ Kd.Q kOp 41 wr w.heap.size (fun k => some k ≠ pv.ownBlock) qv qs ∧ Kd.R kStep 77 wr w.heap.size (fun _ => True) ov os
set_option maxRecDepth 100000 in
theorem WkW.below {w wr w' : World} {g : Nat} {ps qs : List Op} {op : Bool} {os : List Step} (h : WkW w wr g ps qs op os) (hb : Below wr.heap.size wr w') : WkW w w' g ps qs op os := by
  obtain ⟨h1, h2, pv, qv, ov, h3, h4, h5, h6⟩ := h
  exact ⟨below_step h1 hb, h2, pv, qv, ov, blk_below h3 hb, Kd.Q_below h4 hb, Kd.Q_below h5 hb, Kd.R_below h6 hb⟩
set_option maxRecDepth 100000 in
theorem info_Step : (Try.prog.info? 77).map (fun i => (i.zero, i.size, i.bytes)) = some (some (.agg #[(.int .i64 0), (.int .i64 0), (.string ⟨#[]⟩), (.int .i64 0), (.bool false)]), 5, 48) := by kernel_rfl

set_option maxHeartbeats 1000000 in
set_option maxRecDepth 100000 in
theorem wk_put (w wr : World) (g : Nat) (ps qs : List Op) (op : Bool) (os : List Step) (h : WkW w wr g ps qs op os) (hl : os.length < 2199023255552) (o : Op) (by_ : Int) :
    Calls Try.prog 68 #[.pointer (some ⟨g, 0, none⟩), .agg #[.int .i64 o.f0, .int .i64 o.f1, .string o.f2], .int .i64 by_] wr fun e w' => (∃ r, e = .returned r) ∧ WkW w w' g ps qs op (os ++ [⟨o, by_, false⟩]) := by
  obtain ⟨k, n, t⟩ := o
  obtain ⟨h1, h2, pv, qv, ov, h3, h4, h5, h6⟩ := h
  have huS := Try.underlying77
  have hgr : g < wr.heap.size := blk_lt h3
  have HP := Aside0.mk (And.intro h1 (And.intro h2 (And.intro h3 (And.intro h4 (And.intro h5 h6)))))
  have HL := Aside0.mk hl
  clear h1 h2 h3 h4 h5 h6 hl
  go_enter Try.func68, Try.ntmps68
  go_wp2
  have hb0 : Below wr.heap.size wr (wr.alloc (.cells #[.int .i64 k, .int .i64 n, .string t] 41)).drew := below_drew1 (below_alloc (Below.refl _ _) _)
  have hbk : (wr.alloc (.cells #[.int .i64 k, .int .i64 n, .string t] 41)).drew.heap[wr.heap.size]? = some (.cells #[.int .i64 k, .int .i64 n, .string t] 41 (0, 0)) := blk_drew (blk_new _ _)
  have hg0 := blk_below HP.out.2.2.1 hb0
  have HB0 := Aside0.mk hb0
  have HBK := Aside0.mk hbk
  have HG0 := Aside0.mk hg0
  clear hb0 hbk hg0
  refine start_ (n := 13) (S := fun w' => w'.cell? ⟨g, 3, none⟩ = some ov ∧ w'.cell? ⟨wr.heap.size, 0, none⟩ = some (.int .i64 k) ∧ w'.cell? ⟨wr.heap.size, 1, none⟩ = some (.int .i64 n) ∧ w'.cell? ⟨wr.heap.size, 2, none⟩ = some (.string t)) (ds := [9, 12]) #[false, false, false, false, false, false, false, false, false, false, false, false, false] (by kernel_rfl) rfl rfl ⟨(blk_cell HG0.out 3).trans rfl, (blk_cell HBK.out 0).trans rfl, (blk_cell HBK.out 1).trans rfl, (blk_cell HBK.out 2).trans rfl⟩ (fun hHeld => ?_)
  have HP1 := Aside0.mk (And.intro (below_step HP.out.1 HB0.out) (And.intro (Kd.Q_below HP.out.2.2.2.1 HB0.out) (And.intro (Kd.Q_below HP.out.2.2.2.2.1 HB0.out) (Kd.R_below HP.out.2.2.2.2.2 HB0.out))))
  have HG1 := HG0
  clear HG0 HB0
  have HGB := Aside0.mk HP.out.2.1
  clear HP
  generalize (wr.alloc (.cells #[.int .i64 k, .int .i64 n, .string t] 41)).drew = wb at hHeld HP1 HG1 HBK ⊢
  refine pure_ (i := 0) (N := some 6) (v := ?_) (a' := ?_) #[true, false, false, false, false, false, false, false, false, false, false, false, false] rfl rfl (by kernel_rfl) (fun _ _ _ h => h) (Or.inl ⟨by rfl, ?_⟩) ?_ ?_
  rotate_left
  · intro w'
    go_simp
    with_reducible rfl
  rotate_left
  · simp only [Act.put, List.setIfInBounds_toArray, List.set_cons_zero, List.set_cons_succ, i64_w, i32_w]
    rfl
  refine pure_ (i := 1) (N := some 7) (v := ?_) (a' := ?_) #[true, true, false, false, false, false, false, false, false, false, false, false, false] rfl rfl (by kernel_rfl) (fun _ _ _ h => h) (Or.inl ⟨by rfl, ?_⟩) ?_ ?_
  rotate_left
  · intro w'
    go_simp
    with_reducible rfl
  rotate_left
  · simp only [Act.put, List.setIfInBounds_toArray, List.set_cons_zero, List.set_cons_succ, i64_w, i32_w]
    rfl
  refine pure_ (i := 2) (N := some 8) (v := ?_) (a' := ?_) #[true, true, true, false, false, false, false, false, false, false, false, false, false] rfl rfl (by kernel_rfl) (fun _ _ _ h => h) (Or.inl ⟨by rfl, ?_⟩) ?_ ?_
  rotate_left
  · intro w'
    go_simp
    with_reducible rfl
  rotate_left
  · simp only [Act.put, List.setIfInBounds_toArray, List.set_cons_zero, List.set_cons_succ, i64_w, i32_w]
    rfl
  refine pure_ (i := 3) (N := some 9) (v := ?_) (a' := ?_) #[true, true, true, true, false, false, false, false, false, false, false, false, false] rfl rfl (by kernel_rfl) (fun _ _ _ h => h) (Or.inl ⟨by rfl, ?_⟩) ?_ ?_
  rotate_left
  · intro w'
    go_simp
    with_reducible rfl
  rotate_left
  · simp only [Act.put, List.setIfInBounds_toArray, List.set_cons_zero, List.set_cons_succ, i64_w, i32_w]
    rfl
  refine pure_ (i := 6) (N := some 12) (v := ?_) (a' := ?_) #[true, true, true, true, false, false, true, false, false, false, false, false, false] rfl rfl (by kernel_rfl) (fun _ _ _ h => h) (Or.inl ⟨by rfl, ?_⟩) ?_ ?_
  rotate_left
  · intro w'
    go_simp
    with_reducible rfl
  rotate_left
  · simp only [Act.put, List.setIfInBounds_toArray, List.set_cons_zero, List.set_cons_succ, i64_w, i32_w]
    rfl
  refine take_ (i := 4) (N := some 10) (v := ?_) (a' := ?_) #[true, true, true, true, true, false, true, false, false, false, false, false, false] rfl rfl (by kernel_rfl) (fun _ _ _ h => h) (Or.inl ⟨by rfl, ?_⟩) hHeld ?_ ?_
  rotate_left
  · rintro w' ⟨s0, s1, s2, s3⟩
    go_simp
    with_reducible rfl
  rotate_left
  · simp only [Act.put, List.setIfInBounds_toArray, List.set_cons_zero, List.set_cons_succ, i64_w, i32_w]
    rfl
  refine take_ (i := 5) (N := some 11) (v := ?_) (a' := ?_) #[true, true, true, true, true, true, true, false, false, false, false, false, false] rfl rfl (by kernel_rfl) (fun _ _ _ h => h) (Or.inl ⟨by rfl, ?_⟩) hHeld ?_ ?_
  rotate_left
  · rintro w' ⟨s0, s1, s2, s3⟩
    go_simp
    with_reducible rfl
  rotate_left
  · simp only [Act.put, List.setIfInBounds_toArray, List.set_cons_zero, List.set_cons_succ, i64_w, i32_w]
    rfl
  refine pure_ (i := 7) (N := some 13) (v := ?_) (a' := ?_) #[true, true, true, true, true, true, true, true, false, false, false, false, false] rfl rfl (by kernel_rfl) (fun _ _ _ h => h) (Or.inl ⟨by rfl, ?_⟩) ?_ ?_
  rotate_left
  · intro w'
    go_simp
    with_reducible rfl
  rotate_left
  · simp only [Act.put, List.setIfInBounds_toArray, List.set_cons_zero, List.set_cons_succ, i64_w, i32_w]
    rfl
  refine one_ (i := 8) (N := some 14) #[true, true, true, true, true, true, true, true, true, false, false, false, false] rfl rfl (by kernel_rfl) (by decide) (fun K hK => ?_)
  refine value_ (w1 := ?_) (v := ?_) (by rfl) rfl ?_ ?_
  rotate_left 2
  · go_simp
    constructor
    · rfl
    · rfl
  refine hK.out _ _ ⟨(blk_cell (blk_alloc HG1.out _) 3).trans rfl, (blk_cell (blk_alloc HBK.out _) 0).trans rfl, (blk_cell (blk_alloc HBK.out _) 1).trans rfl, (blk_cell (blk_alloc HBK.out _) 2).trans rfl⟩ (fun hHeld => ?_)
  clear hK K
  refine norm_ (a' := ?_) ?_ ?_
  rotate_left
  · show Act.put _ (some 14) _ = _
    simp only [Act.put, List.setIfInBounds_toArray, List.set_cons_zero, List.set_cons_succ, i64_w, i32_w]
    rfl
  refine last_ (i := 9) (N := some 15) #[true, true, true, true, true, true, true, true, true, true, false, false, false] rfl rfl (by kernel_rfl) (by decide) (fun K hK => ?_)
  refine Kd.R_append_step kStep (w0 := w) w.heap.size (by rfl) (.tmp 10) (.tmp 14) 51 77 (.agg #[(.int .i64 0), (.int .i64 0), (.string ⟨#[]⟩), (.int .i64 0), (.bool false)]) 48 rfl Try.underlying51 info_Step rfl (by decide) (by omega) ov os (⟨⟨k, n, t⟩, by_, false⟩ : Step) [.int .i64 k, .int .i64 n, .string t, .int .i64 by_, .bool false] (fun _ => True) (fun _ => False) rfl rfl ?aP (fun _ hk => hk.elim) ?aF ?aO ?aB ?aS ?aL ?_
  (case aP => exact kStep_mkM _ _ _ (⟨⟨k, n, t⟩, by_, false⟩ : Step))
  (case aB => exact HP1.out.1)
  (case aF => exact (fun _ _ => trivial))
  (case aO => exact HP1.out.2.2.2)
  (case aS => exact below_size HP1.out.1)
  (case aL => have := HL.out; omega)
  intro v1 w1 ho hb hg hat
  obtain ⟨Ao, co, rfl⟩ := Kd.R_slice ho
  have hg2 := blk_grown HG1.out hg (Kd.R_ne HP1.out.2.2.2 HG1.out (by decide))
  have hcs : w1.cell? ⟨g, 3, none⟩ = some ov := (blk_cell hg2 3).trans rfl
  have hfs := blk_frozen hg2 3
  have HX := Aside0.mk (And.intro ho (And.intro hb hg2))
  have HQ1 := Aside0.mk (Kd.Q_over' HP1.out.2.1 (Kd.R_typed HP1.out.2.2.2) (by decide) hg)
  have HQ2 := Aside0.mk (Kd.Q_over' HP1.out.2.2.1 (Kd.R_typed HP1.out.2.2.2) (by decide) hg)
  clear ho hb hg hat hg2
  refine hK.out _ _ ?_
  clear hK K
  refine norm_ (a' := ?_) ?_ ?_
  rotate_left
  · show Act.put _ (some 15) _ = _
    simp only [Act.put, List.setIfInBounds_toArray, List.set_cons_zero, List.set_cons_succ, i64_w, i32_w]
    rfl
  refine pure_ (i := 10) (N := some 16) (v := ?_) (a' := ?_) #[true, true, true, true, true, true, true, true, true, true, true, false, false] rfl rfl (by kernel_rfl) (fun _ _ _ h => h) (Or.inl ⟨by rfl, ?_⟩) ?_ ?_
  rotate_left
  · intro w'
    go_simp
    with_reducible rfl
  rotate_left
  · simp only [Act.put, List.setIfInBounds_toArray, List.set_cons_zero, List.set_cons_succ, i64_w, i32_w]
    rfl
  refine pure_ (i := 11) (N := some 17) (v := ?_) (a' := ?_) #[true, true, true, true, true, true, true, true, true, true, true, true, false] rfl rfl (by kernel_rfl) (fun _ _ _ h => h) (Or.inl ⟨by rfl, ?_⟩) ?_ ?_
  rotate_left
  · intro w'
    go_simp
    with_reducible rfl
  rotate_left
  · simp only [Act.put, List.setIfInBounds_toArray, List.set_cons_zero, List.set_cons_succ, i64_w, i32_w]
    rfl
  refine last_ (i := 12) (N := none) #[true, true, true, true, true, true, true, true, true, true, true, true, true] rfl rfl (by kernel_rfl) (by decide) (fun K hK => ?_)
  refine skip_ (w1 := ?_) (by rfl) rfl ?_ ?_
  rotate_left
  · go_simp
    rfl
  refine hK.out _ _ ?_
  clear hK K
  refine done_ (by kernel_rfl) ?_

  go_end0
  refine ⟨⟨_, rfl⟩, below_set HX.out.2.1 HGB.out, HGB.out, pv, qv, _, (by simpa using blk_set HX.out.2.2 3 _), Kd.Q_set HQ1.out HX.out.2.2 (by decide) 3 _, Kd.Q_set HQ2.out HX.out.2.2 (by decide) 3 _, ?_⟩
  have hr := Kd.R_set HX.out.1 HX.out.2.2 (by decide) 3 (.slice Ao (os ++ [(⟨⟨k, n, t⟩, by_, false⟩ : Step)]).length co)
  simp only [List.length_append, List.length_singleton] at hr
  exact hr

set_option maxHeartbeats 1000000 in
set_option maxRecDepth 100000 in
theorem wk_knows (w wr : World) (g : Nat) (ps qs : List Op) (op : Bool) (os : List Step) (h : WkW w wr g ps qs op os) (hl : os.length < 2199023255552) (o : Op) (by_ : Int) :
    Calls Try.prog 82 #[.pointer (some ⟨g, 0, none⟩), .agg #[.int .i64 o.f0, .int .i64 o.f1, .string o.f2], .int .i64 by_] wr fun e w' => (∃ r, e = .returned r) ∧ WkW w w' g ps qs op (os ++ [⟨o, if o.f0 = 2 then 0 else by_, false⟩]) := by
  obtain ⟨k, n, t⟩ := o
  have HL := Aside0.mk hl
  have HW := Aside0.mk h
  clear hl h
  go_enter Try.func82, Try.ntmps82
  by_cases hk : k = 2
  · have c0 : (k == 2) = true := beq_iff_eq.mpr hk
    rw [if_pos hk]
    clear hk
    go_wp2_with (first | ((with_reducible refine gate_dst (N := 4) rfl ?_); refine box_event ?hg (N := 4) ?hd (cs := #[.int .i64 k, .int .i64 n, .string t]) (t := 41) ?hr ?_; (case hd => rfl); (case hg => rfl); (case hr => first | (go_simp; done) | (go_simp; rfl)); intro gb hg w3 hbox hb; have HW1 := Aside0.mk (HW.out.below hb); have x0 : w3.cell? ⟨gb, 0, none⟩ = some (.int .i64 k) := (blk_cell hbox 0).trans rfl; have x1 : w3.cell? ⟨gb, 1, none⟩ = some (.int .i64 n) := (blk_cell hbox 1).trans rfl; have x2 : w3.cell? ⟨gb, 2, none⟩ = some (.string t) := (blk_cell hbox 2).trans rfl; clear hb hbox hg))
    refine (wk_put w _ g ps qs op os HW1.out HL.out ⟨k, n, t⟩ 0).mono ?_
    rintro e w2 ⟨⟨r, rfl⟩, hW⟩
    go_wp2
    go_end0
    exact ⟨⟨_, rfl⟩, hW⟩
  · have c0 : (k == 2) = false := beq_eq_false_iff_ne.mpr hk
    rw [if_neg hk]
    clear hk
    go_wp2_with (first | ((with_reducible refine gate_dst (N := 4) rfl ?_); refine box_event ?hg (N := 4) ?hd (cs := #[.int .i64 k, .int .i64 n, .string t]) (t := 41) ?hr ?_; (case hd => rfl); (case hg => rfl); (case hr => first | (go_simp; done) | (go_simp; rfl)); intro gb hg w3 hbox hb; have HW1 := Aside0.mk (HW.out.below hb); have x0 : w3.cell? ⟨gb, 0, none⟩ = some (.int .i64 k) := (blk_cell hbox 0).trans rfl; have x1 : w3.cell? ⟨gb, 1, none⟩ = some (.int .i64 n) := (blk_cell hbox 1).trans rfl; have x2 : w3.cell? ⟨gb, 2, none⟩ = some (.string t) := (blk_cell hbox 2).trans rfl; clear hb hbox hg))
    refine (wk_put w _ g ps qs op os HW1.out HL.out ⟨k, n, t⟩ by_).mono ?_
    rintro e w2 ⟨⟨r, rfl⟩, hW⟩
    go_wp2
    go_end0
    exact ⟨⟨_, rfl⟩, hW⟩
end Go.Proofs.Ytfoponahdidddaa.P
