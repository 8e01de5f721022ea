/- Own and printed texts that the theorem of InterEach reaches, put together. -/
import Derived.Test.YtfoponahdidddaaqInterEach3
import Derived.Test.YtfoponahdidddaaqInterEach5
import Derived.Test.YtfoponahdidddaaqInterEach6
set_option linter.unusedVariables false
set_option linter.unusedSimpArgs false
namespace Go.Proofs.Ytfoponahdidddaa.P
open Go.RowKit Go.Proofs.YtfoponahdidddaaW.PrintWords Go.Proofs.YtfoponahdidddaaW.PrintLast Go.Proofs.YtfoponahdidddaaW.PrintMore
theorem next_f (l : List Op) (n : Int) : compose_next.f l n = some ((nextL l n).f0, (nextL l n).f1, (nextL l n).f2) := by
 cases l with
 | nil => rfl
 | cons o l =>
  have c : ¬ (((o :: l).length : Nat) : Int) = 0 := by simp only [List.length_cons]; omega
  have c1 : (0 : Int) < (((o :: l).length : Nat) : Int) := by simp only [List.length_cons]; omega
  rw [compose_next.f, if_neg c, if_pos c1]
  rfl
theorem lineL_size (x y : Op) : (lineL x y).1.size ≤ x.f2.size + y.f2.size := by
 unfold lineL
 repeat' split
 all_goals simp only [ByteArray.size_append]
 all_goals omega
def MidPost (w w' : World) (g : Nat) (ps qs : List Op) (op : Bool) (os : List Step) (x y : Op) (e : Ending) : Prop :=
 (noneL x y op = true ∧ e = .returned (.bool false) ∧ Below w.heap.size w w') ∨
 (noneL x y op = false ∧ e = .returned (.bool true) ∧ WkW w w' g (dropL ps (lineL x y).2.1) (dropL qs (lineL x y).2.1) (decide ((lineL x y).1 ≠ ⟨#[]⟩) && openT (lineL x y).1) (os ++ [(lineL x y).2.2]))
set_option maxHeartbeats 4000000 in
set_option maxRecDepth 100000 in
theorem middle_walk (w wr : World) (g : Nat) (ps qs : List Op) (op : Bool) (os : List Step) (h : WkW w wr g ps qs op os) (hl : os.length < 2199023255552) (ht1 : (nextL ps 2147483648).f2.size < 1073741824) (ht2 : (nextL qs 2147483648).f2.size < 1073741824) :
  Calls Try.prog 69 #[.pointer (some ⟨g, 0, none⟩)] wr fun e w' => MidPost w w' g ps qs op os (nextL ps 2147483648) (nextL qs 2147483648) e := by
 have hnp := next_f ps 2147483648
 have hnq := next_f qs 2147483648
 obtain ⟨x, hx⟩ : ∃ x, x = nextL ps 2147483648 := ⟨_, rfl⟩
 obtain ⟨y, hy⟩ : ∃ y, y = nextL qs 2147483648 := ⟨_, rfl⟩
 rw [← hx] at hnp ht1 ⊢
 rw [← hy] at hnq ht2 ⊢
 have HNP := Aside0.mk hnp
 have HNQ := Aside0.mk hnq
 have HT := Aside0.mk (And.intro ht1 ht2)
 have HL := Aside0.mk hl
 have HW := Aside0.mk h
 clear hnp hnq hx hy ht1 ht2 hl
 obtain ⟨h1, h2, pv, qv, ov, h3, h4, h5, h6⟩ := h
 obtain ⟨Ap, cp, rfl, hcp⟩ := Kd.Q_slice h4
 obtain ⟨Aq, cq, rfl, hcq⟩ := Kd.Q_slice h5
 have HCP := Aside0.mk (Kd.Q_reads' h4)
 have HCQ := Aside0.mk (Kd.Q_reads' h5)
 have HG := Aside0.mk h3
 have H2 := Aside0.mk h2
 have H1 := Aside0.mk h1
 clear h1 h2 h3 h4 h5 h6 hcp hcq
 go_enter Try.func69, Try.ntmps69
 go_wp2
 refine start_ (n := 14) (S := fun w' => w'.cell? ⟨g, 0, none⟩ = some (.slice Ap ps.length cp) ∧ w'.cell? ⟨g, 1, none⟩ = some (.slice Aq qs.length cq) ∧ Below wr.heap.size wr w') (ds := [12, 13]) #[false, false, false, false, false, false, false, false, false, false, false, false, false, false] (by kernel_rfl) rfl rfl ⟨(blk_cell (blk_drew HG.out) 0).trans rfl, (blk_cell (blk_drew HG.out) 1).trans rfl, below_drew1 (Below.refl _ _)⟩ (fun hHeld => ?_)
 generalize wr.drew = wb_ at hHeld ⊢
 refine pure_ (i := 0) (N := some 8) (v := ?_) (a' := ?_) #[true, false, false, false, false, false, false, false, false, false, false, false, false, false] rfl rfl (by kernel_rfl) (fun _ _ _ h => h) (Or.inl ⟨by rfl, ?_⟩) ?_ ?_
 rotate_left
 ·intro w'
  go_simp
  with_reducible rfl
 rotate_left
 ·simp only [Act.put, List.setIfInBounds_toArray, List.set_cons_zero, List.set_cons_succ, i64_w, i32_w]
  rfl
 refine pure_ (i := 1) (N := some 9) (v := ?_) (a' := ?_) #[true, true, false, false, false, false, false, false, false, false, false, false, false, false] rfl rfl (by kernel_rfl) (fun _ _ _ h => h) (Or.inl ⟨by rfl, ?_⟩) ?_ ?_
 rotate_left
 ·intro w'
  go_simp
  with_reducible rfl
 rotate_left
 ·simp only [Act.put, List.setIfInBounds_toArray, List.set_cons_zero, List.set_cons_succ, i64_w, i32_w]
  rfl
 refine pure_ (i := 2) (N := some 10) (v := ?_) (a' := ?_) #[true, true, true, false, false, false, false, false, false, false, false, false, false, false] rfl rfl (by kernel_rfl) (fun _ _ _ h => h) (Or.inl ⟨by rfl, ?_⟩) ?_ ?_
 rotate_left
 ·intro w'
  go_simp
  with_reducible rfl
 rotate_left
 ·simp only [Act.put, List.setIfInBounds_toArray, List.set_cons_zero, List.set_cons_succ, i64_w, i32_w]
  rfl
 refine pure_ (i := 5) (N := some 13) (v := ?_) (a' := ?_) #[true, true, true, false, false, true, false, false, false, false, false, false, false, false] rfl rfl (by kernel_rfl) (fun _ _ _ h => h) (Or.inl ⟨by rfl, ?_⟩) ?_ ?_
 rotate_left
 ·intro w'
  go_simp
  with_reducible rfl
 rotate_left
 ·simp only [Act.put, List.setIfInBounds_toArray, List.set_cons_zero, List.set_cons_succ, i64_w, i32_w]
  rfl
 refine pure_ (i := 6) (N := some 14) (v := ?_) (a' := ?_) #[true, true, true, false, false, true, true, false, false, false, false, false, false, false] rfl rfl (by kernel_rfl) (fun _ _ _ h => h) (Or.inl ⟨by rfl, ?_⟩) ?_ ?_
 rotate_left
 ·intro w'
  go_simp
  with_reducible rfl
 rotate_left
 ·simp only [Act.put, List.setIfInBounds_toArray, List.set_cons_zero, List.set_cons_succ, i64_w, i32_w]
  rfl
 refine pure_ (i := 7) (N := some 15) (v := ?_) (a' := ?_) #[true, true, true, false, false, true, true, true, false, false, false, false, false, false] rfl rfl (by kernel_rfl) (fun _ _ _ h => h) (Or.inl ⟨by rfl, ?_⟩) ?_ ?_
 rotate_left
 ·intro w'
  go_simp
  with_reducible rfl
 rotate_left
 ·simp only [Act.put, List.setIfInBounds_toArray, List.set_cons_zero, List.set_cons_succ, i64_w, i32_w]
  rfl
 refine take_ (i := 3) (N := some 11) (v := ?_) (a' := ?_) #[true, true, true, true, false, true, true, true, false, false, false, false, false, false] rfl rfl (by kernel_rfl) (fun _ _ _ h => h) (Or.inl ⟨by rfl, ?_⟩) hHeld ?_ ?_
 rotate_left
 ·rintro w' ⟨s0, s1, s2⟩
  go_simp
  with_reducible rfl
 rotate_left
 ·simp only [Act.put, List.setIfInBounds_toArray, List.set_cons_zero, List.set_cons_succ, i64_w, i32_w]
  rfl
 refine take_ (i := 8) (N := some 16) (v := ?_) (a' := ?_) #[true, true, true, true, false, true, true, true, true, false, false, false, false, false] rfl rfl (by kernel_rfl) (fun _ _ _ h => h) (Or.inl ⟨by rfl, ?_⟩) hHeld ?_ ?_
 rotate_left
 ·rintro w' ⟨s0, s1, s2⟩
  go_simp
  with_reducible rfl
 rotate_left
 ·simp only [Act.put, List.setIfInBounds_toArray, List.set_cons_zero, List.set_cons_succ, i64_w, i32_w]
  rfl
 refine join_ (σ := Nat × Nat) 2 #[true, true, true, true, true, true, true, true, true, true, true, true, false, false] (fun s => [(12, .agg #[.int .i64 x.f0, .int .i64 x.f1, .string x.f2]), (17, .agg #[.int .i64 y.f0, .int .i64 y.f1, .string y.f2]), (3, .pointer (some ⟨s.1, 0, none⟩)), (4, .pointer (some ⟨s.2, 0, none⟩))]) (fun s w' => (w'.cell? ⟨g, 0, none⟩ = some (.slice Ap ps.length cp) ∧ w'.cell? ⟨g, 1, none⟩ = some (.slice Aq qs.length cq) ∧ Below wr.heap.size wr w') ∧ w'.heap[s.1]? = some (.cells #[.int .i64 0, .int .i64 0, .string (⟨#[]⟩ : ByteArray)] 41 (0, 0)) ∧ w'.heap[s.2]? = some (.cells #[.int .i64 0, .int .i64 0, .string (⟨#[]⟩ : ByteArray)] 41 (0, 0)) ∧ s.1 ≠ s.2 ∧ wr.heap.size ≤ s.1 ∧ wr.heap.size ≤ s.2) ?_ ?_
 rotate_left
 ·intro hCont
  refine three_ (i := 4) (j := 10) (k := 11) (Ni := some 12) (Nj := some 3) (Nk := some 4) #[true, true, true, true, true, true, true, true, true, false, false, false, false, false] #[true, true, true, true, false, true, true, true, true, false, true, false, false, false] #[true, true, true, true, false, true, true, true, true, false, false, true, false, false] rfl rfl rfl rfl rfl rfl (by kernel_rfl) (by decide) (by decide) (by decide) (fun K hK => ?_) (fun K hK => ?_) (fun K hK => ?_)
  ·skip
   refine goes_ Try.func81 (by kernel_rfl) rfl #[.slice Ap ps.length cp, .int .i64 2147483648] (by rfl) rfl rfl (by simp only [List.map_toArray, List.map_cons, List.map_nil]; rfl) ?_
   with_reducible refine (compose_next.calls Ap cp ps 2147483648 x.f0 x.f1 x.f2 _ (Kd.C_below HCP.out.2.2 hHeld.2.2) HCP.out.2.1 HNP.out).mono ?_
   rintro e w3_ ⟨rfl, hb⟩
   refine ⟨_, rfl, ?_⟩
   refine hK.out _ _ ⟨(hb.cell (World.block_lt_of_cell? _ _ hHeld.1)).trans hHeld.1, (hb.cell (World.block_lt_of_cell? _ _ hHeld.2.1)).trans hHeld.2.1, below_step hHeld.2.2 hb⟩ (fun hHeld => ?_)
   clear hK K
   refine norm_ (a' := ?_) ?_ ?_
   rotate_left
   ·show Act.put _ (some 12) _ = _
    simp only [Act.put, List.setIfInBounds_toArray, List.set_cons_zero, List.set_cons_succ, i64_w, i32_w]
    rfl
   refine three_ (i := 9) (j := 10) (k := 11) (Ni := some 17) (Nj := some 3) (Nk := some 4) #[true, true, true, true, true, true, true, true, true, true, false, false, false, false] #[true, true, true, true, true, true, true, true, true, false, true, false, false, false] #[true, true, true, true, true, true, true, true, true, false, false, true, false, false] rfl rfl rfl rfl rfl rfl (by kernel_rfl) (by decide) (by decide) (by decide) (fun K hK => ?_) (fun K hK => ?_) (fun K hK => ?_)
   ·skip
    refine goes_ Try.func81 (by kernel_rfl) rfl #[.slice Aq qs.length cq, .int .i64 2147483648] (by rfl) rfl rfl (by simp only [List.map_toArray, List.map_cons, List.map_nil]; rfl) ?_
    with_reducible refine (compose_next.calls Aq cq qs 2147483648 y.f0 y.f1 y.f2 _ (Kd.C_below HCQ.out.2.2 hHeld.2.2) HCQ.out.2.1 HNQ.out).mono ?_
    rintro e w3_ ⟨rfl, hb⟩
    refine ⟨_, rfl, ?_⟩
    refine hK.out _ _ ⟨(hb.cell (World.block_lt_of_cell? _ _ hHeld.1)).trans hHeld.1, (hb.cell (World.block_lt_of_cell? _ _ hHeld.2.1)).trans hHeld.2.1, below_step hHeld.2.2 hb⟩ (fun hHeld => ?_)
    clear hK K
    refine norm_ (a' := ?_) ?_ ?_
    rotate_left
    ·show Act.put _ (some 17) _ = _
     simp only [Act.put, List.setIfInBounds_toArray, List.set_cons_zero, List.set_cons_succ, i64_w, i32_w]
     rfl
    refine two_ (i := 10) (j := 11) (Ni := some 3) (Nj := some 4) #[true, true, true, true, true, true, true, true, true, true, true, false, false, false] #[true, true, true, true, true, true, true, true, true, true, false, true, false, false] rfl rfl rfl rfl (by kernel_rfl) (by decide) (by decide) (fun K hK => ?_) (fun K hK => ?_)
    ·skip
     refine box_step ?hg (N := 3) ?hd (cs := #[.int .i64 0, .int .i64 0, .string (⟨#[]⟩ : ByteArray)]) (t := 41) ?hr ?_
     (case hd => rfl)
     (case hg => rfl)
     (case hr => first | (go_simp; done) | (go_simp; rfl))
     intro ga hg_ w3_ BA hb
     have Gga : wr.heap.size ≤ ga := by rw [hg_]; exact below_size hHeld.2.2
     clear hg_
     refine hK.out _ _ ⟨(hb.cell (World.block_lt_of_cell? _ _ hHeld.1)).trans hHeld.1, (hb.cell (World.block_lt_of_cell? _ _ hHeld.2.1)).trans hHeld.2.1, below_step hHeld.2.2 hb⟩ (fun hHeld => ?_)
     clear hK K
     refine norm_ (a' := ?_) ?_ ?_
     rotate_left
     ·show Act.put _ (some 3) _ = _
      simp only [Act.put, List.setIfInBounds_toArray, List.set_cons_zero, List.set_cons_succ, i64_w, i32_w]
      rfl
     refine one_ (i := 11) (N := some 4) #[true, true, true, true, true, true, true, true, true, true, true, true, false, false] rfl rfl (by kernel_rfl) (by decide) (fun K hK => ?_)
     refine box_step ?hg (N := 4) ?hd (cs := #[.int .i64 0, .int .i64 0, .string (⟨#[]⟩ : ByteArray)]) (t := 41) ?hr ?_
     (case hd => rfl)
     (case hg => rfl)
     (case hr => first | (go_simp; done) | (go_simp; rfl))
     intro gb hg_ w3_ BB hb
     have Ggb : wr.heap.size ≤ gb := by rw [hg_]; exact below_size hHeld.2.2
     have NE : ga ≠ gb := by have := blk_lt BA; omega
     clear hg_
     have n0_ := blk_below BA hb
     clear BA
     have BA := n0_
     clear n0_
     refine hK.out _ _ ⟨(hb.cell (World.block_lt_of_cell? _ _ hHeld.1)).trans hHeld.1, (hb.cell (World.block_lt_of_cell? _ _ hHeld.2.1)).trans hHeld.2.1, below_step hHeld.2.2 hb⟩ (fun hHeld => ?_)
     clear hK K
     refine norm_ (a' := ?_) ?_ ?_
     rotate_left
     ·show Act.put _ (some 4) _ = _
      simp only [Act.put, List.setIfInBounds_toArray, List.set_cons_zero, List.set_cons_succ, i64_w, i32_w]
      rfl
     exact norm_ (by simp only [putAll, Act.put, List.setIfInBounds_toArray, List.set_cons_zero, List.set_cons_succ]) (hCont (ga, gb) _ ⟨hHeld, BA, BB, NE, Gga, Ggb⟩)
    ·skip
     refine box_step ?hg (N := 4) ?hd (cs := #[.int .i64 0, .int .i64 0, .string (⟨#[]⟩ : ByteArray)]) (t := 41) ?hr ?_
     (case hd => rfl)
     (case hg => rfl)
     (case hr => first | (go_simp; done) | (go_simp; rfl))
     intro gb hg_ w3_ BB hb
     have Ggb : wr.heap.size ≤ gb := by rw [hg_]; exact below_size hHeld.2.2
     clear hg_
     refine hK.out _ _ ⟨(hb.cell (World.block_lt_of_cell? _ _ hHeld.1)).trans hHeld.1, (hb.cell (World.block_lt_of_cell? _ _ hHeld.2.1)).trans hHeld.2.1, below_step hHeld.2.2 hb⟩ (fun hHeld => ?_)
     clear hK K
     refine norm_ (a' := ?_) ?_ ?_
     rotate_left
     ·show Act.put _ (some 4) _ = _
      simp only [Act.put, List.setIfInBounds_toArray, List.set_cons_zero, List.set_cons_succ, i64_w, i32_w]
      rfl
     refine one_ (i := 10) (N := some 3) #[true, true, true, true, true, true, true, true, true, true, true, true, false, false] rfl rfl (by kernel_rfl) (by decide) (fun K hK => ?_)
     refine box_step ?hg (N := 3) ?hd (cs := #[.int .i64 0, .int .i64 0, .string (⟨#[]⟩ : ByteArray)]) (t := 41) ?hr ?_
     (case hd => rfl)
     (case hg => rfl)
     (case hr => first | (go_simp; done) | (go_simp; rfl))
     intro ga hg_ w3_ BA hb
     have Gga : wr.heap.size ≤ ga := by rw [hg_]; exact below_size hHeld.2.2
     have NE : ga ≠ gb := by have := blk_lt BB; omega
     clear hg_
     have n0_ := blk_below BB hb
     clear BB
     have BB := n0_
     clear n0_
     refine hK.out _ _ ⟨(hb.cell (World.block_lt_of_cell? _ _ hHeld.1)).trans hHeld.1, (hb.cell (World.block_lt_of_cell? _ _ hHeld.2.1)).trans hHeld.2.1, below_step hHeld.2.2 hb⟩ (fun hHeld => ?_)
     clear hK K
     refine norm_ (a' := ?_) ?_ ?_
     rotate_left
     ·show Act.put _ (some 3) _ = _
      simp only [Act.put, List.setIfInBounds_toArray, List.set_cons_zero, List.set_cons_succ, i64_w, i32_w]
      rfl
     exact norm_ (by simp only [putAll, Act.put, List.setIfInBounds_toArray, List.set_cons_zero, List.set_cons_succ]) (hCont (ga, gb) _ ⟨hHeld, BA, BB, NE, Gga, Ggb⟩)
   ·skip
    refine box_step ?hg (N := 3) ?hd (cs := #[.int .i64 0, .int .i64 0, .string (⟨#[]⟩ : ByteArray)]) (t := 41) ?hr ?_
    (case hd => rfl)
    (case hg => rfl)
    (case hr => first | (go_simp; done) | (go_simp; rfl))
    intro ga hg_ w3_ BA hb
    have Gga : wr.heap.size ≤ ga := by rw [hg_]; exact below_size hHeld.2.2
    clear hg_
    refine hK.out _ _ ⟨(hb.cell (World.block_lt_of_cell? _ _ hHeld.1)).trans hHeld.1, (hb.cell (World.block_lt_of_cell? _ _ hHeld.2.1)).trans hHeld.2.1, below_step hHeld.2.2 hb⟩ (fun hHeld => ?_)
    clear hK K
    refine norm_ (a' := ?_) ?_ ?_
    rotate_left
    ·show Act.put _ (some 3) _ = _
     simp only [Act.put, List.setIfInBounds_toArray, List.set_cons_zero, List.set_cons_succ, i64_w, i32_w]
     rfl
    refine two_ (i := 9) (j := 11) (Ni := some 17) (Nj := some 4) #[true, true, true, true, true, true, true, true, true, true, true, false, false, false] #[true, true, true, true, true, true, true, true, true, false, true, true, false, false] rfl rfl rfl rfl (by kernel_rfl) (by decide) (by decide) (fun K hK => ?_) (fun K hK => ?_)
    ·skip
     refine goes_ Try.func81 (by kernel_rfl) rfl #[.slice Aq qs.length cq, .int .i64 2147483648] (by rfl) rfl rfl (by simp only [List.map_toArray, List.map_cons, List.map_nil]; rfl) ?_
     with_reducible refine (compose_next.calls Aq cq qs 2147483648 y.f0 y.f1 y.f2 _ (Kd.C_below HCQ.out.2.2 hHeld.2.2) HCQ.out.2.1 HNQ.out).mono ?_
     rintro e w3_ ⟨rfl, hb⟩
     refine ⟨_, rfl, ?_⟩
     have n0_ := blk_below BA hb
     clear BA
     have BA := n0_
     clear n0_
     refine hK.out _ _ ⟨(hb.cell (World.block_lt_of_cell? _ _ hHeld.1)).trans hHeld.1, (hb.cell (World.block_lt_of_cell? _ _ hHeld.2.1)).trans hHeld.2.1, below_step hHeld.2.2 hb⟩ (fun hHeld => ?_)
     clear hK K
     refine norm_ (a' := ?_) ?_ ?_
     rotate_left
     ·show Act.put _ (some 17) _ = _
      simp only [Act.put, List.setIfInBounds_toArray, List.set_cons_zero, List.set_cons_succ, i64_w, i32_w]
      rfl
     refine one_ (i := 11) (N := some 4) #[true, true, true, true, true, true, true, true, true, true, true, true, false, false] rfl rfl (by kernel_rfl) (by decide) (fun K hK => ?_)
     refine box_step ?hg (N := 4) ?hd (cs := #[.int .i64 0, .int .i64 0, .string (⟨#[]⟩ : ByteArray)]) (t := 41) ?hr ?_
     (case hd => rfl)
     (case hg => rfl)
     (case hr => first | (go_simp; done) | (go_simp; rfl))
     intro gb hg_ w3_ BB hb
     have Ggb : wr.heap.size ≤ gb := by rw [hg_]; exact below_size hHeld.2.2
     have NE : ga ≠ gb := by have := blk_lt BA; omega
     clear hg_
     have n0_ := blk_below BA hb
     clear BA
     have BA := n0_
     clear n0_
     refine hK.out _ _ ⟨(hb.cell (World.block_lt_of_cell? _ _ hHeld.1)).trans hHeld.1, (hb.cell (World.block_lt_of_cell? _ _ hHeld.2.1)).trans hHeld.2.1, below_step hHeld.2.2 hb⟩ (fun hHeld => ?_)
     clear hK K
     refine norm_ (a' := ?_) ?_ ?_
     rotate_left
     ·show Act.put _ (some 4) _ = _
      simp only [Act.put, List.setIfInBounds_toArray, List.set_cons_zero, List.set_cons_succ, i64_w, i32_w]
      rfl
     exact norm_ (by simp only [putAll, Act.put, List.setIfInBounds_toArray, List.set_cons_zero, List.set_cons_succ]) (hCont (ga, gb) _ ⟨hHeld, BA, BB, NE, Gga, Ggb⟩)
    ·skip
     refine box_step ?hg (N := 4) ?hd (cs := #[.int .i64 0, .int .i64 0, .string (⟨#[]⟩ : ByteArray)]) (t := 41) ?hr ?_
     (case hd => rfl)
     (case hg => rfl)
     (case hr => first | (go_simp; done) | (go_simp; rfl))
     intro gb hg_ w3_ BB hb
     have Ggb : wr.heap.size ≤ gb := by rw [hg_]; exact below_size hHeld.2.2
     have NE : ga ≠ gb := by have := blk_lt BA; omega
     clear hg_
     have n0_ := blk_below BA hb
     clear BA
     have BA := n0_
     clear n0_
     refine hK.out _ _ ⟨(hb.cell (World.block_lt_of_cell? _ _ hHeld.1)).trans hHeld.1, (hb.cell (World.block_lt_of_cell? _ _ hHeld.2.1)).trans hHeld.2.1, below_step hHeld.2.2 hb⟩ (fun hHeld => ?_)
     clear hK K
     refine norm_ (a' := ?_) ?_ ?_
     rotate_left
     ·show Act.put _ (some 4) _ = _
      simp only [Act.put, List.setIfInBounds_toArray, List.set_cons_zero, List.set_cons_succ, i64_w, i32_w]
      rfl
     refine one_ (i := 9) (N := some 17) #[true, true, true, true, true, true, true, true, true, true, true, true, false, false] rfl rfl (by kernel_rfl) (by decide) (fun K hK => ?_)
     refine goes_ Try.func81 (by kernel_rfl) rfl #[.slice Aq qs.length cq, .int .i64 2147483648] (by rfl) rfl rfl (by simp only [List.map_toArray, List.map_cons, List.map_nil]; rfl) ?_
     with_reducible refine (compose_next.calls Aq cq qs 2147483648 y.f0 y.f1 y.f2 _ (Kd.C_below HCQ.out.2.2 hHeld.2.2) HCQ.out.2.1 HNQ.out).mono ?_
     rintro e w3_ ⟨rfl, hb⟩
     refine ⟨_, rfl, ?_⟩
     have n0_ := blk_below BA hb
     clear BA
     have BA := n0_
     clear n0_
     have n0_ := blk_below BB hb
     clear BB
     have BB := n0_
     clear n0_
     refine hK.out _ _ ⟨(hb.cell (World.block_lt_of_cell? _ _ hHeld.1)).trans hHeld.1, (hb.cell (World.block_lt_of_cell? _ _ hHeld.2.1)).trans hHeld.2.1, below_step hHeld.2.2 hb⟩ (fun hHeld => ?_)
     clear hK K
     refine norm_ (a' := ?_) ?_ ?_
     rotate_left
     ·show Act.put _ (some 17) _ = _
      simp only [Act.put, List.setIfInBounds_toArray, List.set_cons_zero, List.set_cons_succ, i64_w, i32_w]
      rfl
     exact norm_ (by simp only [putAll, Act.put, List.setIfInBounds_toArray, List.set_cons_zero, List.set_cons_succ]) (hCont (ga, gb) _ ⟨hHeld, BA, BB, NE, Gga, Ggb⟩)
   ·skip
    refine box_step ?hg (N := 4) ?hd (cs := #[.int .i64 0, .int .i64 0, .string (⟨#[]⟩ : ByteArray)]) (t := 41) ?hr ?_
    (case hd => rfl)
    (case hg => rfl)
    (case hr => first | (go_simp; done) | (go_simp; rfl))
    intro gb hg_ w3_ BB hb
    have Ggb : wr.heap.size ≤ gb := by rw [hg_]; exact below_size hHeld.2.2
    clear hg_
    refine hK.out _ _ ⟨(hb.cell (World.block_lt_of_cell? _ _ hHeld.1)).trans hHeld.1, (hb.cell (World.block_lt_of_cell? _ _ hHeld.2.1)).trans hHeld.2.1, below_step hHeld.2.2 hb⟩ (fun hHeld => ?_)
    clear hK K
    refine norm_ (a' := ?_) ?_ ?_
    rotate_left
    ·show Act.put _ (some 4) _ = _
     simp only [Act.put, List.setIfInBounds_toArray, List.set_cons_zero, List.set_cons_succ, i64_w, i32_w]
     rfl
    refine two_ (i := 9) (j := 10) (Ni := some 17) (Nj := some 3) #[true, true, true, true, true, true, true, true, true, true, false, true, false, false] #[true, true, true, true, true, true, true, true, true, false, true, true, false, false] rfl rfl rfl rfl (by kernel_rfl) (by decide) (by decide) (fun K hK => ?_) (fun K hK => ?_)
    ·skip
     refine goes_ Try.func81 (by kernel_rfl) rfl #[.slice Aq qs.length cq, .int .i64 2147483648] (by rfl) rfl rfl (by simp only [List.map_toArray, List.map_cons, List.map_nil]; rfl) ?_
     with_reducible refine (compose_next.calls Aq cq qs 2147483648 y.f0 y.f1 y.f2 _ (Kd.C_below HCQ.out.2.2 hHeld.2.2) HCQ.out.2.1 HNQ.out).mono ?_
     rintro e w3_ ⟨rfl, hb⟩
     refine ⟨_, rfl, ?_⟩
     have n0_ := blk_below BB hb
     clear BB
     have BB := n0_
     clear n0_
     refine hK.out _ _ ⟨(hb.cell (World.block_lt_of_cell? _ _ hHeld.1)).trans hHeld.1, (hb.cell (World.block_lt_of_cell? _ _ hHeld.2.1)).trans hHeld.2.1, below_step hHeld.2.2 hb⟩ (fun hHeld => ?_)
     clear hK K
     refine norm_ (a' := ?_) ?_ ?_
     rotate_left
     ·show Act.put _ (some 17) _ = _
      simp only [Act.put, List.setIfInBounds_toArray, List.set_cons_zero, List.set_cons_succ, i64_w, i32_w]
      rfl
     refine one_ (i := 10) (N := some 3) #[true, true, true, true, true, true, true, true, true, true, true, true, false, false] rfl rfl (by kernel_rfl) (by decide) (fun K hK => ?_)
     refine box_step ?hg (N := 3) ?hd (cs := #[.int .i64 0, .int .i64 0, .string (⟨#[]⟩ : ByteArray)]) (t := 41) ?hr ?_
     (case hd => rfl)
     (case hg => rfl)
     (case hr => first | (go_simp; done) | (go_simp; rfl))
     intro ga hg_ w3_ BA hb
     have Gga : wr.heap.size ≤ ga := by rw [hg_]; exact below_size hHeld.2.2
     have NE : ga ≠ gb := by have := blk_lt BB; omega
     clear hg_
     have n0_ := blk_below BB hb
     clear BB
     have BB := n0_
     clear n0_
     refine hK.out _ _ ⟨(hb.cell (World.block_lt_of_cell? _ _ hHeld.1)).trans hHeld.1, (hb.cell (World.block_lt_of_cell? _ _ hHeld.2.1)).trans hHeld.2.1, below_step hHeld.2.2 hb⟩ (fun hHeld => ?_)
     clear hK K
     refine norm_ (a' := ?_) ?_ ?_
     rotate_left
     ·show Act.put _ (some 3) _ = _
      simp only [Act.put, List.setIfInBounds_toArray, List.set_cons_zero, List.set_cons_succ, i64_w, i32_w]
      rfl
     exact norm_ (by simp only [putAll, Act.put, List.setIfInBounds_toArray, List.set_cons_zero, List.set_cons_succ]) (hCont (ga, gb) _ ⟨hHeld, BA, BB, NE, Gga, Ggb⟩)
    ·skip
     refine box_step ?hg (N := 3) ?hd (cs := #[.int .i64 0, .int .i64 0, .string (⟨#[]⟩ : ByteArray)]) (t := 41) ?hr ?_
     (case hd => rfl)
     (case hg => rfl)
     (case hr => first | (go_simp; done) | (go_simp; rfl))
     intro ga hg_ w3_ BA hb
     have Gga : wr.heap.size ≤ ga := by rw [hg_]; exact below_size hHeld.2.2
     have NE : ga ≠ gb := by have := blk_lt BB; omega
     clear hg_
     have n0_ := blk_below BB hb
     clear BB
     have BB := n0_
     clear n0_
     refine hK.out _ _ ⟨(hb.cell (World.block_lt_of_cell? _ _ hHeld.1)).trans hHeld.1, (hb.cell (World.block_lt_of_cell? _ _ hHeld.2.1)).trans hHeld.2.1, below_step hHeld.2.2 hb⟩ (fun hHeld => ?_)
     clear hK K
     refine norm_ (a' := ?_) ?_ ?_
     rotate_left
     ·show Act.put _ (some 3) _ = _
      simp only [Act.put, List.setIfInBounds_toArray, List.set_cons_zero, List.set_cons_succ, i64_w, i32_w]
      rfl
     refine one_ (i := 9) (N := some 17) #[true, true, true, true, true, true, true, true, true, true, true, true, false, false] rfl rfl (by kernel_rfl) (by decide) (fun K hK => ?_)
     refine goes_ Try.func81 (by kernel_rfl) rfl #[.slice Aq qs.length cq, .int .i64 2147483648] (by rfl) rfl rfl (by simp only [List.map_toArray, List.map_cons, List.map_nil]; rfl) ?_
     with_reducible refine (compose_next.calls Aq cq qs 2147483648 y.f0 y.f1 y.f2 _ (Kd.C_below HCQ.out.2.2 hHeld.2.2) HCQ.out.2.1 HNQ.out).mono ?_
     rintro e w3_ ⟨rfl, hb⟩
     refine ⟨_, rfl, ?_⟩
     have n0_ := blk_below BA hb
     clear BA
     have BA := n0_
     clear n0_
     have n0_ := blk_below BB hb
     clear BB
     have BB := n0_
     clear n0_
     refine hK.out _ _ ⟨(hb.cell (World.block_lt_of_cell? _ _ hHeld.1)).trans hHeld.1, (hb.cell (World.block_lt_of_cell? _ _ hHeld.2.1)).trans hHeld.2.1, below_step hHeld.2.2 hb⟩ (fun hHeld => ?_)
     clear hK K
     refine norm_ (a' := ?_) ?_ ?_
     rotate_left
     ·show Act.put _ (some 17) _ = _
      simp only [Act.put, List.setIfInBounds_toArray, List.set_cons_zero, List.set_cons_succ, i64_w, i32_w]
      rfl
     exact norm_ (by simp only [putAll, Act.put, List.setIfInBounds_toArray, List.set_cons_zero, List.set_cons_succ]) (hCont (ga, gb) _ ⟨hHeld, BA, BB, NE, Gga, Ggb⟩)
  ·skip
   refine box_step ?hg (N := 3) ?hd (cs := #[.int .i64 0, .int .i64 0, .string (⟨#[]⟩ : ByteArray)]) (t := 41) ?hr ?_
   (case hd => rfl)
   (case hg => rfl)
   (case hr => first | (go_simp; done) | (go_simp; rfl))
   intro ga hg_ w3_ BA hb
   have Gga : wr.heap.size ≤ ga := by rw [hg_]; exact below_size hHeld.2.2
   clear hg_
   refine hK.out _ _ ⟨(hb.cell (World.block_lt_of_cell? _ _ hHeld.1)).trans hHeld.1, (hb.cell (World.block_lt_of_cell? _ _ hHeld.2.1)).trans hHeld.2.1, below_step hHeld.2.2 hb⟩ (fun hHeld => ?_)
   clear hK K
   refine norm_ (a' := ?_) ?_ ?_
   rotate_left
   ·show Act.put _ (some 3) _ = _
    simp only [Act.put, List.setIfInBounds_toArray, List.set_cons_zero, List.set_cons_succ, i64_w, i32_w]
    rfl
   refine two_ (i := 4) (j := 11) (Ni := some 12) (Nj := some 4) #[true, true, true, true, true, true, true, true, true, false, true, false, false, false] #[true, true, true, true, false, true, true, true, true, false, true, true, false, false] rfl rfl rfl rfl (by kernel_rfl) (by decide) (by decide) (fun K hK => ?_) (fun K hK => ?_)
   ·skip
    refine goes_ Try.func81 (by kernel_rfl) rfl #[.slice Ap ps.length cp, .int .i64 2147483648] (by rfl) rfl rfl (by simp only [List.map_toArray, List.map_cons, List.map_nil]; rfl) ?_
    with_reducible refine (compose_next.calls Ap cp ps 2147483648 x.f0 x.f1 x.f2 _ (Kd.C_below HCP.out.2.2 hHeld.2.2) HCP.out.2.1 HNP.out).mono ?_
    rintro e w3_ ⟨rfl, hb⟩
    refine ⟨_, rfl, ?_⟩
    have n0_ := blk_below BA hb
    clear BA
    have BA := n0_
    clear n0_
    refine hK.out _ _ ⟨(hb.cell (World.block_lt_of_cell? _ _ hHeld.1)).trans hHeld.1, (hb.cell (World.block_lt_of_cell? _ _ hHeld.2.1)).trans hHeld.2.1, below_step hHeld.2.2 hb⟩ (fun hHeld => ?_)
    clear hK K
    refine norm_ (a' := ?_) ?_ ?_
    rotate_left
    ·show Act.put _ (some 12) _ = _
     simp only [Act.put, List.setIfInBounds_toArray, List.set_cons_zero, List.set_cons_succ, i64_w, i32_w]
     rfl
    refine two_ (i := 9) (j := 11) (Ni := some 17) (Nj := some 4) #[true, true, true, true, true, true, true, true, true, true, true, false, false, false] #[true, true, true, true, true, true, true, true, true, false, true, true, false, false] rfl rfl rfl rfl (by kernel_rfl) (by decide) (by decide) (fun K hK => ?_) (fun K hK => ?_)
    ·skip
     refine goes_ Try.func81 (by kernel_rfl) rfl #[.slice Aq qs.length cq, .int .i64 2147483648] (by rfl) rfl rfl (by simp only [List.map_toArray, List.map_cons, List.map_nil]; rfl) ?_
     with_reducible refine (compose_next.calls Aq cq qs 2147483648 y.f0 y.f1 y.f2 _ (Kd.C_below HCQ.out.2.2 hHeld.2.2) HCQ.out.2.1 HNQ.out).mono ?_
     rintro e w3_ ⟨rfl, hb⟩
     refine ⟨_, rfl, ?_⟩
     have n0_ := blk_below BA hb
     clear BA
     have BA := n0_
     clear n0_
     refine hK.out _ _ ⟨(hb.cell (World.block_lt_of_cell? _ _ hHeld.1)).trans hHeld.1, (hb.cell (World.block_lt_of_cell? _ _ hHeld.2.1)).trans hHeld.2.1, below_step hHeld.2.2 hb⟩ (fun hHeld => ?_)
     clear hK K
     refine norm_ (a' := ?_) ?_ ?_
     rotate_left
     ·show Act.put _ (some 17) _ = _
      simp only [Act.put, List.setIfInBounds_toArray, List.set_cons_zero, List.set_cons_succ, i64_w, i32_w]
      rfl
     refine one_ (i := 11) (N := some 4) #[true, true, true, true, true, true, true, true, true, true, true, true, false, false] rfl rfl (by kernel_rfl) (by decide) (fun K hK => ?_)
     refine box_step ?hg (N := 4) ?hd (cs := #[.int .i64 0, .int .i64 0, .string (⟨#[]⟩ : ByteArray)]) (t := 41) ?hr ?_
     (case hd => rfl)
     (case hg => rfl)
     (case hr => first | (go_simp; done) | (go_simp; rfl))
     intro gb hg_ w3_ BB hb
     have Ggb : wr.heap.size ≤ gb := by rw [hg_]; exact below_size hHeld.2.2
     have NE : ga ≠ gb := by have := blk_lt BA; omega
     clear hg_
     have n0_ := blk_below BA hb
     clear BA
     have BA := n0_
     clear n0_
     refine hK.out _ _ ⟨(hb.cell (World.block_lt_of_cell? _ _ hHeld.1)).trans hHeld.1, (hb.cell (World.block_lt_of_cell? _ _ hHeld.2.1)).trans hHeld.2.1, below_step hHeld.2.2 hb⟩ (fun hHeld => ?_)
     clear hK K
     refine norm_ (a' := ?_) ?_ ?_
     rotate_left
     ·show Act.put _ (some 4) _ = _
      simp only [Act.put, List.setIfInBounds_toArray, List.set_cons_zero, List.set_cons_succ, i64_w, i32_w]
      rfl
     exact norm_ (by simp only [putAll, Act.put, List.setIfInBounds_toArray, List.set_cons_zero, List.set_cons_succ]) (hCont (ga, gb) _ ⟨hHeld, BA, BB, NE, Gga, Ggb⟩)
    ·skip
     refine box_step ?hg (N := 4) ?hd (cs := #[.int .i64 0, .int .i64 0, .string (⟨#[]⟩ : ByteArray)]) (t := 41) ?hr ?_
     (case hd => rfl)
     (case hg => rfl)
     (case hr => first | (go_simp; done) | (go_simp; rfl))
     intro gb hg_ w3_ BB hb
     have Ggb : wr.heap.size ≤ gb := by rw [hg_]; exact below_size hHeld.2.2
     have NE : ga ≠ gb := by have := blk_lt BA; omega
     clear hg_
     have n0_ := blk_below BA hb
     clear BA
     have BA := n0_
     clear n0_
     refine hK.out _ _ ⟨(hb.cell (World.block_lt_of_cell? _ _ hHeld.1)).trans hHeld.1, (hb.cell (World.block_lt_of_cell? _ _ hHeld.2.1)).trans hHeld.2.1, below_step hHeld.2.2 hb⟩ (fun hHeld => ?_)
     clear hK K
     refine norm_ (a' := ?_) ?_ ?_
     rotate_left
     ·show Act.put _ (some 4) _ = _
      simp only [Act.put, List.setIfInBounds_toArray, List.set_cons_zero, List.set_cons_succ, i64_w, i32_w]
      rfl
     refine one_ (i := 9) (N := some 17) #[true, true, true, true, true, true, true, true, true, true, true, true, false, false] rfl rfl (by kernel_rfl) (by decide) (fun K hK => ?_)
     refine goes_ Try.func81 (by kernel_rfl) rfl #[.slice Aq qs.length cq, .int .i64 2147483648] (by rfl) rfl rfl (by simp only [List.map_toArray, List.map_cons, List.map_nil]; rfl) ?_
     with_reducible refine (compose_next.calls Aq cq qs 2147483648 y.f0 y.f1 y.f2 _ (Kd.C_below HCQ.out.2.2 hHeld.2.2) HCQ.out.2.1 HNQ.out).mono ?_
     rintro e w3_ ⟨rfl, hb⟩
     refine ⟨_, rfl, ?_⟩
     have n0_ := blk_below BA hb
     clear BA
     have BA := n0_
     clear n0_
     have n0_ := blk_below BB hb
     clear BB
     have BB := n0_
     clear n0_
     refine hK.out _ _ ⟨(hb.cell (World.block_lt_of_cell? _ _ hHeld.1)).trans hHeld.1, (hb.cell (World.block_lt_of_cell? _ _ hHeld.2.1)).trans hHeld.2.1, below_step hHeld.2.2 hb⟩ (fun hHeld => ?_)
     clear hK K
     refine norm_ (a' := ?_) ?_ ?_
     rotate_left
     ·show Act.put _ (some 17) _ = _
      simp only [Act.put, List.setIfInBounds_toArray, List.set_cons_zero, List.set_cons_succ, i64_w, i32_w]
      rfl
     exact norm_ (by simp only [putAll, Act.put, List.setIfInBounds_toArray, List.set_cons_zero, List.set_cons_succ]) (hCont (ga, gb) _ ⟨hHeld, BA, BB, NE, Gga, Ggb⟩)
   ·skip
    refine box_step ?hg (N := 4) ?hd (cs := #[.int .i64 0, .int .i64 0, .string (⟨#[]⟩ : ByteArray)]) (t := 41) ?hr ?_
    (case hd => rfl)
    (case hg => rfl)
    (case hr => first | (go_simp; done) | (go_simp; rfl))
    intro gb hg_ w3_ BB hb
    have Ggb : wr.heap.size ≤ gb := by rw [hg_]; exact below_size hHeld.2.2
    have NE : ga ≠ gb := by have := blk_lt BA; omega
    clear hg_
    have n0_ := blk_below BA hb
    clear BA
    have BA := n0_
    clear n0_
    refine hK.out _ _ ⟨(hb.cell (World.block_lt_of_cell? _ _ hHeld.1)).trans hHeld.1, (hb.cell (World.block_lt_of_cell? _ _ hHeld.2.1)).trans hHeld.2.1, below_step hHeld.2.2 hb⟩ (fun hHeld => ?_)
    clear hK K
    refine norm_ (a' := ?_) ?_ ?_
    rotate_left
    ·show Act.put _ (some 4) _ = _
     simp only [Act.put, List.setIfInBounds_toArray, List.set_cons_zero, List.set_cons_succ, i64_w, i32_w]
     rfl
    refine one_ (i := 4) (N := some 12) #[true, true, true, true, true, true, true, true, true, false, true, true, false, false] rfl rfl (by kernel_rfl) (by decide) (fun K hK => ?_)
    refine goes_ Try.func81 (by kernel_rfl) rfl #[.slice Ap ps.length cp, .int .i64 2147483648] (by rfl) rfl rfl (by simp only [List.map_toArray, List.map_cons, List.map_nil]; rfl) ?_
    with_reducible refine (compose_next.calls Ap cp ps 2147483648 x.f0 x.f1 x.f2 _ (Kd.C_below HCP.out.2.2 hHeld.2.2) HCP.out.2.1 HNP.out).mono ?_
    rintro e w3_ ⟨rfl, hb⟩
    refine ⟨_, rfl, ?_⟩
    have n0_ := blk_below BA hb
    clear BA
    have BA := n0_
    clear n0_
    have n0_ := blk_below BB hb
    clear BB
    have BB := n0_
    clear n0_
    refine hK.out _ _ ⟨(hb.cell (World.block_lt_of_cell? _ _ hHeld.1)).trans hHeld.1, (hb.cell (World.block_lt_of_cell? _ _ hHeld.2.1)).trans hHeld.2.1, below_step hHeld.2.2 hb⟩ (fun hHeld => ?_)
    clear hK K
    refine norm_ (a' := ?_) ?_ ?_
    rotate_left
    ·show Act.put _ (some 12) _ = _
     simp only [Act.put, List.setIfInBounds_toArray, List.set_cons_zero, List.set_cons_succ, i64_w, i32_w]
     rfl
    refine one_ (i := 9) (N := some 17) #[true, true, true, true, true, true, true, true, true, true, true, true, false, false] rfl rfl (by kernel_rfl) (by decide) (fun K hK => ?_)
    refine goes_ Try.func81 (by kernel_rfl) rfl #[.slice Aq qs.length cq, .int .i64 2147483648] (by rfl) rfl rfl (by simp only [List.map_toArray, List.map_cons, List.map_nil]; rfl) ?_
    with_reducible refine (compose_next.calls Aq cq qs 2147483648 y.f0 y.f1 y.f2 _ (Kd.C_below HCQ.out.2.2 hHeld.2.2) HCQ.out.2.1 HNQ.out).mono ?_
    rintro e w3_ ⟨rfl, hb⟩
    refine ⟨_, rfl, ?_⟩
    have n0_ := blk_below BA hb
    clear BA
    have BA := n0_
    clear n0_
    have n0_ := blk_below BB hb
    clear BB
    have BB := n0_
    clear n0_
    refine hK.out _ _ ⟨(hb.cell (World.block_lt_of_cell? _ _ hHeld.1)).trans hHeld.1, (hb.cell (World.block_lt_of_cell? _ _ hHeld.2.1)).trans hHeld.2.1, below_step hHeld.2.2 hb⟩ (fun hHeld => ?_)
    clear hK K
    refine norm_ (a' := ?_) ?_ ?_
    rotate_left
    ·show Act.put _ (some 17) _ = _
     simp only [Act.put, List.setIfInBounds_toArray, List.set_cons_zero, List.set_cons_succ, i64_w, i32_w]
     rfl
    exact norm_ (by simp only [putAll, Act.put, List.setIfInBounds_toArray, List.set_cons_zero, List.set_cons_succ]) (hCont (ga, gb) _ ⟨hHeld, BA, BB, NE, Gga, Ggb⟩)
  ·skip
   refine box_step ?hg (N := 4) ?hd (cs := #[.int .i64 0, .int .i64 0, .string (⟨#[]⟩ : ByteArray)]) (t := 41) ?hr ?_
   (case hd => rfl)
   (case hg => rfl)
   (case hr => first | (go_simp; done) | (go_simp; rfl))
   intro gb hg_ w3_ BB hb
   have Ggb : wr.heap.size ≤ gb := by rw [hg_]; exact below_size hHeld.2.2
   clear hg_
   refine hK.out _ _ ⟨(hb.cell (World.block_lt_of_cell? _ _ hHeld.1)).trans hHeld.1, (hb.cell (World.block_lt_of_cell? _ _ hHeld.2.1)).trans hHeld.2.1, below_step hHeld.2.2 hb⟩ (fun hHeld => ?_)
   clear hK K
   refine norm_ (a' := ?_) ?_ ?_
   rotate_left
   ·show Act.put _ (some 4) _ = _
    simp only [Act.put, List.setIfInBounds_toArray, List.set_cons_zero, List.set_cons_succ, i64_w, i32_w]
    rfl
   refine two_ (i := 4) (j := 10) (Ni := some 12) (Nj := some 3) #[true, true, true, true, true, true, true, true, true, false, false, true, false, false] #[true, true, true, true, false, true, true, true, true, false, true, true, false, false] rfl rfl rfl rfl (by kernel_rfl) (by decide) (by decide) (fun K hK => ?_) (fun K hK => ?_)
   ·skip
    refine goes_ Try.func81 (by kernel_rfl) rfl #[.slice Ap ps.length cp, .int .i64 2147483648] (by rfl) rfl rfl (by simp only [List.map_toArray, List.map_cons, List.map_nil]; rfl) ?_
    with_reducible refine (compose_next.calls Ap cp ps 2147483648 x.f0 x.f1 x.f2 _ (Kd.C_below HCP.out.2.2 hHeld.2.2) HCP.out.2.1 HNP.out).mono ?_
    rintro e w3_ ⟨rfl, hb⟩
    refine ⟨_, rfl, ?_⟩
    have n0_ := blk_below BB hb
    clear BB
    have BB := n0_
    clear n0_
    refine hK.out _ _ ⟨(hb.cell (World.block_lt_of_cell? _ _ hHeld.1)).trans hHeld.1, (hb.cell (World.block_lt_of_cell? _ _ hHeld.2.1)).trans hHeld.2.1, below_step hHeld.2.2 hb⟩ (fun hHeld => ?_)
    clear hK K
    refine norm_ (a' := ?_) ?_ ?_
    rotate_left
    ·show Act.put _ (some 12) _ = _
     simp only [Act.put, List.setIfInBounds_toArray, List.set_cons_zero, List.set_cons_succ, i64_w, i32_w]
     rfl
    refine two_ (i := 9) (j := 10) (Ni := some 17) (Nj := some 3) #[true, true, true, true, true, true, true, true, true, true, false, true, false, false] #[true, true, true, true, true, true, true, true, true, false, true, true, false, false] rfl rfl rfl rfl (by kernel_rfl) (by decide) (by decide) (fun K hK => ?_) (fun K hK => ?_)
    ·skip
     refine goes_ Try.func81 (by kernel_rfl) rfl #[.slice Aq qs.length cq, .int .i64 2147483648] (by rfl) rfl rfl (by simp only [List.map_toArray, List.map_cons, List.map_nil]; rfl) ?_
     with_reducible refine (compose_next.calls Aq cq qs 2147483648 y.f0 y.f1 y.f2 _ (Kd.C_below HCQ.out.2.2 hHeld.2.2) HCQ.out.2.1 HNQ.out).mono ?_
     rintro e w3_ ⟨rfl, hb⟩
     refine ⟨_, rfl, ?_⟩
     have n0_ := blk_below BB hb
     clear BB
     have BB := n0_
     clear n0_
     refine hK.out _ _ ⟨(hb.cell (World.block_lt_of_cell? _ _ hHeld.1)).trans hHeld.1, (hb.cell (World.block_lt_of_cell? _ _ hHeld.2.1)).trans hHeld.2.1, below_step hHeld.2.2 hb⟩ (fun hHeld => ?_)
     clear hK K
     refine norm_ (a' := ?_) ?_ ?_
     rotate_left
     ·show Act.put _ (some 17) _ = _
      simp only [Act.put, List.setIfInBounds_toArray, List.set_cons_zero, List.set_cons_succ, i64_w, i32_w]
      rfl
     refine one_ (i := 10) (N := some 3) #[true, true, true, true, true, true, true, true, true, true, true, true, false, false] rfl rfl (by kernel_rfl) (by decide) (fun K hK => ?_)
     refine box_step ?hg (N := 3) ?hd (cs := #[.int .i64 0, .int .i64 0, .string (⟨#[]⟩ : ByteArray)]) (t := 41) ?hr ?_
     (case hd => rfl)
     (case hg => rfl)
     (case hr => first | (go_simp; done) | (go_simp; rfl))
     intro ga hg_ w3_ BA hb
     have Gga : wr.heap.size ≤ ga := by rw [hg_]; exact below_size hHeld.2.2
     have NE : ga ≠ gb := by have := blk_lt BB; omega
     clear hg_
     have n0_ := blk_below BB hb
     clear BB
     have BB := n0_
     clear n0_
     refine hK.out _ _ ⟨(hb.cell (World.block_lt_of_cell? _ _ hHeld.1)).trans hHeld.1, (hb.cell (World.block_lt_of_cell? _ _ hHeld.2.1)).trans hHeld.2.1, below_step hHeld.2.2 hb⟩ (fun hHeld => ?_)
     clear hK K
     refine norm_ (a' := ?_) ?_ ?_
     rotate_left
     ·show Act.put _ (some 3) _ = _
      simp only [Act.put, List.setIfInBounds_toArray, List.set_cons_zero, List.set_cons_succ, i64_w, i32_w]
      rfl
     exact norm_ (by simp only [putAll, Act.put, List.setIfInBounds_toArray, List.set_cons_zero, List.set_cons_succ]) (hCont (ga, gb) _ ⟨hHeld, BA, BB, NE, Gga, Ggb⟩)
    ·skip
     refine box_step ?hg (N := 3) ?hd (cs := #[.int .i64 0, .int .i64 0, .string (⟨#[]⟩ : ByteArray)]) (t := 41) ?hr ?_
     (case hd => rfl)
     (case hg => rfl)
     (case hr => first | (go_simp; done) | (go_simp; rfl))
     intro ga hg_ w3_ BA hb
     have Gga : wr.heap.size ≤ ga := by rw [hg_]; exact below_size hHeld.2.2
     have NE : ga ≠ gb := by have := blk_lt BB; omega
     clear hg_
     have n0_ := blk_below BB hb
     clear BB
     have BB := n0_
     clear n0_
     refine hK.out _ _ ⟨(hb.cell (World.block_lt_of_cell? _ _ hHeld.1)).trans hHeld.1, (hb.cell (World.block_lt_of_cell? _ _ hHeld.2.1)).trans hHeld.2.1, below_step hHeld.2.2 hb⟩ (fun hHeld => ?_)
     clear hK K
     refine norm_ (a' := ?_) ?_ ?_
     rotate_left
     ·show Act.put _ (some 3) _ = _
      simp only [Act.put, List.setIfInBounds_toArray, List.set_cons_zero, List.set_cons_succ, i64_w, i32_w]
      rfl
     refine one_ (i := 9) (N := some 17) #[true, true, true, true, true, true, true, true, true, true, true, true, false, false] rfl rfl (by kernel_rfl) (by decide) (fun K hK => ?_)
     refine goes_ Try.func81 (by kernel_rfl) rfl #[.slice Aq qs.length cq, .int .i64 2147483648] (by rfl) rfl rfl (by simp only [List.map_toArray, List.map_cons, List.map_nil]; rfl) ?_
     with_reducible refine (compose_next.calls Aq cq qs 2147483648 y.f0 y.f1 y.f2 _ (Kd.C_below HCQ.out.2.2 hHeld.2.2) HCQ.out.2.1 HNQ.out).mono ?_
     rintro e w3_ ⟨rfl, hb⟩
     refine ⟨_, rfl, ?_⟩
     have n0_ := blk_below BA hb
     clear BA
     have BA := n0_
     clear n0_
     have n0_ := blk_below BB hb
     clear BB
     have BB := n0_
     clear n0_
     refine hK.out _ _ ⟨(hb.cell (World.block_lt_of_cell? _ _ hHeld.1)).trans hHeld.1, (hb.cell (World.block_lt_of_cell? _ _ hHeld.2.1)).trans hHeld.2.1, below_step hHeld.2.2 hb⟩ (fun hHeld => ?_)
     clear hK K
     refine norm_ (a' := ?_) ?_ ?_
     rotate_left
     ·show Act.put _ (some 17) _ = _
      simp only [Act.put, List.setIfInBounds_toArray, List.set_cons_zero, List.set_cons_succ, i64_w, i32_w]
      rfl
     exact norm_ (by simp only [putAll, Act.put, List.setIfInBounds_toArray, List.set_cons_zero, List.set_cons_succ]) (hCont (ga, gb) _ ⟨hHeld, BA, BB, NE, Gga, Ggb⟩)
   ·skip
    refine box_step ?hg (N := 3) ?hd (cs := #[.int .i64 0, .int .i64 0, .string (⟨#[]⟩ : ByteArray)]) (t := 41) ?hr ?_
    (case hd => rfl)
    (case hg => rfl)
    (case hr => first | (go_simp; done) | (go_simp; rfl))
    intro ga hg_ w3_ BA hb
    have Gga : wr.heap.size ≤ ga := by rw [hg_]; exact below_size hHeld.2.2
    have NE : ga ≠ gb := by have := blk_lt BB; omega
    clear hg_
    have n0_ := blk_below BB hb
    clear BB
    have BB := n0_
    clear n0_
    refine hK.out _ _ ⟨(hb.cell (World.block_lt_of_cell? _ _ hHeld.1)).trans hHeld.1, (hb.cell (World.block_lt_of_cell? _ _ hHeld.2.1)).trans hHeld.2.1, below_step hHeld.2.2 hb⟩ (fun hHeld => ?_)
    clear hK K
    refine norm_ (a' := ?_) ?_ ?_
    rotate_left
    ·show Act.put _ (some 3) _ = _
     simp only [Act.put, List.setIfInBounds_toArray, List.set_cons_zero, List.set_cons_succ, i64_w, i32_w]
     rfl
    refine one_ (i := 4) (N := some 12) #[true, true, true, true, true, true, true, true, true, false, true, true, false, false] rfl rfl (by kernel_rfl) (by decide) (fun K hK => ?_)
    refine goes_ Try.func81 (by kernel_rfl) rfl #[.slice Ap ps.length cp, .int .i64 2147483648] (by rfl) rfl rfl (by simp only [List.map_toArray, List.map_cons, List.map_nil]; rfl) ?_
    with_reducible refine (compose_next.calls Ap cp ps 2147483648 x.f0 x.f1 x.f2 _ (Kd.C_below HCP.out.2.2 hHeld.2.2) HCP.out.2.1 HNP.out).mono ?_
    rintro e w3_ ⟨rfl, hb⟩
    refine ⟨_, rfl, ?_⟩
    have n0_ := blk_below BA hb
    clear BA
    have BA := n0_
    clear n0_
    have n0_ := blk_below BB hb
    clear BB
    have BB := n0_
    clear n0_
    refine hK.out _ _ ⟨(hb.cell (World.block_lt_of_cell? _ _ hHeld.1)).trans hHeld.1, (hb.cell (World.block_lt_of_cell? _ _ hHeld.2.1)).trans hHeld.2.1, below_step hHeld.2.2 hb⟩ (fun hHeld => ?_)
    clear hK K
    refine norm_ (a' := ?_) ?_ ?_
    rotate_left
    ·show Act.put _ (some 12) _ = _
     simp only [Act.put, List.setIfInBounds_toArray, List.set_cons_zero, List.set_cons_succ, i64_w, i32_w]
     rfl
    refine one_ (i := 9) (N := some 17) #[true, true, true, true, true, true, true, true, true, true, true, true, false, false] rfl rfl (by kernel_rfl) (by decide) (fun K hK => ?_)
    refine goes_ Try.func81 (by kernel_rfl) rfl #[.slice Aq qs.length cq, .int .i64 2147483648] (by rfl) rfl rfl (by simp only [List.map_toArray, List.map_cons, List.map_nil]; rfl) ?_
    with_reducible refine (compose_next.calls Aq cq qs 2147483648 y.f0 y.f1 y.f2 _ (Kd.C_below HCQ.out.2.2 hHeld.2.2) HCQ.out.2.1 HNQ.out).mono ?_
    rintro e w3_ ⟨rfl, hb⟩
    refine ⟨_, rfl, ?_⟩
    have n0_ := blk_below BA hb
    clear BA
    have BA := n0_
    clear n0_
    have n0_ := blk_below BB hb
    clear BB
    have BB := n0_
    clear n0_
    refine hK.out _ _ ⟨(hb.cell (World.block_lt_of_cell? _ _ hHeld.1)).trans hHeld.1, (hb.cell (World.block_lt_of_cell? _ _ hHeld.2.1)).trans hHeld.2.1, below_step hHeld.2.2 hb⟩ (fun hHeld => ?_)
    clear hK K
    refine norm_ (a' := ?_) ?_ ?_
    rotate_left
    ·show Act.put _ (some 17) _ = _
     simp only [Act.put, List.setIfInBounds_toArray, List.set_cons_zero, List.set_cons_succ, i64_w, i32_w]
     rfl
    exact norm_ (by simp only [putAll, Act.put, List.setIfInBounds_toArray, List.set_cons_zero, List.set_cons_succ]) (hCont (ga, gb) _ ⟨hHeld, BA, BB, NE, Gga, Ggb⟩)
 rintro ⟨ga, gb⟩ w5 ⟨hHeld, BA, BB, NE, GA, GB⟩
 simp only at BA BB NE GA GB ⊢
 have NE' := NE.symm
 have HB5 := Aside0.mk hHeld.2.2
 have a0 : w5.cell? ⟨ga, 0, none⟩ = some (.int .i64 0) := (blk_cell BA 0).trans rfl
 have a1 : w5.cell? ⟨ga, 1, none⟩ = some (.int .i64 0) := (blk_cell BA 1).trans rfl
 have a2 : w5.cell? ⟨ga, 2, none⟩ = some (.string (⟨#[]⟩ : ByteArray)) := (blk_cell BA 2).trans rfl
 have fa0 := blk_frozen BA 0
 have fa1 := blk_frozen BA 1
 have fa2 := blk_frozen BA 2
 refine norm_ (a' := ?_) ?_ ?_
 rotate_left
 ·simp only [putAll, Act.put, List.setIfInBounds_toArray, List.set_cons_zero, List.set_cons_succ]
  rfl
 refine last_ (i := 12) (N := none) #[true, true, true, true, true, true, true, true, true, true, true, true, true, false] rfl rfl (by kernel_rfl) (by decide) (fun K hK => ?_)
 refine skip_ (w1 := ?_) (by rfl) rfl ?_ ?_
 rotate_left
 ·go_simp
  rfl
 have BA1 : (((w5.setCell ⟨ga, 0, none⟩ (.int .i64 x.f0)).setCell ⟨ga, 1, none⟩ (.int .i64 x.f1)).setCell ⟨ga, 2, none⟩ (.string x.f2)).heap[ga]? = some (.cells #[.int .i64 x.f0, .int .i64 x.f1, .string x.f2] 41 (0, 0)) := by simpa using blk_set (blk_set (blk_set BA 0 (.int .i64 x.f0)) 1 (.int .i64 x.f1)) 2 (.string x.f2)
 have BB1 := blk_far (p := ⟨ga, 2, none⟩) (blk_far (p := ⟨ga, 1, none⟩) (blk_far (p := ⟨ga, 0, none⟩) BB NE' (.int .i64 x.f0)) NE' (.int .i64 x.f1)) NE' (.string x.f2)
 have HB6 := Aside0.mk (below_set (j := 2) (v := .string x.f2) (below_set (j := 1) (v := .int .i64 x.f1) (below_set (j := 0) (v := .int .i64 x.f0) HB5.out GA) GA) GA)
 generalize ((w5.setCell ⟨ga, 0, none⟩ (.int .i64 x.f0)).setCell ⟨ga, 1, none⟩ (.int .i64 x.f1)).setCell ⟨ga, 2, none⟩ (.string x.f2) = w6 at BA1 BB1 HB6 ⊢
 clear a0 a1 a2 fa0 fa1 fa2 BA BB HB5
 have b0 : w6.cell? ⟨gb, 0, none⟩ = some (.int .i64 0) := (blk_cell BB1 0).trans rfl
 have b1 : w6.cell? ⟨gb, 1, none⟩ = some (.int .i64 0) := (blk_cell BB1 1).trans rfl
 have b2 : w6.cell? ⟨gb, 2, none⟩ = some (.string (⟨#[]⟩ : ByteArray)) := (blk_cell BB1 2).trans rfl
 have fb0 := blk_frozen BB1 0
 have fb1 := blk_frozen BB1 1
 have fb2 := blk_frozen BB1 2
 refine hK.out _ _ ?_
 clear hK K
 refine last_ (i := 13) (N := none) #[true, true, true, true, true, true, true, true, true, true, true, true, true, true] rfl rfl (by kernel_rfl) (by decide) (fun K hK => ?_)
 refine skip_ (w1 := ?_) (by rfl) rfl ?_ ?_
 rotate_left
 ·go_simp
  rfl
 have BB2 : (((w6.setCell ⟨gb, 0, none⟩ (.int .i64 y.f0)).setCell ⟨gb, 1, none⟩ (.int .i64 y.f1)).setCell ⟨gb, 2, none⟩ (.string y.f2)).heap[gb]? = some (.cells #[.int .i64 y.f0, .int .i64 y.f1, .string y.f2] 41 (0, 0)) := by simpa using blk_set (blk_set (blk_set BB1 0 (.int .i64 y.f0)) 1 (.int .i64 y.f1)) 2 (.string y.f2)
 have BA2 := blk_far (p := ⟨gb, 2, none⟩) (blk_far (p := ⟨gb, 1, none⟩) (blk_far (p := ⟨gb, 0, none⟩) BA1 NE (.int .i64 y.f0)) NE (.int .i64 y.f1)) NE (.string y.f2)
 have HB7 := Aside0.mk (below_set (j := 2) (v := .string y.f2) (below_set (j := 1) (v := .int .i64 y.f1) (below_set (j := 0) (v := .int .i64 y.f0) HB6.out GB) GB) GB)
 generalize ((w6.setCell ⟨gb, 0, none⟩ (.int .i64 y.f0)).setCell ⟨gb, 1, none⟩ (.int .i64 y.f1)).setCell ⟨gb, 2, none⟩ (.string y.f2) = w7 at BA2 BB2 HB7 ⊢
 clear b0 b1 b2 fb0 fb1 fb2 BA1 BB1 HB6
 refine hK.out _ _ ?_
 clear hK K
 refine done_ (by kernel_rfl) ?_
 have HWK := Aside0.mk (And.intro (HW.out.below HB7.out) (And.intro BA2 BB2))
 clear BA2 BB2 HB7 HCP HCQ HG HNP HNQ HW
 have a0 : w7.cell? ⟨ga, 0, none⟩ = some (.int .i64 x.f0) := (blk_cell HWK.out.2.1 0).trans rfl
 have a2 : w7.cell? ⟨ga, 2, none⟩ = some (.string x.f2) := (blk_cell HWK.out.2.1 2).trans rfl
 have b0 : w7.cell? ⟨gb, 0, none⟩ = some (.int .i64 y.f0) := (blk_cell HWK.out.2.2 0).trans rfl
 have b2 : w7.cell? ⟨gb, 2, none⟩ = some (.string y.f2) := (blk_cell HWK.out.2.2 2).trans rfl
 have hsz : ¬ 9223372036854775807 < x.f2.size + y.f2.size := by have := HT.out; omega
 go_upto_region 4 with (fail)
 go_cut [7] (fun s7 wx => s7 = .bool ((x.f0 != 1) && (y.f0 != 1)) ∧ Aside0 (WkW w wx g ps qs op os ∧ wx.heap[ga]? = some (.cells #[.int .i64 x.f0, .int .i64 x.f1, .string x.f2] 41 (0, 0)) ∧ wx.heap[gb]? = some (.cells #[.int .i64 y.f0, .int .i64 y.f1, .string y.f2] 41 (0, 0))))
 case first =>
  by_cases kx : x.f0 = 1
  ·have d1 : (x.f0 != 1) = false := bne_eq_false_iff_eq.mpr kx
   go_wp2
   go_meet
   case rel => exact ⟨by rw [d1]; rfl, HWK⟩
  ·have d1 : (x.f0 != 1) = true := bne_iff_ne.mpr kx
   go_wp2
   go_meet
   case rel => exact ⟨by rw [d1]; rfl, HWK⟩
 case rest =>
  clear a0 a2 b0 b2 HWK
  obtain ⟨rfl, HWK⟩ := hcut
  go_upto_block 0 with (fail)
  go_cut [5, 6, 7] (fun s5 s6 s7 wx => s5 = .int .i64 (lineL x y).2.1 ∧ s6 = .string (lineL x y).1 ∧ Aside0 (noneL x y op = false) ∧ Aside0 (WkW w wx g ps qs op (os ++ [(lineL x y).2.2])))
  case first =>
   have hc2 : wc.cell? ⟨g, 2, none⟩ = some (.bool op) := by
    obtain ⟨_, _, _, _, _, k3, _⟩ := HWK.out.1
    exact (blk_cell k3 2).trans rfl
   have a0 : wc.cell? ⟨ga, 0, none⟩ = some (.int .i64 x.f0) := (blk_cell HWK.out.2.1 0).trans rfl
   have a1 : wc.cell? ⟨ga, 1, none⟩ = some (.int .i64 x.f1) := (blk_cell HWK.out.2.1 1).trans rfl
   have a2 : wc.cell? ⟨ga, 2, none⟩ = some (.string x.f2) := (blk_cell HWK.out.2.1 2).trans rfl
   have b0 : wc.cell? ⟨gb, 0, none⟩ = some (.int .i64 y.f0) := (blk_cell HWK.out.2.2 0).trans rfl
   have b1 : wc.cell? ⟨gb, 1, none⟩ = some (.int .i64 y.f1) := (blk_cell HWK.out.2.2 1).trans rfl
   have b2 : wc.cell? ⟨gb, 2, none⟩ = some (.string y.f2) := (blk_cell HWK.out.2.2 2).trans rfl
   cases op with
   | true =>
    go_wp2
    go_ret
    exact .inl ⟨rfl, rfl, HWK.out.1.1⟩
   | false =>
    by_cases kx : x.f0 = 1
    ·have dx : (x.f0 != 1) = false := bne_eq_false_iff_eq.mpr kx
     by_cases ky : y.f0 = 1
     ·have dy : (y.f0 != 1) = false := bne_eq_false_iff_eq.mpr ky
      have HE := Aside0.mk (show noneL x y false = false ∧ lineL x y = (x.f2 ++ y.f2, min x.f1 y.f1, ⟨⟨1, min x.f1 y.f1, ⟨#[]⟩⟩, 0, false⟩) from ⟨by simp [noneL, kx], by simp [lineL, kx, ky]⟩)
      clear kx ky
      go_wp2_with fail
      refine (wk_put w _ g ps qs false os HWK.out.1 HL.out ⟨1, min x.f1 y.f1, ⟨#[]⟩⟩ 0).mono ?_
      rintro e w8 ⟨⟨r, rfl⟩, hW⟩
      have HR := Aside0.mk hW
      clear hW
      go_wp2
      go_meet
      case rel => exact ⟨by rw [HE.out.2], by rw [HE.out.2], ⟨HE.out.1⟩, ⟨by rw [HE.out.2]; exact HR.out⟩⟩
     ·have dy : (y.f0 != 1) = true := bne_iff_ne.mpr ky
      have HE := Aside0.mk (show noneL x y false = false ∧ lineL x y = (x.f2 ++ y.f2, 1, ⟨y, if y.f0 = 2 then 0 else 2, false⟩) from ⟨by simp [noneL, kx], by simp [lineL, kx, ky]⟩)
      clear kx ky
      go_wp2_with fail
      refine (wk_knows w _ g ps qs false os HWK.out.1 HL.out y 2).mono ?_
      rintro e w8 ⟨⟨r, rfl⟩, hW⟩
      have HR := Aside0.mk hW
      clear hW
      go_wp2
      go_meet
      case rel => exact ⟨by rw [HE.out.2], by rw [HE.out.2], ⟨HE.out.1⟩, ⟨by rw [HE.out.2]; exact HR.out⟩⟩
    ·have dx : (x.f0 != 1) = true := bne_iff_ne.mpr kx
     by_cases ky : y.f0 = 1
     ·have dy : (y.f0 != 1) = false := bne_eq_false_iff_eq.mpr ky
      have HE := Aside0.mk (show noneL x y false = false ∧ lineL x y = (x.f2 ++ y.f2, 1, ⟨x, if x.f0 = 2 then 0 else 1, false⟩) from ⟨by simp [noneL, ky], by simp [lineL, kx, ky]⟩)
      clear kx ky
      go_wp2_with fail
      refine (wk_knows w _ g ps qs false os HWK.out.1 HL.out x 1).mono ?_
      rintro e w8 ⟨⟨r, rfl⟩, hW⟩
      have HR := Aside0.mk hW
      clear hW
      go_wp2
      go_meet
      case rel => exact ⟨by rw [HE.out.2], by rw [HE.out.2], ⟨HE.out.1⟩, ⟨by rw [HE.out.2]; exact HR.out⟩⟩
     ·have dy : (y.f0 != 1) = true := bne_iff_ne.mpr ky
      by_cases kt : x.f2 = y.f2
      ·have dt : (x.f2.toList == y.f2.toList) = true := by rw [kt]; exact beq_self_eq_true _
       by_cases k2 : x.f0 = 2
       ·have dx2 : (x.f0 == 2) = true := beq_iff_eq.mpr k2
        have HE := Aside0.mk (show noneL x y false = false ∧ lineL x y = (x.f2, 1, ⟨y, if y.f0 = 2 then 0 else 2, false⟩) from ⟨by simp [noneL, kt], by simp [lineL, kx, ky, k2]⟩)
        clear kx ky kt k2
        go_wp2_with fail
        refine (wk_knows w _ g ps qs false os HWK.out.1 HL.out y 2).mono ?_
        rintro e w8 ⟨⟨r, rfl⟩, hW⟩
        have HR := Aside0.mk hW
        clear hW
        go_wp2
        go_meet
        case rel => exact ⟨by rw [HE.out.2], by rw [HE.out.2], ⟨HE.out.1⟩, ⟨by rw [HE.out.2]; exact HR.out⟩⟩
       ·have dx2 : (x.f0 == 2) = false := beq_eq_false_iff_ne.mpr k2
        by_cases ky2 : y.f0 = 2
        ·have dy2 : (y.f0 == 2) = true := beq_iff_eq.mpr ky2
         have HE := Aside0.mk (show noneL x y false = false ∧ lineL x y = (x.f2, 1, ⟨x, 1, false⟩) from ⟨by simp [noneL, kt], by simp [lineL, kx, ky, k2, ky2]⟩)
         clear kx ky kt k2 ky2
         go_wp2_with fail
         refine (wk_put w _ g ps qs false os HWK.out.1 HL.out x 1).mono ?_
         rintro e w8 ⟨⟨r, rfl⟩, hW⟩
         have HR := Aside0.mk hW
         clear hW
         go_wp2
         go_meet
         case rel => exact ⟨by rw [HE.out.2], by rw [HE.out.2], ⟨HE.out.1⟩, ⟨by rw [HE.out.2]; exact HR.out⟩⟩
        ·have dy2 : (y.f0 == 2) = false := beq_eq_false_iff_ne.mpr ky2
         have HE := Aside0.mk (show noneL x y false = false ∧ lineL x y = (x.f2, 1, ⟨x, 1, true⟩) from ⟨by simp [noneL, kt], by simp [lineL, kx, ky, k2, ky2]⟩)
         clear kx ky kt k2 ky2
         go_wp2_with fail
         obtain ⟨k1, k2, pv, qv, ov4, k3, k4, k5, k6⟩ := HWK.out.1
         have hb0 : Below wc.heap.size wc wc.drew := below_drew1 (Below.refl _ _)
         have G0 := Aside0.mk (blk_below k3 hb0)
         have GA0 := Aside0.mk (blk_below HWK.out.2.1 hb0)
         have K0 := Aside0.mk (And.intro (below_step k1 hb0) (And.intro (Kd.Q_below k4 hb0) (And.intro (Kd.Q_below k5 hb0) (Kd.R_below k6 hb0))))
         have K2 := Aside0.mk k2
         clear k1 k2 k3 k4 k5 k6 hb0 HWK
         refine start_ (n := 12) (S := fun w' => w'.cell? ⟨g, 3, none⟩ = some ov4 ∧ w'.cell? ⟨ga, 0, none⟩ = some (.int .i64 x.f0) ∧ w'.cell? ⟨ga, 1, none⟩ = some (.int .i64 x.f1) ∧ w'.cell? ⟨ga, 2, none⟩ = some (.string x.f2)) (ds := [8, 11]) #[false, false, false, false, false, false, false, false, false, false, false, false] (by kernel_rfl) rfl rfl ⟨(blk_cell G0.out 3).trans rfl, (blk_cell GA0.out 0).trans rfl, (blk_cell GA0.out 1).trans rfl, (blk_cell GA0.out 2).trans rfl⟩ (fun hHeld => ?_)
         generalize wc.drew = wd_ at hHeld G0 GA0 K0 ⊢
         refine pure_ (i := 0) (N := some 59) (v := ?_) (a' := ?_) #[true, false, false, false, false, false, false, false, false, false, false, false] rfl rfl (by kernel_rfl) (fun _ _ _ h => h) (Or.inl ⟨by rfl, ?_⟩) ?_ ?_
         rotate_left
         ·intro w'
          go_simp
          with_reducible rfl
         rotate_left
         ·simp only [Act.put, List.setIfInBounds_toArray, List.set_cons_zero, List.set_cons_succ, i64_w, i32_w]
          rfl
         refine pure_ (i := 1) (N := some 60) (v := ?_) (a' := ?_) #[true, true, false, false, false, false, false, false, false, false, false, false] rfl rfl (by kernel_rfl) (fun _ _ _ h => h) (Or.inl ⟨by rfl, ?_⟩) ?_ ?_
         rotate_left
         ·intro w'
          go_simp
          with_reducible rfl
         rotate_left
         ·simp only [Act.put, List.setIfInBounds_toArray, List.set_cons_zero, List.set_cons_succ, i64_w, i32_w]
          rfl
         refine pure_ (i := 2) (N := some 61) (v := ?_) (a' := ?_) #[true, true, true, false, false, false, false, false, false, false, false, false] rfl rfl (by kernel_rfl) (fun _ _ _ h => h) (Or.inl ⟨by rfl, ?_⟩) ?_ ?_
         rotate_left
         ·intro w'
          go_simp
          with_reducible rfl
         rotate_left
         ·simp only [Act.put, List.setIfInBounds_toArray, List.set_cons_zero, List.set_cons_succ, i64_w, i32_w]
          rfl
         refine pure_ (i := 3) (N := some 62) (v := ?_) (a' := ?_) #[true, true, true, true, false, false, false, false, false, false, false, false] rfl rfl (by kernel_rfl) (fun _ _ _ h => h) (Or.inl ⟨by rfl, ?_⟩) ?_ ?_
         rotate_left
         ·intro w'
          go_simp
          with_reducible rfl
         rotate_left
         ·simp only [Act.put, List.setIfInBounds_toArray, List.set_cons_zero, List.set_cons_succ, i64_w, i32_w]
          rfl
         refine take_ (i := 4) (N := some 63) (v := ?_) (a' := ?_) #[true, true, true, true, true, false, false, false, false, false, false, false] rfl rfl (by kernel_rfl) (fun _ _ _ h => h) (Or.inl ⟨by rfl, ?_⟩) hHeld ?_ ?_
         rotate_left
         ·rintro w' ⟨s0, s1, s2, s3⟩
          go_simp
          with_reducible rfl
         rotate_left
         ·simp only [Act.put, List.setIfInBounds_toArray, List.set_cons_zero, List.set_cons_succ, i64_w, i32_w]
          rfl
         refine take_ (i := 5) (N := some 64) (v := ?_) (a' := ?_) #[true, true, true, true, true, true, false, false, false, false, false, false] rfl rfl (by kernel_rfl) (fun _ _ _ h => h) (Or.inl ⟨by rfl, ?_⟩) hHeld ?_ ?_
         rotate_left
         ·rintro w' ⟨s0, s1, s2, s3⟩
          go_simp
          with_reducible rfl
         rotate_left
         ·simp only [Act.put, List.setIfInBounds_toArray, List.set_cons_zero, List.set_cons_succ, i64_w, i32_w]
          rfl
         refine pure_ (i := 6) (N := some 65) (v := ?_) (a' := ?_) #[true, true, true, true, true, true, true, false, false, false, false, false] rfl rfl (by kernel_rfl) (fun _ _ _ h => h) (Or.inl ⟨by rfl, ?_⟩) ?_ ?_
         rotate_left
         ·intro w'
          go_simp
          with_reducible rfl
         rotate_left
         ·simp only [Act.put, List.setIfInBounds_toArray, List.set_cons_zero, List.set_cons_succ, i64_w, i32_w]
          rfl
         refine one_ (i := 7) (N := some 66) #[true, true, true, true, true, true, true, true, false, false, false, false] rfl rfl (by kernel_rfl) (by decide) (fun K hK => ?_)
         refine value_ (w1 := ?_) (v := ?_) (by rfl) rfl ?_ ?_
         rotate_left 2
         ·go_simp
          constructor
          ·rfl
          ·rfl
         refine hK.out _ _ ⟨(blk_cell (blk_alloc G0.out _) 3).trans rfl, (blk_cell (blk_alloc GA0.out _) 0).trans rfl, (blk_cell (blk_alloc GA0.out _) 1).trans rfl, (blk_cell (blk_alloc GA0.out _) 2).trans rfl⟩ (fun hHeld => ?_)
         clear hK K
         refine norm_ (a' := ?_) ?_ ?_
         rotate_left
         ·show Act.put _ (some 66) _ = _
          simp only [Act.put, List.setIfInBounds_toArray, List.set_cons_zero, List.set_cons_succ, i64_w, i32_w]
          rfl
         refine last_ (i := 8) (N := some 67) #[true, true, true, true, true, true, true, true, true, false, false, false] rfl rfl (by kernel_rfl) (by decide) (fun K hK => ?_)
         refine Kd.R_append_step kStep (w0 := w) w.heap.size (by rfl) (.tmp 63) (.tmp 66) 51 77 (.agg #[(.int .i64 0), (.int .i64 0), (.string ⟨#[]⟩), (.int .i64 0), (.bool false)]) 48 rfl Try.underlying51 info_Step rfl (by decide) (by omega) ov4 os (⟨x, 1, true⟩ : Step) [.int .i64 x.f0, .int .i64 x.f1, .string x.f2, .int .i64 1, .bool true] (fun _ => True) (fun _ => False) rfl rfl ?aP (fun _ hk => hk.elim) ?aF ?aO ?aB ?aS ?aL ?_
         (case aP => exact kStep_mkM _ _ _ (⟨x, 1, true⟩ : Step))
         (case aB => exact K0.out.1)
         (case aF => exact (fun _ _ => trivial))
         (case aO => exact K0.out.2.2.2)
         (case aS => exact below_size K0.out.1)
         (case aL => have := HL.out; omega)
         intro v1 w1 ho hb hg hat
         obtain ⟨Ao, co, rfl⟩ := Kd.R_slice ho
         have hg2 := blk_grown G0.out hg (Kd.R_ne K0.out.2.2.2 G0.out (by decide))
         have hcs : w1.cell? ⟨g, 3, none⟩ = some ov4 := (blk_cell hg2 3).trans rfl
         have hfs := blk_frozen hg2 3
         have HX := Aside0.mk (And.intro ho (And.intro hb hg2))
         have HQ1 := Aside0.mk (Kd.Q_over' K0.out.2.1 (Kd.R_typed K0.out.2.2.2) (by decide) hg)
         have HQ2 := Aside0.mk (Kd.Q_over' K0.out.2.2.1 (Kd.R_typed K0.out.2.2.2) (by decide) hg)
         clear ho hb hg hat hg2
         refine hK.out _ _ ?_
         clear hK K
         refine norm_ (a' := ?_) ?_ ?_
         rotate_left
         ·show Act.put _ (some 67) _ = _
          simp only [Act.put, List.setIfInBounds_toArray, List.set_cons_zero, List.set_cons_succ, i64_w, i32_w]
          rfl
         refine pure_ (i := 9) (N := some 68) (v := ?_) (a' := ?_) #[true, true, true, true, true, true, true, true, true, true, false, false] rfl rfl (by kernel_rfl) (fun _ _ _ h => h) (Or.inl ⟨by rfl, ?_⟩) ?_ ?_
         rotate_left
         ·intro w'
          go_simp
          with_reducible rfl
         rotate_left
         ·simp only [Act.put, List.setIfInBounds_toArray, List.set_cons_zero, List.set_cons_succ, i64_w, i32_w]
          rfl
         refine pure_ (i := 10) (N := some 69) (v := ?_) (a' := ?_) #[true, true, true, true, true, true, true, true, true, true, true, false] rfl rfl (by kernel_rfl) (fun _ _ _ h => h) (Or.inl ⟨by rfl, ?_⟩) ?_ ?_
         rotate_left
         ·intro w'
          go_simp
          with_reducible rfl
         rotate_left
         ·simp only [Act.put, List.setIfInBounds_toArray, List.set_cons_zero, List.set_cons_succ, i64_w, i32_w]
          rfl
         refine last_ (i := 11) (N := none) #[true, true, true, true, true, true, true, true, true, true, true, true] rfl rfl (by kernel_rfl) (by decide) (fun K hK => ?_)
         refine skip_ (w1 := ?_) (by rfl) rfl ?_ ?_
         rotate_left
         ·go_simp
          rfl
         refine hK.out _ _ ?_
         clear hK K
         refine done_ (by kernel_rfl) ?_
         go_wp2
         go_meet
         case rel =>
          refine ⟨by rw [HE.out.2], by rw [HE.out.2], ⟨HE.out.1⟩, ⟨?_⟩⟩
          rw [HE.out.2]
          refine ⟨below_set HX.out.2.1 K2.out, K2.out, pv, qv, _, (by simpa using blk_set HX.out.2.2 3 _), Kd.Q_set HQ1.out HX.out.2.2 (by decide) 3 _, Kd.Q_set HQ2.out HX.out.2.2 (by decide) 3 _, ?_⟩
          have hr := Kd.R_set HX.out.1 HX.out.2.2 (by decide) 3 (.slice Ao (os ++ [(⟨x, 1, true⟩ : Step)]).length co)
          simp only [List.length_append, List.length_singleton] at hr
          exact hr
      ·have dt : (x.f2.toList == y.f2.toList) = false := beq_eq_false_iff_ne.mpr (fun h => kt (txt_eq h))
       have HE := Aside0.mk (show noneL x y false = true from by simp [noneL, kx, ky, kt])
       clear kx ky kt
       go_wp2
       go_ret
       exact .inl ⟨HE.out, rfl, HWK.out.1.1⟩
  case rest =>
   clear HWK
   obtain ⟨rfl, rfl, HNO, HWK⟩ := hcut
   have hts := lineL_size x y
   obtain ⟨t, ht⟩ : ∃ t, t = (lineL x y).1 := ⟨_, rfl⟩
   obtain ⟨n, hn⟩ : ∃ n, n = (lineL x y).2.1 := ⟨_, rfl⟩
   obtain ⟨st, hst⟩ : ∃ st, st = (lineL x y).2.2 := ⟨_, rfl⟩
   rw [← ht] at hts
   rw [← hst] at HWK
   rw [← ht, ← hn]
   have htz : t.size < 4611686018427387904 := by have := HT.out; omega
   have hno := HNO.out
   have HE := Aside0.mk (And.intro hno (And.intro ht (And.intro hn hst)))
   obtain ⟨k1, k2, pv, qv, ov2, k3, k4, k5, k6⟩ := HWK.out
   clear HNO hno HWK H1 H2 ht hn hst
   have HK := Aside0.mk (And.intro k1 (And.intro k2 (And.intro k4 (And.intro k5 k6))))
   have HG := Aside0.mk k3
   clear k1 k2 k3 k4 k5 k6
   have hc2 : wc.cell? ⟨g, 2, none⟩ = some (.bool op) := (blk_cell HG.out 2).trans rfl
   have hf2 := blk_frozen HG.out 2
   have HTZ := Aside0.mk htz
   clear htz hts
   have HD := Aside0.mk (show ∀ nd : Nat, (wc.drewN nd).cell? ⟨g, 2, none⟩ = some (.bool op) ∧ (wc.drewN nd).frozen? ⟨g, 2, none⟩ = false from fun nd => ⟨(blk_cell (blk_drewN HG.out nd) 2).trans rfl, blk_frozen (blk_drewN HG.out nd) 2⟩)
   have HS := Aside0.mk (show ∀ (nd : Nat) (b : Bool), WkW w ((wc.drewN nd).setCell ⟨g, 2, none⟩ (.bool b)) g ps qs b (os ++ [st]) from fun nd b => ⟨below_set (pw_below_drewN HK.out.1 nd) HK.out.2.1, HK.out.2.1, pv, qv, ov2, (by simpa using blk_set (blk_drewN HG.out nd) 2 (.bool b)), Kd.Q_set (Kd.Q_drewN HK.out.2.2.1 nd) (blk_drewN HG.out nd) (by decide) 2 _, Kd.Q_set (Kd.Q_drewN HK.out.2.2.2.1 nd) (blk_drewN HG.out nd) (by decide) 2 _, Kd.R_set (Kd.R_drewN HK.out.2.2.2.2 nd) (blk_drewN HG.out nd) (by decide) 2 _⟩)
   go_upto_region 20 with (fail)
   go_cut [] (fun wx => Aside0 (WkW w wx g ps qs (decide (t ≠ ⟨#[]⟩) && openT t) (os ++ [st])))
   case first =>
    by_cases ht0 : t.toList = []
    ·have hte : t = ⟨#[]⟩ := by
      cases t with | mk d => have := toList_nil.mp ht0; simpa using this
     have HE0 := Aside0.mk hte
     clear hte
     go_wp2
     go_meet
     case rel => exact ⟨by rw [HE0.out]; exact HS.out 0 false⟩
    ·have HE0 := Aside0.mk (show decide (t ≠ ⟨#[]⟩) = true from decide_eq_true (fun h => ht0 (by rw [h]; exact toList_nil.mpr rfl)))
     have hie : t.toList.isEmpty = false := by
      cases hq : t.toList with
      | nil => exact absurd hq ht0
      | cons _ _ => rfl
     go_wp2_with (first | ((try (refine gate_guard (by rfl) ?_; dsimp only)); go_at_call 80; (with_reducible refine (lines_Closed.calls t (!openT t) _ (closed_val HTZ.out)).mono ?_); rintro e w8 ⟨rfl, hw8⟩; obtain ⟨nd, rfl⟩ := hw8.out; clear hw8; have hc2' := (HD.out nd).1; have hf2' := (HD.out nd).2))
     go_meet
     case rel => exact ⟨by rw [HE0.out, Bool.true_and]; simpa [hie] using HS.out nd (openT t)⟩
   case rest =>
    clear HD HS HK HG hc2 hf2 HTZ
    obtain ⟨k1, k2, pv, qv, ov3, k3, k4, k5, k6⟩ := hcut.out
    obtain ⟨Ap2, cp2, rfl, _⟩ := Kd.Q_slice k4
    obtain ⟨Aq2, cq2, rfl, _⟩ := Kd.Q_slice k5
    have hb0 : Below wc.heap.size wc wc.drew := below_drew1 (Below.refl _ _)
    have G0 := Aside0.mk (blk_below k3 hb0)
    have K0 := Aside0.mk (And.intro (below_step k1 hb0) (And.intro (Kd.Q_below k4 hb0) (And.intro (Kd.Q_below k5 hb0) (Kd.R_below k6 hb0))))
    have K2 := Aside0.mk k2
    clear k1 k2 k3 k4 k5 k6 hb0 hcut
    generalize hop : (decide (t ≠ ⟨#[]⟩) && openT t) = op2 at G0 ⊢
    have HOP := Aside0.mk hop
    clear hop
    go_wp2
    refine start_ (n := 20) (S := fun w' => w'.cell? ⟨g, 0, none⟩ = some (.slice Ap2 ps.length cp2) ∧ w'.cell? ⟨g, 1, none⟩ = some (.slice Aq2 qs.length cq2)) (ds := [16, 19]) #[false, false, false, false, false, false, false, false, false, false, false, false, false, false, false, false, false, false, false, false] (by kernel_rfl) rfl rfl ⟨(blk_cell G0.out 0).trans rfl, (blk_cell G0.out 1).trans rfl⟩ (fun hHeld => ?_)
    generalize wc.drew = wd_ at hHeld G0 K0 ⊢
    refine pure_ (i := 0) (N := some 108) (v := ?_) (a' := ?_) #[true, false, false, false, false, false, false, false, false, false, false, false, false, false, false, false, false, false, false, false] rfl rfl (by kernel_rfl) (fun _ _ _ h => h) (Or.inl ⟨by rfl, ?_⟩) ?_ ?_
    rotate_left
    ·intro w'
     go_simp
     with_reducible rfl
    rotate_left
    ·simp only [Act.put, List.setIfInBounds_toArray, List.set_cons_zero, List.set_cons_succ, i64_w, i32_w]
     rfl
    refine pure_ (i := 1) (N := some 109) (v := ?_) (a' := ?_) #[true, true, false, false, false, false, false, false, false, false, false, false, false, false, false, false, false, false, false, false] rfl rfl (by kernel_rfl) (fun _ _ _ h => h) (Or.inl ⟨by rfl, ?_⟩) ?_ ?_
    rotate_left
    ·intro w'
     go_simp
     with_reducible rfl
    rotate_left
    ·simp only [Act.put, List.setIfInBounds_toArray, List.set_cons_zero, List.set_cons_succ, i64_w, i32_w]
     rfl
    refine pure_ (i := 2) (N := some 110) (v := ?_) (a' := ?_) #[true, true, true, false, false, false, false, false, false, false, false, false, false, false, false, false, false, false, false, false] rfl rfl (by kernel_rfl) (fun _ _ _ h => h) (Or.inl ⟨by rfl, ?_⟩) ?_ ?_
    rotate_left
    ·intro w'
     go_simp
     with_reducible rfl
    rotate_left
    ·simp only [Act.put, List.setIfInBounds_toArray, List.set_cons_zero, List.set_cons_succ, i64_w, i32_w]
     rfl
    refine pure_ (i := 3) (N := some 111) (v := ?_) (a' := ?_) #[true, true, true, true, false, false, false, false, false, false, false, false, false, false, false, false, false, false, false, false] rfl rfl (by kernel_rfl) (fun _ _ _ h => h) (Or.inl ⟨by rfl, ?_⟩) ?_ ?_
    rotate_left
    ·intro w'
     go_simp
     with_reducible rfl
    rotate_left
    ·simp only [Act.put, List.setIfInBounds_toArray, List.set_cons_zero, List.set_cons_succ, i64_w, i32_w]
     rfl
    refine pure_ (i := 4) (N := some 112) (v := ?_) (a' := ?_) #[true, true, true, true, true, false, false, false, false, false, false, false, false, false, false, false, false, false, false, false] rfl rfl (by kernel_rfl) (fun _ _ _ h => h) (Or.inl ⟨by rfl, ?_⟩) ?_ ?_
    rotate_left
    ·intro w'
     go_simp
     with_reducible rfl
    rotate_left
    ·simp only [Act.put, List.setIfInBounds_toArray, List.set_cons_zero, List.set_cons_succ, i64_w, i32_w]
     rfl
    refine pure_ (i := 6) (N := some 114) (v := ?_) (a' := ?_) #[true, true, true, true, true, false, true, false, false, false, false, false, false, false, false, false, false, false, false, false] rfl rfl (by kernel_rfl) (fun _ _ _ h => h) (Or.inl ⟨by rfl, ?_⟩) ?_ ?_
    rotate_left
    ·intro w'
     go_simp
     with_reducible rfl
    rotate_left
    ·simp only [Act.put, List.setIfInBounds_toArray, List.set_cons_zero, List.set_cons_succ, i64_w, i32_w]
     rfl
    refine pure_ (i := 8) (N := some 116) (v := ?_) (a' := ?_) #[true, true, true, true, true, false, true, false, true, false, false, false, false, false, false, false, false, false, false, false] rfl rfl (by kernel_rfl) (fun _ _ _ h => h) (Or.inl ⟨by rfl, ?_⟩) ?_ ?_
    rotate_left
    ·intro w'
     go_simp
     with_reducible rfl
    rotate_left
    ·simp only [Act.put, List.setIfInBounds_toArray, List.set_cons_zero, List.set_cons_succ, i64_w, i32_w]
     rfl
    refine pure_ (i := 9) (N := some 117) (v := ?_) (a' := ?_) #[true, true, true, true, true, false, true, false, true, true, false, false, false, false, false, false, false, false, false, false] rfl rfl (by kernel_rfl) (fun _ _ _ h => h) (Or.inl ⟨by rfl, ?_⟩) ?_ ?_
    rotate_left
    ·intro w'
     go_simp
     with_reducible rfl
    rotate_left
    ·simp only [Act.put, List.setIfInBounds_toArray, List.set_cons_zero, List.set_cons_succ, i64_w, i32_w]
     rfl
    refine pure_ (i := 10) (N := some 118) (v := ?_) (a' := ?_) #[true, true, true, true, true, false, true, false, true, true, true, false, false, false, false, false, false, false, false, false] rfl rfl (by kernel_rfl) (fun _ _ _ h => h) (Or.inl ⟨by rfl, ?_⟩) ?_ ?_
    rotate_left
    ·intro w'
     go_simp
     with_reducible rfl
    rotate_left
    ·simp only [Act.put, List.setIfInBounds_toArray, List.set_cons_zero, List.set_cons_succ, i64_w, i32_w]
     rfl
    refine pure_ (i := 12) (N := some 120) (v := ?_) (a' := ?_) #[true, true, true, true, true, false, true, false, true, true, true, false, true, false, false, false, false, false, false, false] rfl rfl (by kernel_rfl) (fun _ _ _ h => h) (Or.inl ⟨by rfl, ?_⟩) ?_ ?_
    rotate_left
    ·intro w'
     go_simp
     with_reducible rfl
    rotate_left
    ·simp only [Act.put, List.setIfInBounds_toArray, List.set_cons_zero, List.set_cons_succ, i64_w, i32_w]
     rfl
    refine take_ (i := 5) (N := some 113) (v := ?_) (a' := ?_) #[true, true, true, true, true, true, true, false, true, true, true, false, true, false, false, false, false, false, false, false] rfl rfl (by kernel_rfl) (fun _ _ _ h => h) (Or.inl ⟨by rfl, ?_⟩) hHeld ?_ ?_
    rotate_left
    ·rintro w' ⟨s0, s1⟩
     go_simp
     with_reducible rfl
    rotate_left
    ·simp only [Act.put, List.setIfInBounds_toArray, List.set_cons_zero, List.set_cons_succ, i64_w, i32_w]
     rfl
    refine take_ (i := 11) (N := some 119) (v := ?_) (a' := ?_) #[true, true, true, true, true, true, true, false, true, true, true, true, true, false, false, false, false, false, false, false] rfl rfl (by kernel_rfl) (fun _ _ _ h => h) (Or.inl ⟨by rfl, ?_⟩) hHeld ?_ ?_
    rotate_left
    ·rintro w' ⟨s0, s1⟩
     go_simp
     with_reducible rfl
    rotate_left
    ·simp only [Act.put, List.setIfInBounds_toArray, List.set_cons_zero, List.set_cons_succ, i64_w, i32_w]
     rfl
    refine one_ (i := 7) (N := some 115) #[true, true, true, true, true, true, true, true, true, true, true, true, true, false, false, false, false, false, false, false] rfl rfl (by kernel_rfl) (by decide) (fun K hK => ?_)
    refine goes_ Try.func83 (by kernel_rfl) rfl #[.slice Ap2 ps.length cp2, .int .i64 n] (by rfl) rfl rfl (by simp only [List.map_toArray, List.map_cons, List.map_nil]; rfl) ?_
    with_reducible refine (drop_walk w _ K0.out.1 _ _ ps K0.out.2.1 n).mono ?_
    rintro e w3_ ⟨v1, rfl, hb, hgr, hown, hq⟩
    refine ⟨_, rfl, ?_⟩
    have G1 := Aside0.mk (blk_grown G0.out hgr (Kd.Q_ne K0.out.2.1 G0.out (by decide)))
    have K1 := Aside0.mk (And.intro hb (And.intro hq (And.intro (Kd.Q_grown K0.out.2.2.1 hgr (fun _ hk => hk)) (Kd.R_over' K0.out.2.2.2 (Kd.Q_typed K0.out.2.1) (by decide) hgr))))
    have O1 := Aside0.mk hown
    obtain ⟨A1, c1, rfl, _⟩ := Kd.Q_slice hq
    clear hb hgr hown hq K0 G0
    refine hK.out _ _ ⟨(blk_cell G1.out 0).trans rfl, (blk_cell G1.out 1).trans rfl⟩ (fun hHeld => ?_)
    clear hK K
    refine norm_ (a' := ?_) ?_ ?_
    rotate_left
    ·show Act.put _ (some 115) _ = _
     simp only [Act.put, List.setIfInBounds_toArray, List.set_cons_zero, List.set_cons_succ, i64_w, i32_w]
     rfl
    refine one_ (i := 13) (N := some 121) #[true, true, true, true, true, true, true, true, true, true, true, true, true, true, false, false, false, false, false, false] rfl rfl (by kernel_rfl) (by decide) (fun K hK => ?_)
    refine goes_ Try.func83 (by kernel_rfl) rfl #[.slice Aq2 qs.length cq2, .int .i64 n] (by rfl) rfl rfl (by simp only [List.map_toArray, List.map_cons, List.map_nil]; rfl) ?_
    with_reducible refine (drop_walk w _ K1.out.1 _ _ qs K1.out.2.2.1 n).mono ?_
    rintro e w4_ ⟨v2, rfl, hb, hgr, hown, hq⟩
    refine ⟨_, rfl, ?_⟩
    have G2 := Aside0.mk (blk_grown G1.out hgr (Kd.Q_ne K1.out.2.2.1 G1.out (by decide)))
    have K3 := Aside0.mk (And.intro hb (And.intro (Kd.Q_mono (ok' := fun k => some k ≠ v2.ownBlock) (Kd.Q_grown K1.out.2.1 hgr (fun _ hk => hk)) (fun k hk => by rcases hown with h | h <;> rw [h]; exact hk; simp)) (And.intro (Kd.Q_mono (ok' := fun k => some k ≠ (Value.slice A1 (dropL ps n).length c1).ownBlock) hq (fun k hk => by rcases O1.out with h | h <;> rw [h]; exact hk; simp)) (Kd.R_over' K1.out.2.2.2 (Kd.Q_typed K1.out.2.2.1) (by decide) hgr))))
    obtain ⟨A2, c2, rfl, _⟩ := Kd.Q_slice hq
    clear hb hgr hown hq K1 G1 O1
    have x0 : w4_.cell? ⟨g, 0, none⟩ = some (.slice Ap2 ps.length cp2) := (blk_cell G2.out 0).trans rfl
    have xf0 := blk_frozen G2.out 0
    refine hK.out _ _ ⟨(blk_cell G2.out 0).trans rfl, (blk_cell G2.out 1).trans rfl⟩ (fun hHeld => ?_)
    clear hK K
    refine norm_ (a' := ?_) ?_ ?_
    rotate_left
    ·show Act.put _ (some 121) _ = _
     simp only [Act.put, List.setIfInBounds_toArray, List.set_cons_zero, List.set_cons_succ, i64_w, i32_w]
     rfl
    refine pure_ (i := 14) (N := some 122) (v := ?_) (a' := ?_) #[true, true, true, true, true, true, true, true, true, true, true, true, true, true, true, false, false, false, false, false] rfl rfl (by kernel_rfl) (fun _ _ _ h => h) (Or.inl ⟨by rfl, ?_⟩) ?_ ?_
    rotate_left
    ·intro w'
     go_simp
     with_reducible rfl
    rotate_left
    ·simp only [Act.put, List.setIfInBounds_toArray, List.set_cons_zero, List.set_cons_succ, i64_w, i32_w]
     rfl
    refine pure_ (i := 15) (N := some 123) (v := ?_) (a' := ?_) #[true, true, true, true, true, true, true, true, true, true, true, true, true, true, true, true, false, false, false, false] rfl rfl (by kernel_rfl) (fun _ _ _ h => h) (Or.inl ⟨by rfl, ?_⟩) ?_ ?_
    rotate_left
    ·intro w'
     go_simp
     with_reducible rfl
    rotate_left
    ·simp only [Act.put, List.setIfInBounds_toArray, List.set_cons_zero, List.set_cons_succ, i64_w, i32_w]
     rfl
    refine last_ (i := 16) (N := none) #[true, true, true, true, true, true, true, true, true, true, true, true, true, true, true, true, true, false, false, false] rfl rfl (by kernel_rfl) (by decide) (fun K hK => ?_)
    refine skip_ (w1 := ?_) (by rfl) rfl ?_ ?_
    rotate_left
    ·go_simp
     rfl
    have G3 : (w4_.setCell ⟨g, 0, none⟩ (.slice A1 (dropL ps n).length c1)).heap[g]? = some (.cells #[.slice A1 (dropL ps n).length c1, .slice Aq2 qs.length cq2, .bool op2, ov3] 73 (0, 0)) := by simpa using blk_set G2.out 0 (.slice A1 (dropL ps n).length c1)
    have K4 := Aside0.mk (And.intro (below_set (j := 0) (v := .slice A1 (dropL ps n).length c1) K3.out.1 K2.out) (And.intro (Kd.Q_set K3.out.2.1 G2.out (by decide) 0 (.slice A1 (dropL ps n).length c1)) (And.intro (Kd.Q_set K3.out.2.2.1 G2.out (by decide) 0 (.slice A1 (dropL ps n).length c1)) (Kd.R_set K3.out.2.2.2 G2.out (by decide) 0 (.slice A1 (dropL ps n).length c1)))))
    generalize w4_.setCell ⟨g, 0, none⟩ (.slice A1 (dropL ps n).length c1) = w5_ at G3 K4 ⊢
    clear x0 xf0 K3 G2
    have x1 : w5_.cell? ⟨g, 1, none⟩ = some (.slice Aq2 qs.length cq2) := (blk_cell G3 1).trans rfl
    have xf1 := blk_frozen G3 1
    have G3 := Aside0.mk G3
    refine hK.out _ _ ?_
    clear hK K
    refine pure_ (i := 17) (N := some 124) (v := ?_) (a' := ?_) #[true, true, true, true, true, true, true, true, true, true, true, true, true, true, true, true, true, true, false, false] rfl rfl (by kernel_rfl) (fun _ _ _ h => h) (Or.inl ⟨by rfl, ?_⟩) ?_ ?_
    rotate_left
    ·intro w'
     go_simp
     with_reducible rfl
    rotate_left
    ·simp only [Act.put, List.setIfInBounds_toArray, List.set_cons_zero, List.set_cons_succ, i64_w, i32_w]
     rfl
    refine pure_ (i := 18) (N := some 125) (v := ?_) (a' := ?_) #[true, true, true, true, true, true, true, true, true, true, true, true, true, true, true, true, true, true, true, false] rfl rfl (by kernel_rfl) (fun _ _ _ h => h) (Or.inl ⟨by rfl, ?_⟩) ?_ ?_
    rotate_left
    ·intro w'
     go_simp
     with_reducible rfl
    rotate_left
    ·simp only [Act.put, List.setIfInBounds_toArray, List.set_cons_zero, List.set_cons_succ, i64_w, i32_w]
     rfl
    refine last_ (i := 19) (N := none) #[true, true, true, true, true, true, true, true, true, true, true, true, true, true, true, true, true, true, true, true] rfl rfl (by kernel_rfl) (by decide) (fun K hK => ?_)
    refine skip_ (w1 := ?_) (by rfl) rfl ?_ ?_
    rotate_left
    ·go_simp
     rfl
    refine hK.out _ _ ?_
    clear hK K
    refine done_ (by kernel_rfl) ?_
    go_wp2
    go_ret
    refine .inr ⟨HE.out.1, rfl, ?_⟩
    rw [← HE.out.2.1, ← HE.out.2.2.1, ← HE.out.2.2.2, HOP.out]
    exact ⟨below_set K4.out.1 K2.out, K2.out, _, _, _, (by simpa using blk_set G3.out 1 (.slice A2 (dropL qs n).length c2)), Kd.Q_set K4.out.2.1 G3.out (by decide) 1 _, Kd.Q_set K4.out.2.2.1 G3.out (by decide) 1 _, Kd.R_set K4.out.2.2.2 G3.out (by decide) 1 _⟩
end Go.Proofs.Ytfoponahdidddaa.P
