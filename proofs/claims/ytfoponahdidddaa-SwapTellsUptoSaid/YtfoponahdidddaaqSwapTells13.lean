/- Own and printed texts that the theorem of SwapTells reaches, put together. -/
import Derived.Test.YtfoponahdidddaaqSwapTells12
import Derived.Test.YtfoponahdidddaaqSwapTells8
import Derived.Test.YtfoponahdidddaaqSwapTells3
import Derived.Test.YtfoponahdidddaaqSwapTells5
set_option linter.unusedVariables false
set_option linter.unusedSimpArgs false
namespace Go.Proofs.Ytfoponahdidddaa.P
open Go.RowKit Go.Proofs.YtfoponahdidddaaW.PrintWords Go.Proofs.YtfoponahdidddaaW.PrintLast Go.Proofs.YtfoponahdidddaaW.PrintMore
theorem told_loop (s : List Step) : ∀ (p : List Step) (out v : List Op) (b : Bool), (p ++ s).length < 1099511627777 → out.length ≤ p.length → out ++ stepsL s = v → Ev (fun k => ops_Right.f k v) b → Ev (fun k => compose_told.l0 k out (p ++ s) ((p ++ s).length : Int) (p.length : Int)) (v, b) := by
  induction s with
  | nil =>
    intro p out v b hb ho hv h
    have hv : out = v := by rw [← hv]; simp [stepsL]
    subst hv
    refine Ev.step (fun k => rfl) ?_
    simp only [compose_told.l0, lt_end, if_false]
    exact Ev.bind' h (Ev.now _)
  | cons x s ih =>
    intro p out v b hb ho hv h
    have hl := hb
    simp only [List.length_append, List.length_cons] at hl
    have i := fun out h1 h2 => ih (p ++ [x]) out v b (by simpa using hb) h1 h2 h
    rw [List.append_assoc, List.singleton_append] at i
    have w := wrap_len p x (by omega)
    have e : rd_Step (p ++ x :: s) (p.length : Int) = x := getD_mid p s x zStep
    rw [stepsL_cons] at hv
    have c : out.length < 4398046511104 := by omega
    refine Ev.step (fun k => rfl) ?_
    simp only [compose_told.l0, lt_mid, nn_nat, if_true, e, w, if_pos c]
    cases hg : x.f2
    · simp only [Bool.false_eq_true, if_false]
      refine i _ (by simp only [List.length_append, List.length_singleton]; omega) ?_
      rw [← hv, hg]; simp
    · simp only [if_true]
      refine i _ (by simp only [List.length_append, List.length_singleton]; omega) ?_
      rw [← hv, hg]; simp
theorem told_ev {os : List Step} (h : os.length ≤ 1099511627776) (hs : Sm (stepsL os)) : Ev (fun k => compose_told.f k os) (stepsL os, rightL (stepsL os)) :=
  told_loop os [] [] _ _ (by simpa using (by omega : os.length < 1099511627777)) (by simp) (by simp) (right_ev hs)
def opsB (l : List By) : List Op := l.map (·.f0)
theorem opsB_byS (os : List Step) : opsB (byS os) = stepsL os := by
  unfold opsB byS stepsL
  rw [List.map_map]; rfl
theorem refops_loop (s : List By) : ∀ (p : List By), (p ++ s).length < 4398046511104 → Ev (fun k => patchworkref8_ops.l0 k (p ++ s) (opsB p) (p.length : Int)) (opsB (p ++ s)) := by
  induction s with
  | nil =>
    intro p _
    refine Ev.step (fun k => rfl) ?_
    simp only [patchworkref8_ops.l0, lt_end, if_false]
    rw [List.append_nil]
    exact Ev.now _
  | cons x s ih =>
    intro p hb
    have hl := hb
    simp only [List.length_append, List.length_cons] at hl
    have i := ih (p ++ [x]) (by simpa using hb)
    rw [List.append_assoc, List.singleton_append] at i
    have w := wrap_len p x (by omega)
    have e : rd_By (p ++ x :: s) (p.length : Int) = x := getD_mid p s x zBy
    have c : (opsB p).length < 4398046511104 := by unfold opsB; rw [List.length_map]; omega
    have eo : opsB p ++ [(⟨x.f0.f0, x.f0.f1, x.f0.f2⟩ : Op)] = opsB (p ++ [x]) := by simp [opsB]
    refine Ev.step (fun k => rfl) ?_
    simp only [patchworkref8_ops.l0, lt_mid, nn_nat, if_true, e, w, if_pos c, eo]
    exact i
theorem refops_ev {l : List By} (h : l.length < 4398046511104) : Ev (fun k => patchworkref8_ops.f k l) (opsB l) := refops_loop l [] h
theorem byS_len' (os : List Step) : (byS os).length ≤ os.length := by
  unfold byS
  rw [List.length_map]
  exact List.length_filter_le _ _
theorem refwalk_val {p q : List Op} (hp : Sx p) (hq : Sx q) (rp : rightL p = true) (rq : rightL q = true) : patchworkref8_walk.f p q = some (match walkO (p.length + q.length) p q false with | none => ([], false, false) | some os => (byS os, metS os, true)) := by
  have hlen : p.length + q.length ≤ 1099511627776 := by have := hp.1; have := hq.1; omega
  unfold patchworkref8_walk.f
  rw [if_pos (okR_of (rightL_okX rp hp) (rightL_okX rq hq) hlen)]
  cases walkO (p.length + q.length) p q false <;> rfl
theorem thenL_len {p q : List Op} (hp : Sx p) (hq : Sx q) : (thenL p q).1.length ≤ p.length + q.length ∧ ∀ o ∈ (thenL p q).1, o.f2.size < 1073741824 := by
  cases rp : rightL p
  · unfold thenL; simp [rp]
  cases rq : rightL q
  · unfold thenL; simp [rq]
  rcases walk_then hp hq rp rq with ⟨hw, e⟩ | ⟨os, hw, _, g1, g2, he, hf, hsm, hsk, hr, e⟩
  · rw [e]; simp
  · rw [e]
    split
    · refine ⟨?_, ?_⟩
      · have h1 := nf_pack_len (stepsL os) [] hf
        have h2 : (stepsL os).length ≤ os.length := by unfold stepsL; rw [List.length_map]; exact List.length_filter_le _ _
        simp only [List.length_nil] at h1
        show (pack (nf [] (ex (stepsL os)))).length ≤ _
        omega
      · intro o ho
        have ho : o ∈ pack (nf [] (ex (stepsL os))) := ho
        have he0 : ByteArray.empty.size = 0 := rfl
        rcases tx_pack _ o ho with e | ⟨x, hx, e⟩
        · rw [e, he0]; omega
        · rcases nf_mem _ _ _ hx with hx | hx
          · simp at hx
          · rcases tx_ex hx with e2 | ⟨y, hy, e2⟩
            · rw [e, e2, he0]; omega
            · rw [e, e2]
              obtain ⟨s, hs, rfl⟩ := List.mem_map.mp hy
              exact (g1 s (List.mem_filter.mp hs).1).1.2
    · simp
theorem Sx.then {p q : List Op} (hp : Sx p) (hq : Sx q) (h : p.length + q.length ≤ 274877906944) : Sx (thenL p q).1 := by
  obtain ⟨h1, h2⟩ := thenL_len hp hq
  exact ⟨by omega, h2⟩
end Go.Proofs.Ytfoponahdidddaa.P
namespace Go.Proofs.Ytfoponahdidddaa.P
open Go.RowKit Go.Proofs.YtfoponahdidddaaW.PrintWords Go.Proofs.YtfoponahdidddaaW.PrintLast Go.Proofs.YtfoponahdidddaaW.PrintMore
def sideB (b a3 : Int) (l : List By) : List Op := l.flatMap fun s => if s.f1 = 0 ∨ s.f1 = b then [s.f0] else if s.f0.f0 = a3 then [⟨2, s.f0.f1, s.f0.f2⟩] else []
def sideO (b a3 : Int) (l : List Step) : List Op := l.flatMap fun s => if s.f1 = 0 ∨ s.f1 = b then [s.f0] else if s.f0.f0 = a3 then [⟨2, s.f0.f1, s.f0.f2⟩] else []
theorem sideB_cons (b a3 : Int) (s : By) (l : List By) : sideB b a3 (s :: l) = (if s.f1 = 0 ∨ s.f1 = b then [s.f0] else if s.f0.f0 = a3 then [⟨2, s.f0.f1, s.f0.f2⟩] else []) ++ sideB b a3 l := by simp [sideB]
theorem sideO_cons (b a3 : Int) (s : Step) (l : List Step) : sideO b a3 (s :: l) = (if s.f1 = 0 ∨ s.f1 = b then [s.f0] else if s.f0.f0 = a3 then [⟨2, s.f0.f1, s.f0.f2⟩] else []) ++ sideO b a3 l := by simp [sideO]
def touchB : Int → List By → Bool
  | _, [] => false
  | b, s :: l => (decide (s.f1 ≠ 0) && (decide (b ≠ 0) && decide (s.f1 ≠ b))) || touchB s.f1 l
def touchO : Int → List Step → Bool
  | _, [] => false
  | b, s :: l => s.f2 || ((decide (s.f1 ≠ 0) && (decide (b ≠ 0) && decide (s.f1 ≠ b))) || touchO s.f1 l)
theorem byS_cons (s : Step) (l : List Step) : byS (s :: l) = (if s.f2 = true then [] else [⟨s.f0, s.f1⟩]) ++ byS l := by
  cases h : s.f2 <;> simp [byS, h]
theorem touch_met : ∀ (l : List Step) (b : Int), metS l = true → touchO b l = true
  | [], _, h => by simp [metS] at h
  | s :: l, b, h => by
    rw [touchO]
    cases hs : s.f2
    · have : metS l = true := by simpa [metS, hs] using h
      rw [touch_met l _ this]; simp
    · rfl
theorem touch_by : ∀ (l : List Step) (b : Int), metS l = false → touchO b l = touchB b (byS l)
  | [], _, _ => rfl
  | s :: l, b, h => by
    have h1 : s.f2 = false ∧ metS l = false := by simpa [metS] using h
    rw [touchO, byS_cons, h1.1, touch_by l _ h1.2]
    simp [touchB]
theorem side_by : ∀ (l : List Step) (b a3 : Int), metS l = false → sideO b a3 l = sideB b a3 (byS l)
  | [], _, _, _ => rfl
  | s :: l, b, a3, h => by
    have h1 : s.f2 = false ∧ metS l = false := by simpa [metS] using h
    rw [sideO_cons, byS_cons, h1.1, side_by l b a3 h1.2]
    simp [sideB_cons]
theorem sideO_len (b a3 : Int) : ∀ l : List Step, (sideO b a3 l).length ≤ l.length
  | [] => Nat.le_refl _
  | s :: l => by
    rw [sideO_cons, List.length_append]
    have := sideO_len b a3 l
    split
    · simp; omega
    · split
      · simp; omega
      · simp; omega
theorem side_loop (b a3 : Int) (s : List Step) : ∀ (p : List Step) (out : List Op), (p ++ s).length < 1099511627777 → out.length ≤ p.length → Ev (fun k => swap_side.l0 k b a3 out (p ++ s) ((p ++ s).length : Int) (p.length : Int)) (out ++ sideO b a3 s) := by
  induction s with
  | nil =>
    intro p out hb ho
    refine Ev.step (fun k => rfl) ?_
    simp only [swap_side.l0, lt_end, if_false]
    rw [show sideO b a3 [] = [] from rfl, List.append_nil]
    exact Ev.now _
  | cons x s ih =>
    intro p out hb ho
    have hl := hb
    simp only [List.length_append, List.length_cons] at hl
    have i := fun out h1 => ih (p ++ [x]) out (by simpa using hb) h1
    rw [List.append_assoc, List.singleton_append] at i
    have w := wrap_len p x (by omega)
    have e : rd_Step (p ++ x :: s) (p.length : Int) = x := getD_mid p s x zStep
    have c : out.length < 4398046511104 := by omega
    rw [sideO_cons, ← List.append_assoc]
    refine Ev.step (fun k => rfl) ?_
    simp only [swap_side.l0, lt_mid, nn_nat, if_true, e]
    by_cases h0 : x.f1 = 0
    · simp only [if_pos h0, h0, true_or, if_true]
      refine Ev.step (fun k => rfl) ?_
      simp only [swap_side.j1, Bool.false_eq_true, if_false, if_pos c, w]
      exact i _ (by simp only [List.length_append, List.length_singleton]; omega)
    · simp only [if_neg h0]
      by_cases h1 : x.f1 = b
      · have hb2 : (x.f1 != b) = false := bne_eq_false_iff_eq.mpr h1
        have hy : x.f1 = 0 ∨ x.f1 = b := .inr h1
        simp only [hb2, if_pos hy]
        refine Ev.step (fun k => rfl) ?_
        simp only [swap_side.j1, Bool.false_eq_true, if_false, if_pos c, w]
        exact i (out ++ [x.f0]) (by simp only [List.length_append, List.length_singleton]; omega)
      · have hb2 : (x.f1 != b) = true := bne_iff_ne.mpr h1
        have hn : ¬ (x.f1 = 0 ∨ x.f1 = b) := by simp [h0, h1]
        simp only [hb2, if_neg hn]
        refine Ev.step (fun k => rfl) ?_
        simp only [swap_side.j1, if_true]
        by_cases ha : x.f0.f0 = a3
        · simp only [if_pos ha, if_pos c, w]
          exact i _ (by simp only [List.length_append, List.length_singleton]; omega)
        · simp only [if_neg ha, w, List.append_nil]
          exact i _ (by simp only [List.length_append, List.length_singleton]; omega)
theorem side_ev (b a3 : Int) {os : List Step} (h : os.length ≤ 1099511627776) : Ev (fun k => swap_side.f k os b a3) (sideO b a3 os) := by
  have := side_loop b a3 os [] [] (by simpa using (by omega : os.length < 1099511627777)) (by simp)
  rw [List.nil_append, List.nil_append] at this
  exact this
theorem touch_loop (s : List Step) : ∀ (p : List Step) (b : Int), (p ++ s).length < 1099511627777 → Ev (fun k => swap_touch.l0 k b (p ++ s) ((p ++ s).length : Int) (p.length : Int)) (touchO b s) := by
  induction s with
  | nil =>
    intro p b hb
    refine Ev.step (fun k => rfl) ?_
    simp only [swap_touch.l0, lt_end, if_false]
    exact Ev.now _
  | cons x s ih =>
    intro p b hb
    have hl := hb
    simp only [List.length_append, List.length_cons] at hl
    have i := ih (p ++ [x]) x.f1 (by simpa using hb)
    rw [List.append_assoc, List.singleton_append] at i
    have w := wrap_len p x (by omega)
    have e : rd_Step (p ++ x :: s) (p.length : Int) = x := getD_mid p s x zStep
    rw [touchO]
    refine Ev.step (fun k => rfl) ?_
    simp only [swap_touch.l0, lt_mid, nn_nat, if_true, e, w]
    cases hg : x.f2
    · simp only [Bool.false_eq_true, if_false, Bool.false_or]
      by_cases h0 : x.f1 = 0
      · simp only [if_pos h0]
        have : (decide (x.f1 ≠ 0) && (decide (b ≠ 0) && decide (x.f1 ≠ b))) = false := by simp [h0]
        rw [this, Bool.false_or]; exact i
      · simp only [if_neg h0]
        by_cases hb0 : b = 0
        · simp only [if_pos hb0]
          have : (decide (x.f1 ≠ 0) && (decide (b ≠ 0) && decide (x.f1 ≠ b))) = false := by simp [hb0]
          rw [this, Bool.false_or]; exact i
        · simp only [if_neg hb0]
          by_cases h1 : x.f1 = b
          · simp only [if_pos h1]
            have : (decide (x.f1 ≠ 0) && (decide (b ≠ 0) && decide (x.f1 ≠ b))) = false := by simp [h1]
            rw [this, Bool.false_or]; exact i
          · simp only [if_neg h1]
            have : (decide (x.f1 ≠ 0) && (decide (b ≠ 0) && decide (x.f1 ≠ b))) = true := by simp [h0, hb0, h1]
            rw [this]; exact Ev.now _
    · simp only [if_true, Bool.true_or]; exact Ev.now _
theorem touch_ev {os : List Step} (h : os.length ≤ 1099511627776) : Ev (fun k => swap_touch.f k os) (touchO 0 os) := touch_loop os [] 0 (by simpa using (by omega : os.length < 1099511627777))
def swapEnd (x y : List Op) : List Op × List Op × Int := if rightL x = true ∧ rightL y = true then (normL x, normL y, 0) else ([], [], 7)
theorem refswap_loop (s : List By) : ∀ (p : List By) (x y : List Op) (v : List Op × List Op × Int), (p ++ s).length < 1099511627777 → x.length ≤ p.length → y.length ≤ p.length → (∀ c ∈ p ++ s, c.f1 = 0 ∨ c.f1 = 1 ∨ c.f1 = 2) →
    (touchB (match p.getLast? with | none => 0 | some c => c.f1) s = true → v = ([], [], 7)) → (touchB (match p.getLast? with | none => 0 | some c => c.f1) s = false → Ev (fun k => patchworkref8_Swap.l0 k (p ++ s) (x ++ sideB 2 3 s) (y ++ sideB 1 4 s) ((p ++ s).length : Int)) v) →
    Ev (fun k => patchworkref8_Swap.l0 k (p ++ s) x y (p.length : Int)) v := by
  induction s with
  | nil =>
    intro p x y v hb hx hy hc ht hf
    have := hf rfl
    simpa [sideB] using this
  | cons c s ih =>
    intro p x y v hb hx hy hc ht hf
    have hl := hb
    simp only [List.length_append, List.length_cons] at hl
    have e : rd_By (p ++ c :: s) (p.length : Int) = c := getD_mid p s c zBy
    have hcc := hc c (by simp)
    have lastp : (match (p ++ [c]).getLast? with | none => 0 | some c => c.f1) = c.f1 := by simp
    have w := wrap_len p c (by omega)
    have i := fun x y h1 h2 h3 h4 => ih (p ++ [c]) x y v (by simpa using hb) h1 h2 (by simpa using hc) h3 h4
    rw [lastp, List.append_assoc, List.singleton_append] at i
    have cx : x.length < 4398046511104 := by omega
    have cy : y.length < 4398046511104 := by omega
    have cx1 : (x ++ [(⟨c.f0.f0, c.f0.f1, c.f0.f2⟩ : Op)]).length < 4398046511104 := by simp only [List.length_append, List.length_singleton]; omega
    -- what follows where they do not touch here
    have go : (touchB (match p.getLast? with | none => 0 | some c => c.f1) (c :: s) = touchB c.f1 s) →
        Ev (fun k => patchworkref8_Swap.j3 k (p ++ c :: s) x y (p.length : Int) false c.f0.f0 c.f0.f1 c.f0.f2 c.f1) v := by
      intro he
      rw [he] at ht hf
      refine Ev.step (fun k => rfl) ?_
      simp only [patchworkref8_Swap.j3, Bool.false_eq_true, if_false, if_pos cx, if_pos cy, Option.bind_some, w]
      rcases hcc with h | h | h
      · simp only [if_pos h]
        refine i _ _ (by simp; omega) (by simp; omega) ht fun hh => ?_
        have := hf hh
        rw [sideB_cons, sideB_cons] at this
        simpa [h] using this
      · have n0 : ¬ c.f1 = 0 := by omega
        have n2 : ¬ c.f1 = 2 := by omega
        simp only [if_neg n0, if_neg n2]
        by_cases k3 : c.f0.f0 = 3
        · simp only [if_pos k3]
          refine i _ _ (by simp; omega) (by simp; omega) ht fun hh => ?_
          have := hf hh
          rw [sideB_cons, sideB_cons, if_neg (by omega), if_pos k3, if_pos (by omega)] at this
          rw [List.append_assoc, List.append_assoc]
          exact this
        · simp only [if_neg k3]
          refine i _ _ (by simp; omega) (by simp; omega) ht fun hh => ?_
          have := hf hh
          rw [sideB_cons, sideB_cons, if_neg (by omega), if_neg k3, if_pos (by omega)] at this
          rw [List.append_assoc]
          exact this
      · have n0 : ¬ c.f1 = 0 := by omega
        simp only [if_neg n0, if_pos h]
        by_cases k4 : c.f0.f0 = 4
        · simp only [if_pos k4]
          refine i _ _ (by simp; omega) (by simp; omega) ht fun hh => ?_
          have := hf hh
          rw [sideB_cons, sideB_cons, if_pos (by omega), if_neg (by omega), if_pos k4] at this
          rw [List.append_assoc, List.append_assoc]
          exact this
        · simp only [if_neg k4]
          refine i _ _ (by simp; omega) (by simp; omega) ht fun hh => ?_
          have := hf hh
          rw [sideB_cons, sideB_cons, if_pos (by omega), if_neg (by omega), if_neg k4] at this
          rw [List.append_assoc]
          exact this
    refine Ev.step (fun k => rfl) ?_
    simp only [patchworkref8_Swap.l0, lt_mid, nn_nat, if_true, e]
    rcases List.eq_nil_or_concat p with hp | ⟨p', d, hp⟩
    · subst hp
      have c0 : ¬ ((([] : List By).length : Nat) : Int) > 0 := by simp
      simp only [if_neg c0]
      exact go (by simp [touchB])
    · rw [List.concat_eq_append] at hp
      subst hp
      have c0 : (((p' ++ [d]).length : Nat) : Int) > 0 := by simp only [List.length_append, List.length_singleton]; omega
      have lastd : (match (p' ++ [d]).getLast? with | none => 0 | some c => c.f1) = d.f1 := by simp
      simp only [lastd] at ht hf go
      have hd := hc d (by simp)
      simp only [if_pos c0]
      by_cases h0 : c.f1 > 0
      · have w1 : wrap64 (((p' ++ [d]).length : Int) - 1) = (p'.length : Int) := by
          have : ((p' ++ [d]).length : Int) - 1 = (p'.length : Int) := by simp
          rw [this]
          simp only [List.length_append, List.length_singleton] at hl
          exact wrap_small (by omega) (by omega)
        have c1 : (0 : Int) ≤ (p'.length : Int) := by omega
        have c2 : (p'.length : Int) < (((p' ++ [d]) ++ c :: s).length : Int) := by simp only [List.length_append, List.length_singleton, List.length_cons]; omega
        have ed : rd_By ((p' ++ [d]) ++ c :: s) (p'.length : Int) = d := by
          rw [List.append_assoc, List.singleton_append]; exact getD_mid p' (c :: s) d zBy
        simp only [if_pos h0, w1, if_pos c1, if_pos c2, ed]
        by_cases hd0 : d.f1 > 0
        · simp only [if_pos hd0]
          by_cases hne : c.f1 = d.f1
          · have hb2 : (c.f1 != d.f1) = false := bne_eq_false_iff_eq.mpr hne
            rw [hb2]
            exact go (by simp [touchB, hne])
          · have hb2 : (c.f1 != d.f1) = true := bne_iff_ne.mpr hne
            have tt : touchB d.f1 (c :: s) = true := by
              have a1 : c.f1 ≠ 0 := by omega
              have a2 : d.f1 ≠ 0 := by omega
              simp [touchB, a1, a2, hne]
            rw [ht tt, hb2]
            refine Ev.step (fun k => rfl) ?_
            simp only [patchworkref8_Swap.j3, if_true]
            exact Ev.now _
        · have a2 : d.f1 = 0 := by omega
          simp only [if_neg hd0]
          exact go (by simp [touchB, a2])
      · have a1 : c.f1 = 0 := by omega
        simp only [if_neg h0]
        exact go (by simp [touchB, a1])
end Go.Proofs.Ytfoponahdidddaa.P
namespace Go.Proofs.Ytfoponahdidddaa.P
open Go.RowKit Go.Proofs.YtfoponahdidddaaW.PrintWords Go.Proofs.YtfoponahdidddaaW.PrintLast Go.Proofs.YtfoponahdidddaaW.PrintMore
def kindS (s : Step) : Prop := ((s.f0.f0 = 1 ∨ s.f0.f0 = 2) → s.f1 = 0 ∧ s.f2 = false) ∧ (s.f0.f0 = 3 → s.f1 = 1 ∨ s.f1 = 2) ∧ (s.f0.f0 = 4 → s.f1 = 1 ∨ s.f1 = 2)
theorem line_kind {x y : Op} (hx : okOne x = true) (hy : okOne y = true) (x3 : x.f0 ≠ 3) (y4 : y.f0 ≠ 4) : kindS (lineL x y).2.2 := by
  have kx : x.f0 = 1 ∨ x.f0 = 2 ∨ x.f0 = 4 := by
    by_cases h : x.f0 = 1
    · exact .inl h
    · rcases (okOne_ne hx h).1 with h | h | h
      · exact .inr (.inl h)
      · exact absurd h x3
      · exact .inr (.inr h)
  have ky : y.f0 = 1 ∨ y.f0 = 2 ∨ y.f0 = 3 := by
    by_cases h : y.f0 = 1
    · exact .inl h
    · rcases (okOne_ne hy h).1 with h | h | h
      · exact .inr (.inl h)
      · exact .inr (.inr h)
      · exact absurd h y4
  unfold kindS
  rcases kx with kx | kx | kx <;> rcases ky with ky | ky | ky <;> simp [lineL, kx, ky]
theorem walkO_kind : ∀ (n : Nat) (ps qs : List Op) (e : Bool) (os : List Step), okX ps → okX qs → walkO n ps qs e = some os → ∀ s ∈ os, kindS s := by
  intro n
  induction n with
  | zero =>
    intro ps qs e os _ _ h
    obtain rfl : os = [] := (Option.some.inj h).symm
    exact fun s hs => by simp at hs
  | succ n ih =>
    intro ps qs e os hp hq h
    rw [walkO] at h
    have cons : ∀ (s : Step) (os' : List Step), kindS s → (∀ x ∈ os', kindS x) → (∀ x ∈ s :: os', kindS x) := by
      intro s os' hs hr x hx
      rcases List.mem_cons.mp hx with rfl | hx
      · exact hs
      · exact hr x hx
    split at h
    · obtain rfl : os = [] := (Option.some.inj h).symm
      exact fun s hs => by simp at hs
    · rename_i h0
      split at h
      · rename_i hd
        obtain ⟨o, r, rfl, hk⟩ := hdK_iff.mp hd
        obtain ⟨os', h', rfl⟩ := Option.map_eq_some_iff.mp h
        exact cons _ _ ⟨fun h => by exact absurd (show o.f0 = 1 ∨ o.f0 = 2 from h) (by omega), fun _ => .inl rfl, fun _ => .inl rfl⟩ (ih r qs e os' (fun x hx => hp x (List.mem_cons_of_mem _ hx)) hq h')
      · rename_i hd
        split at h
        · rename_i hi
          obtain ⟨o, r, rfl, hk⟩ := hdK_iff.mp hi
          obtain ⟨os', h', rfl⟩ := Option.map_eq_some_iff.mp h
          exact cons _ _ ⟨fun h => by exact absurd (show o.f0 = 1 ∨ o.f0 = 2 from h) (by omega), fun _ => .inr rfl, fun _ => .inr rfl⟩ (ih ps r e os' hp (fun x hx => hq x (List.mem_cons_of_mem _ hx)) h')
        · rename_i hi
          split at h
          · simp at h
          · obtain ⟨os', h', rfl⟩ := Option.map_eq_some_iff.mp h
            obtain ⟨d1, _⟩ := drop_both hp.all hq.all h0
            refine cons _ _ (line_kind (nextL_okX hp).1 (nextL_okX hq).1 ?_ ?_) (ih _ _ _ os' (hp.drop d1) (hq.drop d1) h')
            · intro h3
              cases ps with
              | nil => exact absurd h3 (by decide)
              | cons o r => exact hd (hdK_iff.mpr ⟨o, r, rfl, h3⟩)
            · intro h3
              cases qs with
              | nil => exact absurd h3 (by decide)
              | cons o r => exact hi (hdK_iff.mpr ⟨o, r, rfl, h3⟩)
theorem side_ok {b a3 : Int} {os : List Step} (has : a3 = 3 ∨ a3 = 4) (h : ∀ s ∈ os, goodS s) : ∀ o ∈ sideO b a3 os, okOne o = true ∧ o.f2.size < 1073741824 := by
  intro o ho
  obtain ⟨s, hs, ho⟩ := List.mem_flatMap.mp ho
  have hg := (h s hs).1
  split at ho
  · rw [List.mem_singleton.mp ho]; exact hg
  · split at ho
    · rename_i hk
      rw [List.mem_singleton.mp ho]
      refine ⟨?_, hg.2⟩
      obtain ⟨_, h1, h2⟩ := okOne_ne hg.1 (by omega)
      unfold okOne
      simp [h1, h2]
    · simp at ho
theorem side_skips : ∀ (os : List Step), metS os = false → (∀ s ∈ os, kindS s) → ∀ b a3 : Int, skips (sideO b a3 os) ≤ skips (stepsL os) ∧ (∀ s ∈ os, goodS s → True)
  | [], _, _, _, _ => ⟨Int.le_refl _, fun s hs => by simp at hs⟩
  | s :: os, hm, hk, b, a3 => by
    have h1 : s.f2 = false ∧ metS os = false := by simpa [metS] using hm
    have i := (side_skips os h1.2 (fun x hx => hk x (List.mem_cons_of_mem _ hx)) b a3).1
    refine ⟨?_, fun _ _ _ => trivial⟩
    rw [sideO_cons, stepsL_cons, skips_app, skips_app, h1.1]
    have hks := hk s (List.mem_cons_self ..)
    have key : skips (if s.f1 = 0 ∨ s.f1 = b then [s.f0] else if s.f0.f0 = a3 then [(⟨2, s.f0.f1, s.f0.f2⟩ : Op)] else []) ≤ skips (if false = true then [] else [s.f0]) := by
      simp only [Bool.false_eq_true, if_false]
      split
      · exact Int.le_refl _
      · rename_i hn
        have : s.f0.f0 ≠ 1 := fun h => hn (.inl (hks.1 (.inl h)).1)
        split <;> simp [skips, this]
    omega
def swapS (os : List Step) : List Op × List Op × Int := if rightL (stepsL os) = false then ([], [], 6) else if touchO 0 os = true then ([], [], 7) else swapEnd (sideO 2 3 os) (sideO 1 4 os)
def swapL (p q : List Op) : List Op × List Op × Int := if rightL p = true ∧ rightL q = true then (match walkO (p.length + q.length) p q false with | none => ([], [], 6) | some os => swapS os) else ([], [], 1)
theorem pend_ev {x y : List Op} (hx : Sm x) (hy : Sm y) : Ev (fun k => (ops_Right.f k x).bind fun t206 => if t206 = true then ((ops_Right.f k y).bind fun t207 => swap_Ops.j1 k x y (!t207)) else swap_Ops.j1 k x y true) (swapEnd x y) := by
  have no : Ev (fun k => swap_Ops.j1 k x y true) ([], [], 7) := by
    refine Ev.step (fun k => rfl) ?_
    simp only [swap_Ops.j1, if_true]
    exact Ev.now _
  unfold swapEnd
  refine Ev.bind' (right_ev hx) ?_
  cases rx : rightL x
  · simp only [Bool.false_eq_true, if_false, false_and]; exact no
  simp only [if_true, true_and]
  refine Ev.bind' (right_ev hy) ?_
  cases ry : rightL y
  · simp only [Bool.not_false, Bool.false_eq_true, if_false]; exact no
  simp only [Bool.not_true, if_true]
  refine Ev.step (fun k => rfl) ?_
  simp only [swap_Ops.j1, Bool.false_eq_true, if_false]
  refine Ev.bind' (norm_ev hx) ?_
  refine Ev.bind' (norm_ev hy) ?_
  simp only [rx, ry, if_true]
  exact Ev.now _
theorem sm_side {b a3 : Int} {os : List Step} (has : a3 = 3 ∨ a3 = 4) (h : ∀ s ∈ os, goodS s) (hl : os.length ≤ 1099511627776) : Sm (sideO b a3 os) := by
  refine ⟨by have := sideO_len b a3 os; omega, fun o ho => by have := (side_ok has h o ho).2; omega⟩
theorem walk_val {p q : List Op} (hp : Sx p) (hq : Sx q) (rp : rightL p = true) (rq : rightL q = true) :
    Ev (fun k => compose_Walk.f k p q) (match walkO (p.length + q.length) p q false with | none => ([], false) | some os => if rightL (stepsL os) = true then (os, true) else ([], false)) := by
  have hlen : p.length + q.length ≤ 1099511627776 := by have := hp.1; have := hq.1; omega
  have hW := okW_of (rightL_okX rp hp) (rightL_okX rq hq) hlen
  refine Ev.bind' (right_ev hp.sm) ?_
  simp only [rp, if_true]
  refine Ev.bind' (right_ev hq.sm) ?_
  simp only [rq, if_true, hW]
  rcases walk_then hp hq rp rq with ⟨hw, e⟩ | ⟨os, hw, _, g1, g2, he, hf, hsm, hsk, hr, e⟩
  · simp only [hw]; exact Ev.now _
  · simp only [hw]
    refine Ev.bind' (told_ev (os := os) (by omega) hsm) ?_
    cases rightL (stepsL os)
    · simp only [Bool.false_eq_true, if_false]; exact Ev.now _
    · simp only [if_true]; exact Ev.now _
theorem pswap_ev {p q : List Op} (hp : Sx p) (hq : Sx q) : Ev (fun k => swap_Ops.f k p q) (swapL p q) := by
  have hlen : p.length + q.length ≤ 1099511627776 := by have := hp.1; have := hq.1; omega
  have no : Ev (fun k => swap_Ops.j0 k p q true) ([], [], 1) := by
    refine Ev.step (fun k => rfl) ?_
    simp only [swap_Ops.j0, if_true]
    exact Ev.now _
  unfold swapL
  refine Ev.bind' (right_ev hp.sm) ?_
  cases rp : rightL p
  · simp only [Bool.false_eq_true, if_false, false_and]; exact no
  simp only [if_true, true_and]
  refine Ev.bind' (right_ev hq.sm) ?_
  cases rq : rightL q
  · simp only [Bool.not_false, Bool.false_eq_true, if_false]; exact no
  simp only [Bool.not_true, if_true]
  refine Ev.step (fun k => rfl) ?_
  simp only [swap_Ops.j0, Bool.false_eq_true, if_false]
  refine Ev.bind' (walk_val hp hq rp rq) ?_
  rcases walk_then hp hq rp rq with ⟨hw, e⟩ | ⟨os, hw, _, g1, g2, he, hf, hsm, hsk, hr, e⟩
  · simp only [hw, Bool.false_eq_true, if_false]; exact Ev.now _
  · simp only [hw]
    unfold swapS
    cases rs : rightL (stepsL os)
    · simp only [Bool.false_eq_true, if_false, if_true]; exact Ev.now _
    · simp only [if_true]
      refine Ev.bind' (side_ev 2 3 (os := os) (by omega)) ?_
      refine Ev.bind' (side_ev 1 4 (os := os) (by omega)) ?_
      refine Ev.bind' (touch_ev (os := os) (by omega)) ?_
      cases touchO 0 os
      · simp only [Bool.false_eq_true, if_false]
        exact pend_ev (sm_side (.inl rfl) g1 (by omega)) (sm_side (.inr rfl) g1 (by omega))
      · simp only [if_true]
        refine Ev.step (fun k => rfl) ?_
        simp only [swap_Ops.j1, if_true]
        exact Ev.now _
theorem refend_ev {bs : List By} {x y : List Op} (hx : Sm x) (hy : Sm y) (fx : ∀ o ∈ x, formO o) (fy : ∀ o ∈ y, formO o) (kx : skips x ≤ 1099511627776) (ky : skips y ≤ 1099511627776) :
    Ev (fun k => patchworkref8_Swap.l0 k bs x y (bs.length : Int)) (swapEnd x y) := by
  have c : ¬ ((bs.length : Int) < (bs.length : Int)) := by omega
  refine Ev.step (fun k => rfl) ?_
  simp only [patchworkref8_Swap.l0, if_neg c]
  unfold swapEnd
  refine Ev.bind' (refnorm_ev hx fx kx) ?_
  refine Ev.bind' (refnorm_ev hy fy ky) ?_
  have nx : rightL (normL x) = rightL x := by unfold normL; rw [right_pack, rightU_nf, ← right_iff fx]
  have ny : rightL (normL y) = rightL y := by unfold normL; rw [right_pack, rightU_nf, ← right_iff fy]
  refine Ev.bind' (refright_ev (Sm.norm hx fx)) ?_
  rw [nx]
  cases rightL x
  · simp only [Bool.false_eq_true, if_false, false_and]; exact Ev.now _
  simp only [if_true, true_and]
  refine Ev.bind' (refright_ev (Sm.norm hy fy)) ?_
  rw [ny]
  cases rightL y
  · simp only [Bool.false_eq_true, if_false]; exact Ev.now _
  · simp only [if_true]; exact Ev.now _
theorem refswap_ev {p q : List Op} (hp : Sx p) (hq : Sx q) : Ev (fun k => patchworkref8_Swap.f k p q) (swapL p q) := by
  have hlen : p.length + q.length ≤ 1099511627776 := by have := hp.1; have := hq.1; omega
  have no : Ev (fun k => patchworkref8_Swap.j0 k p q true) ([], [], 1) := by
    refine Ev.step (fun k => rfl) ?_
    simp only [patchworkref8_Swap.j0, if_true]
    exact Ev.now _
  unfold swapL
  refine Ev.bind' (refright_ev hp.sm) ?_
  cases rp : rightL p
  · simp only [Bool.false_eq_true, if_false, false_and]; exact no
  simp only [if_true, true_and]
  refine Ev.bind' (refright_ev hq.sm) ?_
  cases rq : rightL q
  · simp only [Bool.not_false, Bool.false_eq_true, if_false]; exact no
  simp only [Bool.not_true, if_true]
  have hv := refwalk_val hp hq rp rq
  refine Ev.step (fun k => rfl) ?_
  simp only [patchworkref8_Swap.j0, Bool.false_eq_true, if_false]
  rcases walk_then hp hq rp rq with ⟨hw, e⟩ | ⟨os, hw, _, g1, g2, he, hf, hsm, hsk, hr, e⟩
  · rw [hw] at hv ⊢
    refine Ev.bindN hv ?_
    simp only [Bool.false_eq_true, if_false]
    refine Ev.step (fun k => rfl) ?_
    simp only [patchworkref8_Swap.j1, if_true]
    exact Ev.now _
  · rw [hw] at hv ⊢
    refine Ev.bindN hv ?_
    simp only [if_true]
    have hbl := byS_len' os
    refine Ev.bind' (refops_ev (l := byS os) (by omega)) ?_
    rw [opsB_byS]
    refine Ev.bind' (refnorm_ev hsm hf (by omega)) ?_
    have hn : rightL (normL (stepsL os)) = rightL (stepsL os) := by
      unfold normL
      rw [right_pack, rightU_nf, ← right_iff hf]
    refine Ev.bind' (refright_ev (Sm.norm hsm hf)) ?_
    rw [hn]
    show Ev _ (swapS os)
    unfold swapS
    refine Ev.step (fun k => rfl) ?_
    cases rs : rightL (stepsL os)
    · simp only [patchworkref8_Swap.j1, Bool.not_false, if_true]; exact Ev.now _
    · simp only [patchworkref8_Swap.j1, Bool.not_true, Bool.false_eq_true, if_false, Bool.true_eq_false]
      cases hm : metS os
      · simp only [Bool.false_eq_true, if_false]
        rw [touch_by os 0 hm, side_by os 2 3 hm, side_by os 1 4 hm]
        have ks := walkO_kind _ _ _ _ _ (rightL_okX rp hp) (rightL_okX rq hq) hw
        have kx := (side_skips os hm ks 2 3).1
        have ky := (side_skips os hm ks 1 4).1
        have sx := sm_side (b := 2) (.inl rfl) g1 (by omega : os.length ≤ 1099511627776)
        have sy := sm_side (b := 1) (.inr rfl) g1 (by omega : os.length ≤ 1099511627776)
        have fx : ∀ o ∈ sideO 2 3 os, formO o := fun o ho => form_of (side_ok (.inl rfl) g1 o ho).1
        have fy : ∀ o ∈ sideO 1 4 os, formO o := fun o ho => form_of (side_ok (.inr rfl) g1 o ho).1
        rw [side_by os 2 3 hm] at kx sx fx
        rw [side_by os 1 4 hm] at ky sy fy
        refine refswap_loop (byS os) [] [] [] _ (by simp; omega) (by simp) (by simp) ?_ ?_ ?_
        · intro c hc
          simp only [List.nil_append] at hc
          obtain ⟨s, hs, rfl⟩ := List.mem_map.mp hc
          exact (g1 s (List.mem_filter.mp hs).1).2
        · intro ht
          have ht : touchB 0 (byS os) = true := ht
          rw [ht]; rfl
        · intro ht
          have ht : touchB 0 (byS os) = false := ht
          rw [ht]
          simp only [Bool.false_eq_true, if_false, List.nil_append]
          exact refend_ev sx sy fx fy (by omega) (by omega)
      · rw [touch_met os 0 hm]
        simp only [if_true]; exact Ev.now _
end Go.Proofs.Ytfoponahdidddaa.P
namespace Go.Proofs.Ytfoponahdidddaa.P
open Go.RowKit Go.Proofs.YtfoponahdidddaaW.PrintWords Go.Proofs.YtfoponahdidddaaW.PrintLast Go.Proofs.YtfoponahdidddaaW.PrintMore
theorem fst_skips : ∀ (n : Nat) (W : List TU), fstT (List.replicate n ((.skip, 0) : TU) ++ W) = List.replicate n .skip ++ fstT W
  | 0, W => by simp
  | n + 1, W => by rw [List.replicate_succ, List.cons_append, fstT, fst_skips n W]; rfl
theorem snd_skips : ∀ (n : Nat) (W : List TU), sndT (List.replicate n ((.skip, 0) : TU) ++ W) = List.replicate n .skip ++ sndT W
  | 0, W => by simp
  | n + 1, W => by rw [List.replicate_succ, List.cons_append, sndT, snd_skips n W]; rfl
theorem touch_skips : ∀ (n : Nat) (b : Int) (W : List TU), touchT b (List.replicate (n + 1) ((.skip, 0) : TU) ++ W) = touchT 0 W
  | 0, b, W => by rw [List.replicate_succ, List.cons_append, touchT]; simp
  | n + 1, b, W => by
    rw [List.replicate_succ, List.cons_append, touchT]
    show (_ || touchT 0 (List.replicate (n + 1) ((.skip, 0) : TU) ++ W)) = _
    rw [touch_skips n 0 W]; simp
theorem step_lines {s : Step} (h : goodS s) (hk : kindS s) (h2 : s.f2 = false) :
    (s.f0.f0 = 1 ∧ s.f1 = 0 ∧ ∃ n, exO s.f0 = List.replicate (n + 1) .skip) ∨ (s.f0.f0 = 2 ∧ s.f1 = 0 ∧ exO s.f0 = [.keep s.f0.f2]) ∨ (s.f0.f0 = 3 ∧ (s.f1 = 1 ∨ s.f1 = 2) ∧ exO s.f0 = [.del s.f0.f2]) ∨ (s.f0.f0 = 4 ∧ (s.f1 = 1 ∨ s.f1 = 2) ∧ exO s.f0 = [.ins s.f0.f2]) := by
  have ho := h.1.1
  by_cases h1 : s.f0.f0 = 1
  · obtain ⟨a, b, c⟩ := okOne_skip ho h1
    refine .inl ⟨h1, (hk.1 (.inl h1)).1, (s.f0.f1 - 1).toNat, ?_⟩
    rw [exO_skip h1]
    congr 1; omega
  · rcases (okOne_ne ho h1).1 with e | e | e
    · exact .inr (.inl ⟨e, (hk.1 (.inr e)).1, by simp [exO, e]⟩)
    · exact .inr (.inr (.inl ⟨e, hk.2.1 e, by simp [exO, e]⟩))
    · exact .inr (.inr (.inr ⟨e, hk.2.2 e, by simp [exO, e]⟩))
theorem met_cons {s : Step} {os : List Step} : metS (s :: os) = false ↔ s.f2 = false ∧ metS os = false := by
  simp [metS]
theorem sides_ex : ∀ (os : List Step), metS os = false → (∀ s ∈ os, goodS s) → (∀ s ∈ os, kindS s) →
    ex (sideO 2 3 os) = fstT (exS os) ∧ ex (sideO 1 4 os) = sndT (exS os) ∧ ∀ b, touchO b os = touchT b (exS os)
  | [], _, _, _ => ⟨rfl, rfl, fun _ => rfl⟩
  | s :: os, hm, hg, hk => by
    obtain ⟨h2, hm'⟩ := met_cons.mp hm
    obtain ⟨i1, i2, i3⟩ := sides_ex os hm' (fun x hx => hg x (List.mem_cons_of_mem _ hx)) (fun x hx => hk x (List.mem_cons_of_mem _ hx))
    have e : exS (s :: os) = (exO s.f0).map (fun u => ((u, s.f1) : TU)) ++ exS os := by
      rw [exS_cons, h2]; simp
    rw [sideO_cons, sideO_cons, ex_app, ex_app, i1, i2, e]
    have t : ∀ b, touchO b (s :: os) = ((decide (s.f1 ≠ 0) && (decide (b ≠ 0) && decide (s.f1 ≠ b))) || touchT s.f1 (exS os)) := by
      intro b
      rw [touchO, h2, i3]; rfl
    rcases step_lines (hg s (List.mem_cons_self ..)) (hk s (List.mem_cons_self ..)) h2 with ⟨k, f, n, x⟩ | ⟨k, f, x⟩ | ⟨k, f, x⟩ | ⟨k, f, x⟩
    · have hmap : (List.replicate (n + 1) U.skip).map (fun u => ((u, s.f1) : TU)) = List.replicate (n + 1) ((.skip, 0) : TU) := by rw [List.map_replicate, f]
      rw [if_pos (.inl f), if_pos (.inl f), x, hmap, fst_skips, snd_skips]
      refine ⟨by simp [ex, x], by simp [ex, x], fun b => ?_⟩
      rw [t b, touch_skips, f]; simp
    · rw [if_pos (.inl f), if_pos (.inl f), x]
      refine ⟨by simp [ex, x, f, fstT], by simp [ex, x, f, sndT], fun b => ?_⟩
      rw [t b]; rfl
    · rw [x]
      rcases f with f | f
      · rw [if_neg (by omega), if_pos k, if_pos (.inr f)]
        refine ⟨?_, ?_, fun b => ?_⟩
        · show ex [⟨2, s.f0.f1, s.f0.f2⟩] ++ fstT (exS os) = fstT ((.del s.f0.f2, s.f1) :: exS os)
          rw [f, fst_d1]; simp [ex, exO]
        · show ex [s.f0] ++ sndT (exS os) = sndT ((.del s.f0.f2, s.f1) :: exS os)
          rw [f, snd_d1]; simp [ex, x]
        · rw [t b]; rfl
      · rw [if_pos (.inr f), if_neg (by omega), if_neg (by omega)]
        refine ⟨?_, ?_, fun b => ?_⟩
        · show ex [s.f0] ++ fstT (exS os) = fstT ((.del s.f0.f2, s.f1) :: exS os)
          rw [f, fst_d2]; simp [ex, x]
        · show ex [] ++ sndT (exS os) = sndT ((.del s.f0.f2, s.f1) :: exS os)
          rw [f, snd_d2]; rfl
        · rw [t b]; rfl
    · rw [x]
      rcases f with f | f
      · rw [if_neg (by omega), if_neg (by omega), if_pos (.inr f)]
        refine ⟨?_, ?_, fun b => ?_⟩
        · show ex [] ++ fstT (exS os) = fstT ((.ins s.f0.f2, s.f1) :: exS os)
          rw [f, fst_i1]; rfl
        · show ex [s.f0] ++ sndT (exS os) = sndT ((.ins s.f0.f2, s.f1) :: exS os)
          rw [f, snd_i1]; simp [ex, x]
        · rw [t b]; rfl
      · rw [if_pos (.inr f), if_neg (by omega), if_pos k]
        refine ⟨?_, ?_, fun b => ?_⟩
        · show ex [s.f0] ++ fstT (exS os) = fstT ((.ins s.f0.f2, s.f1) :: exS os)
          rw [f, fst_i2]; simp [ex, x]
        · show ex [⟨2, s.f0.f1, s.f0.f2⟩] ++ sndT (exS os) = sndT ((.ins s.f0.f2, s.f1) :: exS os)
          rw [f, snd_i2]; simp [ex, exO]
        · rw [t b]; rfl
theorem met_no3 : ∀ (os : List Step), (∀ s ∈ os, goodS s) → (no3 (exS os) ↔ metS os = false)
  | [], _ => ⟨fun _ => rfl, fun _ x hx => by simp [exS] at hx⟩
  | s :: os, hg => by
    have i := met_no3 os fun x hx => hg x (List.mem_cons_of_mem _ hx)
    have h1 := hg s (List.mem_cons_self ..)
    have hne : exO s.f0 ≠ [] := by
      by_cases hk : s.f0.f0 = 1
      · rw [exO_skip hk, replicate_toNat (okOne_skip h1.1.1 hk).1]; simp
      · rw [exO_ne hk]; simp
    rw [met_cons, exS_cons]
    constructor
    · intro h
      refine ⟨?_, i.mp fun x hx => h x (List.mem_append_right _ hx)⟩
      cases h2 : s.f2
      · rfl
      · exfalso
        rw [h2] at h
        cases hx : exO s.f0 with
        | nil => exact hne hx
        | cons u r => exact h (u, 3) (by rw [hx]; simp) rfl
    · rintro ⟨h2, h3⟩ x hx
      rcases List.mem_append.mp hx with hx | hx
      · obtain ⟨u, _, rfl⟩ := List.mem_map.mp hx
        rw [h2]
        show s.f1 ≠ 3
        have := h1.2
        omega
      · exact i.mpr h3 x hx
theorem swap_val {p q : List Op} (hp : Sx p) (hq : Sx q) (rp : rightL p = true) (rq : rightL q = true) {W : List TU} (hW : cmpT (ex p) false (ex q) = some W) :
    (rightU (un W) = false → swapL p q = ([], [], 6)) ∧ (rightU (un W) = true → (¬ no3 W → swapL p q = ([], [], 7)) ∧ (no3 W → (touchT 0 W = true → swapL p q = ([], [], 7)) ∧
      (touchT 0 W = false → swapL p q = if rightU (fstT W) = true ∧ rightU (sndT W) = true then (pack (nf [] (fstT W)), pack (nf [] (sndT W)), 0) else ([], [], 7)))) := by
  unfold swapL
  rw [if_pos ⟨rp, rq⟩]
  rcases walk_then hp hq rp rq with ⟨hw, _⟩ | ⟨os, hw, hc, g1, g2, he, hf, hsm, hsk, hr, _⟩
  · exfalso
    have hc := walkO_cmp (p.length + q.length) p q false (Nat.le_refl _) (rightL_okX rp hp).all (rightL_okX rq hq).all
    rw [hw, hW] at hc
    simp at hc
  · rw [hW] at hc
    obtain rfl := Option.some.inj hc
    have ks := walkO_kind _ _ _ _ _ (rightL_okX rp hp) (rightL_okX rq hq) hw
    simp only [hw]
    unfold swapS
    rw [hr]
    refine ⟨fun h => by rw [if_pos h], fun h => ?_⟩
    rw [if_neg (by rw [h]; simp)]
    refine ⟨fun h3 => ?_, fun h3 => ?_⟩
    · have : metS os = true := by
        cases hm : metS os
        · exact absurd ((met_no3 os g1).mpr hm) h3
        · rfl
      rw [if_pos (touch_met os 0 this)]
    · have hm := (met_no3 os g1).mp h3
      obtain ⟨s1, s2, s3⟩ := sides_ex os hm g1 ks
      rw [s3 0]
      refine ⟨fun ht => by rw [if_pos ht], fun ht => ?_⟩
      rw [if_neg (by rw [ht]; simp)]
      unfold swapEnd
      have f1 : ∀ o ∈ sideO 2 3 os, formO o := fun o ho => form_of (side_ok (.inl rfl) g1 o ho).1
      have f2 : ∀ o ∈ sideO 1 4 os, formO o := fun o ho => form_of (side_ok (.inr rfl) g1 o ho).1
      rw [right_iff f1, right_iff f2]
      unfold normL
      rw [s1, s2]
theorem swap_none {p q : List Op} (hp : Sx p) (hq : Sx q) (rp : rightL p = true) (rq : rightL q = true) (hW : cmpT (ex p) false (ex q) = none) : swapL p q = ([], [], 6) := by
  unfold swapL
  rw [if_pos ⟨rp, rq⟩]
  rcases walk_then hp hq rp rq with ⟨hw, _⟩ | ⟨os, hw, hc, _⟩
  · simp only [hw]
  · rw [hW] at hc; simp at hc
theorem swap_told {p q : List Op} (hp : Sx p) (hq : Sx q) (h : (swapL p q).2.2 = 0) : ∃ W, rightL p = true ∧ rightL q = true ∧ cmpT (ex p) false (ex q) = some W ∧ no3 W ∧ touchT 0 W = false ∧ rightU (un W) = true ∧ rightU (fstT W) = true ∧ rightU (sndT W) = true ∧
    swapL p q = (pack (nf [] (fstT W)), pack (nf [] (sndT W)), 0) := by
  by_cases hr : rightL p = true ∧ rightL q = true
  · obtain ⟨rp, rq⟩ := hr
    cases hW : cmpT (ex p) false (ex q) with
    | none => rw [swap_none hp hq rp rq hW] at h; simp at h
    | some W =>
      obtain ⟨v1, v2⟩ := swap_val hp hq rp rq hW
      cases ru : rightU (un W)
      · rw [v1 ru] at h; simp at h
      · obtain ⟨v3, v4⟩ := v2 ru
        by_cases h3 : no3 W
        · obtain ⟨v5, v6⟩ := v4 h3
          cases ht : touchT 0 W
          · have v := v6 ht
            by_cases hs : rightU (fstT W) = true ∧ rightU (sndT W) = true
            · rw [if_pos hs] at v
              exact ⟨W, rp, rq, rfl, h3, ht, ru, hs.1, hs.2, v⟩
            · rw [if_neg hs] at v
              rw [v] at h; simp at h
          · rw [v5 ht] at h; simp at h
        · rw [v3 h3] at h; simp at h
  · unfold swapL at h
    rw [if_neg hr] at h; simp at h
theorem swap_not {p q : List Op} (h : (swapL p q).2.2 ≠ 0) : (swapL p q).1 = [] ∧ (swapL p q).2.1 = [] := by
  unfold swapL at h ⊢
  split
  · rename_i c
    rw [if_pos c] at h
    cases hw : walkO (p.length + q.length) p q false with
    | none => exact ⟨rfl, rfl⟩
    | some os =>
      rw [hw] at h
      simp only at h ⊢
      unfold swapS at h ⊢
      split
      · exact ⟨rfl, rfl⟩
      · rename_i c1
        rw [if_neg c1] at h
        split
        · exact ⟨rfl, rfl⟩
        · rename_i c2
          rw [if_neg c2] at h
          unfold swapEnd at h ⊢
          split
          · rename_i c3
            rw [if_pos c3] at h
            exact absurd rfl h
          · exact ⟨rfl, rfl⟩
  · exact ⟨rfl, rfl⟩
theorem norm_small {l : List Op} {B : Nat} (hB : 0 < B) (h : ∀ o ∈ l, o.f2.size < B) : ∀ o ∈ normL l, o.f2.size < B := by
  intro o ho
  have he : ByteArray.empty.size = 0 := rfl
  rcases tx_pack _ o ho with e | ⟨x, hx, e⟩
  · rw [e, he]; exact hB
  · rcases nf_mem _ _ x hx with hx | hx
    · simp at hx
    · rcases tx_ex hx with e2 | ⟨y, hy, e2⟩
      · rw [e, e2, he]; exact hB
      · rw [e, e2]; exact h y hy
theorem norm_len {l : List Op} (h : ∀ o ∈ l, formO o) : (normL l).length ≤ l.length := by
  have := nf_pack_len l [] h
  simpa [normL] using this
theorem swap_len {p q : List Op} (hp : Sx p) (hq : Sx q) : ((swapL p q).1.length ≤ p.length + q.length ∧ ∀ o ∈ (swapL p q).1, o.f2.size < 1073741824) ∧ ((swapL p q).2.1.length ≤ p.length + q.length ∧ ∀ o ∈ (swapL p q).2.1, o.f2.size < 1073741824) := by
  by_cases h : (swapL p q).2.2 = 0
  · obtain ⟨W, rp, rq, hW, h3, ht, r1, r2, r3, e⟩ := swap_told hp hq h
    rcases walk_then hp hq rp rq with ⟨hw, _⟩ | ⟨os, hw, hc, g1, g2, he, hf, hsm, hsk, hr, _⟩
    · exfalso
      have hc := walkO_cmp (p.length + q.length) p q false (Nat.le_refl _) (rightL_okX rp hp).all (rightL_okX rq hq).all
      rw [hw, hW] at hc
      simp at hc
    · rw [hW] at hc
      obtain rfl := Option.some.inj hc
      have ks := walkO_kind _ _ _ _ _ (rightL_okX rp hp) (rightL_okX rq hq) hw
      obtain ⟨s1, s2, s3⟩ := sides_ex os ((met_no3 os g1).mp h3) g1 ks
      rw [e, ← s1, ← s2]
      have k1 := side_ok (b := 2) (a3 := 3) (.inl rfl) g1
      have k2 := side_ok (b := 1) (a3 := 4) (.inr rfl) g1
      have l1 := sideO_len 2 3 os
      have l2 := sideO_len 1 4 os
      have n1 := norm_len (l := sideO 2 3 os) fun o ho => form_of (k1 o ho).1
      have n2 := norm_len (l := sideO 1 4 os) fun o ho => form_of (k2 o ho).1
      exact ⟨⟨by show (normL _).length ≤ _; omega, norm_small (by omega) fun o ho => (k1 o ho).2⟩, by show (normL _).length ≤ _; omega, norm_small (by omega) fun o ho => (k2 o ho).2⟩
  · obtain ⟨a, b⟩ := swap_not h
    rw [a, b]
    exact ⟨⟨by simp, by simp⟩, by simp, by simp⟩
theorem num_val (x : Int) : patchworklaw15_num.f x = some x := rfl
theorem alive15 : Ev (fun k => patchworklaw15_alive.f k) true := by
  have s0 : Sx [] := ⟨by simp, by simp⟩
  have s1 : Sx [(⟨4, 0, ⟨#[97, 10]⟩⟩ : Op)] := ⟨by simp, fun o ho => by rw [List.mem_singleton.mp ho]; exact (by decide : (2 : Nat) < 1073741824)⟩
  have s2 : Sx [(⟨1, 3, ⟨#[]⟩⟩ : Op), ⟨4, 0, ⟨#[98, 10]⟩⟩] := ⟨by simp, fun o ho => by
    rcases List.mem_cons.mp ho with rfl | ho
    · exact (by decide : (0 : Nat) < 1073741824)
    · rw [List.mem_singleton.mp ho]; exact (by decide : (2 : Nat) < 1073741824)⟩
  have e0 : swapL [] [] = ([], [], 0) := by decide +kernel
  have e1 : swapL [(⟨4, 0, ⟨#[97, 10]⟩⟩ : Op)] [(⟨1, 3, ⟨#[]⟩⟩ : Op), ⟨4, 0, ⟨#[98, 10]⟩⟩] = ([⟨1, 2, ⟨#[]⟩⟩, ⟨4, 0, ⟨#[98, 10]⟩⟩], [⟨4, 0, ⟨#[97, 10]⟩⟩, ⟨1, 2, ⟨#[]⟩⟩, ⟨2, 0, ⟨#[98, 10]⟩⟩], 0) := by decide +kernel
  have a0 := pswap_ev s0 s0
  have a1 := pswap_ev s1 s2
  rw [e0] at a0
  rw [e1] at a1
  unfold patchworklaw15_alive.f
  refine Ev.bind' a0 ?_
  refine Ev.bind' a1 ?_
  exact Ev.now _
end Go.Proofs.Ytfoponahdidddaa.P
