/- Own: two in the other order, told by the program and by the reference. -/
import Derived.Test.YtfoponahdidddaaEc
import Derived.Test.YtfoponahdidddaaTa
namespace Go.Proofs.Ytfoponahdidddaa.P
open Go.RowKit Go.Proofs.YtfoponahdidddaaW.PrintWords Go.Proofs.YtfoponahdidddaaW.PrintLast Go.Proofs.YtfoponahdidddaaW.PrintMore
set_option linter.unusedSimpArgs false
set_option linter.unusedVariables false

/-- One's steps, where the other one stands on the other side. -/
def sideB (b a3 : Int) (l : List By) : List Op := l.flatMap fun s => if s.f1 = 0 ∨ s.f1 = b then [s.f0] else if s.f0.f0 = a3 then [⟨2, s.f0.f1, s.f0.f2⟩] else []
def sideO (b a3 : Int) (l : List Step) : List Op := l.flatMap fun s => if s.f1 = 0 ∨ s.f1 = b then [s.f0] else if s.f0.f0 = a3 then [⟨2, s.f0.f1, s.f0.f2⟩] else []
theorem sideB_cons (b a3 : Int) (s : By) (l : List By) : sideB b a3 (s :: l) = (if s.f1 = 0 ∨ s.f1 = b then [s.f0] else if s.f0.f0 = a3 then [⟨2, s.f0.f1, s.f0.f2⟩] else []) ++ sideB b a3 l := by simp [sideB]
theorem sideO_cons (b a3 : Int) (s : Step) (l : List Step) : sideO b a3 (s :: l) = (if s.f1 = 0 ∨ s.f1 = b then [s.f0] else if s.f0.f0 = a3 then [⟨2, s.f0.f1, s.f0.f2⟩] else []) ++ sideO b a3 l := by simp [sideO]
theorem sideB_app (b a3 : Int) (p q : List By) : sideB b a3 (p ++ q) = sideB b a3 p ++ sideB b a3 q := by simp [sideB]
/-- Can they not change places? -/
def touchB : Int → List By → Bool
  | _, [] => false
  | b, s :: l => (decide (s.f1 ≠ 0) && (decide (b ≠ 0) && decide (s.f1 ≠ b))) || touchB s.f1 l
def touchO : Int → List Step → Bool
  | _, [] => false
  | b, s :: l => s.f2 || ((decide (s.f1 ≠ 0) && (decide (b ≠ 0) && decide (s.f1 ≠ b))) || touchO s.f1 l)
theorem byS_cons (s : Step) (l : List Step) : byS (s :: l) = (if s.f2 = true then [] else [⟨s.f0, s.f1⟩]) ++ byS l := by
  cases h : s.f2 <;> simp [byS, h]
theorem touch_met : ∀ (l : List Step) (b : Int), metS l = true → touchO b l = true
  | [], _, h => by simp [metS] at h
  | s :: l, b, h => by
    rw [touchO]
    cases hs : s.f2
    · have : metS l = true := by simpa [metS, hs] using h
      rw [touch_met l _ this]; simp
    · rfl
theorem touch_by : ∀ (l : List Step) (b : Int), metS l = false → touchO b l = touchB b (byS l)
  | [], _, _ => rfl
  | s :: l, b, h => by
    have h1 : s.f2 = false ∧ metS l = false := by simpa [metS] using h
    rw [touchO, byS_cons, h1.1, touch_by l _ h1.2]
    simp [touchB]
theorem side_by : ∀ (l : List Step) (b a3 : Int), metS l = false → sideO b a3 l = sideB b a3 (byS l)
  | [], _, _, _ => rfl
  | s :: l, b, a3, h => by
    have h1 : s.f2 = false ∧ metS l = false := by simpa [metS] using h
    rw [sideO_cons, byS_cons, h1.1, side_by l b a3 h1.2]
    simp [sideB_cons]
theorem sideO_len (b a3 : Int) : ∀ l : List Step, (sideO b a3 l).length ≤ l.length
  | [] => Nat.le_refl _
  | s :: l => by
    rw [sideO_cons, List.length_append]
    have := sideO_len b a3 l
    split
    · simp; omega
    · split
      · simp; omega
      · simp; omega
theorem sideB_len (b a3 : Int) : ∀ l : List By, (sideB b a3 l).length ≤ l.length
  | [] => Nat.le_refl _
  | s :: l => by
    rw [sideB_cons, List.length_append]
    have := sideB_len b a3 l
    split
    · simp; omega
    · split
      · simp; omega
      · simp; omega
/-- The program. -/
theorem side_loop (b a3 : Int) (s : List Step) : ∀ (p : List Step) (out : List Op), (p ++ s).length < 1099511627777 → out.length ≤ p.length → Ev (fun k => swap_side.l0 k b a3 out (p ++ s) ((p ++ s).length : Int) (p.length : Int)) (out ++ sideO b a3 s) := by
  induction s with
  | nil =>
    intro p out hb ho
    refine Ev.step (fun k => rfl) ?_
    simp only [swap_side.l0, lt_end, if_false]
    rw [show sideO b a3 [] = [] from rfl, List.append_nil]
    exact Ev.now _
  | cons x s ih =>
    intro p out hb ho
    have hl := hb
    simp only [List.length_append, List.length_cons] at hl
    have i := fun out h1 => ih (p ++ [x]) out (by simpa using hb) h1
    rw [List.append_assoc, List.singleton_append] at i
    have w := wrap_len p x (by omega)
    have e : rd_Step (p ++ x :: s) (p.length : Int) = x := getD_mid p s x zStep
    have c : out.length < 4398046511104 := by omega
    rw [sideO_cons, ← List.append_assoc]
    refine Ev.step (fun k => rfl) ?_
    simp only [swap_side.l0, lt_mid, nn_nat, if_true, e]
    by_cases h0 : x.f1 = 0
    · simp only [if_pos h0, h0, true_or, if_true]
      refine Ev.step (fun k => rfl) ?_
      simp only [swap_side.j1, Bool.false_eq_true, if_false, if_pos c, w]
      exact i _ (by simp only [List.length_append, List.length_singleton]; omega)
    · simp only [if_neg h0]
      by_cases h1 : x.f1 = b
      · have hb2 : (x.f1 != b) = false := bne_eq_false_iff_eq.mpr h1
        have hy : x.f1 = 0 ∨ x.f1 = b := .inr h1
        simp only [hb2, if_pos hy]
        refine Ev.step (fun k => rfl) ?_
        simp only [swap_side.j1, Bool.false_eq_true, if_false, if_pos c, w]
        exact i (out ++ [x.f0]) (by simp only [List.length_append, List.length_singleton]; omega)
      · have hb2 : (x.f1 != b) = true := bne_iff_ne.mpr h1
        have hn : ¬ (x.f1 = 0 ∨ x.f1 = b) := by simp [h0, h1]
        simp only [hb2, if_neg hn]
        refine Ev.step (fun k => rfl) ?_
        simp only [swap_side.j1, if_true]
        by_cases ha : x.f0.f0 = a3
        · simp only [if_pos ha, if_pos c, w]
          exact i _ (by simp only [List.length_append, List.length_singleton]; omega)
        · simp only [if_neg ha, w, List.append_nil]
          exact i _ (by simp only [List.length_append, List.length_singleton]; omega)
theorem side_ev (b a3 : Int) {os : List Step} (h : os.length ≤ 1099511627776) : Ev (fun k => swap_side.f k os b a3) (sideO b a3 os) := by
  have := side_loop b a3 os [] [] (by simpa using (by omega : os.length < 1099511627777)) (by simp)
  rw [List.nil_append, List.nil_append] at this
  exact this
theorem touch_loop (s : List Step) : ∀ (p : List Step) (b : Int), (p ++ s).length < 1099511627777 → Ev (fun k => swap_touch.l0 k b (p ++ s) ((p ++ s).length : Int) (p.length : Int)) (touchO b s) := by
  induction s with
  | nil =>
    intro p b hb
    refine Ev.step (fun k => rfl) ?_
    simp only [swap_touch.l0, lt_end, if_false]
    exact Ev.now _
  | cons x s ih =>
    intro p b hb
    have hl := hb
    simp only [List.length_append, List.length_cons] at hl
    have i := ih (p ++ [x]) x.f1 (by simpa using hb)
    rw [List.append_assoc, List.singleton_append] at i
    have w := wrap_len p x (by omega)
    have e : rd_Step (p ++ x :: s) (p.length : Int) = x := getD_mid p s x zStep
    rw [touchO]
    refine Ev.step (fun k => rfl) ?_
    simp only [swap_touch.l0, lt_mid, nn_nat, if_true, e, w]
    cases hg : x.f2
    · simp only [Bool.false_eq_true, if_false, Bool.false_or]
      by_cases h0 : x.f1 = 0
      · simp only [if_pos h0]
        have : (decide (x.f1 ≠ 0) && (decide (b ≠ 0) && decide (x.f1 ≠ b))) = false := by simp [h0]
        rw [this, Bool.false_or]; exact i
      · simp only [if_neg h0]
        by_cases hb0 : b = 0
        · simp only [if_pos hb0]
          have : (decide (x.f1 ≠ 0) && (decide (b ≠ 0) && decide (x.f1 ≠ b))) = false := by simp [hb0]
          rw [this, Bool.false_or]; exact i
        · simp only [if_neg hb0]
          by_cases h1 : x.f1 = b
          · simp only [if_pos h1]
            have : (decide (x.f1 ≠ 0) && (decide (b ≠ 0) && decide (x.f1 ≠ b))) = false := by simp [h1]
            rw [this, Bool.false_or]; exact i
          · simp only [if_neg h1]
            have : (decide (x.f1 ≠ 0) && (decide (b ≠ 0) && decide (x.f1 ≠ b))) = true := by simp [h0, hb0, h1]
            rw [this]; exact Ev.now _
    · simp only [if_true, Bool.true_or]; exact Ev.now _
theorem touch_ev {os : List Step} (h : os.length ≤ 1099511627776) : Ev (fun k => swap_touch.f k os) (touchO 0 os) := touch_loop os [] 0 (by simpa using (by omega : os.length < 1099511627777))
/-- The reference: the rows of both, a3 far a3 it has gone; and what comes of them. -/
def swapEnd (x y : List Op) : List Op × List Op × Int := if rightL x = true ∧ rightL y = true then (normL x, normL y, 0) else ([], [], 7)
theorem refswap_loop (s : List By) : ∀ (p : List By) (x y : List Op) (v : List Op × List Op × Int), (p ++ s).length < 1099511627777 → x.length ≤ p.length → y.length ≤ p.length → (∀ c ∈ p ++ s, c.f1 = 0 ∨ c.f1 = 1 ∨ c.f1 = 2) →
    (touchB (match p.getLast? with | none => 0 | some c => c.f1) s = true → v = ([], [], 7)) → (touchB (match p.getLast? with | none => 0 | some c => c.f1) s = false → Ev (fun k => patchworkref8_Swap.l0 k (p ++ s) (x ++ sideB 2 3 s) (y ++ sideB 1 4 s) ((p ++ s).length : Int)) v) →
    Ev (fun k => patchworkref8_Swap.l0 k (p ++ s) x y (p.length : Int)) v := by
  induction s with
  | nil =>
    intro p x y v hb hx hy hc ht hf
    have := hf rfl
    simpa [sideB] using this
  | cons c s ih =>
    intro p x y v hb hx hy hc ht hf
    have hl := hb
    simp only [List.length_append, List.length_cons] at hl
    have e : rd_By (p ++ c :: s) (p.length : Int) = c := getD_mid p s c zBy
    have hcc := hc c (by simp)
    have lastp : (match (p ++ [c]).getLast? with | none => 0 | some c => c.f1) = c.f1 := by simp
    have w := wrap_len p c (by omega)
    have i := fun x y h1 h2 h3 h4 => ih (p ++ [c]) x y v (by simpa using hb) h1 h2 (by simpa using hc) h3 h4
    rw [lastp, List.append_assoc, List.singleton_append] at i
    have cx : x.length < 4398046511104 := by omega
    have cy : y.length < 4398046511104 := by omega
    have cx1 : (x ++ [(⟨c.f0.f0, c.f0.f1, c.f0.f2⟩ : Op)]).length < 4398046511104 := by simp only [List.length_append, List.length_singleton]; omega
    -- what follows where they do not touch here
    have go : (touchB (match p.getLast? with | none => 0 | some c => c.f1) (c :: s) = touchB c.f1 s) →
        Ev (fun k => patchworkref8_Swap.j3 k (p ++ c :: s) x y (p.length : Int) false c.f0.f0 c.f0.f1 c.f0.f2 c.f1) v := by
      intro he
      rw [he] at ht hf
      refine Ev.step (fun k => rfl) ?_
      simp only [patchworkref8_Swap.j3, Bool.false_eq_true, if_false, if_pos cx, if_pos cy, Option.bind_some, w]
      rcases hcc with h | h | h
      · simp only [if_pos h]
        refine i _ _ (by simp; omega) (by simp; omega) ht fun hh => ?_
        have := hf hh
        rw [sideB_cons, sideB_cons] at this
        simpa [h] using this
      · have n0 : ¬ c.f1 = 0 := by omega
        have n2 : ¬ c.f1 = 2 := by omega
        simp only [if_neg n0, if_neg n2]
        by_cases k3 : c.f0.f0 = 3
        · simp only [if_pos k3]
          refine i _ _ (by simp; omega) (by simp; omega) ht fun hh => ?_
          have := hf hh
          rw [sideB_cons, sideB_cons, if_neg (by omega), if_pos k3, if_pos (by omega)] at this
          rw [List.append_assoc, List.append_assoc]
          exact this
        · simp only [if_neg k3]
          refine i _ _ (by simp; omega) (by simp; omega) ht fun hh => ?_
          have := hf hh
          rw [sideB_cons, sideB_cons, if_neg (by omega), if_neg k3, if_pos (by omega)] at this
          rw [List.append_assoc]
          exact this
      · have n0 : ¬ c.f1 = 0 := by omega
        simp only [if_neg n0, if_pos h]
        by_cases k4 : c.f0.f0 = 4
        · simp only [if_pos k4]
          refine i _ _ (by simp; omega) (by simp; omega) ht fun hh => ?_
          have := hf hh
          rw [sideB_cons, sideB_cons, if_pos (by omega), if_neg (by omega), if_pos k4] at this
          rw [List.append_assoc, List.append_assoc]
          exact this
        · simp only [if_neg k4]
          refine i _ _ (by simp; omega) (by simp; omega) ht fun hh => ?_
          have := hf hh
          rw [sideB_cons, sideB_cons, if_pos (by omega), if_neg (by omega), if_neg k4] at this
          rw [List.append_assoc]
          exact this
    refine Ev.step (fun k => rfl) ?_
    simp only [patchworkref8_Swap.l0, lt_mid, nn_nat, if_true, e]
    rcases List.eq_nil_or_concat p with hp | ⟨p', d, hp⟩
    · subst hp
      have c0 : ¬ ((([] : List By).length : Nat) : Int) > 0 := by simp
      simp only [if_neg c0]
      exact go (by simp [touchB])
    · rw [List.concat_eq_append] at hp
      subst hp
      have c0 : (((p' ++ [d]).length : Nat) : Int) > 0 := by simp only [List.length_append, List.length_singleton]; omega
      have lastd : (match (p' ++ [d]).getLast? with | none => 0 | some c => c.f1) = d.f1 := by simp
      simp only [lastd] at ht hf go
      have hd := hc d (by simp)
      simp only [if_pos c0]
      by_cases h0 : c.f1 > 0
      · have w1 : wrap64 (((p' ++ [d]).length : Int) - 1) = (p'.length : Int) := by
          have : ((p' ++ [d]).length : Int) - 1 = (p'.length : Int) := by simp
          rw [this]
          simp only [List.length_append, List.length_singleton] at hl
          exact wrap_small (by omega) (by omega)
        have c1 : (0 : Int) ≤ (p'.length : Int) := by omega
        have c2 : (p'.length : Int) < (((p' ++ [d]) ++ c :: s).length : Int) := by simp only [List.length_append, List.length_singleton, List.length_cons]; omega
        have ed : rd_By ((p' ++ [d]) ++ c :: s) (p'.length : Int) = d := by
          rw [List.append_assoc, List.singleton_append]; exact getD_mid p' (c :: s) d zBy
        simp only [if_pos h0, w1, if_pos c1, if_pos c2, ed]
        by_cases hd0 : d.f1 > 0
        · simp only [if_pos hd0]
          by_cases hne : c.f1 = d.f1
          · have hb2 : (c.f1 != d.f1) = false := bne_eq_false_iff_eq.mpr hne
            rw [hb2]
            exact go (by simp [touchB, hne])
          · have hb2 : (c.f1 != d.f1) = true := bne_iff_ne.mpr hne
            have tt : touchB d.f1 (c :: s) = true := by
              have a1 : c.f1 ≠ 0 := by omega
              have a2 : d.f1 ≠ 0 := by omega
              simp [touchB, a1, a2, hne]
            rw [ht tt, hb2]
            refine Ev.step (fun k => rfl) ?_
            simp only [patchworkref8_Swap.j3, if_true]
            exact Ev.now _
        · have a2 : d.f1 = 0 := by omega
          simp only [if_neg hd0]
          exact go (by simp [touchB, a2])
      · have a1 : c.f1 = 0 := by omega
        simp only [if_neg h0]
        exact go (by simp [touchB, a1])
end Go.Proofs.Ytfoponahdidddaa.P
