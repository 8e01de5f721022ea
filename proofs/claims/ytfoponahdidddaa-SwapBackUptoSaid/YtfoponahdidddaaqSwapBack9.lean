/- Own and printed texts that the theorem of SwapBack reaches, put together. -/
import Derived.Test.YtfoponahdidddaaqSwapBack8
import Derived.Test.YtfoponahdidddaaqSwapBack5
import Derived.Test.YtfoponahdidddaaqSwapBack3
set_option linter.unusedVariables false
set_option linter.unusedSimpArgs false
namespace Go.Proofs.Ytfoponahdidddaa.P
open Go.RowKit Go.Proofs.YtfoponahdidddaaW.PrintWords Go.Proofs.YtfoponahdidddaaW.PrintLast Go.Proofs.YtfoponahdidddaaW.PrintMore
theorem told_loop (s : List Step) : ∀ (p : List Step) (out v : List Op) (b : Bool), (p ++ s).length < 1099511627777 → out.length ≤ p.length → out ++ stepsL s = v → Ev (fun k => ops_Right.f k v) b → Ev (fun k => compose_told.l0 k out (p ++ s) ((p ++ s).length : Int) (p.length : Int)) (v, b) := by
  induction s with
  | nil =>
    intro p out v b hb ho hv h
    have hv : out = v := by rw [← hv]; simp [stepsL]
    subst hv
    refine Ev.step (fun k => rfl) ?_
    simp only [compose_told.l0, lt_end, if_false]
    exact Ev.bind' h (Ev.now _)
  | cons x s ih =>
    intro p out v b hb ho hv h
    have hl := hb
    simp only [List.length_append, List.length_cons] at hl
    have i := fun out h1 h2 => ih (p ++ [x]) out v b (by simpa using hb) h1 h2 h
    rw [List.append_assoc, List.singleton_append] at i
    have w := wrap_len p x (by omega)
    have e : rd_Step (p ++ x :: s) (p.length : Int) = x := getD_mid p s x zStep
    rw [stepsL_cons] at hv
    have c : out.length < 4398046511104 := by omega
    refine Ev.step (fun k => rfl) ?_
    simp only [compose_told.l0, lt_mid, nn_nat, if_true, e, w, if_pos c]
    cases hg : x.f2
    · simp only [Bool.false_eq_true, if_false]
      refine i _ (by simp only [List.length_append, List.length_singleton]; omega) ?_
      rw [← hv, hg]; simp
    · simp only [if_true]
      refine i _ (by simp only [List.length_append, List.length_singleton]; omega) ?_
      rw [← hv, hg]; simp
theorem told_ev {os : List Step} (h : os.length ≤ 1099511627776) (hs : Sm (stepsL os)) : Ev (fun k => compose_told.f k os) (stepsL os, rightL (stepsL os)) :=
  told_loop os [] [] _ _ (by simpa using (by omega : os.length < 1099511627777)) (by simp) (by simp) (right_ev hs)
theorem thenL_len {p q : List Op} (hp : Sx p) (hq : Sx q) : (thenL p q).1.length ≤ p.length + q.length ∧ ∀ o ∈ (thenL p q).1, o.f2.size < 1073741824 := by
  cases rp : rightL p
  · unfold thenL; simp [rp]
  cases rq : rightL q
  · unfold thenL; simp [rq]
  rcases walk_then hp hq rp rq with ⟨hw, e⟩ | ⟨os, hw, _, g1, g2, he, hf, hsm, hsk, hr, e⟩
  · rw [e]; simp
  · rw [e]
    split
    · refine ⟨?_, ?_⟩
      · have h1 := nf_pack_len (stepsL os) [] hf
        have h2 : (stepsL os).length ≤ os.length := by unfold stepsL; rw [List.length_map]; exact List.length_filter_le _ _
        simp only [List.length_nil] at h1
        show (pack (nf [] (ex (stepsL os)))).length ≤ _
        omega
      · intro o ho
        have ho : o ∈ pack (nf [] (ex (stepsL os))) := ho
        have he0 : ByteArray.empty.size = 0 := rfl
        rcases tx_pack _ o ho with e | ⟨x, hx, e⟩
        · rw [e, he0]; omega
        · rcases nf_mem _ _ _ hx with hx | hx
          · simp at hx
          · rcases tx_ex hx with e2 | ⟨y, hy, e2⟩
            · rw [e, e2, he0]; omega
            · rw [e, e2]
              obtain ⟨s, hs, rfl⟩ := List.mem_map.mp hy
              exact (g1 s (List.mem_filter.mp hs).1).1.2
    · simp
theorem Sx.then {p q : List Op} (hp : Sx p) (hq : Sx q) (h : p.length + q.length ≤ 274877906944) : Sx (thenL p q).1 := by
  obtain ⟨h1, h2⟩ := thenL_len hp hq
  exact ⟨by omega, h2⟩
end Go.Proofs.Ytfoponahdidddaa.P
namespace Go.Proofs.Ytfoponahdidddaa.P
open Go.RowKit Go.Proofs.YtfoponahdidddaaW.PrintWords Go.Proofs.YtfoponahdidddaaW.PrintLast Go.Proofs.YtfoponahdidddaaW.PrintMore
def sideO (b a3 : Int) (l : List Step) : List Op := l.flatMap fun s => if s.f1 = 0 ∨ s.f1 = b then [s.f0] else if s.f0.f0 = a3 then [⟨2, s.f0.f1, s.f0.f2⟩] else []
theorem sideO_cons (b a3 : Int) (s : Step) (l : List Step) : sideO b a3 (s :: l) = (if s.f1 = 0 ∨ s.f1 = b then [s.f0] else if s.f0.f0 = a3 then [⟨2, s.f0.f1, s.f0.f2⟩] else []) ++ sideO b a3 l := by simp [sideO]
def touchO : Int → List Step → Bool
  | _, [] => false
  | b, s :: l => s.f2 || ((decide (s.f1 ≠ 0) && (decide (b ≠ 0) && decide (s.f1 ≠ b))) || touchO s.f1 l)
theorem touch_met : ∀ (l : List Step) (b : Int), metS l = true → touchO b l = true
  | [], _, h => by simp [metS] at h
  | s :: l, b, h => by
    rw [touchO]
    cases hs : s.f2
    · have : metS l = true := by simpa [metS, hs] using h
      rw [touch_met l _ this]; simp
    · rfl
theorem sideO_len (b a3 : Int) : ∀ l : List Step, (sideO b a3 l).length ≤ l.length
  | [] => Nat.le_refl _
  | s :: l => by
    rw [sideO_cons, List.length_append]
    have := sideO_len b a3 l
    split
    · simp; omega
    · split
      · simp; omega
      · simp; omega
theorem side_loop (b a3 : Int) (s : List Step) : ∀ (p : List Step) (out : List Op), (p ++ s).length < 1099511627777 → out.length ≤ p.length → Ev (fun k => swap_side.l0 k b a3 out (p ++ s) ((p ++ s).length : Int) (p.length : Int)) (out ++ sideO b a3 s) := by
  induction s with
  | nil =>
    intro p out hb ho
    refine Ev.step (fun k => rfl) ?_
    simp only [swap_side.l0, lt_end, if_false]
    rw [show sideO b a3 [] = [] from rfl, List.append_nil]
    exact Ev.now _
  | cons x s ih =>
    intro p out hb ho
    have hl := hb
    simp only [List.length_append, List.length_cons] at hl
    have i := fun out h1 => ih (p ++ [x]) out (by simpa using hb) h1
    rw [List.append_assoc, List.singleton_append] at i
    have w := wrap_len p x (by omega)
    have e : rd_Step (p ++ x :: s) (p.length : Int) = x := getD_mid p s x zStep
    have c : out.length < 4398046511104 := by omega
    rw [sideO_cons, ← List.append_assoc]
    refine Ev.step (fun k => rfl) ?_
    simp only [swap_side.l0, lt_mid, nn_nat, if_true, e]
    by_cases h0 : x.f1 = 0
    · simp only [if_pos h0, h0, true_or, if_true]
      refine Ev.step (fun k => rfl) ?_
      simp only [swap_side.j1, Bool.false_eq_true, if_false, if_pos c, w]
      exact i _ (by simp only [List.length_append, List.length_singleton]; omega)
    · simp only [if_neg h0]
      by_cases h1 : x.f1 = b
      · have hb2 : (x.f1 != b) = false := bne_eq_false_iff_eq.mpr h1
        have hy : x.f1 = 0 ∨ x.f1 = b := .inr h1
        simp only [hb2, if_pos hy]
        refine Ev.step (fun k => rfl) ?_
        simp only [swap_side.j1, Bool.false_eq_true, if_false, if_pos c, w]
        exact i (out ++ [x.f0]) (by simp only [List.length_append, List.length_singleton]; omega)
      · have hb2 : (x.f1 != b) = true := bne_iff_ne.mpr h1
        have hn : ¬ (x.f1 = 0 ∨ x.f1 = b) := by simp [h0, h1]
        simp only [hb2, if_neg hn]
        refine Ev.step (fun k => rfl) ?_
        simp only [swap_side.j1, if_true]
        by_cases ha : x.f0.f0 = a3
        · simp only [if_pos ha, if_pos c, w]
          exact i _ (by simp only [List.length_append, List.length_singleton]; omega)
        · simp only [if_neg ha, w, List.append_nil]
          exact i _ (by simp only [List.length_append, List.length_singleton]; omega)
theorem side_ev (b a3 : Int) {os : List Step} (h : os.length ≤ 1099511627776) : Ev (fun k => swap_side.f k os b a3) (sideO b a3 os) := by
  have := side_loop b a3 os [] [] (by simpa using (by omega : os.length < 1099511627777)) (by simp)
  rw [List.nil_append, List.nil_append] at this
  exact this
theorem touch_loop (s : List Step) : ∀ (p : List Step) (b : Int), (p ++ s).length < 1099511627777 → Ev (fun k => swap_touch.l0 k b (p ++ s) ((p ++ s).length : Int) (p.length : Int)) (touchO b s) := by
  induction s with
  | nil =>
    intro p b hb
    refine Ev.step (fun k => rfl) ?_
    simp only [swap_touch.l0, lt_end, if_false]
    exact Ev.now _
  | cons x s ih =>
    intro p b hb
    have hl := hb
    simp only [List.length_append, List.length_cons] at hl
    have i := ih (p ++ [x]) x.f1 (by simpa using hb)
    rw [List.append_assoc, List.singleton_append] at i
    have w := wrap_len p x (by omega)
    have e : rd_Step (p ++ x :: s) (p.length : Int) = x := getD_mid p s x zStep
    rw [touchO]
    refine Ev.step (fun k => rfl) ?_
    simp only [swap_touch.l0, lt_mid, nn_nat, if_true, e, w]
    cases hg : x.f2
    · simp only [Bool.false_eq_true, if_false, Bool.false_or]
      by_cases h0 : x.f1 = 0
      · simp only [if_pos h0]
        have : (decide (x.f1 ≠ 0) && (decide (b ≠ 0) && decide (x.f1 ≠ b))) = false := by simp [h0]
        rw [this, Bool.false_or]; exact i
      · simp only [if_neg h0]
        by_cases hb0 : b = 0
        · simp only [if_pos hb0]
          have : (decide (x.f1 ≠ 0) && (decide (b ≠ 0) && decide (x.f1 ≠ b))) = false := by simp [hb0]
          rw [this, Bool.false_or]; exact i
        · simp only [if_neg hb0]
          by_cases h1 : x.f1 = b
          · simp only [if_pos h1]
            have : (decide (x.f1 ≠ 0) && (decide (b ≠ 0) && decide (x.f1 ≠ b))) = false := by simp [h1]
            rw [this, Bool.false_or]; exact i
          · simp only [if_neg h1]
            have : (decide (x.f1 ≠ 0) && (decide (b ≠ 0) && decide (x.f1 ≠ b))) = true := by simp [h0, hb0, h1]
            rw [this]; exact Ev.now _
    · simp only [if_true, Bool.true_or]; exact Ev.now _
theorem touch_ev {os : List Step} (h : os.length ≤ 1099511627776) : Ev (fun k => swap_touch.f k os) (touchO 0 os) := touch_loop os [] 0 (by simpa using (by omega : os.length < 1099511627777))
def swapEnd (x y : List Op) : List Op × List Op × Int := if rightL x = true ∧ rightL y = true then (normL x, normL y, 0) else ([], [], 7)
end Go.Proofs.Ytfoponahdidddaa.P
namespace Go.Proofs.Ytfoponahdidddaa.P
open Go.RowKit Go.Proofs.YtfoponahdidddaaW.PrintWords Go.Proofs.YtfoponahdidddaaW.PrintLast Go.Proofs.YtfoponahdidddaaW.PrintMore
def kindS (s : Step) : Prop := ((s.f0.f0 = 1 ∨ s.f0.f0 = 2) → s.f1 = 0 ∧ s.f2 = false) ∧ (s.f0.f0 = 3 → s.f1 = 1 ∨ s.f1 = 2) ∧ (s.f0.f0 = 4 → s.f1 = 1 ∨ s.f1 = 2)
theorem line_kind {x y : Op} (hx : okOne x = true) (hy : okOne y = true) (x3 : x.f0 ≠ 3) (y4 : y.f0 ≠ 4) : kindS (lineL x y).2.2 := by
  have kx : x.f0 = 1 ∨ x.f0 = 2 ∨ x.f0 = 4 := by
    by_cases h : x.f0 = 1
    · exact .inl h
    · rcases (okOne_ne hx h).1 with h | h | h
      · exact .inr (.inl h)
      · exact absurd h x3
      · exact .inr (.inr h)
  have ky : y.f0 = 1 ∨ y.f0 = 2 ∨ y.f0 = 3 := by
    by_cases h : y.f0 = 1
    · exact .inl h
    · rcases (okOne_ne hy h).1 with h | h | h
      · exact .inr (.inl h)
      · exact .inr (.inr h)
      · exact absurd h y4
  unfold kindS
  rcases kx with kx | kx | kx <;> rcases ky with ky | ky | ky <;> simp [lineL, kx, ky]
theorem walkO_kind : ∀ (n : Nat) (ps qs : List Op) (e : Bool) (os : List Step), okX ps → okX qs → walkO n ps qs e = some os → ∀ s ∈ os, kindS s := by
  intro n
  induction n with
  | zero =>
    intro ps qs e os _ _ h
    obtain rfl : os = [] := (Option.some.inj h).symm
    exact fun s hs => by simp at hs
  | succ n ih =>
    intro ps qs e os hp hq h
    rw [walkO] at h
    have cons : ∀ (s : Step) (os' : List Step), kindS s → (∀ x ∈ os', kindS x) → (∀ x ∈ s :: os', kindS x) := by
      intro s os' hs hr x hx
      rcases List.mem_cons.mp hx with rfl | hx
      · exact hs
      · exact hr x hx
    split at h
    · obtain rfl : os = [] := (Option.some.inj h).symm
      exact fun s hs => by simp at hs
    · rename_i h0
      split at h
      · rename_i hd
        obtain ⟨o, r, rfl, hk⟩ := hdK_iff.mp hd
        obtain ⟨os', h', rfl⟩ := Option.map_eq_some_iff.mp h
        exact cons _ _ ⟨fun h => by exact absurd (show o.f0 = 1 ∨ o.f0 = 2 from h) (by omega), fun _ => .inl rfl, fun _ => .inl rfl⟩ (ih r qs e os' (fun x hx => hp x (List.mem_cons_of_mem _ hx)) hq h')
      · rename_i hd
        split at h
        · rename_i hi
          obtain ⟨o, r, rfl, hk⟩ := hdK_iff.mp hi
          obtain ⟨os', h', rfl⟩ := Option.map_eq_some_iff.mp h
          exact cons _ _ ⟨fun h => by exact absurd (show o.f0 = 1 ∨ o.f0 = 2 from h) (by omega), fun _ => .inr rfl, fun _ => .inr rfl⟩ (ih ps r e os' hp (fun x hx => hq x (List.mem_cons_of_mem _ hx)) h')
        · rename_i hi
          split at h
          · simp at h
          · obtain ⟨os', h', rfl⟩ := Option.map_eq_some_iff.mp h
            obtain ⟨d1, _⟩ := drop_both hp.all hq.all h0
            refine cons _ _ (line_kind (nextL_okX hp).1 (nextL_okX hq).1 ?_ ?_) (ih _ _ _ os' (hp.drop d1) (hq.drop d1) h')
            · intro h3
              cases ps with
              | nil => exact absurd h3 (by decide)
              | cons o r => exact hd (hdK_iff.mpr ⟨o, r, rfl, h3⟩)
            · intro h3
              cases qs with
              | nil => exact absurd h3 (by decide)
              | cons o r => exact hi (hdK_iff.mpr ⟨o, r, rfl, h3⟩)
theorem side_ok {b a3 : Int} {os : List Step} (has : a3 = 3 ∨ a3 = 4) (h : ∀ s ∈ os, goodS s) : ∀ o ∈ sideO b a3 os, okOne o = true ∧ o.f2.size < 1073741824 := by
  intro o ho
  obtain ⟨s, hs, ho⟩ := List.mem_flatMap.mp ho
  have hg := (h s hs).1
  split at ho
  · rw [List.mem_singleton.mp ho]; exact hg
  · split at ho
    · rename_i hk
      rw [List.mem_singleton.mp ho]
      refine ⟨?_, hg.2⟩
      obtain ⟨_, h1, h2⟩ := okOne_ne hg.1 (by omega)
      unfold okOne
      simp [h1, h2]
    · simp at ho
def swapS (os : List Step) : List Op × List Op × Int := if rightL (stepsL os) = false then ([], [], 6) else if touchO 0 os = true then ([], [], 7) else swapEnd (sideO 2 3 os) (sideO 1 4 os)
def swapL (p q : List Op) : List Op × List Op × Int := if rightL p = true ∧ rightL q = true then (match walkO (p.length + q.length) p q false with | none => ([], [], 6) | some os => swapS os) else ([], [], 1)
theorem pend_ev {x y : List Op} (hx : Sm x) (hy : Sm y) : Ev (fun k => (ops_Right.f k x).bind fun t206 => if t206 = true then ((ops_Right.f k y).bind fun t207 => swap_Ops.j1 k x y (!t207)) else swap_Ops.j1 k x y true) (swapEnd x y) := by
  have no : Ev (fun k => swap_Ops.j1 k x y true) ([], [], 7) := by
    refine Ev.step (fun k => rfl) ?_
    simp only [swap_Ops.j1, if_true]
    exact Ev.now _
  unfold swapEnd
  refine Ev.bind' (right_ev hx) ?_
  cases rx : rightL x
  · simp only [Bool.false_eq_true, if_false, false_and]; exact no
  simp only [if_true, true_and]
  refine Ev.bind' (right_ev hy) ?_
  cases ry : rightL y
  · simp only [Bool.not_false, Bool.false_eq_true, if_false]; exact no
  simp only [Bool.not_true, if_true]
  refine Ev.step (fun k => rfl) ?_
  simp only [swap_Ops.j1, Bool.false_eq_true, if_false]
  refine Ev.bind' (norm_ev hx) ?_
  refine Ev.bind' (norm_ev hy) ?_
  simp only [rx, ry, if_true]
  exact Ev.now _
theorem sm_side {b a3 : Int} {os : List Step} (has : a3 = 3 ∨ a3 = 4) (h : ∀ s ∈ os, goodS s) (hl : os.length ≤ 1099511627776) : Sm (sideO b a3 os) := by
  refine ⟨by have := sideO_len b a3 os; omega, fun o ho => by have := (side_ok has h o ho).2; omega⟩
theorem walk_val {p q : List Op} (hp : Sx p) (hq : Sx q) (rp : rightL p = true) (rq : rightL q = true) :
    Ev (fun k => compose_Walk.f k p q) (match walkO (p.length + q.length) p q false with | none => ([], false) | some os => if rightL (stepsL os) = true then (os, true) else ([], false)) := by
  have hlen : p.length + q.length ≤ 1099511627776 := by have := hp.1; have := hq.1; omega
  have hW := okW_of (rightL_okX rp hp) (rightL_okX rq hq) hlen
  refine Ev.bind' (right_ev hp.sm) ?_
  simp only [rp, if_true]
  refine Ev.bind' (right_ev hq.sm) ?_
  simp only [rq, if_true, hW]
  rcases walk_then hp hq rp rq with ⟨hw, e⟩ | ⟨os, hw, _, g1, g2, he, hf, hsm, hsk, hr, e⟩
  · simp only [hw]; exact Ev.now _
  · simp only [hw]
    refine Ev.bind' (told_ev (os := os) (by omega) hsm) ?_
    cases rightL (stepsL os)
    · simp only [Bool.false_eq_true, if_false]; exact Ev.now _
    · simp only [if_true]; exact Ev.now _
theorem pswap_ev {p q : List Op} (hp : Sx p) (hq : Sx q) : Ev (fun k => swap_Ops.f k p q) (swapL p q) := by
  have hlen : p.length + q.length ≤ 1099511627776 := by have := hp.1; have := hq.1; omega
  have no : Ev (fun k => swap_Ops.j0 k p q true) ([], [], 1) := by
    refine Ev.step (fun k => rfl) ?_
    simp only [swap_Ops.j0, if_true]
    exact Ev.now _
  unfold swapL
  refine Ev.bind' (right_ev hp.sm) ?_
  cases rp : rightL p
  · simp only [Bool.false_eq_true, if_false, false_and]; exact no
  simp only [if_true, true_and]
  refine Ev.bind' (right_ev hq.sm) ?_
  cases rq : rightL q
  · simp only [Bool.not_false, Bool.false_eq_true, if_false]; exact no
  simp only [Bool.not_true, if_true]
  refine Ev.step (fun k => rfl) ?_
  simp only [swap_Ops.j0, Bool.false_eq_true, if_false]
  refine Ev.bind' (walk_val hp hq rp rq) ?_
  rcases walk_then hp hq rp rq with ⟨hw, e⟩ | ⟨os, hw, _, g1, g2, he, hf, hsm, hsk, hr, e⟩
  · simp only [hw, Bool.false_eq_true, if_false]; exact Ev.now _
  · simp only [hw]
    unfold swapS
    cases rs : rightL (stepsL os)
    · simp only [Bool.false_eq_true, if_false, if_true]; exact Ev.now _
    · simp only [if_true]
      refine Ev.bind' (side_ev 2 3 (os := os) (by omega)) ?_
      refine Ev.bind' (side_ev 1 4 (os := os) (by omega)) ?_
      refine Ev.bind' (touch_ev (os := os) (by omega)) ?_
      cases touchO 0 os
      · simp only [Bool.false_eq_true, if_false]
        exact pend_ev (sm_side (.inl rfl) g1 (by omega)) (sm_side (.inr rfl) g1 (by omega))
      · simp only [if_true]
        refine Ev.step (fun k => rfl) ?_
        simp only [swap_Ops.j1, if_true]
        exact Ev.now _
end Go.Proofs.Ytfoponahdidddaa.P
namespace Go.Proofs.Ytfoponahdidddaa.P
open Go.RowKit Go.Proofs.YtfoponahdidddaaW.PrintWords Go.Proofs.YtfoponahdidddaaW.PrintLast Go.Proofs.YtfoponahdidddaaW.PrintMore
def HD (p : List U) (x : U) (p' : List U) : Prop := p = x :: p' ∨ (p = [] ∧ x = .skip ∧ p' = [])
theorem HD.of (p : List U) : HD p (nxU p) p.tail := by
  cases p with
  | nil => exact .inr ⟨rfl, rfl, rfl⟩
  | cons x p => exact .inl rfl
inductive WT : List U → Bool → List U → List TU → Prop
  | nil (e : Bool) : WT [] e [] []
  | del (t : ByteArray) (p : List U) (e : Bool) (q : List U) (W : List TU) : WT p e q W → WT (.del t :: p) e q ((.del t, 1) :: W)
  | ins (t : ByteArray) (p : List U) (e : Bool) (q : List U) (W : List TU) : NoD p → WT p e q W → WT p e (.ins t :: q) ((.ins t, 2) :: W)
  | mid (p q p' q' : List U) (x y : U) (a : TU) (W : List TU) : HD p x p' → HD q y q' → (∀ t, x ≠ .del t) → (∀ t, y ≠ .ins t) → (p ≠ [] ∨ q ≠ []) → midT x y = some [a] → WT p' (opM x y) q' W → WT p false q (a :: W)
theorem midT_one {x y : U} {l : List TU} (h : midT x y = some l) : ∃ a, l = [a] := by
  cases x <;> cases y <;> simp only [midT] at h <;> first | (simp at h; done) | exact ⟨_, (Option.some.inj h).symm⟩ | (split at h <;> first | exact ⟨_, (Option.some.inj h).symm⟩ | (simp at h; done))
theorem nx_noD {p : List U} (h : NoD p) : ∀ t, nxU p ≠ .del t := by
  intro t e
  cases p with
  | nil => simp [nxU] at e
  | cons x p => rw [nxU_cons] at e; exact h t p (by rw [e])
theorem nx_noI {p : List U} (h : NoI p) : ∀ t, nxU p ≠ .ins t := by
  intro t e
  cases p with
  | nil => simp [nxU] at e
  | cons x p => rw [nxU_cons] at e; exact h t p (by rw [e])
theorem WT.of : ∀ p q, ∀ (e : Bool) (W : List TU), cmpT p e q = some W → WT p e q W := by
  refine walk_ind ?_ ?_ ?_ ?_
  · intro e W h
    rw [cmpT_nil] at h
    obtain rfl := Option.some.inj h
    exact .nil e
  · intro t p q ih e W h
    rw [cmpT_del] at h
    obtain ⟨W', h', rfl⟩ := Option.map_eq_some_iff.mp h
    exact .del t p e q W' (ih e W' h')
  · intro t p q hp ih e W h
    rw [cmpT_ins hp] at h
    obtain ⟨W', h', rfl⟩ := Option.map_eq_some_iff.mp h
    exact .ins t p e q W' hp (ih e W' h')
  · intro p q hp hq hne ih e W h
    rw [cmpT_mid hp hq hne] at h
    cases e with
    | true => simp at h
    | false =>
      simp only [Bool.false_eq_true, if_false] at h
      obtain ⟨l, h1, h2⟩ := Option.bind_eq_some_iff.mp h
      obtain ⟨a, rfl⟩ := midT_one h1
      obtain ⟨W', h', rfl⟩ := Option.map_eq_some_iff.mp h2
      exact .mid p q _ _ _ _ a W' (HD.of p) (HD.of q) (nx_noD hp) (nx_noI hq) hne h1 (ih _ W' h')
def no3 (W : List TU) : Prop := ∀ x ∈ W, x.2 ≠ 3
theorem no3.tail {x : TU} {W : List TU} (h : no3 (x :: W)) : no3 W := fun y hy => h y (List.mem_cons_of_mem _ hy)
theorem no3.head {x : TU} {W : List TU} (h : no3 (x :: W)) : x.2 ≠ 3 := h x (List.mem_cons_self ..)
theorem un_no3 : ∀ {W : List TU}, no3 W → un W = allT W
  | [], _ => rfl
  | x :: W, h => by rw [un_cons h.head, un_no3 h.tail]; rfl
def ownT (x : TU) : Prop := match x.1 with
  | .skip => x.2 = 0
  | .keep _ => x.2 = 0
  | .del _ => x.2 = 1 ∨ x.2 = 2
  | .ins _ => x.2 = 1 ∨ x.2 = 2
def owns (W : List TU) : Prop := ∀ x ∈ W, ownT x
theorem owns.tail {x : TU} {W : List TU} (h : owns (x :: W)) : owns W := fun y hy => h y (List.mem_cons_of_mem _ hy)
theorem owns.head {x : TU} {W : List TU} (h : owns (x :: W)) : ownT x := h x (List.mem_cons_self ..)
theorem owns.cons {x : TU} {W : List TU} (h : ownT x) (hw : owns W) : owns (x :: W) := by
  intro y hy
  rcases List.mem_cons.mp hy with rfl | hy
  · exact h
  · exact hw y hy
theorem owns.ok {W : List TU} (h : owns W) : okT W := by
  intro x hx hc
  have := h x hx
  obtain ⟨u, b⟩ := x
  cases u <;> simp [isCh] at hc <;> exact this
theorem mid_ways {x y : U} {a : TU} (h : midT x y = some [a]) (h3 : a.2 ≠ 3) :
    (x = .skip ∧ y = .skip ∧ a = (.skip, 0)) ∨ (∃ t, y = .keep t ∧ (x = .skip ∨ x = .keep t) ∧ a = (.keep t, 0)) ∨ (∃ t, y = .skip ∧ x = .keep t ∧ a = (.keep t, 0)) ∨
    (∃ t, y = .del t ∧ (x = .skip ∨ x = .keep t) ∧ a = (.del t, 2)) ∨ (∃ t, x = .ins t ∧ (y = .skip ∨ y = .keep t) ∧ a = (.ins t, 1)) := by
  cases x <;> cases y <;> simp only [midT] at h <;> first | (simp at h; done) | skip
  · have := List.cons.inj (Option.some.inj h); exact .inl ⟨rfl, rfl, this.1.symm⟩
  · rename_i t; have := List.cons.inj (Option.some.inj h); exact .inr (.inl ⟨t, rfl, .inl rfl, this.1.symm⟩)
  · rename_i t; have := List.cons.inj (Option.some.inj h); exact .inr (.inr (.inr (.inl ⟨t, rfl, .inl rfl, this.1.symm⟩)))
  · rename_i t; have := List.cons.inj (Option.some.inj h); exact .inr (.inr (.inl ⟨t, rfl, rfl, this.1.symm⟩))
  · rename_i s t
    split at h
    · rename_i e; subst e; have := List.cons.inj (Option.some.inj h); exact .inr (.inl ⟨_, rfl, .inr rfl, this.1.symm⟩)
    · simp at h
  · rename_i s t
    split at h
    · rename_i e; subst e; have := List.cons.inj (Option.some.inj h); exact .inr (.inr (.inr (.inl ⟨_, rfl, .inr rfl, this.1.symm⟩)))
    · simp at h
  · rename_i t; have := List.cons.inj (Option.some.inj h); exact .inr (.inr (.inr (.inr ⟨t, rfl, .inl rfl, this.1.symm⟩)))
  · rename_i s t
    split at h
    · rename_i e; subst e; have := List.cons.inj (Option.some.inj h); exact .inr (.inr (.inr (.inr ⟨_, rfl, .inr rfl, this.1.symm⟩)))
    · simp at h
  · rename_i s t
    split at h
    · have := List.cons.inj (Option.some.inj h); rw [← this.1] at h3; exact absurd rfl h3
    · simp at h
theorem WT.owns {p : List U} {e : Bool} {q : List U} {W : List TU} (h : WT p e q W) (h3 : no3 W) : owns W := by
  induction h with
  | nil e => exact fun x hx => by simp at hx
  | del t p e q W _ ih => exact .cons (.inl rfl) (ih h3.tail)
  | ins t p e q W _ _ ih => exact .cons (.inr rfl) (ih h3.tail)
  | mid p q p' q' x y a W _ _ _ _ _ hm _ ih =>
    refine .cons ?_ (ih h3.tail)
    rcases mid_ways hm h3.head with ⟨_, _, rfl⟩ | ⟨t, _, _, rfl⟩ | ⟨t, _, _, rfl⟩ | ⟨t, _, _, rfl⟩ | ⟨t, _, _, rfl⟩
    · rfl
    · rfl
    · rfl
    · exact .inr rfl
    · exact .inl rfl
def touchT : Int → List TU → Bool
  | _, [] => false
  | b, x :: w => (decide (x.2 ≠ 0) && (decide (b ≠ 0) && decide (x.2 ≠ b))) || touchT x.2 w
theorem touch_tail {b : Int} {x : TU} {W : List TU} (h : touchT b (x :: W) = false) : touchT x.2 W = false := by
  rw [touchT, Bool.or_eq_false_iff] at h; exact h.2
theorem touch_head {b : Int} {x : TU} {W : List TU} (h : touchT b (x :: W) = false) (h0 : x.2 ≠ 0) : b = 0 ∨ b = x.2 := by
  rw [touchT, Bool.or_eq_false_iff] at h
  have := h.1
  by_cases hb : b = 0
  · exact .inl hb
  · by_cases he : x.2 = b
    · exact .inr he.symm
    · simp [h0, hb, he] at this
theorem next_own {b c : Int} {x : U} {W : List TU} (ht : touchT b ((x, c) :: W) = false) (hc : c = 1 ∨ c = 2) : b = 0 ∨ b = c := touch_head ht (by show c ≠ 0; omega)
theorem HD.eq {p p' : List U} {x : U} (h : HD p x p') (hx : x ≠ .skip) : p = x :: p' := by
  rcases h with h | ⟨_, h, _⟩
  · exact h
  · exact absurd h hx
theorem fst_d1 (t : ByteArray) (W : List TU) : fstT ((.del t, 1) :: W) = .keep t :: fstT W := by simp [fstT]
theorem fst_d2 (t : ByteArray) (W : List TU) : fstT ((.del t, 2) :: W) = .del t :: fstT W := by simp [fstT]
theorem fst_i1 (t : ByteArray) (W : List TU) : fstT ((.ins t, 1) :: W) = fstT W := by simp [fstT]
theorem fst_i2 (t : ByteArray) (W : List TU) : fstT ((.ins t, 2) :: W) = .ins t :: fstT W := by simp [fstT]
theorem snd_d1 (t : ByteArray) (W : List TU) : sndT ((.del t, 1) :: W) = .del t :: sndT W := by simp [sndT]
theorem snd_d2 (t : ByteArray) (W : List TU) : sndT ((.del t, 2) :: W) = sndT W := by simp [sndT]
theorem snd_i1 (t : ByteArray) (W : List TU) : sndT ((.ins t, 1) :: W) = .ins t :: sndT W := by simp [sndT]
theorem snd_i2 (t : ByteArray) (W : List TU) : sndT ((.ins t, 2) :: W) = .keep t :: sndT W := by simp [sndT]
def sw (x : TU) : TU := (x.1, if x.2 = 1 then 2 else if x.2 = 2 then 1 else x.2)
def nfT (I : List TU) : List TU → List TU
  | [] => I
  | (.ins t, b) :: w => nfT (I ++ [(.ins t, b)]) w
  | (.del t, b) :: w => (.del t, b) :: nfT I w
  | (.keep t, b) :: w => I ++ (.keep t, b) :: nfT [] w
  | (.skip, b) :: w => I ++ (.skip, b) :: nfT [] w
theorem fst_app : ∀ a b : List TU, fstT (a ++ b) = fstT a ++ fstT b
  | [], _ => rfl
  | (x, c) :: a, b => by
    have i := fst_app a b
    cases x with
    | skip => simp only [List.cons_append, fstT, i]
    | keep t => simp only [List.cons_append, fstT, i]
    | del t => simp only [List.cons_append, fstT, i]; split <;> rfl
    | ins t => simp only [List.cons_append, fstT, i]; split <;> rfl
theorem snd_app : ∀ a b : List TU, sndT (a ++ b) = sndT a ++ sndT b
  | [], _ => rfl
  | (x, c) :: a, b => by
    have i := snd_app a b
    cases x with
    | skip => simp only [List.cons_append, sndT, i]
    | keep t => simp only [List.cons_append, sndT, i]
    | del t => simp only [List.cons_append, sndT, i]; split <;> rfl
    | ins t => simp only [List.cons_append, sndT, i]; split <;> rfl
def pend (b : Int) (I : List TU) : Prop := ∀ x ∈ I, (∃ t, x = (.ins t, b)) ∧ (b = 1 ∨ b = 2)
theorem pend.nil (b : Int) : pend b [] := fun x hx => by simp at hx
theorem pend.tail {b : Int} {x : TU} {I : List TU} (h : pend b (x :: I)) : pend b I := fun y hy => h y (List.mem_cons_of_mem _ hy)
theorem pend.snoc {b c : Int} {I : List TU} (h : pend b I) (hb : b = 0 ∨ b = c) (hc : c = 1 ∨ c = 2) (t : ByteArray) : pend c (I ++ [(.ins t, c)]) := by
  intro x hx
  rcases List.mem_append.mp hx with hx | hx
  · obtain ⟨⟨s, rfl⟩, h0⟩ := h x hx
    rcases hb with hb | hb
    · omega
    · exact ⟨⟨s, by rw [hb]⟩, hc⟩
  · exact ⟨⟨t, List.mem_singleton.mp hx⟩, hc⟩
theorem pend.same {b c : Int} {I : List TU} (h : pend b I) (hb : b = 0 ∨ b = c) : pend c I := by
  intro x hx
  obtain ⟨⟨s, rfl⟩, h0⟩ := h x hx
  rcases hb with hb | hb
  · omega
  · subst hb; exact ⟨⟨s, rfl⟩, h0⟩
theorem pend_fst1 : ∀ {I : List TU}, pend 1 I → fstT I = []
  | [], _ => rfl
  | x :: I, h => by
    obtain ⟨⟨t, rfl⟩, _⟩ := h x (List.mem_cons_self ..)
    rw [fst_i1]
    exact pend_fst1 fun y hy => h y (List.mem_cons_of_mem _ hy)
theorem fst_nfT : ∀ (W I : List TU) (b : Int), owns W → touchT b W = false → pend b I → fstT (nfT I W) = nf (fstT I) (fstT W)
  | [], I, b, _, _, _ => rfl
  | (.ins t, c) :: W, I, b, ho, ht, hI => by
    have h12 : c = 1 ∨ c = 2 := ho.head
    have hc := next_own ht h12
    rw [nfT, fst_nfT W _ c ho.tail (touch_tail ht) (hI.snoc hc h12 t), fst_app]
    rcases h12 with h | h
    · subst h
      rw [fst_i1, fst_i1]; simp [fstT]
    · subst h
      rw [fst_i2, fst_i2, nf]; rfl
  | (.del t, c) :: W, I, b, ho, ht, hI => by
    have h12 : c = 1 ∨ c = 2 := ho.head
    have hc := next_own ht h12
    have i := fst_nfT W I c ho.tail (touch_tail ht) (hI.same hc)
    rcases h12 with h | h
    · subst h
      have e := pend_fst1 (hI.same hc)
      rw [e] at i ⊢
      rw [nfT, fst_d1, fst_d1, i, nf, List.nil_append]
    · subst h
      rw [nfT, fst_d2, fst_d2, i, nf]
  | (.keep t, c) :: W, I, b, ho, ht, hI => by
    have h : c = 0 := ho.head
    subst h
    rw [nfT, fst_app, fstT, fstT, nf, fst_nfT W [] 0 ho.tail (touch_tail ht) (.nil 0)]; rfl
  | (.skip, c) :: W, I, b, ho, ht, hI => by
    have h : c = 0 := ho.head
    subst h
    rw [nfT, fst_app, fstT, fstT, nf, fst_nfT W [] 0 ho.tail (touch_tail ht) (.nil 0)]; rfl
theorem touch_pend {b : Int} {R : List TU} : ∀ (I : List TU) (b0 : Int), pend b I → (b0 = 0 ∨ b0 = b) → (∀ c, (c = b0 ∨ c = b) → touchT c R = false) → touchT b0 (I ++ R) = false
  | [], b0, _, _, h => h b0 (.inl rfl)
  | x :: I, b0, hI, hb, h => by
    obtain ⟨⟨t, rfl⟩, h0⟩ := hI x (List.mem_cons_self ..)
    have i := touch_pend I b hI.tail (.inr rfl) (fun c hc => h c (.inr (by rcases hc with h | h <;> exact h)))
    rw [List.cons_append, touchT]
    show (_ || touchT b (I ++ R)) = false
    rw [i]
    rcases hb with rfl | rfl <;> simp
theorem owns_pend {b : Int} {I : List TU} (h : pend b I) : owns I := by
  intro x hx
  obtain ⟨⟨t, rfl⟩, h0⟩ := h x hx
  exact h0
theorem owns.app {a b : List TU} (ha : owns a) (hb : owns b) : owns (a ++ b) := fun y hy => by
  rcases List.mem_append.mp hy with h | h
  · exact ha y h
  · exact hb y h
theorem touch_nfT : ∀ (W I : List TU) (b b0 : Int), owns W → touchT b W = false → pend b I → (b0 = 0 ∨ b0 = b) → touchT b0 (nfT I W) = false ∧ owns (nfT I W)
  | [], I, b, b0, _, _, hI, hb => by
    refine ⟨?_, owns_pend hI⟩
    have := touch_pend (R := []) I b0 hI hb (fun c _ => rfl)
    rwa [List.append_nil] at this
  | (.ins t, c) :: W, I, b, b0, ho, ht, hI, hb => by
    have h12 : c = 1 ∨ c = 2 := ho.head
    have hc := next_own ht h12
    rw [nfT]
    exact touch_nfT W _ c b0 ho.tail (touch_tail ht) (hI.snoc hc h12 t) (by omega)
  | (.del t, c) :: W, I, b, b0, ho, ht, hI, hb => by
    have h12 : c = 1 ∨ c = 2 := ho.head
    have hc := next_own ht h12
    obtain ⟨i1, i2⟩ := touch_nfT W I c c ho.tail (touch_tail ht) (hI.same hc) (.inr rfl)
    rw [nfT]
    refine ⟨?_, .cons h12 i2⟩
    rw [touchT]
    show (_ || touchT c (nfT I W)) = false
    rw [i1]
    have : b0 = 0 ∨ c = b0 := by omega
    rcases this with rfl | rfl <;> simp
  | (.keep t, c) :: W, I, b, b0, ho, ht, hI, hb => by
    have h : c = 0 := ho.head
    subst h
    obtain ⟨i1, i2⟩ := touch_nfT W [] 0 0 ho.tail (touch_tail ht) (.nil 0) (.inl rfl)
    rw [nfT]
    refine ⟨touch_pend I b0 hI hb fun c _ => ?_, (owns_pend hI).app (.cons rfl i2)⟩
    rw [touchT]
    show (_ || touchT 0 (nfT [] W)) = false
    rw [i1]; simp
  | (.skip, c) :: W, I, b, b0, ho, ht, hI, hb => by
    have h : c = 0 := ho.head
    subst h
    obtain ⟨i1, i2⟩ := touch_nfT W [] 0 0 ho.tail (touch_tail ht) (.nil 0) (.inl rfl)
    rw [nfT]
    refine ⟨touch_pend I b0 hI hb fun c _ => ?_, (owns_pend hI).app (.cons rfl i2)⟩
    rw [touchT]
    show (_ || touchT 0 (nfT [] W)) = false
    rw [i1]; simp
def swT (W : List TU) : List TU := W.map sw
theorem swT_cons (x : TU) (W : List TU) : swT (x :: W) = sw x :: swT W := rfl
theorem sw1 (u : U) : sw (u, 1) = (u, 2) := by simp [sw]
theorem sw2 (u : U) : sw (u, 2) = (u, 1) := by simp [sw]
theorem sw0 (u : U) : sw (u, 0) = (u, 0) := by simp [sw]
theorem all_sw : ∀ W : List TU, allT (swT W) = allT W
  | [] => rfl
  | x :: W => by
    have := all_sw W
    unfold allT at this ⊢
    rw [swT_cons, List.map_cons, List.map_cons, this]; rfl
theorem sw_app (a b : List TU) : swT (a ++ b) = swT a ++ swT b := by simp [swT]
theorem nfT_sw : ∀ (W I : List TU), swT (nfT I W) = nfT (swT I) (swT W)
  | [], I => rfl
  | (.ins t, c) :: W, I => by rw [nfT, nfT_sw W, sw_app, swT_cons]; rfl
  | (.del t, c) :: W, I => by rw [nfT, swT_cons, nfT_sw W, swT_cons]; rfl
  | (.keep t, c) :: W, I => by rw [nfT, sw_app, swT_cons, nfT_sw W, swT_cons]; rfl
  | (.skip, c) :: W, I => by rw [nfT, sw_app, swT_cons, nfT_sw W, swT_cons]; rfl
theorem owns.sw {W : List TU} (h : owns W) : owns (swT W) := by
  intro x hx
  obtain ⟨y, hy, rfl⟩ := List.mem_map.mp hx
  have := h y hy
  obtain ⟨u, b⟩ := y
  cases u with
  | skip => have h : b = 0 := this; subst h; rfl
  | keep t => have h : b = 0 := this; subst h; rfl
  | del t => rcases this with h | h <;> (have h : b = _ := h; subst h; simp [P.sw, ownT])
  | ins t => rcases this with h | h <;> (have h : b = _ := h; subst h; simp [P.sw, ownT])
def sb (b : Int) : Int := if b = 1 then 2 else if b = 2 then 1 else b
theorem touch_sw : ∀ (W : List TU) (b : Int), owns W → (b = 0 ∨ b = 1 ∨ b = 2) → touchT (sb b) (swT W) = touchT b W
  | [], b, _, _ => rfl
  | (u, c) :: W, b, ho, hb => by
    have hc : c = 0 ∨ c = 1 ∨ c = 2 := by
      have := ho.head
      cases u with
      | skip => exact .inl this
      | keep t => exact .inl this
      | del t => exact .inr this
      | ins t => exact .inr this
    have i := touch_sw W c ho.tail hc
    rw [swT_cons, touchT, touchT, ← i]
    rcases hb with rfl | rfl | rfl <;> rcases hc with rfl | rfl | rfl <;> rfl
theorem touch_sw0 {W : List TU} (ho : owns W) (h : touchT 0 W = false) : touchT 0 (swT W) = false := by
  have := touch_sw W 0 ho (.inl rfl)
  rw [h] at this
  exact this
theorem noD_fst : ∀ (W : List TU), owns W → touchT 1 W = false → NoD (fstT W)
  | [], _, _ => fun t r h => by simp [fstT] at h
  | (.ins t, c) :: W, ho, ht => by
    have h12 : c = 1 ∨ c = 2 := ho.head
    have hc := next_own ht h12
    obtain rfl : c = 1 := by omega
    rw [fst_i1]
    exact noD_fst W ho.tail (touch_tail ht)
  | (.del t, c) :: W, ho, ht => by
    have h12 : c = 1 ∨ c = 2 := ho.head
    have hc := next_own ht h12
    obtain rfl : c = 1 := by omega
    rw [fst_d1]
    exact fun s r h => by simp at h
  | (.keep t, c) :: W, _, _ => fun s r h => by simp [fstT] at h
  | (.skip, c) :: W, _, _ => fun s r h => by simp [fstT] at h
theorem midk {p q : List U} {x y : U} {a : TU} {e : Bool} {W : List TU} (hx : ∀ t, x ≠ .del t) (hy : ∀ t, y ≠ .ins t) (he : e = false) (hm : midT x y = some [a]) (h : cmpT p (opM x y) q = some W) : cmpT (x :: p) e (y :: q) = some (a :: W) := by
  rw [cmpT_mid (fun t r h => hx t (List.cons.inj h).1) (fun t r h => hy t (List.cons.inj h).1) (.inl (by simp)) e, he, if_neg (by simp)]
  rw [show nxU (x :: p) = x from rfl, show nxU (y :: q) = y from rfl, hm]
  show (cmpT p (opM x y) q).map ([a] ++ ·) = _
  rw [h]; rfl
theorem cmp_sw : ∀ (W : List TU) (e : Bool) (b : Int), owns W → touchT b W = false → closedS e (news (fstT W)) = true → cmpT (fstT W) e (sndT W) = some (swT W)
  | [], e, b, _, _, _ => rfl
  | (.skip, c) :: W, e, b, ho, ht, hc => by
    have h : c = 0 := ho.head
    subst h
    rw [fstT, news] at hc
    obtain ⟨e0, hc⟩ := closedS_cons hc
    rw [fstT, sndT]
    exact midk (by simp) (by simp) e0 rfl (cmp_sw W _ 0 ho.tail (touch_tail ht) hc)
  | (.keep t, c) :: W, e, b, ho, ht, hc => by
    have h : c = 0 := ho.head
    subst h
    rw [fstT, news] at hc
    obtain ⟨e0, hc⟩ := closedS_cons hc
    rw [fstT, sndT]
    refine midk (by simp) (by simp) e0 (by simp [midT, swT_cons, sw0]) (cmp_sw W _ 0 ho.tail (touch_tail ht) ?_)
    simpa [opM, opnX, txU] using hc
  | (.del t, c) :: W, e, b, ho, ht, hc => by
    have h12 : c = 1 ∨ c = 2 := ho.head
    rcases h12 with h | h
    · subst h
      rw [fst_d1, news] at hc
      obtain ⟨e0, hc⟩ := closedS_cons hc
      rw [fst_d1, snd_d1, swT_cons, sw1]
      refine midk (by simp) (by simp) e0 (by simp [midT]) (cmp_sw W _ 1 ho.tail (touch_tail ht) ?_)
      simpa [opM, opnX, txU] using hc
    · subst h
      rw [fst_d2, news] at hc
      rw [fst_d2, snd_d2, swT_cons, sw2, cmpT_del, cmp_sw W e 2 ho.tail (touch_tail ht) hc]; rfl
  | (.ins t, c) :: W, e, b, ho, ht, hc => by
    have h12 : c = 1 ∨ c = 2 := ho.head
    rcases h12 with h | h
    · subst h
      rw [fst_i1] at hc
      rw [fst_i1, snd_i1, swT_cons, sw1, cmpT_ins (noD_fst W ho.tail (touch_tail ht)), cmp_sw W e 1 ho.tail (touch_tail ht) hc]; rfl
    · subst h
      rw [fst_i2, news] at hc
      obtain ⟨e0, hc⟩ := closedS_cons hc
      rw [fst_i2, snd_i2, swT_cons, sw2]
      refine midk (by simp) (by simp) e0 (by simp [midT]) (cmp_sw W _ 2 ho.tail (touch_tail ht) ?_)
      simpa [opM, opnX, txU] using hc
def blk1 : U → U
  | .keep _ => .skip
  | x => x
def blkU (u : List U) : List U := u.map blk1
theorem blk_app (a b : List U) : blkU (a ++ b) = blkU a ++ blkU b := by simp [blkU]
theorem blk_cons (x : U) (u : List U) : blkU (x :: u) = blk1 x :: blkU u := rfl
theorem nf_blk : ∀ (u I : List U), blkU (nf I u) = nf (blkU I) (blkU u)
  | [], I => rfl
  | .ins t :: u, I => by rw [nf, nf_blk u, blk_app]; rfl
  | .del t :: u, I => by rw [nf, blk_cons, nf_blk u, blk_cons]; rfl
  | .keep t :: u, I => by rw [nf, blk_app, blk_cons, nf_blk u, blk_cons]; rfl
  | .skip :: u, I => by rw [nf, blk_app, blk_cons, nf_blk u, blk_cons]; rfl
theorem nf_tail : ∀ (u I : List U) (n : Nat), nf I (u ++ List.replicate n .skip) = nf I u ++ List.replicate n .skip
  | [], I, 0 => by simp [nf]
  | [], I, n + 1 => by
    have e : nf [] (List.replicate n U.skip) = List.replicate n .skip := by
      have := nf_tail [] [] n
      simpa [nf] using this
    show nf I (.skip :: List.replicate n .skip) = I ++ .skip :: List.replicate n .skip
    rw [nf, e]
  | .ins t :: u, I, n => by rw [List.cons_append, nf, nf_tail u, nf]
  | .del t :: u, I, n => by rw [List.cons_append, nf, nf_tail u, nf]; rfl
  | .keep t :: u, I, n => by rw [List.cons_append, nf, nf_tail u, nf]; simp
  | .skip :: u, I, n => by rw [List.cons_append, nf, nf_tail u, nf]; simp
theorem blk_fst {p : List U} {e : Bool} {q : List U} {W : List TU} (h : WT p e q W) (h3 : no3 W) : ∃ n, blkU (fstT (swT W)) = blkU p ++ List.replicate n .skip := by
  induction h with
  | nil e => exact ⟨0, rfl⟩
  | del t p e q W _ ih =>
    obtain ⟨n, i⟩ := ih h3.tail
    exact ⟨n, by rw [swT_cons, sw1, fst_d2, blk_cons, blk_cons, i]; rfl⟩
  | ins t p e q W _ _ ih =>
    obtain ⟨n, i⟩ := ih h3.tail
    exact ⟨n, by rw [swT_cons, sw2, fst_i1, i]⟩
  | mid p q p' q' x y a W hp hq _ _ _ hm _ ih =>
    obtain ⟨n, i⟩ := ih h3.tail
    have key : ∀ u, blk1 u = .skip → (x = .skip ∨ ∃ t, x = .keep t) → fstT (swT (a :: W)) = u :: fstT (swT W) → ∃ n, blkU (fstT (swT (a :: W))) = blkU p ++ List.replicate n .skip := by
      intro u hu hx he
      rw [he, blk_cons, hu, i]
      rcases hp with rfl | ⟨rfl, _, rfl⟩
      · refine ⟨n, ?_⟩
        rw [blk_cons]
        rcases hx with rfl | ⟨t, rfl⟩ <;> rfl
      · exact ⟨n + 1, rfl⟩
    rcases mid_ways hm h3.head with ⟨rfl, rfl, rfl⟩ | ⟨t, rfl, hx, rfl⟩ | ⟨t, rfl, rfl, rfl⟩ | ⟨t, rfl, hx, rfl⟩ | ⟨t, rfl, hy, rfl⟩
    · exact key .skip rfl (.inl rfl) (by rw [swT_cons, sw0, fstT])
    · exact key (.keep t) rfl (by rcases hx with h | h; exact .inl h; exact .inr ⟨t, h⟩) (by rw [swT_cons, sw0, fstT])
    · exact key (.keep t) rfl (.inr ⟨t, rfl⟩) (by rw [swT_cons, sw0, fstT])
    · exact key (.keep t) rfl (by rcases hx with h | h; exact .inl h; exact .inr ⟨t, h⟩) (by rw [swT_cons, sw2, fst_d1])
    · refine ⟨n, ?_⟩
      rw [hp.eq (by simp), swT_cons, sw1, fst_i2, blk_cons, blk_cons, i]; rfl
theorem blk_snd {p : List U} {e : Bool} {q : List U} {W : List TU} (h : WT p e q W) (h3 : no3 W) : ∃ n, blkU (sndT (swT W)) = blkU q ++ List.replicate n .skip := by
  induction h with
  | nil e => exact ⟨0, rfl⟩
  | del t p e q W _ ih =>
    obtain ⟨n, i⟩ := ih h3.tail
    exact ⟨n, by rw [swT_cons, sw1, snd_d2, i]⟩
  | ins t p e q W _ _ ih =>
    obtain ⟨n, i⟩ := ih h3.tail
    exact ⟨n, by rw [swT_cons, sw2, snd_i1, blk_cons, blk_cons, i]; rfl⟩
  | mid p q p' q' x y a W hp hq _ _ _ hm _ ih =>
    obtain ⟨n, i⟩ := ih h3.tail
    have key : ∀ u, blk1 u = .skip → (y = .skip ∨ ∃ t, y = .keep t) → sndT (swT (a :: W)) = u :: sndT (swT W) → ∃ n, blkU (sndT (swT (a :: W))) = blkU q ++ List.replicate n .skip := by
      intro u hu hx he
      rw [he, blk_cons, hu, i]
      rcases hq with rfl | ⟨rfl, _, rfl⟩
      · refine ⟨n, ?_⟩
        rw [blk_cons]
        rcases hx with rfl | ⟨t, rfl⟩ <;> rfl
      · exact ⟨n + 1, rfl⟩
    rcases mid_ways hm h3.head with ⟨rfl, rfl, rfl⟩ | ⟨t, rfl, hx, rfl⟩ | ⟨t, rfl, rfl, rfl⟩ | ⟨t, rfl, hx, rfl⟩ | ⟨t, rfl, hy, rfl⟩
    · exact key .skip rfl (.inl rfl) (by rw [swT_cons, sw0, sndT])
    · exact key (.keep t) rfl (.inr ⟨t, rfl⟩) (by rw [swT_cons, sw0, sndT])
    · exact key (.keep t) rfl (.inl rfl) (by rw [swT_cons, sw0, sndT])
    · refine ⟨n, ?_⟩
      rw [hq.eq (by simp), swT_cons, sw2, snd_d1, blk_cons, blk_cons, i]; rfl
    · exact key (.keep t) rfl (by rcases hy with h | h; exact .inl h; exact .inr ⟨t, h⟩) (by rw [swT_cons, sw1, snd_i2])
theorem mid_sw {p : List U} {e : Bool} {q : List U} {W : List TU} (h : WT p e q W) (h3 : no3 W) (hp : textS (news p) = true) (hq : textS (olds q) = true) :
    closedS e (news (fstT (swT W))) = true ∧ textS (news (fstT (swT W))) = true ∧ (news (fstT (swT W))).length ≤ max (news p).length (olds q).length := by
  induction h with
  | nil e => exact ⟨by cases e <;> rfl, rfl, Nat.zero_le _⟩
  | del t p e q W _ ih =>
    rw [swT_cons, sw1, fst_d2]
    exact ih h3.tail hp hq
  | ins t p e q W _ _ ih =>
    rw [swT_cons, sw2, fst_i1]
    exact ih h3.tail hp hq
  | mid p q p' q' x y a W hp1 hq1 hx hy hne hm _ ih =>
    have np : textS (news p') = true ∧ (p ≠ [] → (news p).length = (news p').length + 1) ∧ (p = [] → (news p').length = 0) ∧ (∀ t, x = .keep t ∨ x = .ins t → rightT t = true) := by
      rcases hp1 with rfl | ⟨rfl, rfl, rfl⟩
      · cases x with
        | skip => exact ⟨textS_none1 hp, fun _ => rfl, fun h => by simp at h, fun t h => by simp at h⟩
        | keep t => exact ⟨(textS_cons hp).2, fun _ => rfl, fun h => by simp at h, fun s h => by rcases h with h | h <;> simp at h; subst h; exact (textS_cons hp).1⟩
        | ins t => exact ⟨(textS_cons hp).2, fun _ => rfl, fun h => by simp at h, fun s h => by rcases h with h | h <;> simp at h; subst h; exact (textS_cons hp).1⟩
        | del t => exact absurd rfl (hx t)
      · exact ⟨rfl, fun h => absurd rfl h, fun _ => rfl, fun t h => by simp at h⟩
    have nq : textS (olds q') = true ∧ (q ≠ [] → (olds q).length = (olds q').length + 1) ∧ (q = [] → (olds q').length = 0) ∧ (∀ t, y = .keep t ∨ y = .del t → rightT t = true) := by
      rcases hq1 with rfl | ⟨rfl, rfl, rfl⟩
      · cases y with
        | skip => exact ⟨textS_none1 hq, fun _ => rfl, fun h => by simp at h, fun t h => by simp at h⟩
        | keep t => exact ⟨(textS_cons hq).2, fun _ => rfl, fun h => by simp at h, fun s h => by rcases h with h | h <;> simp at h; subst h; exact (textS_cons hq).1⟩
        | del t => exact ⟨(textS_cons hq).2, fun _ => rfl, fun h => by simp at h, fun s h => by rcases h with h | h <;> simp at h; subst h; exact (textS_cons hq).1⟩
        | ins t => exact absurd rfl (hy t)
      · exact ⟨rfl, fun h => absurd rfl h, fun _ => rfl, fun t h => by simp at h⟩
    obtain ⟨i1, i2, i3⟩ := ih h3.tail np.1 nq.1
    have len : (news (fstT (swT W))).length + 1 ≤ max (news p).length (olds q).length := by
      by_cases hp0 : p = []
      · have a1 := np.2.2.1 hp0
        have hq0 : q ≠ [] := hne.resolve_left (fun h => h hp0)
        have a2 := nq.2.1 hq0
        omega
      · have a1 := np.2.1 hp0
        by_cases hq0 : q = []
        · have a2 := nq.2.2.1 hq0
          omega
        · have a2 := nq.2.1 hq0
          omega
    have key : ∀ t, rightT t = true → opM x y = openT t → news (fstT (swT (a :: W))) = some t :: news (fstT (swT W)) → closedS false (news (fstT (swT (a :: W)))) = true ∧ textS (news (fstT (swT (a :: W)))) = true ∧ (news (fstT (swT (a :: W)))).length ≤ max (news p).length (olds q).length := by
      intro t hr ho he
      rw [he]
      refine ⟨by rw [closedS, ← ho]; exact i1, ?_, len⟩
      show (rightT t && textS (news (fstT (swT W)))) = true
      rw [hr, i2]; rfl
    rcases mid_ways hm h3.head with ⟨rfl, rfl, rfl⟩ | ⟨t, rfl, hx', rfl⟩ | ⟨t, rfl, rfl, rfl⟩ | ⟨t, rfl, hx', rfl⟩ | ⟨t, rfl, hy', rfl⟩
    · rw [swT_cons, sw0, fstT, news]
      exact ⟨i1, i2, len⟩
    · exact key t (nq.2.2.2 t (.inl rfl)) (by rcases hx' with rfl | rfl <;> simp [opM, opnX, txU]) (by rw [swT_cons, sw0, fstT, news])
    · exact key t (np.2.2.2 t (.inl rfl)) (by simp [opM, opnX, txU]) (by rw [swT_cons, sw0, fstT, news])
    · exact key t (nq.2.2.2 t (.inr rfl)) (by rcases hx' with rfl | rfl <;> simp [opM, opnX, txU]) (by rw [swT_cons, sw2, fst_d1, news])
    · exact key t (np.2.2.2 t (.inr rfl)) (by rcases hy' with rfl | rfl <;> simp [opM, opnX, txU]) (by rw [swT_cons, sw1, fst_i2, news])
end Go.Proofs.Ytfoponahdidddaa.P
namespace Go.Proofs.Ytfoponahdidddaa.P
open Go.RowKit Go.Proofs.YtfoponahdidddaaW.PrintWords Go.Proofs.YtfoponahdidddaaW.PrintLast Go.Proofs.YtfoponahdidddaaW.PrintMore
theorem nf_idem (u : List U) : nf [] (nf [] u) = nf [] u := by
  have := nf_nf u [] [] .nil
  simpa using this
end Go.Proofs.Ytfoponahdidddaa.P
namespace Go.Proofs.Ytfoponahdidddaa.P
open Go.RowKit Go.Proofs.YtfoponahdidddaaW.PrintWords Go.Proofs.YtfoponahdidddaaW.PrintLast Go.Proofs.YtfoponahdidddaaW.PrintMore
theorem fst_skips : ∀ (n : Nat) (W : List TU), fstT (List.replicate n ((.skip, 0) : TU) ++ W) = List.replicate n .skip ++ fstT W
  | 0, W => by simp
  | n + 1, W => by rw [List.replicate_succ, List.cons_append, fstT, fst_skips n W]; rfl
theorem snd_skips : ∀ (n : Nat) (W : List TU), sndT (List.replicate n ((.skip, 0) : TU) ++ W) = List.replicate n .skip ++ sndT W
  | 0, W => by simp
  | n + 1, W => by rw [List.replicate_succ, List.cons_append, sndT, snd_skips n W]; rfl
theorem touch_skips : ∀ (n : Nat) (b : Int) (W : List TU), touchT b (List.replicate (n + 1) ((.skip, 0) : TU) ++ W) = touchT 0 W
  | 0, b, W => by rw [List.replicate_succ, List.cons_append, touchT]; simp
  | n + 1, b, W => by
    rw [List.replicate_succ, List.cons_append, touchT]
    show (_ || touchT 0 (List.replicate (n + 1) ((.skip, 0) : TU) ++ W)) = _
    rw [touch_skips n 0 W]; simp
theorem step_lines {s : Step} (h : goodS s) (hk : kindS s) (h2 : s.f2 = false) :
    (s.f0.f0 = 1 ∧ s.f1 = 0 ∧ ∃ n, exO s.f0 = List.replicate (n + 1) .skip) ∨ (s.f0.f0 = 2 ∧ s.f1 = 0 ∧ exO s.f0 = [.keep s.f0.f2]) ∨ (s.f0.f0 = 3 ∧ (s.f1 = 1 ∨ s.f1 = 2) ∧ exO s.f0 = [.del s.f0.f2]) ∨ (s.f0.f0 = 4 ∧ (s.f1 = 1 ∨ s.f1 = 2) ∧ exO s.f0 = [.ins s.f0.f2]) := by
  have ho := h.1.1
  by_cases h1 : s.f0.f0 = 1
  · obtain ⟨a, b, c⟩ := okOne_skip ho h1
    refine .inl ⟨h1, (hk.1 (.inl h1)).1, (s.f0.f1 - 1).toNat, ?_⟩
    rw [exO_skip h1]
    congr 1; omega
  · rcases (okOne_ne ho h1).1 with e | e | e
    · exact .inr (.inl ⟨e, (hk.1 (.inr e)).1, by simp [exO, e]⟩)
    · exact .inr (.inr (.inl ⟨e, hk.2.1 e, by simp [exO, e]⟩))
    · exact .inr (.inr (.inr ⟨e, hk.2.2 e, by simp [exO, e]⟩))
theorem met_cons {s : Step} {os : List Step} : metS (s :: os) = false ↔ s.f2 = false ∧ metS os = false := by
  simp [metS]
theorem sides_ex : ∀ (os : List Step), metS os = false → (∀ s ∈ os, goodS s) → (∀ s ∈ os, kindS s) →
    ex (sideO 2 3 os) = fstT (exS os) ∧ ex (sideO 1 4 os) = sndT (exS os) ∧ ∀ b, touchO b os = touchT b (exS os)
  | [], _, _, _ => ⟨rfl, rfl, fun _ => rfl⟩
  | s :: os, hm, hg, hk => by
    obtain ⟨h2, hm'⟩ := met_cons.mp hm
    obtain ⟨i1, i2, i3⟩ := sides_ex os hm' (fun x hx => hg x (List.mem_cons_of_mem _ hx)) (fun x hx => hk x (List.mem_cons_of_mem _ hx))
    have e : exS (s :: os) = (exO s.f0).map (fun u => ((u, s.f1) : TU)) ++ exS os := by
      rw [exS_cons, h2]; simp
    rw [sideO_cons, sideO_cons, ex_app, ex_app, i1, i2, e]
    have t : ∀ b, touchO b (s :: os) = ((decide (s.f1 ≠ 0) && (decide (b ≠ 0) && decide (s.f1 ≠ b))) || touchT s.f1 (exS os)) := by
      intro b
      rw [touchO, h2, i3]; rfl
    rcases step_lines (hg s (List.mem_cons_self ..)) (hk s (List.mem_cons_self ..)) h2 with ⟨k, f, n, x⟩ | ⟨k, f, x⟩ | ⟨k, f, x⟩ | ⟨k, f, x⟩
    · have hmap : (List.replicate (n + 1) U.skip).map (fun u => ((u, s.f1) : TU)) = List.replicate (n + 1) ((.skip, 0) : TU) := by rw [List.map_replicate, f]
      rw [if_pos (.inl f), if_pos (.inl f), x, hmap, fst_skips, snd_skips]
      refine ⟨by simp [ex, x], by simp [ex, x], fun b => ?_⟩
      rw [t b, touch_skips, f]; simp
    · rw [if_pos (.inl f), if_pos (.inl f), x]
      refine ⟨by simp [ex, x, f, fstT], by simp [ex, x, f, sndT], fun b => ?_⟩
      rw [t b]; rfl
    · rw [x]
      rcases f with f | f
      · rw [if_neg (by omega), if_pos k, if_pos (.inr f)]
        refine ⟨?_, ?_, fun b => ?_⟩
        · show ex [⟨2, s.f0.f1, s.f0.f2⟩] ++ fstT (exS os) = fstT ((.del s.f0.f2, s.f1) :: exS os)
          rw [f, fst_d1]; simp [ex, exO]
        · show ex [s.f0] ++ sndT (exS os) = sndT ((.del s.f0.f2, s.f1) :: exS os)
          rw [f, snd_d1]; simp [ex, x]
        · rw [t b]; rfl
      · rw [if_pos (.inr f), if_neg (by omega), if_neg (by omega)]
        refine ⟨?_, ?_, fun b => ?_⟩
        · show ex [s.f0] ++ fstT (exS os) = fstT ((.del s.f0.f2, s.f1) :: exS os)
          rw [f, fst_d2]; simp [ex, x]
        · show ex [] ++ sndT (exS os) = sndT ((.del s.f0.f2, s.f1) :: exS os)
          rw [f, snd_d2]; rfl
        · rw [t b]; rfl
    · rw [x]
      rcases f with f | f
      · rw [if_neg (by omega), if_neg (by omega), if_pos (.inr f)]
        refine ⟨?_, ?_, fun b => ?_⟩
        · show ex [] ++ fstT (exS os) = fstT ((.ins s.f0.f2, s.f1) :: exS os)
          rw [f, fst_i1]; rfl
        · show ex [s.f0] ++ sndT (exS os) = sndT ((.ins s.f0.f2, s.f1) :: exS os)
          rw [f, snd_i1]; simp [ex, x]
        · rw [t b]; rfl
      · rw [if_pos (.inr f), if_neg (by omega), if_pos k]
        refine ⟨?_, ?_, fun b => ?_⟩
        · show ex [s.f0] ++ fstT (exS os) = fstT ((.ins s.f0.f2, s.f1) :: exS os)
          rw [f, fst_i2]; simp [ex, x]
        · show ex [⟨2, s.f0.f1, s.f0.f2⟩] ++ sndT (exS os) = sndT ((.ins s.f0.f2, s.f1) :: exS os)
          rw [f, snd_i2]; simp [ex, exO]
        · rw [t b]; rfl
theorem met_no3 : ∀ (os : List Step), (∀ s ∈ os, goodS s) → (no3 (exS os) ↔ metS os = false)
  | [], _ => ⟨fun _ => rfl, fun _ x hx => by simp [exS] at hx⟩
  | s :: os, hg => by
    have i := met_no3 os fun x hx => hg x (List.mem_cons_of_mem _ hx)
    have h1 := hg s (List.mem_cons_self ..)
    have hne : exO s.f0 ≠ [] := by
      by_cases hk : s.f0.f0 = 1
      · rw [exO_skip hk, replicate_toNat (okOne_skip h1.1.1 hk).1]; simp
      · rw [exO_ne hk]; simp
    rw [met_cons, exS_cons]
    constructor
    · intro h
      refine ⟨?_, i.mp fun x hx => h x (List.mem_append_right _ hx)⟩
      cases h2 : s.f2
      · rfl
      · exfalso
        rw [h2] at h
        cases hx : exO s.f0 with
        | nil => exact hne hx
        | cons u r => exact h (u, 3) (by rw [hx]; simp) rfl
    · rintro ⟨h2, h3⟩ x hx
      rcases List.mem_append.mp hx with hx | hx
      · obtain ⟨u, _, rfl⟩ := List.mem_map.mp hx
        rw [h2]
        show s.f1 ≠ 3
        have := h1.2
        omega
      · exact i.mpr h3 x hx
theorem swap_val {p q : List Op} (hp : Sx p) (hq : Sx q) (rp : rightL p = true) (rq : rightL q = true) {W : List TU} (hW : cmpT (ex p) false (ex q) = some W) :
    (rightU (un W) = false → swapL p q = ([], [], 6)) ∧ (rightU (un W) = true → (¬ no3 W → swapL p q = ([], [], 7)) ∧ (no3 W → (touchT 0 W = true → swapL p q = ([], [], 7)) ∧
      (touchT 0 W = false → swapL p q = if rightU (fstT W) = true ∧ rightU (sndT W) = true then (pack (nf [] (fstT W)), pack (nf [] (sndT W)), 0) else ([], [], 7)))) := by
  unfold swapL
  rw [if_pos ⟨rp, rq⟩]
  rcases walk_then hp hq rp rq with ⟨hw, _⟩ | ⟨os, hw, hc, g1, g2, he, hf, hsm, hsk, hr, _⟩
  · exfalso
    have hc := walkO_cmp (p.length + q.length) p q false (Nat.le_refl _) (rightL_okX rp hp).all (rightL_okX rq hq).all
    rw [hw, hW] at hc
    simp at hc
  · rw [hW] at hc
    obtain rfl := Option.some.inj hc
    have ks := walkO_kind _ _ _ _ _ (rightL_okX rp hp) (rightL_okX rq hq) hw
    simp only [hw]
    unfold swapS
    rw [hr]
    refine ⟨fun h => by rw [if_pos h], fun h => ?_⟩
    rw [if_neg (by rw [h]; simp)]
    refine ⟨fun h3 => ?_, fun h3 => ?_⟩
    · have : metS os = true := by
        cases hm : metS os
        · exact absurd ((met_no3 os g1).mpr hm) h3
        · rfl
      rw [if_pos (touch_met os 0 this)]
    · have hm := (met_no3 os g1).mp h3
      obtain ⟨s1, s2, s3⟩ := sides_ex os hm g1 ks
      rw [s3 0]
      refine ⟨fun ht => by rw [if_pos ht], fun ht => ?_⟩
      rw [if_neg (by rw [ht]; simp)]
      unfold swapEnd
      have f1 : ∀ o ∈ sideO 2 3 os, formO o := fun o ho => form_of (side_ok (.inl rfl) g1 o ho).1
      have f2 : ∀ o ∈ sideO 1 4 os, formO o := fun o ho => form_of (side_ok (.inr rfl) g1 o ho).1
      rw [right_iff f1, right_iff f2]
      unfold normL
      rw [s1, s2]
theorem swap_none {p q : List Op} (hp : Sx p) (hq : Sx q) (rp : rightL p = true) (rq : rightL q = true) (hW : cmpT (ex p) false (ex q) = none) : swapL p q = ([], [], 6) := by
  unfold swapL
  rw [if_pos ⟨rp, rq⟩]
  rcases walk_then hp hq rp rq with ⟨hw, _⟩ | ⟨os, hw, hc, _⟩
  · simp only [hw]
  · rw [hW] at hc; simp at hc
theorem swap_told {p q : List Op} (hp : Sx p) (hq : Sx q) (h : (swapL p q).2.2 = 0) : ∃ W, rightL p = true ∧ rightL q = true ∧ cmpT (ex p) false (ex q) = some W ∧ no3 W ∧ touchT 0 W = false ∧ rightU (un W) = true ∧ rightU (fstT W) = true ∧ rightU (sndT W) = true ∧
    swapL p q = (pack (nf [] (fstT W)), pack (nf [] (sndT W)), 0) := by
  by_cases hr : rightL p = true ∧ rightL q = true
  · obtain ⟨rp, rq⟩ := hr
    cases hW : cmpT (ex p) false (ex q) with
    | none => rw [swap_none hp hq rp rq hW] at h; simp at h
    | some W =>
      obtain ⟨v1, v2⟩ := swap_val hp hq rp rq hW
      cases ru : rightU (un W)
      · rw [v1 ru] at h; simp at h
      · obtain ⟨v3, v4⟩ := v2 ru
        by_cases h3 : no3 W
        · obtain ⟨v5, v6⟩ := v4 h3
          cases ht : touchT 0 W
          · have v := v6 ht
            by_cases hs : rightU (fstT W) = true ∧ rightU (sndT W) = true
            · rw [if_pos hs] at v
              exact ⟨W, rp, rq, rfl, h3, ht, ru, hs.1, hs.2, v⟩
            · rw [if_neg hs] at v
              rw [v] at h; simp at h
          · rw [v5 ht] at h; simp at h
        · rw [v3 h3] at h; simp at h
  · unfold swapL at h
    rw [if_neg hr] at h; simp at h
theorem swap_not {p q : List Op} (h : (swapL p q).2.2 ≠ 0) : (swapL p q).1 = [] ∧ (swapL p q).2.1 = [] := by
  unfold swapL at h ⊢
  split
  · rename_i c
    rw [if_pos c] at h
    cases hw : walkO (p.length + q.length) p q false with
    | none => exact ⟨rfl, rfl⟩
    | some os =>
      rw [hw] at h
      simp only at h ⊢
      unfold swapS at h ⊢
      split
      · exact ⟨rfl, rfl⟩
      · rename_i c1
        rw [if_neg c1] at h
        split
        · exact ⟨rfl, rfl⟩
        · rename_i c2
          rw [if_neg c2] at h
          unfold swapEnd at h ⊢
          split
          · rename_i c3
            rw [if_pos c3] at h
            exact absurd rfl h
          · exact ⟨rfl, rfl⟩
  · exact ⟨rfl, rfl⟩
theorem norm_small {l : List Op} {B : Nat} (hB : 0 < B) (h : ∀ o ∈ l, o.f2.size < B) : ∀ o ∈ normL l, o.f2.size < B := by
  intro o ho
  have he : ByteArray.empty.size = 0 := rfl
  rcases tx_pack _ o ho with e | ⟨x, hx, e⟩
  · rw [e, he]; exact hB
  · rcases nf_mem _ _ x hx with hx | hx
    · simp at hx
    · rcases tx_ex hx with e2 | ⟨y, hy, e2⟩
      · rw [e, e2, he]; exact hB
      · rw [e, e2]; exact h y hy
theorem norm_len {l : List Op} (h : ∀ o ∈ l, formO o) : (normL l).length ≤ l.length := by
  have := nf_pack_len l [] h
  simpa [normL] using this
theorem swap_len {p q : List Op} (hp : Sx p) (hq : Sx q) : ((swapL p q).1.length ≤ p.length + q.length ∧ ∀ o ∈ (swapL p q).1, o.f2.size < 1073741824) ∧ ((swapL p q).2.1.length ≤ p.length + q.length ∧ ∀ o ∈ (swapL p q).2.1, o.f2.size < 1073741824) := by
  by_cases h : (swapL p q).2.2 = 0
  · obtain ⟨W, rp, rq, hW, h3, ht, r1, r2, r3, e⟩ := swap_told hp hq h
    rcases walk_then hp hq rp rq with ⟨hw, _⟩ | ⟨os, hw, hc, g1, g2, he, hf, hsm, hsk, hr, _⟩
    · exfalso
      have hc := walkO_cmp (p.length + q.length) p q false (Nat.le_refl _) (rightL_okX rp hp).all (rightL_okX rq hq).all
      rw [hw, hW] at hc
      simp at hc
    · rw [hW] at hc
      obtain rfl := Option.some.inj hc
      have ks := walkO_kind _ _ _ _ _ (rightL_okX rp hp) (rightL_okX rq hq) hw
      obtain ⟨s1, s2, s3⟩ := sides_ex os ((met_no3 os g1).mp h3) g1 ks
      rw [e, ← s1, ← s2]
      have k1 := side_ok (b := 2) (a3 := 3) (.inl rfl) g1
      have k2 := side_ok (b := 1) (a3 := 4) (.inr rfl) g1
      have l1 := sideO_len 2 3 os
      have l2 := sideO_len 1 4 os
      have n1 := norm_len (l := sideO 2 3 os) fun o ho => form_of (k1 o ho).1
      have n2 := norm_len (l := sideO 1 4 os) fun o ho => form_of (k2 o ho).1
      exact ⟨⟨by show (normL _).length ≤ _; omega, norm_small (by omega) fun o ho => (k1 o ho).2⟩, by show (normL _).length ≤ _; omega, norm_small (by omega) fun o ho => (k2 o ho).2⟩
  · obtain ⟨a, b⟩ := swap_not h
    rw [a, b]
    exact ⟨⟨by simp, by simp⟩, by simp, by simp⟩
theorem Sx.swap {p q : List Op} (hp : Sx p) (hq : Sx q) (h : p.length + q.length ≤ 274877906944) : Sx (swapL p q).1 ∧ Sx (swapL p q).2.1 := by
  obtain ⟨⟨a, b⟩, c, d⟩ := swap_len hp hq
  exact ⟨⟨by omega, b⟩, by omega, d⟩
theorem num_val (x : Int) : patchworklaw15_num.f x = some x := rfl
theorem alive15 : Ev (fun k => patchworklaw15_alive.f k) true := by
  have s0 : Sx [] := ⟨by simp, by simp⟩
  have s1 : Sx [(⟨4, 0, ⟨#[97, 10]⟩⟩ : Op)] := ⟨by simp, fun o ho => by rw [List.mem_singleton.mp ho]; exact (by decide : (2 : Nat) < 1073741824)⟩
  have s2 : Sx [(⟨1, 3, ⟨#[]⟩⟩ : Op), ⟨4, 0, ⟨#[98, 10]⟩⟩] := ⟨by simp, fun o ho => by
    rcases List.mem_cons.mp ho with rfl | ho
    · exact (by decide : (0 : Nat) < 1073741824)
    · rw [List.mem_singleton.mp ho]; exact (by decide : (2 : Nat) < 1073741824)⟩
  have e0 : swapL [] [] = ([], [], 0) := by decide +kernel
  have e1 : swapL [(⟨4, 0, ⟨#[97, 10]⟩⟩ : Op)] [(⟨1, 3, ⟨#[]⟩⟩ : Op), ⟨4, 0, ⟨#[98, 10]⟩⟩] = ([⟨1, 2, ⟨#[]⟩⟩, ⟨4, 0, ⟨#[98, 10]⟩⟩], [⟨4, 0, ⟨#[97, 10]⟩⟩, ⟨1, 2, ⟨#[]⟩⟩, ⟨2, 0, ⟨#[98, 10]⟩⟩], 0) := by decide +kernel
  have a0 := pswap_ev s0 s0
  have a1 := pswap_ev s1 s2
  rw [e0] at a0
  rw [e1] at a1
  unfold patchworklaw15_alive.f
  refine Ev.bind' a0 ?_
  refine Ev.bind' a1 ?_
  exact Ev.now _
end Go.Proofs.Ytfoponahdidddaa.P
namespace Go.Proofs.Ytfoponahdidddaa.P
open Go.RowKit Go.Proofs.YtfoponahdidddaaW.PrintWords Go.Proofs.YtfoponahdidddaaW.PrintLast Go.Proofs.YtfoponahdidddaaW.PrintMore
def nearF (a : Int) : Int → List Op → Bool
  | _, [] => false
  | n, o :: s => if chO o = true then decide (n < a) else if o.f0 = 1 then false else nearF a (n + 1) s
theorem near_fore {a : Int} (s : List Op) : ∀ (p : List Op) (n : Nat), Sm (p ++ s) → n ≤ p.length → Ev (fun k => patchworkref8_near.l0 k (p ++ s) 1 a (n : Int) (p.length : Int)) (nearF a n s) := by
  induction s with
  | nil =>
    intro p n hb hn
    have c : (p.length : Int) ≥ 0 := by omega
    refine Ev.step (fun k => rfl) ?_
    simp only [patchworkref8_near.l0, if_pos c, lt_end, decide_false]
    refine Ev.step (fun k => rfl) ?_
    simp only [patchworkref8_near.j1, Bool.false_eq_true, if_false]
    exact Ev.now _
  | cons o s ih =>
    intro p n hb hn
    have hl := hb.len
    have i := ih (p ++ [o]) (n + 1) hb.snoc (by rw [len_snoc]; omega)
    rw [List.append_assoc, List.singleton_append] at i
    have c : (p.length : Int) ≥ 0 := by omega
    have w1 := wrap_len p o (by omega)
    have w2 : wrap64 ((n : Int) + 1) = ((n + 1 : Nat) : Int) := by rw [wrap_small (by omega) (by omega)]; omega
    refine Ev.step (fun k => rfl) ?_
    simp only [patchworkref8_near.l0, if_pos c, lt_mid, decide_true]
    refine Ev.step (fun k => rfl) ?_
    simp only [patchworkref8_near.j1, if_true, nn_nat, lt_mid, rdOp_mid, change_val, Option.bind_some, w1, w2]
    rw [nearF]
    cases chO o
    · simp only [Bool.false_eq_true, if_false]
      by_cases hk : o.f0 = 1
      · simp only [if_pos hk]; exact Ev.now _
      · simp only [if_neg hk]; exact i
    · simp only [if_true]; exact Ev.now _
theorem near_back {a : Int} (r : List Op) : ∀ (s : List Op) (n : Nat), Sm (r.reverse ++ s) → n ≤ s.length → Ev (fun k => patchworkref8_near.l0 k (r.reverse ++ s) (-1) a (n : Int) ((r.length : Int) - 1)) (nearF a n r) := by
  induction r with
  | nil =>
    intro s n hb hn
    have c : ¬ (([] : List Op).length : Int) - 1 ≥ 0 := by simp
    refine Ev.step (fun k => rfl) ?_
    simp only [patchworkref8_near.l0, if_neg c]
    refine Ev.step (fun k => rfl) ?_
    simp only [patchworkref8_near.j1, Bool.false_eq_true, if_false]
    exact Ev.now _
  | cons o r ih =>
    intro s n hb hn
    have e : (o :: r).reverse ++ s = r.reverse ++ o :: s := by simp
    rw [e] at hb ⊢
    have hl := hb.1
    simp only [List.length_append, List.length_cons, List.length_reverse] at hl
    have i := ih (o :: s) (n + 1) hb (by simp only [List.length_cons]; omega)
    have ln : ((o :: r).length : Int) - 1 = (r.reverse.length : Int) := by rw [List.length_cons, List.length_reverse]; omega
    have c : (r.reverse.length : Int) ≥ 0 := by omega
    have w1 : wrap64 ((r.reverse.length : Int) + -1) = (r.length : Int) - 1 := by rw [List.length_reverse, wrap_small (by omega) (by omega)]; omega
    have w2 : wrap64 ((n : Int) + 1) = ((n + 1 : Nat) : Int) := by rw [wrap_small (by omega) (by omega)]; omega
    rw [ln]
    refine Ev.step (fun k => rfl) ?_
    simp only [patchworkref8_near.l0, if_pos c, lt_mid, decide_true]
    refine Ev.step (fun k => rfl) ?_
    simp only [patchworkref8_near.j1, if_true, nn_nat, lt_mid, rdOp_mid, change_val, Option.bind_some, w1, w2]
    rw [nearF]
    cases chO o
    · simp only [Bool.false_eq_true, if_false]
      by_cases hk : o.f0 = 1
      · simp only [if_pos hk]; exact Ev.now _
      · simp only [if_neg hk]; exact i
    · simp only [if_true]; exact Ev.now _
def trimO (a : Int) : List Op → List Op → List Op
  | _, [] => []
  | r, o :: s => (if o.f0 = 2 ∧ nearF a 0 s = false ∧ nearF a 0 r = false then ⟨1, 1, ⟨#[]⟩⟩ else o) :: trimO a (o :: r) s
theorem trim_len (a : Int) : ∀ (s r : List Op), (trimO a r s).length = s.length
  | [], _ => rfl
  | o :: s, r => by rw [trimO, List.length_cons, List.length_cons, trim_len a s]
theorem reftrim_loop {a : Int} (s : List Op) : ∀ (r out v : List Op), Sm (r.reverse ++ s) → out.length ≤ r.length →
    Ev (fun k => (patchworkref8_norm.f k (out ++ trimO a r s)).bind fun t514 => ((patchworkref8_Rest.f k t514).bind fun t517 => (some t517))) v →
    Ev (fun k => patchworkref8_Trim.l0 k (r.reverse ++ s) a out (r.length : Int)) v := by
  induction s with
  | nil =>
    intro r out v hb ho hv
    have e : (r.length : Int) = (r.reverse.length : Int) := by rw [List.length_reverse]
    rw [e]
    refine Ev.step (fun k => rfl) ?_
    simp only [patchworkref8_Trim.l0, lt_end, if_false]
    rw [trimO, List.append_nil] at hv
    exact hv
  | cons o s ih =>
    intro r out v hb ho hv
    have hl := hb.1
    simp only [List.length_append, List.length_cons, List.length_reverse] at hl
    have e : (r.length : Int) = (r.reverse.length : Int) := by rw [List.length_reverse]
    have i := fun x h => ih (o :: r) (out ++ [x]) v (by simpa using hb) (by rw [len_snoc, List.length_cons]; omega) h
    have e2 : (o :: r).reverse ++ s = r.reverse ++ o :: s := by simp
    rw [e2] at i
    have e3 : ((o :: r).length : Int) = ((r.reverse ++ [o]).length : Int) := by simp
    rw [e3] at i
    have w : wrap64 ((r.reverse.length : Int) + 1) = ((r.reverse ++ [o]).length : Int) := wrap_len _ _ (by rw [List.length_reverse]; omega)
    have hlo : out.length < 4398046511104 := by omega
    rw [trimO] at hv
    rw [e]
    refine Ev.step (fun k => rfl) ?_
    simp only [patchworkref8_Trim.l0, lt_mid, nn_nat, if_true, rdOp_mid, w, if_pos hlo]
    by_cases hk : o.f0 = 2
    · simp only [if_pos hk]
      have f1 : Ev (fun k => patchworkref8_near.f k (r.reverse ++ o :: s) (r.reverse.length : Int) 1 a) (nearF a 0 s) := by
        have := near_fore (a := a) s (r.reverse ++ [o]) 0 hb.snoc (Nat.zero_le _)
        rw [List.append_assoc, List.singleton_append, ← w] at this
        exact this
      have f2 : Ev (fun k => patchworkref8_near.f k (r.reverse ++ o :: s) (r.reverse.length : Int) (-1) a) (nearF a 0 r) := by
        have := near_back (a := a) r (o :: s) 0 hb (Nat.zero_le _)
        have w2 : wrap64 ((r.reverse.length : Int) + -1) = (r.length : Int) - 1 := by rw [List.length_reverse, wrap_small (by omega) (by omega)]; omega
        rw [← w2] at this
        exact this
      refine Ev.bind' f1 ?_
      cases n1 : nearF a 0 s
      · simp only [Bool.false_eq_true, if_false]
        refine Ev.bind' f2 ?_
        cases n2 : nearF a 0 r
        · rw [if_pos ⟨hk, n1, n2⟩] at hv
          simp only [Bool.false_eq_true, if_false]
          refine i _ ?_
          rw [List.append_assoc, List.singleton_append]
          exact hv
        · rw [if_neg (by rw [n2]; simp)] at hv
          simp only [if_true]
          refine i _ ?_
          rw [List.append_assoc, List.singleton_append]
          exact hv
      · rw [if_neg (by rw [n1]; simp)] at hv
        simp only [if_true]
        refine i _ ?_
        rw [List.append_assoc, List.singleton_append]
        exact hv
    · rw [if_neg (fun h => hk h.1)] at hv
      simp only [if_neg hk]
      refine i _ ?_
      rw [List.append_assoc, List.singleton_append]
      exact hv
theorem trim_form (a : Int) : ∀ (s r : List Op), (∀ o ∈ s, formO o) → (∀ o ∈ trimO a r s, formO o) ∧ skips (trimO a r s) ≤ (sums 3 s : Int)
  | [], r, _ => ⟨fun o ho => by simp [trimO] at ho, by rw [trimO, skips_nil]; simp [sums]⟩
  | o :: s, r, h => by
    obtain ⟨i1, i2⟩ := trim_form a s (o :: r) fun x hx => h x (List.mem_cons_of_mem _ hx)
    have ho := h o (List.mem_cons_self ..)
    rw [trimO, skips_cons, sums_cons]
    have fs : formO ⟨1, 1, ⟨#[]⟩⟩ := form_of (by decide)
    refine ⟨fun x hx => ?_, ?_⟩
    · rcases List.mem_cons.mp hx with rfl | hx
      · split
        · exact fs
        · exact ho
      · exact i1 x hx
    · have c := skips_le 3 (l := [o]) (fun x hx => by rw [List.mem_singleton.mp hx]; exact ho)
      rw [skips_cons, skips_nil, sums_cons, sums_nil] at c
      split
      · rename_i hc
        have : cnt 3 o = 1 := by unfold cnt; rw [if_neg (by omega), if_pos (.inl hc.1)]
        simp only [if_true]
        omega
      · omega
theorem trim_small {B : Nat} (hB : 0 < B) (a : Int) : ∀ (s r : List Op), (∀ o ∈ s, o.f2.size < B) → ∀ o ∈ trimO a r s, o.f2.size < B
  | [], r, _ => fun o ho => by simp [trimO] at ho
  | x :: s, r, h => by
    intro o ho
    rw [trimO] at ho
    rcases List.mem_cons.mp ho with rfl | ho
    · split
      · exact hB
      · exact h x (List.mem_cons_self ..)
    · exact trim_small hB a s _ (fun y hy => h y (List.mem_cons_of_mem _ hy)) o ho
theorem Sm.trim {l : List Op} (h : Sm l) (a : Int) (r : List Op) : Sm (trimO a r l) := by
  refine ⟨by rw [trim_len]; exact h.1, trim_small (by omega) a l r h.2⟩
theorem cap_val (x : Int) : patchworkref1_Cap.f x 0 1000000 = some (max 0 (min x 1000000)) := by
  unfold patchworkref1_Cap.f
  by_cases h1 : x < 0
  · rw [if_pos h1]; congr 1; omega
  · rw [if_neg h1]
    by_cases h2 : x > 1000000
    · rw [if_pos h2]; congr 1; omega
    · rw [if_neg h2]; congr 1; omega
def trimL (l : List Op) (x : Int) : List Op := if rightL l = true then restL (normL (trimO (max 0 (min x 1000000)) [] (normL l))) else []
theorem sums_norm {l : List Op} (h : rightL l = true) : sums 3 (normL l) ≤ 2147483648 := by
  have := right_norm h
  exact (rightL_ok this).2.1
theorem reftrim_ev {l : List Op} (h : Sm l) (x : Int) : Ev (fun k => patchworkref8_Trim.f k l x) (trimL l x) := by
  unfold trimL
  refine Ev.bind' (refright_ev h) ?_
  cases hr : rightL l
  · simp only [Bool.false_eq_true, if_false]; exact Ev.now _
  simp only [if_true, cap_val, Option.bind_some]
  have hf := rightL_form hr
  have hs : skips l ≤ 1099511627776 := by
    have := skips_le 3 hf
    have := (rightL_ok hr).2.1
    omega
  have hn := Sm.norm h hf
  have fn := rightL_form (right_norm hr)
  obtain ⟨t1, t2⟩ := trim_form (max 0 (min x 1000000)) (normL l) [] fn
  have sn := sums_norm hr
  refine Ev.bind' (refnorm_ev h hf hs) ?_
  refine reftrim_loop (normL l) [] [] _ hn (Nat.le_refl _) ?_
  rw [List.nil_append]
  refine Ev.bind' (refnorm_ev (hn.trim _ _) t1 (by omega)) ?_
  exact Ev.bind' (refrest_ev (Sm.norm (hn.trim _ _) t1)) (Ev.now _)
theorem near_zero : ∀ (s : List Op) (n : Int), 0 ≤ n → nearF 0 n s = false
  | [], _, _ => rfl
  | o :: s, n, h => by
    rw [nearF]
    split
    · rw [decide_eq_false_iff_not]; omega
    · split
      · rfl
      · exact near_zero s (n + 1) (by omega)
def blkO (o : Op) : Op := if o.f0 = 2 then ⟨1, 1, ⟨#[]⟩⟩ else o
theorem trim_zero : ∀ (s r : List Op), trimO 0 r s = s.map blkO
  | [], _ => rfl
  | o :: s, r => by
    rw [trimO, near_zero s 0 (by omega), near_zero r 0 (by omega), trim_zero s, List.map_cons]
    congr 1
    unfold blkO
    by_cases h : o.f0 = 2
    · rw [if_pos ⟨h, rfl, rfl⟩, if_pos h]
    · rw [if_neg (fun x => h x.1), if_neg h]
theorem restN_app (A B : List Op) : ∀ n, n ≤ A.length → restN (A ++ B) n = restN A n
  | 0, _ => rfl
  | n + 1, h => by
    rw [restN, restN, restN_app A B n (by omega)]
    rw [List.getD_eq_getElem?_getD, List.getD_eq_getElem?_getD, List.getElem?_append_left (by omega)]
theorem rest_skip {A : List Op} {o : Op} (h : o.f0 = 1) : restL (A ++ [o]) = restL A := by
  unfold restL
  have e : ((A ++ [o]).getD A.length ⟨0, 0, ⟨#[]⟩⟩) = o := by
    rw [List.getD_eq_getElem?_getD, List.getElem?_append_right (Nat.le_refl _)]; simp
  rw [len_snoc, restN, e, if_pos h, restN_app A [o] _ (Nat.le_refl _)]
  have := restN_le A A.length
  rw [List.take_append_of_le_length this]
theorem rest_ne {A : List Op} {o : Op} (h : o.f0 ≠ 1) : restL (A ++ [o]) = A ++ [o] := by
  unfold restL
  have e : ((A ++ [o]).getD A.length ⟨0, 0, ⟨#[]⟩⟩) = o := by
    rw [List.getD_eq_getElem?_getD, List.getElem?_append_right (Nat.le_refl _)]; simp
  rw [len_snoc, restN, e, if_neg h, List.take_of_length_le (by rw [len_snoc]; omega)]
theorem rest_len (l : List Op) : (restL l).length ≤ l.length := by unfold restL; rw [List.length_take]; omega
theorem ends : ∀ u : List U, ∃ v n, u = v ++ List.replicate n .skip ∧ (v = [] ∨ ∃ w x, v = w ++ [x] ∧ isSkip x = false)
  | [] => ⟨[], 0, rfl, .inl rfl⟩
  | x :: u => by
    obtain ⟨v, n, rfl, h⟩ := ends u
    rcases h with rfl | ⟨w, y, rfl, hy⟩
    · by_cases hx : isSkip x = false
      · exact ⟨[x], n, rfl, .inr ⟨[], x, rfl, hx⟩⟩
      · cases x with
        | skip => exact ⟨[], n + 1, rfl, .inl rfl⟩
        | keep t => exact absurd rfl hx
        | del t => exact absurd rfl hx
        | ins t => exact absurd rfl hx
    · exact ⟨x :: (w ++ [y]), n, rfl, .inr ⟨x :: w, y, rfl, hy⟩⟩
theorem pack_skip1 (n : Nat) : pack (List.replicate (n + 1) U.skip) = [⟨1, ((n + 1 : Nat) : Int), ByteArray.empty⟩] := by
  have := pack_skips n [] (fun x r h => by simp at h)
  rwa [List.append_nil] at this
theorem rest_pack {v : List U} (h : v = [] ∨ ∃ w x, v = w ++ [x] ∧ isSkip x = false) (n : Nat) : restL (pack (v ++ List.replicate n .skip)) = pack v := by
  rcases h with rfl | ⟨w, x, rfl, hx⟩
  · cases n with
    | zero => rfl
    | succ n =>
      rw [List.nil_append, pack_skip1]
      exact rest_skip (A := []) rfl
  · have e : pack (w ++ [x]) = pack w ++ [opU x] := pack_app_r [x] w (fun y hy => by rw [List.mem_singleton.mp hy]; exact hx)
    have k := opU_kind hx
    cases n with
    | zero =>
      rw [List.replicate_zero, List.append_nil, e]
      exact rest_ne k
    | succ n =>
      rw [pack_end_ne (w ++ [x]) _ (by
        intro A z h
        rw [e] at h
        have := (List.append_inj' h rfl).2
        rw [← (List.cons.inj this).1]; exact k), pack_skip1, rest_skip rfl, e]
      exact rest_ne k
theorem rest_more (u : List U) (m : Nat) : restL (pack (u ++ List.replicate m .skip)) = restL (pack u) := by
  obtain ⟨v, n, rfl, h⟩ := ends u
  rw [List.append_assoc, List.replicate_append_replicate, rest_pack h, rest_pack h]
end Go.Proofs.Ytfoponahdidddaa.P
namespace Go.Proofs.Ytfoponahdidddaa.P
open Go.RowKit Go.Proofs.YtfoponahdidddaaW.PrintWords Go.Proofs.YtfoponahdidddaaW.PrintLast Go.Proofs.YtfoponahdidddaaW.PrintMore
theorem pend_zero {I : List TU} (h : pend 0 I) : I = [] := by
  cases I with
  | nil => rfl
  | cons x I => have := (h x (List.mem_cons_self ..)).2; omega
theorem snd_nfT : ∀ (W I : List TU) (b : Int), owns W → touchT b W = false → pend b I → (b = 2 → sndT (nfT I W) = sndT I ++ nf [] (sndT W)) ∧ (b ≠ 2 → sndT (nfT I W) = nf (sndT I) (sndT W))
  | [], I, b, _, _, _ => ⟨fun _ => by rw [nfT, sndT, nf, List.append_nil], fun _ => rfl⟩
  | (.ins t, c) :: W, I, b, ho, ht, hI => by
    have h12 : c = 1 ∨ c = 2 := ho.head
    have hc := next_own ht h12
    obtain ⟨i1, i2⟩ := snd_nfT W _ c ho.tail (touch_tail ht) (hI.snoc hc h12 t)
    rcases h12 with h | h
    · subst h
      refine ⟨fun h => by omega, fun _ => ?_⟩
      rw [nfT, i2 (by decide), snd_app, snd_i1, snd_i1, nf]; rfl
    · subst h
      have key : sndT (nfT I ((.ins t, 2) :: W)) = sndT I ++ nf [] (sndT ((.ins t, 2) :: W)) := by
        rw [nfT, i1 rfl, snd_app, snd_i2, snd_i2, nf, List.append_assoc]; rfl
      refine ⟨fun _ => key, fun h => ?_⟩
      obtain rfl : b = 0 := by omega
      have e := pend_zero hI
      subst e
      rw [key]; rfl
  | (.del t, c) :: W, I, b, ho, ht, hI => by
    have h12 : c = 1 ∨ c = 2 := ho.head
    have hc := next_own ht h12
    obtain ⟨i1, i2⟩ := snd_nfT W I c ho.tail (touch_tail ht) (hI.same hc)
    rcases h12 with h | h
    · subst h
      refine ⟨fun h => by omega, fun _ => ?_⟩
      rw [nfT, snd_d1, snd_d1, i2 (by decide), nf]
    · subst h
      have key : sndT (nfT I ((.del t, 2) :: W)) = sndT I ++ nf [] (sndT ((.del t, 2) :: W)) := by
        rw [nfT, snd_d2, snd_d2, i1 rfl]
      refine ⟨fun _ => key, fun h => ?_⟩
      obtain rfl : b = 0 := by omega
      have e := pend_zero hI
      subst e
      rw [key]; rfl
  | (.keep t, c) :: W, I, b, ho, ht, hI => by
    have h : c = 0 := ho.head
    subst h
    have i := (snd_nfT W [] 0 ho.tail (touch_tail ht) (.nil 0)).2 (by decide)
    have e : sndT (nfT I ((.keep t, 0) :: W)) = sndT I ++ .keep t :: nf [] (sndT W) := by rw [nfT, snd_app, sndT, i]; rfl
    exact ⟨fun _ => by rw [e, sndT, nf]; rfl, fun _ => by rw [e, sndT, nf]⟩
  | (.skip, c) :: W, I, b, ho, ht, hI => by
    have h : c = 0 := ho.head
    subst h
    have i := (snd_nfT W [] 0 ho.tail (touch_tail ht) (.nil 0)).2 (by decide)
    have e : sndT (nfT I ((.skip, 0) :: W)) = sndT I ++ .skip :: nf [] (sndT W) := by rw [nfT, snd_app, sndT, i]; rfl
    exact ⟨fun _ => by rw [e, sndT, nf]; rfl, fun _ => by rw [e, sndT, nf]⟩
theorem ok_closed {u : List U} (h : rightU u = true) : okS (olds u) = true ∧ okS (news u) = true := by
  unfold rightU at h
  simpa using h
theorem okS_parts {s : List (Option ByteArray)} (h : okS s = true) : textS s = true ∧ closedS false s = true ∧ s.length ≤ 2147483648 := by
  unfold okS at h
  simpa using h
theorem okS_mk {s : List (Option ByteArray)} (h1 : textS s = true) (h2 : closedS false s = true) (h3 : s.length ≤ 2147483648) : okS s = true := by
  unfold okS
  simp [h1, h2, h3]
theorem rightU_mk {u : List U} (h1 : okS (olds u) = true) (h2 : okS (news u) = true) : rightU u = true := by unfold rightU; rw [h1, h2]; rfl
theorem no3_sw {W : List TU} (h : owns W) : no3 (swT W) := by
  intro x hx
  have := h.sw x hx
  obtain ⟨u, b⟩ := x
  cases u with
  | skip => have h : b = 0 := this; subst h; simp
  | keep t => have h : b = 0 := this; subst h; simp
  | del t => rcases this with h | h <;> (have h : b = _ := h; subst h) <;> simp
  | ins t => rcases this with h | h <;> (have h : b = _ := h; subst h) <;> simp
theorem ex_blkO {o : Op} (h : formO o) : exO (blkO o) = blkU (exO o) := by
  unfold blkO
  by_cases h2 : o.f0 = 2
  · rw [if_pos h2]; simp [exO, h2, blkU, blk1]
  · rw [if_neg h2]
    unfold exO
    by_cases h1 : o.f0 = 1
    · rw [if_pos h1]; simp [blkU, blk1]
    · rw [if_neg h1, if_neg h2]
      split <;> rfl
theorem ex_blk : ∀ {l : List Op}, (∀ o ∈ l, formO o) → ex (l.map blkO) = blkU (ex l)
  | [], _ => rfl
  | o :: l, h => by
    rw [List.map_cons, ex_cons, ex_cons, blk_app, ex_blkO (h o (List.mem_cons_self ..)), ex_blk fun x hx => h x (List.mem_cons_of_mem _ hx)]
theorem trim0 {l : List Op} (h : rightL l = true) : trimL l 0 = restL (pack (nf [] (blkU (ex l)))) := by
  unfold trimL
  rw [if_pos h, show max 0 (min (0 : Int) 1000000) = 0 from by decide, trim_zero]
  unfold normL
  rw [ex_blk (form_pack _), ex_pack, nf_blk]
  show restL (pack (nf [] (nf [] (blkU (ex l))))) = _
  rw [nf_idem]
theorem trim0_like {a p : List Op} (ha : rightL a = true) (hp : rightL p = true) {u : List U} {n : Nat} (he : ex a = nf [] u) (hb : blkU u = blkU (ex p) ++ List.replicate n .skip) : trimL a 0 = trimL p 0 := by
  rw [trim0 ha, trim0 hp, he, nf_blk]
  show restL (pack (nf [] (nf [] (blkU u)))) = _
  rw [nf_idem, hb, nf_tail, rest_more]
theorem swap_back {p q : List Op} (hp : Sx p) (hq : Sx q) (lq : p.length + q.length ≤ 137438953472) (h : (swapL p q).2.2 = 0) :
    (swapL (swapL p q).1 (swapL p q).2.1).2.2 = 0 ∧ trimL (swapL (swapL p q).1 (swapL p q).2.1).1 0 = trimL p 0 ∧ trimL (swapL (swapL p q).1 (swapL p q).2.1).2.1 0 = trimL q 0 := by
  obtain ⟨sx, sy⟩ := hp.swap hq (by omega)
  obtain ⟨W, rp, rq, hW, h3, ht, r1, r2, r3, e⟩ := swap_told hp hq h
  have hw := WT.of _ _ _ _ hW
  have ho := hw.owns h3
  rw [e] at sx sy ⊢
  have sx : Sx (pack (nf [] (fstT W))) := sx
  have sy : Sx (pack (nf [] (sndT W))) := sy
  show (swapL (pack (nf [] (fstT W))) (pack (nf [] (sndT W)))).2.2 = 0 ∧ trimL (swapL (pack (nf [] (fstT W))) (pack (nf [] (sndT W)))).1 0 = _ ∧ trimL (swapL (pack (nf [] (fstT W))) (pack (nf [] (sndT W)))).2.1 0 = _
  have ex1 : ex (pack (nf [] (fstT W))) = fstT (nfT [] W) := by rw [ex_pack, fst_nfT W [] 0 ho ht (.nil 0)]; rfl
  have ex2 : ex (pack (nf [] (sndT W))) = sndT (nfT [] W) := by rw [ex_pack, (snd_nfT W [] 0 ho ht (.nil 0)).2 (by decide)]; rfl
  obtain ⟨t2, o2⟩ := touch_nfT W [] 0 0 ho ht (.nil 0) (.inl rfl)
  obtain ⟨k1, k2⟩ := ok_closed r2
  obtain ⟨k3, k4⟩ := ok_closed r3
  have n1 : news (fstT (nfT [] W)) = news (fstT W) := by rw [← ex1, ex_pack, news_nf0]
  have n2 : news (sndT (nfT [] W)) = news (sndT W) := by rw [← ex2, ex_pack, news_nf0]
  have n3 : olds (fstT (nfT [] W)) = olds (fstT W) := by rw [← ex1, ex_pack, olds_nf0]
  have cW := cmp_sw (nfT [] W) false 0 o2 t2 (by rw [n1]; exact (okS_parts k2).2.1)
  rw [← ex1, ← ex2] at cW
  have ow := o2.sw
  have h3' := no3_sw o2
  have tw := touch_sw0 o2 t2
  have es : swT (nfT [] W) = nfT [] (swT W) := nfT_sw W []
  have tw1 := touch_sw0 ho ht
  have f1 : fstT (swT (nfT [] W)) = nf [] (fstT (swT W)) := by rw [es, fst_nfT (swT W) [] 0 ho.sw tw1 (.nil 0)]; rfl
  have f2 : sndT (swT (nfT [] W)) = nf [] (sndT (swT W)) := by rw [es, (snd_nfT (swT W) [] 0 ho.sw tw1 (.nil 0)).2 (by decide)]; rfl
  have oa : okS (olds (allT (swT (nfT [] W)))) = true := by rw [all_sw, ← olds_fst _ o2.ok, n3]; exact k1
  have na : okS (news (allT (swT (nfT [] W)))) = true := by rw [all_sw, ← news_snd _ o2.ok, n2]; exact k4
  have mid : okS (news (fstT (swT W))) = true := by
    have up := rightL_U rp
    have uq := rightL_U rq
    obtain ⟨p1, p2⟩ := ok_closed up
    obtain ⟨q1, q2⟩ := ok_closed uq
    obtain ⟨m1, m2, m3⟩ := mid_sw hw h3 (okS_parts p2).1 (okS_parts q1).1
    have a1 := (okS_parts p2).2.2
    have a2 := (okS_parts q1).2.2
    exact okS_mk m2 m1 (by omega)
  have ru : rightU (un (swT (nfT [] W))) = true := by rw [un_no3 h3']; exact rightU_mk oa na
  have rf : rightU (fstT (swT (nfT [] W))) = true := by
    refine rightU_mk ?_ ?_
    · rw [olds_fst _ ow.ok]; exact oa
    · rw [f1, news_nf0]; exact mid
  have rs : rightU (sndT (swT (nfT [] W))) = true := by
    refine rightU_mk ?_ ?_
    · rw [← mid_fst _ ow.ok, f1, news_nf0]; exact mid
    · rw [news_snd _ ow.ok]; exact na
  have rx : rightL (pack (nf [] (fstT W))) = true := by rw [right_pack, rightU_nf]; exact r2
  have ry : rightL (pack (nf [] (sndT W))) = true := by rw [right_pack, rightU_nf]; exact r3
  have v := ((swap_val sx sy rx ry cW).2 ru).2 h3' |>.2 tw
  rw [if_pos ⟨rf, rs⟩, f1, f2, nf_idem, nf_idem] at v
  rw [v]
  obtain ⟨n, b1⟩ := blk_fst hw h3
  obtain ⟨m, b2⟩ := blk_snd hw h3
  refine ⟨rfl, ?_, ?_⟩
  · refine trim0_like ?_ rp (ex_pack _) b1
    rw [f1] at rf
    rw [right_pack]; exact rf
  · refine trim0_like ?_ rq (ex_pack _) b2
    rw [f2] at rs
    rw [right_pack]; exact rs
theorem trim_le {l : List Op} (x : Int) : (trimL l x).length ≤ l.length := by
  unfold trimL
  split
  · rename_i hr
    have hf := rightL_form hr
    have fn := rightL_form (right_norm hr)
    obtain ⟨t1, _⟩ := trim_form (max 0 (min x 1000000)) (normL l) [] fn
    have a1 := rest_len (normL (trimO (max 0 (min x 1000000)) [] (normL l)))
    have a2 := norm_len t1
    have a3 := norm_len hf
    rw [trim_len] at a2
    omega
  · simp
end Go.Proofs.Ytfoponahdidddaa.P
