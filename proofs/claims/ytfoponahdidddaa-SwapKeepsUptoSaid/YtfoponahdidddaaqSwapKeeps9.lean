/- Own and printed texts that the theorem of SwapKeeps reaches, put together. -/
import Derived.Test.YtfoponahdidddaaqSwapKeeps8
import Derived.Test.YtfoponahdidddaaqSwapKeeps5
import Derived.Test.YtfoponahdidddaaqSwapKeeps3
set_option linter.unusedVariables false
set_option linter.unusedSimpArgs false
namespace Go.Proofs.Ytfoponahdidddaa.P
open Go.RowKit Go.Proofs.YtfoponahdidddaaW.PrintWords Go.Proofs.YtfoponahdidddaaW.PrintLast Go.Proofs.YtfoponahdidddaaW.PrintMore
theorem told_loop (s : List Step) : ∀ (p : List Step) (out v : List Op) (b : Bool), (p ++ s).length < 1099511627777 → out.length ≤ p.length → out ++ stepsL s = v → Ev (fun k => ops_Right.f k v) b → Ev (fun k => compose_told.l0 k out (p ++ s) ((p ++ s).length : Int) (p.length : Int)) (v, b) := by
  induction s with
  | nil =>
    intro p out v b hb ho hv h
    have hv : out = v := by rw [← hv]; simp [stepsL]
    subst hv
    refine Ev.step (fun k => rfl) ?_
    simp only [compose_told.l0, lt_end, if_false]
    exact Ev.bind' h (Ev.now _)
  | cons x s ih =>
    intro p out v b hb ho hv h
    have hl := hb
    simp only [List.length_append, List.length_cons] at hl
    have i := fun out h1 h2 => ih (p ++ [x]) out v b (by simpa using hb) h1 h2 h
    rw [List.append_assoc, List.singleton_append] at i
    have w := wrap_len p x (by omega)
    have e : rd_Step (p ++ x :: s) (p.length : Int) = x := getD_mid p s x zStep
    rw [stepsL_cons] at hv
    have c : out.length < 4398046511104 := by omega
    refine Ev.step (fun k => rfl) ?_
    simp only [compose_told.l0, lt_mid, nn_nat, if_true, e, w, if_pos c]
    cases hg : x.f2
    · simp only [Bool.false_eq_true, if_false]
      refine i _ (by simp only [List.length_append, List.length_singleton]; omega) ?_
      rw [← hv, hg]; simp
    · simp only [if_true]
      refine i _ (by simp only [List.length_append, List.length_singleton]; omega) ?_
      rw [← hv, hg]; simp
theorem told_ev {os : List Step} (h : os.length ≤ 1099511627776) (hs : Sm (stepsL os)) : Ev (fun k => compose_told.f k os) (stepsL os, rightL (stepsL os)) :=
  told_loop os [] [] _ _ (by simpa using (by omega : os.length < 1099511627777)) (by simp) (by simp) (right_ev hs)
theorem thenL_len {p q : List Op} (hp : Sx p) (hq : Sx q) : (thenL p q).1.length ≤ p.length + q.length ∧ ∀ o ∈ (thenL p q).1, o.f2.size < 1073741824 := by
  cases rp : rightL p
  · unfold thenL; simp [rp]
  cases rq : rightL q
  · unfold thenL; simp [rq]
  rcases walk_then hp hq rp rq with ⟨hw, e⟩ | ⟨os, hw, _, g1, g2, he, hf, hsm, hsk, hr, e⟩
  · rw [e]; simp
  · rw [e]
    split
    · refine ⟨?_, ?_⟩
      · have h1 := nf_pack_len (stepsL os) [] hf
        have h2 : (stepsL os).length ≤ os.length := by unfold stepsL; rw [List.length_map]; exact List.length_filter_le _ _
        simp only [List.length_nil] at h1
        show (pack (nf [] (ex (stepsL os)))).length ≤ _
        omega
      · intro o ho
        have ho : o ∈ pack (nf [] (ex (stepsL os))) := ho
        have he0 : ByteArray.empty.size = 0 := rfl
        rcases tx_pack _ o ho with e | ⟨x, hx, e⟩
        · rw [e, he0]; omega
        · rcases nf_mem _ _ _ hx with hx | hx
          · simp at hx
          · rcases tx_ex hx with e2 | ⟨y, hy, e2⟩
            · rw [e, e2, he0]; omega
            · rw [e, e2]
              obtain ⟨s, hs, rfl⟩ := List.mem_map.mp hy
              exact (g1 s (List.mem_filter.mp hs).1).1.2
    · simp
theorem Sx.then {p q : List Op} (hp : Sx p) (hq : Sx q) (h : p.length + q.length ≤ 274877906944) : Sx (thenL p q).1 := by
  obtain ⟨h1, h2⟩ := thenL_len hp hq
  exact ⟨by omega, h2⟩
end Go.Proofs.Ytfoponahdidddaa.P
namespace Go.Proofs.Ytfoponahdidddaa.P
open Go.RowKit Go.Proofs.YtfoponahdidddaaW.PrintWords Go.Proofs.YtfoponahdidddaaW.PrintLast Go.Proofs.YtfoponahdidddaaW.PrintMore
def sideO (b a3 : Int) (l : List Step) : List Op := l.flatMap fun s => if s.f1 = 0 ∨ s.f1 = b then [s.f0] else if s.f0.f0 = a3 then [⟨2, s.f0.f1, s.f0.f2⟩] else []
theorem sideO_cons (b a3 : Int) (s : Step) (l : List Step) : sideO b a3 (s :: l) = (if s.f1 = 0 ∨ s.f1 = b then [s.f0] else if s.f0.f0 = a3 then [⟨2, s.f0.f1, s.f0.f2⟩] else []) ++ sideO b a3 l := by simp [sideO]
def touchO : Int → List Step → Bool
  | _, [] => false
  | b, s :: l => s.f2 || ((decide (s.f1 ≠ 0) && (decide (b ≠ 0) && decide (s.f1 ≠ b))) || touchO s.f1 l)
theorem touch_met : ∀ (l : List Step) (b : Int), metS l = true → touchO b l = true
  | [], _, h => by simp [metS] at h
  | s :: l, b, h => by
    rw [touchO]
    cases hs : s.f2
    · have : metS l = true := by simpa [metS, hs] using h
      rw [touch_met l _ this]; simp
    · rfl
theorem sideO_len (b a3 : Int) : ∀ l : List Step, (sideO b a3 l).length ≤ l.length
  | [] => Nat.le_refl _
  | s :: l => by
    rw [sideO_cons, List.length_append]
    have := sideO_len b a3 l
    split
    · simp; omega
    · split
      · simp; omega
      · simp; omega
theorem side_loop (b a3 : Int) (s : List Step) : ∀ (p : List Step) (out : List Op), (p ++ s).length < 1099511627777 → out.length ≤ p.length → Ev (fun k => swap_side.l0 k b a3 out (p ++ s) ((p ++ s).length : Int) (p.length : Int)) (out ++ sideO b a3 s) := by
  induction s with
  | nil =>
    intro p out hb ho
    refine Ev.step (fun k => rfl) ?_
    simp only [swap_side.l0, lt_end, if_false]
    rw [show sideO b a3 [] = [] from rfl, List.append_nil]
    exact Ev.now _
  | cons x s ih =>
    intro p out hb ho
    have hl := hb
    simp only [List.length_append, List.length_cons] at hl
    have i := fun out h1 => ih (p ++ [x]) out (by simpa using hb) h1
    rw [List.append_assoc, List.singleton_append] at i
    have w := wrap_len p x (by omega)
    have e : rd_Step (p ++ x :: s) (p.length : Int) = x := getD_mid p s x zStep
    have c : out.length < 4398046511104 := by omega
    rw [sideO_cons, ← List.append_assoc]
    refine Ev.step (fun k => rfl) ?_
    simp only [swap_side.l0, lt_mid, nn_nat, if_true, e]
    by_cases h0 : x.f1 = 0
    · simp only [if_pos h0, h0, true_or, if_true]
      refine Ev.step (fun k => rfl) ?_
      simp only [swap_side.j1, Bool.false_eq_true, if_false, if_pos c, w]
      exact i _ (by simp only [List.length_append, List.length_singleton]; omega)
    · simp only [if_neg h0]
      by_cases h1 : x.f1 = b
      · have hb2 : (x.f1 != b) = false := bne_eq_false_iff_eq.mpr h1
        have hy : x.f1 = 0 ∨ x.f1 = b := .inr h1
        simp only [hb2, if_pos hy]
        refine Ev.step (fun k => rfl) ?_
        simp only [swap_side.j1, Bool.false_eq_true, if_false, if_pos c, w]
        exact i (out ++ [x.f0]) (by simp only [List.length_append, List.length_singleton]; omega)
      · have hb2 : (x.f1 != b) = true := bne_iff_ne.mpr h1
        have hn : ¬ (x.f1 = 0 ∨ x.f1 = b) := by simp [h0, h1]
        simp only [hb2, if_neg hn]
        refine Ev.step (fun k => rfl) ?_
        simp only [swap_side.j1, if_true]
        by_cases ha : x.f0.f0 = a3
        · simp only [if_pos ha, if_pos c, w]
          exact i _ (by simp only [List.length_append, List.length_singleton]; omega)
        · simp only [if_neg ha, w, List.append_nil]
          exact i _ (by simp only [List.length_append, List.length_singleton]; omega)
theorem side_ev (b a3 : Int) {os : List Step} (h : os.length ≤ 1099511627776) : Ev (fun k => swap_side.f k os b a3) (sideO b a3 os) := by
  have := side_loop b a3 os [] [] (by simpa using (by omega : os.length < 1099511627777)) (by simp)
  rw [List.nil_append, List.nil_append] at this
  exact this
theorem touch_loop (s : List Step) : ∀ (p : List Step) (b : Int), (p ++ s).length < 1099511627777 → Ev (fun k => swap_touch.l0 k b (p ++ s) ((p ++ s).length : Int) (p.length : Int)) (touchO b s) := by
  induction s with
  | nil =>
    intro p b hb
    refine Ev.step (fun k => rfl) ?_
    simp only [swap_touch.l0, lt_end, if_false]
    exact Ev.now _
  | cons x s ih =>
    intro p b hb
    have hl := hb
    simp only [List.length_append, List.length_cons] at hl
    have i := ih (p ++ [x]) x.f1 (by simpa using hb)
    rw [List.append_assoc, List.singleton_append] at i
    have w := wrap_len p x (by omega)
    have e : rd_Step (p ++ x :: s) (p.length : Int) = x := getD_mid p s x zStep
    rw [touchO]
    refine Ev.step (fun k => rfl) ?_
    simp only [swap_touch.l0, lt_mid, nn_nat, if_true, e, w]
    cases hg : x.f2
    · simp only [Bool.false_eq_true, if_false, Bool.false_or]
      by_cases h0 : x.f1 = 0
      · simp only [if_pos h0]
        have : (decide (x.f1 ≠ 0) && (decide (b ≠ 0) && decide (x.f1 ≠ b))) = false := by simp [h0]
        rw [this, Bool.false_or]; exact i
      · simp only [if_neg h0]
        by_cases hb0 : b = 0
        · simp only [if_pos hb0]
          have : (decide (x.f1 ≠ 0) && (decide (b ≠ 0) && decide (x.f1 ≠ b))) = false := by simp [hb0]
          rw [this, Bool.false_or]; exact i
        · simp only [if_neg hb0]
          by_cases h1 : x.f1 = b
          · simp only [if_pos h1]
            have : (decide (x.f1 ≠ 0) && (decide (b ≠ 0) && decide (x.f1 ≠ b))) = false := by simp [h1]
            rw [this, Bool.false_or]; exact i
          · simp only [if_neg h1]
            have : (decide (x.f1 ≠ 0) && (decide (b ≠ 0) && decide (x.f1 ≠ b))) = true := by simp [h0, hb0, h1]
            rw [this]; exact Ev.now _
    · simp only [if_true, Bool.true_or]; exact Ev.now _
theorem touch_ev {os : List Step} (h : os.length ≤ 1099511627776) : Ev (fun k => swap_touch.f k os) (touchO 0 os) := touch_loop os [] 0 (by simpa using (by omega : os.length < 1099511627777))
def swapEnd (x y : List Op) : List Op × List Op × Int := if rightL x = true ∧ rightL y = true then (normL x, normL y, 0) else ([], [], 7)
end Go.Proofs.Ytfoponahdidddaa.P
namespace Go.Proofs.Ytfoponahdidddaa.P
open Go.RowKit Go.Proofs.YtfoponahdidddaaW.PrintWords Go.Proofs.YtfoponahdidddaaW.PrintLast Go.Proofs.YtfoponahdidddaaW.PrintMore
def kindS (s : Step) : Prop := ((s.f0.f0 = 1 ∨ s.f0.f0 = 2) → s.f1 = 0 ∧ s.f2 = false) ∧ (s.f0.f0 = 3 → s.f1 = 1 ∨ s.f1 = 2) ∧ (s.f0.f0 = 4 → s.f1 = 1 ∨ s.f1 = 2)
theorem line_kind {x y : Op} (hx : okOne x = true) (hy : okOne y = true) (x3 : x.f0 ≠ 3) (y4 : y.f0 ≠ 4) : kindS (lineL x y).2.2 := by
  have kx : x.f0 = 1 ∨ x.f0 = 2 ∨ x.f0 = 4 := by
    by_cases h : x.f0 = 1
    · exact .inl h
    · rcases (okOne_ne hx h).1 with h | h | h
      · exact .inr (.inl h)
      · exact absurd h x3
      · exact .inr (.inr h)
  have ky : y.f0 = 1 ∨ y.f0 = 2 ∨ y.f0 = 3 := by
    by_cases h : y.f0 = 1
    · exact .inl h
    · rcases (okOne_ne hy h).1 with h | h | h
      · exact .inr (.inl h)
      · exact .inr (.inr h)
      · exact absurd h y4
  unfold kindS
  rcases kx with kx | kx | kx <;> rcases ky with ky | ky | ky <;> simp [lineL, kx, ky]
theorem walkO_kind : ∀ (n : Nat) (ps qs : List Op) (e : Bool) (os : List Step), okX ps → okX qs → walkO n ps qs e = some os → ∀ s ∈ os, kindS s := by
  intro n
  induction n with
  | zero =>
    intro ps qs e os _ _ h
    obtain rfl : os = [] := (Option.some.inj h).symm
    exact fun s hs => by simp at hs
  | succ n ih =>
    intro ps qs e os hp hq h
    rw [walkO] at h
    have cons : ∀ (s : Step) (os' : List Step), kindS s → (∀ x ∈ os', kindS x) → (∀ x ∈ s :: os', kindS x) := by
      intro s os' hs hr x hx
      rcases List.mem_cons.mp hx with rfl | hx
      · exact hs
      · exact hr x hx
    split at h
    · obtain rfl : os = [] := (Option.some.inj h).symm
      exact fun s hs => by simp at hs
    · rename_i h0
      split at h
      · rename_i hd
        obtain ⟨o, r, rfl, hk⟩ := hdK_iff.mp hd
        obtain ⟨os', h', rfl⟩ := Option.map_eq_some_iff.mp h
        exact cons _ _ ⟨fun h => by exact absurd (show o.f0 = 1 ∨ o.f0 = 2 from h) (by omega), fun _ => .inl rfl, fun _ => .inl rfl⟩ (ih r qs e os' (fun x hx => hp x (List.mem_cons_of_mem _ hx)) hq h')
      · rename_i hd
        split at h
        · rename_i hi
          obtain ⟨o, r, rfl, hk⟩ := hdK_iff.mp hi
          obtain ⟨os', h', rfl⟩ := Option.map_eq_some_iff.mp h
          exact cons _ _ ⟨fun h => by exact absurd (show o.f0 = 1 ∨ o.f0 = 2 from h) (by omega), fun _ => .inr rfl, fun _ => .inr rfl⟩ (ih ps r e os' hp (fun x hx => hq x (List.mem_cons_of_mem _ hx)) h')
        · rename_i hi
          split at h
          · simp at h
          · obtain ⟨os', h', rfl⟩ := Option.map_eq_some_iff.mp h
            obtain ⟨d1, _⟩ := drop_both hp.all hq.all h0
            refine cons _ _ (line_kind (nextL_okX hp).1 (nextL_okX hq).1 ?_ ?_) (ih _ _ _ os' (hp.drop d1) (hq.drop d1) h')
            · intro h3
              cases ps with
              | nil => exact absurd h3 (by decide)
              | cons o r => exact hd (hdK_iff.mpr ⟨o, r, rfl, h3⟩)
            · intro h3
              cases qs with
              | nil => exact absurd h3 (by decide)
              | cons o r => exact hi (hdK_iff.mpr ⟨o, r, rfl, h3⟩)
theorem side_ok {b a3 : Int} {os : List Step} (has : a3 = 3 ∨ a3 = 4) (h : ∀ s ∈ os, goodS s) : ∀ o ∈ sideO b a3 os, okOne o = true ∧ o.f2.size < 1073741824 := by
  intro o ho
  obtain ⟨s, hs, ho⟩ := List.mem_flatMap.mp ho
  have hg := (h s hs).1
  split at ho
  · rw [List.mem_singleton.mp ho]; exact hg
  · split at ho
    · rename_i hk
      rw [List.mem_singleton.mp ho]
      refine ⟨?_, hg.2⟩
      obtain ⟨_, h1, h2⟩ := okOne_ne hg.1 (by omega)
      unfold okOne
      simp [h1, h2]
    · simp at ho
def swapS (os : List Step) : List Op × List Op × Int := if rightL (stepsL os) = false then ([], [], 6) else if touchO 0 os = true then ([], [], 7) else swapEnd (sideO 2 3 os) (sideO 1 4 os)
def swapL (p q : List Op) : List Op × List Op × Int := if rightL p = true ∧ rightL q = true then (match walkO (p.length + q.length) p q false with | none => ([], [], 6) | some os => swapS os) else ([], [], 1)
theorem pend_ev {x y : List Op} (hx : Sm x) (hy : Sm y) : Ev (fun k => (ops_Right.f k x).bind fun t206 => if t206 = true then ((ops_Right.f k y).bind fun t207 => swap_Ops.j1 k x y (!t207)) else swap_Ops.j1 k x y true) (swapEnd x y) := by
  have no : Ev (fun k => swap_Ops.j1 k x y true) ([], [], 7) := by
    refine Ev.step (fun k => rfl) ?_
    simp only [swap_Ops.j1, if_true]
    exact Ev.now _
  unfold swapEnd
  refine Ev.bind' (right_ev hx) ?_
  cases rx : rightL x
  · simp only [Bool.false_eq_true, if_false, false_and]; exact no
  simp only [if_true, true_and]
  refine Ev.bind' (right_ev hy) ?_
  cases ry : rightL y
  · simp only [Bool.not_false, Bool.false_eq_true, if_false]; exact no
  simp only [Bool.not_true, if_true]
  refine Ev.step (fun k => rfl) ?_
  simp only [swap_Ops.j1, Bool.false_eq_true, if_false]
  refine Ev.bind' (norm_ev hx) ?_
  refine Ev.bind' (norm_ev hy) ?_
  simp only [rx, ry, if_true]
  exact Ev.now _
theorem sm_side {b a3 : Int} {os : List Step} (has : a3 = 3 ∨ a3 = 4) (h : ∀ s ∈ os, goodS s) (hl : os.length ≤ 1099511627776) : Sm (sideO b a3 os) := by
  refine ⟨by have := sideO_len b a3 os; omega, fun o ho => by have := (side_ok has h o ho).2; omega⟩
theorem walk_val {p q : List Op} (hp : Sx p) (hq : Sx q) (rp : rightL p = true) (rq : rightL q = true) :
    Ev (fun k => compose_Walk.f k p q) (match walkO (p.length + q.length) p q false with | none => ([], false) | some os => if rightL (stepsL os) = true then (os, true) else ([], false)) := by
  have hlen : p.length + q.length ≤ 1099511627776 := by have := hp.1; have := hq.1; omega
  have hW := okW_of (rightL_okX rp hp) (rightL_okX rq hq) hlen
  refine Ev.bind' (right_ev hp.sm) ?_
  simp only [rp, if_true]
  refine Ev.bind' (right_ev hq.sm) ?_
  simp only [rq, if_true, hW]
  rcases walk_then hp hq rp rq with ⟨hw, e⟩ | ⟨os, hw, _, g1, g2, he, hf, hsm, hsk, hr, e⟩
  · simp only [hw]; exact Ev.now _
  · simp only [hw]
    refine Ev.bind' (told_ev (os := os) (by omega) hsm) ?_
    cases rightL (stepsL os)
    · simp only [Bool.false_eq_true, if_false]; exact Ev.now _
    · simp only [if_true]; exact Ev.now _
theorem pswap_ev {p q : List Op} (hp : Sx p) (hq : Sx q) : Ev (fun k => swap_Ops.f k p q) (swapL p q) := by
  have hlen : p.length + q.length ≤ 1099511627776 := by have := hp.1; have := hq.1; omega
  have no : Ev (fun k => swap_Ops.j0 k p q true) ([], [], 1) := by
    refine Ev.step (fun k => rfl) ?_
    simp only [swap_Ops.j0, if_true]
    exact Ev.now _
  unfold swapL
  refine Ev.bind' (right_ev hp.sm) ?_
  cases rp : rightL p
  · simp only [Bool.false_eq_true, if_false, false_and]; exact no
  simp only [if_true, true_and]
  refine Ev.bind' (right_ev hq.sm) ?_
  cases rq : rightL q
  · simp only [Bool.not_false, Bool.false_eq_true, if_false]; exact no
  simp only [Bool.not_true, if_true]
  refine Ev.step (fun k => rfl) ?_
  simp only [swap_Ops.j0, Bool.false_eq_true, if_false]
  refine Ev.bind' (walk_val hp hq rp rq) ?_
  rcases walk_then hp hq rp rq with ⟨hw, e⟩ | ⟨os, hw, _, g1, g2, he, hf, hsm, hsk, hr, e⟩
  · simp only [hw, Bool.false_eq_true, if_false]; exact Ev.now _
  · simp only [hw]
    unfold swapS
    cases rs : rightL (stepsL os)
    · simp only [Bool.false_eq_true, if_false, if_true]; exact Ev.now _
    · simp only [if_true]
      refine Ev.bind' (side_ev 2 3 (os := os) (by omega)) ?_
      refine Ev.bind' (side_ev 1 4 (os := os) (by omega)) ?_
      refine Ev.bind' (touch_ev (os := os) (by omega)) ?_
      cases touchO 0 os
      · simp only [Bool.false_eq_true, if_false]
        exact pend_ev (sm_side (.inl rfl) g1 (by omega)) (sm_side (.inr rfl) g1 (by omega))
      · simp only [if_true]
        refine Ev.step (fun k => rfl) ?_
        simp only [swap_Ops.j1, if_true]
        exact Ev.now _
end Go.Proofs.Ytfoponahdidddaa.P
namespace Go.Proofs.Ytfoponahdidddaa.P
open Go.RowKit Go.Proofs.YtfoponahdidddaaW.PrintWords Go.Proofs.YtfoponahdidddaaW.PrintLast Go.Proofs.YtfoponahdidddaaW.PrintMore
theorem fst_skips : ∀ (n : Nat) (W : List TU), fstT (List.replicate n ((.skip, 0) : TU) ++ W) = List.replicate n .skip ++ fstT W
  | 0, W => by simp
  | n + 1, W => by rw [List.replicate_succ, List.cons_append, fstT, fst_skips n W]; rfl
theorem snd_skips : ∀ (n : Nat) (W : List TU), sndT (List.replicate n ((.skip, 0) : TU) ++ W) = List.replicate n .skip ++ sndT W
  | 0, W => by simp
  | n + 1, W => by rw [List.replicate_succ, List.cons_append, sndT, snd_skips n W]; rfl
theorem touch_skips : ∀ (n : Nat) (b : Int) (W : List TU), touchT b (List.replicate (n + 1) ((.skip, 0) : TU) ++ W) = touchT 0 W
  | 0, b, W => by rw [List.replicate_succ, List.cons_append, touchT]; simp
  | n + 1, b, W => by
    rw [List.replicate_succ, List.cons_append, touchT]
    show (_ || touchT 0 (List.replicate (n + 1) ((.skip, 0) : TU) ++ W)) = _
    rw [touch_skips n 0 W]; simp
theorem step_lines {s : Step} (h : goodS s) (hk : kindS s) (h2 : s.f2 = false) :
    (s.f0.f0 = 1 ∧ s.f1 = 0 ∧ ∃ n, exO s.f0 = List.replicate (n + 1) .skip) ∨ (s.f0.f0 = 2 ∧ s.f1 = 0 ∧ exO s.f0 = [.keep s.f0.f2]) ∨ (s.f0.f0 = 3 ∧ (s.f1 = 1 ∨ s.f1 = 2) ∧ exO s.f0 = [.del s.f0.f2]) ∨ (s.f0.f0 = 4 ∧ (s.f1 = 1 ∨ s.f1 = 2) ∧ exO s.f0 = [.ins s.f0.f2]) := by
  have ho := h.1.1
  by_cases h1 : s.f0.f0 = 1
  · obtain ⟨a, b, c⟩ := okOne_skip ho h1
    refine .inl ⟨h1, (hk.1 (.inl h1)).1, (s.f0.f1 - 1).toNat, ?_⟩
    rw [exO_skip h1]
    congr 1; omega
  · rcases (okOne_ne ho h1).1 with e | e | e
    · exact .inr (.inl ⟨e, (hk.1 (.inr e)).1, by simp [exO, e]⟩)
    · exact .inr (.inr (.inl ⟨e, hk.2.1 e, by simp [exO, e]⟩))
    · exact .inr (.inr (.inr ⟨e, hk.2.2 e, by simp [exO, e]⟩))
theorem met_cons {s : Step} {os : List Step} : metS (s :: os) = false ↔ s.f2 = false ∧ metS os = false := by
  simp [metS]
theorem sides_ex : ∀ (os : List Step), metS os = false → (∀ s ∈ os, goodS s) → (∀ s ∈ os, kindS s) →
    ex (sideO 2 3 os) = fstT (exS os) ∧ ex (sideO 1 4 os) = sndT (exS os) ∧ ∀ b, touchO b os = touchT b (exS os)
  | [], _, _, _ => ⟨rfl, rfl, fun _ => rfl⟩
  | s :: os, hm, hg, hk => by
    obtain ⟨h2, hm'⟩ := met_cons.mp hm
    obtain ⟨i1, i2, i3⟩ := sides_ex os hm' (fun x hx => hg x (List.mem_cons_of_mem _ hx)) (fun x hx => hk x (List.mem_cons_of_mem _ hx))
    have e : exS (s :: os) = (exO s.f0).map (fun u => ((u, s.f1) : TU)) ++ exS os := by
      rw [exS_cons, h2]; simp
    rw [sideO_cons, sideO_cons, ex_app, ex_app, i1, i2, e]
    have t : ∀ b, touchO b (s :: os) = ((decide (s.f1 ≠ 0) && (decide (b ≠ 0) && decide (s.f1 ≠ b))) || touchT s.f1 (exS os)) := by
      intro b
      rw [touchO, h2, i3]; rfl
    rcases step_lines (hg s (List.mem_cons_self ..)) (hk s (List.mem_cons_self ..)) h2 with ⟨k, f, n, x⟩ | ⟨k, f, x⟩ | ⟨k, f, x⟩ | ⟨k, f, x⟩
    · have hmap : (List.replicate (n + 1) U.skip).map (fun u => ((u, s.f1) : TU)) = List.replicate (n + 1) ((.skip, 0) : TU) := by rw [List.map_replicate, f]
      rw [if_pos (.inl f), if_pos (.inl f), x, hmap, fst_skips, snd_skips]
      refine ⟨by simp [ex, x], by simp [ex, x], fun b => ?_⟩
      rw [t b, touch_skips, f]; simp
    · rw [if_pos (.inl f), if_pos (.inl f), x]
      refine ⟨by simp [ex, x, f, fstT], by simp [ex, x, f, sndT], fun b => ?_⟩
      rw [t b]; rfl
    · rw [x]
      rcases f with f | f
      · rw [if_neg (by omega), if_pos k, if_pos (.inr f)]
        refine ⟨?_, ?_, fun b => ?_⟩
        · show ex [⟨2, s.f0.f1, s.f0.f2⟩] ++ fstT (exS os) = fstT ((.del s.f0.f2, s.f1) :: exS os)
          rw [f, fst_d1]; simp [ex, exO]
        · show ex [s.f0] ++ sndT (exS os) = sndT ((.del s.f0.f2, s.f1) :: exS os)
          rw [f, snd_d1]; simp [ex, x]
        · rw [t b]; rfl
      · rw [if_pos (.inr f), if_neg (by omega), if_neg (by omega)]
        refine ⟨?_, ?_, fun b => ?_⟩
        · show ex [s.f0] ++ fstT (exS os) = fstT ((.del s.f0.f2, s.f1) :: exS os)
          rw [f, fst_d2]; simp [ex, x]
        · show ex [] ++ sndT (exS os) = sndT ((.del s.f0.f2, s.f1) :: exS os)
          rw [f, snd_d2]; rfl
        · rw [t b]; rfl
    · rw [x]
      rcases f with f | f
      · rw [if_neg (by omega), if_neg (by omega), if_pos (.inr f)]
        refine ⟨?_, ?_, fun b => ?_⟩
        · show ex [] ++ fstT (exS os) = fstT ((.ins s.f0.f2, s.f1) :: exS os)
          rw [f, fst_i1]; rfl
        · show ex [s.f0] ++ sndT (exS os) = sndT ((.ins s.f0.f2, s.f1) :: exS os)
          rw [f, snd_i1]; simp [ex, x]
        · rw [t b]; rfl
      · rw [if_pos (.inr f), if_neg (by omega), if_pos k]
        refine ⟨?_, ?_, fun b => ?_⟩
        · show ex [s.f0] ++ fstT (exS os) = fstT ((.ins s.f0.f2, s.f1) :: exS os)
          rw [f, fst_i2]; simp [ex, x]
        · show ex [⟨2, s.f0.f1, s.f0.f2⟩] ++ sndT (exS os) = sndT ((.ins s.f0.f2, s.f1) :: exS os)
          rw [f, snd_i2]; simp [ex, exO]
        · rw [t b]; rfl
theorem met_no3 : ∀ (os : List Step), (∀ s ∈ os, goodS s) → (no3 (exS os) ↔ metS os = false)
  | [], _ => ⟨fun _ => rfl, fun _ x hx => by simp [exS] at hx⟩
  | s :: os, hg => by
    have i := met_no3 os fun x hx => hg x (List.mem_cons_of_mem _ hx)
    have h1 := hg s (List.mem_cons_self ..)
    have hne : exO s.f0 ≠ [] := by
      by_cases hk : s.f0.f0 = 1
      · rw [exO_skip hk, replicate_toNat (okOne_skip h1.1.1 hk).1]; simp
      · rw [exO_ne hk]; simp
    rw [met_cons, exS_cons]
    constructor
    · intro h
      refine ⟨?_, i.mp fun x hx => h x (List.mem_append_right _ hx)⟩
      cases h2 : s.f2
      · rfl
      · exfalso
        rw [h2] at h
        cases hx : exO s.f0 with
        | nil => exact hne hx
        | cons u r => exact h (u, 3) (by rw [hx]; simp) rfl
    · rintro ⟨h2, h3⟩ x hx
      rcases List.mem_append.mp hx with hx | hx
      · obtain ⟨u, _, rfl⟩ := List.mem_map.mp hx
        rw [h2]
        show s.f1 ≠ 3
        have := h1.2
        omega
      · exact i.mpr h3 x hx
theorem swap_val {p q : List Op} (hp : Sx p) (hq : Sx q) (rp : rightL p = true) (rq : rightL q = true) {W : List TU} (hW : cmpT (ex p) false (ex q) = some W) :
    (rightU (un W) = false → swapL p q = ([], [], 6)) ∧ (rightU (un W) = true → (¬ no3 W → swapL p q = ([], [], 7)) ∧ (no3 W → (touchT 0 W = true → swapL p q = ([], [], 7)) ∧
      (touchT 0 W = false → swapL p q = if rightU (fstT W) = true ∧ rightU (sndT W) = true then (pack (nf [] (fstT W)), pack (nf [] (sndT W)), 0) else ([], [], 7)))) := by
  unfold swapL
  rw [if_pos ⟨rp, rq⟩]
  rcases walk_then hp hq rp rq with ⟨hw, _⟩ | ⟨os, hw, hc, g1, g2, he, hf, hsm, hsk, hr, _⟩
  · exfalso
    have hc := walkO_cmp (p.length + q.length) p q false (Nat.le_refl _) (rightL_okX rp hp).all (rightL_okX rq hq).all
    rw [hw, hW] at hc
    simp at hc
  · rw [hW] at hc
    obtain rfl := Option.some.inj hc
    have ks := walkO_kind _ _ _ _ _ (rightL_okX rp hp) (rightL_okX rq hq) hw
    simp only [hw]
    unfold swapS
    rw [hr]
    refine ⟨fun h => by rw [if_pos h], fun h => ?_⟩
    rw [if_neg (by rw [h]; simp)]
    refine ⟨fun h3 => ?_, fun h3 => ?_⟩
    · have : metS os = true := by
        cases hm : metS os
        · exact absurd ((met_no3 os g1).mpr hm) h3
        · rfl
      rw [if_pos (touch_met os 0 this)]
    · have hm := (met_no3 os g1).mp h3
      obtain ⟨s1, s2, s3⟩ := sides_ex os hm g1 ks
      rw [s3 0]
      refine ⟨fun ht => by rw [if_pos ht], fun ht => ?_⟩
      rw [if_neg (by rw [ht]; simp)]
      unfold swapEnd
      have f1 : ∀ o ∈ sideO 2 3 os, formO o := fun o ho => form_of (side_ok (.inl rfl) g1 o ho).1
      have f2 : ∀ o ∈ sideO 1 4 os, formO o := fun o ho => form_of (side_ok (.inr rfl) g1 o ho).1
      rw [right_iff f1, right_iff f2]
      unfold normL
      rw [s1, s2]
theorem swap_none {p q : List Op} (hp : Sx p) (hq : Sx q) (rp : rightL p = true) (rq : rightL q = true) (hW : cmpT (ex p) false (ex q) = none) : swapL p q = ([], [], 6) := by
  unfold swapL
  rw [if_pos ⟨rp, rq⟩]
  rcases walk_then hp hq rp rq with ⟨hw, _⟩ | ⟨os, hw, hc, _⟩
  · simp only [hw]
  · rw [hW] at hc; simp at hc
theorem swap_told {p q : List Op} (hp : Sx p) (hq : Sx q) (h : (swapL p q).2.2 = 0) : ∃ W, rightL p = true ∧ rightL q = true ∧ cmpT (ex p) false (ex q) = some W ∧ no3 W ∧ touchT 0 W = false ∧ rightU (un W) = true ∧ rightU (fstT W) = true ∧ rightU (sndT W) = true ∧
    swapL p q = (pack (nf [] (fstT W)), pack (nf [] (sndT W)), 0) := by
  by_cases hr : rightL p = true ∧ rightL q = true
  · obtain ⟨rp, rq⟩ := hr
    cases hW : cmpT (ex p) false (ex q) with
    | none => rw [swap_none hp hq rp rq hW] at h; simp at h
    | some W =>
      obtain ⟨v1, v2⟩ := swap_val hp hq rp rq hW
      cases ru : rightU (un W)
      · rw [v1 ru] at h; simp at h
      · obtain ⟨v3, v4⟩ := v2 ru
        by_cases h3 : no3 W
        · obtain ⟨v5, v6⟩ := v4 h3
          cases ht : touchT 0 W
          · have v := v6 ht
            by_cases hs : rightU (fstT W) = true ∧ rightU (sndT W) = true
            · rw [if_pos hs] at v
              exact ⟨W, rp, rq, rfl, h3, ht, ru, hs.1, hs.2, v⟩
            · rw [if_neg hs] at v
              rw [v] at h; simp at h
          · rw [v5 ht] at h; simp at h
        · rw [v3 h3] at h; simp at h
  · unfold swapL at h
    rw [if_neg hr] at h; simp at h
theorem swap_not {p q : List Op} (h : (swapL p q).2.2 ≠ 0) : (swapL p q).1 = [] ∧ (swapL p q).2.1 = [] := by
  unfold swapL at h ⊢
  split
  · rename_i c
    rw [if_pos c] at h
    cases hw : walkO (p.length + q.length) p q false with
    | none => exact ⟨rfl, rfl⟩
    | some os =>
      rw [hw] at h
      simp only at h ⊢
      unfold swapS at h ⊢
      split
      · exact ⟨rfl, rfl⟩
      · rename_i c1
        rw [if_neg c1] at h
        split
        · exact ⟨rfl, rfl⟩
        · rename_i c2
          rw [if_neg c2] at h
          unfold swapEnd at h ⊢
          split
          · rename_i c3
            rw [if_pos c3] at h
            exact absurd rfl h
          · exact ⟨rfl, rfl⟩
  · exact ⟨rfl, rfl⟩
theorem norm_small {l : List Op} {B : Nat} (hB : 0 < B) (h : ∀ o ∈ l, o.f2.size < B) : ∀ o ∈ normL l, o.f2.size < B := by
  intro o ho
  have he : ByteArray.empty.size = 0 := rfl
  rcases tx_pack _ o ho with e | ⟨x, hx, e⟩
  · rw [e, he]; exact hB
  · rcases nf_mem _ _ x hx with hx | hx
    · simp at hx
    · rcases tx_ex hx with e2 | ⟨y, hy, e2⟩
      · rw [e, e2, he]; exact hB
      · rw [e, e2]; exact h y hy
theorem norm_len {l : List Op} (h : ∀ o ∈ l, formO o) : (normL l).length ≤ l.length := by
  have := nf_pack_len l [] h
  simpa [normL] using this
theorem swap_len {p q : List Op} (hp : Sx p) (hq : Sx q) : ((swapL p q).1.length ≤ p.length + q.length ∧ ∀ o ∈ (swapL p q).1, o.f2.size < 1073741824) ∧ ((swapL p q).2.1.length ≤ p.length + q.length ∧ ∀ o ∈ (swapL p q).2.1, o.f2.size < 1073741824) := by
  by_cases h : (swapL p q).2.2 = 0
  · obtain ⟨W, rp, rq, hW, h3, ht, r1, r2, r3, e⟩ := swap_told hp hq h
    rcases walk_then hp hq rp rq with ⟨hw, _⟩ | ⟨os, hw, hc, g1, g2, he, hf, hsm, hsk, hr, _⟩
    · exfalso
      have hc := walkO_cmp (p.length + q.length) p q false (Nat.le_refl _) (rightL_okX rp hp).all (rightL_okX rq hq).all
      rw [hw, hW] at hc
      simp at hc
    · rw [hW] at hc
      obtain rfl := Option.some.inj hc
      have ks := walkO_kind _ _ _ _ _ (rightL_okX rp hp) (rightL_okX rq hq) hw
      obtain ⟨s1, s2, s3⟩ := sides_ex os ((met_no3 os g1).mp h3) g1 ks
      rw [e, ← s1, ← s2]
      have k1 := side_ok (b := 2) (a3 := 3) (.inl rfl) g1
      have k2 := side_ok (b := 1) (a3 := 4) (.inr rfl) g1
      have l1 := sideO_len 2 3 os
      have l2 := sideO_len 1 4 os
      have n1 := norm_len (l := sideO 2 3 os) fun o ho => form_of (k1 o ho).1
      have n2 := norm_len (l := sideO 1 4 os) fun o ho => form_of (k2 o ho).1
      exact ⟨⟨by show (normL _).length ≤ _; omega, norm_small (by omega) fun o ho => (k1 o ho).2⟩, by show (normL _).length ≤ _; omega, norm_small (by omega) fun o ho => (k2 o ho).2⟩
  · obtain ⟨a, b⟩ := swap_not h
    rw [a, b]
    exact ⟨⟨by simp, by simp⟩, by simp, by simp⟩
theorem Sx.swap {p q : List Op} (hp : Sx p) (hq : Sx q) (h : p.length + q.length ≤ 274877906944) : Sx (swapL p q).1 ∧ Sx (swapL p q).2.1 := by
  obtain ⟨⟨a, b⟩, c, d⟩ := swap_len hp hq
  exact ⟨⟨by omega, b⟩, by omega, d⟩
theorem num_val (x : Int) : patchworklaw15_num.f x = some x := rfl
theorem alive15 : Ev (fun k => patchworklaw15_alive.f k) true := by
  have s0 : Sx [] := ⟨by simp, by simp⟩
  have s1 : Sx [(⟨4, 0, ⟨#[97, 10]⟩⟩ : Op)] := ⟨by simp, fun o ho => by rw [List.mem_singleton.mp ho]; exact (by decide : (2 : Nat) < 1073741824)⟩
  have s2 : Sx [(⟨1, 3, ⟨#[]⟩⟩ : Op), ⟨4, 0, ⟨#[98, 10]⟩⟩] := ⟨by simp, fun o ho => by
    rcases List.mem_cons.mp ho with rfl | ho
    · exact (by decide : (0 : Nat) < 1073741824)
    · rw [List.mem_singleton.mp ho]; exact (by decide : (2 : Nat) < 1073741824)⟩
  have e0 : swapL [] [] = ([], [], 0) := by decide +kernel
  have e1 : swapL [(⟨4, 0, ⟨#[97, 10]⟩⟩ : Op)] [(⟨1, 3, ⟨#[]⟩⟩ : Op), ⟨4, 0, ⟨#[98, 10]⟩⟩] = ([⟨1, 2, ⟨#[]⟩⟩, ⟨4, 0, ⟨#[98, 10]⟩⟩], [⟨4, 0, ⟨#[97, 10]⟩⟩, ⟨1, 2, ⟨#[]⟩⟩, ⟨2, 0, ⟨#[98, 10]⟩⟩], 0) := by decide +kernel
  have a0 := pswap_ev s0 s0
  have a1 := pswap_ev s1 s2
  rw [e0] at a0
  rw [e1] at a1
  unfold patchworklaw15_alive.f
  refine Ev.bind' a0 ?_
  refine Ev.bind' a1 ?_
  exact Ev.now _
end Go.Proofs.Ytfoponahdidddaa.P
namespace Go.Proofs.Ytfoponahdidddaa.P
open Go.RowKit Go.Proofs.YtfoponahdidddaaW.PrintWords Go.Proofs.YtfoponahdidddaaW.PrintLast Go.Proofs.YtfoponahdidddaaW.PrintMore
theorem chs_loop (s : List Op) : ∀ (p : List Op), Sm (p ++ s) → Ev (fun k => patchworklaw15_changes.l0 k (p ++ s) (p.filter chO) (p.length : Int)) ((p ++ s).filter chO) := by
  induction s with
  | nil =>
    intro p _
    refine Ev.step (fun k => rfl) ?_
    simp only [patchworklaw15_changes.l0, lt_end, if_false]
    rw [List.append_nil]
    exact Ev.now _
  | cons o s ih =>
    intro p hb
    have i := ih (p ++ [o]) hb.snoc
    rw [List.append_assoc, List.singleton_append] at i
    have hl : (p.filter chO).length ≤ p.length := List.length_filter_le ..
    have hlo : (p.filter chO).length < 4398046511104 := by have := hb.len; omega
    have w := wrap_len p o (by have := hb.len; omega)
    rw [List.filter_append] at i
    refine Ev.step (fun k => rfl) ?_
    simp only [patchworklaw15_changes.l0, lt_mid, nn_nat, if_true, rdOp_mid, w]
    by_cases h3 : o.f0 = 3
    · have e : [o].filter chO = [o] := by simp [chO, h3]
      rw [e] at i
      simp only [if_pos h3, if_pos hlo]
      exact i
    · simp only [if_neg h3]
      by_cases h4 : o.f0 = 4
      · have e : [o].filter chO = [o] := by simp [chO, h4]
        rw [e] at i
        simp only [if_pos h4, if_pos hlo]
        exact i
      · have e : [o].filter chO = [] := by simp [chO, h3, h4]
        rw [e, List.append_nil] at i
        simp only [if_neg h4]
        exact i
theorem chs_ev {l : List Op} (h : Sm l) : Ev (fun k => patchworklaw15_changes.f k l) (l.filter chO) := chs_loop l [] h
theorem chs_pack : ∀ u : List U, (pack u).filter chO = (u.filter isCh).map opU
  | [] => rfl
  | x :: u => by
    have i := chs_pack u
    by_cases hx : isSkip x = false
    · rw [pack, put_ne hx]
      cases x with
      | skip => simp [isSkip] at hx
      | keep t => rw [List.filter_cons_of_neg (by simp [opU, chO]), List.filter_cons_of_neg (by simp [isCh])]; exact i
      | del t => rw [List.filter_cons_of_pos (by simp [opU, chO]), List.filter_cons_of_pos (by simp [isCh]), List.map_cons, i]
      | ins t => rw [List.filter_cons_of_pos (by simp [opU, chO]), List.filter_cons_of_pos (by simp [isCh]), List.map_cons, i]
    · cases x with
      | skip =>
        rw [List.filter_cons_of_neg (by simp [isCh]), ← i, pack]
        cases hp : pack u with
        | nil => simp [put, opU, chO]
        | cons y r =>
          by_cases hy : y.f0 = 1
          · simp only [put, if_pos hy]
            rw [List.filter_cons_of_neg (by simp [chO]), List.filter_cons_of_neg (by simp [chO, hy])]
          · simp only [put, if_neg hy]
            rw [List.filter_cons_of_neg (by simp [chO])]
      | keep t => exact absurd rfl hx
      | del t => exact absurd rfl hx
      | ins t => exact absurd rfl hx
theorem refNorm_ev {l : List Op} (h : Sx l) : Ev (fun k => patchworkref8_Norm.f k l) (if rightL l then normL l else []) := by
  unfold patchworkref8_Norm.f
  refine Ev.bind' (refright_ev h.sm) ?_
  cases hr : rightL l
  · simp only [Bool.false_eq_true, if_false]; exact Ev.now _
  · simp only [if_true]
    have hf := rightL_form hr
    have := skips_le 3 hf
    have := (rightL_ok hr).2.1
    exact Ev.bind' (refnorm_ev h.sm hf (by omega)) (Ev.now _)
theorem swap_keeps {p q : List Op} (hp : Sx p) (hq : Sx q) (h : (swapL p q).2.2 = 0) :
    rightL p = true ∧ rightL q = true ∧ (swapL p q).1.filter chO = (normL q).filter chO ∧ (swapL p q).2.1.filter chO = (normL p).filter chO := by
  obtain ⟨W, rp, rq, hW, h3, ht, r1, r2, r3, e⟩ := swap_told hp hq h
  have hw := WT.of _ _ _ _ hW
  have c1 := chR_fst hw h3 0 [] ht (fun _ => rfl)
  have c2 := chR_snd hw h3 0 [] ht (fun _ => rfl)
  refine ⟨rp, rq, ?_, ?_⟩
  · rw [e]
    show (pack (nf [] (fstT W))).filter chO = (pack (nf [] (ex q))).filter chO
    rw [chs_pack, chs_pack, chR_nf _ _ .nil, chR_nf _ _ .nil, c1]
  · rw [e]
    show (pack (nf [] (sndT W))).filter chO = (pack (nf [] (ex p))).filter chO
    rw [chs_pack, chs_pack, chR_nf _ _ .nil, chR_nf _ _ .nil, c2]
end Go.Proofs.Ytfoponahdidddaa.P
