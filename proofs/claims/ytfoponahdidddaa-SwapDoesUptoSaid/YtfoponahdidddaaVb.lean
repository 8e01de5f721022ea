/- Own: two in the other order: the program's and the reference's function. -/
import Derived.Test.YtfoponahdidddaaVa
namespace Go.Proofs.Ytfoponahdidddaa.P
open Go.RowKit Go.Proofs.YtfoponahdidddaaW.PrintWords Go.Proofs.YtfoponahdidddaaW.PrintLast Go.Proofs.YtfoponahdidddaaW.PrintMore
set_option linter.unusedSimpArgs false
set_option linter.unusedVariables false

/-- Whose a step is, by its kind. -/
def kindS (s : Step) : Prop := ((s.f0.f0 = 1 ∨ s.f0.f0 = 2) → s.f1 = 0 ∧ s.f2 = false) ∧ (s.f0.f0 = 3 → s.f1 = 1 ∨ s.f1 = 2) ∧ (s.f0.f0 = 4 → s.f1 = 1 ∨ s.f1 = 2)
theorem line_kind {x y : Op} (hx : okOne x = true) (hy : okOne y = true) (x3 : x.f0 ≠ 3) (y4 : y.f0 ≠ 4) : kindS (lineL x y).2.2 := by
  have kx : x.f0 = 1 ∨ x.f0 = 2 ∨ x.f0 = 4 := by
    by_cases h : x.f0 = 1
    · exact .inl h
    · rcases (okOne_ne hx h).1 with h | h | h
      · exact .inr (.inl h)
      · exact absurd h x3
      · exact .inr (.inr h)
  have ky : y.f0 = 1 ∨ y.f0 = 2 ∨ y.f0 = 3 := by
    by_cases h : y.f0 = 1
    · exact .inl h
    · rcases (okOne_ne hy h).1 with h | h | h
      · exact .inr (.inl h)
      · exact .inr (.inr h)
      · exact absurd h y4
  unfold kindS
  rcases kx with kx | kx | kx <;> rcases ky with ky | ky | ky <;> simp [lineL, kx, ky]
theorem walkO_kind : ∀ (n : Nat) (ps qs : List Op) (e : Bool) (os : List Step), okX ps → okX qs → walkO n ps qs e = some os → ∀ s ∈ os, kindS s := by
  intro n
  induction n with
  | zero =>
    intro ps qs e os _ _ h
    obtain rfl : os = [] := (Option.some.inj h).symm
    exact fun s hs => by simp at hs
  | succ n ih =>
    intro ps qs e os hp hq h
    rw [walkO] at h
    have cons : ∀ (s : Step) (os' : List Step), kindS s → (∀ x ∈ os', kindS x) → (∀ x ∈ s :: os', kindS x) := by
      intro s os' hs hr x hx
      rcases List.mem_cons.mp hx with rfl | hx
      · exact hs
      · exact hr x hx
    split at h
    · obtain rfl : os = [] := (Option.some.inj h).symm
      exact fun s hs => by simp at hs
    · rename_i h0
      split at h
      · rename_i hd
        obtain ⟨o, r, rfl, hk⟩ := hdK_iff.mp hd
        obtain ⟨os', h', rfl⟩ := Option.map_eq_some_iff.mp h
        exact cons _ _ ⟨fun h => by exact absurd (show o.f0 = 1 ∨ o.f0 = 2 from h) (by omega), fun _ => .inl rfl, fun _ => .inl rfl⟩ (ih r qs e os' (fun x hx => hp x (List.mem_cons_of_mem _ hx)) hq h')
      · rename_i hd
        split at h
        · rename_i hi
          obtain ⟨o, r, rfl, hk⟩ := hdK_iff.mp hi
          obtain ⟨os', h', rfl⟩ := Option.map_eq_some_iff.mp h
          exact cons _ _ ⟨fun h => by exact absurd (show o.f0 = 1 ∨ o.f0 = 2 from h) (by omega), fun _ => .inr rfl, fun _ => .inr rfl⟩ (ih ps r e os' hp (fun x hx => hq x (List.mem_cons_of_mem _ hx)) h')
        · rename_i hi
          split at h
          · simp at h
          · obtain ⟨os', h', rfl⟩ := Option.map_eq_some_iff.mp h
            obtain ⟨d1, _⟩ := drop_both hp.all hq.all h0
            refine cons _ _ (line_kind (nextL_okX hp).1 (nextL_okX hq).1 ?_ ?_) (ih _ _ _ os' (hp.drop d1) (hq.drop d1) h')
            · intro h3
              cases ps with
              | nil => exact absurd h3 (by decide)
              | cons o r => exact hd (hdK_iff.mpr ⟨o, r, rfl, h3⟩)
            · intro h3
              cases qs with
              | nil => exact absurd h3 (by decide)
              | cons o r => exact hi (hdK_iff.mpr ⟨o, r, rfl, h3⟩)
/-- One's steps are right steps, but for the sides. -/
theorem side_ok {b a3 : Int} {os : List Step} (has : a3 = 3 ∨ a3 = 4) (h : ∀ s ∈ os, goodS s) : ∀ o ∈ sideO b a3 os, okOne o = true ∧ o.f2.size < 1073741824 := by
  intro o ho
  obtain ⟨s, hs, ho⟩ := List.mem_flatMap.mp ho
  have hg := (h s hs).1
  split at ho
  · rw [List.mem_singleton.mp ho]; exact hg
  · split at ho
    · rename_i hk
      rw [List.mem_singleton.mp ho]
      refine ⟨?_, hg.2⟩
      obtain ⟨_, h1, h2⟩ := okOne_ne hg.1 (by omega)
      unfold okOne
      simp [h1, h2]
    · simp at ho
theorem side_skips : ∀ (os : List Step), metS os = false → (∀ s ∈ os, kindS s) → ∀ b a3 : Int, skips (sideO b a3 os) ≤ skips (stepsL os) ∧ (∀ s ∈ os, goodS s → True)
  | [], _, _, _, _ => ⟨Int.le_refl _, fun s hs => by simp at hs⟩
  | s :: os, hm, hk, b, a3 => by
    have h1 : s.f2 = false ∧ metS os = false := by simpa [metS] using hm
    have i := (side_skips os h1.2 (fun x hx => hk x (List.mem_cons_of_mem _ hx)) b a3).1
    refine ⟨?_, fun _ _ _ => trivial⟩
    rw [sideO_cons, stepsL_cons, skips_app, skips_app, h1.1]
    have hks := hk s (List.mem_cons_self ..)
    have key : skips (if s.f1 = 0 ∨ s.f1 = b then [s.f0] else if s.f0.f0 = a3 then [(⟨2, s.f0.f1, s.f0.f2⟩ : Op)] else []) ≤ skips (if false = true then [] else [s.f0]) := by
      simp only [Bool.false_eq_true, if_false]
      split
      · exact Int.le_refl _
      · rename_i hn
        have : s.f0.f0 ≠ 1 := fun h => hn (.inl (hks.1 (.inl h)).1)
        split <;> simp [skips, this]
    omega
/-- Two in the other order, by what their walk is. -/
def swapS (os : List Step) : List Op × List Op × Int := if rightL (stepsL os) = false then ([], [], 6) else if touchO 0 os = true then ([], [], 7) else swapEnd (sideO 2 3 os) (sideO 1 4 os)
def swapL (p q : List Op) : List Op × List Op × Int := if rightL p = true ∧ rightL q = true then (match walkO (p.length + q.length) p q false with | none => ([], [], 6) | some os => swapS os) else ([], [], 1)
theorem pend_ev {x y : List Op} (hx : Sm x) (hy : Sm y) : Ev (fun k => (ops_Right.f k x).bind fun t206 => if t206 = true then ((ops_Right.f k y).bind fun t207 => swap_Ops.j1 k x y (!t207)) else swap_Ops.j1 k x y true) (swapEnd x y) := by
  have no : Ev (fun k => swap_Ops.j1 k x y true) ([], [], 7) := by
    refine Ev.step (fun k => rfl) ?_
    simp only [swap_Ops.j1, if_true]
    exact Ev.now _
  unfold swapEnd
  refine Ev.bind' (right_ev hx) ?_
  cases rx : rightL x
  · simp only [Bool.false_eq_true, if_false, false_and]; exact no
  simp only [if_true, true_and]
  refine Ev.bind' (right_ev hy) ?_
  cases ry : rightL y
  · simp only [Bool.not_false, Bool.false_eq_true, if_false]; exact no
  simp only [Bool.not_true, if_true]
  refine Ev.step (fun k => rfl) ?_
  simp only [swap_Ops.j1, Bool.false_eq_true, if_false]
  refine Ev.bind' (norm_ev hx) ?_
  refine Ev.bind' (norm_ev hy) ?_
  simp only [rx, ry, if_true]
  exact Ev.now _
theorem sm_side {b a3 : Int} {os : List Step} (has : a3 = 3 ∨ a3 = 4) (h : ∀ s ∈ os, goodS s) (hl : os.length ≤ 1099511627776) : Sm (sideO b a3 os) := by
  refine ⟨by have := sideO_len b a3 os; omega, fun o ho => by have := (side_ok has h o ho).2; omega⟩
theorem walk_val {p q : List Op} (hp : Sx p) (hq : Sx q) (rp : rightL p = true) (rq : rightL q = true) :
    Ev (fun k => compose_Walk.f k p q) (match walkO (p.length + q.length) p q false with | none => ([], false) | some os => if rightL (stepsL os) = true then (os, true) else ([], false)) := by
  have hlen : p.length + q.length ≤ 1099511627776 := by have := hp.1; have := hq.1; omega
  have hW := okW_of (rightL_okX rp hp) (rightL_okX rq hq) hlen
  refine Ev.bind' (right_ev hp.sm) ?_
  simp only [rp, if_true]
  refine Ev.bind' (right_ev hq.sm) ?_
  simp only [rq, if_true, hW]
  rcases walk_then hp hq rp rq with ⟨hw, e⟩ | ⟨os, hw, _, g1, g2, he, hf, hsm, hsk, hr, e⟩
  · simp only [hw]; exact Ev.now _
  · simp only [hw]
    refine Ev.bind' (told_ev (os := os) (by omega) hsm) ?_
    cases rightL (stepsL os)
    · simp only [Bool.false_eq_true, if_false]; exact Ev.now _
    · simp only [if_true]; exact Ev.now _
theorem pswap_ev {p q : List Op} (hp : Sx p) (hq : Sx q) : Ev (fun k => swap_Ops.f k p q) (swapL p q) := by
  have hlen : p.length + q.length ≤ 1099511627776 := by have := hp.1; have := hq.1; omega
  have no : Ev (fun k => swap_Ops.j0 k p q true) ([], [], 1) := by
    refine Ev.step (fun k => rfl) ?_
    simp only [swap_Ops.j0, if_true]
    exact Ev.now _
  unfold swapL
  refine Ev.bind' (right_ev hp.sm) ?_
  cases rp : rightL p
  · simp only [Bool.false_eq_true, if_false, false_and]; exact no
  simp only [if_true, true_and]
  refine Ev.bind' (right_ev hq.sm) ?_
  cases rq : rightL q
  · simp only [Bool.not_false, Bool.false_eq_true, if_false]; exact no
  simp only [Bool.not_true, if_true]
  refine Ev.step (fun k => rfl) ?_
  simp only [swap_Ops.j0, Bool.false_eq_true, if_false]
  refine Ev.bind' (walk_val hp hq rp rq) ?_
  rcases walk_then hp hq rp rq with ⟨hw, e⟩ | ⟨os, hw, _, g1, g2, he, hf, hsm, hsk, hr, e⟩
  · simp only [hw, Bool.false_eq_true, if_false]; exact Ev.now _
  · simp only [hw]
    unfold swapS
    cases rs : rightL (stepsL os)
    · simp only [Bool.false_eq_true, if_false, if_true]; exact Ev.now _
    · simp only [if_true]
      refine Ev.bind' (side_ev 2 3 (os := os) (by omega)) ?_
      refine Ev.bind' (side_ev 1 4 (os := os) (by omega)) ?_
      refine Ev.bind' (touch_ev (os := os) (by omega)) ?_
      cases touchO 0 os
      · simp only [Bool.false_eq_true, if_false]
        exact pend_ev (sm_side (.inl rfl) g1 (by omega)) (sm_side (.inr rfl) g1 (by omega))
      · simp only [if_true]
        refine Ev.step (fun k => rfl) ?_
        simp only [swap_Ops.j1, if_true]
        exact Ev.now _
theorem refend_ev {bs : List By} {x y : List Op} (hx : Sm x) (hy : Sm y) (fx : ∀ o ∈ x, formO o) (fy : ∀ o ∈ y, formO o) (kx : skips x ≤ 1099511627776) (ky : skips y ≤ 1099511627776) :
    Ev (fun k => patchworkref8_Swap.l0 k bs x y (bs.length : Int)) (swapEnd x y) := by
  have c : ¬ ((bs.length : Int) < (bs.length : Int)) := by omega
  refine Ev.step (fun k => rfl) ?_
  simp only [patchworkref8_Swap.l0, if_neg c]
  unfold swapEnd
  refine Ev.bind' (refnorm_ev hx fx kx) ?_
  refine Ev.bind' (refnorm_ev hy fy ky) ?_
  have nx : rightL (normL x) = rightL x := by unfold normL; rw [right_pack, rightU_nf, ← right_iff fx]
  have ny : rightL (normL y) = rightL y := by unfold normL; rw [right_pack, rightU_nf, ← right_iff fy]
  refine Ev.bind' (refright_ev (Sm.norm hx fx)) ?_
  rw [nx]
  cases rightL x
  · simp only [Bool.false_eq_true, if_false, false_and]; exact Ev.now _
  simp only [if_true, true_and]
  refine Ev.bind' (refright_ev (Sm.norm hy fy)) ?_
  rw [ny]
  cases rightL y
  · simp only [Bool.false_eq_true, if_false]; exact Ev.now _
  · simp only [if_true]; exact Ev.now _
theorem refswap_ev {p q : List Op} (hp : Sx p) (hq : Sx q) : Ev (fun k => patchworkref8_Swap.f k p q) (swapL p q) := by
  have hlen : p.length + q.length ≤ 1099511627776 := by have := hp.1; have := hq.1; omega
  have no : Ev (fun k => patchworkref8_Swap.j0 k p q true) ([], [], 1) := by
    refine Ev.step (fun k => rfl) ?_
    simp only [patchworkref8_Swap.j0, if_true]
    exact Ev.now _
  unfold swapL
  refine Ev.bind' (refright_ev hp.sm) ?_
  cases rp : rightL p
  · simp only [Bool.false_eq_true, if_false, false_and]; exact no
  simp only [if_true, true_and]
  refine Ev.bind' (refright_ev hq.sm) ?_
  cases rq : rightL q
  · simp only [Bool.not_false, Bool.false_eq_true, if_false]; exact no
  simp only [Bool.not_true, if_true]
  have hv := refwalk_val hp hq rp rq
  refine Ev.step (fun k => rfl) ?_
  simp only [patchworkref8_Swap.j0, Bool.false_eq_true, if_false]
  rcases walk_then hp hq rp rq with ⟨hw, e⟩ | ⟨os, hw, _, g1, g2, he, hf, hsm, hsk, hr, e⟩
  · rw [hw] at hv ⊢
    refine Ev.bindN hv ?_
    simp only [Bool.false_eq_true, if_false]
    refine Ev.step (fun k => rfl) ?_
    simp only [patchworkref8_Swap.j1, if_true]
    exact Ev.now _
  · rw [hw] at hv ⊢
    refine Ev.bindN hv ?_
    simp only [if_true]
    have hbl := byS_len' os
    refine Ev.bind' (refops_ev (l := byS os) (by omega)) ?_
    rw [opsB_byS]
    refine Ev.bind' (refnorm_ev hsm hf (by omega)) ?_
    have hn : rightL (normL (stepsL os)) = rightL (stepsL os) := by
      unfold normL
      rw [right_pack, rightU_nf, ← right_iff hf]
    refine Ev.bind' (refright_ev (Sm.norm hsm hf)) ?_
    rw [hn]
    show Ev _ (swapS os)
    unfold swapS
    refine Ev.step (fun k => rfl) ?_
    cases rs : rightL (stepsL os)
    · simp only [patchworkref8_Swap.j1, Bool.not_false, if_true]; exact Ev.now _
    · simp only [patchworkref8_Swap.j1, Bool.not_true, Bool.false_eq_true, if_false, Bool.true_eq_false]
      cases hm : metS os
      · simp only [Bool.false_eq_true, if_false]
        rw [touch_by os 0 hm, side_by os 2 3 hm, side_by os 1 4 hm]
        have ks := walkO_kind _ _ _ _ _ (rightL_okX rp hp) (rightL_okX rq hq) hw
        have kx := (side_skips os hm ks 2 3).1
        have ky := (side_skips os hm ks 1 4).1
        have sx := sm_side (b := 2) (.inl rfl) g1 (by omega : os.length ≤ 1099511627776)
        have sy := sm_side (b := 1) (.inr rfl) g1 (by omega : os.length ≤ 1099511627776)
        have fx : ∀ o ∈ sideO 2 3 os, formO o := fun o ho => form_of (side_ok (.inl rfl) g1 o ho).1
        have fy : ∀ o ∈ sideO 1 4 os, formO o := fun o ho => form_of (side_ok (.inr rfl) g1 o ho).1
        rw [side_by os 2 3 hm] at kx sx fx
        rw [side_by os 1 4 hm] at ky sy fy
        refine refswap_loop (byS os) [] [] [] _ (by simp; omega) (by simp) (by simp) ?_ ?_ ?_
        · intro c hc
          simp only [List.nil_append] at hc
          obtain ⟨s, hs, rfl⟩ := List.mem_map.mp hc
          exact (g1 s (List.mem_filter.mp hs).1).2
        · intro ht
          have ht : touchB 0 (byS os) = true := ht
          rw [ht]; rfl
        · intro ht
          have ht : touchB 0 (byS os) = false := ht
          rw [ht]
          simp only [Bool.false_eq_true, if_false, List.nil_append]
          exact refend_ev sx sy fx fy (by omega) (by omega)
      · rw [touch_met os 0 hm]
        simp only [if_true]; exact Ev.now _
end Go.Proofs.Ytfoponahdidddaa.P
