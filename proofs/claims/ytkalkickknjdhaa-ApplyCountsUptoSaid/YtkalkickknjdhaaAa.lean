/- Own: steps done to lines, by the program; the example of the chapter on that. -/
import Derived.Test.YtkalkickknjdhaaDb
import Derived.Test.YtkalkickknjdhaaFa8
namespace Go.Proofs.Ytkalkickknjdhaa.P
open Go.RowKit Go.Proofs.YtkalkickknjdhaaW.PrintWords Go.Proofs.YtkalkickknjdhaaW.PrintLast Go.Proofs.YtkalkickknjdhaaW.PrintMore
set_option linter.unusedVariables false
set_option linter.unusedSimpArgs false

theorem pwhole_loop (s : List ByteArray) : ∀ (p : List ByteArray), BgT (p ++ s) → Ev (fun k => lines_Whole.l0 k (p ++ s) (p ++ s) ((p ++ s).length : Int) (p.length : Int)) (wholeL s) := by
  induction s with
  | nil =>
    intro p _
    refine Ev.step (fun k => rfl) ?_
    simp only [lines_Whole.l0, lt_end, if_false]
    exact Ev.now _
  | cons x s ih =>
    intro p hb
    have i := ih (p ++ [x]) hb.snoc
    rw [List.append_assoc, List.singleton_append] at i
    have hl := hb.1
    simp only [List.length_append, List.length_cons] at hl
    have w := wrap_len p x (by omega)
    have w2 : wrap64 (((p ++ x :: s).length : Int) - 1) = ((p.length + s.length : Nat) : Int) := by simp only [List.length_append, List.length_cons]; unfold wrap64; omega
    refine Ev.step (fun k => rfl) ?_
    simp only [lines_Whole.l0, lt_mid, nn_nat, if_true, rdOf_mid, w, w2, linesright_val hb.mid, Option.bind_some]
    unfold wholeL
    cases hr : rightT x
    · simp only [Bool.false_eq_true, if_false, Bool.false_and]; exact Ev.now _
    simp only [if_true, Bool.true_and]
    cases s with
    | nil =>
      have c : ¬ (p.length : Int) < ((p.length + ([] : List ByteArray).length : Nat) : Int) := by simp
      simp only [if_neg c, ne_eq, not_true_eq_false, and_false, if_false]
      exact i
    | cons y s =>
      have c : (p.length : Int) < ((p.length + (y :: s).length : Nat) : Int) := by simp only [List.length_cons]; omega
      simp only [if_pos c, closed_val hb.mid, Option.bind_some]
      cases ho : openT x
      · simp only [Bool.not_false, if_true, Bool.false_eq_true, false_and, if_false]; exact i
      · simp only [Bool.not_true, Bool.false_eq_true, if_false, ne_eq, List.cons_ne_nil, not_false_eq_true, and_self, if_true]
        exact Ev.now _
theorem pwhole_ev {l : List ByteArray} (h : BgT l) : Ev (fun k => lines_Whole.f k l) (wholeL l) := pwhole_loop l [] h
theorem pdo_loop (s : List Op) : ∀ (p : List Op) (out rest : List ByteArray), Sm (p ++ s) → (∀ o ∈ s, okOne o = true) → out.length + rest.length + s.length < 8796093022208 → (∀ x ∈ out, x.size < 4611686018427387904) → (∀ x ∈ rest, x.size < 4611686018427387904) →
    Ev (fun k => apply_Do.l0 k out rest (p ++ s) ((p ++ s).length : Int) (p.length : Int)) (told out (doU (ex s) rest)) := by
  induction s with
  | nil =>
    intro p out rest hb _ hl ho hx
    have c3 : out.length + rest.length < 8796093022208 := by simpa using hl
    have hw : BgT (out ++ rest) := by
      refine ⟨by rw [List.length_append]; exact c3, fun x h => ?_⟩
      rcases List.mem_append.mp h with h | h
      · exact ho x h
      · exact hx x h
    refine Ev.step (fun k => rfl) ?_
    simp only [apply_Do.l0, lt_end, if_false, if_pos c3, Option.bind_some]
    refine Ev.bind' (pwhole_ev hw) ?_
    rw [ex_nil, doU, told]
    split <;> exact Ev.now _
  | cons o s ih =>
    intro p out rest hb hok hl ho hx
    simp only [List.length_cons] at hl
    have hp := hb.len
    have j := fun out rest => ih (p ++ [o]) out rest hb.snoc (fun x hx => hok x (List.mem_cons_of_mem _ hx))
    rw [List.append_assoc, List.singleton_append] at j
    have w := wrap_len p o (by omega)
    refine Ev.step (fun k => rfl) ?_
    simp only [apply_Do.l0, lt_mid, nn_nat, if_true, rdOp_mid]
    have hoo := hok o (List.mem_cons_self ..)
    have ne : ∀ {x : ByteArray} {y : List ByteArray}, (∀ z ∈ out ++ y, z.size < 4611686018427387904) → (∀ z ∈ out ++ y, z.size < 4611686018427387904) := fun h => h
    rw [ex_cons]
    by_cases hk : o.f0 = 1
    · obtain ⟨h1, h2, h3⟩ := okOne_skip hoo hk
      rw [show exO o = List.replicate o.f1.toNat .skip from by simp [exO, hk], doU_skips]
      simp only [if_pos hk]
      refine Ev.step (fun k => rfl) ?_
      have hd : decide (o.f0 = 1 ∨ o.f0 = 2 ∨ o.f0 = 3) = true := by simp [hk]
      simp only [apply_Do.j2, old_kind, Option.bind_some, hd, if_true, if_pos hk]
      by_cases c : o.f1 > (rest.length : Int)
      · simp only [if_pos c]
        rw [if_pos (by omega)]
        refine Ev.step (fun k => rfl) ?_
        simp only [apply_Do.j3, if_true]
        exact Ev.now _
      · simp only [if_neg c]
        rw [if_neg (by omega)]
        have k3 : ¬ o.f0 = 3 := by omega
        have c1 : 0 ≤ o.f1 := by omega
        have c2 : o.f1 ≤ (rest.length : Int) := by omega
        have hlen : (rest.take o.f1.toNat).length = o.f1.toNat := by rw [List.length_take]; omega
        have c4 : out.length + (rest.take o.f1.toNat).length < 8796093022208 := by omega
        refine Ev.step (fun k => rfl) ?_
        simp only [apply_Do.j3, Bool.false_eq_true, if_false, if_neg k3, if_pos c1, if_pos c2, Option.bind_some, if_pos c4, w]
        rw [told_map]
        refine j (out ++ rest.take o.f1.toNat) (rest.drop o.f1.toNat) (by rw [List.length_append, List.length_drop]; omega) (fun x h => ?_) (fun x h => hx x (List.mem_of_mem_drop h))
        rcases List.mem_append.mp h with h | h
        · exact ho x h
        · exact hx x (List.mem_of_mem_take h)
    · obtain ⟨hk2, h1, h2⟩ := okOne_ne hoo hk
      simp only [if_neg hk]
      have c0 : out.length < 8796093022208 := by omega
      have snoc : ∀ z ∈ out ++ [o.f2], z.size < 4611686018427387904 := fun z hz => by
        rcases List.mem_append.mp hz with h | h
        · exact ho z h
        · rw [List.mem_singleton.mp h]; exact hb.mid
      refine Ev.step (fun k => rfl) ?_
      by_cases h4 : o.f0 = 4
      · have hd : decide (o.f0 = 1 ∨ o.f0 = 2 ∨ o.f0 = 3) = false := by simp [h4]
        rw [show exO o = [.ins o.f2] from by simp [exO, h4], List.singleton_append, doU, told_map1]
        simp only [apply_Do.j2, old_kind, Option.bind_some, hd, Bool.false_eq_true, if_false, if_pos c0, w]
        exact j (out ++ [o.f2]) rest (by rw [List.length_append, List.length_singleton]; omega) snoc hx
      · have hd : decide (o.f0 = 1 ∨ o.f0 = 2 ∨ o.f0 = 3) = true := by simp; omega
        simp only [apply_Do.j2, old_kind, Option.bind_some, hd, if_true, if_neg hk]
        cases rest with
        | nil =>
          have c : (1 : Int) > (([] : List ByteArray).length : Int) := by simp
          have en : doU (exO o ++ ex s) [] = none := by
            rcases hk2 with h | h | h
            · rw [show exO o = [.keep o.f2] from by simp [exO, h], List.singleton_append, doU]
            · rw [show exO o = [.del o.f2] from by simp [exO, h], List.singleton_append, doU]
            · exact absurd h h4
          rw [en]
          simp only [if_pos c]
          refine Ev.step (fun k => rfl) ?_
          simp only [apply_Do.j3, if_true]
          exact Ev.now _
        | cons y rest =>
          have c : ¬ (1 : Int) > ((y :: rest).length : Int) := by simp only [List.length_cons]; omega
          have c1 : (0 : Int) < ((y :: rest).length : Int) := by simp only [List.length_cons]; omega
          have c2 : (1 : Int) ≤ ((y :: rest).length : Int) := by omega
          have r : rdOf ByteArray.empty (y :: rest) 0 = y := rfl
          simp only [if_neg c, if_pos c1, r]
          simp only [List.length_cons] at hl
          refine Ev.step (fun k => rfl) ?_
          by_cases he : y = o.f2
          · have hb2 : (y.toList != o.f2.toList) = false := by rw [he]; simp
            rcases hk2 with h | h | h
            · have k3 : ¬ o.f0 = 3 := by omega
              rw [show exO o = [.keep o.f2] from by simp [exO, h], List.singleton_append, doU, if_pos he, told_map1]
              simp only [hb2, apply_Do.j3, Bool.false_eq_true, if_false, if_neg k3, show (0 : Int) ≤ 1 from by omega, if_true, if_pos c2, Option.bind_some, show (1 : Int).toNat = 1 from rfl, List.take_succ_cons, List.take_zero, List.drop_succ_cons, List.drop_zero, w]
              have c5 : out.length + [y].length < 8796093022208 := by simp only [List.length_singleton]; omega
              simp only [if_pos c5]
              rw [he]
              exact j (out ++ [o.f2]) rest (by rw [List.length_append, List.length_singleton]; omega) snoc (fun x h => hx x (List.mem_cons_of_mem _ h))
            · rw [show exO o = [.del o.f2] from by simp [exO, h], List.singleton_append, doU, if_pos he]
              simp only [hb2, apply_Do.j3, Bool.false_eq_true, if_false, if_pos h, show (0 : Int) ≤ 1 from by omega, if_true, if_pos c2, show (1 : Int).toNat = 1 from rfl, List.drop_succ_cons, List.drop_zero, w]
              exact j out rest (by omega) ho (fun x h => hx x (List.mem_cons_of_mem _ h))
            · exact absurd h h4
          · have hb2 : (y.toList != o.f2.toList) = true := by
              rw [bne_iff_ne]; exact fun e => he (txt_eq e)
            have en : doU (exO o ++ ex s) (y :: rest) = none := by
              rcases hk2 with h | h | h
              · rw [show exO o = [.keep o.f2] from by simp [exO, h], List.singleton_append, doU, if_neg he]
              · rw [show exO o = [.del o.f2] from by simp [exO, h], List.singleton_append, doU, if_neg he]
              · exact absurd h h4
            rw [en]
            simp only [hb2, apply_Do.j3, if_true]
            exact Ev.now _
theorem pdo_ev {l : List Op} {ls : List ByteArray} (h : Sm l) (hls : SmT ls) : Ev (fun k => apply_Do.f k l ls) (doL l ls) := by
  unfold doL
  refine Ev.bind' (right_ev h) ?_
  cases hr : rightL l
  · simp only [Bool.false_eq_true, if_false, false_and]
    refine Ev.step (fun k => rfl) ?_
    simp only [apply_Do.j0, if_true]
    exact Ev.now _
  simp only [if_true, true_and]
  refine Ev.bind' (pwhole_ev hls.big) ?_
  refine Ev.step (fun k => rfl) ?_
  cases hw : wholeL ls
  · simp only [apply_Do.j0, Bool.not_false, if_true, Bool.false_eq_true, if_false]
    exact Ev.now _
  simp only [apply_Do.j0, Bool.not_true, Bool.false_eq_true, if_false, if_true]
  have := h.1
  have := hls.1
  exact pdo_loop l [] [] ls h (rightL_ok hr).1 (by simp; omega) (by simp) hls.2
theorem pfits_ev {l : List Op} {ls : List ByteArray} (h : Sm l) (hls : SmT ls) : Ev (fun k => apply_Fits.f k l ls) (doL l ls).2 := Ev.bind' (pdo_ev h hls) (Ev.now _)
theorem alive9 : Ev (fun k => patchworklaw9_alive.f k) true := by
  have t1 : SmT [(⟨#[97, 10]⟩ : ByteArray)] := SmT.of_wt (by decide)
  have t0 : SmT [] := SmT.of_wt (by decide)
  have s1 : Sm [(⟨2, 0, ⟨#[97, 10]⟩⟩ : Op), ⟨4, 0, ⟨#[98, 10]⟩⟩] := Sm.of_wt (by decide)
  have d0 : doL [] [(⟨#[97, 10]⟩ : ByteArray)] = ([⟨#[97, 10]⟩], true) := by decide
  have d1 : doL [(⟨2, 0, ⟨#[97, 10]⟩⟩ : Op), ⟨4, 0, ⟨#[98, 10]⟩⟩] [(⟨#[97, 10]⟩ : ByteArray)] = ([⟨#[97, 10]⟩, ⟨#[98, 10]⟩], true) := by decide
  have d2 : doL [] [] = ([], true) := by decide
  have e0 := pdo_ev Sm.nil t1
  rw [d0] at e0
  have e1 := pdo_ev s1 t1
  rw [d1] at e1
  have e2 := pfits_ev Sm.nil t0
  rw [d2] at e2
  refine Ev.bind' e0 ?_
  refine Ev.bind' e1 ?_
  simp only [List.length_cons, List.length_nil, Int.natCast_add, Int.natCast_zero, show ((0 : Nat) : Int) + 1 = 1 from rfl, show ((0 : Int) + ((1 : Nat) : Int)) = 1 from rfl, if_true]
  exact Ev.bind' e2 (Ev.now _)
end Go.Proofs.Ytkalkickknjdhaa.P
