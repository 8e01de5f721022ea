/- Own: steps done to lines, by the reference. -/
import Derived.Test.YtfoponahdidddaaUb
import Derived.Test.YtfoponahdidddaaQc
import Derived.Test.YtfoponahdidddaaQd
namespace Go.Proofs.Ytfoponahdidddaa.P
open Go.RowKit Go.Proofs.YtfoponahdidddaaW.PrintWords Go.Proofs.YtfoponahdidddaaW.PrintLast Go.Proofs.YtfoponahdidddaaW.PrintMore

/-- Lines, of which none stands behind an open one. -/
def wholeL : List ByteArray → Bool
  | [] => true
  | x :: l => rightT x && (if openT x = true ∧ l ≠ [] then false else wholeL l)
def SmT (l : List ByteArray) : Prop := l.length < 4398046511104 ∧ ∀ x ∈ l, x.size < 4611686018427387904
def BgT (l : List ByteArray) : Prop := l.length < 8796093022208 ∧ ∀ x ∈ l, x.size < 4611686018427387904
theorem SmT.big {l : List ByteArray} (h : SmT l) : BgT l := ⟨by have := h.1; omega, h.2⟩
theorem BgT.mid {p s : List ByteArray} {o : ByteArray} (h : BgT (p ++ o :: s)) : o.size < 4611686018427387904 := h.2 o (by simp)
theorem BgT.snoc {p s : List ByteArray} {o : ByteArray} (h : BgT (p ++ o :: s)) : BgT ((p ++ [o]) ++ s) := by rw [List.append_assoc]; exact h
theorem whole_loop (s : List ByteArray) : ∀ (p : List ByteArray), BgT (p ++ s) → Ev (fun k => patchworkref1_Whole.l0 k (p ++ s) (p.length : Int)) (wholeL s) := by
  induction s with
  | nil =>
    intro p _
    refine Ev.step (fun k => rfl) ?_
    simp only [patchworkref1_Whole.l0, lt_end, if_false]
    exact Ev.now _
  | cons x s ih =>
    intro p hb
    have i := ih (p ++ [x]) hb.snoc
    rw [List.append_assoc, List.singleton_append] at i
    have hl := hb.1
    simp only [List.length_append, List.length_cons] at hl
    have w := wrap_len p x (by omega)
    refine Ev.step (fun k => rfl) ?_
    simp only [patchworkref1_Whole.l0, lt_mid, nn_nat, if_true, rdOf_mid, w]
    refine Ev.bind' (rightline_ev hb.mid) ?_
    unfold wholeL
    cases hr : rightT x
    · simp only [Bool.false_eq_true, if_false, Bool.false_and]; exact Ev.now _
    simp only [if_true, Bool.true_and, open_val hb.mid, Option.bind_some]
    cases ho : openT x
    · simp only [Bool.false_eq_true, if_false, false_and]; exact i
    simp only [if_true, true_and]
    cases s with
    | nil =>
      have c : ¬ ((p ++ [x]).length : Int) < ((p ++ x :: ([] : List ByteArray)).length : Int) := by simp
      simp only [if_neg c, ne_eq, not_true_eq_false, if_false]
      exact i
    | cons y s =>
      have c : ((p ++ [x]).length : Int) < ((p ++ x :: y :: s).length : Int) := by simp only [List.length_append, List.length_cons, List.length_nil]; omega
      simp only [if_pos c, ne_eq, List.cons_ne_nil, not_false_eq_true, if_true]
      exact Ev.now _
theorem whole_ev {l : List ByteArray} (h : BgT l) : Ev (fun k => patchworkref1_Whole.f k l) (wholeL l) := whole_loop l [] h
theorem whole_closed : ∀ (l : List ByteArray), wholeL l = (textS (l.map some) && closedS false (l.map some))
  | [] => rfl
  | x :: l => by
    unfold wholeL
    rw [whole_closed l, List.map_cons, closedS]
    cases ho : openT x
    · simp [textS, Bool.and_assoc]
    · cases l with
      | nil => simp [textS, closedS]
      | cons y l => simp [textS, closedS]
/-- Steps done to lines. -/
def doU : List U → List ByteArray → Option (List ByteArray)
  | [], ls => some ls
  | .skip :: u, x :: ls => (doU u ls).map (x :: ·)
  | .keep t :: u, x :: ls => if x = t then (doU u ls).map (x :: ·) else none
  | .del t :: u, x :: ls => if x = t then doU u ls else none
  | .ins t :: u, ls => (doU u ls).map (t :: ·)
  | .skip :: _, [] => none
  | .keep _ :: _, [] => none
  | .del _ :: _, [] => none
theorem doU_skips : ∀ (n : Nat) (u : List U) (ls : List ByteArray), doU (List.replicate n .skip ++ u) ls = if ls.length < n then none else (doU u (ls.drop n)).map (ls.take n ++ ·)
  | 0, u, ls => by simp
  | n + 1, u, [] => by simp [List.replicate_succ, doU]
  | n + 1, u, x :: ls => by
    rw [List.replicate_succ, List.cons_append, doU, doU_skips n u ls]
    by_cases h : ls.length < n
    · simp [h]
    · simp only [h, if_false, List.length_cons, show ¬ ls.length + 1 < n + 1 from by omega, List.drop_succ_cons, List.take_succ_cons, Option.map_map, Function.comp_def, List.cons_append]
/-- What is told of lines that came out. -/
def told (out : List ByteArray) : Option (List ByteArray) → List ByteArray × Bool
  | none => ([], false)
  | some r => if wholeL (out ++ r) then (out ++ r, true) else ([], false)
theorem told_map (out a : List ByteArray) (r : Option (List ByteArray)) : told out (r.map (a ++ ·)) = told (out ++ a) r := by
  cases r with
  | none => rfl
  | some r => simp [told]
theorem told_map1 (out : List ByteArray) (x : ByteArray) (r : Option (List ByteArray)) : told out (r.map (x :: ·)) = told (out ++ [x]) r := by
  cases r with
  | none => rfl
  | some r => simp [told]
theorem refdo_loop {ls : List ByteArray} (hls : SmT ls) (s : List Op) : ∀ (p : List Op) (out : List ByteArray) (i : Nat), Sm (p ++ s) → (∀ o ∈ s, okOne o = true) → i ≤ ls.length → out.length ≤ i + p.length → (∀ x ∈ out, x.size < 4611686018427387904) →
    Ev (fun k => patchworkref8_Do.l0 k (p ++ s) ls out (i : Int) (p.length : Int)) (told out (doU (ex s) (ls.drop i))) := by
  induction s with
  | nil =>
    intro p out i hb _ hi ho hx
    have hl1 := hls.1
    have hp := hb.1
    simp only [List.append_nil] at hp
    have c1 : (0 : Int) ≤ (i : Int) := by omega
    have c2 : (i : Int) ≤ (ls.length : Int) := by omega
    have c3 : out.length + (ls.drop (i : Int).toNat).length < 8796093022208 := by rw [Int.toNat_natCast, List.length_drop]; omega
    have hw : BgT (out ++ ls.drop (i : Int).toNat) := by
      refine ⟨by rw [List.length_append]; exact c3, fun x h => ?_⟩
      rcases List.mem_append.mp h with h | h
      · exact hx x h
      · exact hls.2 x (List.mem_of_mem_drop h)
    refine Ev.step (fun k => rfl) ?_
    simp only [patchworkref8_Do.l0, lt_end, if_false, if_pos c1, if_pos c2, if_pos c3, Option.bind_some]
    refine Ev.bind' (whole_ev hw) ?_
    rw [Int.toNat_natCast, ex_nil, doU, told]
    split <;> exact Ev.now _
  | cons o s ih =>
    intro p out i hb hok hi ho hx
    have hl1 := hls.1
    have hp := hb.len
    have j := fun out i => ih (p ++ [o]) out i hb.snoc (fun x hx => hok x (List.mem_cons_of_mem _ hx))
    rw [List.append_assoc, List.singleton_append] at j
    have w := wrap_len p o (by omega)
    have hplen : (p ++ [o]).length = p.length + 1 := by simp
    refine Ev.step (fun k => rfl) ?_
    simp only [patchworkref8_Do.l0, lt_mid, nn_nat, if_true, rdOp_mid]
    have hoo := hok o (List.mem_cons_self ..)
    rw [ex_cons]
    by_cases hk : o.f0 = 1
    · obtain ⟨h1, h2, h3⟩ := okOne_skip hoo hk
      rw [show exO o = List.replicate o.f1.toNat .skip from by simp [exO, hk], doU_skips]
      have w1 : wrap64 ((ls.length : Int) - (i : Int)) = (ls.length : Int) - (i : Int) := by unfold wrap64; omega
      simp only [if_pos hk, w1, List.length_drop]
      by_cases c : (ls.length : Int) - (i : Int) < o.f1
      · simp only [if_pos c]
        rw [if_pos (by omega)]
        exact Ev.now _
      · simp only [if_neg c]
        rw [if_neg (by omega)]
        have w2 : wrap64 ((i : Int) + o.f1) = ((i + o.f1.toNat : Nat) : Int) := by unfold wrap64; omega
        have c2 : (i : Int) ≤ ((i + o.f1.toNat : Nat) : Int) := by omega
        have c3 : ((i + o.f1.toNat : Nat) : Int) ≤ (ls.length : Int) := by omega
        have e : (ls.take ((i + o.f1.toNat : Nat) : Int).toNat).drop (i : Int).toNat = (ls.drop i).take o.f1.toNat := by
          rw [Int.toNat_natCast, Int.toNat_natCast, List.drop_take]
          congr 1; omega
        have hlen : ((ls.drop i).take o.f1.toNat).length = o.f1.toNat := by rw [List.length_take, List.length_drop]; omega
        have c1 : (0 : Int) ≤ (i : Int) := by omega
        have c4 : out.length + ((ls.take ((i + o.f1.toNat : Nat) : Int).toNat).length - (i : Int).toNat) < 8796093022208 := by rw [List.length_take]; omega
        simp only [w2, if_pos c2, if_pos c3, if_pos c4, w]
        rw [e]
        have := j (out ++ (ls.drop i).take o.f1.toNat) (i + o.f1.toNat) (by omega) (by rw [List.length_append]; omega) (fun x hx' => by
          rcases List.mem_append.mp hx' with h | h
          · exact hx x h
          · exact hls.2 x (List.mem_of_mem_drop (List.mem_of_mem_take h)))
        rw [told_map, List.drop_drop]
        exact this
    · obtain ⟨hk2, h1, h2⟩ := okOne_ne hoo hk
      simp only [if_neg hk]
      have c0 : out.length < 8796093022208 := by omega
      by_cases h4 : o.f0 = 4
      · rw [show exO o = [.ins o.f2] from by simp [exO, h4], List.singleton_append, doU, told_map1]
        simp only [if_pos h4, if_pos c0, w]
        exact j (out ++ [o.f2]) i hi (by rw [List.length_append, List.length_singleton]; omega) (fun x hx' => by
          rcases List.mem_append.mp hx' with h | h
          · exact hx x h
          · rw [List.mem_singleton.mp h]; exact hb.mid)
      · simp only [if_neg h4]
        by_cases hil : i < ls.length
        · have c1 : ¬ (i : Int) ≥ (ls.length : Int) := by omega
          have c2 : (i : Int) < (ls.length : Int) := by omega
          have r : rdOf ByteArray.empty ls (i : Int) = ls[i] := rdOf_get hil
          have w2 : wrap64 ((i : Int) + 1) = ((i + 1 : Nat) : Int) := by unfold wrap64; omega
          simp only [if_neg c1, if_pos c2, r]
          rw [List.drop_eq_getElem_cons hil]
          refine Ev.step (fun k => rfl) ?_
          by_cases he : ls[i] = o.f2
          · have hb2 : (ls[i].toList != o.f2.toList) = false := by rw [he]; simp
            rcases hk2 with h | h | h
            · rw [show exO o = [.keep o.f2] from by simp [exO, h], List.singleton_append, doU, if_pos he, told_map1]
              simp only [hb2, patchworkref8_Do.j2, Bool.false_eq_true, if_false, if_pos h, if_pos c0, w, w2]
              rw [he]
              exact j (out ++ [o.f2]) (i + 1) (by omega) (by rw [List.length_append, List.length_singleton]; omega) (fun x hx' => by
                rcases List.mem_append.mp hx' with h | h
                · exact hx x h
                · rw [List.mem_singleton.mp h]; exact hb.mid)
            · have h' : ¬ o.f0 = 2 := by omega
              rw [show exO o = [.del o.f2] from by simp [exO, h], List.singleton_append, doU, if_pos he]
              simp only [hb2, patchworkref8_Do.j2, Bool.false_eq_true, if_false, if_neg h', w, w2]
              exact j out (i + 1) (by omega) (by omega) hx
            · exact absurd h h4
          · have hb2 : (ls[i].toList != o.f2.toList) = true := by
              rw [bne_iff_ne]; exact fun e => he (txt_eq e)
            have en : doU (exO o ++ ex s) (ls[i] :: ls.drop (i + 1)) = none := by
              rcases hk2 with h | h | h
              · rw [show exO o = [.keep o.f2] from by simp [exO, h], List.singleton_append, doU, if_neg he]
              · rw [show exO o = [.del o.f2] from by simp [exO, h], List.singleton_append, doU, if_neg he]
              · exact absurd h h4
            rw [en]
            simp only [hb2, patchworkref8_Do.j2, if_true]
            exact Ev.now _
        · have c1 : (i : Int) ≥ (ls.length : Int) := by omega
          simp only [if_pos c1]
          have en : doU (exO o ++ ex s) (ls.drop i) = none := by
            rw [List.drop_eq_nil_of_le (by omega)]
            rcases hk2 with h | h | h
            · rw [show exO o = [.keep o.f2] from by simp [exO, h], List.singleton_append, doU]
            · rw [show exO o = [.del o.f2] from by simp [exO, h], List.singleton_append, doU]
            · exact absurd h h4
          rw [en]
          refine Ev.step (fun k => rfl) ?_
          simp only [patchworkref8_Do.j2, if_true]
          exact Ev.now _
/-- Steps done to lines: right ones, to whole lines, if these fit and what comes out is whole. -/
def doL (l : List Op) (ls : List ByteArray) : List ByteArray × Bool := if rightL l = true ∧ wholeL ls = true then told [] (doU (ex l) ls) else ([], false)
theorem refdo_ev {l : List Op} {ls : List ByteArray} (h : Sm l) (hls : SmT ls) : Ev (fun k => patchworkref8_Do.f k l ls) (doL l ls) := by
  unfold doL
  refine Ev.bind' (refright_ev h) ?_
  cases hr : rightL l
  · simp only [Bool.false_eq_true, if_false, false_and]
    refine Ev.step (fun k => rfl) ?_
    simp only [patchworkref8_Do.j0, if_true]
    exact Ev.now _
  simp only [if_true, true_and]
  refine Ev.bind' (whole_ev hls.big) ?_
  refine Ev.step (fun k => rfl) ?_
  cases hw : wholeL ls
  · simp only [patchworkref8_Do.j0, Bool.not_false, if_true, Bool.false_eq_true, if_false]
    exact Ev.now _
  simp only [patchworkref8_Do.j0, Bool.not_true, Bool.false_eq_true, if_false, if_true]
  exact refdo_loop hls l [] [] 0 h (rightL_ok hr).1 (by omega) (by simp) (by simp)
end Go.Proofs.Ytfoponahdidddaa.P
