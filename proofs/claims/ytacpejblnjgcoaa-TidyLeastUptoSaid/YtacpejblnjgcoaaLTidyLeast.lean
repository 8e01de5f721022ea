/- Own: TidyLeast holds. -/
import Derived.Test.YtacpejblnjgcoaaTw
import Derived.Test.YtacpejblnjgcoaaSTidyLeast
namespace Go.Proofs.Ytacpejblnjgcoaa.P
open Go.RowKit Go.Proofs.YtacpejblnjgcoaaW.PrintWords Go.Proofs.YtacpejblnjgcoaaW.PrintLast Go.Proofs.YtacpejblnjgcoaaW.PrintMore
set_option linter.unusedVariables false
set_option linter.unusedSimpArgs false

theorem TidyLeast.out (a b : List ByteArray) (n : Int) (c : List Int) : Ev (fun k => patchworklaw13_TidyLeast.j0 k a b n c true true) true := by
  refine Ev.step (fun k => rfl) ?_
  simp only [patchworklaw13_TidyLeast.j0, if_true]
  exact Ev.now true
theorem refLen' {a b : List ByteArray} (ha : a.length ≤ 1000000) (hb : b.length ≤ 1000000) : patchworkref8_LcsLen.f a b = some (lcs a b : Int) := by
  have h1 : (tabRows a b).length = a.length + 1 := tab_len a b
  have e0 := tab_rd a b (i := 0) (j := 0) (by omega) (by omega)
  have e1 := tab_rowlen a b (i := 0) (by omega)
  simp only [Int.natCast_zero] at e0 e1
  have c1 : (0 : Int) < ((tabRows a b).length : Int) := by rw [h1]; omega
  have c2 : (0 : Int) < ((rd_L6 (tabRows a b) 0).length : Int) := by rw [e1]; omega
  simp only [patchworkref8_LcsLen.f, table_f ha hb, Option.bind_some, if_pos c1, if_pos c2, e0]
  simp [tabL]
/-- Lines that are right, closed, and short. -/
def goodL (l : List ByteArray) : Bool := l.all fun t => rightT t && (!openT t && decide (t.size ≤ 20))
theorem closed13_loop (s : List ByteArray) : ∀ (p : List ByteArray), (p ++ s).length < 4611686018427387904 → (∀ t ∈ s, t.size < 4611686018427387904) → Ev (fun k => patchworklaw13_closed.l0 k (p ++ s) (p.length : Int)) (goodL s) := by
  induction s with
  | nil =>
    intro p _ _
    refine Ev.step (fun k => rfl) ?_
    simp only [patchworklaw13_closed.l0, lt_end, if_false]
    exact Ev.now _
  | cons x s ih =>
    intro p hl hx
    have i := ih (p ++ [x]) (by simpa using hl) (fun t ht => hx t (List.mem_cons_of_mem _ ht))
    rw [List.append_assoc, List.singleton_append] at i
    have hxs := hx x (List.mem_cons_self ..)
    have w := wrap_len p x (by simp only [List.length_append, List.length_cons] at hl; omega)
    refine Ev.step (fun k => rfl) ?_
    simp only [patchworklaw13_closed.l0, lt_mid, nn_nat, if_true, rdOf_mid, w]
    refine Ev.bind' (rightline_ev hxs) ?_
    cases hr : rightT x
    · simp only [Bool.false_eq_true, if_false, goodL, List.all_cons, hr, Bool.false_and]; exact Ev.now _
    simp only [if_true, open_val hxs, Option.bind_some]
    cases ho : openT x
    · simp only [Bool.false_eq_true, if_false]
      by_cases c : (x.size : Int) > 20
      · have : ¬ x.size ≤ 20 := by omega
        simp only [if_pos c, goodL, List.all_cons, hr, ho, this, decide_false, Bool.and_false, Bool.false_and]
        exact Ev.now _
      · have : x.size ≤ 20 := by omega
        simp only [if_neg c, goodL, List.all_cons, hr, ho, this, decide_true, Bool.not_false, Bool.true_and]
        exact i
    · simp only [if_true, goodL, List.all_cons, hr, ho, Bool.not_true, Bool.false_and, Bool.and_false]
      exact Ev.now _
theorem closed13_ev {l : List ByteArray} (hl : l.length < 4611686018427387904) (h : ∀ t ∈ l, t.size < 4611686018427387904) : Ev (fun k => patchworklaw13_closed.f k l) (goodL l) := closed13_loop l [] (by simpa using hl) h
/-- What the steps so far come to: from the first lines of one to those of the other. -/
structure Led (a b : List ByteArray) (n : Int) (i j : Nat) (l : List Op) : Prop where
  form : ∀ o ∈ l, formO o
  old : olds (ex l) = List.replicate n.toNat none ++ (a.take i).map some
  new : news (ex l) = List.replicate n.toNat none ++ (b.take j).map some
  len : l.length ≤ 1 + i + j
  txt : ∀ o ∈ l, o.f2 = ByteArray.empty ∨ o.f2 ∈ a ∨ o.f2 ∈ b
theorem Led.step {a b : List ByteArray} {n : Int} {i j i' j' : Nat} {l : List Op} (h : Led a b n i j l) {o : Op} (ho : formO o) (h1 : olds (exO o) = ((a.take i').drop i).map some) (h2 : news (exO o) = ((b.take j').drop j).map some) (hi : i ≤ i') (hj : j ≤ j') (hij : i + j < i' + j') (ht : o.f2 ∈ a ∨ o.f2 ∈ b) : Led a b n i' j' (l ++ [o]) := by
  have tk : ∀ (x : List ByteArray) (p q : Nat), p ≤ q → x.take p ++ (x.take q).drop p = x.take q := by
    intro x p q hpq
    have := List.take_append_drop p (x.take q)
    rwa [List.take_take, Nat.min_eq_left hpq] at this
  refine ⟨fun x hx => ?_, ?_, ?_, ?_, fun x hx => ?_⟩
  · rcases List.mem_append.mp hx with hx | hx
    · exact h.form x hx
    · rw [List.mem_singleton.mp hx]; exact ho
  · rw [ex_app, olds_app, h.old, show ex [o] = exO o from by simp [ex], h1, List.append_assoc, ← List.map_append, tk a i i' hi]
  · rw [ex_app, news_app, h.new, show ex [o] = exO o from by simp [ex], h2, List.append_assoc, ← List.map_append, tk b j j' hj]
  · have := h.len
    simp only [List.length_append, List.length_singleton]; omega
  · rcases List.mem_append.mp hx with hx | hx
    · exact h.txt x hx
    · rw [List.mem_singleton.mp hx]; exact .inr ht
theorem take_drop_one {a : List ByteArray} {i : Nat} (h : i < a.length) : (a.take (i + 1)).drop i = [a[i]] := by
  rw [List.drop_take, show i + 1 - i = 1 from by omega, List.drop_eq_getElem_cons h]; rfl
theorem good_closed : ∀ (l : List ByteArray), goodL l = true → textS (l.map some) = true ∧ closedS false (l.map some) = true
  | [], _ => ⟨rfl, rfl⟩
  | x :: l, h => by
    simp only [goodL, List.all_cons, Bool.and_eq_true, Bool.not_eq_true'] at h
    obtain ⟨⟨h1, h2, h3⟩, h4⟩ := h
    obtain ⟨i1, i2⟩ := good_closed l h4
    refine ⟨?_, ?_⟩
    · simp only [List.map_cons, textS, List.all_cons, h1, Bool.true_and]; exact i1
    · rw [List.map_cons, closedS, h2]; exact i2
theorem wrap_succ {i : Nat} (h : i < 4398046511104) : wrap64 ((i : Int) + 1) = ((i + 1 : Nat) : Int) := by
  rw [wrap_small (n := (i : Int) + 1) (by omega) (by omega)]; omega
theorem wrap_led {a b c x : Nat} (h : x + 2 * c = a + b) (ha : a ≤ 20) (hb : b ≤ 20) : wrap64 (wrap64 ((a : Int) + (b : Int)) - wrap64 (2 * (c : Int))) = (x : Int) := by
  rw [wrap_small (n := (a : Int) + (b : Int)) (by omega) (by omega), wrap_small (n := 2 * (c : Int)) (by omega) (by omega), wrap_small (n := (a : Int) + (b : Int) - 2 * (c : Int)) (by omega) (by omega)]
  omega
theorem Ev.ifp {α : Type} {c : Prop} [Decidable c] {f g : Nat → Option α} {r : α} (h : c) (k : Ev f r) : Ev (fun n => if c then f n else g n) r := by
  simp only [if_pos h]; exact k
theorem TidyLeast.fin {a b : List ByteArray} {n : Int} {l : List Op} (ga : goodL a = true) (gb : goodL b = true) (la : a.length ≤ 20) (lb : b.length ≤ 20) (n1 : 1 ≤ n) (n2 : n ≤ 100) (h : Led a b n a.length b.length l) (x3 : List Int) (i j m : Int) (hm : ¬ m < 40) :
    Ev (fun k => patchworklaw13_TidyLeast.l0 k a b x3 l i j m) true := by
  have ho : olds (ex l) = List.replicate n.toNat none ++ a.map some := by have := h.old; rwa [List.take_of_length_le (Nat.le_refl _)] at this
  have hn : news (ex l) = List.replicate n.toNat none ++ b.map some := by have := h.new; rwa [List.take_of_length_le (Nat.le_refl _)] at this
  have sz : ∀ x : List ByteArray, goodL x = true → ∀ t ∈ x, t.size ≤ 20 := by
    intro x hx t ht
    have := List.all_eq_true.mp hx t ht
    simp only [Bool.and_eq_true, decide_eq_true_eq] at this
    exact this.2.2
  have hs : Sm l := ⟨by have := h.len; omega, fun o ho' => by
    rcases h.txt o ho' with e | e | e
    · rw [e]; show 0 < _; omega
    · have := sz a ga _ e; omega
    · have := sz b gb _ e; omega⟩
  have hl : l.length ≤ 1000000 := by have := h.len; omega
  obtain ⟨ta, ca⟩ := good_closed a ga
  obtain ⟨tb, cb⟩ := good_closed b gb
  have ok : ∀ x : List ByteArray, x.length ≤ 20 → textS (x.map some) = true → closedS false (x.map some) = true → okS (List.replicate n.toNat none ++ x.map some) = true := by
    intro x hx h1 h2
    unfold okS
    rw [textS_app, textS_none, h1, closedS_none, h2]
    simp only [List.length_append, List.length_replicate, List.length_map, Bool.true_and, decide_eq_true_eq]
    omega
  have hr : rightL l = true := by
    rw [right_iff h.form]
    unfold rightU
    rw [ho, hn, ok a la ta ca, ok b lb tb cb]; rfl
  have e1 := ptidy_ev hs hl
  rw [hr, if_pos rfl] at e1
  have hm2 := hs.tidy (by omega) hr
  have chs : chN (tidyL l) + 2 * lcs a b = a.length + b.length := by
    rw [ch_tidy, td_cong (v := List.replicate n.toNat .skip ++ dU a b) (by rw [ho, olds_app, olds_skips, (dU_sides a b).1]) (by rw [hn, news_app, news_skips, (dU_sides a b).2])]
    have e : ∀ k : Nat, chU (tdU [] [] (List.replicate k .skip ++ dU a b)) = chU (dU a b) := by
      intro k
      have e0 : chU (tdU [] [] (dU a b)) = chU (dU a b) := by
        have s := tdU_sides (dU a b) [] []
        have d := dU_ch a b
        have g := td_Gn (dU a b) [] [] ((dU a b).length + 1) (by omega)
        rw [List.map_nil, List.nil_append, List.nil_append, (dU_sides a b).1, (dU_sides a b).2, Gn, splitN_all, splitN_all] at g
        rw [g]
      cases k with
      | zero => exact e0
      | succ k =>
        rw [td_skips, dU_nil, List.map_nil, List.nil_append, chU_app, e0]
        have : ∀ k : Nat, chU (List.replicate k .skip) = 0 := by
          intro k
          induction k with
          | zero => rfl
          | succ k ih => rw [List.replicate_succ, chU_skip, ih]
        rw [this]; omega
    rw [e]; exact dU_ch a b
  have cc : (chN (tidyL l) : Int) ≤ (chN l : Int) := by
    rw [ch_tidy, chN_ex h.form]
    have := td_ch0 (ex l)
    omega
  have id : idleL l = decide (a = b) := by
    rw [idle_iff hr, ho, hn]
    have : (List.replicate n.toNat none ++ a.map some = List.replicate n.toNat none ++ b.map some) ↔ a = b := by
      constructor
      · intro h; exact map_some_inj (List.append_cancel_left h)
      · rintro rfl; rfl
    simp only [this]
  have rl := refLen' (a := a) (b := b) (by omega) (by omega)
  have tx := texts_ev a b (by omega)
  have w1 := wrap_led chs la lb
  refine Ev.step (fun k => rfl) ?_
  simp only [patchworklaw13_TidyLeast.l0, if_neg hm]
  refine Ev.bind' e1 ?_
  refine Ev.bind' (changes_ev hm2) ?_
  refine Ev.bindN rl ?_
  refine Ev.ifp w1.symm ?_
  refine Ev.bind' (changes_ev hm2) ?_
  refine Ev.bind' (changes_ev hs) ?_
  simp only [if_pos cc]
  refine Ev.bind' (pidle_ev hs hl) ?_
  refine Ev.bind' tx ?_
  simp only [id, beq_self_eq_true]
  exact Ev.now true
theorem TidyLeast.loop {a b : List ByteArray} {n : Int} (ga : goodL a = true) (gb : goodL b = true) (la : a.length ≤ 20) (lb : b.length ≤ 20) (n1 : 1 ≤ n) (n2 : n ≤ 100) (x3 : List Int) (h3 : 40 ≤ x3.length) :
    ∀ (d i j m : Nat) (l : List Op), 40 - m ≤ d → m ≤ 40 → i ≤ a.length → j ≤ b.length → (a.length - i) + (b.length - j) ≤ 40 - m → Led a b n i j l → Ev (fun k => patchworklaw13_TidyLeast.l0 k a b x3 l (i : Int) (j : Int) (m : Int)) true := by
  intro d
  induction d with
  | zero =>
    intro i j m l hd hm hi hj hrest h
    have e1 : i = a.length := by omega
    have e2 : j = b.length := by omega
    subst e1 e2
    exact TidyLeast.fin ga gb la lb n1 n2 h x3 _ _ _ (by omega)
  | succ d ih =>
    intro i j m l hd hm hi hj hrest h
    by_cases hm40 : m < 40
    · have cm : (m : Int) < 40 := by omega
      have c0 : (0 : Int) ≤ (m : Int) := by omega
      have c3 : (m : Int) < (x3.length : Int) := by omega
      have ci0 : (0 : Int) ≤ (i : Int) := by omega
      have cj0 : (0 : Int) ≤ (j : Int) := by omega
      have bi : i < 4398046511104 := by omega
      have bj : j < 4398046511104 := by omega
      have bm : m < 4398046511104 := by omega
      have cl : l.length < 4398046511104 := by have := h.len; omega
      have ra : ∀ hi' : i < a.length, rdOf ByteArray.empty a (i : Int) = a[i] := fun hi' => rdOf_get hi'
      have rb : ∀ hj' : j < b.length, rdOf ByteArray.empty b (j : Int) = b[j] := fun hj' => rdOf_get hj'
      have tk : ∀ (x : List ByteArray) (p : Nat), ((x.take p).drop p).map some = ([] : List (Option ByteArray)) := fun x p => by
        rw [List.drop_eq_nil_of_le (by rw [List.length_take]; omega)]; rfl
      -- a line comes
      have insj : j < b.length → Ev (fun k => patchworklaw13_TidyLeast.j3 k a b x3 l (i : Int) (j : Int) (m : Int) false) true := by
        intro hj'
        have cj : (j : Int) < (b.length : Int) := by omega
        refine Ev.step (fun k => rfl) ?_
        simp only [patchworklaw13_TidyLeast.j3, Bool.false_eq_true, if_false, if_pos cj, if_pos cj0, if_pos cl, rb hj', wrap_succ bj, wrap_succ bm]
        refine ih i (j + 1) (m + 1) _ (by omega) (by omega) hi (by omega) (by omega) (h.step (.inr ⟨.inr (.inr rfl), rfl⟩) ?_ ?_ (Nat.le_refl _) (by omega) (by omega) (.inr (List.getElem_mem hj')))
        · rw [tk]; simp [exO, olds]
        · rw [take_drop_one hj']; simp [exO, news]
      have deli : i < a.length → Ev (fun k => patchworklaw13_TidyLeast.j3 k a b x3 l (i : Int) (j : Int) (m : Int) true) true := by
        intro hi'
        have ci : (i : Int) < (a.length : Int) := by omega
        refine Ev.step (fun k => rfl) ?_
        simp only [patchworklaw13_TidyLeast.j3, if_true, if_pos ci, if_pos ci0, if_pos cl, ra hi', wrap_succ bi, wrap_succ bm]
        refine ih (i + 1) j (m + 1) _ (by omega) (by omega) (by omega) hj (by omega) (h.step (.inr ⟨.inr (.inl rfl), rfl⟩) ?_ ?_ (by omega) (Nat.le_refl _) (by omega) (.inl (List.getElem_mem hi')))
        · rw [take_drop_one hi']; simp [exO, olds]
        · rw [tk]; simp [exO, news]
      have j2f : Ev (fun k => patchworklaw13_TidyLeast.j2 k a b x3 l (i : Int) (j : Int) (m : Int) false) true := by
        refine Ev.step (fun k => rfl) ?_
        simp only [patchworklaw13_TidyLeast.j2, Bool.false_eq_true, if_false]
        by_cases hi' : i < a.length
        · have ci : (i : Int) < (a.length : Int) := by omega
          simp only [if_pos ci, if_pos c0, if_pos c3]
          by_cases hb2 : (Go.bits .and .i64 (rd x3 (m : Int)) 2) = 0
          · simp only [if_pos hb2]; exact deli hi'
          · simp only [if_neg hb2]
            by_cases hj' : j < b.length
            · have : ((j : Int) == (b.length : Int)) = false := by simp; omega
              rw [this]; exact insj hj'
            · have : ((j : Int) == (b.length : Int)) = true := by simp; omega
              rw [this]; exact deli hi'
        · have ci : ¬ (i : Int) < (a.length : Int) := by omega
          simp only [if_neg ci]
          by_cases hj' : j < b.length
          · exact insj hj'
          · have cj : ¬ (j : Int) < (b.length : Int) := by omega
            refine Ev.step (fun k => rfl) ?_
            simp only [patchworklaw13_TidyLeast.j3, Bool.false_eq_true, if_false, if_neg cj, wrap_succ bm]
            exact ih i j (m + 1) l (by omega) (by omega) hi hj (by omega) h
      refine Ev.step (fun k => rfl) ?_
      simp only [patchworklaw13_TidyLeast.l0, if_pos cm]
      by_cases hi' : i < a.length
      · have ci : (i : Int) < (a.length : Int) := by omega
        simp only [if_pos ci]
        by_cases hj' : j < b.length
        · have cj : (j : Int) < (b.length : Int) := by omega
          simp only [if_pos cj, if_pos ci0, if_pos cj0, ra hi', rb hj']
          by_cases he : a[i].toList = b[j].toList
          · simp only [if_pos he, if_pos c0, if_pos c3]
            cases hb1 : (Go.bits .and .i64 (rd x3 (m : Int)) 1) == 0
            · exact j2f
            · have he' : a[i] = b[j] := txt_eq he
              refine Ev.step (fun k => rfl) ?_
              simp only [patchworklaw13_TidyLeast.j2, if_true, if_pos ci0, if_pos ci, if_pos cl, ra hi', wrap_succ bi, wrap_succ bj, wrap_succ bm]
              refine ih (i + 1) (j + 1) (m + 1) _ (by omega) (by omega) (by omega) (by omega) (by omega) (h.step (.inr ⟨.inl rfl, rfl⟩) ?_ ?_ (by omega) (by omega) (by omega) (.inl (List.getElem_mem hi')))
              · rw [take_drop_one hi']; simp [exO, olds]
              · rw [take_drop_one hj', he']; simp [exO, news]
          · simp only [if_neg he]; exact j2f
        · have cj : ¬ (j : Int) < (b.length : Int) := by omega
          simp only [if_neg cj]; exact j2f
      · have ci : ¬ (i : Int) < (a.length : Int) := by omega
        simp only [if_neg ci]; exact j2f
    · have e1 : i = a.length := by omega
      have e2 : j = b.length := by omega
      subst e1 e2
      exact TidyLeast.fin ga gb la lb n1 n2 h x3 _ _ _ (by omega)
theorem TidyLeast.proved : TidyLeast.Pure := by
  intro a b n c _ _ _ _ hw
  simp only at hw
  have wa := wt_len a
  have wb := wt_len b
  have ta := textSum_le a
  have tb := textSum_le b
  have sz : ∀ x : List ByteArray, (x.map fun s => s.size + 1).sum ≤ 1048576 → ∀ t ∈ x, t.size < 4611686018427387904 := fun x hx t ht => (SmT.of_wt (l := x) (by omega)).2 t ht
  refine Ev.rounds ?_
  simp only [patchworklaw13_TidyLeast.f]
  refine Ev.bind' alive13 ?_
  simp only [if_true]
  by_cases c1 : (a.length : Int) > 20
  · simp only [if_pos c1]; exact TidyLeast.out a b n c
  by_cases c2 : (b.length : Int) > 20
  · simp only [if_neg c1, if_pos c2]; exact TidyLeast.out a b n c
  by_cases c3 : n < 1
  · simp only [if_neg c1, if_neg c2, if_pos c3]; exact TidyLeast.out a b n c
  by_cases c4 : n > 100
  · simp only [if_neg c1, if_neg c2, if_neg c3, if_pos c4]; exact TidyLeast.out a b n c
  by_cases c5 : (c.length : Int) < 40
  · simp only [if_neg c1, if_neg c2, if_neg c3, if_neg c4, if_pos c5]; exact TidyLeast.out a b n c
  simp only [if_neg c1, if_neg c2, if_neg c3, if_neg c4, if_neg c5]
  refine Ev.bind' (closed13_ev (by omega) (sz a (by omega))) ?_
  cases ga : goodL a
  · simp only [Bool.false_eq_true, if_false]; exact TidyLeast.out a b n c
  simp only [if_true]
  refine Ev.bind' (closed13_ev (by omega) (sz b (by omega))) ?_
  cases gb : goodL b
  · exact TidyLeast.out a b n c
  simp only [Bool.not_true]
  refine Ev.step (fun k => rfl) ?_
  simp only [patchworklaw13_TidyLeast.j0, Bool.false_eq_true, if_false]
  have start : Led a b n 0 0 [(⟨1, n, ⟨#[]⟩⟩ : Op)] := by
    refine ⟨fun o ho => ?_, ?_, ?_, by simp, fun o ho => ?_⟩
    · rw [List.mem_singleton.mp ho]; exact .inl ⟨rfl, by dsimp only; omega, rfl⟩
    · rw [show ex [(⟨1, n, ⟨#[]⟩⟩ : Op)] = List.replicate n.toNat .skip from by simp [ex, exO], olds_skips]; simp
    · rw [show ex [(⟨1, n, ⟨#[]⟩⟩ : Op)] = List.replicate n.toNat .skip from by simp [ex, exO], news_skips]; simp
    · rw [List.mem_singleton.mp ho]; exact .inl rfl
  exact TidyLeast.loop ga gb (by omega) (by omega) (by omega) (by omega) c (by omega) 40 0 0 0 _ (by omega) (by omega) (by omega) (by omega) (by omega) start
end Go.Proofs.Ytacpejblnjgcoaa.P
