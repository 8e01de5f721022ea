/- Own: ApplyCounts holds. -/
import Derived.Test.YtkalkickknjdhaaAa
import Derived.Test.YtkalkickknjdhaaDc
import Derived.Test.YtkalkickknjdhaaSApplyCounts
namespace Go.Proofs.Ytkalkickknjdhaa.P
open Go.RowKit Go.Proofs.YtkalkickknjdhaaW.PrintWords Go.Proofs.YtkalkickknjdhaaW.PrintLast Go.Proofs.YtkalkickknjdhaaW.PrintMore
set_option linter.unusedVariables false
set_option linter.unusedSimpArgs false

theorem ApplyCounts.out (a : List Op) (b : List ByteArray) : Ev (fun k => patchworklaw9_ApplyCounts.j0 k a b true true) true := by
  refine Ev.step (fun k => rfl) ?_
  simp only [patchworklaw9_ApplyCounts.j0, if_true]
  exact Ev.now true
/-- How long what comes out is, and its end. -/
theorem doU_end : ∀ (u : List U) (ls r : List ByteArray), doU u ls = some r → r.length + (olds u).length = ls.length + (news u).length ∧ (olds u).length ≤ ls.length ∧ r.drop (news u).length = ls.drop (olds u).length
  | [], ls, r, h => by rw [doU] at h; obtain rfl := Option.some.inj h; simp [olds, news]
  | .ins t :: u, ls, r, h => by
    rw [doU] at h
    obtain ⟨r', h', rfl⟩ := Option.map_eq_some_iff.mp h
    have := doU_end u ls r' h'
    simp only [olds, news, List.length_cons, List.drop_succ_cons]; exact ⟨by omega, by omega, this.2.2⟩
  | .del t :: u, [], r, h => by rw [doU] at h; simp at h
  | .del t :: u, x :: ls, r, h => by
    rw [doU] at h
    split at h
    · have := doU_end u ls r h
      simp only [olds, news, List.length_cons, List.drop_succ_cons]; exact ⟨by omega, by omega, this.2.2⟩
    · simp at h
  | .keep t :: u, [], r, h => by rw [doU] at h; simp at h
  | .keep t :: u, x :: ls, r, h => by
    rw [doU] at h
    split at h
    · obtain ⟨r', h', rfl⟩ := Option.map_eq_some_iff.mp h
      have := doU_end u ls r' h'
      simp only [olds, news, List.length_cons, List.drop_succ_cons]; exact ⟨by omega, by omega, this.2.2⟩
    · simp at h
  | .skip :: u, [], r, h => by rw [doU] at h; simp at h
  | .skip :: u, x :: ls, r, h => by
    rw [doU] at h
    obtain ⟨r', h', rfl⟩ := Option.map_eq_some_iff.mp h
    have := doU_end u ls r' h'
    simp only [olds, news, List.length_cons, List.drop_succ_cons]; exact ⟨by omega, by omega, this.2.2⟩
theorem wrap_succ {i : Nat} (h : i < 4398046511104) : wrap64 ((i : Int) + 1) = ((i + 1 : Nat) : Int) := by
  rw [wrap_small (n := (i : Int) + 1) (by omega) (by omega)]; omega
theorem wrap_at {a b i : Nat} (h : a ≤ i) (hi : i < 4398046511104) (hb : b < 4398046511104) : wrap64 (wrap64 ((b : Int) + (i : Int)) - (a : Int)) = ((b + (i - a) : Nat) : Int) := by
  rw [wrap_small (n := (b : Int) + (i : Int)) (by omega) (by omega), wrap_small (n := (b : Int) + (i : Int) - (a : Int)) (by omega) (by omega)]
  omega
theorem front_loop {l : List Op} {ls r : List ByteArray} (hr : rightL l = true) (hd : doU (ex l) ls = some r) (hll : ls.length < 4398046511104) :
    ∀ (n i : Nat), ls.length - i ≤ n → i ≤ ls.length → Ev (fun k => patchworklaw9_ApplyCounts.l1 k l ls r (i : Int)) true := by
  have done : ∀ i : Nat, Ev (fun k => patchworklaw9_ApplyCounts.j4 k l ls r (i : Int) false) true := by
    intro i
    refine Ev.step (fun k => rfl) ?_
    simp only [patchworklaw9_ApplyCounts.j4, Bool.false_eq_true, if_false]
    exact Ev.now true
  intro n
  have go : ∀ i : Nat, i ≤ ls.length → (i < ls.length → Ev (fun k => patchworklaw9_ApplyCounts.l1 k l ls r ((i + 1 : Nat) : Int)) true) → Ev (fun k => patchworklaw9_ApplyCounts.l1 k l ls r (i : Int)) true := by
    intro i hi nx
    refine Ev.step (fun k => rfl) ?_
    cases l with
    | nil =>
      have c : ¬ (([] : List Op).length : Int) > 0 := by simp
      simp only [patchworklaw9_ApplyCounts.l1, if_neg c]
      exact done i
    | cons o l =>
      have c : ((o :: l).length : Int) > 0 := by simp only [List.length_cons]; omega
      have rd0 : rd_Op (o :: l) 0 = o := rfl
      simp only [patchworklaw9_ApplyCounts.l1, if_pos c, rd0]
      by_cases hk : o.f0 = 1
      · simp only [if_pos hk]
        by_cases hlt : (i : Int) < o.f1
        · simp only [hlt, decide_true]
          obtain ⟨h1, _, _⟩ := okOne_skip ((rightL_ok hr).1 o (List.mem_cons_self ..)) hk
          rw [ex_cons, show exO o = List.replicate o.f1.toNat .skip from by simp [exO, hk], doU_skips] at hd
          split at hd
          · simp at hd
          · rename_i hn
            obtain ⟨r', _, e⟩ := Option.map_eq_some_iff.mp hd
            have hil : i < ls.length := by omega
            have hir : i < r.length := by rw [← e]; simp only [List.length_append, List.length_take]; omega
            have g1 : (0 : Int) ≤ (i : Int) := by omega
            have g2 : (i : Int) < (r.length : Int) := by omega
            have g3 : (i : Int) < (ls.length : Int) := by omega
            have e1 : rdOf ByteArray.empty r (i : Int) = rdOf ByteArray.empty ls (i : Int) := by
              unfold rdOf
              rw [Int.toNat_natCast, List.getD_eq_getElem?_getD, List.getD_eq_getElem?_getD, ← e, List.getElem?_append_left (by rw [List.length_take]; omega), List.getElem?_take_of_lt (by omega)]
            have w : wrap64 ((i : Int) + 1) = ((i + 1 : Nat) : Int) := wrap_succ (by omega)
            refine Ev.step (fun k => rfl) ?_
            simp only [patchworklaw9_ApplyCounts.j4, if_true, if_pos g1, if_pos g2, if_pos g3, e1, w]
            exact nx hil
        · simp only [hlt, decide_false]
          exact done i
      · simp only [if_neg hk]
        exact done i
  induction n with
  | zero => intro i hi hle; exact go i hle (fun h => by omega)
  | succ n ih => intro i hi hle; exact go i hle (fun h => ih (i + 1) (by omega) (by omega))
theorem end_loop {l : List Op} {ls r : List ByteArray} {a b : Nat} (hb : r.length + a = ls.length + b) (ha : a ≤ ls.length) (he : r.drop b = ls.drop a) (hll : ls.length < 4398046511104) (hbl : b < 4398046511104)
    (fin : Ev (fun k => patchworklaw9_ApplyCounts.l1 k l ls r 0) true) : ∀ (n i : Nat), ls.length - i ≤ n → a ≤ i → i ≤ ls.length → Ev (fun k => patchworklaw9_ApplyCounts.l0 k l ls r (a : Int) (b : Int) (i : Int)) true := by
  intro n
  have go : ∀ i : Nat, a ≤ i → i ≤ ls.length → (i < ls.length → Ev (fun k => patchworklaw9_ApplyCounts.l0 k l ls r (a : Int) (b : Int) ((i + 1 : Nat) : Int)) true) → Ev (fun k => patchworklaw9_ApplyCounts.l0 k l ls r (a : Int) (b : Int) (i : Int)) true := by
    intro i hai hi nx
    refine Ev.step (fun k => rfl) ?_
    by_cases h : i < ls.length
    · have c : (i : Int) < (ls.length : Int) := by omega
      have g1 : (0 : Int) ≤ ((b + (i - a) : Nat) : Int) := by omega
      have g2 : ((b + (i - a) : Nat) : Int) < (r.length : Int) := by omega
      have g3 : (0 : Int) ≤ (i : Int) := by omega
      have e1 : rdOf ByteArray.empty r ((b + (i - a) : Nat) : Int) = rdOf ByteArray.empty ls (i : Int) := by
        unfold rdOf
        rw [Int.toNat_natCast, Int.toNat_natCast, List.getD_eq_getElem?_getD, List.getD_eq_getElem?_getD]
        have : (r.drop b)[i - a]? = (ls.drop a)[i - a]? := by rw [he]
        rw [List.getElem?_drop, List.getElem?_drop] at this
        rw [this, show a + (i - a) = i from by omega]
      have w2 : wrap64 ((i : Int) + 1) = ((i + 1 : Nat) : Int) := wrap_succ (by omega)
      have w := wrap_at hai (show i < 4398046511104 by omega) hbl
      clear hll hbl
      simp only [patchworklaw9_ApplyCounts.l0, if_pos c, w, if_pos g1, if_pos g2, if_pos g3, e1, if_true, w2]
      exact nx h
    · have c : ¬ (i : Int) < (ls.length : Int) := by omega
      simp only [patchworklaw9_ApplyCounts.l0, if_neg c]
      exact fin
  induction n with
  | zero => intro i hi hai hle; exact go i hai hle (fun h => by omega)
  | succ n ih => intro i hi hai hle; exact go i hai hle (fun h => ih (i + 1) (by omega) (by omega) (by omega))
theorem wrap_two {x a b c : Nat} (h : x + c = a + b) (ha : a < 4398046511104) (hb : b < 4398046511104) : (x : Int) = wrap64 (wrap64 ((a : Int) + (b : Int)) - (c : Int)) := by
  rw [wrap_small (n := (a : Int) + (b : Int)) (by omega) (by omega), wrap_small (n := (a : Int) + (b : Int) - (c : Int)) (by omega) (by omega)]
  omega
set_option maxHeartbeats 1000000 in
theorem ApplyCounts.proved : ApplyCounts.Pure := by
  intro l ls _ _ hw
  simp only at hw
  have hs : Sm l := Sm.of_wt (by omega)
  have hf := fewN_le l
  have hfl := fewN_len l
  have w1 := wt_len ls
  have t1 := textSum_le ls
  have hls : SmT ls := SmT.of_wt (by omega)
  obtain ⟨b1, e1, _⟩ := short_ev ls (by omega)
  refine Ev.rounds ?_
  simp only [patchworklaw9_ApplyCounts.f]
  refine Ev.bind' alive9 ?_
  simp only [if_true]
  refine Ev.bind' (few_ev (by omega)) ?_
  by_cases h : fewN l ≤ 600
  · simp only [h, decide_true, if_true]
    refine Ev.bind' e1 ?_
    cases b1
    · exact ApplyCounts.out l ls
    simp only [Bool.not_true]
    refine Ev.step (fun k => rfl) ?_
    simp only [patchworklaw9_ApplyCounts.j0, Bool.false_eq_true, if_false]
    refine Ev.bind' (pdo_ev hs hls) ?_
    by_cases hd : (doL l ls).2 = true
    · obtain ⟨r, d1, d2, d3, d4, d5⟩ := doL_true hd
      rw [d5]
      simp only [if_true]
      obtain ⟨b1, b2, b3⟩ := doU_end _ _ _ d3
      have fl := rightL_form d1
      obtain ⟨_, a3, a4, _⟩ := rightL_ok d1
      have c3 : capd 3 l = ((olds (ex l)).length : Int) := by rw [← sums_olds _ fl]; unfold capd far; omega
      have c4 : capd 4 l = ((news (ex l)).length : Int) := by rw [← sums_news _ fl]; unfold capd far; omega
      rw [sums_olds _ fl] at a3
      rw [sums_news _ fl] at a4
      have hr : SmT r := hls.done (by omega) hs (by omega) d3
      have hrl := hr.1
      have hll := hls.1
      have g1 : ¬ ((olds (ex l)).length : Int) > (ls.length : Int) := by omega
      have g2 : ¬ ((news (ex l)).length : Int) > (r.length : Int) := by omega
      have fin : Ev (fun k => patchworklaw9_ApplyCounts.l0 k l ls r _ _ _) true := end_loop b1 b2 b3 (by omega) (by omega) (front_loop d1 d3 (by omega) ls.length 0 (by omega) (by omega)) ls.length _ (by omega) (Nat.le_refl _) b2
      have w : (r.length : Int) = wrap64 (wrap64 ((ls.length : Int) + ((news (ex l)).length : Int)) - ((olds (ex l)).length : Int)) := wrap_two (by omega) (by omega) (by omega)
      refine Ev.bind' (refolds_ev hs) ?_
      refine Ev.bind' (refnews_ev hs) ?_
      simp only [c3, c4, if_pos w, if_neg g1, g2, decide_false]
      refine Ev.step (fun k => rfl) ?_
      simp only [patchworklaw9_ApplyCounts.j1, Bool.false_eq_true, if_false]
      exact fin
    · have hd : (doL l ls).2 = false := by simpa using hd
      rw [doL_no hd]
      simp only [Bool.false_eq_true, if_false, List.length_nil, Int.natCast_zero, beq_self_eq_true]
      exact Ev.now true
  · simp only [h, decide_false, Bool.false_eq_true, if_false]
    exact ApplyCounts.out l ls
end Go.Proofs.Ytkalkickknjdhaa.P
