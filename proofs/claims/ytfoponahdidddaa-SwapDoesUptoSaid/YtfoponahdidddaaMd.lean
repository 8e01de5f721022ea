/- Own: the program's Norm: the order of single lines, packed. -/
import Derived.Test.YtfoponahdidddaaUa
namespace Go.Proofs.Ytfoponahdidddaa.P
open Go.RowKit Go.Proofs.YtfoponahdidddaaW.PrintWords Go.Proofs.YtfoponahdidddaaW.PrintLast Go.Proofs.YtfoponahdidddaaW.PrintMore

theorem Op.eta (o : Op) : (⟨o.f0, o.f1, o.f2⟩ : Op) = o := rfl
theorem some_loop (c : Int) (s : List Op) : ∀ (p out : List Op), Sm (p ++ s) → out.length + s.length < 4398046511104 → Ev (fun k => ops_Some.l0 k c out (p ++ s) ((p ++ s).length : Int) (p.length : Int)) (out ++ s.filter fun o => decide (o.f0 = c)) := by
  induction s with
  | nil =>
    intro p out _ _
    refine Ev.step (fun k => rfl) ?_
    simp only [ops_Some.l0, lt_end, if_false]
    simpa using Ev.now out
  | cons o s ih =>
    intro p out hb hl
    simp only [List.length_cons] at hl
    have i := fun out h => ih (p ++ [o]) out hb.snoc h
    rw [List.append_assoc, List.singleton_append] at i
    have hlo : out.length < 4398046511104 := by omega
    refine Ev.step (fun k => rfl) ?_
    simp only [ops_Some.l0, lt_mid, nn_nat, if_true, rdOp_mid, wrap_len p o (by have := hb.len; omega), if_pos hlo]
    by_cases h : o.f0 = c
    · simp only [if_pos h]
      have := i (out ++ [o]) (by simp; omega)
      rw [List.filter_cons_of_pos (by simpa using h)]
      simpa using this
    · simp only [if_neg h]
      rw [List.filter_cons_of_neg (by simpa using h)]
      exact i out (by omega)
theorem some_ev (c : Int) {l : List Op} (h : Sm l) : Ev (fun k => ops_Some.f k l c) (l.filter fun o => decide (o.f0 = c)) := by
  have := some_loop c l [] [] h (by simpa using h.1)
  simpa [ops_Some.f] using this
def chO (o : Op) : Bool := decide (o.f0 = 3 ∨ o.f0 = 4)
theorem change_kind (x : Int) : ops_Change.f x = some (decide (x = 3 ∨ x = 4)) := by
  unfold ops_Change.f
  by_cases h1 : x = 3
  · simp [h1]
  · by_cases h2 : x = 4 <;> simp [h1, h2]
theorem Sm.sub {p s : List Op} (h : Sm (p ++ s)) : Sm s := ⟨by have := h.1; simp at this; omega, fun o ho => h.2 o (by simp [ho])⟩
theorem Sm.left {p s : List Op} (h : Sm (p ++ s)) : Sm p := ⟨by have := h.1; simp at this; omega, fun o ho => h.2 o (by simp [ho])⟩
/-- The run of changes is passed. -/
theorem norm_run (r : List Op) : ∀ (p s out : List Op) (from_ : Int) (v : List Op), Sm (p ++ (r ++ s)) → (∀ o ∈ r, chO o = true) → (∀ o t, s = o :: t → chO o = false) →
    Ev (fun k => ops_Norm.j2 k (p ++ (r ++ s)) out ((p ++ r).length : Int) from_) v →
    Ev (fun k => ops_Norm.l1 k (p ++ (r ++ s)) out (p.length : Int) from_) v := by
  induction r with
  | nil =>
    intro p s out from_ v hb _ hs h
    rw [List.append_nil, List.nil_append] at h
    rw [List.nil_append]
    refine Ev.step (fun k => rfl) ?_
    cases s with
    | nil =>
      simp only [ops_Norm.l1, lt_end, if_false]
      exact h
    | cons o t =>
      have ho := hs o t rfl
      have ho' : ¬ (o.f0 = 3 ∨ o.f0 = 4) := by simpa [chO] using ho
      simp only [ops_Norm.l1, lt_mid, nn_nat, if_true, rdOp_mid, change_kind, Option.bind_some, ho', decide_false, Bool.false_eq_true, if_false]
      exact h
  | cons o r ih =>
    intro p s out from_ v hb hr hs h
    have ho : chO o = true := hr o (List.mem_cons_self ..)
    have ho' : o.f0 = 3 ∨ o.f0 = 4 := by simpa [chO] using ho
    have i := ih (p ++ [o]) s out from_ v (by simpa using hb) (fun x hx => hr x (List.mem_cons_of_mem _ hx)) hs (by simpa using h)
    rw [List.append_assoc, List.singleton_append] at i
    rw [List.cons_append] at hb ⊢
    refine Ev.step (fun k => rfl) ?_
    simp only [ops_Norm.l1, lt_mid, nn_nat, if_true, rdOp_mid, change_kind, Option.bind_some, ho', decide_true, wrap_len p o (by have := hb.len; omega)]
    exact i
/-- Skips that stand one behind the other are one. -/
theorem norm_skips (r : List Op) : ∀ (p s out : List Op) (n : Int) (v : List Op), Sm (p ++ (r ++ s)) → out.length < 4398046511104 → (∀ o ∈ r, o.f0 = 1 ∧ 1 ≤ o.f1) → (∀ o t, s = o :: t → o.f0 ≠ 1) → 0 ≤ n → n + (sums 3 r : Int) < 4611686018427387904 →
    Ev (fun k => ops_Norm.l0 k (p ++ (r ++ s)) (out ++ [(⟨1, n + (sums 3 r : Int), ByteArray.empty⟩ : Op)]) ((p ++ r).length : Int)) v →
    Ev (fun k => ops_Norm.l2 k (p ++ (r ++ s)) out (p.length : Int) 1 n ByteArray.empty) v := by
  induction r with
  | nil =>
    intro p s out n v hb hlo _ hs h0 hn h
    rw [List.append_nil, List.nil_append, sums_nil, Int.natCast_zero, Int.add_zero] at h
    rw [List.nil_append]
    refine Ev.step (fun k => rfl) ?_
    cases s with
    | nil =>
      simp only [ops_Norm.l2, lt_end, if_false, if_true, if_pos hlo]
      exact h
    | cons o t =>
      have ho := hs o t rfl
      simp only [ops_Norm.l2, lt_mid, nn_nat, if_true, rdOp_mid, if_neg ho, if_pos hlo]
      exact h
  | cons o r ih =>
    intro p s out n v hb hlo hr hs h0 hn h
    obtain ⟨hk, h1⟩ := hr o (List.mem_cons_self ..)
    have hc : (cnt 3 o : Int) = o.f1 := by simp [cnt, hk]; omega
    rw [sums_cons] at hn h
    have hw : wrap64 (n + o.f1) = n + o.f1 := by unfold wrap64; omega
    have e : n + ((cnt 3 o + sums 3 r : Nat) : Int) = (n + o.f1) + (sums 3 r : Int) := by omega
    rw [e] at h
    have i := ih (p ++ [o]) s out (n + o.f1) v (by simpa using hb) hlo (fun x hx => hr x (List.mem_cons_of_mem _ hx)) hs (by omega) (by omega) (by simpa using h)
    rw [List.append_assoc, List.singleton_append] at i
    rw [List.cons_append] at hb ⊢
    refine Ev.step (fun k => rfl) ?_
    simp only [ops_Norm.l2, lt_mid, nn_nat, if_true, rdOp_mid, if_pos hk, hw, wrap_len p o (by have := hb.len; omega)]
    exact i
theorem okOne_skip {o : Op} (h : okOne o = true) (hk : o.f0 = 1) : 1 ≤ o.f1 ∧ o.f1 ≤ 2147483648 ∧ o.f2 = ByteArray.empty := by
  unfold okOne at h
  rw [if_pos hk] at h
  simp only [Bool.and_eq_true, decide_eq_true_eq] at h
  refine ⟨h.1, h.2.1, WideShapes.bytes_inj ?_⟩
  rw [h.2.2]; rfl
theorem okOne_ne {o : Op} (h : okOne o = true) (hk : o.f0 ≠ 1) : (o.f0 = 2 ∨ o.f0 = 3 ∨ o.f0 = 4) ∧ o.f1 = 0 ∧ rightT o.f2 = true := by
  unfold okOne at h
  rw [if_neg hk] at h
  simpa only [Bool.and_eq_true, decide_eq_true_eq] using h
/-- A list of right steps begins with changes, then Skips (if one stands there), then something else. -/
theorem cut (f : Op → Bool) : ∀ (l : List Op), ∃ r s, l = r ++ s ∧ (∀ o ∈ r, f o = true) ∧ (∀ o t, s = o :: t → f o = false)
  | [] => ⟨[], [], rfl, fun o h => by simp at h, fun o t h => by simp at h⟩
  | o :: l => by
    by_cases ho : f o = true
    · obtain ⟨r, s, rfl, h1, h2⟩ := cut f l
      refine ⟨o :: r, s, rfl, fun x hx => ?_, h2⟩
      rcases List.mem_cons.mp hx with rfl | hx
      · exact ho
      · exact h1 x hx
    · exact ⟨[], o :: l, rfl, fun x h => by simp at h, fun x t h => by obtain ⟨rfl, _⟩ := List.cons.inj h; simpa using ho⟩
theorem ex_run : ∀ (r : List Op), (∀ o ∈ r, chO o = true ∧ okOne o = true) → (∀ x ∈ ex r, isCh x = true) ∧ (delsU (ex r)).map opU = r.filter (fun o => decide (o.f0 = 3)) ∧ (inssU (ex r)).map opU = r.filter (fun o => decide (o.f0 = 4)) ∧ AllIns (inssU (ex r))
  | [], _ => ⟨fun x h => by simp [ex] at h, rfl, rfl, .nil⟩
  | o :: r, h => by
    obtain ⟨i1, i2, i3, i4⟩ := ex_run r fun x hx => h x (List.mem_cons_of_mem _ hx)
    obtain ⟨hc, ho⟩ := h o (List.mem_cons_self ..)
    have hc' : o.f0 = 3 ∨ o.f0 = 4 := by simpa [chO] using hc
    obtain ⟨_, h1, _⟩ := okOne_ne ho (by omega)
    rw [ex_cons]
    rcases hc' with hk | hk
    · have e : exO o = [.del o.f2] := by simp [exO, hk]
      have eo : opU (.del o.f2) = o := Op.ext' hk.symm h1.symm rfl
      rw [e]
      refine ⟨fun x hx => ?_, ?_, ?_, ?_⟩
      · rcases List.mem_cons.mp hx with rfl | hx
        · rfl
        · exact i1 x hx
      · rw [List.filter_cons_of_pos (by simpa using hk), ← i2, ← eo]; rfl
      · rw [List.filter_cons_of_neg (by simp [hk]), ← i3]; rfl
      · exact i4
    · have e : exO o = [.ins o.f2] := by simp [exO, hk]
      have eo : opU (.ins o.f2) = o := Op.ext' hk.symm h1.symm rfl
      rw [e]
      refine ⟨fun x hx => ?_, ?_, ?_, ?_⟩
      · rcases List.mem_cons.mp hx with rfl | hx
        · rfl
        · exact i1 x hx
      · rw [List.filter_cons_of_neg (by simp [hk]), ← i2]; rfl
      · rw [List.filter_cons_of_pos (by simpa using hk), ← i3, ← eo]; rfl
      · intro x hx
        rcases List.mem_cons.mp hx with rfl | hx
        · exact ⟨_, rfl⟩
        · exact i4 x hx
theorem ex_skips : ∀ (r : List Op), (∀ o ∈ r, o.f0 = 1 ∧ 1 ≤ o.f1) → ex r = List.replicate (sums 3 r) .skip
  | [], _ => rfl
  | o :: r, h => by
    obtain ⟨hk, _⟩ := h o (List.mem_cons_self ..)
    rw [ex_cons, ex_skips r fun x hx => h x (List.mem_cons_of_mem _ hx), sums_cons, ← List.replicate_append_replicate]
    simp [exO, cnt, hk]
theorem nf_skips : ∀ (n : Nat) (u : List U), nf [] (List.replicate n .skip ++ u) = List.replicate n .skip ++ nf [] u
  | 0, u => rfl
  | n + 1, u => by
    rw [List.replicate_succ, List.cons_append, nf, nf_skips n u]; rfl
theorem ex_noSk : ∀ {s : List Op}, (∀ o t, s = o :: t → o.f0 ≠ 1) → NoSkU (ex s)
  | [], _ => fun x r e => by simp [ex] at e
  | o :: s, h => by
    have := h o s rfl
    intro x r e
    rw [ex_cons] at e
    unfold exO at e
    rw [if_neg this] at e
    split at e
    · obtain ⟨rfl, _⟩ := List.cons.inj e; rfl
    · split at e
      · obtain ⟨rfl, _⟩ := List.cons.inj e; rfl
      · obtain ⟨rfl, _⟩ := List.cons.inj e; rfl
theorem dels_noSk (u : List U) : ∀ x ∈ delsU u, isSkip x = false := by
  intro x hx
  have := (List.mem_filter.mp hx).2
  cases x <;> simp_all [isSkip]
theorem AllIns.noSk {u : List U} (h : AllIns u) : ∀ x ∈ u, isSkip x = false := by
  intro x hx
  obtain ⟨t, rfl⟩ := h x hx
  rfl
theorem filt_len : ∀ (r : List Op), (r.filter fun o => decide (o.f0 = 3)).length + (r.filter fun o => decide (o.f0 = 4)).length ≤ r.length
  | [] => by simp
  | o :: r => by
    have ih := filt_len r
    by_cases h3 : o.f0 = 3
    · rw [List.filter_cons_of_pos (by simpa using h3), List.filter_cons_of_neg (by simp [h3])]
      simp only [List.length_cons]; omega
    · by_cases h4 : o.f0 = 4
      · rw [List.filter_cons_of_neg (by simpa using h3), List.filter_cons_of_pos (by simpa using h4)]
        simp only [List.length_cons]; omega
      · rw [List.filter_cons_of_neg (by simpa using h3), List.filter_cons_of_neg (by simpa using h4)]
        simp only [List.length_cons]; omega
/-- The program's order of right steps. -/
theorem norm_loop : ∀ (m : Nat) (s p out : List Op), s.length ≤ m → Sm (p ++ s) → out.length + s.length < 4398046511104 → (∀ o ∈ s, okOne o = true) → (sums 3 s : Int) < 1099511627776 →
    Ev (fun k => ops_Norm.l0 k (p ++ s) out (p.length : Int)) (out ++ pack (nf [] (ex s))) := by
  intro m
  induction m with
  | zero =>
    intro s p out hm _ _ _ _
    obtain rfl : s = [] := List.length_eq_zero_iff.mp (by omega)
    refine Ev.step (fun k => rfl) ?_
    simp only [ops_Norm.l0, lt_end, if_false]
    simpa [ex, nf, pack] using Ev.now out
  | succ m ih =>
    intro s p out hm hb hl hok hsum
    by_cases hs : s = []
    · subst hs
      refine Ev.step (fun k => rfl) ?_
      simp only [ops_Norm.l0, lt_end, if_false]
      simpa [ex, nf, pack] using Ev.now out
    have hpos : 0 < s.length := List.length_pos_iff.mpr hs
    have g : ((p.length : Int) < ((p ++ s).length : Int)) := by simp; omega
    refine Ev.step (fun k => rfl) ?_
    simp only [ops_Norm.l0, if_pos g]
    obtain ⟨r, t, rfl, hr, ht⟩ := cut chO s
    obtain ⟨x1, x2, x3, x4⟩ := ex_run r fun o ho => ⟨hr o ho, hok o (by simp [ho])⟩
    simp only [List.length_append] at hm hl hpos
    have hlr := filt_len r
    refine norm_run r p t out _ _ hb hr ht ?_
    have hcut : ((p ++ (r ++ t)).take ((p ++ r).length : Int).toNat).drop (p.length : Int).toNat = r := by
      rw [Int.toNat_natCast, Int.toNat_natCast, ← List.append_assoc, List.take_left' rfl, List.drop_left' rfl]
    have hsr : Sm r := hb.sub.left
    have c1 : (0 : Int) ≤ (p.length : Int) := by omega
    have c2 : (p.length : Int) ≤ ((p ++ r).length : Int) := by simp only [List.length_append]; omega
    have c3 : ((p ++ r).length : Int) ≤ ((p ++ (r ++ t)).length : Int) := by simp; omega
    have c4 : out.length + (r.filter fun o => decide (o.f0 = 3)).length < 4398046511104 := by omega
    have c5 : (out ++ r.filter fun o => decide (o.f0 = 3)).length + (r.filter fun o => decide (o.f0 = 4)).length < 4398046511104 := by simp only [List.length_append]; omega
    refine Ev.step (fun k => rfl) ?_
    simp only [ops_Norm.j2, if_pos c1, if_pos c2, if_pos c3, hcut]
    refine Ev.bind' (some_ev 3 hsr) ?_
    simp only [if_pos c4, Option.bind_some]
    refine Ev.bind' (some_ev 4 hsr) ?_
    simp only [if_pos c5]
    have hout : ∀ u, out ++ pack (nf [] (ex (r ++ t))) = u ↔ ((out ++ r.filter fun o => decide (o.f0 = 3)) ++ pack (nf (inssU (ex r)) (ex t))) = u := by
      intro u
      rw [ex_app, nf_run _ _ _ x1, List.nil_append, pack_app_ne _ _ (dels_noSk _), x2, List.append_assoc]
    rw [(hout _).mpr rfl]
    cases t with
    | nil =>
      have c6 : ((p ++ r).length : Int) = ((p ++ (r ++ [])).length : Int) := by simp
      simp only [if_pos c6]
      have e : pack (nf (inssU (ex r)) (ex [])) = r.filter fun o => decide (o.f0 = 4) := by
        rw [ex_nil, nf, ← x3]
        have := pack_app_ne (inssU (ex r)) [] x4.noSk
        rw [List.append_nil, pack, List.append_nil] at this
        exact this
      rw [e]
      exact Ev.now _
    | cons o t =>
      have c6 : ¬ ((p ++ r).length : Int) = ((p ++ (r ++ o :: t)).length : Int) := by simp only [List.length_append, List.length_cons]; omega
      have c7 : (0 : Int) ≤ ((p ++ r).length : Int) := by omega
      have c8 : ((p ++ r).length : Int) < ((p ++ (r ++ o :: t)).length : Int) := by simp; omega
      have hrd : rd_Op (p ++ (r ++ o :: t)) ((p ++ r).length : Int) = o := by
        rw [← List.append_assoc]; exact rdOp_mid (p ++ r) t o
      have hw : wrap64 (((p ++ r).length : Int) + 1) = (((p ++ r) ++ [o]).length : Int) := wrap_len (p ++ r) o (by have := hb.1; simp at this ⊢; omega)
      simp only [if_neg c6, if_pos c7, if_pos c8, hrd, hw]
      have hoo : okOne o = true := hok o (by simp)
      have hco : chO o = false := ht o t rfl
      have hco' : ¬ (o.f0 = 3 ∨ o.f0 = 4) := by simpa [chO] using hco
      have hnI : ∀ x r', nf (inssU (ex r)) (x :: r') = inssU (ex r) ++ nf [] (x :: r') ∨ isCh x = true := by
        intro x r'
        cases x with
        | skip => exact .inl rfl
        | keep t => exact .inl rfl
        | del t => exact .inr rfl
        | ins t => exact .inr rfl
      simp only [List.length_cons] at hm hl
      by_cases hk : o.f0 = 1
      · obtain ⟨h1, h2, h3⟩ := okOne_skip hoo hk
        obtain ⟨sk, t', rfl, hsk, ht'⟩ := cut (fun o => decide (o.f0 = 1)) t
        have hsk' : ∀ x ∈ sk, x.f0 = 1 ∧ 1 ≤ x.f1 := fun x hx => by
          have e : x.f0 = 1 := by simpa using hsk x hx
          exact ⟨e, (okOne_skip (hok x (by simp [hx])) e).1⟩
        have ht'' : ∀ x y, t' = x :: y → x.f0 ≠ 1 := fun x y e => by simpa using ht' x y e
        rw [sums_app, sums_cons, sums_app, show cnt 3 o = o.f1.toNat from by simp [cnt, hk]] at hsum
        simp only [List.length_append] at hm hl
        have elist : p ++ (r ++ o :: (sk ++ t')) = ((p ++ r) ++ [o]) ++ (sk ++ t') := by simp
        rw [hk, h3, elist]
        rw [elist] at hb
        refine norm_skips sk ((p ++ r) ++ [o]) t' _ o.f1 _ hb (by simp only [List.length_append]; omega) hsk' ht'' (by omega) (by omega) ?_
        have i := ih t' (((p ++ r) ++ [o]) ++ sk) ((out ++ r.filter fun o => decide (o.f0 = 3)) ++ (r.filter fun o => decide (o.f0 = 4)) ++ [⟨1, o.f1 + (sums 3 sk : Int), ByteArray.empty⟩]) (by omega) (by simpa using hb) (by simp only [List.length_append, List.length_cons, List.length_nil]; omega) (fun x hx => hok x (by simp [hx])) (by omega)
        have e2 : pack (nf (inssU (ex r)) (ex (o :: (sk ++ t')))) = (r.filter fun o => decide (o.f0 = 4)) ++ ⟨1, o.f1 + (sums 3 sk : Int), ByteArray.empty⟩ :: pack (nf [] (ex t')) := by
          have e3 : ex (o :: (sk ++ t')) = List.replicate ((o.f1.toNat + sums 3 sk - 1) + 1) .skip ++ ex t' := by
            rw [ex_cons, ex_app, ex_skips sk hsk', ← List.append_assoc, show exO o = List.replicate o.f1.toNat .skip from by simp [exO, hk], List.replicate_append_replicate]
            congr 2; omega
          rw [e3]
          have e4 : nf (inssU (ex r)) (List.replicate ((o.f1.toNat + sums 3 sk - 1) + 1) .skip ++ ex t') = inssU (ex r) ++ nf [] (List.replicate ((o.f1.toNat + sums 3 sk - 1) + 1) .skip ++ ex t') := by
            rw [List.replicate_succ, List.cons_append]; rfl
          rw [e4, nf_skips, pack_app_ne _ _ x4.noSk, x3, pack_skips _ _ (nf_noSk _ _ (fun x hx => by simp at hx) (fun _ => ex_noSk ht''))]
          congr 2
          have : (((o.f1.toNat + sums 3 sk - 1) + 1 : Nat) : Int) = o.f1 + (sums 3 sk : Int) := by omega
          rw [this]
        rw [e2]
        simpa using i
      · have hk2 : o.f0 = 2 := by
          have := (okOne_ne hoo hk).1
          omega
        have h1 := (okOne_ne hoo hk).2.1
        have elist : p ++ (r ++ o :: t) = ((p ++ r) ++ [o]) ++ t := by simp
        have hlo : ((out ++ r.filter fun o => decide (o.f0 = 3)) ++ (r.filter fun o => decide (o.f0 = 4))).length < 4398046511104 := by simp only [List.length_append]; omega
        rw [sums_app, sums_cons] at hsum
        rw [elist] at hb ⊢
        have i := ih t ((p ++ r) ++ [o]) ((out ++ r.filter fun o => decide (o.f0 = 3)) ++ (r.filter fun o => decide (o.f0 = 4)) ++ [o]) (by omega) hb (by simp only [List.length_append, List.length_cons, List.length_nil]; omega) (fun x hx => hok x (by simp [hx])) (by omega)
        refine Ev.step (fun k => rfl) ?_
        simp only [ops_Norm.l2, if_neg hk, if_pos hlo]
        have e2 : pack (nf (inssU (ex r)) (ex (o :: t))) = (r.filter fun o => decide (o.f0 = 4)) ++ o :: pack (nf [] (ex t)) := by
          have eo : opU (.keep o.f2) = o := Op.ext' hk2.symm h1.symm rfl
          rw [ex_cons, show exO o = [.keep o.f2] from by simp [exO, hk2], List.singleton_append, nf, pack_app_ne _ _ x4.noSk, x3, pack, put_ne rfl, eo]
        rw [e2]
        simpa using i
def normL (l : List Op) : List Op := pack (nf [] (ex l))
theorem rightL_ok {l : List Op} (h : rightL l = true) : (∀ o ∈ l, okOne o = true) ∧ sums 3 l ≤ 2147483648 ∧ sums 4 l ≤ 2147483648 ∧ closedGo 3 false l = true ∧ closedGo 4 false l = true := by
  unfold rightL at h
  simp only [Bool.and_eq_true, decide_eq_true_eq, List.all_eq_true] at h
  obtain ⟨h1, h2, h3, h4, h5⟩ := h
  refine ⟨h1, ?_, ?_, h4, h5⟩
  · unfold capd far at h2; omega
  · unfold capd far at h3; omega
/-- The program's Norm. -/
theorem norm_ev {l : List Op} (h : Sm l) : Ev (fun k => ops_Norm.f k l) (if rightL l then normL l else []) := by
  refine Ev.bind' (right_ev h) ?_
  cases hr : rightL l
  · simp only [Bool.false_eq_true, if_false]; exact Ev.now _
  · simp only [if_true]
    obtain ⟨h1, h2, _⟩ := rightL_ok hr
    exact norm_loop l.length l [] [] (Nat.le_refl _) h (by simpa using h.1) h1 (by omega)
end Go.Proofs.Ytfoponahdidddaa.P
