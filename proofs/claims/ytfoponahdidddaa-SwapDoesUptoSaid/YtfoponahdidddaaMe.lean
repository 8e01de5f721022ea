/- Own: the reference's norm, of steps that need not be right: the same order, packed. -/
import Derived.Test.YtfoponahdidddaaMd
import Derived.Test.YtfoponahdidddaaMc
namespace Go.Proofs.Ytfoponahdidddaa.P
open Go.RowKit Go.Proofs.YtfoponahdidddaaW.PrintWords Go.Proofs.YtfoponahdidddaaW.PrintLast Go.Proofs.YtfoponahdidddaaW.PrintMore

theorem put_app (x : U) : ∀ (b : List Op) (c : List Op), b ≠ [] → put x (b ++ c) = put x b ++ c
  | [], _, h => absurd rfl h
  | o :: b, c, _ => by
    cases x <;> first | rfl | (simp only [List.cons_append, put]; split <;> rfl)
theorem pack_nil_iff {u : List U} (h : pack u = []) : u = [] := by rw [← ex_pack u, h]; rfl
theorem snoc_cases (l : List Op) : l = [] ∨ ∃ A z, l = A ++ [z] := by
  rcases List.eq_nil_or_concat l with h | ⟨A, z, h⟩
  · exact .inl h
  · exact .inr ⟨A, z, by rw [h, List.concat_eq_append]⟩
theorem pack_end_skip : ∀ (V : List U) (A : List Op) (z : Op) (n : Nat), pack V = A ++ [z] → z.f0 = 1 → pack (V ++ List.replicate n .skip) = A ++ [⟨1, z.f1 + (n : Int), z.f2⟩]
  | [], A, z, n, h, _ => by simp [pack] at h
  | x :: V, A, z, n, h, hz => by
    have ih := pack_end_skip V
    rw [pack] at h
    rw [List.cons_append, pack]
    rcases snoc_cases (pack V) with h0 | ⟨B, y, hB⟩
    · have hV := pack_nil_iff h0
      subst hV
      rw [h0] at h
      cases x with
      | skip =>
        have e : A = [] ∧ z = opU .skip := by
          have : [opU .skip] = A ++ [z] := h
          cases A with
          | nil => exact ⟨rfl, (List.cons.inj this).1.symm⟩
          | cons a A => simp at this
        obtain ⟨rfl, rfl⟩ := e
        cases n with
        | zero => simp [pack, put, opU]
        | succ n =>
          have := pack_skips (n + 1) [] (fun x r e => by simp at e)
          rw [List.append_nil] at this
          rw [List.nil_append]
          show pack (.skip :: List.replicate (n + 1) .skip) = _
          rw [← List.replicate_succ, this]
          simp [opU, pack]; omega
      | keep t => exfalso; rw [put_ne rfl] at h; cases A with
        | nil => have := (List.cons.inj h).1; rw [← this] at hz; simp [opU] at hz
        | cons a A => simp at h
      | del t => exfalso; rw [put_ne rfl] at h; cases A with
        | nil => have := (List.cons.inj h).1; rw [← this] at hz; simp [opU] at hz
        | cons a A => simp at h
      | ins t => exfalso; rw [put_ne rfl] at h; cases A with
        | nil => have := (List.cons.inj h).1; rw [← this] at hz; simp [opU] at hz
        | cons a A => simp at h
    · rw [hB] at h
      by_cases hb : B = []
      · subst hb
        rw [List.nil_append] at h
        by_cases hx : isSkip x = false
        · rw [put_ne hx] at h
          have e : A = [opU x] ∧ z = y := by
            cases A with
            | nil => simp at h
            | cons a A =>
              obtain ⟨rfl, h'⟩ := List.cons.inj h
              cases A with
              | nil => exact ⟨rfl, (List.cons.inj h').1.symm⟩
              | cons a A => simp at h'
          obtain ⟨rfl, rfl⟩ := e
          rw [ih [] z n hB hz, List.nil_append, put_ne hx]; rfl
        · cases x with
          | skip =>
            by_cases hy : y.f0 = 1
            · have e : A = [] ∧ z = ⟨1, y.f1 + 1, y.f2⟩ := by
                simp only [put, if_pos hy] at h
                cases A with
                | nil => exact ⟨rfl, (List.cons.inj h).1.symm⟩
                | cons a A => simp at h
              obtain ⟨rfl, rfl⟩ := e
              rw [ih [] y n hB hy]
              simp [put]; omega
            · exfalso
              simp only [put, if_neg hy] at h
              cases A with
              | nil => simp at h
              | cons a A =>
                obtain ⟨_, h⟩ := List.cons.inj h
                cases A with
                | nil => have := (List.cons.inj h).1; rw [this] at hy; exact hy hz
                | cons a A => simp at h
          | keep t => exact absurd rfl hx
          | del t => exact absurd rfl hx
          | ins t => exact absurd rfl hx
      · rw [put_app x B [y] hb] at h
        obtain ⟨rfl, e⟩ := List.append_inj' h rfl
        obtain rfl := (List.cons.inj e).1
        rw [ih B y n hB hz, put_app x B _ hb]
theorem pack_end_ne : ∀ (V W : List U), (∀ A z, pack V = A ++ [z] → z.f0 ≠ 1) → pack (V ++ W) = pack V ++ pack W
  | [], W, _ => rfl
  | x :: V, W, h => by
    rw [List.cons_append, pack, pack]
    rcases snoc_cases (pack V) with h0 | ⟨B, y, hB⟩
    · have hV := pack_nil_iff h0
      subst hV
      have hx : isSkip x = false := by
        have := h [] (opU x) (by cases x <;> rfl)
        cases x <;> first | rfl | simp [opU] at this
      rw [List.nil_append, h0, put_ne hx, put_ne hx]; rfl
    · have hne : pack V ≠ [] := by rw [hB]; simp
      rw [pack_end_ne V W, put_app x _ _ hne]
      intro A z hz hk
      by_cases ha : A = []
      · subst ha
        rw [List.nil_append] at hz
        rw [pack, hz] at h
        by_cases hx : isSkip x = false
        · exact h [opU x] z (by rw [put_ne hx]; rfl) hk
        · cases x with
          | skip => exact h [] ⟨1, z.f1 + 1, z.f2⟩ (by simp [put, hk]) rfl
          | keep t => exact absurd rfl hx
          | del t => exact absurd rfl hx
          | ins t => exact absurd rfl hx
      · rw [pack, hz, put_app x A _ ha] at h
        exact h _ z rfl hk
theorem pack_app_r : ∀ (W V : List U), (∀ x ∈ W, isSkip x = false) → pack (V ++ W) = pack V ++ W.map opU
  | [], V, _ => by simp
  | x :: W, V, h => by
    have hx := h x (List.mem_cons_self ..)
    have one : pack (V ++ [x]) = pack V ++ [opU x] := by
      clear h
      induction V with
      | nil => show put x (pack []) = _; rw [put_ne hx]; rfl
      | cons y V ih =>
        rw [List.cons_append, pack, ih, pack]
        by_cases hV : pack V = []
        · have := pack_nil_iff hV
          subst this
          rw [hV]
          cases y <;> first | rfl | (simp only [List.nil_append, put, if_neg (opU_kind hx)]; rfl)
        · exact put_app y _ _ hV
    have := pack_app_r W (V ++ [x]) fun y hy => h y (List.mem_cons_of_mem _ hy)
    rw [List.append_assoc, List.singleton_append, one] at this
    rw [this]; simp
/-- A step that norm takes. -/
def formO (o : Op) : Prop := (o.f0 = 1 ∧ 1 ≤ o.f1 ∧ o.f2 = ByteArray.empty) ∨ ((o.f0 = 2 ∨ o.f0 = 3 ∨ o.f0 = 4) ∧ o.f1 = 0)
theorem form_of {o : Op} (h : okOne o = true) : formO o := by
  by_cases hk : o.f0 = 1
  · have := okOne_skip h hk; exact .inl ⟨hk, this.1, this.2.2⟩
  · have := okOne_ne h hk; exact .inr ⟨this.1, this.2.1⟩
theorem plus_small {a b : Int} (ha : 0 ≤ a) (hb : 0 ≤ b) (h : a + b ≤ 1099511627776) : patchworkref8_plus.f a b = some (a + b) := by
  unfold patchworkref8_plus.f
  by_cases h1 : a ≥ 1099511627776
  · rw [if_pos h1]; congr 1; omega
  · rw [if_neg h1]
    by_cases h2 : b ≥ 1099511627776
    · rw [if_pos h2]; congr 1; omega
    · rw [if_neg h2, show wrap64 (a + b) = a + b from by unfold wrap64; omega]
      by_cases h3 : a + b > 1099511627776
      · rw [if_pos h3]; congr 1; omega
      · rw [if_neg h3]
/-- How many lines the Skips have. -/
def skips (l : List Op) : Int := (l.map fun o => if o.f0 = 1 then o.f1 else 0).sum
theorem skips_nil : skips [] = 0 := rfl
theorem skips_cons (o : Op) (l : List Op) : skips (o :: l) = (if o.f0 = 1 then o.f1 else 0) + skips l := by simp [skips]
theorem skips_app (p q : List Op) : skips (p ++ q) = skips p + skips q := by simp [skips]
theorem skips_nn {l : List Op} (h : ∀ o ∈ l, formO o) : 0 ≤ skips l := by
  induction l with
  | nil => exact Int.le_refl _
  | cons o l ih =>
    rw [skips_cons]
    have := ih fun x hx => h x (List.mem_cons_of_mem _ hx)
    rcases h o (List.mem_cons_self ..) with ⟨h1, h2, _⟩ | ⟨h1, h2⟩
    · rw [if_pos h1]; omega
    · rw [if_neg (by omega)]; omega
theorem skips_pack_nn (u : List U) : 0 ≤ skips (pack u) := by
  have := pack_pos u
  generalize pack u = l at this
  induction l with
  | nil => exact Int.le_refl _
  | cons o l ih =>
    rw [skips_cons]
    have i := ih fun x hx => this x (List.mem_cons_of_mem _ hx)
    by_cases h : o.f0 = 1
    · have := (this o (List.mem_cons_self ..) h).1
      rw [if_pos h]; omega
    · rw [if_neg h]; omega
theorem skips_ins {I : List U} (h : AllIns I) : skips (I.map opU) = 0 := by
  induction I with
  | nil => rfl
  | cons x I ih =>
    obtain ⟨t, rfl⟩ := h x (List.mem_cons_self ..)
    rw [List.map_cons, skips_cons, ih fun y hy => h y (List.mem_cons_of_mem _ hy)]
    simp [opU]
theorem refnorm_loop (s : List Op) : ∀ (p : List Op) (V I : List U), Sm (p ++ s) → AllIns I → (∀ o ∈ s, formO o) → (pack V).length + I.length + s.length < 4398046511104 → skips (pack V) + skips s ≤ 1099511627776 →
    Ev (fun k => patchworkref8_norm.l0 k (p ++ s) (pack V) (I.map opU) (p.length : Int)) (pack (V ++ nf I (ex s))) := by
  induction s with
  | nil =>
    intro p V I hb hI _ hl _
    have c1 : (p.length : Int) ≤ ((p ++ ([] : List Op)).length : Int) := by simp
    have c2 : (p.length : Int) = ((p ++ ([] : List Op)).length : Int) := by simp
    have c3 : (pack V).length + (I.map opU).length < 4398046511104 := by simp at hl ⊢; omega
    refine Ev.step (fun k => rfl) ?_
    simp only [patchworkref8_norm.l0, if_pos c1, lt_end, if_false]
    refine Ev.step (fun k => rfl) ?_
    simp only [patchworkref8_norm.j1, Bool.false_eq_true, if_false, if_pos c2]
    refine Ev.step (fun k => rfl) ?_
    simp only [patchworkref8_norm.j2, if_true, if_pos c3]
    refine Ev.step (fun k => rfl) ?_
    simp only [patchworkref8_norm.j3, if_pos c2]
    rw [ex_nil, nf, pack_app_r I V hI.noSk]
    exact Ev.now _
  | cons o s ih =>
    intro p V I hb hI hf hl hsk
    have i := fun V I => ih (p ++ [o]) V I hb.snoc
    rw [List.append_assoc, List.singleton_append] at i
    have hf' : ∀ x ∈ s, formO x := fun x hx => hf x (List.mem_cons_of_mem _ hx)
    have hw := wrap_len p o (by have := hb.len; omega)
    simp only [List.length_cons] at hl
    rw [skips_cons] at hsk
    have hs0 := skips_nn hf'
    have hv0 := skips_pack_nn V
    have c1 : (p.length : Int) ≤ ((p ++ o :: s).length : Int) := by simp only [List.length_append]; omega
    have c2 : ¬ (p.length : Int) = ((p ++ o :: s).length : Int) := by simp only [List.length_append, List.length_cons]; omega
    have c3 : (pack V).length + (I.map opU).length < 4398046511104 := by rw [List.length_map]; omega
    have c4 : (I.map opU).length < 4398046511104 := by omega
    have c5 : (pack V).length < 4398046511104 := by omega
    have c6 : (pack V ++ I.map opU).length < 4398046511104 := by rw [List.length_append]; exact c3
    refine Ev.step (fun k => rfl) ?_
    simp only [patchworkref8_norm.l0, if_pos c1, lt_mid, if_true, nn_nat, rdOp_mid]
    rcases hf o (List.mem_cons_self ..) with ⟨hk, h1, h2⟩ | ⟨hk, h1⟩
    · -- a Skip
      rw [if_pos hk] at hsk
      have k4 : (o.f0 == 4) = false := by simp [hk]
      have k3 : (o.f0 != 3) = true := by simp [hk]
      have eo : o = ⟨1, o.f1, ByteArray.empty⟩ := Op.ext' hk rfl h2
      have ee : exO o = List.replicate o.f1.toNat .skip := by simp [exO, hk]
      have epos : o.f1.toNat = (o.f1.toNat - 1) + 1 := by omega
      have en : nf I (ex (o :: s)) = I ++ (List.replicate o.f1.toNat .skip ++ nf [] (ex s)) := by
        rw [ex_cons, ee, epos, List.replicate_succ, List.cons_append, nf, nf_skips]; rfl
      refine Ev.step (fun k => rfl) ?_
      simp only [patchworkref8_norm.j1, k4, Bool.false_eq_true, if_false, if_neg c2, nn_nat, if_true, lt_mid, rdOp_mid, k3]
      refine Ev.step (fun k => rfl) ?_
      simp only [patchworkref8_norm.j2, if_true, if_pos c3]
      have eV : pack V ++ I.map opU = pack (V ++ I) := (pack_app_r I V hI.noSk).symm
      rw [eV] at c6
      rw [eV, en]
      have eVl : (pack (V ++ I)).length = (pack V).length + I.length := by rw [← eV]; simp
      have eVs : skips (pack (V ++ I)) = skips (pack V) := by rw [← eV, skips_app, skips_ins hI]; omega
      refine Ev.step (fun k => rfl) ?_
      rcases snoc_cases (pack (V ++ I)) with h0 | ⟨A, z, hz⟩
      · have c7 : ¬ ((pack (V ++ I)).length : Int) > 0 := by rw [h0]; simp
        simp only [patchworkref8_norm.j3, if_neg c2, nn_nat, if_true, lt_mid, rdOp_mid, if_pos hk, if_neg c7, if_pos c6, hw]
        have hV := pack_nil_iff h0
        have e1 : pack (V ++ I ++ List.replicate o.f1.toNat .skip) = pack (V ++ I) ++ [⟨o.f0, o.f1, o.f2⟩] := by
          rw [hV, List.nil_append]
          have := pack_skips (o.f1.toNat - 1) [] (fun x r e => by simp at e)
          rw [← epos, List.append_nil] at this
          rw [this, Op.eta, eo]
          simp [pack]; omega
        have := i (V ++ I ++ List.replicate o.f1.toNat .skip) [] .nil hf' (by rw [e1]; simp only [List.length_append, List.length_cons, List.length_nil]; omega) (by rw [e1, Op.eta, skips_app, skips_cons, skips_nil, if_pos hk]; omega)
        rw [e1] at this
        simpa using this
      · have c7 : ((pack (V ++ I)).length : Int) > 0 := by rw [hz]; simp only [List.length_append, List.length_cons, List.length_nil]; omega
        have hla : (pack (V ++ I)).length = A.length + 1 := by rw [hz]; simp
        have c8 : wrap64 (((pack (V ++ I)).length : Int) - 1) = (A.length : Int) := by rw [hla]; unfold wrap64; omega
        have c9 : (0 : Int) ≤ (A.length : Int) := by omega
        have c10 : (A.length : Int) < ((pack (V ++ I)).length : Int) := by omega
        have hrd : rd_Op (pack (V ++ I)) (A.length : Int) = z := by rw [hz]; exact rdOp_mid A [] z
        by_cases hk2 : z.f0 = 1
        · have hz0 := pack_pos (V ++ I) z (by rw [hz]; simp) hk2
          have hzs : z.f1 ≤ skips (pack (V ++ I)) := by
            have hall := pack_pos (V ++ I)
            rw [hz] at hall ⊢
            have hA : 0 ≤ skips A := by
              have : ∀ l : List Op, (∀ o ∈ l, o.f0 = 1 → 1 ≤ o.f1 ∧ o.f2 = ByteArray.empty) → 0 ≤ skips l := by
                intro l hl
                induction l with
                | nil => exact Int.le_refl _
                | cons y l ihl =>
                  rw [skips_cons]
                  have i2 := ihl fun x hx => hl x (List.mem_cons_of_mem _ hx)
                  by_cases hy : y.f0 = 1
                  · have := (hl y (List.mem_cons_self ..) hy).1
                    rw [if_pos hy]; omega
                  · rw [if_neg hy]; omega
              exact this A fun x hx => hall x (by simp [hx])
            rw [skips_app, skips_cons, skips_nil, if_pos hk2]; omega
          have pl := plus_small (a := z.f1) (b := o.f1) (by omega) (by omega) (by omega)
          simp only [patchworkref8_norm.j3, if_neg c2, nn_nat, if_true, lt_mid, rdOp_mid, if_pos hk, if_pos c7, c8, if_pos c10, hrd, if_pos hk2, pl, Option.bind_some, hw]
          have e1 : pack (V ++ I ++ List.replicate o.f1.toNat .skip) = (pack (V ++ I)).set (A.length : Int).toNat ⟨z.f0, z.f1 + o.f1, z.f2⟩ := by
            rw [pack_end_skip (V ++ I) A z _ hz hk2, hz, Int.toNat_natCast, List.set_append_right _ _ (Nat.le_refl _), Nat.sub_self, List.set_cons_zero, hk2, show ((o.f1.toNat : Nat) : Int) = o.f1 from by omega]
          have hlen : (pack (V ++ I ++ List.replicate o.f1.toNat .skip)).length = (pack (V ++ I)).length := by rw [e1, List.length_set]
          have hsk2 : skips (pack (V ++ I ++ List.replicate o.f1.toNat .skip)) = skips (pack (V ++ I)) + o.f1 := by
            rw [pack_end_skip (V ++ I) A z _ hz hk2, hz, skips_app, skips_app, skips_cons, skips_cons, skips_nil, if_pos hk2]
            simp only [if_true]; omega
          have := i (V ++ I ++ List.replicate o.f1.toNat .skip) [] .nil hf' (by rw [hlen]; simp only [List.length_nil]; omega) (by rw [hsk2]; omega)
          rw [e1] at this
          simpa using this
        · simp only [patchworkref8_norm.j3, if_neg c2, nn_nat, if_true, lt_mid, rdOp_mid, if_pos hk, if_pos c7, c8, if_pos c10, hrd, if_neg hk2, if_pos c6, hw]
          have e1 : pack (V ++ I ++ List.replicate o.f1.toNat .skip) = pack (V ++ I) ++ [⟨o.f0, o.f1, o.f2⟩] := by
            rw [pack_end_ne (V ++ I) _ fun A' z' h' => by
              rw [hz] at h'
              obtain ⟨_, e⟩ := List.append_inj' h' rfl
              rw [← (List.cons.inj e).1]; exact hk2]
            have := pack_skips (o.f1.toNat - 1) [] (fun x r e => by simp at e)
            rw [← epos, List.append_nil] at this
            rw [this, Op.eta, eo]
            simp [pack]; omega
          have := i (V ++ I ++ List.replicate o.f1.toNat .skip) [] .nil hf' (by rw [e1]; simp only [List.length_append, List.length_cons, List.length_nil]; omega) (by rw [e1, Op.eta, skips_app, skips_cons, skips_nil, if_pos hk]; omega)
          rw [e1] at this
          simpa using this
    · rw [if_neg (by omega)] at hsk
      have hk1 : ¬ o.f0 = 1 := by omega
      refine Ev.step (fun k => rfl) ?_
      rcases hk with hk | hk | hk
      · have k4 : (o.f0 == 4) = false := by simp [hk]
        have k3 : (o.f0 != 3) = true := by simp [hk]
        have eo : opU (.keep o.f2) = o := Op.ext' hk.symm h1.symm rfl
        have en : nf I (ex (o :: s)) = I ++ .keep o.f2 :: nf [] (ex s) := by
          rw [ex_cons, show exO o = [.keep o.f2] from by simp [exO, hk]]; rfl
        simp only [patchworkref8_norm.j1, k4, Bool.false_eq_true, if_false, if_neg c2, nn_nat, if_true, lt_mid, rdOp_mid, k3]
        refine Ev.step (fun k => rfl) ?_
        simp only [patchworkref8_norm.j2, if_true, if_pos c3]
        refine Ev.step (fun k => rfl) ?_
        simp only [patchworkref8_norm.j3, if_neg c2, nn_nat, if_true, lt_mid, rdOp_mid, if_neg hk1, if_pos c6, hw]
        have e1 : pack (V ++ I ++ [.keep o.f2]) = pack V ++ I.map opU ++ [⟨o.f0, o.f1, o.f2⟩] := by
          rw [pack_app_r [.keep o.f2] (V ++ I) (fun x hx => by rw [List.mem_singleton.mp hx]; rfl), pack_app_r I V hI.noSk, Op.eta, List.map_cons, eo]; rfl
        have := i (V ++ I ++ [.keep o.f2]) [] .nil hf' (by rw [e1]; simp only [List.length_append, List.length_cons, List.length_nil, List.length_map]; omega) (by rw [e1, Op.eta, skips_app, skips_app, skips_cons, skips_nil, if_neg hk1, skips_ins hI]; omega)
        rw [e1] at this
        rw [en]
        simpa using this
      · have k4 : (o.f0 == 4) = false := by simp [hk]
        have k3 : (o.f0 != 3) = false := by simp [hk]
        have eo : opU (.del o.f2) = o := Op.ext' hk.symm h1.symm rfl
        have en : nf I (ex (o :: s)) = .del o.f2 :: nf I (ex s) := by
          rw [ex_cons, show exO o = [.del o.f2] from by simp [exO, hk]]; rfl
        simp only [patchworkref8_norm.j1, k4, Bool.false_eq_true, if_false, if_neg c2, nn_nat, if_true, lt_mid, rdOp_mid, k3]
        refine Ev.step (fun k => rfl) ?_
        simp only [patchworkref8_norm.j2, Bool.false_eq_true, if_false]
        refine Ev.step (fun k => rfl) ?_
        simp only [patchworkref8_norm.j3, if_neg c2, nn_nat, if_true, lt_mid, rdOp_mid, if_neg hk1, if_pos c5, hw]
        have e1 : pack (V ++ [.del o.f2]) = pack V ++ [⟨o.f0, o.f1, o.f2⟩] := by
          rw [pack_app_r [.del o.f2] V (fun x hx => by rw [List.mem_singleton.mp hx]; rfl), Op.eta, List.map_cons, eo]; rfl
        have := i (V ++ [.del o.f2]) I hI hf' (by rw [e1]; simp only [List.length_append, List.length_cons, List.length_nil]; omega) (by rw [e1, Op.eta, skips_app, skips_cons, skips_nil, if_neg hk1]; omega)
        rw [e1] at this
        rw [en]
        simpa using this
      · have k4 : (o.f0 == 4) = true := by simp [hk]
        have eo : opU (.ins o.f2) = o := Op.ext' hk.symm h1.symm rfl
        have en : nf I (ex (o :: s)) = nf (I ++ [.ins o.f2]) (ex s) := by
          rw [ex_cons, show exO o = [.ins o.f2] from by simp [exO, hk]]; rfl
        simp only [patchworkref8_norm.j1, k4, if_true, nn_nat, lt_mid, rdOp_mid, if_pos c4, hw]
        have e1 : (I ++ [U.ins o.f2]).map opU = I.map opU ++ [⟨o.f0, o.f1, o.f2⟩] := by
          rw [List.map_append, Op.eta, List.map_cons, eo]; rfl
        have := i V (I ++ [.ins o.f2]) (hI.snoc _) hf' (by simp only [List.length_append, List.length_cons, List.length_nil]; omega) (by omega)
        rw [e1] at this
        rw [en]
        exact this
theorem refnorm_ev {l : List Op} (h : Sm l) (hf : ∀ o ∈ l, formO o) (hs : skips l ≤ 1099511627776) : Ev (fun k => patchworkref8_norm.f k l) (normL l) := by
  have := refnorm_loop l [] [] [] h .nil hf (by simpa [pack] using h.1) (by rw [show skips (pack []) = 0 from rfl]; omega)
  simpa [patchworkref8_norm.f, normL, pack] using this
theorem skips_le (c : Int) {l : List Op} (h : ∀ o ∈ l, formO o) : skips l ≤ (sums c l : Int) := by
  induction l with
  | nil => exact Int.le_refl _
  | cons o l ih =>
    rw [skips_cons, sums_cons]
    have i := ih fun x hx => h x (List.mem_cons_of_mem _ hx)
    unfold cnt
    rcases h o (List.mem_cons_self ..) with ⟨h1, h2, _⟩ | ⟨h1, _⟩
    · rw [if_pos h1, if_pos h1]; omega
    · rw [if_neg (by omega)]; omega
end Go.Proofs.Ytfoponahdidddaa.P
