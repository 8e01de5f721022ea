/- Own: two that are gone through together, line by line. -/
import Derived.Test.YtfoponahdidddaaDb
import Derived.Test.YtfoponahdidddaaT0
namespace Go.Proofs.Ytfoponahdidddaa.P
open Go.RowKit Go.Proofs.YtfoponahdidddaaW.PrintWords Go.Proofs.YtfoponahdidddaaW.PrintLast Go.Proofs.YtfoponahdidddaaW.PrintMore
set_option linter.unusedSimpArgs false
set_option linter.unusedVariables false

/-- A line of the middle. -/
def midT : U → U → Option (List TU)
  | .skip, .skip => some [(.skip, 0)]
  | .skip, .keep t => some [(.keep t, 0)]
  | .skip, .del t => some [(.del t, 2)]
  | .keep s, .skip => some [(.keep s, 0)]
  | .keep s, .keep t => if s = t then some [(.keep t, 0)] else none
  | .keep s, .del t => if s = t then some [(.del t, 2)] else none
  | .ins s, .skip => some [(.ins s, 1)]
  | .ins s, .keep t => if s = t then some [(.ins s, 1)] else none
  | .ins s, .del t => if s = t then some [(.ins s, 3)] else none
  | _, _ => none
def opnX : U → Bool
  | .skip => false
  | x => openT (txU x)
def opM (x y : U) : Bool := opnX x || opnX y
def inner (x : U) (f : Bool → List U → Option (List TU)) : Bool → List U → Option (List TU)
  | e, [] => if e = true then none else (midT x .skip).bind fun a => (f (opM x .skip) []).map (a ++ ·)
  | e, y :: q => match y with
    | .ins t => (inner x f e q).map ((.ins t, 2) :: ·)
    | y => if e = true then none else (midT x y).bind fun a => (f (opM x y) q).map (a ++ ·)
def endQ : Bool → List U → Option (List TU)
  | _, [] => some []
  | e, y :: q => match y with
    | .ins t => (endQ e q).map ((.ins t, 2) :: ·)
    | y => if e = true then none else (midT .skip y).bind fun a => (endQ (opM .skip y) q).map (a ++ ·)
/-- All lines, with whose they are; nothing: they never go together. -/
def cmpT : List U → Bool → List U → Option (List TU)
  | [] => endQ
  | x :: p => match x with
    | .del t => fun e q => (cmpT p e q).map ((.del t, 1) :: ·)
    | x => inner x (cmpT p)
def nxU : List U → U
  | [] => .skip
  | x :: _ => x
theorem nxU_cons (x : U) (p : List U) : nxU (x :: p) = x := rfl
def NoD (p : List U) : Prop := ∀ t r, p ≠ .del t :: r
def NoI (p : List U) : Prop := ∀ t r, p ≠ .ins t :: r
theorem cmpT_nil (e : Bool) : cmpT [] e [] = some [] := rfl
theorem cmpT_del (t : ByteArray) (p q : List U) (e : Bool) : cmpT (.del t :: p) e q = (cmpT p e q).map ((.del t, 1) :: ·) := rfl
theorem cmpT_ins {p : List U} (h : NoD p) (t : ByteArray) (q : List U) (e : Bool) : cmpT p e (.ins t :: q) = (cmpT p e q).map ((.ins t, 2) :: ·) := by
  cases p with
  | nil => rfl
  | cons x p => cases x <;> first | rfl | exact absurd rfl (h _ _)
theorem cmpT_mid {p q : List U} (hp : NoD p) (hq : NoI q) (hne : p ≠ [] ∨ q ≠ []) (e : Bool) :
    cmpT p e q = if e = true then none else (midT (nxU p) (nxU q)).bind fun a => (cmpT p.tail (opM (nxU p) (nxU q)) q.tail).map (a ++ ·) := by
  cases p with
  | nil =>
    cases q with
    | nil => simp at hne
    | cons y q => cases y <;> first | rfl | exact absurd rfl (hq _ _)
  | cons x p =>
    cases q with
    | nil => cases x <;> first | rfl | exact absurd rfl (hp _ _)
    | cons y q =>
      cases x <;> first | exact absurd rfl (hp _ _) | (cases y <;> first | rfl | exact absurd rfl (hq _ _))
/-- What is shown by going through both. -/
theorem walk_ind {C : List U → List U → Prop} (nil : C [] []) (del : ∀ t p q, C p q → C (.del t :: p) q) (ins : ∀ t p q, NoD p → C p q → C p (.ins t :: q))
    (mid : ∀ p q, NoD p → NoI q → p ≠ [] ∨ q ≠ [] → C p.tail q.tail → C p q) : ∀ p q, C p q := by
  have all : ∀ n p q, p.length + q.length ≤ n → C p q := by
    intro n
    induction n with
    | zero =>
      intro p q h
      obtain rfl : p = [] := List.length_eq_zero_iff.mp (by omega)
      obtain rfl : q = [] := List.length_eq_zero_iff.mp (by omega)
      exact nil
    | succ n ih =>
      intro p q h
      by_cases hp : NoD p
      · by_cases hq : NoI q
        · by_cases hne : p ≠ [] ∨ q ≠ []
          · refine mid p q hp hq hne (ih _ _ ?_)
            rw [List.length_tail, List.length_tail]
            rcases hne with h0 | h0
            · have := List.length_pos_iff.mpr h0; omega
            · have := List.length_pos_iff.mpr h0; omega
          · have h1 : p = [] := Classical.byContradiction fun x => hne (.inl x)
            have h2 : q = [] := Classical.byContradiction fun x => hne (.inr x)
            rw [h1, h2]; exact nil
        · cases q with
          | nil => exact absurd (fun t r e => by simp at e) hq
          | cons y q =>
            cases y with
            | ins t => exact ins t p q hp (ih _ _ (by simp only [List.length_cons] at h; omega))
            | skip => exact absurd (fun t r e => by simp at e) hq
            | keep t => exact absurd (fun t r e => by simp at e) hq
            | del t => exact absurd (fun t r e => by simp at e) hq
      · cases p with
        | nil => exact absurd (fun t r e => by simp at e) hp
        | cons x p =>
          cases x with
          | del t => exact del t p q (ih _ _ (by simp only [List.length_cons] at h; omega))
          | skip => exact absurd (fun t r e => by simp at e) hp
          | keep t => exact absurd (fun t r e => by simp at e) hp
          | ins t => exact absurd (fun t r e => by simp at e) hp
  exact fun p q => all _ p q (Nat.le_refl _)
/-- The lines alone, without those that came and went. -/
def un (w : List TU) : List U := (w.filter fun x => decide (x.2 ≠ 3)).map (·.1)
theorem un_app (a b : List TU) : un (a ++ b) = un a ++ un b := by simp [un]
theorem un_cons {x : TU} (h : x.2 ≠ 3) (w : List TU) : un (x :: w) = x.1 :: un w := by simp [un, h]
def midU (x y : U) : Option (List U) := (midT x y).map un
def cmpU (p : List U) (e : Bool) (q : List U) : Option (List U) := (cmpT p e q).map un
theorem cmpU_nil (e : Bool) : cmpU [] e [] = some [] := rfl
theorem cmpU_del (t : ByteArray) (p q : List U) (e : Bool) : cmpU (.del t :: p) e q = (cmpU p e q).map (.del t :: ·) := by
  unfold cmpU
  rw [cmpT_del, Option.map_map, Option.map_map]
  congr 1
theorem cmpU_ins {p : List U} (h : NoD p) (t : ByteArray) (q : List U) (e : Bool) : cmpU p e (.ins t :: q) = (cmpU p e q).map (.ins t :: ·) := by
  unfold cmpU
  rw [cmpT_ins h, Option.map_map, Option.map_map]
  congr 1
theorem cmpU_mid {p q : List U} (hp : NoD p) (hq : NoI q) (hne : p ≠ [] ∨ q ≠ []) (e : Bool) :
    cmpU p e q = if e = true then none else (midU (nxU p) (nxU q)).bind fun a => (cmpU p.tail (opM (nxU p) (nxU q)) q.tail).map (a ++ ·) := by
  unfold cmpU midU
  rw [cmpT_mid hp hq hne]
  split
  · rfl
  · cases midT (nxU p) (nxU q) with
    | none => rfl
    | some a =>
      simp only [Option.bind_some, Option.map_some, Option.map_map]
      congr 1
      funext r
      exact un_app a r

theorem nf_cong {u v : List U} (h : nf [] u = nf [] v) (J : List U) : nf J u = nf J v := by
  have a := nf_nf u [] J .nil
  have b := nf_nf v [] J .nil
  rw [List.append_nil] at a b
  rw [← a, ← b, h]
theorem nf_cons {u v : List U} (h : nf [] u = nf [] v) (x : U) : nf [] (x :: u) = nf [] (x :: v) := by
  cases x with
  | ins t => rw [nf, nf]; exact nf_cong h _
  | del t => rw [nf, nf, h]
  | keep t => rw [nf, nf, h]
  | skip => rw [nf, nf, h]
theorem nf_app {u v : List U} (h : nf [] u = nf [] v) : ∀ a : List U, nf [] (a ++ u) = nf [] (a ++ v)
  | [] => h
  | x :: a => nf_cons (nf_app h a) x
def nfO (o : Option (List U)) : Option (List U) := o.map (nf [])
theorem nfO_app {o1 o2 : Option (List U)} (h : nfO o1 = nfO o2) (a : List U) : nfO (o1.map (a ++ ·)) = nfO (o2.map (a ++ ·)) := by
  cases o1 <;> cases o2 <;> simp [nfO] at h ⊢
  exact nf_app h a
theorem nfO_cons {o1 o2 : Option (List U)} (h : nfO o1 = nfO o2) (x : U) : nfO (o1.map (x :: ·)) = nfO (o2.map (x :: ·)) := nfO_app h [x]
theorem nfO_bind {m : Option (List U)} {f g : List U → Option (List U)} (h : ∀ a, nfO (f a) = nfO (g a)) : nfO (m.bind f) = nfO (m.bind g) := by
  cases m with
  | none => rfl
  | some a => exact h a
def AllDel (I : List U) : Prop := ∀ x ∈ I, ∃ t, x = .del t
theorem nf_dels (D : List U) (h : AllDel D) (J u : List U) : nf J (D ++ u) = D ++ nf J u := nf_app_ne D J u h
theorem nf_commute {I D : List U} (hI : AllIns I) (hD : AllDel D) (u : List U) : nf [] (I ++ (D ++ u)) = nf [] (D ++ (I ++ u)) := by
  rw [nf_ins I hI, nf_dels D hD, nf_dels D hD, nf_ins I hI]
theorem nfO_commute {I D : List U} (hI : AllIns I) (hD : AllDel D) (o : Option (List U)) : nfO ((o.map (D ++ ·)).map (I ++ ·)) = nfO ((o.map (I ++ ·)).map (D ++ ·)) := by
  cases o with
  | none => rfl
  | some r => simp only [nfO, Option.map_some]; rw [nf_commute hI hD]
theorem AllIns.one (t : ByteArray) : AllIns [.ins t] := fun x hx => ⟨t, List.mem_singleton.mp hx⟩
theorem AllDel.one (t : ByteArray) : AllDel [.del t] := fun x hx => ⟨t, List.mem_singleton.mp hx⟩
theorem AllDel.nil : AllDel [] := fun x h => by simp at h
theorem AllIns.tail {x : U} {I : List U} (h : AllIns (x :: I)) : AllIns I := fun y hy => h y (List.mem_cons_of_mem _ hy)
theorem AllIns.head {x : U} {I : List U} (h : AllIns (x :: I)) : ∃ t, x = .ins t := h x (List.mem_cons_self ..)
/-- What a line of the middle leaves, where the first has it come, and where the second has it go. -/
theorem mid_ins {s : ByteArray} {y : U} {a : List U} (h : midU (.ins s) y = some a) : AllIns a := by
  cases y <;> simp only [midU, midT] at h
  · obtain rfl := Option.some.inj h; exact AllIns.one s
  · split at h
    · obtain rfl := Option.some.inj h; exact AllIns.one s
    · simp at h
  · split at h
    · obtain rfl := Option.some.inj h; exact AllIns.nil
    · simp at h
  · simp at h
theorem mid_del {x : U} {t : ByteArray} {a : List U} (h : midU x (.del t) = some a) : AllDel a := by
  cases x <;> simp only [midU, midT] at h
  · obtain rfl := Option.some.inj h; exact AllDel.one t
  · split at h
    · obtain rfl := Option.some.inj h; exact AllDel.one t
    · simp at h
  · simp at h
  · split at h
    · obtain rfl := Option.some.inj h; exact AllDel.nil
    · simp at h
theorem noD_cons {x : U} {p : List U} (h : ∀ t, x ≠ .del t) : NoD (x :: p) := fun t r e => h t (List.cons.inj e).1
theorem noI_cons {x : U} {p : List U} (h : ∀ t, x ≠ .ins t) : NoI (x :: p) := fun t r e => h t (List.cons.inj e).1
theorem noD_nil : NoD [] := fun t r e => by simp at e
theorem noI_nil : NoI [] := fun t r e => by simp at e
theorem noD_or (p : List U) : NoD p ∨ ∃ t r, p = .del t :: r := by
  cases p with
  | nil => exact .inl noD_nil
  | cons x r => cases x <;> first | exact .inr ⟨_, _, rfl⟩ | exact .inl (noD_cons fun t e => by simp at e)
theorem noI_or (p : List U) : NoI p ∨ ∃ t r, p = .ins t :: r := by
  cases p with
  | nil => exact .inl noI_nil
  | cons x r => cases x <;> first | exact .inr ⟨_, _, rfl⟩ | exact .inl (noI_cons fun t e => by simp at e)
/-- One step ahead of two firsts that are alike. -/
theorem cong1 {u v : List U} (h : ∀ e q, nfO (cmpU u e q) = nfO (cmpU v e q)) (x : U) : ∀ q e, nfO (cmpU (x :: u) e q) = nfO (cmpU (x :: v) e q) := by
  by_cases hx : ∃ t, x = .del t
  · obtain ⟨t, rfl⟩ := hx
    intro q e
    rw [cmpU_del, cmpU_del]
    exact nfO_cons (h e q) _
  · have n : ∀ w : List U, NoD (x :: w) := fun w => noD_cons fun t e => hx ⟨t, e⟩
    have m : ∀ q, NoI q → ∀ e, nfO (cmpU (x :: u) e q) = nfO (cmpU (x :: v) e q) := by
      intro q hq e
      rw [cmpU_mid (n u) hq (.inl (by simp)), cmpU_mid (n v) hq (.inl (by simp))]
      split
      · rfl
      · exact nfO_bind fun a => nfO_app (h _ _) a
    intro q
    induction q with
    | nil => exact m [] noI_nil
    | cons y q ih =>
      rcases noI_or (y :: q) with hq | ⟨t, r, e0⟩
      · exact m _ hq
      · obtain ⟨rfl, rfl⟩ := List.cons.inj e0
        intro e
        rw [cmpU_ins (n u), cmpU_ins (n v)]
        exact nfO_cons (ih e) _
theorem cong1_app {u v : List U} (h : ∀ e q, nfO (cmpU u e q) = nfO (cmpU v e q)) : ∀ (a : List U) e q, nfO (cmpU (a ++ u) e q) = nfO (cmpU (a ++ v) e q)
  | [], e, q => h e q
  | x :: a, e, q => cong1 (cong1_app h a) x q e
theorem swap1 (s t : ByteArray) (u : List U) : ∀ q e, nfO (cmpU (.ins s :: .del t :: u) e q) = nfO (cmpU (.del t :: .ins s :: u) e q) := by
  have n : ∀ w : List U, NoD (.ins s :: w) := fun w => noD_cons fun t e => by simp at e
  have m : ∀ q, NoI q → ∀ e, nfO (cmpU (.ins s :: .del t :: u) e q) = nfO (cmpU (.del t :: .ins s :: u) e q) := by
    intro q hq e
    rw [cmpU_del, cmpU_mid (n _) hq (.inl (by simp)), cmpU_mid (n _) hq (.inl (by simp))]
    split
    · rfl
    · simp only [nxU_cons, List.tail_cons]
      cases hm : midU (.ins s) (nxU q) with
      | none => rfl
      | some a =>
        simp only [Option.bind_some]
        rw [cmpU_del]
        exact nfO_commute (mid_ins hm) (AllDel.one t) _
  intro q
  induction q with
  | nil => exact m [] noI_nil
  | cons y q ih =>
    rcases noI_or (y :: q) with hq | ⟨b, r, e0⟩
    · exact m _ hq
    · obtain ⟨rfl, rfl⟩ := List.cons.inj e0
      intro e
      rw [cmpU_ins (n _), cmpU_del, cmpU_ins (n _)]
      refine (nfO_cons (ih e) _).trans ?_
      rw [cmpU_del]
      exact nfO_commute (AllIns.one b) (AllDel.one t) _
theorem swap1_all (t : ByteArray) (u : List U) : ∀ (I : List U), AllIns I → ∀ e q, nfO (cmpU (I ++ .del t :: u) e q) = nfO (cmpU (.del t :: (I ++ u)) e q)
  | [], _, e, q => rfl
  | x :: I, h, e, q => by
    obtain ⟨s, rfl⟩ := h.head
    exact (cong1 (swap1_all t u I h.tail) _ q e).trans (swap1 s t (I ++ u) q e)
theorem norm1 : ∀ (u I : List U), AllIns I → ∀ e q, nfO (cmpU (nf I u) e q) = nfO (cmpU (I ++ u) e q)
  | [], I, _, e, q => by rw [nf, List.append_nil]
  | .ins t :: u, I, h, e, q => by
    rw [nf, norm1 u _ (h.snoc t), List.append_assoc]; rfl
  | .del t :: u, I, h, e, q => by
    rw [nf, swap1_all t u I h, cmpU_del, cmpU_del]
    exact nfO_cons (norm1 u I h e q) _
  | .keep t :: u, I, h, e, q => by
    rw [nf]
    exact cong1_app (fun e q => cong1 (fun e q => norm1 u [] .nil e q) _ q e) I e q
  | .skip :: u, I, h, e, q => by
    rw [nf]
    exact cong1_app (fun e q => cong1 (fun e q => norm1 u [] .nil e q) _ q e) I e q
theorem cmpU_norm1 (u : List U) (e : Bool) (q : List U) : nfO (cmpU (nf [] u) e q) = nfO (cmpU u e q) := norm1 u [] .nil e q
/-- The same of the second. -/
theorem cong2 {u v : List U} (h : ∀ p e, nfO (cmpU p e u) = nfO (cmpU p e v)) (y : U) : ∀ p e, nfO (cmpU p e (y :: u)) = nfO (cmpU p e (y :: v)) := by
  intro p
  induction p with
  | nil =>
    intro e
    by_cases hy : ∃ t, y = .ins t
    · obtain ⟨t, rfl⟩ := hy
      rw [cmpU_ins noD_nil, cmpU_ins noD_nil]
      exact nfO_cons (h _ _) _
    · have n : ∀ w : List U, NoI (y :: w) := fun w => noI_cons fun t e => hy ⟨t, e⟩
      rw [cmpU_mid noD_nil (n u) (.inr (by simp)), cmpU_mid noD_nil (n v) (.inr (by simp))]
      split
      · rfl
      · exact nfO_bind fun a => nfO_app (h _ _) a
  | cons x p ih =>
    intro e
    rcases noD_or (x :: p) with hp | ⟨t, r, e0⟩
    · by_cases hy : ∃ t, y = .ins t
      · obtain ⟨t, rfl⟩ := hy
        rw [cmpU_ins hp, cmpU_ins hp]
        exact nfO_cons (h _ _) _
      · have n : ∀ w : List U, NoI (y :: w) := fun w => noI_cons fun t e => hy ⟨t, e⟩
        rw [cmpU_mid hp (n u) (.inr (by simp)), cmpU_mid hp (n v) (.inr (by simp))]
        split
        · rfl
        · exact nfO_bind fun a => nfO_app (h _ _) a
    · obtain ⟨rfl, rfl⟩ := List.cons.inj e0
      rw [cmpU_del, cmpU_del]
      exact nfO_cons (ih e) _
theorem cong2_app {u v : List U} (h : ∀ p e, nfO (cmpU p e u) = nfO (cmpU p e v)) : ∀ (a : List U) p e, nfO (cmpU p e (a ++ u)) = nfO (cmpU p e (a ++ v))
  | [], p, e => h p e
  | x :: a, p, e => cong2 (cong2_app h a) x p e
theorem ins2 {p : List U} (hp : NoD p) (u : List U) (e : Bool) : ∀ (I : List U), AllIns I → cmpU p e (I ++ u) = (cmpU p e u).map (I ++ ·)
  | [], _ => by simp
  | x :: I, h => by
    obtain ⟨s, rfl⟩ := h.head
    rw [List.cons_append, cmpU_ins hp, ins2 hp u e I h.tail, Option.map_map]; rfl
theorem pass2 (I u : List U) (h : AllIns I) : ∀ p e, nfO (cmpU p e (I ++ u)) = nfO ((cmpU p e u).map (I ++ ·)) := by
  intro p
  induction p with
  | nil => intro e; rw [ins2 noD_nil u e I h]
  | cons x p ih =>
    intro e
    rcases noD_or (x :: p) with hp | ⟨t, r, e0⟩
    · rw [ins2 hp u e I h]
    · obtain ⟨rfl, rfl⟩ := List.cons.inj e0
      rw [cmpU_del, cmpU_del]
      refine (nfO_cons (ih e) _).trans ?_
      exact (nfO_commute h (AllDel.one t) _).symm
theorem swap2 (t : ByteArray) (I u : List U) (h : AllIns I) : ∀ p e, nfO (cmpU p e (I ++ .del t :: u)) = nfO (cmpU p e (.del t :: (I ++ u))) := by
  have n : ∀ w : List U, NoI (.del t :: w) := fun w => noI_cons fun t e => by simp at e
  have m : ∀ p, NoD p → ∀ e, nfO (cmpU p e (I ++ .del t :: u)) = nfO (cmpU p e (.del t :: (I ++ u))) := by
    intro p hp e
    rw [ins2 hp _ e I h, cmpU_mid hp (n _) (.inr (by simp)), cmpU_mid hp (n _) (.inr (by simp))]
    split
    · rfl
    · simp only [nxU_cons, List.tail_cons]
      cases hm : midU (nxU p) (.del t) with
      | none => rfl
      | some a =>
        simp only [Option.bind_some]
        exact (nfO_commute h (mid_del hm) _).trans (nfO_app (pass2 I u h _ _).symm a)
  intro p
  induction p with
  | nil => exact m [] noD_nil
  | cons x p ih =>
    rcases noD_or (x :: p) with hp | ⟨b, r, e0⟩
    · exact m _ hp
    · obtain ⟨rfl, rfl⟩ := List.cons.inj e0
      intro e
      rw [cmpU_del, cmpU_del]
      exact nfO_cons (ih e) _
theorem norm2 : ∀ (u I : List U), AllIns I → ∀ p e, nfO (cmpU p e (nf I u)) = nfO (cmpU p e (I ++ u))
  | [], I, _, p, e => by rw [nf, List.append_nil]
  | .ins t :: u, I, h, p, e => by
    rw [nf, norm2 u _ (h.snoc t), List.append_assoc]; rfl
  | .del t :: u, I, h, p, e => by
    rw [nf, swap2 t I u h]
    exact cong2 (fun p e => norm2 u I h p e) _ p e
  | .keep t :: u, I, h, p, e => by
    rw [nf]
    exact cong2_app (fun p e => cong2 (fun p e => norm2 u [] .nil p e) _ p e) I p e
  | .skip :: u, I, h, p, e => by
    rw [nf]
    exact cong2_app (fun p e => cong2 (fun p e => norm2 u [] .nil p e) _ p e) I p e
theorem cmpU_norm2 (p : List U) (e : Bool) (u : List U) : nfO (cmpU p e (nf [] u)) = nfO (cmpU p e u) := norm2 u [] .nil p e
end Go.Proofs.Ytfoponahdidddaa.P
