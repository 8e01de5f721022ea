/- Own and printed texts that the theorem of SwapTells reaches, put together. -/
import Derived.Test.YtfoponahdidddaaqSwapTells5
import Derived.Test.YtfoponahdidddaaqSwapTells3
set_option linter.unusedVariables false
set_option linter.unusedSimpArgs false
namespace Go.Proofs.Ytfoponahdidddaa.P
open Go.RowKit Go.Proofs.YtfoponahdidddaaW.PrintWords Go.Proofs.YtfoponahdidddaaW.PrintLast Go.Proofs.YtfoponahdidddaaW.PrintMore
abbrev TU := U × Int
def fstT : List TU → List U
  | [] => []
  | (.del t, b) :: w => if b = 1 then .keep t :: fstT w else .del t :: fstT w
  | (.ins t, b) :: w => if b = 1 then fstT w else .ins t :: fstT w
  | (.skip, _) :: w => .skip :: fstT w
  | (.keep t, _) :: w => .keep t :: fstT w
def sndT : List TU → List U
  | [] => []
  | (.ins t, b) :: w => if b = 2 then .keep t :: sndT w else .ins t :: sndT w
  | (.del t, b) :: w => if b = 2 then sndT w else .del t :: sndT w
  | (.skip, _) :: w => .skip :: sndT w
  | (.keep t, _) :: w => .keep t :: sndT w
def okT (w : List TU) : Prop := ∀ x ∈ w, isCh x.1 = true → x.2 = 1 ∨ x.2 = 2
theorem okT.tail {x : TU} {w : List TU} (h : okT (x :: w)) : okT w := fun y hy => h y (List.mem_cons_of_mem _ hy)
theorem okT.head {x : TU} {w : List TU} (h : okT (x :: w)) (hc : isCh x.1 = true) : x.2 = 1 ∨ x.2 = 2 := h x (List.mem_cons_self ..) hc
theorem okT.app {a b : List TU} (ha : okT a) (hb : okT b) : okT (a ++ b) := fun y hy => by
  rcases List.mem_append.mp hy with h | h
  · exact ha y h
  · exact hb y h
theorem okT.nil : okT [] := fun x h => by simp at h
end Go.Proofs.Ytfoponahdidddaa.P
namespace Go.Proofs.Ytfoponahdidddaa.P
open Go.RowKit Go.Proofs.YtfoponahdidddaaW.PrintWords Go.Proofs.YtfoponahdidddaaW.PrintLast Go.Proofs.YtfoponahdidddaaW.PrintMore
def midT : U → U → Option (List TU)
  | .skip, .skip => some [(.skip, 0)]
  | .skip, .keep t => some [(.keep t, 0)]
  | .skip, .del t => some [(.del t, 2)]
  | .keep s, .skip => some [(.keep s, 0)]
  | .keep s, .keep t => if s = t then some [(.keep t, 0)] else none
  | .keep s, .del t => if s = t then some [(.del t, 2)] else none
  | .ins s, .skip => some [(.ins s, 1)]
  | .ins s, .keep t => if s = t then some [(.ins s, 1)] else none
  | .ins s, .del t => if s = t then some [(.ins s, 3)] else none
  | _, _ => none
def opnX : U → Bool
  | .skip => false
  | x => openT (txU x)
def opM (x y : U) : Bool := opnX x || opnX y
def inner (x : U) (f : Bool → List U → Option (List TU)) : Bool → List U → Option (List TU)
  | e, [] => if e = true then none else (midT x .skip).bind fun a => (f (opM x .skip) []).map (a ++ ·)
  | e, y :: q => match y with
    | .ins t => (inner x f e q).map ((.ins t, 2) :: ·)
    | y => if e = true then none else (midT x y).bind fun a => (f (opM x y) q).map (a ++ ·)
def endQ : Bool → List U → Option (List TU)
  | _, [] => some []
  | e, y :: q => match y with
    | .ins t => (endQ e q).map ((.ins t, 2) :: ·)
    | y => if e = true then none else (midT .skip y).bind fun a => (endQ (opM .skip y) q).map (a ++ ·)
def cmpT : List U → Bool → List U → Option (List TU)
  | [] => endQ
  | x :: p => match x with
    | .del t => fun e q => (cmpT p e q).map ((.del t, 1) :: ·)
    | x => inner x (cmpT p)
def nxU : List U → U
  | [] => .skip
  | x :: _ => x
theorem nxU_cons (x : U) (p : List U) : nxU (x :: p) = x := rfl
def NoD (p : List U) : Prop := ∀ t r, p ≠ .del t :: r
def NoI (p : List U) : Prop := ∀ t r, p ≠ .ins t :: r
theorem cmpT_nil (e : Bool) : cmpT [] e [] = some [] := rfl
theorem cmpT_del (t : ByteArray) (p q : List U) (e : Bool) : cmpT (.del t :: p) e q = (cmpT p e q).map ((.del t, 1) :: ·) := rfl
theorem cmpT_ins {p : List U} (h : NoD p) (t : ByteArray) (q : List U) (e : Bool) : cmpT p e (.ins t :: q) = (cmpT p e q).map ((.ins t, 2) :: ·) := by
  cases p with
  | nil => rfl
  | cons x p => cases x <;> first | rfl | exact absurd rfl (h _ _)
theorem cmpT_mid {p q : List U} (hp : NoD p) (hq : NoI q) (hne : p ≠ [] ∨ q ≠ []) (e : Bool) :
    cmpT p e q = if e = true then none else (midT (nxU p) (nxU q)).bind fun a => (cmpT p.tail (opM (nxU p) (nxU q)) q.tail).map (a ++ ·) := by
  cases p with
  | nil =>
    cases q with
    | nil => simp at hne
    | cons y q => cases y <;> first | rfl | exact absurd rfl (hq _ _)
  | cons x p =>
    cases q with
    | nil => cases x <;> first | rfl | exact absurd rfl (hp _ _)
    | cons y q =>
      cases x <;> first | exact absurd rfl (hp _ _) | (cases y <;> first | rfl | exact absurd rfl (hq _ _))
theorem walk_ind {C : List U → List U → Prop} (nil : C [] []) (del : ∀ t p q, C p q → C (.del t :: p) q) (ins : ∀ t p q, NoD p → C p q → C p (.ins t :: q))
    (mid : ∀ p q, NoD p → NoI q → p ≠ [] ∨ q ≠ [] → C p.tail q.tail → C p q) : ∀ p q, C p q := by
  have all : ∀ n p q, p.length + q.length ≤ n → C p q := by
    intro n
    induction n with
    | zero =>
      intro p q h
      obtain rfl : p = [] := List.length_eq_zero_iff.mp (by omega)
      obtain rfl : q = [] := List.length_eq_zero_iff.mp (by omega)
      exact nil
    | succ n ih =>
      intro p q h
      by_cases hp : NoD p
      · by_cases hq : NoI q
        · by_cases hne : p ≠ [] ∨ q ≠ []
          · refine mid p q hp hq hne (ih _ _ ?_)
            rw [List.length_tail, List.length_tail]
            rcases hne with h0 | h0
            · have := List.length_pos_iff.mpr h0; omega
            · have := List.length_pos_iff.mpr h0; omega
          · have h1 : p = [] := Classical.byContradiction fun x => hne (.inl x)
            have h2 : q = [] := Classical.byContradiction fun x => hne (.inr x)
            rw [h1, h2]; exact nil
        · cases q with
          | nil => exact absurd (fun t r e => by simp at e) hq
          | cons y q =>
            cases y with
            | ins t => exact ins t p q hp (ih _ _ (by simp only [List.length_cons] at h; omega))
            | skip => exact absurd (fun t r e => by simp at e) hq
            | keep t => exact absurd (fun t r e => by simp at e) hq
            | del t => exact absurd (fun t r e => by simp at e) hq
      · cases p with
        | nil => exact absurd (fun t r e => by simp at e) hp
        | cons x p =>
          cases x with
          | del t => exact del t p q (ih _ _ (by simp only [List.length_cons] at h; omega))
          | skip => exact absurd (fun t r e => by simp at e) hp
          | keep t => exact absurd (fun t r e => by simp at e) hp
          | ins t => exact absurd (fun t r e => by simp at e) hp
  exact fun p q => all _ p q (Nat.le_refl _)
def un (w : List TU) : List U := (w.filter fun x => decide (x.2 ≠ 3)).map (·.1)
theorem un_app (a b : List TU) : un (a ++ b) = un a ++ un b := by simp [un]
theorem un_cons {x : TU} (h : x.2 ≠ 3) (w : List TU) : un (x :: w) = x.1 :: un w := by simp [un, h]
def midU (x y : U) : Option (List U) := (midT x y).map un
def cmpU (p : List U) (e : Bool) (q : List U) : Option (List U) := (cmpT p e q).map un
theorem cmpU_nil (e : Bool) : cmpU [] e [] = some [] := rfl
theorem cmpU_del (t : ByteArray) (p q : List U) (e : Bool) : cmpU (.del t :: p) e q = (cmpU p e q).map (.del t :: ·) := by
  unfold cmpU
  rw [cmpT_del, Option.map_map, Option.map_map]
  congr 1
theorem cmpU_ins {p : List U} (h : NoD p) (t : ByteArray) (q : List U) (e : Bool) : cmpU p e (.ins t :: q) = (cmpU p e q).map (.ins t :: ·) := by
  unfold cmpU
  rw [cmpT_ins h, Option.map_map, Option.map_map]
  congr 1
theorem cmpU_mid {p q : List U} (hp : NoD p) (hq : NoI q) (hne : p ≠ [] ∨ q ≠ []) (e : Bool) :
    cmpU p e q = if e = true then none else (midU (nxU p) (nxU q)).bind fun a => (cmpU p.tail (opM (nxU p) (nxU q)) q.tail).map (a ++ ·) := by
  unfold cmpU midU
  rw [cmpT_mid hp hq hne]
  split
  · rfl
  · cases midT (nxU p) (nxU q) with
    | none => rfl
    | some a =>
      simp only [Option.bind_some, Option.map_some, Option.map_map]
      congr 1
      funext r
      exact un_app a r
def AllDel (I : List U) : Prop := ∀ x ∈ I, ∃ t, x = .del t
theorem AllIns.one (t : ByteArray) : AllIns [.ins t] := fun x hx => ⟨t, List.mem_singleton.mp hx⟩
theorem AllDel.one (t : ByteArray) : AllDel [.del t] := fun x hx => ⟨t, List.mem_singleton.mp hx⟩
theorem AllDel.nil : AllDel [] := fun x h => by simp at h
theorem AllIns.tail {x : U} {I : List U} (h : AllIns (x :: I)) : AllIns I := fun y hy => h y (List.mem_cons_of_mem _ hy)
theorem AllIns.head {x : U} {I : List U} (h : AllIns (x :: I)) : ∃ t, x = .ins t := h x (List.mem_cons_self ..)
end Go.Proofs.Ytfoponahdidddaa.P
namespace Go.Proofs.Ytfoponahdidddaa.P
open Go.RowKit Go.Proofs.YtfoponahdidddaaW.PrintWords Go.Proofs.YtfoponahdidddaaW.PrintLast Go.Proofs.YtfoponahdidddaaW.PrintMore
inductive Cmp : List U → List U → List U → Prop
  | nil : Cmp [] [] []
  | del (t : ByteArray) {p q w : List U} : Cmp p q w → Cmp (.del t :: p) q (.del t :: w)
  | ins (t : ByteArray) {p q w : List U} : NoD p → Cmp p q w → Cmp p (.ins t :: q) (.ins t :: w)
  | mid {p q a w : List U} : NoD p → NoI q → p ≠ [] ∨ q ≠ [] → midU (nxU p) (nxU q) = some a → Cmp p.tail q.tail w → Cmp p q (a ++ w)
theorem Cmp.of : ∀ p q, ∀ (e : Bool) (w : List U), cmpU p e q = some w → Cmp p q w := by
  refine walk_ind ?_ ?_ ?_ ?_
  · intro e w h
    rw [cmpU_nil] at h
    rw [← Option.some.inj h]; exact .nil
  · intro t p q ih e w h
    rw [cmpU_del] at h
    obtain ⟨w', h', rfl⟩ := Option.map_eq_some_iff.mp h
    exact .del t (ih e w' h')
  · intro t p q hp ih e w h
    rw [cmpU_ins hp] at h
    obtain ⟨w', h', rfl⟩ := Option.map_eq_some_iff.mp h
    exact .ins t hp (ih e w' h')
  · intro p q hp hq hne ih e w h
    rw [cmpU_mid hp hq hne] at h
    split at h
    · simp at h
    · obtain ⟨a, ha, h⟩ := Option.bind_eq_some_iff.mp h
      obtain ⟨w', h', rfl⟩ := Option.map_eq_some_iff.mp h
      exact .mid hp hq hne ha (ih _ w' h')
theorem nx_len (p : List U) : ∃ k, (olds p).length + k = (olds [nxU p]).length + (olds p.tail).length ∧ (news p).length + k = (news [nxU p]).length + (news p.tail).length ∧ chU p = chU [nxU p] + chU p.tail := by
  cases p with
  | nil => exact ⟨1, rfl, rfl, rfl⟩
  | cons x p =>
    refine ⟨0, ?_, ?_, ?_⟩
    · show (olds ([x] ++ p)).length + 0 = _
      rw [olds_app, List.length_append]; rfl
    · show (news ([x] ++ p)).length + 0 = _
      rw [news_app, List.length_append]; rfl
    · show chU ([x] ++ p) = _
      rw [chU_app]; rfl
theorem mid_len {x y : U} {a : List U} (h : midU x y = some a) : (news a).length + (olds [x]).length + (olds [y]).length = (olds a).length + (news [x]).length + (news [y]).length ∧ (olds [x]).length ≤ (olds a).length ∧ (news [y]).length ≤ (news a).length ∧ chU a ≤ chU [x] + chU [y] := by
  cases x <;> cases y <;> simp only [midU, midT] at h <;> (try split at h) <;> simp [un] at h <;> subst h <;> simp [olds, news, chU_del, chU_ins, chU_keep, chU_skip, chU_nil]
theorem Cmp.counts {p q w : List U} (h : Cmp p q w) : (news w).length + (olds p).length + (olds q).length = (olds w).length + (news p).length + (news q).length ∧ (olds p).length ≤ (olds w).length ∧ (news q).length ≤ (news w).length ∧ chU w ≤ chU p + chU q := by
  induction h with
  | nil => simp [olds, news, chU]
  | del t _ ih =>
    simp only [olds, news, List.length_cons, chU_del]; omega
  | ins t _ _ ih =>
    simp only [olds, news, List.length_cons, chU_ins]; omega
  | mid hp hq hne ha _ ih =>
    rename_i p q a w _
    obtain ⟨k, k1, k2, k3⟩ := nx_len p
    obtain ⟨m, m1, m2, m3⟩ := nx_len q
    obtain ⟨h1, h2, h3, h4⟩ := mid_len ha
    rw [olds_app, news_app, chU_app, List.length_append, List.length_append]
    omega
end Go.Proofs.Ytfoponahdidddaa.P
namespace Go.Proofs.Ytfoponahdidddaa.P
open Go.RowKit Go.Proofs.YtfoponahdidddaaW.PrintWords Go.Proofs.YtfoponahdidddaaW.PrintLast Go.Proofs.YtfoponahdidddaaW.PrintMore
def fewN (l : List Op) : Nat := (l.map fun o => 1 + o.f2.size).sum
theorem fewN_le (l : List Op) : fewN l ≤ (l.map wtOp).sum := by
  induction l with
  | nil => exact Nat.le_refl _
  | cons o l ih => simp only [fewN, List.map_cons, List.sum_cons] at ih ⊢; unfold wtOp at *; omega
theorem fewN_len (l : List Op) : l.length ≤ fewN l := by
  induction l with
  | nil => exact Nat.le_refl _
  | cons o l ih => simp only [fewN, List.map_cons, List.sum_cons, List.length_cons] at ih ⊢; omega
theorem few_loop (s : List Op) : ∀ (p : List Op), fewN (p ++ s) < 4398046511104 → Ev (fun k => patchworklaw8_Few.l0 k (p ++ s) (fewN p : Int) (p.length : Int)) (decide (fewN (p ++ s) ≤ 600)) := by
  induction s with
  | nil =>
    intro p _
    refine Ev.step (fun k => rfl) ?_
    simp only [patchworklaw8_Few.l0, lt_end, if_false]
    rw [List.append_nil, show decide (fewN p ≤ 600) = decide ((fewN p : Int) ≤ 600) from by
      have : fewN p ≤ 600 ↔ (fewN p : Int) ≤ 600 := by omega
      simp only [this]]
    exact Ev.now _
  | cons o s ih =>
    intro p hb
    have e : fewN (p ++ [o]) = fewN p + (1 + o.f2.size) := by simp [fewN]
    have e2 : fewN (p ++ o :: s) = fewN p + (1 + o.f2.size) + fewN s := by simp [fewN, Nat.add_assoc]
    have hl := fewN_len (p ++ o :: s)
    have := ih (p ++ [o]) (by simpa using hb)
    rw [List.append_assoc, List.singleton_append, e] at this
    have w : wrap64 (wrap64 ((fewN p : Int) + 1) + (o.f2.size : Int)) = ((fewN p + (1 + o.f2.size) : Nat) : Int) := by unfold wrap64; omega
    refine Ev.step (fun k => rfl) ?_
    simp only [patchworklaw8_Few.l0, lt_mid, nn_nat, if_true, rdOp_mid, w, wrap_len p o (by simp at hl; omega)]
    exact this
theorem few_ev {l : List Op} (h : fewN l < 4398046511104) : Ev (fun k => patchworklaw8_Few.f k l) (decide (fewN l ≤ 600)) := few_loop l [] h
end Go.Proofs.Ytfoponahdidddaa.P
namespace Go.Proofs.Ytfoponahdidddaa.P
open Go.RowKit Go.Proofs.YtfoponahdidddaaW.PrintWords Go.Proofs.YtfoponahdidddaaW.PrintLast Go.Proofs.YtfoponahdidddaaW.PrintMore
theorem same_loop (a : List Op) : ∀ (b p q : List Op), p.length = q.length → a.length = b.length → p.length + a.length < 4611686018427387904 →
    Ev (fun k => patchworkref8_Same.l0 k (p ++ a) (q ++ b) (p.length : Int)) (decide (a = b)) := by
  induction a with
  | nil =>
    intro b p q hpq hab hb
    obtain rfl : b = [] := List.length_eq_zero_iff.mp hab.symm
    refine Ev.step (fun k => rfl) ?_
    simp only [patchworkref8_Same.l0, lt_end, if_false]
    exact Ev.now _
  | cons x a ih =>
    intro b p q hpq hab hb
    match b, hab with
    | y :: b, hab =>
      have e2 : ((p.length : Int) < ((q ++ y :: b).length : Int)) = True := by rw [hpq]; exact lt_mid q b y
      have r2 : rd_Op (q ++ y :: b) (p.length : Int) = y := by rw [hpq]; exact rdOp_mid q b y
      refine Ev.step (fun k => rfl) ?_
      simp only [patchworkref8_Same.l0, lt_mid, nn_nat, e2, if_true, rdOp_mid, r2]
      by_cases h : x = y
      · subst h
        have := ih b (p ++ [x]) (q ++ [x]) (by simp [hpq]) (by simpa using hab) (by simp at hb ⊢; omega)
        simp only [List.append_assoc, List.singleton_append] at this
        simp only [beq_self_eq_true, Bool.not_true, Bool.or_self, Bool.false_eq_true, if_false]
        rw [wrap_len p x (by simp at hb; omega)]
        simpa using this
      · have hb' : (!(x.f0 == y.f0) || (!(x.f1 == y.f1) || !(x.f2.toList == y.f2.toList))) = true := by
          rw [Bool.or_eq_true, Bool.or_eq_true]
          by_cases h0 : x.f0 = y.f0
          · by_cases h1 : x.f1 = y.f1
            · have h2 : ¬ x.f2.toList = y.f2.toList := fun e => h (Op.ext' h0 h1 (txt_eq e))
              simp [h2]
            · simp [h1]
          · simp [h0]
        simp only [hb', if_true]
        have : decide (x :: a = y :: b) = false := by simp [h]
        rw [this]
        exact Ev.now _
theorem same_ev (a b : List Op) (h : a.length < 4611686018427387904) : Ev (fun k => patchworkref8_Same.f k a b) (decide (a = b)) := by
  by_cases hl : a.length = b.length
  · have := same_loop a b [] [] rfl hl (by simpa using h)
    simpa [patchworkref8_Same.f, hl] using this
  · have h1 : ¬ ((a.length : Int) = (b.length : Int)) := by omega
    have h2 : decide (a = b) = false := by
      rw [decide_eq_false_iff_not]; exact fun e => hl (by rw [e])
    simp only [patchworkref8_Same.f, if_neg h1, h2]
    exact Ev.now _
end Go.Proofs.Ytfoponahdidddaa.P
namespace Go.Proofs.Ytfoponahdidddaa.P
open Go.RowKit Go.Proofs.YtfoponahdidddaaW.PrintWords Go.Proofs.YtfoponahdidddaaW.PrintLast Go.Proofs.YtfoponahdidddaaW.PrintMore
def HD (p : List U) (x : U) (p' : List U) : Prop := p = x :: p' ∨ (p = [] ∧ x = .skip ∧ p' = [])
theorem HD.of (p : List U) : HD p (nxU p) p.tail := by
  cases p with
  | nil => exact .inr ⟨rfl, rfl, rfl⟩
  | cons x p => exact .inl rfl
inductive WT : List U → Bool → List U → List TU → Prop
  | nil (e : Bool) : WT [] e [] []
  | del (t : ByteArray) (p : List U) (e : Bool) (q : List U) (W : List TU) : WT p e q W → WT (.del t :: p) e q ((.del t, 1) :: W)
  | ins (t : ByteArray) (p : List U) (e : Bool) (q : List U) (W : List TU) : NoD p → WT p e q W → WT p e (.ins t :: q) ((.ins t, 2) :: W)
  | mid (p q p' q' : List U) (x y : U) (a : TU) (W : List TU) : HD p x p' → HD q y q' → (∀ t, x ≠ .del t) → (∀ t, y ≠ .ins t) → (p ≠ [] ∨ q ≠ []) → midT x y = some [a] → WT p' (opM x y) q' W → WT p false q (a :: W)
theorem midT_one {x y : U} {l : List TU} (h : midT x y = some l) : ∃ a, l = [a] := by
  cases x <;> cases y <;> simp only [midT] at h <;> first | (simp at h; done) | exact ⟨_, (Option.some.inj h).symm⟩ | (split at h <;> first | exact ⟨_, (Option.some.inj h).symm⟩ | (simp at h; done))
theorem nx_noD {p : List U} (h : NoD p) : ∀ t, nxU p ≠ .del t := by
  intro t e
  cases p with
  | nil => simp [nxU] at e
  | cons x p => rw [nxU_cons] at e; exact h t p (by rw [e])
theorem nx_noI {p : List U} (h : NoI p) : ∀ t, nxU p ≠ .ins t := by
  intro t e
  cases p with
  | nil => simp [nxU] at e
  | cons x p => rw [nxU_cons] at e; exact h t p (by rw [e])
theorem WT.of : ∀ p q, ∀ (e : Bool) (W : List TU), cmpT p e q = some W → WT p e q W := by
  refine walk_ind ?_ ?_ ?_ ?_
  · intro e W h
    rw [cmpT_nil] at h
    obtain rfl := Option.some.inj h
    exact .nil e
  · intro t p q ih e W h
    rw [cmpT_del] at h
    obtain ⟨W', h', rfl⟩ := Option.map_eq_some_iff.mp h
    exact .del t p e q W' (ih e W' h')
  · intro t p q hp ih e W h
    rw [cmpT_ins hp] at h
    obtain ⟨W', h', rfl⟩ := Option.map_eq_some_iff.mp h
    exact .ins t p e q W' hp (ih e W' h')
  · intro p q hp hq hne ih e W h
    rw [cmpT_mid hp hq hne] at h
    cases e with
    | true => simp at h
    | false =>
      simp only [Bool.false_eq_true, if_false] at h
      obtain ⟨l, h1, h2⟩ := Option.bind_eq_some_iff.mp h
      obtain ⟨a, rfl⟩ := midT_one h1
      obtain ⟨W', h', rfl⟩ := Option.map_eq_some_iff.mp h2
      exact .mid p q _ _ _ _ a W' (HD.of p) (HD.of q) (nx_noD hp) (nx_noI hq) hne h1 (ih _ W' h')
def no3 (W : List TU) : Prop := ∀ x ∈ W, x.2 ≠ 3
theorem no3.tail {x : TU} {W : List TU} (h : no3 (x :: W)) : no3 W := fun y hy => h y (List.mem_cons_of_mem _ hy)
theorem no3.head {x : TU} {W : List TU} (h : no3 (x :: W)) : x.2 ≠ 3 := h x (List.mem_cons_self ..)
def ownT (x : TU) : Prop := match x.1 with
  | .skip => x.2 = 0
  | .keep _ => x.2 = 0
  | .del _ => x.2 = 1 ∨ x.2 = 2
  | .ins _ => x.2 = 1 ∨ x.2 = 2
def owns (W : List TU) : Prop := ∀ x ∈ W, ownT x
theorem owns.tail {x : TU} {W : List TU} (h : owns (x :: W)) : owns W := fun y hy => h y (List.mem_cons_of_mem _ hy)
theorem owns.head {x : TU} {W : List TU} (h : owns (x :: W)) : ownT x := h x (List.mem_cons_self ..)
theorem owns.cons {x : TU} {W : List TU} (h : ownT x) (hw : owns W) : owns (x :: W) := by
  intro y hy
  rcases List.mem_cons.mp hy with rfl | hy
  · exact h
  · exact hw y hy
theorem owns.ok {W : List TU} (h : owns W) : okT W := by
  intro x hx hc
  have := h x hx
  obtain ⟨u, b⟩ := x
  cases u <;> simp [isCh] at hc <;> exact this
theorem mid_ways {x y : U} {a : TU} (h : midT x y = some [a]) (h3 : a.2 ≠ 3) :
    (x = .skip ∧ y = .skip ∧ a = (.skip, 0)) ∨ (∃ t, y = .keep t ∧ (x = .skip ∨ x = .keep t) ∧ a = (.keep t, 0)) ∨ (∃ t, y = .skip ∧ x = .keep t ∧ a = (.keep t, 0)) ∨
    (∃ t, y = .del t ∧ (x = .skip ∨ x = .keep t) ∧ a = (.del t, 2)) ∨ (∃ t, x = .ins t ∧ (y = .skip ∨ y = .keep t) ∧ a = (.ins t, 1)) := by
  cases x <;> cases y <;> simp only [midT] at h <;> first | (simp at h; done) | skip
  · have := List.cons.inj (Option.some.inj h); exact .inl ⟨rfl, rfl, this.1.symm⟩
  · rename_i t; have := List.cons.inj (Option.some.inj h); exact .inr (.inl ⟨t, rfl, .inl rfl, this.1.symm⟩)
  · rename_i t; have := List.cons.inj (Option.some.inj h); exact .inr (.inr (.inr (.inl ⟨t, rfl, .inl rfl, this.1.symm⟩)))
  · rename_i t; have := List.cons.inj (Option.some.inj h); exact .inr (.inr (.inl ⟨t, rfl, rfl, this.1.symm⟩))
  · rename_i s t
    split at h
    · rename_i e; subst e; have := List.cons.inj (Option.some.inj h); exact .inr (.inl ⟨_, rfl, .inr rfl, this.1.symm⟩)
    · simp at h
  · rename_i s t
    split at h
    · rename_i e; subst e; have := List.cons.inj (Option.some.inj h); exact .inr (.inr (.inr (.inl ⟨_, rfl, .inr rfl, this.1.symm⟩)))
    · simp at h
  · rename_i t; have := List.cons.inj (Option.some.inj h); exact .inr (.inr (.inr (.inr ⟨t, rfl, .inl rfl, this.1.symm⟩)))
  · rename_i s t
    split at h
    · rename_i e; subst e; have := List.cons.inj (Option.some.inj h); exact .inr (.inr (.inr (.inr ⟨_, rfl, .inr rfl, this.1.symm⟩)))
    · simp at h
  · rename_i s t
    split at h
    · have := List.cons.inj (Option.some.inj h); rw [← this.1] at h3; exact absurd rfl h3
    · simp at h
theorem WT.owns {p : List U} {e : Bool} {q : List U} {W : List TU} (h : WT p e q W) (h3 : no3 W) : owns W := by
  induction h with
  | nil e => exact fun x hx => by simp at hx
  | del t p e q W _ ih => exact .cons (.inl rfl) (ih h3.tail)
  | ins t p e q W _ _ ih => exact .cons (.inr rfl) (ih h3.tail)
  | mid p q p' q' x y a W _ _ _ _ _ hm _ ih =>
    refine .cons ?_ (ih h3.tail)
    rcases mid_ways hm h3.head with ⟨_, _, rfl⟩ | ⟨t, _, _, rfl⟩ | ⟨t, _, _, rfl⟩ | ⟨t, _, _, rfl⟩ | ⟨t, _, _, rfl⟩
    · rfl
    · rfl
    · rfl
    · exact .inr rfl
    · exact .inl rfl
def touchT : Int → List TU → Bool
  | _, [] => false
  | b, x :: w => (decide (x.2 ≠ 0) && (decide (b ≠ 0) && decide (x.2 ≠ b))) || touchT x.2 w
theorem HD.eq {p p' : List U} {x : U} (h : HD p x p') (hx : x ≠ .skip) : p = x :: p' := by
  rcases h with h | ⟨_, h, _⟩
  · exact h
  · exact absurd h hx
theorem fst_d1 (t : ByteArray) (W : List TU) : fstT ((.del t, 1) :: W) = .keep t :: fstT W := by simp [fstT]
theorem fst_d2 (t : ByteArray) (W : List TU) : fstT ((.del t, 2) :: W) = .del t :: fstT W := by simp [fstT]
theorem fst_i1 (t : ByteArray) (W : List TU) : fstT ((.ins t, 1) :: W) = fstT W := by simp [fstT]
theorem fst_i2 (t : ByteArray) (W : List TU) : fstT ((.ins t, 2) :: W) = .ins t :: fstT W := by simp [fstT]
theorem snd_d1 (t : ByteArray) (W : List TU) : sndT ((.del t, 1) :: W) = .del t :: sndT W := by simp [sndT]
theorem snd_d2 (t : ByteArray) (W : List TU) : sndT ((.del t, 2) :: W) = sndT W := by simp [sndT]
theorem snd_i1 (t : ByteArray) (W : List TU) : sndT ((.ins t, 1) :: W) = .ins t :: sndT W := by simp [sndT]
theorem snd_i2 (t : ByteArray) (W : List TU) : sndT ((.ins t, 2) :: W) = .keep t :: sndT W := by simp [sndT]
def pend (b : Int) (I : List TU) : Prop := ∀ x ∈ I, (∃ t, x = (.ins t, b)) ∧ (b = 1 ∨ b = 2)
theorem pend.nil (b : Int) : pend b [] := fun x hx => by simp at hx
theorem pend.tail {b : Int} {x : TU} {I : List TU} (h : pend b (x :: I)) : pend b I := fun y hy => h y (List.mem_cons_of_mem _ hy)
theorem pend.snoc {b c : Int} {I : List TU} (h : pend b I) (hb : b = 0 ∨ b = c) (hc : c = 1 ∨ c = 2) (t : ByteArray) : pend c (I ++ [(.ins t, c)]) := by
  intro x hx
  rcases List.mem_append.mp hx with hx | hx
  · obtain ⟨⟨s, rfl⟩, h0⟩ := h x hx
    rcases hb with hb | hb
    · omega
    · exact ⟨⟨s, by rw [hb]⟩, hc⟩
  · exact ⟨⟨t, List.mem_singleton.mp hx⟩, hc⟩
theorem pend.same {b c : Int} {I : List TU} (h : pend b I) (hb : b = 0 ∨ b = c) : pend c I := by
  intro x hx
  obtain ⟨⟨s, rfl⟩, h0⟩ := h x hx
  rcases hb with hb | hb
  · omega
  · subst hb; exact ⟨⟨s, rfl⟩, h0⟩
theorem owns.app {a b : List TU} (ha : owns a) (hb : owns b) : owns (a ++ b) := fun y hy => by
  rcases List.mem_append.mp hy with h | h
  · exact ha y h
  · exact hb y h
end Go.Proofs.Ytfoponahdidddaa.P
