/- Own and printed texts that the theorem of WitnessEach reaches, put together. -/
import Derived.Test.YtkiklmmpflndbaaDoorqWitnessEach5
set_option linter.unusedVariables false
set_option linter.unusedSimpArgs false
namespace Go.Proofs.YtkiklmmpflndbaaDoor.P
open Go.RowKit Go.Proofs.YtkiklmmpflndbaaDoorW.PrintWords Go.Proofs.YtkiklmmpflndbaaDoorW.PrintLast Go.Proofs.YtkiklmmpflndbaaDoorW.PrintMore
def HD (p : List U) (x : U) (p' : List U) : Prop := p = x :: p' ∨ (p = [] ∧ x = .skip ∧ p' = [])
theorem HD.of (p : List U) : HD p (nxU p) p.tail := by
 cases p with
 | nil => exact .inr ⟨rfl, rfl, rfl⟩
 | cons x p => exact .inl rfl
inductive WT : List U → Bool → List U → List TU → Prop
 | nil (e : Bool) : WT [] e [] []
 | del (t : ByteArray) (p : List U) (e : Bool) (q : List U) (W : List TU) : WT p e q W → WT (.del t :: p) e q ((.del t, 1) :: W)
 | ins (t : ByteArray) (p : List U) (e : Bool) (q : List U) (W : List TU) : NoD p → WT p e q W → WT p e (.ins t :: q) ((.ins t, 2) :: W)
 | mid (p q p' q' : List U) (x y : U) (a : TU) (W : List TU) : HD p x p' → HD q y q' → (∀ t, x ≠ .del t) → (∀ t, y ≠ .ins t) → (p ≠ [] ∨ q ≠ []) → midT x y = some [a] → WT p' (opM x y) q' W → WT p false q (a :: W)
theorem midT_one {x y : U} {l : List TU} (h : midT x y = some l) : ∃ a, l = [a] := by
 cases x <;> cases y <;> simp only [midT] at h <;> first | (simp at h; done) | exact ⟨_, (Option.some.inj h).symm⟩ | (split at h <;> first | exact ⟨_, (Option.some.inj h).symm⟩ | (simp at h; done))
theorem nx_noD {p : List U} (h : NoD p) : ∀ t, nxU p ≠ .del t := by
 intro t e
 cases p with
 | nil => simp [nxU] at e
 | cons x p => rw [nxU_cons] at e; exact h t p (by rw [e])
theorem nx_noI {p : List U} (h : NoI p) : ∀ t, nxU p ≠ .ins t := by
 intro t e
 cases p with
 | nil => simp [nxU] at e
 | cons x p => rw [nxU_cons] at e; exact h t p (by rw [e])
theorem WT.of : ∀ p q, ∀ (e : Bool) (W : List TU), cmpT p e q = some W → WT p e q W := by
 refine walk_ind ?_ ?_ ?_ ?_
 ·intro e W h
  rw [cmpT_nil] at h
  obtain rfl := Option.some.inj h
  exact .nil e
 ·intro t p q ih e W h
  rw [cmpT_del] at h
  obtain ⟨W', h', rfl⟩ := Option.map_eq_some_iff.mp h
  exact .del t p e q W' (ih e W' h')
 ·intro t p q hp ih e W h
  rw [cmpT_ins hp] at h
  obtain ⟨W', h', rfl⟩ := Option.map_eq_some_iff.mp h
  exact .ins t p e q W' hp (ih e W' h')
 ·intro p q hp hq hne ih e W h
  rw [cmpT_mid hp hq hne] at h
  cases e with
  | true => simp at h
  | false =>
   simp only [Bool.false_eq_true, if_false] at h
   obtain ⟨l, h1, h2⟩ := Option.bind_eq_some_iff.mp h
   obtain ⟨a, rfl⟩ := midT_one h1
   obtain ⟨W', h', rfl⟩ := Option.map_eq_some_iff.mp h2
   exact .mid p q _ _ _ _ a W' (HD.of p) (HD.of q) (nx_noD hp) (nx_noI hq) hne h1 (ih _ W' h')
def no3 (W : List TU) : Prop := ∀ x ∈ W, x.2 ≠ 3
theorem no3.tail {x : TU} {W : List TU} (h : no3 (x :: W)) : no3 W := fun y hy => h y (List.mem_cons_of_mem _ hy)
theorem no3.head {x : TU} {W : List TU} (h : no3 (x :: W)) : x.2 ≠ 3 := h x (List.mem_cons_self ..)
def ownT (x : TU) : Prop := match x.1 with
 | .skip => x.2 = 0
 | .keep _ => x.2 = 0
 | .del _ => x.2 = 1 ∨ x.2 = 2
 | .ins _ => x.2 = 1 ∨ x.2 = 2
def owns (W : List TU) : Prop := ∀ x ∈ W, ownT x
theorem owns.tail {x : TU} {W : List TU} (h : owns (x :: W)) : owns W := fun y hy => h y (List.mem_cons_of_mem _ hy)
theorem owns.head {x : TU} {W : List TU} (h : owns (x :: W)) : ownT x := h x (List.mem_cons_self ..)
theorem owns.cons {x : TU} {W : List TU} (h : ownT x) (hw : owns W) : owns (x :: W) := by
 intro y hy
 rcases List.mem_cons.mp hy with rfl | hy
 ·exact h
 ·exact hw y hy
theorem owns.ok {W : List TU} (h : owns W) : okT W := by
 intro x hx hc
 have := h x hx
 obtain ⟨u, b⟩ := x
 cases u <;> simp [isCh] at hc <;> exact this
theorem mid_ways {x y : U} {a : TU} (h : midT x y = some [a]) (h3 : a.2 ≠ 3) :
  (x = .skip ∧ y = .skip ∧ a = (.skip, 0)) ∨ (∃ t, y = .keep t ∧ (x = .skip ∨ x = .keep t) ∧ a = (.keep t, 0)) ∨ (∃ t, y = .skip ∧ x = .keep t ∧ a = (.keep t, 0)) ∨
  (∃ t, y = .del t ∧ (x = .skip ∨ x = .keep t) ∧ a = (.del t, 2)) ∨ (∃ t, x = .ins t ∧ (y = .skip ∨ y = .keep t) ∧ a = (.ins t, 1)) := by
 cases x <;> cases y <;> simp only [midT] at h <;> first | (simp at h; done) | skip
 ·have := List.cons.inj (Option.some.inj h); exact .inl ⟨rfl, rfl, this.1.symm⟩
 ·rename_i t; have := List.cons.inj (Option.some.inj h); exact .inr (.inl ⟨t, rfl, .inl rfl, this.1.symm⟩)
 ·rename_i t; have := List.cons.inj (Option.some.inj h); exact .inr (.inr (.inr (.inl ⟨t, rfl, .inl rfl, this.1.symm⟩)))
 ·rename_i t; have := List.cons.inj (Option.some.inj h); exact .inr (.inr (.inl ⟨t, rfl, rfl, this.1.symm⟩))
 ·rename_i s t
  split at h
  ·rename_i e; subst e; have := List.cons.inj (Option.some.inj h); exact .inr (.inl ⟨_, rfl, .inr rfl, this.1.symm⟩)
  ·simp at h
 ·rename_i s t
  split at h
  ·rename_i e; subst e; have := List.cons.inj (Option.some.inj h); exact .inr (.inr (.inr (.inl ⟨_, rfl, .inr rfl, this.1.symm⟩)))
  ·simp at h
 ·rename_i t; have := List.cons.inj (Option.some.inj h); exact .inr (.inr (.inr (.inr ⟨t, rfl, .inl rfl, this.1.symm⟩)))
 ·rename_i s t
  split at h
  ·rename_i e; subst e; have := List.cons.inj (Option.some.inj h); exact .inr (.inr (.inr (.inr ⟨_, rfl, .inr rfl, this.1.symm⟩)))
  ·simp at h
 ·rename_i s t
  split at h
  ·have := List.cons.inj (Option.some.inj h); rw [← this.1] at h3; exact absurd rfl h3
  ·simp at h
theorem WT.owns {p : List U} {e : Bool} {q : List U} {W : List TU} (h : WT p e q W) (h3 : no3 W) : owns W := by
 induction h with
 | nil e => exact fun x hx => by simp at hx
 | del t p e q W _ ih => exact .cons (.inl rfl) (ih h3.tail)
 | ins t p e q W _ _ ih => exact .cons (.inr rfl) (ih h3.tail)
 | mid p q p' q' x y a W _ _ _ _ _ hm _ ih =>
  refine .cons ?_ (ih h3.tail)
  rcases mid_ways hm h3.head with ⟨_, _, rfl⟩ | ⟨t, _, _, rfl⟩ | ⟨t, _, _, rfl⟩ | ⟨t, _, _, rfl⟩ | ⟨t, _, _, rfl⟩
  ·rfl
  ·rfl
  ·rfl
  ·exact .inr rfl
  ·exact .inl rfl
theorem HD.eq {p p' : List U} {x : U} (h : HD p x p') (hx : x ≠ .skip) : p = x :: p' := by
 rcases h with h | ⟨_, h, _⟩
 ·exact h
 ·exact absurd h hx
def pend (b : Int) (I : List TU) : Prop := ∀ x ∈ I, (∃ t, x = (.ins t, b)) ∧ (b = 1 ∨ b = 2)
theorem pend.nil (b : Int) : pend b [] := fun x hx => by simp at hx
theorem pend.tail {b : Int} {x : TU} {I : List TU} (h : pend b (x :: I)) : pend b I := fun y hy => h y (List.mem_cons_of_mem _ hy)
theorem pend.snoc {b c : Int} {I : List TU} (h : pend b I) (hb : b = 0 ∨ b = c) (hc : c = 1 ∨ c = 2) (t : ByteArray) : pend c (I ++ [(.ins t, c)]) := by
 intro x hx
 rcases List.mem_append.mp hx with hx | hx
 ·obtain ⟨⟨s, rfl⟩, h0⟩ := h x hx
  rcases hb with hb | hb
  ·omega
  ·exact ⟨⟨s, by rw [hb]⟩, hc⟩
 ·exact ⟨⟨t, List.mem_singleton.mp hx⟩, hc⟩
theorem pend.same {b c : Int} {I : List TU} (h : pend b I) (hb : b = 0 ∨ b = c) : pend c I := by
 intro x hx
 obtain ⟨⟨s, rfl⟩, h0⟩ := h x hx
 rcases hb with hb | hb
 ·omega
 ·subst hb; exact ⟨⟨s, rfl⟩, h0⟩
end Go.Proofs.YtkiklmmpflndbaaDoor.P
namespace Go.Proofs.YtkiklmmpflndbaaDoor.P
open Go.RowKit Go.Proofs.YtkiklmmpflndbaaDoorW.PrintWords Go.Proofs.YtkiklmmpflndbaaDoorW.PrintLast Go.Proofs.YtkiklmmpflndbaaDoorW.PrintMore
def clS : List (Option ByteArray) → List ByteArray → Prop
 | none :: s, x :: l => openT x = false ∧ clS s l
 | some _ :: s, _ :: l => clS s l
 | _, _ => True
theorem hd_news {p p' : List U} {x : U} (h : HD p x p') (hp : textS (news p) = true) : textS (news p') = true := by
 rcases h with rfl | ⟨rfl, _, rfl⟩
 ·cases x with
  | skip => exact textS_none1 hp
  | keep t => exact (textS_cons hp).2
  | ins t => exact (textS_cons hp).2
  | del t => exact hp
 ·exact hp
theorem hd_olds {p p' : List U} {x : U} (h : HD p x p') (hp : textS (olds p) = true) : textS (olds p') = true := by
 rcases h with rfl | ⟨rfl, _, rfl⟩
 ·cases x with
  | skip => exact textS_none1 hp
  | keep t => exact (textS_cons hp).2
  | del t => exact (textS_cons hp).2
  | ins t => exact hp
 ·exact hp
def UNDO (p : List U) (e : Bool) (q u : List U) : Prop := ∀ (L r : List ByteArray), doU u L = some r → clS (olds u) L → L.length = (olds u).length → (∀ x ∈ L, rightT x = true) → textS (news p) = true → textS (olds q) = true →
 ∃ m, doU p L = some m ∧ doU q m = some r ∧ wholeL m = true ∧ (e = true → m = [])
theorem UNDO.del {p q u : List U} {e : Bool} (h : UNDO p e q u) (t : ByteArray) : UNDO (.del t :: p) e q (.del t :: u) := by
 intro L r hd hc hl hr hp hq
 match L, hd, hc, hl, hr with
 | [], hd, _, _, _ => simp [doU] at hd
 | x :: L, hd, hc, hl, hr =>
  rw [doU] at hd
  split at hd
  ·rename_i ex
   obtain ⟨m, a, b, c, d⟩ := h L r hd hc (by simpa [olds] using hl) (fun y hy => hr y (List.mem_cons_of_mem _ hy)) hp hq
   exact ⟨m, by rw [doU, if_pos ex]; exact a, b, c, d⟩
  ·simp at hd
theorem UNDO.ins {p q u : List U} {e : Bool} (h : UNDO p e q u) (t : ByteArray) : UNDO p e (.ins t :: q) (.ins t :: u) := by
 intro L r hd hc hl hr hp hq
 rw [doU] at hd
 obtain ⟨r', h', rfl⟩ := Option.map_eq_some_iff.mp hd
 obtain ⟨m, a, b, c, d⟩ := h L r' h' hc (by simpa [olds] using hl) hr hp hq
 exact ⟨m, a, by rw [doU, b]; rfl, c, d⟩
theorem UNDO.mid {p q p' q' u u' : List U} {x y : U} (h : UNDO p' (opM x y) q' u') (hx : HD p x p') (hy : HD q y q')
  (H : ∀ (L r : List ByteArray), doU u L = some r → clS (olds u) L → L.length = (olds u).length → (∀ z ∈ L, rightT z = true) → textS (news p) = true → textS (olds q) = true →
   ∃ (s : ByteArray) (L' r' : List ByteArray), doU u' L' = some r' ∧ clS (olds u') L' ∧ L'.length = (olds u').length ∧ (∀ z ∈ L', rightT z = true) ∧ rightT s = true ∧ (openT s = true → opM x y = true) ∧
    (∀ m, doU p' L' = some m → doU p L = some (s :: m)) ∧ (∀ m, doU q' m = some r' → doU q (s :: m) = some r)) : UNDO p false q u := by
 intro L r hd hc hl hr hp hq
 obtain ⟨s, L', r', a1, a2, a3, a4, a5, a6, a7, a8⟩ := H L r hd hc hl hr hp hq
 obtain ⟨m, b1, b2, b3, b4⟩ := h L' r' a1 a2 a3 a4 (hd_news hx hp) (hd_olds hy hq)
 refine ⟨s :: m, a7 m b1, a8 m b2, ?_, fun e => by simp at e⟩
 exact wholeL_mk a5 b3 fun o => b4 (a6 o)
end Go.Proofs.YtkiklmmpflndbaaDoor.P
