/- Own: lines with whose they are: what the other order keeps, and that it can be turned back. -/
import Derived.Test.YtfoponahdidddaaCa
import Derived.Test.YtfoponahdidddaaTa
import Derived.Test.YtfoponahdidddaaUb
namespace Go.Proofs.Ytfoponahdidddaa.P
open Go.RowKit Go.Proofs.YtfoponahdidddaaW.PrintWords Go.Proofs.YtfoponahdidddaaW.PrintLast Go.Proofs.YtfoponahdidddaaW.PrintMore
set_option linter.unusedSimpArgs false
set_option linter.unusedVariables false

/-- The next line of a row, behind its end it skips; and what is left. -/
def HD (p : List U) (x : U) (p' : List U) : Prop := p = x :: p' ∨ (p = [] ∧ x = .skip ∧ p' = [])
theorem HD.of (p : List U) : HD p (nxU p) p.tail := by
  cases p with
  | nil => exact .inr ⟨rfl, rfl, rfl⟩
  | cons x p => exact .inl rfl
/-- The walk through both, told as a relation. -/
inductive WT : List U → Bool → List U → List TU → Prop
  | nil (e : Bool) : WT [] e [] []
  | del (t : ByteArray) (p : List U) (e : Bool) (q : List U) (W : List TU) : WT p e q W → WT (.del t :: p) e q ((.del t, 1) :: W)
  | ins (t : ByteArray) (p : List U) (e : Bool) (q : List U) (W : List TU) : NoD p → WT p e q W → WT p e (.ins t :: q) ((.ins t, 2) :: W)
  | mid (p q p' q' : List U) (x y : U) (a : TU) (W : List TU) : HD p x p' → HD q y q' → (∀ t, x ≠ .del t) → (∀ t, y ≠ .ins t) → (p ≠ [] ∨ q ≠ []) → midT x y = some [a] → WT p' (opM x y) q' W → WT p false q (a :: W)
theorem midT_one {x y : U} {l : List TU} (h : midT x y = some l) : ∃ a, l = [a] := by
  cases x <;> cases y <;> simp only [midT] at h <;> first | (simp at h; done) | exact ⟨_, (Option.some.inj h).symm⟩ | (split at h <;> first | exact ⟨_, (Option.some.inj h).symm⟩ | (simp at h; done))
theorem nx_noD {p : List U} (h : NoD p) : ∀ t, nxU p ≠ .del t := by
  intro t e
  cases p with
  | nil => simp [nxU] at e
  | cons x p => rw [nxU_cons] at e; exact h t p (by rw [e])
theorem nx_noI {p : List U} (h : NoI p) : ∀ t, nxU p ≠ .ins t := by
  intro t e
  cases p with
  | nil => simp [nxU] at e
  | cons x p => rw [nxU_cons] at e; exact h t p (by rw [e])
theorem WT.of : ∀ p q, ∀ (e : Bool) (W : List TU), cmpT p e q = some W → WT p e q W := by
  refine walk_ind ?_ ?_ ?_ ?_
  · intro e W h
    rw [cmpT_nil] at h
    obtain rfl := Option.some.inj h
    exact .nil e
  · intro t p q ih e W h
    rw [cmpT_del] at h
    obtain ⟨W', h', rfl⟩ := Option.map_eq_some_iff.mp h
    exact .del t p e q W' (ih e W' h')
  · intro t p q hp ih e W h
    rw [cmpT_ins hp] at h
    obtain ⟨W', h', rfl⟩ := Option.map_eq_some_iff.mp h
    exact .ins t p e q W' hp (ih e W' h')
  · intro p q hp hq hne ih e W h
    rw [cmpT_mid hp hq hne] at h
    cases e with
    | true => simp at h
    | false =>
      simp only [Bool.false_eq_true, if_false] at h
      obtain ⟨l, h1, h2⟩ := Option.bind_eq_some_iff.mp h
      obtain ⟨a, rfl⟩ := midT_one h1
      obtain ⟨W', h', rfl⟩ := Option.map_eq_some_iff.mp h2
      exact .mid p q _ _ _ _ a W' (HD.of p) (HD.of q) (nx_noD hp) (nx_noI hq) hne h1 (ih _ W' h')
/-- None came by the first and went by the second. -/
def no3 (W : List TU) : Prop := ∀ x ∈ W, x.2 ≠ 3
theorem no3.tail {x : TU} {W : List TU} (h : no3 (x :: W)) : no3 W := fun y hy => h y (List.mem_cons_of_mem _ hy)
theorem no3.head {x : TU} {W : List TU} (h : no3 (x :: W)) : x.2 ≠ 3 := h x (List.mem_cons_self ..)
theorem un_no3 : ∀ {W : List TU}, no3 W → un W = allT W
  | [], _ => rfl
  | x :: W, h => by rw [un_cons h.head, un_no3 h.tail]; rfl
/-- Whose a line may be. -/
def ownT (x : TU) : Prop := match x.1 with
  | .skip => x.2 = 0
  | .keep _ => x.2 = 0
  | .del _ => x.2 = 1 ∨ x.2 = 2
  | .ins _ => x.2 = 1 ∨ x.2 = 2
def owns (W : List TU) : Prop := ∀ x ∈ W, ownT x
theorem owns.tail {x : TU} {W : List TU} (h : owns (x :: W)) : owns W := fun y hy => h y (List.mem_cons_of_mem _ hy)
theorem owns.head {x : TU} {W : List TU} (h : owns (x :: W)) : ownT x := h x (List.mem_cons_self ..)
theorem owns.cons {x : TU} {W : List TU} (h : ownT x) (hw : owns W) : owns (x :: W) := by
  intro y hy
  rcases List.mem_cons.mp hy with rfl | hy
  · exact h
  · exact hw y hy
theorem owns.ok {W : List TU} (h : owns W) : okT W := by
  intro x hx hc
  have := h x hx
  obtain ⟨u, b⟩ := x
  cases u <;> simp [isCh] at hc <;> exact this
/-- What a line of the middle is: eight ways. -/
theorem mid_ways {x y : U} {a : TU} (h : midT x y = some [a]) (h3 : a.2 ≠ 3) :
    (x = .skip ∧ y = .skip ∧ a = (.skip, 0)) ∨ (∃ t, y = .keep t ∧ (x = .skip ∨ x = .keep t) ∧ a = (.keep t, 0)) ∨ (∃ t, y = .skip ∧ x = .keep t ∧ a = (.keep t, 0)) ∨
    (∃ t, y = .del t ∧ (x = .skip ∨ x = .keep t) ∧ a = (.del t, 2)) ∨ (∃ t, x = .ins t ∧ (y = .skip ∨ y = .keep t) ∧ a = (.ins t, 1)) := by
  cases x <;> cases y <;> simp only [midT] at h <;> first | (simp at h; done) | skip
  · have := List.cons.inj (Option.some.inj h); exact .inl ⟨rfl, rfl, this.1.symm⟩
  · rename_i t; have := List.cons.inj (Option.some.inj h); exact .inr (.inl ⟨t, rfl, .inl rfl, this.1.symm⟩)
  · rename_i t; have := List.cons.inj (Option.some.inj h); exact .inr (.inr (.inr (.inl ⟨t, rfl, .inl rfl, this.1.symm⟩)))
  · rename_i t; have := List.cons.inj (Option.some.inj h); exact .inr (.inr (.inl ⟨t, rfl, rfl, this.1.symm⟩))
  · rename_i s t
    split at h
    · rename_i e; subst e; have := List.cons.inj (Option.some.inj h); exact .inr (.inl ⟨_, rfl, .inr rfl, this.1.symm⟩)
    · simp at h
  · rename_i s t
    split at h
    · rename_i e; subst e; have := List.cons.inj (Option.some.inj h); exact .inr (.inr (.inr (.inl ⟨_, rfl, .inr rfl, this.1.symm⟩)))
    · simp at h
  · rename_i t; have := List.cons.inj (Option.some.inj h); exact .inr (.inr (.inr (.inr ⟨t, rfl, .inl rfl, this.1.symm⟩)))
  · rename_i s t
    split at h
    · rename_i e; subst e; have := List.cons.inj (Option.some.inj h); exact .inr (.inr (.inr (.inr ⟨_, rfl, .inr rfl, this.1.symm⟩)))
    · simp at h
  · rename_i s t
    split at h
    · have := List.cons.inj (Option.some.inj h); rw [← this.1] at h3; exact absurd rfl h3
    · simp at h
theorem WT.owns {p : List U} {e : Bool} {q : List U} {W : List TU} (h : WT p e q W) (h3 : no3 W) : owns W := by
  induction h with
  | nil e => exact fun x hx => by simp at hx
  | del t p e q W _ ih => exact .cons (.inl rfl) (ih h3.tail)
  | ins t p e q W _ _ ih => exact .cons (.inr rfl) (ih h3.tail)
  | mid p q p' q' x y a W _ _ _ _ _ hm _ ih =>
    refine .cons ?_ (ih h3.tail)
    rcases mid_ways hm h3.head with ⟨_, _, rfl⟩ | ⟨t, _, _, rfl⟩ | ⟨t, _, _, rfl⟩ | ⟨t, _, _, rfl⟩ | ⟨t, _, _, rfl⟩
    · rfl
    · rfl
    · rfl
    · exact .inr rfl
    · exact .inl rfl
/-- Do changes of both stand one right behind the other? -/
def touchT : Int → List TU → Bool
  | _, [] => false
  | b, x :: w => (decide (x.2 ≠ 0) && (decide (b ≠ 0) && decide (x.2 ≠ b))) || touchT x.2 w
theorem touch_tail {b : Int} {x : TU} {W : List TU} (h : touchT b (x :: W) = false) : touchT x.2 W = false := by
  rw [touchT, Bool.or_eq_false_iff] at h; exact h.2
theorem touch_head {b : Int} {x : TU} {W : List TU} (h : touchT b (x :: W) = false) (h0 : x.2 ≠ 0) : b = 0 ∨ b = x.2 := by
  rw [touchT, Bool.or_eq_false_iff] at h
  have := h.1
  by_cases hb : b = 0
  · exact .inl hb
  · by_cases he : x.2 = b
    · exact .inr he.symm
    · simp [h0, hb, he] at this
/-- Whose the next change is. -/
theorem next_own {b c : Int} {x : U} {W : List TU} (ht : touchT b ((x, c) :: W) = false) (hc : c = 1 ∨ c = 2) : b = 0 ∨ b = c := touch_head ht (by show c ≠ 0; omega)
theorem touch_zero {b : Int} {W : List TU} (h : touchT b W = false) : touchT 0 W = false := by
  cases W with
  | nil => rfl
  | cons x W => rw [touchT, touch_tail h]; simp
/-- The changes alone, in order. -/
def chR (I : List U) : List U → List U
  | [] => I
  | .ins t :: u => chR (I ++ [.ins t]) u
  | .del t :: u => .del t :: chR I u
  | .keep _ :: u => I ++ chR [] u
  | .skip :: u => I ++ chR [] u
theorem filter_ins {I : List U} (h : AllIns I) : I.filter isCh = I := by
  rw [List.filter_eq_self]
  intro x hx
  obtain ⟨t, rfl⟩ := h x hx
  rfl
theorem chR_nf : ∀ (u I : List U), AllIns I → (nf I u).filter isCh = chR I u
  | [], I, h => by rw [nf, chR, filter_ins h]
  | .ins t :: u, I, h => by rw [nf, chR, chR_nf u _ (h.snoc t)]
  | .del t :: u, I, h => by rw [nf, chR, List.filter_cons_of_pos (by rfl), chR_nf u I h]
  | .keep t :: u, I, h => by rw [nf, chR, List.filter_append, List.filter_cons_of_neg (by simp [isCh]), chR_nf u [] .nil, filter_ins h]
  | .skip :: u, I, h => by rw [nf, chR, List.filter_append, List.filter_cons_of_neg (by simp [isCh]), chR_nf u [] .nil, filter_ins h]
theorem chR_hd {p p' : List U} {x : U} (h : HD p x p') (hx : x = .skip ∨ ∃ t, x = .keep t) (I : List U) : chR I p = I ++ chR [] p' := by
  rcases h with rfl | ⟨rfl, rfl, rfl⟩
  · rcases hx with rfl | ⟨t, rfl⟩ <;> rfl
  · simp [chR]
theorem HD.eq {p p' : List U} {x : U} (h : HD p x p') (hx : x ≠ .skip) : p = x :: p' := by
  rcases h with h | ⟨_, h, _⟩
  · exact h
  · exact absurd h hx
theorem fst_d1 (t : ByteArray) (W : List TU) : fstT ((.del t, 1) :: W) = .keep t :: fstT W := by simp [fstT]
theorem fst_d2 (t : ByteArray) (W : List TU) : fstT ((.del t, 2) :: W) = .del t :: fstT W := by simp [fstT]
theorem fst_i1 (t : ByteArray) (W : List TU) : fstT ((.ins t, 1) :: W) = fstT W := by simp [fstT]
theorem fst_i2 (t : ByteArray) (W : List TU) : fstT ((.ins t, 2) :: W) = .ins t :: fstT W := by simp [fstT]
theorem snd_d1 (t : ByteArray) (W : List TU) : sndT ((.del t, 1) :: W) = .del t :: sndT W := by simp [sndT]
theorem snd_d2 (t : ByteArray) (W : List TU) : sndT ((.del t, 2) :: W) = sndT W := by simp [sndT]
theorem snd_i1 (t : ByteArray) (W : List TU) : sndT ((.ins t, 1) :: W) = .ins t :: sndT W := by simp [sndT]
theorem snd_i2 (t : ByteArray) (W : List TU) : sndT ((.ins t, 2) :: W) = .keep t :: sndT W := by simp [sndT]
theorem chR_fst {p : List U} {e : Bool} {q : List U} {W : List TU} (h : WT p e q W) (h3 : no3 W) : ∀ (b : Int) (I : List U), touchT b W = false → (b ≠ 2 → I = []) → chR I (fstT W) = chR I q := by
  induction h with
  | nil e => intro b I _ _; rfl
  | del t p e q W _ ih =>
    intro b I ht hI
    have hb := next_own ht (.inl rfl)
    obtain rfl : I = [] := hI (by rcases hb with rfl | rfl <;> decide)
    rw [fst_d1, chR, List.nil_append]
    exact ih h3.tail 1 [] (touch_tail ht) (fun _ => rfl)
  | ins t p e q W _ _ ih =>
    intro b I ht hI
    rw [fst_i2, chR, chR]
    exact ih h3.tail 2 _ (touch_tail ht) (fun h => absurd rfl h)
  | mid p q p' q' x y a W hp hq _ _ _ hm _ ih =>
    intro b I ht hI
    rcases mid_ways hm h3.head with ⟨rfl, rfl, rfl⟩ | ⟨t, rfl, _, rfl⟩ | ⟨t, rfl, _, rfl⟩ | ⟨t, rfl, _, rfl⟩ | ⟨t, rfl, hy, rfl⟩
    · rw [chR_hd hq (.inl rfl) I, fstT, chR, ih h3.tail 0 [] (touch_tail ht) (fun _ => rfl)]
    · rw [chR_hd hq (.inr ⟨t, rfl⟩) I, fstT, chR, ih h3.tail 0 [] (touch_tail ht) (fun _ => rfl)]
    · rw [chR_hd hq (.inl rfl) I, fstT, chR, ih h3.tail 0 [] (touch_tail ht) (fun _ => rfl)]
    · rw [hq.eq (by simp), fst_d2, chR, chR, ih h3.tail 2 I (touch_tail ht) (fun h => absurd rfl h)]
    · have hb := next_own ht (.inl rfl)
      obtain rfl : I = [] := hI (by rcases hb with rfl | rfl <;> decide)
      rw [fst_i1, ih h3.tail 1 [] (touch_tail ht) (fun _ => rfl), chR_hd hq (by rcases hy with rfl | rfl; exact .inl rfl; exact .inr ⟨_, rfl⟩) []]
      rfl
theorem chR_snd {p : List U} {e : Bool} {q : List U} {W : List TU} (h : WT p e q W) (h3 : no3 W) : ∀ (b : Int) (I : List U), touchT b W = false → (b ≠ 1 → I = []) → chR I (sndT W) = chR I p := by
  induction h with
  | nil e => intro b I _ _; rfl
  | del t p e q W _ ih =>
    intro b I ht hI
    rw [snd_d1, chR, chR, ih h3.tail 1 I (touch_tail ht) (fun h => absurd rfl h)]
  | ins t p e q W _ _ ih =>
    intro b I ht hI
    have hb := next_own ht (.inr rfl)
    obtain rfl : I = [] := hI (by rcases hb with rfl | rfl <;> decide)
    rw [snd_i2, chR, List.nil_append]
    exact ih h3.tail 2 [] (touch_tail ht) (fun _ => rfl)
  | mid p q p' q' x y a W hp hq _ _ _ hm _ ih =>
    intro b I ht hI
    rcases mid_ways hm h3.head with ⟨rfl, rfl, rfl⟩ | ⟨t, rfl, hx, rfl⟩ | ⟨t, rfl, rfl, rfl⟩ | ⟨t, rfl, hx, rfl⟩ | ⟨t, rfl, hy, rfl⟩
    · rw [chR_hd hp (.inl rfl) I, sndT, chR, ih h3.tail 0 [] (touch_tail ht) (fun _ => rfl)]
    · rw [chR_hd hp (by rcases hx with rfl | rfl; exact .inl rfl; exact .inr ⟨_, rfl⟩) I, sndT, chR, ih h3.tail 0 [] (touch_tail ht) (fun _ => rfl)]
    · rw [chR_hd hp (.inr ⟨t, rfl⟩) I, sndT, chR, ih h3.tail 0 [] (touch_tail ht) (fun _ => rfl)]
    · have hb := next_own ht (.inr rfl)
      obtain rfl : I = [] := hI (by rcases hb with rfl | rfl <;> decide)
      rw [snd_d2, ih h3.tail 2 [] (touch_tail ht) (fun _ => rfl), chR_hd hp (by rcases hx with rfl | rfl; exact .inl rfl; exact .inr ⟨_, rfl⟩) []]
      rfl
    · rw [hp.eq (by simp), snd_i1, chR, chR]
      exact ih h3.tail 1 _ (touch_tail ht) (fun h => absurd rfl h)
/-! The way back. -/
def sw (x : TU) : TU := (x.1, if x.2 = 1 then 2 else if x.2 = 2 then 1 else x.2)
/-- Lines in order, each with whose it is. -/
def nfT (I : List TU) : List TU → List TU
  | [] => I
  | (.ins t, b) :: w => nfT (I ++ [(.ins t, b)]) w
  | (.del t, b) :: w => (.del t, b) :: nfT I w
  | (.keep t, b) :: w => I ++ (.keep t, b) :: nfT [] w
  | (.skip, b) :: w => I ++ (.skip, b) :: nfT [] w
theorem fst_app : ∀ a b : List TU, fstT (a ++ b) = fstT a ++ fstT b
  | [], _ => rfl
  | (x, c) :: a, b => by
    have i := fst_app a b
    cases x with
    | skip => simp only [List.cons_append, fstT, i]
    | keep t => simp only [List.cons_append, fstT, i]
    | del t => simp only [List.cons_append, fstT, i]; split <;> rfl
    | ins t => simp only [List.cons_append, fstT, i]; split <;> rfl
theorem snd_app : ∀ a b : List TU, sndT (a ++ b) = sndT a ++ sndT b
  | [], _ => rfl
  | (x, c) :: a, b => by
    have i := snd_app a b
    cases x with
    | skip => simp only [List.cons_append, sndT, i]
    | keep t => simp only [List.cons_append, sndT, i]
    | del t => simp only [List.cons_append, sndT, i]; split <;> rfl
    | ins t => simp only [List.cons_append, sndT, i]; split <;> rfl
/-- What waits is one's alone. -/
def pend (b : Int) (I : List TU) : Prop := ∀ x ∈ I, (∃ t, x = (.ins t, b)) ∧ (b = 1 ∨ b = 2)
theorem pend.nil (b : Int) : pend b [] := fun x hx => by simp at hx
theorem pend.tail {b : Int} {x : TU} {I : List TU} (h : pend b (x :: I)) : pend b I := fun y hy => h y (List.mem_cons_of_mem _ hy)
theorem pend.snoc {b c : Int} {I : List TU} (h : pend b I) (hb : b = 0 ∨ b = c) (hc : c = 1 ∨ c = 2) (t : ByteArray) : pend c (I ++ [(.ins t, c)]) := by
  intro x hx
  rcases List.mem_append.mp hx with hx | hx
  · obtain ⟨⟨s, rfl⟩, h0⟩ := h x hx
    rcases hb with hb | hb
    · omega
    · exact ⟨⟨s, by rw [hb]⟩, hc⟩
  · exact ⟨⟨t, List.mem_singleton.mp hx⟩, hc⟩
theorem pend.same {b c : Int} {I : List TU} (h : pend b I) (hb : b = 0 ∨ b = c) : pend c I := by
  intro x hx
  obtain ⟨⟨s, rfl⟩, h0⟩ := h x hx
  rcases hb with hb | hb
  · omega
  · subst hb; exact ⟨⟨s, rfl⟩, h0⟩
theorem pend_fst1 : ∀ {I : List TU}, pend 1 I → fstT I = []
  | [], _ => rfl
  | x :: I, h => by
    obtain ⟨⟨t, rfl⟩, _⟩ := h x (List.mem_cons_self ..)
    rw [fst_i1]
    exact pend_fst1 fun y hy => h y (List.mem_cons_of_mem _ hy)
theorem pend_snd2 : ∀ {I : List TU}, pend 2 I → ∃ k : List U, sndT I = k ∧ (∀ x ∈ k, ∃ t, x = .keep t)
  | [], _ => ⟨[], rfl, fun x hx => by simp at hx⟩
  | x :: I, h => by
    obtain ⟨⟨t, rfl⟩, _⟩ := h x (List.mem_cons_self ..)
    obtain ⟨k, e, hk⟩ := pend_snd2 (I := I) h.tail
    refine ⟨.keep t :: k, by rw [snd_i2, e], fun y hy => ?_⟩
    rcases List.mem_cons.mp hy with rfl | hy
    · exact ⟨t, rfl⟩
    · exact hk y hy
theorem fst_nfT : ∀ (W I : List TU) (b : Int), owns W → touchT b W = false → pend b I → fstT (nfT I W) = nf (fstT I) (fstT W)
  | [], I, b, _, _, _ => rfl
  | (.ins t, c) :: W, I, b, ho, ht, hI => by
    have h12 : c = 1 ∨ c = 2 := ho.head
    have hc := next_own ht h12
    rw [nfT, fst_nfT W _ c ho.tail (touch_tail ht) (hI.snoc hc h12 t), fst_app]
    rcases h12 with h | h
    · subst h
      rw [fst_i1, fst_i1]; simp [fstT]
    · subst h
      rw [fst_i2, fst_i2, nf]; rfl
  | (.del t, c) :: W, I, b, ho, ht, hI => by
    have h12 : c = 1 ∨ c = 2 := ho.head
    have hc := next_own ht h12
    have i := fst_nfT W I c ho.tail (touch_tail ht) (hI.same hc)
    rcases h12 with h | h
    · subst h
      have e := pend_fst1 (hI.same hc)
      rw [e] at i ⊢
      rw [nfT, fst_d1, fst_d1, i, nf, List.nil_append]
    · subst h
      rw [nfT, fst_d2, fst_d2, i, nf]
  | (.keep t, c) :: W, I, b, ho, ht, hI => by
    have h : c = 0 := ho.head
    subst h
    rw [nfT, fst_app, fstT, fstT, nf, fst_nfT W [] 0 ho.tail (touch_tail ht) (.nil 0)]; rfl
  | (.skip, c) :: W, I, b, ho, ht, hI => by
    have h : c = 0 := ho.head
    subst h
    rw [nfT, fst_app, fstT, fstT, nf, fst_nfT W [] 0 ho.tail (touch_tail ht) (.nil 0)]; rfl
theorem touch_pend {b : Int} {R : List TU} : ∀ (I : List TU) (b0 : Int), pend b I → (b0 = 0 ∨ b0 = b) → (∀ c, (c = b0 ∨ c = b) → touchT c R = false) → touchT b0 (I ++ R) = false
  | [], b0, _, _, h => h b0 (.inl rfl)
  | x :: I, b0, hI, hb, h => by
    obtain ⟨⟨t, rfl⟩, h0⟩ := hI x (List.mem_cons_self ..)
    have i := touch_pend I b hI.tail (.inr rfl) (fun c hc => h c (.inr (by rcases hc with h | h <;> exact h)))
    rw [List.cons_append, touchT]
    show (_ || touchT b (I ++ R)) = false
    rw [i]
    rcases hb with rfl | rfl <;> simp
theorem owns_pend {b : Int} {I : List TU} (h : pend b I) : owns I := by
  intro x hx
  obtain ⟨⟨t, rfl⟩, h0⟩ := h x hx
  exact h0
theorem owns.app {a b : List TU} (ha : owns a) (hb : owns b) : owns (a ++ b) := fun y hy => by
  rcases List.mem_append.mp hy with h | h
  · exact ha y h
  · exact hb y h
theorem touch_nfT : ∀ (W I : List TU) (b b0 : Int), owns W → touchT b W = false → pend b I → (b0 = 0 ∨ b0 = b) → touchT b0 (nfT I W) = false ∧ owns (nfT I W)
  | [], I, b, b0, _, _, hI, hb => by
    refine ⟨?_, owns_pend hI⟩
    have := touch_pend (R := []) I b0 hI hb (fun c _ => rfl)
    rwa [List.append_nil] at this
  | (.ins t, c) :: W, I, b, b0, ho, ht, hI, hb => by
    have h12 : c = 1 ∨ c = 2 := ho.head
    have hc := next_own ht h12
    rw [nfT]
    exact touch_nfT W _ c b0 ho.tail (touch_tail ht) (hI.snoc hc h12 t) (by omega)
  | (.del t, c) :: W, I, b, b0, ho, ht, hI, hb => by
    have h12 : c = 1 ∨ c = 2 := ho.head
    have hc := next_own ht h12
    obtain ⟨i1, i2⟩ := touch_nfT W I c c ho.tail (touch_tail ht) (hI.same hc) (.inr rfl)
    rw [nfT]
    refine ⟨?_, .cons h12 i2⟩
    rw [touchT]
    show (_ || touchT c (nfT I W)) = false
    rw [i1]
    have : b0 = 0 ∨ c = b0 := by omega
    rcases this with rfl | rfl <;> simp
  | (.keep t, c) :: W, I, b, b0, ho, ht, hI, hb => by
    have h : c = 0 := ho.head
    subst h
    obtain ⟨i1, i2⟩ := touch_nfT W [] 0 0 ho.tail (touch_tail ht) (.nil 0) (.inl rfl)
    rw [nfT]
    refine ⟨touch_pend I b0 hI hb fun c _ => ?_, (owns_pend hI).app (.cons rfl i2)⟩
    rw [touchT]
    show (_ || touchT 0 (nfT [] W)) = false
    rw [i1]; simp
  | (.skip, c) :: W, I, b, b0, ho, ht, hI, hb => by
    have h : c = 0 := ho.head
    subst h
    obtain ⟨i1, i2⟩ := touch_nfT W [] 0 0 ho.tail (touch_tail ht) (.nil 0) (.inl rfl)
    rw [nfT]
    refine ⟨touch_pend I b0 hI hb fun c _ => ?_, (owns_pend hI).app (.cons rfl i2)⟩
    rw [touchT]
    show (_ || touchT 0 (nfT [] W)) = false
    rw [i1]; simp
/-! Who is first, and who is second, changed. -/
def swT (W : List TU) : List TU := W.map sw
theorem swT_cons (x : TU) (W : List TU) : swT (x :: W) = sw x :: swT W := rfl
theorem sw1 (u : U) : sw (u, 1) = (u, 2) := by simp [sw]
theorem sw2 (u : U) : sw (u, 2) = (u, 1) := by simp [sw]
theorem sw0 (u : U) : sw (u, 0) = (u, 0) := by simp [sw]
theorem all_sw : ∀ W : List TU, allT (swT W) = allT W
  | [] => rfl
  | x :: W => by
    have := all_sw W
    unfold allT at this ⊢
    rw [swT_cons, List.map_cons, List.map_cons, this]; rfl
theorem sw_app (a b : List TU) : swT (a ++ b) = swT a ++ swT b := by simp [swT]
theorem nfT_sw : ∀ (W I : List TU), swT (nfT I W) = nfT (swT I) (swT W)
  | [], I => rfl
  | (.ins t, c) :: W, I => by rw [nfT, nfT_sw W, sw_app, swT_cons]; rfl
  | (.del t, c) :: W, I => by rw [nfT, swT_cons, nfT_sw W, swT_cons]; rfl
  | (.keep t, c) :: W, I => by rw [nfT, sw_app, swT_cons, nfT_sw W, swT_cons]; rfl
  | (.skip, c) :: W, I => by rw [nfT, sw_app, swT_cons, nfT_sw W, swT_cons]; rfl
theorem owns.sw {W : List TU} (h : owns W) : owns (swT W) := by
  intro x hx
  obtain ⟨y, hy, rfl⟩ := List.mem_map.mp hx
  have := h y hy
  obtain ⟨u, b⟩ := y
  cases u with
  | skip => have h : b = 0 := this; subst h; rfl
  | keep t => have h : b = 0 := this; subst h; rfl
  | del t => rcases this with h | h <;> (have h : b = _ := h; subst h; simp [P.sw, ownT])
  | ins t => rcases this with h | h <;> (have h : b = _ := h; subst h; simp [P.sw, ownT])
def sb (b : Int) : Int := if b = 1 then 2 else if b = 2 then 1 else b
theorem touch_sw : ∀ (W : List TU) (b : Int), owns W → (b = 0 ∨ b = 1 ∨ b = 2) → touchT (sb b) (swT W) = touchT b W
  | [], b, _, _ => rfl
  | (u, c) :: W, b, ho, hb => by
    have hc : c = 0 ∨ c = 1 ∨ c = 2 := by
      have := ho.head
      cases u with
      | skip => exact .inl this
      | keep t => exact .inl this
      | del t => exact .inr this
      | ins t => exact .inr this
    have i := touch_sw W c ho.tail hc
    rw [swT_cons, touchT, touchT, ← i]
    rcases hb with rfl | rfl | rfl <;> rcases hc with rfl | rfl | rfl <;> rfl
theorem touch_sw0 {W : List TU} (ho : owns W) (h : touchT 0 W = false) : touchT 0 (swT W) = false := by
  have := touch_sw W 0 ho (.inl rfl)
  rw [h] at this
  exact this
/-- Ahead and behind change places with whose the lines are: what is left of one's part on the other side. -/
theorem noD_fst : ∀ (W : List TU), owns W → touchT 1 W = false → NoD (fstT W)
  | [], _, _ => fun t r h => by simp [fstT] at h
  | (.ins t, c) :: W, ho, ht => by
    have h12 : c = 1 ∨ c = 2 := ho.head
    have hc := next_own ht h12
    obtain rfl : c = 1 := by omega
    rw [fst_i1]
    exact noD_fst W ho.tail (touch_tail ht)
  | (.del t, c) :: W, ho, ht => by
    have h12 : c = 1 ∨ c = 2 := ho.head
    have hc := next_own ht h12
    obtain rfl : c = 1 := by omega
    rw [fst_d1]
    exact fun s r h => by simp at h
  | (.keep t, c) :: W, _, _ => fun s r h => by simp [fstT] at h
  | (.skip, c) :: W, _, _ => fun s r h => by simp [fstT] at h
theorem noI_snd : ∀ (W : List TU), owns W → touchT 2 W = false → NoI (sndT W)
  | [], _, _ => fun t r h => by simp [sndT] at h
  | (.del t, c) :: W, ho, ht => by
    have h12 : c = 1 ∨ c = 2 := ho.head
    have hc := next_own ht h12
    obtain rfl : c = 2 := by omega
    rw [snd_d2]
    exact noI_snd W ho.tail (touch_tail ht)
  | (.ins t, c) :: W, ho, ht => by
    have h12 : c = 1 ∨ c = 2 := ho.head
    have hc := next_own ht h12
    obtain rfl : c = 2 := by omega
    rw [snd_i2]
    exact fun s r h => by simp at h
  | (.keep t, c) :: W, _, _ => fun s r h => by simp [sndT] at h
  | (.skip, c) :: W, _, _ => fun s r h => by simp [sndT] at h
theorem midk {p q : List U} {x y : U} {a : TU} {e : Bool} {W : List TU} (hx : ∀ t, x ≠ .del t) (hy : ∀ t, y ≠ .ins t) (he : e = false) (hm : midT x y = some [a]) (h : cmpT p (opM x y) q = some W) : cmpT (x :: p) e (y :: q) = some (a :: W) := by
  rw [cmpT_mid (fun t r h => hx t (List.cons.inj h).1) (fun t r h => hy t (List.cons.inj h).1) (.inl (by simp)) e, he, if_neg (by simp)]
  rw [show nxU (x :: p) = x from rfl, show nxU (y :: q) = y from rfl, hm]
  show (cmpT p (opM x y) q).map ([a] ++ ·) = _
  rw [h]; rfl
theorem cmp_sw : ∀ (W : List TU) (e : Bool) (b : Int), owns W → touchT b W = false → closedS e (news (fstT W)) = true → cmpT (fstT W) e (sndT W) = some (swT W)
  | [], e, b, _, _, _ => rfl
  | (.skip, c) :: W, e, b, ho, ht, hc => by
    have h : c = 0 := ho.head
    subst h
    rw [fstT, news] at hc
    obtain ⟨e0, hc⟩ := closedS_cons hc
    rw [fstT, sndT]
    exact midk (by simp) (by simp) e0 rfl (cmp_sw W _ 0 ho.tail (touch_tail ht) hc)
  | (.keep t, c) :: W, e, b, ho, ht, hc => by
    have h : c = 0 := ho.head
    subst h
    rw [fstT, news] at hc
    obtain ⟨e0, hc⟩ := closedS_cons hc
    rw [fstT, sndT]
    refine midk (by simp) (by simp) e0 (by simp [midT, swT_cons, sw0]) (cmp_sw W _ 0 ho.tail (touch_tail ht) ?_)
    simpa [opM, opnX, txU] using hc
  | (.del t, c) :: W, e, b, ho, ht, hc => by
    have h12 : c = 1 ∨ c = 2 := ho.head
    rcases h12 with h | h
    · subst h
      rw [fst_d1, news] at hc
      obtain ⟨e0, hc⟩ := closedS_cons hc
      rw [fst_d1, snd_d1, swT_cons, sw1]
      refine midk (by simp) (by simp) e0 (by simp [midT]) (cmp_sw W _ 1 ho.tail (touch_tail ht) ?_)
      simpa [opM, opnX, txU] using hc
    · subst h
      rw [fst_d2, news] at hc
      rw [fst_d2, snd_d2, swT_cons, sw2, cmpT_del, cmp_sw W e 2 ho.tail (touch_tail ht) hc]; rfl
  | (.ins t, c) :: W, e, b, ho, ht, hc => by
    have h12 : c = 1 ∨ c = 2 := ho.head
    rcases h12 with h | h
    · subst h
      rw [fst_i1] at hc
      rw [fst_i1, snd_i1, swT_cons, sw1, cmpT_ins (noD_fst W ho.tail (touch_tail ht)), cmp_sw W e 1 ho.tail (touch_tail ht) hc]; rfl
    · subst h
      rw [fst_i2, news] at hc
      obtain ⟨e0, hc⟩ := closedS_cons hc
      rw [fst_i2, snd_i2, swT_cons, sw2]
      refine midk (by simp) (by simp) e0 (by simp [midT]) (cmp_sw W _ 2 ho.tail (touch_tail ht) ?_)
      simpa [opM, opnX, txU] using hc
/-! What is known of lines that stay, left out. -/
def blk1 : U → U
  | .keep _ => .skip
  | x => x
def blkU (u : List U) : List U := u.map blk1
theorem blk_app (a b : List U) : blkU (a ++ b) = blkU a ++ blkU b := by simp [blkU]
theorem blk_cons (x : U) (u : List U) : blkU (x :: u) = blk1 x :: blkU u := rfl
theorem nf_blk : ∀ (u I : List U), blkU (nf I u) = nf (blkU I) (blkU u)
  | [], I => rfl
  | .ins t :: u, I => by rw [nf, nf_blk u, blk_app]; rfl
  | .del t :: u, I => by rw [nf, blk_cons, nf_blk u, blk_cons]; rfl
  | .keep t :: u, I => by rw [nf, blk_app, blk_cons, nf_blk u, blk_cons]; rfl
  | .skip :: u, I => by rw [nf, blk_app, blk_cons, nf_blk u, blk_cons]; rfl
theorem nf_tail : ∀ (u I : List U) (n : Nat), nf I (u ++ List.replicate n .skip) = nf I u ++ List.replicate n .skip
  | [], I, 0 => by simp [nf]
  | [], I, n + 1 => by
    have e : nf [] (List.replicate n U.skip) = List.replicate n .skip := by
      have := nf_tail [] [] n
      simpa [nf] using this
    show nf I (.skip :: List.replicate n .skip) = I ++ .skip :: List.replicate n .skip
    rw [nf, e]
  | .ins t :: u, I, n => by rw [List.cons_append, nf, nf_tail u, nf]
  | .del t :: u, I, n => by rw [List.cons_append, nf, nf_tail u, nf]; rfl
  | .keep t :: u, I, n => by rw [List.cons_append, nf, nf_tail u, nf]; simp
  | .skip :: u, I, n => by rw [List.cons_append, nf, nf_tail u, nf]; simp
theorem skip_more {n : Nat} {a : List U} (h : a = List.replicate n .skip) : .skip :: a = List.replicate (n + 1) .skip := by rw [h]; rfl
theorem blk_fst {p : List U} {e : Bool} {q : List U} {W : List TU} (h : WT p e q W) (h3 : no3 W) : ∃ n, blkU (fstT (swT W)) = blkU p ++ List.replicate n .skip := by
  induction h with
  | nil e => exact ⟨0, rfl⟩
  | del t p e q W _ ih =>
    obtain ⟨n, i⟩ := ih h3.tail
    exact ⟨n, by rw [swT_cons, sw1, fst_d2, blk_cons, blk_cons, i]; rfl⟩
  | ins t p e q W _ _ ih =>
    obtain ⟨n, i⟩ := ih h3.tail
    exact ⟨n, by rw [swT_cons, sw2, fst_i1, i]⟩
  | mid p q p' q' x y a W hp hq _ _ _ hm _ ih =>
    obtain ⟨n, i⟩ := ih h3.tail
    have key : ∀ u, blk1 u = .skip → (x = .skip ∨ ∃ t, x = .keep t) → fstT (swT (a :: W)) = u :: fstT (swT W) → ∃ n, blkU (fstT (swT (a :: W))) = blkU p ++ List.replicate n .skip := by
      intro u hu hx he
      rw [he, blk_cons, hu, i]
      rcases hp with rfl | ⟨rfl, _, rfl⟩
      · refine ⟨n, ?_⟩
        rw [blk_cons]
        rcases hx with rfl | ⟨t, rfl⟩ <;> rfl
      · exact ⟨n + 1, rfl⟩
    rcases mid_ways hm h3.head with ⟨rfl, rfl, rfl⟩ | ⟨t, rfl, hx, rfl⟩ | ⟨t, rfl, rfl, rfl⟩ | ⟨t, rfl, hx, rfl⟩ | ⟨t, rfl, hy, rfl⟩
    · exact key .skip rfl (.inl rfl) (by rw [swT_cons, sw0, fstT])
    · exact key (.keep t) rfl (by rcases hx with h | h; exact .inl h; exact .inr ⟨t, h⟩) (by rw [swT_cons, sw0, fstT])
    · exact key (.keep t) rfl (.inr ⟨t, rfl⟩) (by rw [swT_cons, sw0, fstT])
    · exact key (.keep t) rfl (by rcases hx with h | h; exact .inl h; exact .inr ⟨t, h⟩) (by rw [swT_cons, sw2, fst_d1])
    · refine ⟨n, ?_⟩
      rw [hp.eq (by simp), swT_cons, sw1, fst_i2, blk_cons, blk_cons, i]; rfl
theorem blk_snd {p : List U} {e : Bool} {q : List U} {W : List TU} (h : WT p e q W) (h3 : no3 W) : ∃ n, blkU (sndT (swT W)) = blkU q ++ List.replicate n .skip := by
  induction h with
  | nil e => exact ⟨0, rfl⟩
  | del t p e q W _ ih =>
    obtain ⟨n, i⟩ := ih h3.tail
    exact ⟨n, by rw [swT_cons, sw1, snd_d2, i]⟩
  | ins t p e q W _ _ ih =>
    obtain ⟨n, i⟩ := ih h3.tail
    exact ⟨n, by rw [swT_cons, sw2, snd_i1, blk_cons, blk_cons, i]; rfl⟩
  | mid p q p' q' x y a W hp hq _ _ _ hm _ ih =>
    obtain ⟨n, i⟩ := ih h3.tail
    have key : ∀ u, blk1 u = .skip → (y = .skip ∨ ∃ t, y = .keep t) → sndT (swT (a :: W)) = u :: sndT (swT W) → ∃ n, blkU (sndT (swT (a :: W))) = blkU q ++ List.replicate n .skip := by
      intro u hu hx he
      rw [he, blk_cons, hu, i]
      rcases hq with rfl | ⟨rfl, _, rfl⟩
      · refine ⟨n, ?_⟩
        rw [blk_cons]
        rcases hx with rfl | ⟨t, rfl⟩ <;> rfl
      · exact ⟨n + 1, rfl⟩
    rcases mid_ways hm h3.head with ⟨rfl, rfl, rfl⟩ | ⟨t, rfl, hx, rfl⟩ | ⟨t, rfl, rfl, rfl⟩ | ⟨t, rfl, hx, rfl⟩ | ⟨t, rfl, hy, rfl⟩
    · exact key .skip rfl (.inl rfl) (by rw [swT_cons, sw0, sndT])
    · exact key (.keep t) rfl (.inr ⟨t, rfl⟩) (by rw [swT_cons, sw0, sndT])
    · exact key (.keep t) rfl (.inl rfl) (by rw [swT_cons, sw0, sndT])
    · refine ⟨n, ?_⟩
      rw [hq.eq (by simp), swT_cons, sw2, snd_d1, blk_cons, blk_cons, i]; rfl
    · exact key (.keep t) rfl (by rcases hy with h | h; exact .inl h; exact .inr ⟨t, h⟩) (by rw [swT_cons, sw1, snd_i2])
/-! The middle, as both know it. -/
theorem mid_sw {p : List U} {e : Bool} {q : List U} {W : List TU} (h : WT p e q W) (h3 : no3 W) (hp : textS (news p) = true) (hq : textS (olds q) = true) :
    closedS e (news (fstT (swT W))) = true ∧ textS (news (fstT (swT W))) = true ∧ (news (fstT (swT W))).length ≤ max (news p).length (olds q).length := by
  induction h with
  | nil e => exact ⟨by cases e <;> rfl, rfl, Nat.zero_le _⟩
  | del t p e q W _ ih =>
    rw [swT_cons, sw1, fst_d2]
    exact ih h3.tail hp hq
  | ins t p e q W _ _ ih =>
    rw [swT_cons, sw2, fst_i1]
    exact ih h3.tail hp hq
  | mid p q p' q' x y a W hp1 hq1 hx hy hne hm _ ih =>
    have np : textS (news p') = true ∧ (p ≠ [] → (news p).length = (news p').length + 1) ∧ (p = [] → (news p').length = 0) ∧ (∀ t, x = .keep t ∨ x = .ins t → rightT t = true) := by
      rcases hp1 with rfl | ⟨rfl, rfl, rfl⟩
      · cases x with
        | skip => exact ⟨textS_none1 hp, fun _ => rfl, fun h => by simp at h, fun t h => by simp at h⟩
        | keep t => exact ⟨(textS_cons hp).2, fun _ => rfl, fun h => by simp at h, fun s h => by rcases h with h | h <;> simp at h; subst h; exact (textS_cons hp).1⟩
        | ins t => exact ⟨(textS_cons hp).2, fun _ => rfl, fun h => by simp at h, fun s h => by rcases h with h | h <;> simp at h; subst h; exact (textS_cons hp).1⟩
        | del t => exact absurd rfl (hx t)
      · exact ⟨rfl, fun h => absurd rfl h, fun _ => rfl, fun t h => by simp at h⟩
    have nq : textS (olds q') = true ∧ (q ≠ [] → (olds q).length = (olds q').length + 1) ∧ (q = [] → (olds q').length = 0) ∧ (∀ t, y = .keep t ∨ y = .del t → rightT t = true) := by
      rcases hq1 with rfl | ⟨rfl, rfl, rfl⟩
      · cases y with
        | skip => exact ⟨textS_none1 hq, fun _ => rfl, fun h => by simp at h, fun t h => by simp at h⟩
        | keep t => exact ⟨(textS_cons hq).2, fun _ => rfl, fun h => by simp at h, fun s h => by rcases h with h | h <;> simp at h; subst h; exact (textS_cons hq).1⟩
        | del t => exact ⟨(textS_cons hq).2, fun _ => rfl, fun h => by simp at h, fun s h => by rcases h with h | h <;> simp at h; subst h; exact (textS_cons hq).1⟩
        | ins t => exact absurd rfl (hy t)
      · exact ⟨rfl, fun h => absurd rfl h, fun _ => rfl, fun t h => by simp at h⟩
    obtain ⟨i1, i2, i3⟩ := ih h3.tail np.1 nq.1
    have len : (news (fstT (swT W))).length + 1 ≤ max (news p).length (olds q).length := by
      by_cases hp0 : p = []
      · have a1 := np.2.2.1 hp0
        have hq0 : q ≠ [] := hne.resolve_left (fun h => h hp0)
        have a2 := nq.2.1 hq0
        omega
      · have a1 := np.2.1 hp0
        by_cases hq0 : q = []
        · have a2 := nq.2.2.1 hq0
          omega
        · have a2 := nq.2.1 hq0
          omega
    have key : ∀ t, rightT t = true → opM x y = openT t → news (fstT (swT (a :: W))) = some t :: news (fstT (swT W)) → closedS false (news (fstT (swT (a :: W)))) = true ∧ textS (news (fstT (swT (a :: W)))) = true ∧ (news (fstT (swT (a :: W)))).length ≤ max (news p).length (olds q).length := by
      intro t hr ho he
      rw [he]
      refine ⟨by rw [closedS, ← ho]; exact i1, ?_, len⟩
      show (rightT t && textS (news (fstT (swT W)))) = true
      rw [hr, i2]; rfl
    rcases mid_ways hm h3.head with ⟨rfl, rfl, rfl⟩ | ⟨t, rfl, hx', rfl⟩ | ⟨t, rfl, rfl, rfl⟩ | ⟨t, rfl, hx', rfl⟩ | ⟨t, rfl, hy', rfl⟩
    · rw [swT_cons, sw0, fstT, news]
      exact ⟨i1, i2, len⟩
    · exact key t (nq.2.2.2 t (.inl rfl)) (by rcases hx' with rfl | rfl <;> simp [opM, opnX, txU]) (by rw [swT_cons, sw0, fstT, news])
    · exact key t (np.2.2.2 t (.inl rfl)) (by simp [opM, opnX, txU]) (by rw [swT_cons, sw0, fstT, news])
    · exact key t (nq.2.2.2 t (.inr rfl)) (by rcases hx' with rfl | rfl <;> simp [opM, opnX, txU]) (by rw [swT_cons, sw2, fst_d1, news])
    · exact key t (np.2.2.2 t (.inr rfl)) (by rcases hy' with rfl | rfl <;> simp [opM, opnX, txU]) (by rw [swT_cons, sw1, fst_i2, news])
end Go.Proofs.Ytfoponahdidddaa.P
