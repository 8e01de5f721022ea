/- Own: both, one behind the other, told by the program and by the reference. -/
import Derived.Test.YtkiklmmpflndbaaEa
import Derived.Test.YtkiklmmpflndbaaCd
import Derived.Test.YtkiklmmpflndbaaMe
import Derived.Test.YtkiklmmpflndbaaFa8
namespace Go.Proofs.Ytkiklmmpflndbaa.P
open Go.RowKit Go.Proofs.YtkiklmmpflndbaaW.PrintWords Go.Proofs.YtkiklmmpflndbaaW.PrintLast Go.Proofs.YtkiklmmpflndbaaW.PrintMore
set_option linter.unusedSimpArgs false
set_option linter.unusedVariables false

/-- Few steps, not too long. -/
def Sx (l : List Op) : Prop := l.length ≤ 274877906944 ∧ ∀ o ∈ l, o.f2.size < 1073741824
theorem Sx.sm {l : List Op} (h : Sx l) : Sm l := ⟨by have := h.1; omega, fun o ho => by have := h.2 o ho; omega⟩
theorem Sx.of_few {l : List Op} (h : fewN l ≤ 600) : Sx l := by
  refine ⟨by have := fewN_len l; omega, fun o ho => ?_⟩
  have : ∀ l : List Op, o ∈ l → 1 + o.f2.size ≤ fewN l := by
    intro l
    induction l with
    | nil => intro h; simp at h
    | cons x l ih =>
      intro h
      have e : fewN (x :: l) = (1 + x.f2.size) + fewN l := by simp [fewN]
      rcases List.mem_cons.mp h with rfl | h
      · omega
      · have := ih h; omega
  have := this l ho
  omega
/-- The steps that are told. -/
def stepsL (os : List Step) : List Op := (os.filter fun s => !s.f2).map (·.f0)
theorem stepsL_app (a b : List Step) : stepsL (a ++ b) = stepsL a ++ stepsL b := by simp [stepsL]
theorem stepsL_cons (s : Step) (os : List Step) : stepsL (s :: os) = (if s.f2 = true then [] else [s.f0]) ++ stepsL os := by
  cases h : s.f2 <;> simp [stepsL, h]
def goodS (s : Step) : Prop := (okOne s.f0 = true ∧ s.f0.f2.size < 1073741824) ∧ (s.f1 = 0 ∨ s.f1 = 1 ∨ s.f1 = 2)
def okX (l : List Op) : Prop := ∀ o ∈ l, okOne o = true ∧ o.f2.size < 1073741824
theorem okX.all {l : List Op} (h : okX l) : okAll l := fun o ho => (h o ho).1
theorem okX.drop {l : List Op} (h : okX l) {n : Int} (hn : 1 ≤ n) : okX (dropL l n) := by
  intro o ho
  refine ⟨h.all.drop hn o ho, ?_⟩
  cases l with
  | nil => exact absurd ho (by simp [dropL])
  | cons x r =>
    rw [dropL] at ho
    split at ho
    · rcases List.mem_cons.mp ho with rfl | ho
      · exact (h x (List.mem_cons_self ..)).2
      · exact (h o (List.mem_cons_of_mem _ ho)).2
    · exact (h o (List.mem_cons_of_mem _ ho)).2
theorem nextL_okX {l : List Op} (h : okX l) : okOne (nextL l 2147483648) = true ∧ (nextL l 2147483648).f2.size < 1073741824 := by
  cases l with
  | nil => exact ⟨rfl, (by decide : (0 : Nat) < 1073741824)⟩
  | cons o r => exact h o (List.mem_cons_self ..)
theorem line_good {x y : Op} (hx : okOne x = true ∧ x.f2.size < 1073741824) (hy : okOne y = true ∧ y.f2.size < 1073741824) : goodS (lineL x y).2.2 := by
  unfold lineL goodS
  by_cases kx : x.f0 = 1
  · by_cases ky : y.f0 = 1
    · obtain ⟨x1, x2, _⟩ := okOne_skip hx.1 kx
      obtain ⟨y1, y2, _⟩ := okOne_skip hy.1 ky
      have a1 : 1 ≤ min x.f1 y.f1 := by omega
      have a2 : min x.f1 y.f1 ≤ 2147483648 := by omega
      simp only [kx, ky, ne_eq, not_true_eq_false, false_and, if_false]
      refine ⟨⟨?_, (by decide : (0 : Nat) < 1073741824)⟩, by simp⟩
      unfold okOne
      simp [a1, a2]
    · simp only [kx, ky, ne_eq, not_true_eq_false, not_false_eq_true, false_and, if_false, if_true]
      exact ⟨hy, by split <;> simp⟩
  · by_cases ky : y.f0 = 1
    · simp only [kx, ky, ne_eq, not_true_eq_false, not_false_eq_true, and_false, if_false, if_true]
      exact ⟨hx, by split <;> simp⟩
    · simp only [kx, ky, ne_eq, not_false_eq_true, and_self, if_true]
      split
      · exact ⟨hy, by dsimp only; split <;> simp⟩
      · split
        · exact ⟨hx, .inr (.inl rfl)⟩
        · exact ⟨hx, .inr (.inl rfl)⟩
theorem walkO_good : ∀ (n : Nat) (ps qs : List Op) (e : Bool) (os : List Step), okX ps → okX qs → walkO n ps qs e = some os → (∀ s ∈ os, goodS s) ∧ os.length ≤ n := by
  intro n
  induction n with
  | zero =>
    intro ps qs e os _ _ h
    obtain rfl : os = [] := (Option.some.inj h).symm
    exact ⟨fun s hs => by simp at hs, Nat.le_refl _⟩
  | succ n ih =>
    intro ps qs e os hp hq h
    rw [walkO] at h
    have cons : ∀ (s : Step) (os' : List Step), goodS s → (∀ x ∈ os', goodS x) ∧ os'.length ≤ n → (∀ x ∈ s :: os', goodS x) ∧ (s :: os').length ≤ n + 1 := by
      intro s os' hs hr
      refine ⟨fun x hx => ?_, by simp only [List.length_cons]; omega⟩
      rcases List.mem_cons.mp hx with rfl | hx
      · exact hs
      · exact hr.1 x hx
    split at h
    · obtain rfl : os = [] := (Option.some.inj h).symm
      exact ⟨fun s hs => by simp at hs, by simp⟩
    · rename_i h0
      split at h
      · rename_i hd
        obtain ⟨o, r, rfl, hk⟩ := hdK_iff.mp hd
        obtain ⟨os', h', rfl⟩ := Option.map_eq_some_iff.mp h
        exact cons _ _ ⟨hp o (List.mem_cons_self ..), .inr (.inl rfl)⟩ (ih r qs e os' (fun x hx => hp x (List.mem_cons_of_mem _ hx)) hq h')
      · split at h
        · rename_i hi
          obtain ⟨o, r, rfl, hk⟩ := hdK_iff.mp hi
          obtain ⟨os', h', rfl⟩ := Option.map_eq_some_iff.mp h
          exact cons _ _ ⟨hq o (List.mem_cons_self ..), .inr (.inr rfl)⟩ (ih ps r e os' hp (fun x hx => hq x (List.mem_cons_of_mem _ hx)) h')
        · split at h
          · simp at h
          · obtain ⟨os', h', rfl⟩ := Option.map_eq_some_iff.mp h
            obtain ⟨d1, _⟩ := drop_both hp.all hq.all h0
            exact cons _ _ (line_good (nextL_okX hp) (nextL_okX hq)) (ih _ _ _ os' (hp.drop d1) (hq.drop d1) h')
theorem ex_steps : ∀ (os : List Step), (∀ s ∈ os, goodS s) → ex (stepsL os) = un (exS os)
  | [], _ => rfl
  | s :: os, h => by
    have i := ex_steps os fun x hx => h x (List.mem_cons_of_mem _ hx)
    obtain ⟨_, h2⟩ := h s (List.mem_cons_self ..)
    rw [stepsL_cons, exS_cons, un_app, ex_app, i]
    congr 1
    cases hg : s.f2
    · have : s.f1 ≠ 3 := by omega
      have e : ∀ l : List U, un (l.map fun u => ((u, s.f1) : TU)) = l := by
        intro l
        induction l with
        | nil => rfl
        | cons u l ih =>
          rw [List.map_cons, un_cons (by exact this), ih]
      simp only [Bool.false_eq_true, if_false, ex_cons, ex_nil, List.append_nil]
      exact (e _).symm
    · simp [un, ex]
/-- Two, one behind the other. -/
def thenU (p q : List U) : Option (List U) := (cmpU p false q).bind fun u => if rightU u = true then some (nf [] u) else none
def thenL (p q : List Op) : List Op × Bool := if rightL p = true ∧ rightL q = true then (match thenU (ex p) (ex q) with | some u => (pack u, true) | none => ([], false)) else ([], false)
theorem rightL_okX {l : List Op} (h : rightL l = true) (hs : Sx l) : okX l := fun o ho => ⟨(rightL_ok h).1 o ho, hs.2 o ho⟩
theorem okX_W {l : List Op} (h : okX l) : l.all okW1 = true := by
  rw [List.all_eq_true]
  intro o ho
  obtain ⟨h1, h2⟩ := h o ho
  unfold okW1
  by_cases hk : o.f0 = 1
  · obtain ⟨a, b, _⟩ := okOne_skip h1 hk
    simp [hk, a, b, h2]
  · simp [hk, h2]
theorem okX_R {l : List Op} (h : okX l) : l.all okR1 = true := by
  rw [List.all_eq_true]
  intro o ho
  have hw := (List.all_eq_true.mp (okX_W h)) o ho
  obtain ⟨h1, h2⟩ := h o ho
  unfold okR1
  rw [hw]
  by_cases hk : o.f0 = 1
  · obtain ⟨a, b, c⟩ := okOne_skip h1 hk
    simp [hk, c]
    rfl
  · obtain ⟨a, b, c⟩ := okOne_ne h1 hk
    have ht : o.f2 ≠ ⟨#[]⟩ := by
      intro e
      rw [e] at c
      exact absurd c (by decide)
    simp [hk, ht, a]
theorem okW_of {p q : List Op} (hp : okX p) (hq : okX q) (h : p.length + q.length ≤ 1099511627776) : okW p q = true := by
  unfold okW
  rw [okX_W hp, okX_W hq]; simp [h]
theorem okR_of {p q : List Op} (hp : okX p) (hq : okX q) (h : p.length + q.length ≤ 1099511627776) : okR p q = true := by
  unfold okR
  rw [okX_R hp, okX_R hq]; simp [h]
theorem form_steps {os : List Step} (h : ∀ s ∈ os, goodS s) : ∀ o ∈ stepsL os, formO o := by
  intro o ho
  obtain ⟨s, hs, rfl⟩ := List.mem_map.mp ho
  exact form_of (h s (List.mem_filter.mp hs).1).1.1
theorem sx_steps {os : List Step} (h : ∀ s ∈ os, goodS s) (hl : os.length ≤ 1099511627776) : Sm (stepsL os) := by
  refine ⟨?_, fun o ho => ?_⟩
  · have : (stepsL os).length ≤ os.length := by unfold stepsL; rw [List.length_map]; exact List.length_filter_le _ _
    omega
  · obtain ⟨s, hs, rfl⟩ := List.mem_map.mp ho
    have := (h s (List.mem_filter.mp hs).1).1.2
    omega
/-- The old side has no more lines than both old sides. -/
theorem mid_olds {x y : U} {a : List U} (h : midU x y = some a) : (olds a).length ≤ (olds [x]).length ∧ (olds a).length ≤ 1 := by
  cases x <;> cases y <;> simp only [midU, midT] at h <;> (try split at h) <;> simp [un] at h <;> subst h <;> simp [olds]
theorem Cmp.olds_le {p q w : List U} (h : Cmp p q w) : (olds w).length ≤ (olds p).length + (olds q).length := by
  induction h with
  | nil => simp [olds]
  | del t _ ih => simp only [olds, List.length_cons]; omega
  | ins t _ _ ih => simp only [olds]; omega
  | mid hp hq hne ha _ ih =>
    rename_i p q a w _
    obtain ⟨a1, a2⟩ := mid_olds ha
    rw [olds_app, List.length_append]
    cases p with
    | cons x p =>
      have : (olds (x :: p)).length = (olds [x]).length + (olds p).length := by
        show (olds ([x] ++ p)).length = _
        rw [olds_app, List.length_append]
      have e1 : nxU (x :: p) = x := rfl
      rw [e1] at a1
      have : (olds q.tail).length ≤ (olds q).length := by
        cases q with
        | nil => exact Nat.le_refl _
        | cons y q => cases y <;> simp [olds]
      simp only [List.tail_cons] at ih
      omega
    | nil =>
      cases q with
      | nil => simp at hne
      | cons y q =>
        have : (olds (y :: q)).length = 1 + (olds q).length := by
          cases y with
          | ins t => exact absurd rfl (hq t q)
          | skip => simp [olds]; omega
          | keep t => simp [olds]; omega
          | del t => simp [olds]; omega
        simp only [List.tail_cons, List.tail_nil] at ih
        omega
theorem un_cmp {p q : List U} {e : Bool} {w : List TU} (h : cmpT p e q = some w) : cmpU p e q = some (un w) := by unfold cmpU; rw [h]; rfl
/-- What both walks come to. -/
theorem walk_then {p q : List Op} (hp : Sx p) (hq : Sx q) (rp : rightL p = true) (rq : rightL q = true) :
    (walkO (p.length + q.length) p q false = none ∧ thenL p q = ([], false)) ∨
    ∃ os, walkO (p.length + q.length) p q false = some os ∧ cmpT (ex p) false (ex q) = some (exS os) ∧ (∀ s ∈ os, goodS s) ∧ os.length ≤ p.length + q.length ∧ ex (stepsL os) = un (exS os) ∧ (∀ o ∈ stepsL os, formO o) ∧ Sm (stepsL os) ∧
      skips (stepsL os) ≤ 4294967296 ∧ rightL (stepsL os) = rightU (un (exS os)) ∧ thenL p q = if rightL (stepsL os) = true then (normL (stepsL os), true) else ([], false) := by
  have op := rightL_okX rp hp
  have oq := rightL_okX rq hq
  have hc := walkO_cmp (p.length + q.length) p q false (Nat.le_refl _) op.all oq.all
  cases hw : walkO (p.length + q.length) p q false with
  | none =>
    left
    refine ⟨rfl, ?_⟩
    rw [hw] at hc
    have hc : cmpT (ex p) false (ex q) = none := hc.symm
    unfold thenL thenU cmpU
    rw [if_pos ⟨rp, rq⟩, hc]; rfl
  | some os =>
    right
    rw [hw] at hc
    have hc : cmpT (ex p) false (ex q) = some (exS os) := hc.symm
    obtain ⟨g1, g2⟩ := walkO_good _ _ _ _ _ op oq hw
    have he := ex_steps os g1
    have hf := form_steps g1
    have hsm := sx_steps g1 (by have := hp.1; have := hq.1; omega)
    have hr : rightL (stepsL os) = rightU (un (exS os)) := by rw [right_iff hf, he]
    have hu := un_cmp hc
    have hsk : skips (stepsL os) ≤ 4294967296 := by
      have h1 := skips_le 3 hf
      rw [sums_olds _ hf, he] at h1
      have h2 := (Cmp.of _ _ _ _ hu).olds_le
      have h3 := (rightL_ok rp).2.1
      have h4 := (rightL_ok rq).2.1
      rw [sums_olds _ (rightL_form rp)] at h3
      rw [sums_olds _ (rightL_form rq)] at h4
      omega
    refine ⟨os, rfl, hc, g1, g2, he, hf, hsm, hsk, hr, ?_⟩
    unfold thenL thenU
    rw [if_pos ⟨rp, rq⟩, hu, Option.bind_some, hr]
    cases rightU (un (exS os))
    · rfl
    · simp only [if_true]
      unfold normL
      rw [he]
end Go.Proofs.Ytkiklmmpflndbaa.P
