/- Own: what two come to does what both do, one behind the other; what fits lines that are whole is right. -/
import Derived.Test.YtfoponahdidddaaCa
namespace Go.Proofs.Ytfoponahdidddaa.P
open Go.RowKit Go.Proofs.YtfoponahdidddaaW.PrintWords Go.Proofs.YtfoponahdidddaaW.PrintLast Go.Proofs.YtfoponahdidddaaW.PrintMore
set_option linter.unusedSimpArgs false
set_option linter.unusedVariables false

/-- A side that lines begin with. -/
def fitS : List (Option ByteArray) → List ByteArray → Prop
  | [], _ => True
  | _ :: _, [] => False
  | none :: s, _ :: l => fitS s l
  | some t :: s, x :: l => x = t ∧ fitS s l
theorem doU_fit : ∀ (u : List U) (ls r : List ByteArray), doU u ls = some r → fitS (olds u) ls ∧ fitS (news u) r
  | [], ls, r, _ => ⟨trivial, trivial⟩
  | .ins t :: u, ls, r, h => by
    rw [doU] at h
    obtain ⟨r', h', rfl⟩ := Option.map_eq_some_iff.mp h
    obtain ⟨a, b⟩ := doU_fit u ls r' h'
    exact ⟨a, rfl, b⟩
  | .del t :: u, [], r, h => by rw [doU] at h; simp at h
  | .del t :: u, x :: ls, r, h => by
    rw [doU] at h
    split at h
    · rename_i e
      obtain ⟨a, b⟩ := doU_fit u ls r h
      exact ⟨⟨e, a⟩, b⟩
    · simp at h
  | .keep t :: u, [], r, h => by rw [doU] at h; simp at h
  | .keep t :: u, x :: ls, r, h => by
    rw [doU] at h
    split at h
    · rename_i e
      obtain ⟨r', h', rfl⟩ := Option.map_eq_some_iff.mp h
      obtain ⟨a, b⟩ := doU_fit u ls r' h'
      exact ⟨⟨e, a⟩, ⟨e, b⟩⟩
    · simp at h
  | .skip :: u, [], r, h => by rw [doU] at h; simp at h
  | .skip :: u, x :: ls, r, h => by
    rw [doU] at h
    obtain ⟨r', h', rfl⟩ := Option.map_eq_some_iff.mp h
    obtain ⟨a, b⟩ := doU_fit u ls r' h'
    exact ⟨a, b⟩
theorem wholeL_cons {x : ByteArray} {l : List ByteArray} (h : wholeL (x :: l) = true) : rightT x = true ∧ wholeL l = true ∧ (openT x = true → l = []) := by
  unfold wholeL at h
  rw [Bool.and_eq_true] at h
  obtain ⟨h1, h2⟩ := h
  split at h2
  · simp at h2
  · rename_i c
    refine ⟨h1, h2, fun ho => ?_⟩
    by_cases e : l = []
    · exact e
    · exact absurd ⟨ho, e⟩ c
theorem fit_ok : ∀ (s : List (Option ByteArray)) (l : List ByteArray), fitS s l → wholeL l = true → textS s = true ∧ closedS false s = true ∧ s.length ≤ l.length
  | [], l, _, _ => ⟨rfl, rfl, Nat.zero_le _⟩
  | _ :: _, [], h, _ => absurd h id
  | none :: s, x :: l, h, hw => by
    obtain ⟨_, w2, _⟩ := wholeL_cons hw
    obtain ⟨a, b, c⟩ := fit_ok s l h w2
    exact ⟨by simpa [textS] using a, by simpa [closedS] using b, by simpa using c⟩
  | some t :: s, x :: l, h, hw => by
    obtain ⟨rfl, h⟩ := h
    obtain ⟨w1, w2, w3⟩ := wholeL_cons hw
    obtain ⟨a, b, c⟩ := fit_ok s l h w2
    refine ⟨?_, ?_, by simpa using c⟩
    · simp only [textS, List.all_cons, w1, Bool.true_and]; exact a
    · rw [closedS]
      cases ho : openT x
      · exact b
      · have hl := w3 ho
        subst hl
        cases s with
        | nil => rfl
        | cons y s => cases y <;> exact absurd h id
theorem fit_okS {s : List (Option ByteArray)} {l : List ByteArray} (h : fitS s l) (hw : wholeL l = true) (hl : l.length ≤ 2147483648) : okS s = true := by
  obtain ⟨a, b, c⟩ := fit_ok s l h hw
  unfold okS
  rw [a, b, Bool.true_and, Bool.true_and, decide_eq_true_iff]
  omega
theorem rightU_of {u : List U} {ls r : List ByteArray} (h : doU u ls = some r) (h1 : wholeL ls = true) (h2 : wholeL r = true) (l1 : ls.length ≤ 2147483648) (l2 : r.length ≤ 2147483648) : rightU u = true := by
  obtain ⟨a, b⟩ := doU_fit u ls r h
  unfold rightU
  rw [fit_okS a h1 l1, fit_okS b h2 l2]; rfl
/-- One line of the middle, done. -/
theorem mid_do {p q : List U} (hp : NoD p) (hq : NoI q) (hne : p ≠ [] ∨ q ≠ []) {ls m b : List ByteArray} (h1 : doU p ls = some m) (h2 : doU q m = some b) :
    ∃ x m', m = x :: m' ∧ ∃ a ls' b', midU (nxU p) (nxU q) = some a ∧ (opM (nxU p) (nxU q) = true → openT x = true) ∧ doU p.tail ls' = some m' ∧ doU q.tail m' = some b' ∧ ∀ r, doU r ls' = some b' → doU (a ++ r) ls = some b := by
  have two : ∀ {y : U} {q : List U} {x : ByteArray} {m' : List ByteArray}, (∀ t, y ≠ .ins t) → doU (y :: q) (x :: m') = some b →
      ∃ b', doU q m' = some b' ∧ ((y = .skip ∧ b = x :: b') ∨ (y = .keep x ∧ b = x :: b') ∨ (y = .del x ∧ b = b')) := by
    intro y q x m' hy h
    cases y with
    | ins t => exact absurd rfl (hy t)
    | skip =>
      rw [doU] at h
      obtain ⟨b', h', rfl⟩ := Option.map_eq_some_iff.mp h
      exact ⟨b', h', .inl ⟨rfl, rfl⟩⟩
    | keep t =>
      rw [doU] at h
      split at h
      · rename_i e
        subst e
        obtain ⟨b', h', rfl⟩ := Option.map_eq_some_iff.mp h
        exact ⟨b', h', .inr (.inl ⟨rfl, rfl⟩)⟩
      · simp at h
    | del t =>
      rw [doU] at h
      split at h
      · rename_i e
        subst e
        exact ⟨b, h, .inr (.inr ⟨rfl, rfl⟩)⟩
      · simp at h
  have one : ∀ {z : U} {p : List U}, (∀ t, z ≠ .del t) → doU (z :: p) ls = some m →
      ∃ x m' ls', m = x :: m' ∧ doU p ls' = some m' ∧ ((z = .skip ∧ ls = x :: ls') ∨ (z = .keep x ∧ ls = x :: ls') ∨ (z = .ins x ∧ ls = ls')) := by
    intro z p hz h
    cases z with
    | del t => exact absurd rfl (hz t)
    | ins t =>
      rw [doU] at h
      obtain ⟨m', h', rfl⟩ := Option.map_eq_some_iff.mp h
      exact ⟨t, m', ls, rfl, h', .inr (.inr ⟨rfl, rfl⟩)⟩
    | skip =>
      cases ls with
      | nil => rw [doU] at h; simp at h
      | cons x ls =>
        rw [doU] at h
        obtain ⟨m', h', rfl⟩ := Option.map_eq_some_iff.mp h
        exact ⟨x, m', ls, rfl, h', .inl ⟨rfl, rfl⟩⟩
    | keep t =>
      cases ls with
      | nil => rw [doU] at h; simp at h
      | cons x ls =>
        rw [doU] at h
        split at h
        · rename_i e
          subst e
          obtain ⟨m', h', rfl⟩ := Option.map_eq_some_iff.mp h
          exact ⟨x, m', ls, rfl, h', .inr (.inl ⟨rfl, rfl⟩)⟩
        · simp at h
  -- what stands at the front of each, told apart from its end
  have fp : ∃ x m' ls', m = x :: m' ∧ doU p.tail ls' = some m' ∧ ((nxU p = .skip ∧ ls = x :: ls') ∨ (nxU p = .keep x ∧ ls = x :: ls') ∨ (nxU p = .ins x ∧ ls = ls')) := by
    cases p with
    | cons z p => exact one (fun t e => hp t p (by rw [show z = .del t from e])) h1
    | nil =>
      rw [doU] at h1
      obtain rfl := Option.some.inj h1
      cases q with
      | nil => simp at hne
      | cons y q =>
        cases ls with
        | nil => cases y <;> first | exact absurd rfl (hq _ _) | (rw [doU] at h2; simp at h2)
        | cons x ls => exact ⟨x, ls, ls, rfl, rfl, .inl ⟨rfl, rfl⟩⟩
  obtain ⟨x, m', ls', rfl, hp', hx⟩ := fp
  have fq : ∃ b', doU q.tail m' = some b' ∧ ((nxU q = .skip ∧ b = x :: b') ∨ (nxU q = .keep x ∧ b = x :: b') ∨ (nxU q = .del x ∧ b = b')) := by
    cases q with
    | cons y q => exact two (fun t e => hq t q (by rw [show y = .ins t from e])) h2
    | nil =>
      rw [doU] at h2
      obtain rfl := Option.some.inj h2
      exact ⟨m', rfl, .inl ⟨rfl, rfl⟩⟩
  obtain ⟨b', hq', hy⟩ := fq
  refine ⟨x, m', rfl, ?_⟩
  rcases hx with ⟨e1, rfl⟩ | ⟨e1, rfl⟩ | ⟨e1, rfl⟩ <;> rcases hy with ⟨e2, rfl⟩ | ⟨e2, rfl⟩ | ⟨e2, rfl⟩ <;> rw [e1, e2]
  · exact ⟨[.skip], ls', b', rfl, by simp [opM, opnX], hp', hq', fun r hr => by simp only [List.singleton_append, doU]; rw [hr]; rfl⟩
  · exact ⟨[.keep x], ls', b', rfl, by simp [opM, opnX, txU], hp', hq', fun r hr => by simp only [List.singleton_append, doU, if_true]; rw [hr]; rfl⟩
  · exact ⟨[.del x], ls', b, rfl, by simp [opM, opnX, txU], hp', hq', fun r hr => by simp only [List.singleton_append, doU, if_true]; exact hr⟩
  · exact ⟨[.keep x], ls', b', rfl, by simp [opM, opnX, txU], hp', hq', fun r hr => by simp only [List.singleton_append, doU, if_true]; rw [hr]; rfl⟩
  · exact ⟨[.keep x], ls', b', by simp [midU, midT, un], by simp [opM, opnX, txU], hp', hq', fun r hr => by simp only [List.singleton_append, doU, if_true]; rw [hr]; rfl⟩
  · exact ⟨[.del x], ls', b, by simp [midU, midT, un], by simp [opM, opnX, txU], hp', hq', fun r hr => by simp only [List.singleton_append, doU, if_true]; exact hr⟩
  · exact ⟨[.ins x], ls, b', rfl, by simp [opM, opnX, txU], hp', hq', fun r hr => by simp only [List.singleton_append, doU]; rw [hr]; rfl⟩
  · exact ⟨[.ins x], ls, b', by simp [midU, midT, un], by simp [opM, opnX, txU], hp', hq', fun r hr => by simp only [List.singleton_append, doU]; rw [hr]; rfl⟩
  · exact ⟨[], ls, b, by simp [midU, midT, un], by simp [opM, opnX, txU], hp', hq', fun r hr => hr⟩
/-- Where both can be done, one behind the other, they go together, and come to the same. -/
theorem cmpU_do : ∀ p q, ∀ (e : Bool) (ls m b : List ByteArray), doU p ls = some m → doU q m = some b → wholeL m = true → (e = true → m = []) → ∃ w, cmpU p e q = some w ∧ doU w ls = some b := by
  refine walk_ind ?_ ?_ ?_ ?_
  · intro e ls m b h1 h2 _ _
    rw [doU] at h1 h2
    obtain rfl := Option.some.inj h1
    obtain rfl := Option.some.inj h2
    exact ⟨[], rfl, rfl⟩
  · intro t p q ih e ls m b h1 h2 h3 h4
    cases ls with
    | nil => rw [doU] at h1; simp at h1
    | cons x ls =>
      rw [doU] at h1
      split at h1
      · rename_i ex
        obtain ⟨w, c, d⟩ := ih e ls m b h1 h2 h3 h4
        refine ⟨.del t :: w, by rw [cmpU_del, c]; rfl, ?_⟩
        rw [doU, if_pos ex]; exact d
      · simp at h1
  · intro t p q hp ih e ls m b h1 h2 h3 h4
    rw [doU] at h2
    obtain ⟨b', h2', rfl⟩ := Option.map_eq_some_iff.mp h2
    obtain ⟨w, c, d⟩ := ih e ls m b' h1 h2' h3 h4
    exact ⟨.ins t :: w, by rw [cmpU_ins hp, c]; rfl, by rw [doU, d]; rfl⟩
  · intro p q hp hq hne ih e ls m b h1 h2 h3 h4
    obtain ⟨x, m', rfl, a, ls', b', hm, ho, hp', hq', hr⟩ := mid_do hp hq hne h1 h2
    have he : e = false := by
      cases e with
      | false => rfl
      | true => exact absurd (h4 rfl) (by simp)
    subst he
    obtain ⟨w1, w2, w3⟩ := wholeL_cons h3
    obtain ⟨w, c, d⟩ := ih (opM (nxU p) (nxU q)) ls' m' b' hp' hq' w2 (fun h => w3 (ho h))
    refine ⟨a ++ w, ?_, hr w d⟩
    rw [cmpU_mid hp hq hne, hm, if_neg (by simp), Option.bind_some, c]; rfl
end Go.Proofs.Ytfoponahdidddaa.P
