/- Own: right steps as right sides; turned back the sides change places. -/
import Derived.Test.YtfoponahdidddaaMe
namespace Go.Proofs.Ytfoponahdidddaa.P
open Go.RowKit Go.Proofs.YtfoponahdidddaaW.PrintWords Go.Proofs.YtfoponahdidddaaW.PrintLast Go.Proofs.YtfoponahdidddaaW.PrintMore

/-- A side is right: its lines are, none stands behind an open one, and they are not too many. -/
def closedS : Bool → List (Option ByteArray) → Bool
  | _, [] => true
  | true, _ :: _ => false
  | false, none :: s => closedS false s
  | false, some t :: s => closedS (openT t) s
def textS (s : List (Option ByteArray)) : Bool := s.all fun x => match x with | none => true | some t => rightT t
def okS (s : List (Option ByteArray)) : Bool := textS s && (closedS false s && decide (s.length ≤ 2147483648))
def sideU (c : Int) (u : List U) : List (Option ByteArray) := if c = 3 then olds u else news u
def rightU (u : List U) : Bool := okS (olds u) && okS (news u)
theorem closedS_none : ∀ (n : Nat) (s : List (Option ByteArray)), closedS false (List.replicate n none ++ s) = closedS false s
  | 0, _ => rfl
  | n + 1, s => by rw [List.replicate_succ, List.cons_append, closedS, closedS_none n s]
theorem olds_skips : ∀ (n : Nat), olds (List.replicate n .skip) = List.replicate n none
  | 0 => rfl
  | n + 1 => by rw [List.replicate_succ, olds, olds_skips n, List.replicate_succ]
theorem news_skips : ∀ (n : Nat), news (List.replicate n .skip) = List.replicate n none
  | 0 => rfl
  | n + 1 => by rw [List.replicate_succ, news, news_skips n, List.replicate_succ]
theorem closed_olds : ∀ (l : List Op) (e : Bool), (∀ o ∈ l, formO o) → closedGo 3 e l = closedS e (olds (ex l))
  | [], e, _ => by cases e <;> rfl
  | o :: l, e, h => by
    have i := fun e => closed_olds l e fun x hx => h x (List.mem_cons_of_mem _ hx)
    rw [ex_cons, olds_app]
    rcases h o (List.mem_cons_self ..) with ⟨hk, h1, _⟩ | ⟨hk | hk | hk, _⟩
    · have epos : o.f1.toNat = (o.f1.toNat - 1) + 1 := by omega
      rw [show exO o = List.replicate o.f1.toNat .skip from by simp [exO, hk], olds_skips]
      cases e
      · rw [closedS_none, ← i false]; simp [closedGo, hk]
      · rw [epos, List.replicate_succ]; simp [closedGo, closedS, hk]
    · rw [show exO o = [.keep o.f2] from by simp [exO, hk]]
      cases e
      · simp only [olds, List.cons_append, List.nil_append, closedS]; rw [← i]; simp [closedGo, hk]
      · simp [olds, closedGo, closedS, hk]
    · rw [show exO o = [.del o.f2] from by simp [exO, hk]]
      cases e
      · simp only [olds, List.cons_append, List.nil_append, closedS]; rw [← i]; simp [closedGo, hk]
      · simp [olds, closedGo, closedS, hk]
    · rw [show exO o = [.ins o.f2] from by simp [exO, hk]]
      simp only [olds, List.nil_append]
      rw [← i]; simp [closedGo, hk]
theorem closed_news : ∀ (l : List Op) (e : Bool), (∀ o ∈ l, formO o) → closedGo 4 e l = closedS e (news (ex l))
  | [], e, _ => by cases e <;> rfl
  | o :: l, e, h => by
    have i := fun e => closed_news l e fun x hx => h x (List.mem_cons_of_mem _ hx)
    rw [ex_cons, news_app]
    rcases h o (List.mem_cons_self ..) with ⟨hk, h1, _⟩ | ⟨hk | hk | hk, _⟩
    · have epos : o.f1.toNat = (o.f1.toNat - 1) + 1 := by omega
      rw [show exO o = List.replicate o.f1.toNat .skip from by simp [exO, hk], news_skips]
      cases e
      · rw [closedS_none, ← i false]; simp [closedGo, hk]
      · rw [epos, List.replicate_succ]; simp [closedGo, closedS, hk]
    · rw [show exO o = [.keep o.f2] from by simp [exO, hk]]
      cases e
      · simp only [news, List.cons_append, List.nil_append, closedS]; rw [← i]; simp [closedGo, hk]
      · simp [news, closedGo, closedS, hk]
    · rw [show exO o = [.del o.f2] from by simp [exO, hk]]
      simp only [news, List.nil_append]
      rw [← i]; simp [closedGo, hk]
    · rw [show exO o = [.ins o.f2] from by simp [exO, hk]]
      cases e
      · simp only [news, List.cons_append, List.nil_append, closedS]; rw [← i]; simp [closedGo, hk]
      · simp [news, closedGo, closedS, hk]
theorem sums_olds : ∀ (l : List Op), (∀ o ∈ l, formO o) → sums 3 l = (olds (ex l)).length
  | [], _ => rfl
  | o :: l, h => by
    rw [sums_cons, sums_olds l fun x hx => h x (List.mem_cons_of_mem _ hx), ex_cons, olds_app, List.length_append]
    congr 1
    rcases h o (List.mem_cons_self ..) with ⟨hk, h1, _⟩ | ⟨hk | hk | hk, _⟩
    · rw [show exO o = List.replicate o.f1.toNat .skip from by simp [exO, hk], olds_skips]; simp [cnt, hk]
    · rw [show exO o = [.keep o.f2] from by simp [exO, hk]]; simp [cnt, hk, olds]
    · rw [show exO o = [.del o.f2] from by simp [exO, hk]]; simp [cnt, hk, olds]
    · rw [show exO o = [.ins o.f2] from by simp [exO, hk]]; simp [cnt, hk, olds]
theorem sums_news : ∀ (l : List Op), (∀ o ∈ l, formO o) → sums 4 l = (news (ex l)).length
  | [], _ => rfl
  | o :: l, h => by
    rw [sums_cons, sums_news l fun x hx => h x (List.mem_cons_of_mem _ hx), ex_cons, news_app, List.length_append]
    congr 1
    rcases h o (List.mem_cons_self ..) with ⟨hk, h1, _⟩ | ⟨hk | hk | hk, _⟩
    · rw [show exO o = List.replicate o.f1.toNat .skip from by simp [exO, hk], news_skips]; simp [cnt, hk]
    · rw [show exO o = [.keep o.f2] from by simp [exO, hk]]; simp [cnt, hk, news]
    · rw [show exO o = [.del o.f2] from by simp [exO, hk]]; simp [cnt, hk, news]
    · rw [show exO o = [.ins o.f2] from by simp [exO, hk]]; simp [cnt, hk, news]
theorem textS_app (p q : List (Option ByteArray)) : textS (p ++ q) = (textS p && textS q) := by simp [textS]
theorem textS_none (n : Nat) : textS (List.replicate n none) = true := by simp [textS]
/-- The texts of right steps are lines. -/
theorem texts_of : ∀ (l : List Op), (∀ o ∈ l, okOne o = true) → textS (olds (ex l)) = true ∧ textS (news (ex l)) = true
  | [], _ => ⟨rfl, rfl⟩
  | o :: l, h => by
    obtain ⟨i1, i2⟩ := texts_of l fun x hx => h x (List.mem_cons_of_mem _ hx)
    have ho := h o (List.mem_cons_self ..)
    rw [ex_cons, olds_app, news_app, textS_app, textS_app, i1, i2, Bool.and_true, Bool.and_true]
    by_cases hk : o.f0 = 1
    · rw [show exO o = List.replicate o.f1.toNat .skip from by simp [exO, hk], olds_skips, news_skips]
      exact ⟨textS_none _, textS_none _⟩
    · obtain ⟨hk | hk | hk, _, ht⟩ := okOne_ne ho hk
      · rw [show exO o = [.keep o.f2] from by simp [exO, hk]]; simp [olds, news, textS, ht]
      · rw [show exO o = [.del o.f2] from by simp [exO, hk]]; simp [olds, news, textS, ht]
      · rw [show exO o = [.ins o.f2] from by simp [exO, hk]]; simp [olds, news, textS, ht]
theorem ok_of : ∀ (l : List Op), (∀ o ∈ l, formO o) → textS (olds (ex l)) = true → textS (news (ex l)) = true → sums 3 l ≤ 2147483648 → ∀ o ∈ l, okOne o = true
  | [], _, _, _, _ => fun o ho => by simp at ho
  | o :: l, h, h1, h2, h3 => by
    have hf := h o (List.mem_cons_self ..)
    rw [ex_cons, olds_app, textS_app, Bool.and_eq_true] at h1
    rw [ex_cons, news_app, textS_app, Bool.and_eq_true] at h2
    rw [sums_cons] at h3
    intro x hx
    rcases List.mem_cons.mp hx with rfl | hx
    · clear hx
      unfold okOne
      rcases hf with ⟨hk, c1, c2⟩ | ⟨hk, c1⟩
      · rw [if_pos hk]
        have : cnt 3 x = x.f1.toNat := by simp [cnt, hk]
        have c3 : x.f1 ≤ 2147483648 := by omega
        have c4 : x.f2.data.toList = [] := by rw [c2]; rfl
        simp only [c1, c3, c4, decide_true, Bool.and_self]
      · rw [if_neg (by omega)]
        have ht : rightT x.f2 = true := by
          rcases hk with hk | hk | hk
          · have := h1.1
            rw [show exO x = [.keep x.f2] from by simp [exO, hk]] at this
            simpa [olds, textS] using this
          · have := h1.1
            rw [show exO x = [.del x.f2] from by simp [exO, hk]] at this
            simpa [olds, textS] using this
          · have := h2.1
            rw [show exO x = [.ins x.f2] from by simp [exO, hk]] at this
            simpa [news, textS] using this
        simp only [hk, c1, ht, decide_true, Bool.and_self]
    · exact ok_of l (fun y hy => h y (List.mem_cons_of_mem _ hy)) h1.2 h2.2 (by omega) x hx
/-- Right steps, told by their sides. -/
theorem right_iff {l : List Op} (hf : ∀ o ∈ l, formO o) : rightL l = rightU (ex l) := by
  have hc : ∀ c, decide (capd c l ≤ 2147483648) = decide (sums c l ≤ 2147483648) := by
    intro c
    have : (capd c l ≤ 2147483648) ↔ (sums c l ≤ 2147483648) := by unfold capd far; omega
    simp only [this]
  have h3 := sums_olds l hf
  have h4 := sums_news l hf
  unfold rightL rightU okS
  rw [hc, hc, closed_olds l false hf, closed_news l false hf, ← h3, ← h4]
  cases ha : l.all okOne
  · rw [Bool.false_and]
    by_cases t1 : textS (olds (ex l)) = true
    · by_cases t2 : textS (news (ex l)) = true
      · by_cases s3 : sums 3 l ≤ 2147483648
        · have := ok_of l hf t1 t2 s3
          have : l.all okOne = true := List.all_eq_true.mpr this
          rw [this] at ha; simp at ha
        · simp [s3]
      · simp [t2]
    · simp [t1]
  · obtain ⟨t1, t2⟩ := texts_of l (List.all_eq_true.mp ha)
    rw [t1, t2]
    cases closedS false (olds (ex l)) <;> cases closedS false (news (ex l)) <;> by_cases s3 : sums 3 l ≤ 2147483648 <;> by_cases s4 : sums 4 l ≤ 2147483648 <;> simp [s3, s4]
theorem rightL_form {l : List Op} (h : rightL l = true) : ∀ o ∈ l, formO o := fun o ho => form_of ((rightL_ok h).1 o ho)
theorem rightL_U {l : List Op} (h : rightL l = true) : rightU (ex l) = true := by rw [← right_iff (rightL_form h)]; exact h
theorem form_pack (u : List U) : ∀ o ∈ pack u, formO o := by
  induction u with
  | nil => intro o ho; simp [pack] at ho
  | cons x u ih =>
    intro o ho
    by_cases hk : o.f0 = 1
    · have := pack_pos (x :: u) o ho hk
      exact .inl ⟨hk, this.1, this.2⟩
    · rw [pack] at ho
      cases x with
      | skip =>
        cases hp : pack u with
        | nil => rw [hp] at ho; rw [List.mem_singleton.mp ho] at hk; simp [opU] at hk
        | cons y r =>
          rw [hp] at ho ih
          by_cases hy : y.f0 = 1
          · simp only [put, if_pos hy] at ho
            rcases List.mem_cons.mp ho with rfl | ho
            · simp at hk
            · exact ih o (List.mem_cons_of_mem _ ho)
          · simp only [put, if_neg hy] at ho
            rcases List.mem_cons.mp ho with rfl | ho
            · simp at hk
            · exact ih o ho
      | keep t =>
        rw [put_ne rfl] at ho
        rcases List.mem_cons.mp ho with rfl | ho
        · exact .inr ⟨by simp [opU], rfl⟩
        · exact ih o ho
      | del t =>
        rw [put_ne rfl] at ho
        rcases List.mem_cons.mp ho with rfl | ho
        · exact .inr ⟨by simp [opU], rfl⟩
        · exact ih o ho
      | ins t =>
        rw [put_ne rfl] at ho
        rcases List.mem_cons.mp ho with rfl | ho
        · exact .inr ⟨by simp [opU], rfl⟩
        · exact ih o ho
theorem right_pack (u : List U) : rightL (pack u) = rightU u := by rw [right_iff (form_pack u), ex_pack]
theorem rightU_nf (u : List U) : rightU (nf [] u) = rightU u := by unfold rightU; rw [olds_nf0, news_nf0]
theorem ex_norm (l : List Op) : ex (normL l) = nf [] (ex l) := ex_pack _
theorem right_norm {l : List Op} (h : rightL l = true) : rightL (normL l) = true := by
  unfold normL
  rw [right_pack, rightU_nf]; exact rightL_U h
/-- How many, and how long, packed steps are. -/
theorem pack_len (u : List U) : (pack u).length ≤ u.length := by
  induction u with
  | nil => exact Nat.le_refl _
  | cons x u ih =>
    rw [pack]
    cases x with
    | skip =>
      cases hp : pack u with
      | nil => simp [put]
      | cons y r =>
        rw [hp] at ih
        simp only [put]
        split
        · simp only [List.length_cons] at *; omega
        · simp only [List.length_cons] at *; omega
    | keep t => rw [put_ne rfl]; simp only [List.length_cons]; omega
    | del t => rw [put_ne rfl]; simp only [List.length_cons]; omega
    | ins t => rw [put_ne rfl]; simp only [List.length_cons]; omega
/-- Turned back. -/
def flipX : U → U
  | .skip => .skip
  | .keep t => .keep t
  | .del t => .ins t
  | .ins t => .del t
def flipU (u : List U) : List U := u.map flipX
def flipO (o : Op) : Op := if o.f0 = 3 then ⟨4, o.f1, o.f2⟩ else if o.f0 = 4 then ⟨3, o.f1, o.f2⟩ else o
theorem flipX_flipX (x : U) : flipX (flipX x) = x := by cases x <;> rfl
theorem flipU_flipU (u : List U) : flipU (flipU u) = u := by
  simp only [flipU, List.map_map, Function.comp_def, flipX_flipX, List.map_id']
theorem olds_flip (u : List U) : olds (flipU u) = news u := by
  induction u with
  | nil => rfl
  | cons x u ih => cases x <;> simp only [flipU, List.map_cons, flipX, olds, news] <;> first | exact ih | rw [show (u.map flipX) = flipU u from rfl, ih]
theorem news_flip (u : List U) : news (flipU u) = olds u := by
  have := olds_flip (flipU u)
  rw [flipU_flipU] at this
  exact this.symm
theorem rightU_flip (u : List U) : rightU (flipU u) = rightU u := by
  unfold rightU; rw [olds_flip, news_flip, Bool.and_comm]
theorem ex_flipO {o : Op} (h : formO o) : exO (flipO o) = flipU (exO o) := by
  rcases h with ⟨hk, _⟩ | ⟨hk | hk | hk, _⟩
  · simp [flipO, exO, hk, flipU, flipX]
  · simp [flipO, exO, hk, flipU, flipX]
  · simp [flipO, exO, hk, flipU, flipX]
  · simp [flipO, exO, hk, flipU, flipX]
theorem ex_flip : ∀ {l : List Op}, (∀ o ∈ l, formO o) → ex (l.map flipO) = flipU (ex l)
  | [], _ => rfl
  | o :: l, h => by
    rw [List.map_cons, ex_cons, ex_cons, ex_flip fun x hx => h x (List.mem_cons_of_mem _ hx), ex_flipO (h o (List.mem_cons_self ..))]
    simp [flipU]
theorem form_flip {o : Op} (h : formO o) : formO (flipO o) := by
  rcases h with ⟨hk, h1, h2⟩ | ⟨hk | hk | hk, h1⟩
  · exact .inl (by simp [flipO, hk, h1, h2])
  · exact .inr (by simp [flipO, hk, h1])
  · exact .inr (by simp [flipO, hk, h1])
  · exact .inr (by simp [flipO, hk, h1])
/-- In order, turned back, in order: as if it had not been in order first. -/
def flipL (l : List Op) : List Op := pack (nf [] (flipU (ex l)))
theorem delins (I : List U) (h : AllIns I) : ∀ (J u : List U), nf J (flipU I ++ u) = flipU I ++ nf J u := by
  induction I with
  | nil => intro J u; rfl
  | cons x I ih =>
    intro J u
    obtain ⟨t, rfl⟩ := h x (List.mem_cons_self ..)
    have := ih (fun y hy => h y (List.mem_cons_of_mem _ hy)) J u
    simp only [flipU, List.map_cons, flipX, List.cons_append, nf] at this ⊢
    rw [this]
theorem nf_flip_nf : ∀ (u I J : List U), AllIns I → nf J (flipU (nf I u)) = flipU I ++ nf J (flipU u)
  | [], I, J, h => by
    have := delins I h J []
    rw [List.append_nil] at this
    rw [nf, this]; rfl
  | .ins t :: u, I, J, h => by
    rw [nf, nf_flip_nf u _ J (h.snoc t)]
    simp [flipU, flipX, nf]
  | .del t :: u, I, J, h => by
    rw [nf]
    simp only [flipU, List.map_cons, flipX, nf]
    exact nf_flip_nf u I (J ++ [.ins t]) h
  | .keep t :: u, I, J, h => by
    rw [nf, show flipU (I ++ .keep t :: nf [] u) = flipU I ++ .keep t :: flipU (nf [] u) from by simp [flipU, flipX], delins I h, nf, nf_flip_nf u [] [] .nil]
    rfl
  | .skip :: u, I, J, h => by
    rw [nf, show flipU (I ++ .skip :: nf [] u) = flipU I ++ .skip :: flipU (nf [] u) from by simp [flipU, flipX], delins I h, nf, nf_flip_nf u [] [] .nil]
    rfl
/-- Turned back twice steps are in order. -/
theorem flip_flip (u : List U) : nf [] (flipU (nf [] (flipU u))) = nf [] u := by
  rw [nf_flip_nf _ _ _ .nil, flipU_flipU]; rfl
/-- Steps in order are no more, and their texts no longer. -/
theorem put_len (x : U) (r : List Op) : (put x r).length ≤ r.length + 1 := by
  cases x with
  | skip =>
    cases r with
    | nil => exact Nat.le_refl _
    | cons y r => simp only [put]; split <;> simp only [List.length_cons] <;> omega
  | keep t => exact Nat.le_refl _
  | del t => exact Nat.le_refl _
  | ins t => exact Nat.le_refl _
theorem pack_app_len : ∀ (a b : List U), (pack (a ++ b)).length ≤ a.length + (pack b).length
  | [], b => by simp
  | x :: a, b => by
    have := pack_app_len a b
    have := put_len x (pack (a ++ b))
    simp only [List.cons_append, pack, List.length_cons]; omega
theorem pack_skips_len : ∀ (n : Nat) (b : List U), (pack (List.replicate n .skip ++ b)).length ≤ 1 + (pack b).length
  | 0, b => by simp
  | 1, b => by have := put_len .skip (pack b); rw [Nat.add_comm]; exact this
  | n + 2, b => by
    have ih := pack_skips_len (n + 1) b
    rw [List.replicate_succ, List.cons_append, pack]
    cases hp : pack (List.replicate (n + 1) .skip ++ b) with
    | nil => simp [put]
    | cons y r =>
      have hy : y.f0 = 1 := by
        rw [List.replicate_succ, List.cons_append, pack] at hp
        cases hq : pack (List.replicate n .skip ++ b) with
        | nil => rw [hq] at hp; obtain ⟨rfl, _⟩ := List.cons.inj hp; rfl
        | cons z w =>
          rw [hq] at hp
          simp only [put] at hp
          split at hp <;> (obtain ⟨rfl, _⟩ := List.cons.inj hp; rfl)
      rw [hp] at ih
      simp only [put, if_pos hy, List.length_cons] at *
      omega
theorem nf_pack_len : ∀ (l : List Op) (I : List U), (∀ o ∈ l, formO o) → (pack (nf I (ex l))).length ≤ I.length + l.length
  | [], I, _ => by rw [ex_nil, nf]; exact pack_len I
  | o :: l, I, h => by
    have hl : ∀ x ∈ l, formO x := fun x hx => h x (List.mem_cons_of_mem _ hx)
    rw [ex_cons, List.length_cons]
    rcases h o (List.mem_cons_self ..) with ⟨hk, h1, _⟩ | ⟨hk | hk | hk, _⟩
    · have epos : o.f1.toNat = (o.f1.toNat - 1) + 1 := by omega
      rw [show exO o = List.replicate o.f1.toNat .skip from by simp [exO, hk]]
      have e : nf I (List.replicate o.f1.toNat .skip ++ ex l) = I ++ (List.replicate o.f1.toNat .skip ++ nf [] (ex l)) := by
        rw [epos, List.replicate_succ, List.cons_append, nf, nf_skips]; rfl
      rw [e]
      have i1 := pack_app_len I (List.replicate o.f1.toNat .skip ++ nf [] (ex l))
      have i2 := pack_skips_len o.f1.toNat (nf [] (ex l))
      have i3 := nf_pack_len l [] hl
      simp only [List.length_nil] at i3
      omega
    · rw [show exO o = [.keep o.f2] from by simp [exO, hk], List.singleton_append, nf]
      have i1 := pack_app_len I (.keep o.f2 :: nf [] (ex l))
      have i2 := put_len (.keep o.f2) (pack (nf [] (ex l)))
      have i3 := nf_pack_len l [] hl
      simp only [List.length_nil, pack] at i1 i3
      omega
    · rw [show exO o = [.del o.f2] from by simp [exO, hk], List.singleton_append, nf]
      have i2 := put_len (.del o.f2) (pack (nf I (ex l)))
      have i3 := nf_pack_len l I hl
      simp only [pack]
      omega
    · rw [show exO o = [.ins o.f2] from by simp [exO, hk], List.singleton_append, nf]
      have i3 := nf_pack_len l (I ++ [.ins o.f2]) hl
      simp only [List.length_append, List.length_cons, List.length_nil] at i3
      omega
def txU : U → ByteArray
  | .skip => ByteArray.empty
  | .keep t => t
  | .del t => t
  | .ins t => t
theorem tx_pack (u : List U) : ∀ o ∈ pack u, o.f2 = ByteArray.empty ∨ ∃ x ∈ u, o.f2 = txU x := by
  intro o ho
  by_cases hk : o.f0 = 1
  · exact .inl (pack_pos u o ho hk).2
  · refine .inr ?_
    have hm : ∀ x ∈ exO o, x ∈ ex (pack u) := fun x hx => List.mem_flatMap.mpr ⟨o, ho, hx⟩
    rw [ex_pack] at hm
    unfold exO at hm
    rw [if_neg hk] at hm
    split at hm
    · exact ⟨_, hm _ (List.mem_cons_self ..), rfl⟩
    · split at hm
      · exact ⟨_, hm _ (List.mem_cons_self ..), rfl⟩
      · exact ⟨_, hm _ (List.mem_cons_self ..), rfl⟩
theorem nf_mem : ∀ (u I : List U) (x : U), x ∈ nf I u → x ∈ I ∨ x ∈ u
  | [], I, x, h => .inl h
  | .ins t :: u, I, x, h => by
    rw [nf] at h
    rcases nf_mem u _ x h with h | h
    · rcases List.mem_append.mp h with h | h
      · exact .inl h
      · exact .inr (by rw [List.mem_singleton.mp h]; exact List.mem_cons_self ..)
    · exact .inr (List.mem_cons_of_mem _ h)
  | .del t :: u, I, x, h => by
    rw [nf] at h
    rcases List.mem_cons.mp h with h | h
    · exact .inr (by rw [h]; exact List.mem_cons_self ..)
    · rcases nf_mem u I x h with h | h
      · exact .inl h
      · exact .inr (List.mem_cons_of_mem _ h)
  | .keep t :: u, I, x, h => by
    rw [nf] at h
    rcases List.mem_append.mp h with h | h
    · exact .inl h
    · rcases List.mem_cons.mp h with h | h
      · exact .inr (by rw [h]; exact List.mem_cons_self ..)
      · rcases nf_mem u [] x h with h | h
        · simp at h
        · exact .inr (List.mem_cons_of_mem _ h)
  | .skip :: u, I, x, h => by
    rw [nf] at h
    rcases List.mem_append.mp h with h | h
    · exact .inl h
    · rcases List.mem_cons.mp h with h | h
      · exact .inr (by rw [h]; exact List.mem_cons_self ..)
      · rcases nf_mem u [] x h with h | h
        · simp at h
        · exact .inr (List.mem_cons_of_mem _ h)
theorem tx_ex {l : List Op} {x : U} (h : x ∈ ex l) : txU x = ByteArray.empty ∨ ∃ o ∈ l, txU x = o.f2 := by
  obtain ⟨o, ho, hx⟩ := List.mem_flatMap.mp h
  unfold exO at hx
  split at hx
  · rw [List.eq_of_mem_replicate hx]; exact .inl rfl
  · refine .inr ⟨o, ho, ?_⟩
    split at hx
    · rw [List.mem_singleton.mp hx]; rfl
    · split at hx
      · rw [List.mem_singleton.mp hx]; rfl
      · rw [List.mem_singleton.mp hx]; rfl
theorem Sm.norm {l : List Op} (h : Sm l) (hf : ∀ o ∈ l, formO o) : Sm (normL l) := by
  unfold normL
  refine ⟨?_, fun o ho => ?_⟩
  · have := nf_pack_len l [] hf
    have := h.1
    simp only [List.length_nil] at *
    omega
  · have he : ByteArray.empty.size = 0 := rfl
    rcases tx_pack _ o ho with e | ⟨x, hx, e⟩
    · rw [e, he]; omega
    · rcases nf_mem _ _ _ hx with hx | hx
      · simp at hx
      · rcases tx_ex hx with e2 | ⟨y, hy, e2⟩
        · rw [e, e2, he]; omega
        · rw [e, e2]; exact h.2 y hy
end Go.Proofs.Ytfoponahdidddaa.P
