/- Own: the steps as single lines: what they are in order, and packed again. -/
import Derived.Test.YtfoponahdidddaaMb
namespace Go.Proofs.Ytfoponahdidddaa.P
open Go.RowKit Go.Proofs.YtfoponahdidddaaW.PrintWords Go.Proofs.YtfoponahdidddaaW.PrintLast Go.Proofs.YtfoponahdidddaaW.PrintMore

/-- One line of a patch: one that is not known stays, one stays, goes, comes. -/
inductive U where
  | skip
  | keep (t : ByteArray)
  | del (t : ByteArray)
  | ins (t : ByteArray)
def exO (o : Op) : List U := if o.f0 = 1 then List.replicate o.f1.toNat .skip else if o.f0 = 2 then [.keep o.f2] else if o.f0 = 3 then [.del o.f2] else [.ins o.f2]
def ex (l : List Op) : List U := l.flatMap exO
def opU : U → Op
  | .skip => ⟨1, 1, ByteArray.empty⟩
  | .keep t => ⟨2, 0, t⟩
  | .del t => ⟨3, 0, t⟩
  | .ins t => ⟨4, 0, t⟩
/-- A line ahead of packed ones. -/
def put : U → List Op → List Op
  | .skip, o :: r => if o.f0 = 1 then ⟨1, o.f1 + 1, o.f2⟩ :: r else ⟨1, 1, ByteArray.empty⟩ :: o :: r
  | u, r => opU u :: r
def pack : List U → List Op
  | [] => []
  | x :: u => put x (pack u)
/-- In order: of what comes and goes between two lines that stay first what goes. -/
def nf (I : List U) : List U → List U
  | [] => I
  | .ins t :: u => nf (I ++ [.ins t]) u
  | .del t :: u => .del t :: nf I u
  | .keep t :: u => I ++ .keep t :: nf [] u
  | .skip :: u => I ++ .skip :: nf [] u
theorem ex_nil : ex [] = [] := rfl
theorem ex_cons (o : Op) (l : List Op) : ex (o :: l) = exO o ++ ex l := rfl
theorem ex_app (p q : List Op) : ex (p ++ q) = ex p ++ ex q := by simp [ex]
def isSkip : U → Bool
  | .skip => true
  | _ => false
theorem put_ne {x : U} (h : isSkip x = false) (r : List Op) : put x r = opU x :: r := by
  cases x <;> first | (simp [isSkip] at h; done) | rfl
theorem pack_app_ne : ∀ (p q : List U), (∀ x ∈ p, isSkip x = false) → pack (p ++ q) = p.map opU ++ pack q
  | [], q, _ => rfl
  | x :: p, q, h => by
    simp only [List.cons_append, pack, List.map_cons]
    rw [put_ne (h x (List.mem_cons_self ..)), pack_app_ne p q fun y hy => h y (List.mem_cons_of_mem _ hy)]
/-- What does not begin with a Skip. -/
def NoSk (l : List Op) : Prop := ∀ o r, l = o :: r → o.f0 ≠ 1
def NoSkU (u : List U) : Prop := ∀ x r, u = x :: r → isSkip x = false
theorem opU_kind {x : U} (h : isSkip x = false) : (opU x).f0 ≠ 1 := by
  cases x <;> first | (simp [isSkip] at h; done) | simp [opU]
theorem NoSkU.pack {u : List U} (h : NoSkU u) : NoSk (pack u) := by
  intro o r e
  cases u with
  | nil => simp [P.pack] at e
  | cons x u =>
    have hx := h x u rfl
    rw [P.pack, put_ne hx] at e
    obtain ⟨rfl, _⟩ := List.cons.inj e
    exact opU_kind hx
theorem pack_skips : ∀ (n : Nat) (u : List U), NoSkU u → pack (List.replicate (n + 1) .skip ++ u) = ⟨1, (n + 1 : Nat), ByteArray.empty⟩ :: pack u
  | 0, u, h => by
    have := h.pack
    show put .skip (pack u) = _
    cases hp : pack u with
    | nil => rfl
    | cons o r =>
      have hk := this o r hp
      simp [put, hk]
  | n + 1, u, h => by
    rw [List.replicate_succ, List.cons_append, pack, pack_skips n u h]
    simp [put]
theorem nf_app_ne : ∀ (d I u : List U), (∀ x ∈ d, ∃ t, x = .del t) → nf I (d ++ u) = d ++ nf I u
  | [], I, u, _ => rfl
  | x :: d, I, u, h => by
    obtain ⟨t, rfl⟩ := h x (List.mem_cons_self ..)
    simp only [List.cons_append, nf]
    rw [nf_app_ne d I u fun y hy => h y (List.mem_cons_of_mem _ hy)]
/-- A whole run of changes. -/
def delsU (u : List U) : List U := u.filter fun x => match x with | .del _ => true | _ => false
def inssU (u : List U) : List U := u.filter fun x => match x with | .ins _ => true | _ => false
def isCh : U → Bool
  | .del _ => true
  | .ins _ => true
  | _ => false
theorem nf_run : ∀ (d I u : List U), (∀ x ∈ d, isCh x = true) → nf I (d ++ u) = delsU d ++ nf (I ++ inssU d) u
  | [], I, u, _ => by simp [delsU, inssU]
  | x :: d, I, u, h => by
    have hx := h x (List.mem_cons_self ..)
    have i := fun I => nf_run d I u fun y hy => h y (List.mem_cons_of_mem _ hy)
    cases x with
    | skip => simp [isCh] at hx
    | keep t => simp [isCh] at hx
    | del t => simp only [List.cons_append, nf]; rw [i]; rfl
    | ins t =>
      simp only [List.cons_append, nf]
      rw [i, List.append_assoc]; rfl
theorem nf_noSk : ∀ (u I : List U), (∀ x ∈ I, isSkip x = false) → (I = [] → NoSkU u) → NoSkU (nf I u)
  | [], I, h, _ => by
    intro x r e
    rw [nf] at e
    exact h x (by rw [e]; exact List.mem_cons_self ..)
  | .ins t :: u, I, h, _ => by
    rw [nf]
    refine nf_noSk u (I ++ [.ins t]) (fun x hx => ?_) (fun e => by simp at e)
    rcases List.mem_append.mp hx with hx | hx
    · exact h x hx
    · rw [List.mem_singleton.mp hx]; rfl
  | .del t :: u, I, h, _ => by
    intro x r e
    rw [nf] at e
    obtain ⟨rfl, _⟩ := List.cons.inj e
    rfl
  | .keep t :: u, I, h, _ => by
    intro x r e
    rw [nf] at e
    cases I with
    | nil => obtain ⟨rfl, _⟩ := List.cons.inj e; rfl
    | cons y I => obtain ⟨rfl, _⟩ := List.cons.inj e; exact h _ (List.mem_cons_self ..)
  | .skip :: u, I, h, h0 => by
    intro x r e
    rw [nf] at e
    cases I with
    | nil => exact absurd (h0 rfl .skip u rfl) (by simp [isSkip])
    | cons y I => obtain ⟨rfl, _⟩ := List.cons.inj e; exact h _ (List.mem_cons_self ..)
/-- What is packed can be unpacked. -/
theorem exO_opU {x : U} : exO (opU x) = [x] := by cases x <;> simp [exO, opU]
theorem pack_pos : ∀ (u : List U), ∀ o ∈ pack u, o.f0 = 1 → 1 ≤ o.f1 ∧ o.f2 = ByteArray.empty
  | [], o, ho => by simp [pack] at ho
  | x :: u, o, ho => by
    have ih := pack_pos u
    rw [pack] at ho
    cases x with
    | skip =>
      cases hp : pack u with
      | nil =>
        rw [hp] at ho
        simp [put, opU] at ho
        subst ho; simp
      | cons y r =>
        rw [hp] at ho ih
        by_cases hy : y.f0 = 1
        · simp only [put, if_pos hy] at ho
          rcases List.mem_cons.mp ho with rfl | ho
          · have := ih y (List.mem_cons_self ..) hy
            intro _
            exact ⟨by show 1 ≤ y.f1 + 1; omega, this.2⟩
          · exact ih o (List.mem_cons_of_mem _ ho)
        · simp only [put, if_neg hy] at ho
          rcases List.mem_cons.mp ho with rfl | ho
          · intro _; simp
          · exact ih o ho
    | keep t =>
      rw [put_ne rfl] at ho
      rcases List.mem_cons.mp ho with rfl | ho
      · intro h; simp [opU] at h
      · exact ih o ho
    | del t =>
      rw [put_ne rfl] at ho
      rcases List.mem_cons.mp ho with rfl | ho
      · intro h; simp [opU] at h
      · exact ih o ho
    | ins t =>
      rw [put_ne rfl] at ho
      rcases List.mem_cons.mp ho with rfl | ho
      · intro h; simp [opU] at h
      · exact ih o ho
theorem ex_pack : ∀ (u : List U), ex (pack u) = u
  | [] => rfl
  | x :: u => by
    have ih := ex_pack u
    rw [pack]
    by_cases hx : isSkip x = false
    · rw [put_ne hx, ex_cons, exO_opU, ih]; rfl
    · cases x with
      | skip =>
        cases hp : pack u with
        | nil =>
          rw [hp] at ih
          rw [show put .skip [] = [opU .skip] from rfl, ex_cons, exO_opU, ih]; rfl
        | cons y r =>
          rw [hp] at ih
          by_cases hy : y.f0 = 1
          · have := (pack_pos u y (by rw [hp]; exact List.mem_cons_self ..) hy).1
            simp only [put, if_pos hy]
            rw [ex_cons] at ih ⊢
            have e1 : exO y = List.replicate y.f1.toNat .skip := by simp [exO, hy]
            have e2 : exO ⟨1, y.f1 + 1, y.f2⟩ = .skip :: List.replicate y.f1.toNat .skip := by
              simp only [exO, if_true]
              rw [show (y.f1 + 1).toNat = y.f1.toNat + 1 from by omega, List.replicate_succ]
            rw [e2, ← e1, List.cons_append, ih]
          · simp only [put, if_neg hy]
            rw [ex_cons, show (⟨1, 1, ByteArray.empty⟩ : Op) = opU .skip from rfl, exO_opU, ih]; rfl
      | keep t => exact absurd rfl hx
      | del t => exact absurd rfl hx
      | ins t => exact absurd rfl hx
theorem pack_inj {u v : List U} (h : pack u = pack v) : u = v := by rw [← ex_pack u, h, ex_pack]
/-- The sides: what stands there, what comes to stand there; a line that is not known is none. -/
def olds : List U → List (Option ByteArray)
  | [] => []
  | .skip :: u => none :: olds u
  | .keep t :: u => some t :: olds u
  | .del t :: u => some t :: olds u
  | .ins _ :: u => olds u
def news : List U → List (Option ByteArray)
  | [] => []
  | .skip :: u => none :: news u
  | .keep t :: u => some t :: news u
  | .del _ :: u => news u
  | .ins t :: u => some t :: news u
theorem olds_app : ∀ (p q : List U), olds (p ++ q) = olds p ++ olds q
  | [], _ => rfl
  | x :: p, q => by cases x <;> simp [olds, olds_app p q]
theorem news_app : ∀ (p q : List U), news (p ++ q) = news p ++ news q
  | [], _ => rfl
  | x :: p, q => by cases x <;> simp [news, news_app p q]
def AllIns (I : List U) : Prop := ∀ x ∈ I, ∃ t, x = .ins t
theorem AllIns.nil : AllIns [] := fun x h => by simp at h
theorem AllIns.snoc {I : List U} (h : AllIns I) (t : ByteArray) : AllIns (I ++ [.ins t]) := by
  intro x hx
  rcases List.mem_append.mp hx with hx | hx
  · exact h x hx
  · exact ⟨t, List.mem_singleton.mp hx⟩
theorem AllIns.olds : ∀ {I : List U}, AllIns I → olds I = []
  | [], _ => rfl
  | x :: I, h => by
    obtain ⟨t, rfl⟩ := h x (List.mem_cons_self ..)
    rw [P.olds]
    exact AllIns.olds (I := I) fun y hy => h y (List.mem_cons_of_mem _ hy)
theorem olds_nf : ∀ (u I : List U), AllIns I → olds (nf I u) = olds u
  | [], I, h => by rw [nf, h.olds]; rfl
  | .ins t :: u, I, h => by rw [nf, olds_nf u _ (h.snoc t)]; rfl
  | .del t :: u, I, h => by simp only [nf, olds]; rw [olds_nf u I h]
  | .keep t :: u, I, h => by simp only [nf, olds_app, olds, h.olds]; rw [olds_nf u [] .nil]; rfl
  | .skip :: u, I, h => by simp only [nf, olds_app, olds, h.olds]; rw [olds_nf u [] .nil]; rfl
theorem news_nf : ∀ (u I : List U), news (nf I u) = news I ++ news u
  | [], I => by simp [nf, news]
  | .ins t :: u, I => by simp only [nf]; rw [news_nf u, news_app]; simp [news]
  | .del t :: u, I => by simp only [nf, news]; rw [news_nf u I]
  | .keep t :: u, I => by simp only [nf, news_app, news]; rw [news_nf u []]; simp [news]
  | .skip :: u, I => by simp only [nf, news_app, news]; rw [news_nf u []]; simp [news]
theorem olds_nf0 (u : List U) : olds (nf [] u) = olds u := olds_nf u [] .nil
theorem news_nf0 (u : List U) : news (nf [] u) = news u := by rw [news_nf]; simp [news]
/-- In order once is in order. -/
theorem nf_ins (I : List U) (h : AllIns I) : ∀ (J u : List U), nf J (I ++ u) = nf (J ++ I) u := by
  induction I with
  | nil => intro J u; simp
  | cons x I ih =>
    intro J u
    obtain ⟨t, rfl⟩ := h x (List.mem_cons_self ..)
    rw [List.cons_append, nf, ih (fun y hy => h y (List.mem_cons_of_mem _ hy)), List.append_assoc]
    rfl
theorem nf_nf : ∀ (u I J : List U), AllIns I → nf J (nf I u) = nf (J ++ I) u
  | [], I, J, h => by
    have := nf_ins I h J []
    rw [List.append_nil] at this
    rw [nf, this]
  | .ins t :: u, I, J, h => by rw [nf, nf_nf u _ J (h.snoc t), nf, List.append_assoc]
  | .del t :: u, I, J, h => by rw [nf, nf, nf_nf u I J h, nf]
  | .keep t :: u, I, J, h => by rw [nf, nf_ins I h, nf, nf, nf_nf u [] [] .nil]; rfl
  | .skip :: u, I, J, h => by rw [nf, nf_ins I h, nf, nf, nf_nf u [] [] .nil]; rfl
end Go.Proofs.Ytfoponahdidddaa.P
