/- Own: two that are gone through together, line by line. -/
import Derived.Test.YtkiklmmpflndbaaDb
import Derived.Test.YtkiklmmpflndbaaT0
namespace Go.Proofs.Ytkiklmmpflndbaa.P
open Go.RowKit Go.Proofs.YtkiklmmpflndbaaW.PrintWords Go.Proofs.YtkiklmmpflndbaaW.PrintLast Go.Proofs.YtkiklmmpflndbaaW.PrintMore
set_option linter.unusedSimpArgs false
set_option linter.unusedVariables false

/-- A line of the middle. -/
def midT : U → U → Option (List TU)
  | .skip, .skip => some [(.skip, 0)]
  | .skip, .keep t => some [(.keep t, 0)]
  | .skip, .del t => some [(.del t, 2)]
  | .keep s, .skip => some [(.keep s, 0)]
  | .keep s, .keep t => if s = t then some [(.keep t, 0)] else none
  | .keep s, .del t => if s = t then some [(.del t, 2)] else none
  | .ins s, .skip => some [(.ins s, 1)]
  | .ins s, .keep t => if s = t then some [(.ins s, 1)] else none
  | .ins s, .del t => if s = t then some [(.ins s, 3)] else none
  | _, _ => none
def opnX : U → Bool
  | .skip => false
  | x => openT (txU x)
def opM (x y : U) : Bool := opnX x || opnX y
def inner (x : U) (f : Bool → List U → Option (List TU)) : Bool → List U → Option (List TU)
  | e, [] => if e = true then none else (midT x .skip).bind fun a => (f (opM x .skip) []).map (a ++ ·)
  | e, y :: q => match y with
    | .ins t => (inner x f e q).map ((.ins t, 2) :: ·)
    | y => if e = true then none else (midT x y).bind fun a => (f (opM x y) q).map (a ++ ·)
def endQ : Bool → List U → Option (List TU)
  | _, [] => some []
  | e, y :: q => match y with
    | .ins t => (endQ e q).map ((.ins t, 2) :: ·)
    | y => if e = true then none else (midT .skip y).bind fun a => (endQ (opM .skip y) q).map (a ++ ·)
/-- All lines, with whose they are; nothing: they never go together. -/
def cmpT : List U → Bool → List U → Option (List TU)
  | [] => endQ
  | x :: p => match x with
    | .del t => fun e q => (cmpT p e q).map ((.del t, 1) :: ·)
    | x => inner x (cmpT p)
def nxU : List U → U
  | [] => .skip
  | x :: _ => x
theorem nxU_cons (x : U) (p : List U) : nxU (x :: p) = x := rfl
def NoD (p : List U) : Prop := ∀ t r, p ≠ .del t :: r
def NoI (p : List U) : Prop := ∀ t r, p ≠ .ins t :: r
theorem cmpT_nil (e : Bool) : cmpT [] e [] = some [] := rfl
theorem cmpT_del (t : ByteArray) (p q : List U) (e : Bool) : cmpT (.del t :: p) e q = (cmpT p e q).map ((.del t, 1) :: ·) := rfl
theorem cmpT_ins {p : List U} (h : NoD p) (t : ByteArray) (q : List U) (e : Bool) : cmpT p e (.ins t :: q) = (cmpT p e q).map ((.ins t, 2) :: ·) := by
  cases p with
  | nil => rfl
  | cons x p => cases x <;> first | rfl | exact absurd rfl (h _ _)
theorem cmpT_mid {p q : List U} (hp : NoD p) (hq : NoI q) (hne : p ≠ [] ∨ q ≠ []) (e : Bool) :
    cmpT p e q = if e = true then none else (midT (nxU p) (nxU q)).bind fun a => (cmpT p.tail (opM (nxU p) (nxU q)) q.tail).map (a ++ ·) := by
  cases p with
  | nil =>
    cases q with
    | nil => simp at hne
    | cons y q => cases y <;> first | rfl | exact absurd rfl (hq _ _)
  | cons x p =>
    cases q with
    | nil => cases x <;> first | rfl | exact absurd rfl (hp _ _)
    | cons y q =>
      cases x <;> first | exact absurd rfl (hp _ _) | (cases y <;> first | rfl | exact absurd rfl (hq _ _))
/-- What is shown by going through both. -/
theorem walk_ind {C : List U → List U → Prop} (nil : C [] []) (del : ∀ t p q, C p q → C (.del t :: p) q) (ins : ∀ t p q, NoD p → C p q → C p (.ins t :: q))
    (mid : ∀ p q, NoD p → NoI q → p ≠ [] ∨ q ≠ [] → C p.tail q.tail → C p q) : ∀ p q, C p q := by
  have all : ∀ n p q, p.length + q.length ≤ n → C p q := by
    intro n
    induction n with
    | zero =>
      intro p q h
      obtain rfl : p = [] := List.length_eq_zero_iff.mp (by omega)
      obtain rfl : q = [] := List.length_eq_zero_iff.mp (by omega)
      exact nil
    | succ n ih =>
      intro p q h
      by_cases hp : NoD p
      · by_cases hq : NoI q
        · by_cases hne : p ≠ [] ∨ q ≠ []
          · refine mid p q hp hq hne (ih _ _ ?_)
            rw [List.length_tail, List.length_tail]
            rcases hne with h0 | h0
            · have := List.length_pos_iff.mpr h0; omega
            · have := List.length_pos_iff.mpr h0; omega
          · have h1 : p = [] := Classical.byContradiction fun x => hne (.inl x)
            have h2 : q = [] := Classical.byContradiction fun x => hne (.inr x)
            rw [h1, h2]; exact nil
        · cases q with
          | nil => exact absurd (fun t r e => by simp at e) hq
          | cons y q =>
            cases y with
            | ins t => exact ins t p q hp (ih _ _ (by simp only [List.length_cons] at h; omega))
            | skip => exact absurd (fun t r e => by simp at e) hq
            | keep t => exact absurd (fun t r e => by simp at e) hq
            | del t => exact absurd (fun t r e => by simp at e) hq
      · cases p with
        | nil => exact absurd (fun t r e => by simp at e) hp
        | cons x p =>
          cases x with
          | del t => exact del t p q (ih _ _ (by simp only [List.length_cons] at h; omega))
          | skip => exact absurd (fun t r e => by simp at e) hp
          | keep t => exact absurd (fun t r e => by simp at e) hp
          | ins t => exact absurd (fun t r e => by simp at e) hp
  exact fun p q => all _ p q (Nat.le_refl _)
/-- The lines alone, without those that came and went. -/
def un (w : List TU) : List U := (w.filter fun x => decide (x.2 ≠ 3)).map (·.1)
theorem un_app (a b : List TU) : un (a ++ b) = un a ++ un b := by simp [un]
theorem un_cons {x : TU} (h : x.2 ≠ 3) (w : List TU) : un (x :: w) = x.1 :: un w := by simp [un, h]
def midU (x y : U) : Option (List U) := (midT x y).map un
def cmpU (p : List U) (e : Bool) (q : List U) : Option (List U) := (cmpT p e q).map un
theorem cmpU_nil (e : Bool) : cmpU [] e [] = some [] := rfl
theorem cmpU_del (t : ByteArray) (p q : List U) (e : Bool) : cmpU (.del t :: p) e q = (cmpU p e q).map (.del t :: ·) := by
  unfold cmpU
  rw [cmpT_del, Option.map_map, Option.map_map]
  congr 1
theorem cmpU_ins {p : List U} (h : NoD p) (t : ByteArray) (q : List U) (e : Bool) : cmpU p e (.ins t :: q) = (cmpU p e q).map (.ins t :: ·) := by
  unfold cmpU
  rw [cmpT_ins h, Option.map_map, Option.map_map]
  congr 1
theorem cmpU_mid {p q : List U} (hp : NoD p) (hq : NoI q) (hne : p ≠ [] ∨ q ≠ []) (e : Bool) :
    cmpU p e q = if e = true then none else (midU (nxU p) (nxU q)).bind fun a => (cmpU p.tail (opM (nxU p) (nxU q)) q.tail).map (a ++ ·) := by
  unfold cmpU midU
  rw [cmpT_mid hp hq hne]
  split
  · rfl
  · cases midT (nxU p) (nxU q) with
    | none => rfl
    | some a =>
      simp only [Option.bind_some, Option.map_some, Option.map_map]
      congr 1
      funext r
      exact un_app a r
end Go.Proofs.Ytkiklmmpflndbaa.P
