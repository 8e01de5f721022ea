/- Own and printed texts that the theorem of WitnessLeast reaches, put together. -/
import Derived.Test.YtkiklmmpflndbaaDoorqWitnessLeast5
import Derived.Test.YtkiklmmpflndbaaDoorqWitnessLeast3
set_option linter.unusedVariables false
set_option linter.unusedSimpArgs false
namespace Go.Proofs.YtkiklmmpflndbaaDoor.P
open Go.RowKit Go.Proofs.YtkiklmmpflndbaaDoorW.PrintWords Go.Proofs.YtkiklmmpflndbaaDoorW.PrintLast Go.Proofs.YtkiklmmpflndbaaDoorW.PrintMore
def okAll (l : List Op) : Prop := ∀ o ∈ l, okOne o = true
theorem okAll.tail {o : Op} {l : List Op} (h : okAll (o :: l)) : okAll l := fun x hx => h x (List.mem_cons_of_mem _ hx)
theorem okAll.head {o : Op} {l : List Op} (h : okAll (o :: l)) : okOne o = true := h o (List.mem_cons_self ..)
def exS (os : List Step) : List TU := os.flatMap fun s => (exO s.f0).map fun u => (u, if s.f2 = true then 3 else s.f1)
theorem exS_cons (s : Step) (os : List Step) : exS (s :: os) = (exO s.f0).map (fun u => (u, if s.f2 = true then 3 else s.f1)) ++ exS os := by simp [exS]
def uO (o : Op) : U := if o.f0 = 1 then .skip else if o.f0 = 2 then .keep o.f2 else if o.f0 = 3 then .del o.f2 else .ins o.f2
theorem exO_skip {o : Op} (hk : o.f0 = 1) : exO o = List.replicate o.f1.toNat .skip := by simp [exO, hk]
theorem exO_ne {o : Op} (hk : o.f0 ≠ 1) : exO o = [uO o] := by
 unfold exO uO
 rw [if_neg hk, if_neg hk]
 split
 ·rfl
 ·split <;> rfl
theorem wrapsub {a n : Int} (h1 : 1 ≤ n) (h2 : n < a) (h3 : a ≤ 2147483648) : wrap64 (a - n) = a - n := by unfold wrap64; omega
theorem okAll.drop {ps : List Op} (h : okAll ps) {n : Int} (hn : 1 ≤ n) : okAll (dropL ps n) := by
 cases ps with
 | nil => exact h
 | cons o r =>
  rw [dropL]
  split
  ·rename_i c
   intro x hx
   rcases List.mem_cons.mp hx with rfl | hx
   ·obtain ⟨h1, h2, h3⟩ := okOne_skip h.head c.1
    unfold okOne
    rw [if_pos c.1, wrapsub hn c.2 h2, h3]
    have a1 : 1 ≤ o.f1 - n := by omega
    have a2 : o.f1 - n ≤ 2147483648 := by omega
    simp [a1, a2]
   ·exact h.tail x hx
  ·exact h.tail
theorem drop_len (ps : List Op) (n : Int) : (dropL ps n).length ≤ ps.length := by
 cases ps with
 | nil => exact Nat.le_refl _
 | cons o r => rw [dropL]; split <;> simp
theorem replicate_toNat {a : Int} (h : 1 ≤ a) : List.replicate a.toNat U.skip = .skip :: List.replicate (a - 1).toNat .skip := by
 rw [show a.toNat = (a - 1).toNat + 1 from by omega, List.replicate_succ]
theorem tail1 {ps : List Op} (h : okAll ps) : ex (dropL ps 1) = (ex ps).tail := by
 cases ps with
 | nil => rfl
 | cons o r =>
  by_cases hk : o.f0 = 1
  ·obtain ⟨h1, h2, h3⟩ := okOne_skip h.head hk
   rw [ex_cons, exO_skip hk, replicate_toNat h1]
   rw [dropL]
   by_cases c : o.f1 > 1
   ·rw [if_pos ⟨hk, c⟩, ex_cons, exO_skip (o := ⟨o.f0, wrap64 (o.f1 - 1), o.f2⟩) hk, wrapsub (by omega) c h2]; rfl
   ·rw [if_neg (fun x => c x.2), show (o.f1 - 1).toNat = 0 from by omega]; rfl
  ·rw [dropL]
   rw [if_neg (fun x => hk x.1), ex_cons, exO_ne hk]; rfl
theorem dropSkip {ps : List Op} (h : okAll ps) {n : Int} (hn : 1 ≤ n) (hk : (nextL ps 2147483648).f0 = 1) (hle : n ≤ (nextL ps 2147483648).f1) :
  ex ps = List.replicate n.toNat .skip ++ ex (dropL ps n) ∨ ex ps = [] ∧ ex (dropL ps n) = [] := by
 cases ps with
 | nil => exact .inr ⟨rfl, rfl⟩
 | cons o r =>
  left
  have hk : o.f0 = 1 := hk
  have hle : n ≤ o.f1 := hle
  obtain ⟨h1, h2, h3⟩ := okOne_skip h.head hk
  rw [dropL]
  by_cases c : o.f1 > n
  ·rw [if_pos ⟨hk, c⟩, ex_cons, ex_cons, exO_skip hk, exO_skip (o := ⟨o.f0, wrap64 (o.f1 - n), o.f2⟩) hk, wrapsub hn c h2, ← List.append_assoc, List.replicate_append_replicate]
   congr 2
   show o.f1.toNat = n.toNat + (o.f1 - n).toNat
   omega
  ·rw [if_neg (fun x => c x.2), ex_cons, exO_skip hk, show o.f1 = n from by omega]
theorem cmpT_skips : ∀ (n : Nat) (p q p' q' : List U), (p = List.replicate (n + 1) .skip ++ p' ∨ p = [] ∧ p' = []) → (q = List.replicate (n + 1) .skip ++ q' ∨ q = [] ∧ q' = []) → (p ≠ [] ∨ q ≠ []) →
  cmpT p false q = (cmpT p' false q').map (List.replicate (n + 1) ((.skip, 0) : TU) ++ ·) := by
 have hd : ∀ (n : Nat) (p p' : List U), (p = List.replicate (n + 1) .skip ++ p' ∨ p = [] ∧ p' = []) → nxU p = .skip ∧ NoD p ∧ NoI p ∧ (p.tail = List.replicate n .skip ++ p' ∨ p.tail = [] ∧ p' = []) := by
  intro n p p' h
  rcases h with rfl | ⟨rfl, rfl⟩
  ·rw [List.replicate_succ]
   exact ⟨rfl, fun t r e => by simp at e, fun t r e => by simp at e, .inl rfl⟩
  ·exact ⟨rfl, fun t r e => by simp at e, fun t r e => by simp at e, .inr ⟨rfl, rfl⟩⟩
 intro n
 induction n with
 | zero =>
  intro p q p' q' hp hq hne
  obtain ⟨p1, p2, _, p4⟩ := hd 0 p p' hp
  obtain ⟨q1, _, q3, q4⟩ := hd 0 q q' hq
  rw [cmpT_mid p2 q3 hne, p1, q1, if_neg (by simp)]
  have e1 : p.tail = p' := by rcases p4 with h | ⟨h, h'⟩ <;> simp [h, *]
  have e2 : q.tail = q' := by rcases q4 with h | ⟨h, h'⟩ <;> simp [h, *]
  rw [e1, e2]; rfl
 | succ n ih =>
  intro p q p' q' hp hq hne
  obtain ⟨p1, p2, _, p4⟩ := hd (n + 1) p p' hp
  obtain ⟨q1, _, q3, q4⟩ := hd (n + 1) q q' hq
  rw [cmpT_mid p2 q3 hne, p1, q1, if_neg (by simp)]
  have hne' : p.tail ≠ [] ∨ q.tail ≠ [] := by
   rcases hp with rfl | ⟨rfl, rfl⟩
   ·left; simp [List.replicate_succ]
   ·rcases hq with rfl | ⟨rfl, rfl⟩
    ·right; simp [List.replicate_succ]
    ·simp at hne
  show (some [((.skip, 0) : TU)]).bind (fun a => (cmpT p.tail (opM .skip .skip) q.tail).map (a ++ ·)) = _
  rw [Option.bind_some, show opM .skip .skip = false from rfl, ih p.tail q.tail p' q' p4 q4 hne', Option.map_map, List.replicate_succ (n := n + 1)]
  rfl
theorem nx_ex {ps : List Op} (h : okAll ps) : nxU (ex ps) = uO (nextL ps 2147483648) := by
 cases ps with
 | nil => rfl
 | cons o r =>
  show nxU (ex (o :: r)) = uO o
  rw [ex_cons]
  by_cases hk : o.f0 = 1
  ·rw [exO_skip hk, replicate_toNat (okOne_skip h.head hk).1]; simp [uO, hk, nxU]
  ·rw [exO_ne hk]; rfl
theorem ex_ne_nil {o : Op} {r : List Op} (h : okOne o = true) : ex (o :: r) ≠ [] := by
 rw [ex_cons]
 by_cases hk : o.f0 = 1
 ·rw [exO_skip hk, replicate_toNat (okOne_skip h hk).1]; simp
 ·rw [exO_ne hk]; simp
theorem head_cases {ps : List Op} (h : okAll ps) : NoD (ex ps) ∨ ∃ o r, ps = o :: r ∧ o.f0 = 3 ∧ ex ps = .del o.f2 :: ex r := by
 cases ps with
 | nil => exact .inl fun t r e => by simp [ex] at e
 | cons o r =>
  by_cases hk : o.f0 = 3
  ·exact .inr ⟨o, r, rfl, hk, by rw [ex_cons, exO_ne (by omega)]; simp [uO, hk]⟩
  ·left
   intro t s e
   have := nx_ex h
   rw [e] at this
   have hu : uO o = .del t := this.symm
   unfold uO at hu
   split at hu
   ·simp at hu
   ·split at hu
    ·simp at hu
    ·simp [hk] at hu
theorem head_casesI {ps : List Op} (h : okAll ps) : NoI (ex ps) ∨ ∃ o r, ps = o :: r ∧ o.f0 = 4 ∧ ex ps = .ins o.f2 :: ex r := by
 cases ps with
 | nil => exact .inl fun t r e => by simp [ex] at e
 | cons o r =>
  by_cases hk : o.f0 = 4
  ·exact .inr ⟨o, r, rfl, hk, by rw [ex_cons, exO_ne (by omega)]; simp [uO, hk]⟩
  ·left
   intro t s e
   have := nx_ex h
   rw [e] at this
   have hu : uO o = .ins t := this.symm
   unfold uO at hu
   by_cases h1 : o.f0 = 1
   ·simp [h1] at hu
   ·obtain ⟨h2, _⟩ := okOne_ne h.head h1
    rcases h2 with h2 | h2 | h2
    ·simp [h2] at hu
    ·simp [h2] at hu
    ·exact hk h2
theorem hdK_iff {k : Int} {ps : List Op} : hdK k ps = true ↔ ∃ o r, ps = o :: r ∧ o.f0 = k := by
 cases ps with
 | nil => simp [hdK]
 | cons o r => simp [hdK]
theorem opnB_right {t : ByteArray} (h : rightT t = true) : opnB t = openT t := by
 unfold rightT at h
 simp only [Bool.and_eq_true, decide_eq_true_eq] at h
 have : t ≠ ⟨#[]⟩ := fun e => h.1 (by rw [e])
 unfold opnB openT
 simp [this]
theorem app_mt (t : ByteArray) : t ++ ByteArray.empty = t := by
 apply WideShapes.bytes_inj; simp
theorem mt_app (t : ByteArray) : ByteArray.empty ++ t = t := by
 apply WideShapes.bytes_inj; simp
theorem nextL_ok {ps : List Op} (h : okAll ps) : okOne (nextL ps 2147483648) = true := by
 cases ps with
 | nil => rfl
 | cons o r => exact h.head
theorem mid_line {x y : Op} (hx : okOne x = true) (hy : okOne y = true) (h3 : x.f0 ≠ 3) (h4 : y.f0 ≠ 4) (hn : ¬ (x.f0 = 1 ∧ y.f0 = 1)) (hno : noneL x y false = false) :
  (lineL x y).2.1 = 1 ∧ midT (uO x) (uO y) = some (exS [(lineL x y).2.2]) ∧ opM (uO x) (uO y) = opnB (lineL x y).1 := by
 have hxs : x.f0 = 1 → x.f2 = ByteArray.empty := fun h => (okOne_skip hx h).2.2
 have hys : y.f0 = 1 → y.f2 = ByteArray.empty := fun h => (okOne_skip hy h).2.2
 have hxr : x.f0 ≠ 1 → opnB x.f2 = openT x.f2 := fun h => opnB_right (okOne_ne hx h).2.2
 have hyr : y.f0 ≠ 1 → opnB y.f2 = openT y.f2 := fun h => opnB_right (okOne_ne hy h).2.2
 have kx : x.f0 = 1 ∨ x.f0 = 2 ∨ x.f0 = 4 := by
  by_cases h : x.f0 = 1
  ·exact .inl h
  ·rcases (okOne_ne hx h).1 with h | h | h
   ·exact .inr (.inl h)
   ·exact absurd h h3
   ·exact .inr (.inr h)
 have ky : y.f0 = 1 ∨ y.f0 = 2 ∨ y.f0 = 3 := by
  by_cases h : y.f0 = 1
  ·exact .inl h
  ·rcases (okOne_ne hy h).1 with h | h | h
   ·exact .inr (.inl h)
   ·exact .inr (.inr h)
   ·exact absurd h h4
 have ht : x.f0 ≠ 1 → y.f0 ≠ 1 → x.f2 = y.f2 := by
  intro h1 h2
  unfold noneL at hno
  simp [h1, h2] at hno
  exact hno
 have eo : ∀ o : Op, o.f0 ≠ 1 → ∀ b : Int, ∀ g : Bool, exS [(⟨o, b, g⟩ : Step)] = [(uO o, if g = true then 3 else b)] := by
  intro o h b g
  rw [exS_cons, exO_ne h]; rfl
 rcases kx with kx | kx | kx <;> rcases ky with ky | ky | ky
 ·exact absurd ⟨kx, ky⟩ hn
 ·have e := hxs kx
  refine ⟨by simp [lineL, kx, ky], ?_, ?_⟩
  ·simp [lineL, kx, ky, eo, uO, midT]
  ·simp [lineL, kx, ky, uO, opM, opnX, txU, e, mt_app, hyr]
 ·have e := hxs kx
  refine ⟨by simp [lineL, kx, ky], ?_, ?_⟩
  ·simp [lineL, kx, ky, eo, uO, midT]
  ·simp [lineL, kx, ky, uO, opM, opnX, txU, e, mt_app, hyr]
 ·have e := hys ky
  refine ⟨by simp [lineL, kx, ky], ?_, ?_⟩
  ·simp [lineL, kx, ky, eo, uO, midT]
  ·simp [lineL, kx, ky, uO, opM, opnX, txU, e, app_mt, hxr]
 ·have e := ht (by omega) (by omega)
  refine ⟨by simp [lineL, kx, ky], ?_, ?_⟩
  ·simp [lineL, kx, ky, eo, uO, midT, e]
  ·simp [lineL, kx, ky, uO, opM, opnX, txU, e, hyr]
 ·have e := ht (by omega) (by omega)
  refine ⟨by simp [lineL, kx, ky], ?_, ?_⟩
  ·simp [lineL, kx, ky, eo, uO, midT, e]
  ·simp [lineL, kx, ky, uO, opM, opnX, txU, e, hyr]
 ·have e := hys ky
  refine ⟨by simp [lineL, kx, ky], ?_, ?_⟩
  ·simp [lineL, kx, ky, eo, uO, midT]
  ·simp [lineL, kx, ky, uO, opM, opnX, txU, e, app_mt, hxr]
 ·have e := ht (by omega) (by omega)
  refine ⟨by simp [lineL, kx, ky], ?_, ?_⟩
  ·simp [lineL, kx, ky, eo, uO, midT, e]
  ·simp [lineL, kx, ky, uO, opM, opnX, txU, e, hyr]
 ·have e := ht (by omega) (by omega)
  refine ⟨by simp [lineL, kx, ky], ?_, ?_⟩
  ·simp [lineL, kx, ky, eo, uO, midT, e]
  ·simp [lineL, kx, ky, uO, opM, opnX, txU, e, hyr]
theorem drop_both {ps qs : List Op} (hp : okAll ps) (hq : okAll qs) (hne : ps.length + qs.length ≠ 0) :
  1 ≤ (lineL (nextL ps 2147483648) (nextL qs 2147483648)).2.1 ∧ (dropL ps (lineL (nextL ps 2147483648) (nextL qs 2147483648)).2.1).length + (dropL qs (lineL (nextL ps 2147483648) (nextL qs 2147483648)).2.1).length < ps.length + qs.length := by
 have a := drop_len ps
 have b := drop_len qs
 generalize hx : nextL ps 2147483648 = x
 generalize hy : nextL qs 2147483648 = y
 have ox : okOne x = true := hx ▸ nextL_ok hp
 have oy : okOne y = true := hy ▸ nextL_ok hq
 have en : ps = [] → x.f0 = 1 ∧ x.f1 = 2147483648 := by rintro rfl; rw [← hx]; exact ⟨rfl, rfl⟩
 have eq : qs = [] → y.f0 = 1 ∧ y.f1 = 2147483648 := by rintro rfl; rw [← hy]; exact ⟨rfl, rfl⟩
 have fp : ∀ n : Int, ps ≠ [] → ¬ (x.f0 = 1 ∧ x.f1 > n) → (dropL ps n).length < ps.length := by
  intro n hl hc
  cases ps with
  | nil => exact absurd rfl hl
  | cons o r =>
   have : o = x := hx
   subst this
   rw [dropL]
   rw [if_neg hc]; simp
 have fq : ∀ n : Int, qs ≠ [] → ¬ (y.f0 = 1 ∧ y.f1 > n) → (dropL qs n).length < qs.length := by
  intro n hl hc
  cases qs with
  | nil => exact absurd rfl hl
  | cons o r =>
   have : o = y := hy
   subst this
   rw [dropL]
   rw [if_neg hc]; simp
 by_cases kx : x.f0 = 1
 ·obtain ⟨x1, x2, _⟩ := okOne_skip ox kx
  by_cases ky : y.f0 = 1
  ·obtain ⟨y1, y2, _⟩ := okOne_skip oy ky
   have e : (lineL x y).2.1 = min x.f1 y.f1 := by simp [lineL, kx, ky]
   rw [e]
   refine ⟨by omega, ?_⟩
   have ap := a (min x.f1 y.f1)
   have bq := b (min x.f1 y.f1)
   by_cases ep : ps = []
   ·have eqn : qs ≠ [] := fun h => hne (by simp [ep, h])
    have := fq (min x.f1 y.f1) eqn (fun h => by have := (en ep).2; omega)
    omega
   ·by_cases eqq : qs = []
    ·have := fp (min x.f1 y.f1) ep (fun h => by have := (eq eqq).2; omega)
     omega
    ·by_cases hm : x.f1 ≤ y.f1
     ·have := fp (min x.f1 y.f1) ep (fun h => by omega)
      omega
     ·have := fq (min x.f1 y.f1) eqq (fun h => by omega)
      omega
  ·have e : (lineL x y).2.1 = 1 := by simp [lineL, kx, ky]
   rw [e]
   have eqn : qs ≠ [] := fun h => ky (eq h).1
   have := fq 1 eqn (fun h => ky h.1)
   have := a 1
   exact ⟨by omega, by omega⟩
 ·have e : (lineL x y).2.1 = 1 := by
   by_cases ky : y.f0 = 1 <;> simp [lineL, kx, ky]
  rw [e]
  have epn : ps ≠ [] := fun h => kx (en h).1
  have := fp 1 epn (fun h => kx h.1)
  have := b 1
  exact ⟨by omega, by omega⟩
theorem walkO_cmp : ∀ (n : Nat) (ps qs : List Op) (e : Bool), ps.length + qs.length ≤ n → okAll ps → okAll qs → (walkO n ps qs e).map exS = cmpT (ex ps) e (ex qs) := by
 intro n
 induction n with
 | zero =>
  intro ps qs e h hp hq
  obtain rfl : ps = [] := List.length_eq_zero_iff.mp (by omega)
  obtain rfl : qs = [] := List.length_eq_zero_iff.mp (by omega)
  rfl
 | succ n ih =>
  intro ps qs e h hp hq
  rw [walkO]
  by_cases h0 : ps.length + qs.length = 0
  ·rw [if_pos h0]
   obtain rfl : ps = [] := List.length_eq_zero_iff.mp (by omega)
   obtain rfl : qs = [] := List.length_eq_zero_iff.mp (by omega)
   rfl
  rw [if_neg h0]
  by_cases hd : hdK 3 ps = true
  ·rw [if_pos hd]
   obtain ⟨o, r, rfl, hk⟩ := hdK_iff.mp hd
   have ee : ex (o :: r) = .del o.f2 :: ex r := by rw [ex_cons, exO_ne (by omega)]; simp [uO, hk]
   simp only [List.length_cons] at h
   rw [ee, cmpT_del, ← ih r qs e (by omega) hp.tail hq, Option.map_map, Option.map_map]
   congr 1
   funext os
   show exS (⟨o, 1, false⟩ :: os) = _
   rw [exS_cons, exO_ne (by show o.f0 ≠ 1; omega)]
   simp [uO, hk]
  rw [if_neg hd]
  have nd : NoD (ex ps) := by
   rcases head_cases hp with h | ⟨o, r, e1, e2, _⟩
   ·exact h
   ·exact absurd (hdK_iff.mpr ⟨o, r, e1, e2⟩) hd
  by_cases hi : hdK 4 qs = true
  ·rw [if_pos hi]
   obtain ⟨o, r, rfl, hk⟩ := hdK_iff.mp hi
   have ee : ex (o :: r) = .ins o.f2 :: ex r := by rw [ex_cons, exO_ne (by omega)]; simp [uO, hk]
   simp only [List.length_cons] at h
   rw [ee, cmpT_ins nd, ← ih ps r e (by omega) hp hq.tail, Option.map_map, Option.map_map]
   congr 1
   funext os
   show exS (⟨o, 2, false⟩ :: os) = _
   rw [exS_cons, exO_ne (by show o.f0 ≠ 1; omega)]
   simp [uO, hk]
  rw [if_neg hi]
  have ni : NoI (ex qs) := by
   rcases head_casesI hq with h | ⟨o, r, e1, e2, _⟩
   ·exact h
   ·exact absurd (hdK_iff.mpr ⟨o, r, e1, e2⟩) hi
  have hne : ex ps ≠ [] ∨ ex qs ≠ [] := by
   cases ps with
   | nil =>
    cases qs with
    | nil => simp at h0
    | cons o r => exact .inr (ex_ne_nil hq.head)
   | cons o r => exact .inl (ex_ne_nil hp.head)
  obtain ⟨d1, d2⟩ := drop_both hp hq h0
  have nx := nx_ex hp
  have ny := nx_ex hq
  have ox := nextL_ok hp
  have oy := nextL_ok hq
  have x3 : (nextL ps 2147483648).f0 ≠ 3 := by
   intro h3
   cases ps with
   | nil => simp [nextL] at h3
   | cons o r => exact hd (hdK_iff.mpr ⟨o, r, rfl, h3⟩)
  have y4 : (nextL qs 2147483648).f0 ≠ 4 := by
   intro h3
   cases qs with
   | nil => simp [nextL] at h3
   | cons o r => exact hi (hdK_iff.mpr ⟨o, r, rfl, h3⟩)
  have i := ih (dropL ps (lineL (nextL ps 2147483648) (nextL qs 2147483648)).2.1) (dropL qs (lineL (nextL ps 2147483648) (nextL qs 2147483648)).2.1) (opnB (lineL (nextL ps 2147483648) (nextL qs 2147483648)).1) (by omega) (hp.drop d1) (hq.drop d1)
  have dsp := fun (n : Int) hn hk hle => dropSkip hp (n := n) hn hk hle
  have dsq := fun (n : Int) hn hk hle => dropSkip hq (n := n) hn hk hle
  generalize nextL ps 2147483648 = x at *
  generalize nextL qs 2147483648 = y at *
  by_cases hno : noneL x y e = true
  ·rw [if_pos hno, cmpT_mid nd ni hne]
   show none = _
   cases e with
   | true => rfl
   | false =>
    rw [if_neg (by simp), nx, ny]
    unfold noneL at hno
    simp only [Bool.false_or, Bool.and_eq_true, decide_eq_true_eq] at hno
    obtain ⟨⟨hx, hy⟩, hxy⟩ := hno
    have : midT (uO x) (uO y) = none := by
     rcases (okOne_ne ox hx).1 with kx | kx | kx <;> rcases (okOne_ne oy hy).1 with ky | ky | ky <;> first | exact absurd kx x3 | exact absurd ky y4 | simp [uO, kx, ky, midT, hxy]
    rw [this]; rfl
  rw [if_neg hno]
  have e0 : e = false := by
   cases e with
   | false => rfl
   | true => exact absurd rfl hno
  subst e0
  have hno' : noneL x y false = false := by simpa using hno
  rw [Option.map_map]
  by_cases hs : x.f0 = 1 ∧ y.f0 = 1
  ·obtain ⟨kx, ky⟩ := hs
   obtain ⟨x1, x2, _⟩ := okOne_skip ox kx
   obtain ⟨y1, y2, _⟩ := okOne_skip oy ky
   have el : lineL x y = (x.f2 ++ y.f2, min x.f1 y.f1, ⟨⟨1, min x.f1 y.f1, ⟨#[]⟩⟩, 0, false⟩) := by simp [lineL, kx, ky]
   have eb : opnB (lineL x y).1 = false := by
    have e1 := (okOne_skip ox kx).2.2
    have e2 := (okOne_skip oy ky).2.2
    rw [el]
    show opnB (x.f2 ++ y.f2) = false
    rw [e1, e2, app_mt]; rfl
   rw [eb] at i
   rw [el] at i d1 ⊢
   simp only at i d1 ⊢
   obtain ⟨m, hm⟩ : ∃ m : Nat, (min x.f1 y.f1).toNat = m + 1 := ⟨(min x.f1 y.f1).toNat - 1, by omega⟩
   have a1 := dsp (min x.f1 y.f1) d1 kx (by omega)
   have a2 := dsq (min x.f1 y.f1) d1 ky (by omega)
   rw [hm] at a1 a2
   rw [cmpT_skips m _ _ _ _ a1 a2 hne, ← i, Option.map_map]
   have : ∀ o : Option (List Step), o.map (exS ∘ (fun os => (⟨⟨1, min x.f1 y.f1, ⟨#[]⟩⟩, 0, false⟩ : Step) :: os)) = o.map ((fun w => List.replicate (m + 1) ((.skip, 0) : TU) ++ w) ∘ exS) := by
    intro o
    congr 1
    funext os
    show exS (_ :: os) = _ ++ exS os
    rw [exS_cons, exO_skip rfl]
    show List.map _ (List.replicate (min x.f1 y.f1).toNat U.skip) ++ _ = _
    rw [hm, List.map_replicate]; rfl
   have eb' : opnB (x.f2 ++ y.f2) = false := by rw [el] at eb; exact eb
   rw [eb']
   exact this _
  ·obtain ⟨m1, m2, m3⟩ := mid_line ox oy x3 y4 hs hno'
   rw [m1] at i ⊢
   rw [cmpT_mid nd ni hne, if_neg (by simp), nx, ny, m2, Option.bind_some, m3, ← tail1 hp, ← tail1 hq, ← i, Option.map_map]
   congr 1
   funext os
   show exS (_ :: os) = exS [_] ++ exS os
   rw [exS_cons, exS_cons]
   simp [exS]
def Sx (l : List Op) : Prop := l.length ≤ 274877906944 ∧ ∀ o ∈ l, o.f2.size < 1073741824
theorem Sx.sm {l : List Op} (h : Sx l) : Sm l := ⟨by have := h.1; omega, fun o ho => by have := h.2 o ho; omega⟩
def stepsL (os : List Step) : List Op := (os.filter fun s => !s.f2).map (·.f0)
theorem stepsL_cons (s : Step) (os : List Step) : stepsL (s :: os) = (if s.f2 = true then [] else [s.f0]) ++ stepsL os := by
 cases h : s.f2 <;> simp [stepsL, h]
def goodS (s : Step) : Prop := (okOne s.f0 = true ∧ s.f0.f2.size < 1073741824) ∧ (s.f1 = 0 ∨ s.f1 = 1 ∨ s.f1 = 2)
def okX (l : List Op) : Prop := ∀ o ∈ l, okOne o = true ∧ o.f2.size < 1073741824
theorem okX.all {l : List Op} (h : okX l) : okAll l := fun o ho => (h o ho).1
theorem okX.drop {l : List Op} (h : okX l) {n : Int} (hn : 1 ≤ n) : okX (dropL l n) := by
 intro o ho
 refine ⟨h.all.drop hn o ho, ?_⟩
 cases l with
 | nil => exact absurd ho (by simp [dropL])
 | cons x r =>
  rw [dropL] at ho
  split at ho
  ·rcases List.mem_cons.mp ho with rfl | ho
   ·exact (h x (List.mem_cons_self ..)).2
   ·exact (h o (List.mem_cons_of_mem _ ho)).2
  ·exact (h o (List.mem_cons_of_mem _ ho)).2
theorem nextL_okX {l : List Op} (h : okX l) : okOne (nextL l 2147483648) = true ∧ (nextL l 2147483648).f2.size < 1073741824 := by
 cases l with
 | nil => exact ⟨rfl, (by decide : (0 : Nat) < 1073741824)⟩
 | cons o r => exact h o (List.mem_cons_self ..)
theorem line_good {x y : Op} (hx : okOne x = true ∧ x.f2.size < 1073741824) (hy : okOne y = true ∧ y.f2.size < 1073741824) : goodS (lineL x y).2.2 := by
 unfold lineL goodS
 by_cases kx : x.f0 = 1
 ·by_cases ky : y.f0 = 1
  ·obtain ⟨x1, x2, _⟩ := okOne_skip hx.1 kx
   obtain ⟨y1, y2, _⟩ := okOne_skip hy.1 ky
   have a1 : 1 ≤ min x.f1 y.f1 := by omega
   have a2 : min x.f1 y.f1 ≤ 2147483648 := by omega
   simp only [kx, ky, ne_eq, not_true_eq_false, false_and, if_false]
   refine ⟨⟨?_, (by decide : (0 : Nat) < 1073741824)⟩, by simp⟩
   unfold okOne
   simp [a1, a2]
  ·simp only [kx, ky, ne_eq, not_true_eq_false, not_false_eq_true, false_and, if_false, if_true]
   exact ⟨hy, by split <;> simp⟩
 ·by_cases ky : y.f0 = 1
  ·simp only [kx, ky, ne_eq, not_true_eq_false, not_false_eq_true, and_false, if_false, if_true]
   exact ⟨hx, by split <;> simp⟩
  ·simp only [kx, ky, ne_eq, not_false_eq_true, and_self, if_true]
   split
   ·exact ⟨hy, by dsimp only; split <;> simp⟩
   ·split
    ·exact ⟨hx, .inr (.inl rfl)⟩
    ·exact ⟨hx, .inr (.inl rfl)⟩
theorem walkO_good : ∀ (n : Nat) (ps qs : List Op) (e : Bool) (os : List Step), okX ps → okX qs → walkO n ps qs e = some os → (∀ s ∈ os, goodS s) ∧ os.length ≤ n := by
 intro n
 induction n with
 | zero =>
  intro ps qs e os _ _ h
  obtain rfl : os = [] := (Option.some.inj h).symm
  exact ⟨fun s hs => by simp at hs, Nat.le_refl _⟩
 | succ n ih =>
  intro ps qs e os hp hq h
  rw [walkO] at h
  have cons : ∀ (s : Step) (os' : List Step), goodS s → (∀ x ∈ os', goodS x) ∧ os'.length ≤ n → (∀ x ∈ s :: os', goodS x) ∧ (s :: os').length ≤ n + 1 := by
   intro s os' hs hr
   refine ⟨fun x hx => ?_, by simp only [List.length_cons]; omega⟩
   rcases List.mem_cons.mp hx with rfl | hx
   ·exact hs
   ·exact hr.1 x hx
  split at h
  ·obtain rfl : os = [] := (Option.some.inj h).symm
   exact ⟨fun s hs => by simp at hs, by simp⟩
  ·rename_i h0
   split at h
   ·rename_i hd
    obtain ⟨o, r, rfl, hk⟩ := hdK_iff.mp hd
    obtain ⟨os', h', rfl⟩ := Option.map_eq_some_iff.mp h
    exact cons _ _ ⟨hp o (List.mem_cons_self ..), .inr (.inl rfl)⟩ (ih r qs e os' (fun x hx => hp x (List.mem_cons_of_mem _ hx)) hq h')
   ·split at h
    ·rename_i hi
     obtain ⟨o, r, rfl, hk⟩ := hdK_iff.mp hi
     obtain ⟨os', h', rfl⟩ := Option.map_eq_some_iff.mp h
     exact cons _ _ ⟨hq o (List.mem_cons_self ..), .inr (.inr rfl)⟩ (ih ps r e os' hp (fun x hx => hq x (List.mem_cons_of_mem _ hx)) h')
    ·split at h
     ·simp at h
     ·obtain ⟨os', h', rfl⟩ := Option.map_eq_some_iff.mp h
      obtain ⟨d1, _⟩ := drop_both hp.all hq.all h0
      exact cons _ _ (line_good (nextL_okX hp) (nextL_okX hq)) (ih _ _ _ os' (hp.drop d1) (hq.drop d1) h')
theorem ex_steps : ∀ (os : List Step), (∀ s ∈ os, goodS s) → ex (stepsL os) = un (exS os)
 | [], _ => rfl
 | s :: os, h => by
  have i := ex_steps os fun x hx => h x (List.mem_cons_of_mem _ hx)
  obtain ⟨_, h2⟩ := h s (List.mem_cons_self ..)
  rw [stepsL_cons, exS_cons, un_app, ex_app, i]
  congr 1
  cases hg : s.f2
  ·have : s.f1 ≠ 3 := by omega
   have e : ∀ l : List U, un (l.map fun u => ((u, s.f1) : TU)) = l := by
    intro l
    induction l with
    | nil => rfl
    | cons u l ih =>
     rw [List.map_cons, un_cons (by exact this), ih]
   simp only [Bool.false_eq_true, if_false, ex_cons, ex_nil, List.append_nil]
   exact (e _).symm
  ·simp [un, ex]
def thenU (p q : List U) : Option (List U) := (cmpU p false q).bind fun u => if rightU u = true then some (nf [] u) else none
def thenL (p q : List Op) : List Op × Bool := if rightL p = true ∧ rightL q = true then (match thenU (ex p) (ex q) with | some u => (pack u, true) | none => ([], false)) else ([], false)
theorem rightL_okX {l : List Op} (h : rightL l = true) (hs : Sx l) : okX l := fun o ho => ⟨(rightL_ok h).1 o ho, hs.2 o ho⟩
theorem okX_W {l : List Op} (h : okX l) : l.all okW1 = true := by
 rw [List.all_eq_true]
 intro o ho
 obtain ⟨h1, h2⟩ := h o ho
 unfold okW1
 by_cases hk : o.f0 = 1
 ·obtain ⟨a, b, _⟩ := okOne_skip h1 hk
  simp [hk, a, b, h2]
 ·simp [hk, h2]
theorem okW_of {p q : List Op} (hp : okX p) (hq : okX q) (h : p.length + q.length ≤ 1099511627776) : okW p q = true := by
 unfold okW
 rw [okX_W hp, okX_W hq]; simp [h]
theorem form_steps {os : List Step} (h : ∀ s ∈ os, goodS s) : ∀ o ∈ stepsL os, formO o := by
 intro o ho
 obtain ⟨s, hs, rfl⟩ := List.mem_map.mp ho
 exact form_of (h s (List.mem_filter.mp hs).1).1.1
theorem sx_steps {os : List Step} (h : ∀ s ∈ os, goodS s) (hl : os.length ≤ 1099511627776) : Sm (stepsL os) := by
 refine ⟨?_, fun o ho => ?_⟩
 ·have : (stepsL os).length ≤ os.length := by unfold stepsL; rw [List.length_map]; exact List.length_filter_le _ _
  omega
 ·obtain ⟨s, hs, rfl⟩ := List.mem_map.mp ho
  have := (h s (List.mem_filter.mp hs).1).1.2
  omega
theorem mid_olds {x y : U} {a : List U} (h : midU x y = some a) : (olds a).length ≤ (olds [x]).length ∧ (olds a).length ≤ 1 := by
 cases x <;> cases y <;> simp only [midU, midT] at h <;> (try split at h) <;> simp [un] at h <;> subst h <;> simp [olds]
theorem Cmp.olds_le {p q w : List U} (h : Cmp p q w) : (olds w).length ≤ (olds p).length + (olds q).length := by
 induction h with
 | nil => simp [olds]
 | del t _ ih => simp only [olds, List.length_cons]; omega
 | ins t _ _ ih => simp only [olds]; omega
 | mid hp hq hne ha _ ih =>
  rename_i p q a w _
  obtain ⟨a1, a2⟩ := mid_olds ha
  rw [olds_app, List.length_append]
  cases p with
  | cons x p =>
   have : (olds (x :: p)).length = (olds [x]).length + (olds p).length := by
    show (olds ([x] ++ p)).length = _
    rw [olds_app, List.length_append]
   have e1 : nxU (x :: p) = x := rfl
   rw [e1] at a1
   have : (olds q.tail).length ≤ (olds q).length := by
    cases q with
    | nil => exact Nat.le_refl _
    | cons y q => cases y <;> simp [olds]
   simp only [List.tail_cons] at ih
   omega
  | nil =>
   cases q with
   | nil => simp at hne
   | cons y q =>
    have : (olds (y :: q)).length = 1 + (olds q).length := by
     cases y with
     | ins t => exact absurd rfl (hq t q)
     | skip => simp [olds]; omega
     | keep t => simp [olds]; omega
     | del t => simp [olds]; omega
    simp only [List.tail_cons, List.tail_nil] at ih
    omega
theorem un_cmp {p q : List U} {e : Bool} {w : List TU} (h : cmpT p e q = some w) : cmpU p e q = some (un w) := by unfold cmpU; rw [h]; rfl
theorem walk_then {p q : List Op} (hp : Sx p) (hq : Sx q) (rp : rightL p = true) (rq : rightL q = true) :
  (walkO (p.length + q.length) p q false = none ∧ thenL p q = ([], false)) ∨
  ∃ os, walkO (p.length + q.length) p q false = some os ∧ cmpT (ex p) false (ex q) = some (exS os) ∧ (∀ s ∈ os, goodS s) ∧ os.length ≤ p.length + q.length ∧ ex (stepsL os) = un (exS os) ∧ (∀ o ∈ stepsL os, formO o) ∧ Sm (stepsL os) ∧
   skips (stepsL os) ≤ 4294967296 ∧ rightL (stepsL os) = rightU (un (exS os)) ∧ thenL p q = if rightL (stepsL os) = true then (normL (stepsL os), true) else ([], false) := by
 have op := rightL_okX rp hp
 have oq := rightL_okX rq hq
 have hc := walkO_cmp (p.length + q.length) p q false (Nat.le_refl _) op.all oq.all
 cases hw : walkO (p.length + q.length) p q false with
 | none =>
  left
  refine ⟨rfl, ?_⟩
  rw [hw] at hc
  have hc : cmpT (ex p) false (ex q) = none := hc.symm
  unfold thenL thenU cmpU
  rw [if_pos ⟨rp, rq⟩, hc]; rfl
 | some os =>
  right
  rw [hw] at hc
  have hc : cmpT (ex p) false (ex q) = some (exS os) := hc.symm
  obtain ⟨g1, g2⟩ := walkO_good _ _ _ _ _ op oq hw
  have he := ex_steps os g1
  have hf := form_steps g1
  have hsm := sx_steps g1 (by have := hp.1; have := hq.1; omega)
  have hr : rightL (stepsL os) = rightU (un (exS os)) := by rw [right_iff hf, he]
  have hu := un_cmp hc
  have hsk : skips (stepsL os) ≤ 4294967296 := by
   have h1 := skips_le 3 hf
   rw [sums_olds _ hf, he] at h1
   have h2 := (Cmp.of _ _ _ _ hu).olds_le
   have h3 := (rightL_ok rp).2.1
   have h4 := (rightL_ok rq).2.1
   rw [sums_olds _ (rightL_form rp)] at h3
   rw [sums_olds _ (rightL_form rq)] at h4
   omega
  refine ⟨os, rfl, hc, g1, g2, he, hf, hsm, hsk, hr, ?_⟩
  unfold thenL thenU
  rw [if_pos ⟨rp, rq⟩, hu, Option.bind_some, hr]
  cases rightU (un (exS os))
  ·rfl
  ·simp only [if_true]
   unfold normL
   rw [he]
end Go.Proofs.YtkiklmmpflndbaaDoor.P
namespace Go.Proofs.YtkiklmmpflndbaaDoor.P
open Go.RowKit Go.Proofs.YtkiklmmpflndbaaDoorW.PrintWords Go.Proofs.YtkiklmmpflndbaaDoorW.PrintLast Go.Proofs.YtkiklmmpflndbaaDoorW.PrintMore
theorem told_loop (s : List Step) : ∀ (p : List Step) (out v : List Op) (b : Bool), (p ++ s).length < 1099511627777 → out.length ≤ p.length → out ++ stepsL s = v → Ev (fun k => ops_Right.f k v) b → Ev (fun k => compose_told.l0 k out (p ++ s) ((p ++ s).length : Int) (p.length : Int)) (v, b) := by
 induction s with
 | nil =>
  intro p out v b hb ho hv h
  have hv : out = v := by rw [← hv]; simp [stepsL]
  subst hv
  refine Ev.step (fun k => rfl) ?_
  simp only [compose_told.l0, lt_end, if_false]
  exact Ev.bind' h (Ev.now _)
 | cons x s ih =>
  intro p out v b hb ho hv h
  have hl := hb
  simp only [List.length_append, List.length_cons] at hl
  have i := fun out h1 h2 => ih (p ++ [x]) out v b (by simpa using hb) h1 h2 h
  rw [List.append_assoc, List.singleton_append] at i
  have w := wrap_len p x (by omega)
  have e : rd_Step (p ++ x :: s) (p.length : Int) = x := getD_mid p s x zStep
  rw [stepsL_cons] at hv
  have c : out.length < 4398046511104 := by omega
  refine Ev.step (fun k => rfl) ?_
  simp only [compose_told.l0, lt_mid, nn_nat, if_true, e, w, if_pos c]
  cases hg : x.f2
  ·simp only [Bool.false_eq_true, if_false]
   refine i _ (by simp only [List.length_append, List.length_singleton]; omega) ?_
   rw [← hv, hg]; simp
  ·simp only [if_true]
   refine i _ (by simp only [List.length_append, List.length_singleton]; omega) ?_
   rw [← hv, hg]; simp
theorem told_ev {os : List Step} (h : os.length ≤ 1099511627776) (hs : Sm (stepsL os)) : Ev (fun k => compose_told.f k os) (stepsL os, rightL (stepsL os)) :=
 told_loop os [] [] _ _ (by simpa using (by omega : os.length < 1099511627777)) (by simp) (by simp) (right_ev hs)
theorem pthen_ev {p q : List Op} (hp : Sx p) (hq : Sx q) : Ev (fun k => compose_Then.f k p q) (thenL p q) := by
 have hlen : p.length + q.length ≤ 1099511627776 := by have := hp.1; have := hq.1; omega
 cases rp : rightL p
 ·have e : thenL p q = ([], false) := by unfold thenL; simp [rp]
  rw [e]
  refine Ev.bind' (a := ([], false)) ?_ ?_
  ·refine Ev.bind' (right_ev hp.sm) ?_
   simp only [rp, Bool.false_eq_true, if_false]
   exact Ev.now _
  ·simp only [Bool.false_eq_true, if_false]
   exact Ev.now _
 cases rq : rightL q
 ·have e : thenL p q = ([], false) := by unfold thenL; simp [rq]
  rw [e]
  refine Ev.bind' (a := ([], false)) ?_ ?_
  ·refine Ev.bind' (right_ev hp.sm) ?_
   simp only [rp, if_true]
   refine Ev.bind' (right_ev hq.sm) ?_
   simp only [rq, Bool.false_eq_true, if_false]
   exact Ev.now _
  ·simp only [Bool.false_eq_true, if_false]
   exact Ev.now _
 have hW := okW_of (rightL_okX rp hp) (rightL_okX rq hq) hlen
 rcases walk_then hp hq rp rq with ⟨hw, e⟩ | ⟨os, hw, _, g1, g2, he, hf, hsm, hsk, hr, e⟩
 ·rw [e]
  refine Ev.bind' (a := ([], false)) ?_ ?_
  ·refine Ev.bind' (right_ev hp.sm) ?_
   simp only [rp, if_true]
   refine Ev.bind' (right_ev hq.sm) ?_
   simp only [rq, if_true, hW, hw]
   exact Ev.now _
  ·simp only [Bool.false_eq_true, if_false]
   exact Ev.now _
 ·rw [e]
  have ht := told_ev (os := os) (by omega) hsm
  cases hrs : rightL (stepsL os)
  ·refine Ev.bind' (a := ([], false)) ?_ ?_
   ·refine Ev.bind' (right_ev hp.sm) ?_
    simp only [rp, if_true]
    refine Ev.bind' (right_ev hq.sm) ?_
    simp only [rq, if_true, hW, hw]
    refine Ev.bind' ht ?_
    simp only [hrs, Bool.false_eq_true, if_false]
    exact Ev.now _
   ·simp only [Bool.false_eq_true, if_false]
    exact Ev.now _
  ·refine Ev.bind' (a := (os, true)) ?_ ?_
   ·refine Ev.bind' (right_ev hp.sm) ?_
    simp only [rp, if_true]
    refine Ev.bind' (right_ev hq.sm) ?_
    simp only [rq, if_true, hW, hw]
    refine Ev.bind' ht ?_
    simp only [hrs, if_true]
    exact Ev.now _
   ·simp only [if_true]
    refine Ev.bind' ht ?_
    refine Ev.bind' (norm_ev hsm) ?_
    simp only [hrs, if_true]
    exact Ev.now _
theorem thenL_len {p q : List Op} (hp : Sx p) (hq : Sx q) : (thenL p q).1.length ≤ p.length + q.length ∧ ∀ o ∈ (thenL p q).1, o.f2.size < 1073741824 := by
 cases rp : rightL p
 ·unfold thenL; simp [rp]
 cases rq : rightL q
 ·unfold thenL; simp [rq]
 rcases walk_then hp hq rp rq with ⟨hw, e⟩ | ⟨os, hw, _, g1, g2, he, hf, hsm, hsk, hr, e⟩
 ·rw [e]; simp
 ·rw [e]
  split
  ·refine ⟨?_, ?_⟩
   ·have h1 := nf_pack_len (stepsL os) [] hf
    have h2 : (stepsL os).length ≤ os.length := by unfold stepsL; rw [List.length_map]; exact List.length_filter_le _ _
    simp only [List.length_nil] at h1
    show (pack (nf [] (ex (stepsL os)))).length ≤ _
    omega
   ·intro o ho
    have ho : o ∈ pack (nf [] (ex (stepsL os))) := ho
    have he0 : ByteArray.empty.size = 0 := rfl
    rcases tx_pack _ o ho with e | ⟨x, hx, e⟩
    ·rw [e, he0]; omega
    ·rcases nf_mem _ _ _ hx with hx | hx
     ·simp at hx
     ·rcases tx_ex hx with e2 | ⟨y, hy, e2⟩
      ·rw [e, e2, he0]; omega
      ·rw [e, e2]
       obtain ⟨s, hs, rfl⟩ := List.mem_map.mp hy
       exact (g1 s (List.mem_filter.mp hs).1).1.2
  ·simp
theorem Sx.then {p q : List Op} (hp : Sx p) (hq : Sx q) (h : p.length + q.length ≤ 274877906944) : Sx (thenL p q).1 := by
 obtain ⟨h1, h2⟩ := thenL_len hp hq
 exact ⟨by omega, h2⟩
end Go.Proofs.YtkiklmmpflndbaaDoor.P
namespace Go.Proofs.YtkiklmmpflndbaaDoor.P
open Go.RowKit Go.Proofs.YtkiklmmpflndbaaDoorW.PrintWords Go.Proofs.YtkiklmmpflndbaaDoorW.PrintLast Go.Proofs.YtkiklmmpflndbaaDoorW.PrintMore
theorem dig_one : ∀ d : Fin 10, digB d.val = ⟨#[UInt8.ofNat (48 + d.val)]⟩ := by decide +kernel
theorem dec_num : ∀ (c n : Nat), n < 10 ^ (c + 1) → numF c n = ⟨(Lib.decDigits n).toArray⟩
 | 0, n, h => by
  have h1 : n < 10 := by simpa using h
  have d : digB (n % 10) = ⟨#[UInt8.ofNat (48 + n % 10)]⟩ := dig_one ⟨n % 10, by omega⟩
  rw [numF, Lib.decDigits, dif_pos h1, d, show n % 10 = n from by omega]
 | c + 1, n, h => by
  have q : 10 ^ (c + 1 + 1) = 10 ^ (c + 1) * 10 := rfl
  have d : digB (n % 10) = ⟨#[UInt8.ofNat (48 + n % 10)]⟩ := dig_one ⟨n % 10, by omega⟩
  rw [numF, Lib.decDigits]
  by_cases h9 : n > 9
  ·have i := dec_num c (n / 10) (by omega)
   rw [if_pos h9, dif_neg (by omega), i, d]
   apply WideShapes.bytes_inj
   rw [ByteArray.data_append, Array.toList_append]
  ·rw [if_neg h9, dif_pos (by omega), d, show n % 10 = n from by omega]
theorem put_val {n : Nat} (h : n < 100000) : nums_Put.f (n : Int) = some (numF 4 n) := by
 unfold nums_Put.f
 rw [if_pos ⟨by omega, by omega⟩, dec_num 4 n (by simpa using h)]
 congr 3
theorem pwit_skip {l : List Op} {i : Nat} {N : Int} (hl : l.length < 4398046511104) (hi : i < l.length) : ∀ (m j : Nat) (out v : List ByteArray), N = ((j + m : Nat) : Int) → out.length + m ≤ 90000 → j + m ≤ 90000 →
  Ev (fun k => witness_Lines.l0 k (out ++ witU out.length (List.replicate m .skip)) l (l.length : Int) (wrap64 ((i : Int) + 1))) v → Ev (fun k => witness_Lines.l1 k out l (l.length : Int) (i : Int) N (j : Int)) v
 | 0, j, out, v, ho, h1, h2, hv => by
  have c2 : ¬ (j : Int) < N := by omega
  refine Ev.step (fun k => rfl) ?_
  simp only [witness_Lines.l1, if_neg c2]
  simpa [witU] using hv
 | m + 1, j, out, v, ho, h1, h2, hv => by
  have c2 : (j : Int) < N := by omega
  have c3 : out.length < 8796093022208 := by omega
  obtain ⟨s1, s2, _⟩ := line_size out.length
  have w : wrap64 ((j : Int) + 1) = ((j + 1 : Nat) : Int) := by rw [wrap_small (by omega) (by omega)]; omega
  have i1 := pwit_skip (N := N) hl hi m (j + 1) (out ++ [lineN out.length]) v (by rw [ho]; congr 1; omega) (by rw [List.length_append, List.length_singleton]; omega) (by omega) (by
   have e : out ++ [lineN out.length] ++ witU (out ++ [lineN out.length]).length (List.replicate m U.skip) = out ++ witU out.length (List.replicate (m + 1) U.skip) := by
    rw [List.replicate_succ, witU, List.append_assoc, List.length_append]; rfl
   rw [e]; exact hv)
  refine Ev.step (fun k => rfl) ?_
  simp only [witness_Lines.l1, if_pos c2]
  refine Ev.bindN (put_val (n := out.length) (by omega)) ?_
  simp only [if_pos s1, if_pos s2, if_pos c3, w]
  exact i1
theorem pwit_loop (s : List Op) : ∀ (p : List Op) (out : List ByteArray), Sm (p ++ s) → (∀ o ∈ s, formO o) → out.length + (olds (ex s)).length ≤ 90000 →
  Ev (fun k => witness_Lines.l0 k out (p ++ s) ((p ++ s).length : Int) (p.length : Int)) (out ++ witU out.length (ex s)) := by
 induction s with
 | nil =>
  intro p out hb _ _
  refine Ev.step (fun k => rfl) ?_
  simp only [witness_Lines.l0, lt_end, if_false]
  rw [ex_nil, witU, List.append_nil]
  exact Ev.now _
 | cons o s ih =>
  intro p out hb hf hl
  have hlen := hb.len
  rw [ex_cons, olds_app, List.length_append] at hl
  have i := fun out h => ih (p ++ [o]) out hb.snoc (fun x hx => hf x (List.mem_cons_of_mem _ hx)) h
  rw [List.append_assoc, List.singleton_append] at i
  have w := wrap_len p o (by omega)
  have c3 : out.length < 8796093022208 := by omega
  have fo := hf o (List.mem_cons_self ..)
  rw [ex_cons, wit_app]
  refine Ev.step (fun k => rfl) ?_
  simp only [witness_Lines.l0, lt_mid, nn_nat, if_true, rdOp_mid, w]
  by_cases h1 : o.f0 = 1
  ·have f1 : 1 ≤ o.f1 := by
    rcases fo with h | h
    ·exact h.2.1
    ·omega
   have e : exO o = List.replicate o.f1.toNat .skip := by simp [exO, h1]
   have eo : (olds (exO o)).length = o.f1.toNat := by rw [e, olds_skips, List.length_replicate]
   rw [eo] at hl
   simp only [if_pos h1]
   rw [e] at eo ⊢
   rw [eo]
   have hnl : (out ++ witU out.length (List.replicate o.f1.toNat U.skip)).length = out.length + o.f1.toNat := by rw [List.length_append, wit_len, olds_skips, List.length_replicate]
   have j := i (out ++ witU out.length (List.replicate o.f1.toNat U.skip)) (by rw [hnl]; omega)
   rw [hnl, List.append_assoc] at j
   refine pwit_skip (i := p.length) hb.1 (by simp) o.f1.toNat 0 out _ (by rw [Nat.zero_add]; omega) (by omega) (by omega) ?_
   rw [w]
   exact j
  ·have hk : (o.f0 = 2 ∨ o.f0 = 3 ∨ o.f0 = 4) ∧ o.f1 = 0 := by
    rcases fo with h | h
    ·exact absurd h.1 h1
    ·exact h
   simp only [if_neg h1]
   rcases hk.1 with h | h | h
   ·have e : exO o = [.keep o.f2] := by simp [exO, h]
    rw [e] at hl ⊢
    simp only [olds, List.length_cons, List.length_nil] at hl
    have j := i (out ++ [o.f2]) (by rw [List.length_append, List.length_singleton]; omega)
    rw [len_snoc out o.f2, List.append_assoc] at j
    simp only [if_pos h, if_pos c3]
    exact j
   ·have e : exO o = [.del o.f2] := by simp [exO, h]
    have h2 : ¬ o.f0 = 2 := by omega
    rw [e] at hl ⊢
    simp only [olds, List.length_cons, List.length_nil] at hl
    have j := i (out ++ [o.f2]) (by rw [List.length_append, List.length_singleton]; omega)
    rw [len_snoc out o.f2, List.append_assoc] at j
    simp only [if_neg h2, if_pos h, if_pos c3]
    exact j
   ·have e : exO o = [.ins o.f2] := by simp [exO, h]
    have h2 : ¬ o.f0 = 2 := by omega
    have h3 : ¬ o.f0 = 3 := by omega
    rw [e] at hl ⊢
    simp only [olds, List.length_nil] at hl
    have j := i out (by omega)
    simp only [if_neg h2, if_neg h3]
    exact j
theorem pwit_ev {l : List Op} (h : Sm l) : Ev (fun k => witness_Lines.f k l) (witL l) := by
 unfold witL
 have no : Ev (fun k => witness_Lines.j0 k l true) [] := by
  refine Ev.step (fun k => rfl) ?_
  simp only [witness_Lines.j0, if_true]
  exact Ev.now _
 refine Ev.bind' (right_ev h) ?_
 cases hr : rightL l
 ·simp only [Bool.false_eq_true, if_false, false_and]; exact no
 simp only [if_true, true_and]
 refine Ev.bind' (olds_ev h) ?_
 by_cases hc : capd 3 l ≤ 5000
 ·have c : ¬ capd 3 l > 5000 := by omega
  simp only [c, decide_false, if_pos hc]
  refine Ev.step (fun k => rfl) ?_
  simp only [witness_Lines.j0, Bool.false_eq_true, if_false]
  rw [olds_capd hr] at hc
  exact pwit_loop l [] [] h (rightL_form hr) (by simp only [List.length_nil]; omega)
 ·have c : capd 3 l > 5000 := by omega
  simp only [c, decide_true, if_neg hc]
  exact no
def bothL (p q : List Op) : List ByteArray × Bool := if (thenL p q).2 = true then (witL (thenL p q).1, true) else ([], false)
theorem pboth_ev {p q : List Op} (hp : Sx p) (hq : Sx q) (hl : p.length + q.length ≤ 274877906944) : Ev (fun k => witness_Both.f k p q) (bothL p q) := by
 unfold bothL
 refine Ev.bind' (pthen_ev hp hq) ?_
 cases ht : (thenL p q).2
 ·simp only [Bool.false_eq_true, if_false]; exact Ev.now _
 ·simp only [if_true]
  exact Ev.bind' (pwit_ev (hp.then hq hl).sm) (Ev.now _)
theorem alive18 : Ev (fun k => patchworklaw18_alive.f k) true := by
 have s0 : Sx [] := ⟨by simp, by simp⟩
 have s1 : Sm [(⟨1, 2, ⟨#[]⟩⟩ : Op), ⟨3, 0, ⟨#[97, 10]⟩⟩] := ⟨by simp, fun o ho => by
  rcases List.mem_cons.mp ho with rfl | ho
  ·exact (by decide : (0 : Nat) < 4611686018427387904)
  ·rw [List.mem_singleton.mp ho]; exact (by decide : (2 : Nat) < 4611686018427387904)⟩
 have e0 : bothL [] [] = ([], true) := by decide +kernel
 have e1 : witL [] = [] := by decide +kernel
 have e2 : witL [(⟨1, 2, ⟨#[]⟩⟩ : Op), ⟨3, 0, ⟨#[97, 10]⟩⟩] = [⟨#[63, 48, 10]⟩, ⟨#[63, 49, 10]⟩, ⟨#[97, 10]⟩] := by decide +kernel
 have a0 := pboth_ev s0 s0 (by simp)
 have a1 := pwit_ev s0.sm
 have a2 := pwit_ev s1
 rw [e0] at a0
 rw [e1] at a1
 rw [e2] at a2
 unfold patchworklaw18_alive.f
 refine Ev.bind' a2 ?_
 refine Ev.bind' a0 ?_
 refine Ev.bind' a1 ?_
 have t1 : (rdOf ByteArray.empty [(⟨#[63, 48, 10]⟩ : ByteArray), ⟨#[63, 49, 10]⟩, ⟨#[97, 10]⟩] 1).toList = ([63, 49, 10] : List UInt8) := by rw [Lib.toList_data]; rfl
 have t2 : (rdOf ByteArray.empty [(⟨#[63, 48, 10]⟩ : ByteArray), ⟨#[63, 49, 10]⟩, ⟨#[97, 10]⟩] 2).toList = ([97, 10] : List UInt8) := by rw [Lib.toList_data]; rfl
 have c0 : (([] : List ByteArray).length : Int) = 0 := rfl
 have c3 : (([(⟨#[63, 48, 10]⟩ : ByteArray), ⟨#[63, 49, 10]⟩, ⟨#[97, 10]⟩] : List ByteArray).length : Int) = 3 := rfl
 have c1 : (1 : Int) < (([(⟨#[63, 48, 10]⟩ : ByteArray), ⟨#[63, 49, 10]⟩, ⟨#[97, 10]⟩] : List ByteArray).length : Int) := by rw [c3]; decide
 have c2 : (2 : Int) < (([(⟨#[63, 48, 10]⟩ : ByteArray), ⟨#[63, 49, 10]⟩, ⟨#[97, 10]⟩] : List ByteArray).length : Int) := by rw [c3]; decide
 simp only [if_pos c0, if_pos c3, if_pos c1, if_pos c2, if_pos t1, if_pos t2]
 exact Ev.now _
end Go.Proofs.YtkiklmmpflndbaaDoor.P
namespace Go.Proofs.YtkiklmmpflndbaaDoor.P
open Go.RowKit Go.Proofs.YtkiklmmpflndbaaDoorW.PrintWords Go.Proofs.YtkiklmmpflndbaaDoorW.PrintLast Go.Proofs.YtkiklmmpflndbaaDoorW.PrintMore
def clS : List (Option ByteArray) → List ByteArray → Prop
 | none :: s, x :: l => openT x = false ∧ clS s l
 | some _ :: s, _ :: l => clS s l
 | _, _ => True
theorem hd_news {p p' : List U} {x : U} (h : HD p x p') (hp : textS (news p) = true) : textS (news p') = true := by
 rcases h with rfl | ⟨rfl, _, rfl⟩
 ·cases x with
  | skip => exact textS_none1 hp
  | keep t => exact (textS_cons hp).2
  | ins t => exact (textS_cons hp).2
  | del t => exact hp
 ·exact hp
theorem hd_olds {p p' : List U} {x : U} (h : HD p x p') (hp : textS (olds p) = true) : textS (olds p') = true := by
 rcases h with rfl | ⟨rfl, _, rfl⟩
 ·cases x with
  | skip => exact textS_none1 hp
  | keep t => exact (textS_cons hp).2
  | del t => exact (textS_cons hp).2
  | ins t => exact hp
 ·exact hp
def UNDO (p : List U) (e : Bool) (q u : List U) : Prop := ∀ (L r : List ByteArray), doU u L = some r → clS (olds u) L → L.length = (olds u).length → (∀ x ∈ L, rightT x = true) → textS (news p) = true → textS (olds q) = true →
 ∃ m, doU p L = some m ∧ doU q m = some r ∧ wholeL m = true ∧ (e = true → m = [])
theorem UNDO.del {p q u : List U} {e : Bool} (h : UNDO p e q u) (t : ByteArray) : UNDO (.del t :: p) e q (.del t :: u) := by
 intro L r hd hc hl hr hp hq
 match L, hd, hc, hl, hr with
 | [], hd, _, _, _ => simp [doU] at hd
 | x :: L, hd, hc, hl, hr =>
  rw [doU] at hd
  split at hd
  ·rename_i ex
   obtain ⟨m, a, b, c, d⟩ := h L r hd hc (by simpa [olds] using hl) (fun y hy => hr y (List.mem_cons_of_mem _ hy)) hp hq
   exact ⟨m, by rw [doU, if_pos ex]; exact a, b, c, d⟩
  ·simp at hd
theorem UNDO.ins {p q u : List U} {e : Bool} (h : UNDO p e q u) (t : ByteArray) : UNDO p e (.ins t :: q) (.ins t :: u) := by
 intro L r hd hc hl hr hp hq
 rw [doU] at hd
 obtain ⟨r', h', rfl⟩ := Option.map_eq_some_iff.mp hd
 obtain ⟨m, a, b, c, d⟩ := h L r' h' hc (by simpa [olds] using hl) hr hp hq
 exact ⟨m, a, by rw [doU, b]; rfl, c, d⟩
theorem UNDO.mid {p q p' q' u u' : List U} {x y : U} (h : UNDO p' (opM x y) q' u') (hx : HD p x p') (hy : HD q y q')
  (H : ∀ (L r : List ByteArray), doU u L = some r → clS (olds u) L → L.length = (olds u).length → (∀ z ∈ L, rightT z = true) → textS (news p) = true → textS (olds q) = true →
   ∃ (s : ByteArray) (L' r' : List ByteArray), doU u' L' = some r' ∧ clS (olds u') L' ∧ L'.length = (olds u').length ∧ (∀ z ∈ L', rightT z = true) ∧ rightT s = true ∧ (openT s = true → opM x y = true) ∧
    (∀ m, doU p' L' = some m → doU p L = some (s :: m)) ∧ (∀ m, doU q' m = some r' → doU q (s :: m) = some r)) : UNDO p false q u := by
 intro L r hd hc hl hr hp hq
 obtain ⟨s, L', r', a1, a2, a3, a4, a5, a6, a7, a8⟩ := H L r hd hc hl hr hp hq
 obtain ⟨m, b1, b2, b3, b4⟩ := h L' r' a1 a2 a3 a4 (hd_news hx hp) (hd_olds hy hq)
 refine ⟨s :: m, a7 m b1, a8 m b2, ?_, fun e => by simp at e⟩
 exact wholeL_mk a5 b3 fun o => b4 (a6 o)
end Go.Proofs.YtkiklmmpflndbaaDoor.P
