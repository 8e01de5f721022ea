/- Own and printed texts that the theorem of WitnessBoth reaches, put together. -/
import Derived.Test.YtkiklmmpflndbaaDoorqWitnessBoth5
import Derived.Test.YtkiklmmpflndbaaDoorqWitnessBoth3
set_option linter.unusedVariables false
set_option linter.unusedSimpArgs false
namespace Go.Proofs.YtkiklmmpflndbaaDoor.P
open Go.RowKit Go.Proofs.YtkiklmmpflndbaaDoorW.PrintWords Go.Proofs.YtkiklmmpflndbaaDoorW.PrintLast Go.Proofs.YtkiklmmpflndbaaDoorW.PrintMore
def okAll (l : List Op) : Prop := ∀ o ∈ l, okOne o = true
theorem okAll.tail {o : Op} {l : List Op} (h : okAll (o :: l)) : okAll l := fun x hx => h x (List.mem_cons_of_mem _ hx)
theorem okAll.head {o : Op} {l : List Op} (h : okAll (o :: l)) : okOne o = true := h o (List.mem_cons_self ..)
def exS (os : List Step) : List TU := os.flatMap fun s => (exO s.f0).map fun u => (u, if s.f2 = true then 3 else s.f1)
theorem exS_cons (s : Step) (os : List Step) : exS (s :: os) = (exO s.f0).map (fun u => (u, if s.f2 = true then 3 else s.f1)) ++ exS os := by simp [exS]
def uO (o : Op) : U := if o.f0 = 1 then .skip else if o.f0 = 2 then .keep o.f2 else if o.f0 = 3 then .del o.f2 else .ins o.f2
theorem exO_skip {o : Op} (hk : o.f0 = 1) : exO o = List.replicate o.f1.toNat .skip := by simp [exO, hk]
theorem exO_ne {o : Op} (hk : o.f0 ≠ 1) : exO o = [uO o] := by
 unfold exO uO
 rw [if_neg hk, if_neg hk]
 split
 ·rfl
 ·split <;> rfl
theorem wrapsub {a n : Int} (h1 : 1 ≤ n) (h2 : n < a) (h3 : a ≤ 2147483648) : wrap64 (a - n) = a - n := by unfold wrap64; omega
theorem okAll.drop {ps : List Op} (h : okAll ps) {n : Int} (hn : 1 ≤ n) : okAll (dropL ps n) := by
 cases ps with
 | nil => exact h
 | cons o r =>
  rw [dropL]
  split
  ·rename_i c
   intro x hx
   rcases List.mem_cons.mp hx with rfl | hx
   ·obtain ⟨h1, h2, h3⟩ := okOne_skip h.head c.1
    unfold okOne
    rw [if_pos c.1, wrapsub hn c.2 h2, h3]
    have a1 : 1 ≤ o.f1 - n := by omega
    have a2 : o.f1 - n ≤ 2147483648 := by omega
    simp [a1, a2]
   ·exact h.tail x hx
  ·exact h.tail
theorem drop_len (ps : List Op) (n : Int) : (dropL ps n).length ≤ ps.length := by
 cases ps with
 | nil => exact Nat.le_refl _
 | cons o r => rw [dropL]; split <;> simp
theorem replicate_toNat {a : Int} (h : 1 ≤ a) : List.replicate a.toNat U.skip = .skip :: List.replicate (a - 1).toNat .skip := by
 rw [show a.toNat = (a - 1).toNat + 1 from by omega, List.replicate_succ]
theorem tail1 {ps : List Op} (h : okAll ps) : ex (dropL ps 1) = (ex ps).tail := by
 cases ps with
 | nil => rfl
 | cons o r =>
  by_cases hk : o.f0 = 1
  ·obtain ⟨h1, h2, h3⟩ := okOne_skip h.head hk
   rw [ex_cons, exO_skip hk, replicate_toNat h1]
   rw [dropL]
   by_cases c : o.f1 > 1
   ·rw [if_pos ⟨hk, c⟩, ex_cons, exO_skip (o := ⟨o.f0, wrap64 (o.f1 - 1), o.f2⟩) hk, wrapsub (by omega) c h2]; rfl
   ·rw [if_neg (fun x => c x.2), show (o.f1 - 1).toNat = 0 from by omega]; rfl
  ·rw [dropL]
   rw [if_neg (fun x => hk x.1), ex_cons, exO_ne hk]; rfl
theorem dropSkip {ps : List Op} (h : okAll ps) {n : Int} (hn : 1 ≤ n) (hk : (nextL ps 2147483648).f0 = 1) (hle : n ≤ (nextL ps 2147483648).f1) :
  ex ps = List.replicate n.toNat .skip ++ ex (dropL ps n) ∨ ex ps = [] ∧ ex (dropL ps n) = [] := by
 cases ps with
 | nil => exact .inr ⟨rfl, rfl⟩
 | cons o r =>
  left
  have hk : o.f0 = 1 := hk
  have hle : n ≤ o.f1 := hle
  obtain ⟨h1, h2, h3⟩ := okOne_skip h.head hk
  rw [dropL]
  by_cases c : o.f1 > n
  ·rw [if_pos ⟨hk, c⟩, ex_cons, ex_cons, exO_skip hk, exO_skip (o := ⟨o.f0, wrap64 (o.f1 - n), o.f2⟩) hk, wrapsub hn c h2, ← List.append_assoc, List.replicate_append_replicate]
   congr 2
   show o.f1.toNat = n.toNat + (o.f1 - n).toNat
   omega
  ·rw [if_neg (fun x => c x.2), ex_cons, exO_skip hk, show o.f1 = n from by omega]
theorem cmpT_skips : ∀ (n : Nat) (p q p' q' : List U), (p = List.replicate (n + 1) .skip ++ p' ∨ p = [] ∧ p' = []) → (q = List.replicate (n + 1) .skip ++ q' ∨ q = [] ∧ q' = []) → (p ≠ [] ∨ q ≠ []) →
  cmpT p false q = (cmpT p' false q').map (List.replicate (n + 1) ((.skip, 0) : TU) ++ ·) := by
 have hd : ∀ (n : Nat) (p p' : List U), (p = List.replicate (n + 1) .skip ++ p' ∨ p = [] ∧ p' = []) → nxU p = .skip ∧ NoD p ∧ NoI p ∧ (p.tail = List.replicate n .skip ++ p' ∨ p.tail = [] ∧ p' = []) := by
  intro n p p' h
  rcases h with rfl | ⟨rfl, rfl⟩
  ·rw [List.replicate_succ]
   exact ⟨rfl, fun t r e => by simp at e, fun t r e => by simp at e, .inl rfl⟩
  ·exact ⟨rfl, fun t r e => by simp at e, fun t r e => by simp at e, .inr ⟨rfl, rfl⟩⟩
 intro n
 induction n with
 | zero =>
  intro p q p' q' hp hq hne
  obtain ⟨p1, p2, _, p4⟩ := hd 0 p p' hp
  obtain ⟨q1, _, q3, q4⟩ := hd 0 q q' hq
  rw [cmpT_mid p2 q3 hne, p1, q1, if_neg (by simp)]
  have e1 : p.tail = p' := by rcases p4 with h | ⟨h, h'⟩ <;> simp [h, *]
  have e2 : q.tail = q' := by rcases q4 with h | ⟨h, h'⟩ <;> simp [h, *]
  rw [e1, e2]; rfl
 | succ n ih =>
  intro p q p' q' hp hq hne
  obtain ⟨p1, p2, _, p4⟩ := hd (n + 1) p p' hp
  obtain ⟨q1, _, q3, q4⟩ := hd (n + 1) q q' hq
  rw [cmpT_mid p2 q3 hne, p1, q1, if_neg (by simp)]
  have hne' : p.tail ≠ [] ∨ q.tail ≠ [] := by
   rcases hp with rfl | ⟨rfl, rfl⟩
   ·left; simp [List.replicate_succ]
   ·rcases hq with rfl | ⟨rfl, rfl⟩
    ·right; simp [List.replicate_succ]
    ·simp at hne
  show (some [((.skip, 0) : TU)]).bind (fun a => (cmpT p.tail (opM .skip .skip) q.tail).map (a ++ ·)) = _
  rw [Option.bind_some, show opM .skip .skip = false from rfl, ih p.tail q.tail p' q' p4 q4 hne', Option.map_map, List.replicate_succ (n := n + 1)]
  rfl
theorem nx_ex {ps : List Op} (h : okAll ps) : nxU (ex ps) = uO (nextL ps 2147483648) := by
 cases ps with
 | nil => rfl
 | cons o r =>
  show nxU (ex (o :: r)) = uO o
  rw [ex_cons]
  by_cases hk : o.f0 = 1
  ·rw [exO_skip hk, replicate_toNat (okOne_skip h.head hk).1]; simp [uO, hk, nxU]
  ·rw [exO_ne hk]; rfl
theorem ex_ne_nil {o : Op} {r : List Op} (h : okOne o = true) : ex (o :: r) ≠ [] := by
 rw [ex_cons]
 by_cases hk : o.f0 = 1
 ·rw [exO_skip hk, replicate_toNat (okOne_skip h hk).1]; simp
 ·rw [exO_ne hk]; simp
theorem head_cases {ps : List Op} (h : okAll ps) : NoD (ex ps) ∨ ∃ o r, ps = o :: r ∧ o.f0 = 3 ∧ ex ps = .del o.f2 :: ex r := by
 cases ps with
 | nil => exact .inl fun t r e => by simp [ex] at e
 | cons o r =>
  by_cases hk : o.f0 = 3
  ·exact .inr ⟨o, r, rfl, hk, by rw [ex_cons, exO_ne (by omega)]; simp [uO, hk]⟩
  ·left
   intro t s e
   have := nx_ex h
   rw [e] at this
   have hu : uO o = .del t := this.symm
   unfold uO at hu
   split at hu
   ·simp at hu
   ·split at hu
    ·simp at hu
    ·simp [hk] at hu
theorem head_casesI {ps : List Op} (h : okAll ps) : NoI (ex ps) ∨ ∃ o r, ps = o :: r ∧ o.f0 = 4 ∧ ex ps = .ins o.f2 :: ex r := by
 cases ps with
 | nil => exact .inl fun t r e => by simp [ex] at e
 | cons o r =>
  by_cases hk : o.f0 = 4
  ·exact .inr ⟨o, r, rfl, hk, by rw [ex_cons, exO_ne (by omega)]; simp [uO, hk]⟩
  ·left
   intro t s e
   have := nx_ex h
   rw [e] at this
   have hu : uO o = .ins t := this.symm
   unfold uO at hu
   by_cases h1 : o.f0 = 1
   ·simp [h1] at hu
   ·obtain ⟨h2, _⟩ := okOne_ne h.head h1
    rcases h2 with h2 | h2 | h2
    ·simp [h2] at hu
    ·simp [h2] at hu
    ·exact hk h2
theorem hdK_iff {k : Int} {ps : List Op} : hdK k ps = true ↔ ∃ o r, ps = o :: r ∧ o.f0 = k := by
 cases ps with
 | nil => simp [hdK]
 | cons o r => simp [hdK]
theorem opnB_right {t : ByteArray} (h : rightT t = true) : opnB t = openT t := by
 unfold rightT at h
 simp only [Bool.and_eq_true, decide_eq_true_eq] at h
 have : t ≠ ⟨#[]⟩ := fun e => h.1 (by rw [e])
 unfold opnB openT
 simp [this]
theorem app_mt (t : ByteArray) : t ++ ByteArray.empty = t := by
 apply WideShapes.bytes_inj; simp
theorem mt_app (t : ByteArray) : ByteArray.empty ++ t = t := by
 apply WideShapes.bytes_inj; simp
theorem nextL_ok {ps : List Op} (h : okAll ps) : okOne (nextL ps 2147483648) = true := by
 cases ps with
 | nil => rfl
 | cons o r => exact h.head
theorem mid_line {x y : Op} (hx : okOne x = true) (hy : okOne y = true) (h3 : x.f0 ≠ 3) (h4 : y.f0 ≠ 4) (hn : ¬ (x.f0 = 1 ∧ y.f0 = 1)) (hno : noneL x y false = false) :
  (lineL x y).2.1 = 1 ∧ midT (uO x) (uO y) = some (exS [(lineL x y).2.2]) ∧ opM (uO x) (uO y) = opnB (lineL x y).1 := by
 have hxs : x.f0 = 1 → x.f2 = ByteArray.empty := fun h => (okOne_skip hx h).2.2
 have hys : y.f0 = 1 → y.f2 = ByteArray.empty := fun h => (okOne_skip hy h).2.2
 have hxr : x.f0 ≠ 1 → opnB x.f2 = openT x.f2 := fun h => opnB_right (okOne_ne hx h).2.2
 have hyr : y.f0 ≠ 1 → opnB y.f2 = openT y.f2 := fun h => opnB_right (okOne_ne hy h).2.2
 have kx : x.f0 = 1 ∨ x.f0 = 2 ∨ x.f0 = 4 := by
  by_cases h : x.f0 = 1
  ·exact .inl h
  ·rcases (okOne_ne hx h).1 with h | h | h
   ·exact .inr (.inl h)
   ·exact absurd h h3
   ·exact .inr (.inr h)
 have ky : y.f0 = 1 ∨ y.f0 = 2 ∨ y.f0 = 3 := by
  by_cases h : y.f0 = 1
  ·exact .inl h
  ·rcases (okOne_ne hy h).1 with h | h | h
   ·exact .inr (.inl h)
   ·exact .inr (.inr h)
   ·exact absurd h h4
 have ht : x.f0 ≠ 1 → y.f0 ≠ 1 → x.f2 = y.f2 := by
  intro h1 h2
  unfold noneL at hno
  simp [h1, h2] at hno
  exact hno
 have eo : ∀ o : Op, o.f0 ≠ 1 → ∀ b : Int, ∀ g : Bool, exS [(⟨o, b, g⟩ : Step)] = [(uO o, if g = true then 3 else b)] := by
  intro o h b g
  rw [exS_cons, exO_ne h]; rfl
 rcases kx with kx | kx | kx <;> rcases ky with ky | ky | ky
 ·exact absurd ⟨kx, ky⟩ hn
 ·have e := hxs kx
  refine ⟨by simp [lineL, kx, ky], ?_, ?_⟩
  ·simp [lineL, kx, ky, eo, uO, midT]
  ·simp [lineL, kx, ky, uO, opM, opnX, txU, e, mt_app, hyr]
 ·have e := hxs kx
  refine ⟨by simp [lineL, kx, ky], ?_, ?_⟩
  ·simp [lineL, kx, ky, eo, uO, midT]
  ·simp [lineL, kx, ky, uO, opM, opnX, txU, e, mt_app, hyr]
 ·have e := hys ky
  refine ⟨by simp [lineL, kx, ky], ?_, ?_⟩
  ·simp [lineL, kx, ky, eo, uO, midT]
  ·simp [lineL, kx, ky, uO, opM, opnX, txU, e, app_mt, hxr]
 ·have e := ht (by omega) (by omega)
  refine ⟨by simp [lineL, kx, ky], ?_, ?_⟩
  ·simp [lineL, kx, ky, eo, uO, midT, e]
  ·simp [lineL, kx, ky, uO, opM, opnX, txU, e, hyr]
 ·have e := ht (by omega) (by omega)
  refine ⟨by simp [lineL, kx, ky], ?_, ?_⟩
  ·simp [lineL, kx, ky, eo, uO, midT, e]
  ·simp [lineL, kx, ky, uO, opM, opnX, txU, e, hyr]
 ·have e := hys ky
  refine ⟨by simp [lineL, kx, ky], ?_, ?_⟩
  ·simp [lineL, kx, ky, eo, uO, midT]
  ·simp [lineL, kx, ky, uO, opM, opnX, txU, e, app_mt, hxr]
 ·have e := ht (by omega) (by omega)
  refine ⟨by simp [lineL, kx, ky], ?_, ?_⟩
  ·simp [lineL, kx, ky, eo, uO, midT, e]
  ·simp [lineL, kx, ky, uO, opM, opnX, txU, e, hyr]
 ·have e := ht (by omega) (by omega)
  refine ⟨by simp [lineL, kx, ky], ?_, ?_⟩
  ·simp [lineL, kx, ky, eo, uO, midT, e]
  ·simp [lineL, kx, ky, uO, opM, opnX, txU, e, hyr]
theorem drop_both {ps qs : List Op} (hp : okAll ps) (hq : okAll qs) (hne : ps.length + qs.length ≠ 0) :
  1 ≤ (lineL (nextL ps 2147483648) (nextL qs 2147483648)).2.1 ∧ (dropL ps (lineL (nextL ps 2147483648) (nextL qs 2147483648)).2.1).length + (dropL qs (lineL (nextL ps 2147483648) (nextL qs 2147483648)).2.1).length < ps.length + qs.length := by
 have a := drop_len ps
 have b := drop_len qs
 generalize hx : nextL ps 2147483648 = x
 generalize hy : nextL qs 2147483648 = y
 have ox : okOne x = true := hx ▸ nextL_ok hp
 have oy : okOne y = true := hy ▸ nextL_ok hq
 have en : ps = [] → x.f0 = 1 ∧ x.f1 = 2147483648 := by rintro rfl; rw [← hx]; exact ⟨rfl, rfl⟩
 have eq : qs = [] → y.f0 = 1 ∧ y.f1 = 2147483648 := by rintro rfl; rw [← hy]; exact ⟨rfl, rfl⟩
 have fp : ∀ n : Int, ps ≠ [] → ¬ (x.f0 = 1 ∧ x.f1 > n) → (dropL ps n).length < ps.length := by
  intro n hl hc
  cases ps with
  | nil => exact absurd rfl hl
  | cons o r =>
   have : o = x := hx
   subst this
   rw [dropL]
   rw [if_neg hc]; simp
 have fq : ∀ n : Int, qs ≠ [] → ¬ (y.f0 = 1 ∧ y.f1 > n) → (dropL qs n).length < qs.length := by
  intro n hl hc
  cases qs with
  | nil => exact absurd rfl hl
  | cons o r =>
   have : o = y := hy
   subst this
   rw [dropL]
   rw [if_neg hc]; simp
 by_cases kx : x.f0 = 1
 ·obtain ⟨x1, x2, _⟩ := okOne_skip ox kx
  by_cases ky : y.f0 = 1
  ·obtain ⟨y1, y2, _⟩ := okOne_skip oy ky
   have e : (lineL x y).2.1 = min x.f1 y.f1 := by simp [lineL, kx, ky]
   rw [e]
   refine ⟨by omega, ?_⟩
   have ap := a (min x.f1 y.f1)
   have bq := b (min x.f1 y.f1)
   by_cases ep : ps = []
   ·have eqn : qs ≠ [] := fun h => hne (by simp [ep, h])
    have := fq (min x.f1 y.f1) eqn (fun h => by have := (en ep).2; omega)
    omega
   ·by_cases eqq : qs = []
    ·have := fp (min x.f1 y.f1) ep (fun h => by have := (eq eqq).2; omega)
     omega
    ·by_cases hm : x.f1 ≤ y.f1
     ·have := fp (min x.f1 y.f1) ep (fun h => by omega)
      omega
     ·have := fq (min x.f1 y.f1) eqq (fun h => by omega)
      omega
  ·have e : (lineL x y).2.1 = 1 := by simp [lineL, kx, ky]
   rw [e]
   have eqn : qs ≠ [] := fun h => ky (eq h).1
   have := fq 1 eqn (fun h => ky h.1)
   have := a 1
   exact ⟨by omega, by omega⟩
 ·have e : (lineL x y).2.1 = 1 := by
   by_cases ky : y.f0 = 1 <;> simp [lineL, kx, ky]
  rw [e]
  have epn : ps ≠ [] := fun h => kx (en h).1
  have := fp 1 epn (fun h => kx h.1)
  have := b 1
  exact ⟨by omega, by omega⟩
theorem walkO_cmp : ∀ (n : Nat) (ps qs : List Op) (e : Bool), ps.length + qs.length ≤ n → okAll ps → okAll qs → (walkO n ps qs e).map exS = cmpT (ex ps) e (ex qs) := by
 intro n
 induction n with
 | zero =>
  intro ps qs e h hp hq
  obtain rfl : ps = [] := List.length_eq_zero_iff.mp (by omega)
  obtain rfl : qs = [] := List.length_eq_zero_iff.mp (by omega)
  rfl
 | succ n ih =>
  intro ps qs e h hp hq
  rw [walkO]
  by_cases h0 : ps.length + qs.length = 0
  ·rw [if_pos h0]
   obtain rfl : ps = [] := List.length_eq_zero_iff.mp (by omega)
   obtain rfl : qs = [] := List.length_eq_zero_iff.mp (by omega)
   rfl
  rw [if_neg h0]
  by_cases hd : hdK 3 ps = true
  ·rw [if_pos hd]
   obtain ⟨o, r, rfl, hk⟩ := hdK_iff.mp hd
   have ee : ex (o :: r) = .del o.f2 :: ex r := by rw [ex_cons, exO_ne (by omega)]; simp [uO, hk]
   simp only [List.length_cons] at h
   rw [ee, cmpT_del, ← ih r qs e (by omega) hp.tail hq, Option.map_map, Option.map_map]
   congr 1
   funext os
   show exS (⟨o, 1, false⟩ :: os) = _
   rw [exS_cons, exO_ne (by show o.f0 ≠ 1; omega)]
   simp [uO, hk]
  rw [if_neg hd]
  have nd : NoD (ex ps) := by
   rcases head_cases hp with h | ⟨o, r, e1, e2, _⟩
   ·exact h
   ·exact absurd (hdK_iff.mpr ⟨o, r, e1, e2⟩) hd
  by_cases hi : hdK 4 qs = true
  ·rw [if_pos hi]
   obtain ⟨o, r, rfl, hk⟩ := hdK_iff.mp hi
   have ee : ex (o :: r) = .ins o.f2 :: ex r := by rw [ex_cons, exO_ne (by omega)]; simp [uO, hk]
   simp only [List.length_cons] at h
   rw [ee, cmpT_ins nd, ← ih ps r e (by omega) hp hq.tail, Option.map_map, Option.map_map]
   congr 1
   funext os
   show exS (⟨o, 2, false⟩ :: os) = _
   rw [exS_cons, exO_ne (by show o.f0 ≠ 1; omega)]
   simp [uO, hk]
  rw [if_neg hi]
  have ni : NoI (ex qs) := by
   rcases head_casesI hq with h | ⟨o, r, e1, e2, _⟩
   ·exact h
   ·exact absurd (hdK_iff.mpr ⟨o, r, e1, e2⟩) hi
  have hne : ex ps ≠ [] ∨ ex qs ≠ [] := by
   cases ps with
   | nil =>
    cases qs with
    | nil => simp at h0
    | cons o r => exact .inr (ex_ne_nil hq.head)
   | cons o r => exact .inl (ex_ne_nil hp.head)
  obtain ⟨d1, d2⟩ := drop_both hp hq h0
  have nx := nx_ex hp
  have ny := nx_ex hq
  have ox := nextL_ok hp
  have oy := nextL_ok hq
  have x3 : (nextL ps 2147483648).f0 ≠ 3 := by
   intro h3
   cases ps with
   | nil => simp [nextL] at h3
   | cons o r => exact hd (hdK_iff.mpr ⟨o, r, rfl, h3⟩)
  have y4 : (nextL qs 2147483648).f0 ≠ 4 := by
   intro h3
   cases qs with
   | nil => simp [nextL] at h3
   | cons o r => exact hi (hdK_iff.mpr ⟨o, r, rfl, h3⟩)
  have i := ih (dropL ps (lineL (nextL ps 2147483648) (nextL qs 2147483648)).2.1) (dropL qs (lineL (nextL ps 2147483648) (nextL qs 2147483648)).2.1) (opnB (lineL (nextL ps 2147483648) (nextL qs 2147483648)).1) (by omega) (hp.drop d1) (hq.drop d1)
  have dsp := fun (n : Int) hn hk hle => dropSkip hp (n := n) hn hk hle
  have dsq := fun (n : Int) hn hk hle => dropSkip hq (n := n) hn hk hle
  generalize nextL ps 2147483648 = x at *
  generalize nextL qs 2147483648 = y at *
  by_cases hno : noneL x y e = true
  ·rw [if_pos hno, cmpT_mid nd ni hne]
   show none = _
   cases e with
   | true => rfl
   | false =>
    rw [if_neg (by simp), nx, ny]
    unfold noneL at hno
    simp only [Bool.false_or, Bool.and_eq_true, decide_eq_true_eq] at hno
    obtain ⟨⟨hx, hy⟩, hxy⟩ := hno
    have : midT (uO x) (uO y) = none := by
     rcases (okOne_ne ox hx).1 with kx | kx | kx <;> rcases (okOne_ne oy hy).1 with ky | ky | ky <;> first | exact absurd kx x3 | exact absurd ky y4 | simp [uO, kx, ky, midT, hxy]
    rw [this]; rfl
  rw [if_neg hno]
  have e0 : e = false := by
   cases e with
   | false => rfl
   | true => exact absurd rfl hno
  subst e0
  have hno' : noneL x y false = false := by simpa using hno
  rw [Option.map_map]
  by_cases hs : x.f0 = 1 ∧ y.f0 = 1
  ·obtain ⟨kx, ky⟩ := hs
   obtain ⟨x1, x2, _⟩ := okOne_skip ox kx
   obtain ⟨y1, y2, _⟩ := okOne_skip oy ky
   have el : lineL x y = (x.f2 ++ y.f2, min x.f1 y.f1, ⟨⟨1, min x.f1 y.f1, ⟨#[]⟩⟩, 0, false⟩) := by simp [lineL, kx, ky]
   have eb : opnB (lineL x y).1 = false := by
    have e1 := (okOne_skip ox kx).2.2
    have e2 := (okOne_skip oy ky).2.2
    rw [el]
    show opnB (x.f2 ++ y.f2) = false
    rw [e1, e2, app_mt]; rfl
   rw [eb] at i
   rw [el] at i d1 ⊢
   simp only at i d1 ⊢
   obtain ⟨m, hm⟩ : ∃ m : Nat, (min x.f1 y.f1).toNat = m + 1 := ⟨(min x.f1 y.f1).toNat - 1, by omega⟩
   have a1 := dsp (min x.f1 y.f1) d1 kx (by omega)
   have a2 := dsq (min x.f1 y.f1) d1 ky (by omega)
   rw [hm] at a1 a2
   rw [cmpT_skips m _ _ _ _ a1 a2 hne, ← i, Option.map_map]
   have : ∀ o : Option (List Step), o.map (exS ∘ (fun os => (⟨⟨1, min x.f1 y.f1, ⟨#[]⟩⟩, 0, false⟩ : Step) :: os)) = o.map ((fun w => List.replicate (m + 1) ((.skip, 0) : TU) ++ w) ∘ exS) := by
    intro o
    congr 1
    funext os
    show exS (_ :: os) = _ ++ exS os
    rw [exS_cons, exO_skip rfl]
    show List.map _ (List.replicate (min x.f1 y.f1).toNat U.skip) ++ _ = _
    rw [hm, List.map_replicate]; rfl
   have eb' : opnB (x.f2 ++ y.f2) = false := by rw [el] at eb; exact eb
   rw [eb']
   exact this _
  ·obtain ⟨m1, m2, m3⟩ := mid_line ox oy x3 y4 hs hno'
   rw [m1] at i ⊢
   rw [cmpT_mid nd ni hne, if_neg (by simp), nx, ny, m2, Option.bind_some, m3, ← tail1 hp, ← tail1 hq, ← i, Option.map_map]
   congr 1
   funext os
   show exS (_ :: os) = exS [_] ++ exS os
   rw [exS_cons, exS_cons]
   simp [exS]
def Sx (l : List Op) : Prop := l.length ≤ 274877906944 ∧ ∀ o ∈ l, o.f2.size < 1073741824
theorem Sx.sm {l : List Op} (h : Sx l) : Sm l := ⟨by have := h.1; omega, fun o ho => by have := h.2 o ho; omega⟩
theorem Sx.of_few {l : List Op} (h : fewN l ≤ 600) : Sx l := by
 refine ⟨by have := fewN_len l; omega, fun o ho => ?_⟩
 have : ∀ l : List Op, o ∈ l → 1 + o.f2.size ≤ fewN l := by
  intro l
  induction l with
  | nil => intro h; simp at h
  | cons x l ih =>
   intro h
   have e : fewN (x :: l) = (1 + x.f2.size) + fewN l := by simp [fewN]
   rcases List.mem_cons.mp h with rfl | h
   ·omega
   ·have := ih h; omega
 have := this l ho
 omega
def stepsL (os : List Step) : List Op := (os.filter fun s => !s.f2).map (·.f0)
theorem stepsL_cons (s : Step) (os : List Step) : stepsL (s :: os) = (if s.f2 = true then [] else [s.f0]) ++ stepsL os := by
 cases h : s.f2 <;> simp [stepsL, h]
def goodS (s : Step) : Prop := (okOne s.f0 = true ∧ s.f0.f2.size < 1073741824) ∧ (s.f1 = 0 ∨ s.f1 = 1 ∨ s.f1 = 2)
def okX (l : List Op) : Prop := ∀ o ∈ l, okOne o = true ∧ o.f2.size < 1073741824
theorem okX.all {l : List Op} (h : okX l) : okAll l := fun o ho => (h o ho).1
theorem okX.drop {l : List Op} (h : okX l) {n : Int} (hn : 1 ≤ n) : okX (dropL l n) := by
 intro o ho
 refine ⟨h.all.drop hn o ho, ?_⟩
 cases l with
 | nil => exact absurd ho (by simp [dropL])
 | cons x r =>
  rw [dropL] at ho
  split at ho
  ·rcases List.mem_cons.mp ho with rfl | ho
   ·exact (h x (List.mem_cons_self ..)).2
   ·exact (h o (List.mem_cons_of_mem _ ho)).2
  ·exact (h o (List.mem_cons_of_mem _ ho)).2
theorem nextL_okX {l : List Op} (h : okX l) : okOne (nextL l 2147483648) = true ∧ (nextL l 2147483648).f2.size < 1073741824 := by
 cases l with
 | nil => exact ⟨rfl, (by decide : (0 : Nat) < 1073741824)⟩
 | cons o r => exact h o (List.mem_cons_self ..)
theorem line_good {x y : Op} (hx : okOne x = true ∧ x.f2.size < 1073741824) (hy : okOne y = true ∧ y.f2.size < 1073741824) : goodS (lineL x y).2.2 := by
 unfold lineL goodS
 by_cases kx : x.f0 = 1
 ·by_cases ky : y.f0 = 1
  ·obtain ⟨x1, x2, _⟩ := okOne_skip hx.1 kx
   obtain ⟨y1, y2, _⟩ := okOne_skip hy.1 ky
   have a1 : 1 ≤ min x.f1 y.f1 := by omega
   have a2 : min x.f1 y.f1 ≤ 2147483648 := by omega
   simp only [kx, ky, ne_eq, not_true_eq_false, false_and, if_false]
   refine ⟨⟨?_, (by decide : (0 : Nat) < 1073741824)⟩, by simp⟩
   unfold okOne
   simp [a1, a2]
  ·simp only [kx, ky, ne_eq, not_true_eq_false, not_false_eq_true, false_and, if_false, if_true]
   exact ⟨hy, by split <;> simp⟩
 ·by_cases ky : y.f0 = 1
  ·simp only [kx, ky, ne_eq, not_true_eq_false, not_false_eq_true, and_false, if_false, if_true]
   exact ⟨hx, by split <;> simp⟩
  ·simp only [kx, ky, ne_eq, not_false_eq_true, and_self, if_true]
   split
   ·exact ⟨hy, by dsimp only; split <;> simp⟩
   ·split
    ·exact ⟨hx, .inr (.inl rfl)⟩
    ·exact ⟨hx, .inr (.inl rfl)⟩
theorem walkO_good : ∀ (n : Nat) (ps qs : List Op) (e : Bool) (os : List Step), okX ps → okX qs → walkO n ps qs e = some os → (∀ s ∈ os, goodS s) ∧ os.length ≤ n := by
 intro n
 induction n with
 | zero =>
  intro ps qs e os _ _ h
  obtain rfl : os = [] := (Option.some.inj h).symm
  exact ⟨fun s hs => by simp at hs, Nat.le_refl _⟩
 | succ n ih =>
  intro ps qs e os hp hq h
  rw [walkO] at h
  have cons : ∀ (s : Step) (os' : List Step), goodS s → (∀ x ∈ os', goodS x) ∧ os'.length ≤ n → (∀ x ∈ s :: os', goodS x) ∧ (s :: os').length ≤ n + 1 := by
   intro s os' hs hr
   refine ⟨fun x hx => ?_, by simp only [List.length_cons]; omega⟩
   rcases List.mem_cons.mp hx with rfl | hx
   ·exact hs
   ·exact hr.1 x hx
  split at h
  ·obtain rfl : os = [] := (Option.some.inj h).symm
   exact ⟨fun s hs => by simp at hs, by simp⟩
  ·rename_i h0
   split at h
   ·rename_i hd
    obtain ⟨o, r, rfl, hk⟩ := hdK_iff.mp hd
    obtain ⟨os', h', rfl⟩ := Option.map_eq_some_iff.mp h
    exact cons _ _ ⟨hp o (List.mem_cons_self ..), .inr (.inl rfl)⟩ (ih r qs e os' (fun x hx => hp x (List.mem_cons_of_mem _ hx)) hq h')
   ·split at h
    ·rename_i hi
     obtain ⟨o, r, rfl, hk⟩ := hdK_iff.mp hi
     obtain ⟨os', h', rfl⟩ := Option.map_eq_some_iff.mp h
     exact cons _ _ ⟨hq o (List.mem_cons_self ..), .inr (.inr rfl)⟩ (ih ps r e os' hp (fun x hx => hq x (List.mem_cons_of_mem _ hx)) h')
    ·split at h
     ·simp at h
     ·obtain ⟨os', h', rfl⟩ := Option.map_eq_some_iff.mp h
      obtain ⟨d1, _⟩ := drop_both hp.all hq.all h0
      exact cons _ _ (line_good (nextL_okX hp) (nextL_okX hq)) (ih _ _ _ os' (hp.drop d1) (hq.drop d1) h')
theorem ex_steps : ∀ (os : List Step), (∀ s ∈ os, goodS s) → ex (stepsL os) = un (exS os)
 | [], _ => rfl
 | s :: os, h => by
  have i := ex_steps os fun x hx => h x (List.mem_cons_of_mem _ hx)
  obtain ⟨_, h2⟩ := h s (List.mem_cons_self ..)
  rw [stepsL_cons, exS_cons, un_app, ex_app, i]
  congr 1
  cases hg : s.f2
  ·have : s.f1 ≠ 3 := by omega
   have e : ∀ l : List U, un (l.map fun u => ((u, s.f1) : TU)) = l := by
    intro l
    induction l with
    | nil => rfl
    | cons u l ih =>
     rw [List.map_cons, un_cons (by exact this), ih]
   simp only [Bool.false_eq_true, if_false, ex_cons, ex_nil, List.append_nil]
   exact (e _).symm
  ·simp [un, ex]
def thenU (p q : List U) : Option (List U) := (cmpU p false q).bind fun u => if rightU u = true then some (nf [] u) else none
def thenL (p q : List Op) : List Op × Bool := if rightL p = true ∧ rightL q = true then (match thenU (ex p) (ex q) with | some u => (pack u, true) | none => ([], false)) else ([], false)
theorem rightL_okX {l : List Op} (h : rightL l = true) (hs : Sx l) : okX l := fun o ho => ⟨(rightL_ok h).1 o ho, hs.2 o ho⟩
theorem okX_W {l : List Op} (h : okX l) : l.all okW1 = true := by
 rw [List.all_eq_true]
 intro o ho
 obtain ⟨h1, h2⟩ := h o ho
 unfold okW1
 by_cases hk : o.f0 = 1
 ·obtain ⟨a, b, _⟩ := okOne_skip h1 hk
  simp [hk, a, b, h2]
 ·simp [hk, h2]
theorem okX_R {l : List Op} (h : okX l) : l.all okR1 = true := by
 rw [List.all_eq_true]
 intro o ho
 have hw := (List.all_eq_true.mp (okX_W h)) o ho
 obtain ⟨h1, h2⟩ := h o ho
 unfold okR1
 rw [hw]
 by_cases hk : o.f0 = 1
 ·obtain ⟨a, b, c⟩ := okOne_skip h1 hk
  simp [hk, c]
  rfl
 ·obtain ⟨a, b, c⟩ := okOne_ne h1 hk
  have ht : o.f2 ≠ ⟨#[]⟩ := by
   intro e
   rw [e] at c
   exact absurd c (by decide)
  simp [hk, ht, a]
theorem okW_of {p q : List Op} (hp : okX p) (hq : okX q) (h : p.length + q.length ≤ 1099511627776) : okW p q = true := by
 unfold okW
 rw [okX_W hp, okX_W hq]; simp [h]
theorem okR_of {p q : List Op} (hp : okX p) (hq : okX q) (h : p.length + q.length ≤ 1099511627776) : okR p q = true := by
 unfold okR
 rw [okX_R hp, okX_R hq]; simp [h]
theorem form_steps {os : List Step} (h : ∀ s ∈ os, goodS s) : ∀ o ∈ stepsL os, formO o := by
 intro o ho
 obtain ⟨s, hs, rfl⟩ := List.mem_map.mp ho
 exact form_of (h s (List.mem_filter.mp hs).1).1.1
theorem sx_steps {os : List Step} (h : ∀ s ∈ os, goodS s) (hl : os.length ≤ 1099511627776) : Sm (stepsL os) := by
 refine ⟨?_, fun o ho => ?_⟩
 ·have : (stepsL os).length ≤ os.length := by unfold stepsL; rw [List.length_map]; exact List.length_filter_le _ _
  omega
 ·obtain ⟨s, hs, rfl⟩ := List.mem_map.mp ho
  have := (h s (List.mem_filter.mp hs).1).1.2
  omega
theorem mid_olds {x y : U} {a : List U} (h : midU x y = some a) : (olds a).length ≤ (olds [x]).length ∧ (olds a).length ≤ 1 := by
 cases x <;> cases y <;> simp only [midU, midT] at h <;> (try split at h) <;> simp [un] at h <;> subst h <;> simp [olds]
theorem Cmp.olds_le {p q w : List U} (h : Cmp p q w) : (olds w).length ≤ (olds p).length + (olds q).length := by
 induction h with
 | nil => simp [olds]
 | del t _ ih => simp only [olds, List.length_cons]; omega
 | ins t _ _ ih => simp only [olds]; omega
 | mid hp hq hne ha _ ih =>
  rename_i p q a w _
  obtain ⟨a1, a2⟩ := mid_olds ha
  rw [olds_app, List.length_append]
  cases p with
  | cons x p =>
   have : (olds (x :: p)).length = (olds [x]).length + (olds p).length := by
    show (olds ([x] ++ p)).length = _
    rw [olds_app, List.length_append]
   have e1 : nxU (x :: p) = x := rfl
   rw [e1] at a1
   have : (olds q.tail).length ≤ (olds q).length := by
    cases q with
    | nil => exact Nat.le_refl _
    | cons y q => cases y <;> simp [olds]
   simp only [List.tail_cons] at ih
   omega
  | nil =>
   cases q with
   | nil => simp at hne
   | cons y q =>
    have : (olds (y :: q)).length = 1 + (olds q).length := by
     cases y with
     | ins t => exact absurd rfl (hq t q)
     | skip => simp [olds]; omega
     | keep t => simp [olds]; omega
     | del t => simp [olds]; omega
    simp only [List.tail_cons, List.tail_nil] at ih
    omega
theorem un_cmp {p q : List U} {e : Bool} {w : List TU} (h : cmpT p e q = some w) : cmpU p e q = some (un w) := by unfold cmpU; rw [h]; rfl
theorem walk_then {p q : List Op} (hp : Sx p) (hq : Sx q) (rp : rightL p = true) (rq : rightL q = true) :
  (walkO (p.length + q.length) p q false = none ∧ thenL p q = ([], false)) ∨
  ∃ os, walkO (p.length + q.length) p q false = some os ∧ cmpT (ex p) false (ex q) = some (exS os) ∧ (∀ s ∈ os, goodS s) ∧ os.length ≤ p.length + q.length ∧ ex (stepsL os) = un (exS os) ∧ (∀ o ∈ stepsL os, formO o) ∧ Sm (stepsL os) ∧
   skips (stepsL os) ≤ 4294967296 ∧ rightL (stepsL os) = rightU (un (exS os)) ∧ thenL p q = if rightL (stepsL os) = true then (normL (stepsL os), true) else ([], false) := by
 have op := rightL_okX rp hp
 have oq := rightL_okX rq hq
 have hc := walkO_cmp (p.length + q.length) p q false (Nat.le_refl _) op.all oq.all
 cases hw : walkO (p.length + q.length) p q false with
 | none =>
  left
  refine ⟨rfl, ?_⟩
  rw [hw] at hc
  have hc : cmpT (ex p) false (ex q) = none := hc.symm
  unfold thenL thenU cmpU
  rw [if_pos ⟨rp, rq⟩, hc]; rfl
 | some os =>
  right
  rw [hw] at hc
  have hc : cmpT (ex p) false (ex q) = some (exS os) := hc.symm
  obtain ⟨g1, g2⟩ := walkO_good _ _ _ _ _ op oq hw
  have he := ex_steps os g1
  have hf := form_steps g1
  have hsm := sx_steps g1 (by have := hp.1; have := hq.1; omega)
  have hr : rightL (stepsL os) = rightU (un (exS os)) := by rw [right_iff hf, he]
  have hu := un_cmp hc
  have hsk : skips (stepsL os) ≤ 4294967296 := by
   have h1 := skips_le 3 hf
   rw [sums_olds _ hf, he] at h1
   have h2 := (Cmp.of _ _ _ _ hu).olds_le
   have h3 := (rightL_ok rp).2.1
   have h4 := (rightL_ok rq).2.1
   rw [sums_olds _ (rightL_form rp)] at h3
   rw [sums_olds _ (rightL_form rq)] at h4
   omega
  refine ⟨os, rfl, hc, g1, g2, he, hf, hsm, hsk, hr, ?_⟩
  unfold thenL thenU
  rw [if_pos ⟨rp, rq⟩, hu, Option.bind_some, hr]
  cases rightU (un (exS os))
  ·rfl
  ·simp only [if_true]
   unfold normL
   rw [he]
end Go.Proofs.YtkiklmmpflndbaaDoor.P
namespace Go.Proofs.YtkiklmmpflndbaaDoor.P
open Go.RowKit Go.Proofs.YtkiklmmpflndbaaDoorW.PrintWords Go.Proofs.YtkiklmmpflndbaaDoorW.PrintLast Go.Proofs.YtkiklmmpflndbaaDoorW.PrintMore
theorem told_loop (s : List Step) : ∀ (p : List Step) (out v : List Op) (b : Bool), (p ++ s).length < 1099511627777 → out.length ≤ p.length → out ++ stepsL s = v → Ev (fun k => ops_Right.f k v) b → Ev (fun k => compose_told.l0 k out (p ++ s) ((p ++ s).length : Int) (p.length : Int)) (v, b) := by
 induction s with
 | nil =>
  intro p out v b hb ho hv h
  have hv : out = v := by rw [← hv]; simp [stepsL]
  subst hv
  refine Ev.step (fun k => rfl) ?_
  simp only [compose_told.l0, lt_end, if_false]
  exact Ev.bind' h (Ev.now _)
 | cons x s ih =>
  intro p out v b hb ho hv h
  have hl := hb
  simp only [List.length_append, List.length_cons] at hl
  have i := fun out h1 h2 => ih (p ++ [x]) out v b (by simpa using hb) h1 h2 h
  rw [List.append_assoc, List.singleton_append] at i
  have w := wrap_len p x (by omega)
  have e : rd_Step (p ++ x :: s) (p.length : Int) = x := getD_mid p s x zStep
  rw [stepsL_cons] at hv
  have c : out.length < 4398046511104 := by omega
  refine Ev.step (fun k => rfl) ?_
  simp only [compose_told.l0, lt_mid, nn_nat, if_true, e, w, if_pos c]
  cases hg : x.f2
  ·simp only [Bool.false_eq_true, if_false]
   refine i _ (by simp only [List.length_append, List.length_singleton]; omega) ?_
   rw [← hv, hg]; simp
  ·simp only [if_true]
   refine i _ (by simp only [List.length_append, List.length_singleton]; omega) ?_
   rw [← hv, hg]; simp
theorem told_ev {os : List Step} (h : os.length ≤ 1099511627776) (hs : Sm (stepsL os)) : Ev (fun k => compose_told.f k os) (stepsL os, rightL (stepsL os)) :=
 told_loop os [] [] _ _ (by simpa using (by omega : os.length < 1099511627777)) (by simp) (by simp) (right_ev hs)
theorem pthen_ev {p q : List Op} (hp : Sx p) (hq : Sx q) : Ev (fun k => compose_Then.f k p q) (thenL p q) := by
 have hlen : p.length + q.length ≤ 1099511627776 := by have := hp.1; have := hq.1; omega
 cases rp : rightL p
 ·have e : thenL p q = ([], false) := by unfold thenL; simp [rp]
  rw [e]
  refine Ev.bind' (a := ([], false)) ?_ ?_
  ·refine Ev.bind' (right_ev hp.sm) ?_
   simp only [rp, Bool.false_eq_true, if_false]
   exact Ev.now _
  ·simp only [Bool.false_eq_true, if_false]
   exact Ev.now _
 cases rq : rightL q
 ·have e : thenL p q = ([], false) := by unfold thenL; simp [rq]
  rw [e]
  refine Ev.bind' (a := ([], false)) ?_ ?_
  ·refine Ev.bind' (right_ev hp.sm) ?_
   simp only [rp, if_true]
   refine Ev.bind' (right_ev hq.sm) ?_
   simp only [rq, Bool.false_eq_true, if_false]
   exact Ev.now _
  ·simp only [Bool.false_eq_true, if_false]
   exact Ev.now _
 have hW := okW_of (rightL_okX rp hp) (rightL_okX rq hq) hlen
 rcases walk_then hp hq rp rq with ⟨hw, e⟩ | ⟨os, hw, _, g1, g2, he, hf, hsm, hsk, hr, e⟩
 ·rw [e]
  refine Ev.bind' (a := ([], false)) ?_ ?_
  ·refine Ev.bind' (right_ev hp.sm) ?_
   simp only [rp, if_true]
   refine Ev.bind' (right_ev hq.sm) ?_
   simp only [rq, if_true, hW, hw]
   exact Ev.now _
  ·simp only [Bool.false_eq_true, if_false]
   exact Ev.now _
 ·rw [e]
  have ht := told_ev (os := os) (by omega) hsm
  cases hrs : rightL (stepsL os)
  ·refine Ev.bind' (a := ([], false)) ?_ ?_
   ·refine Ev.bind' (right_ev hp.sm) ?_
    simp only [rp, if_true]
    refine Ev.bind' (right_ev hq.sm) ?_
    simp only [rq, if_true, hW, hw]
    refine Ev.bind' ht ?_
    simp only [hrs, Bool.false_eq_true, if_false]
    exact Ev.now _
   ·simp only [Bool.false_eq_true, if_false]
    exact Ev.now _
  ·refine Ev.bind' (a := (os, true)) ?_ ?_
   ·refine Ev.bind' (right_ev hp.sm) ?_
    simp only [rp, if_true]
    refine Ev.bind' (right_ev hq.sm) ?_
    simp only [rq, if_true, hW, hw]
    refine Ev.bind' ht ?_
    simp only [hrs, if_true]
    exact Ev.now _
   ·simp only [if_true]
    refine Ev.bind' ht ?_
    refine Ev.bind' (norm_ev hsm) ?_
    simp only [hrs, if_true]
    exact Ev.now _
def opsB (l : List By) : List Op := l.map (·.f0)
theorem opsB_byS (os : List Step) : opsB (byS os) = stepsL os := by
 unfold opsB byS stepsL
 rw [List.map_map]; rfl
theorem refops_loop (s : List By) : ∀ (p : List By), (p ++ s).length < 4398046511104 → Ev (fun k => patchworkref8_ops.l0 k (p ++ s) (opsB p) (p.length : Int)) (opsB (p ++ s)) := by
 induction s with
 | nil =>
  intro p _
  refine Ev.step (fun k => rfl) ?_
  simp only [patchworkref8_ops.l0, lt_end, if_false]
  rw [List.append_nil]
  exact Ev.now _
 | cons x s ih =>
  intro p hb
  have hl := hb
  simp only [List.length_append, List.length_cons] at hl
  have i := ih (p ++ [x]) (by simpa using hb)
  rw [List.append_assoc, List.singleton_append] at i
  have w := wrap_len p x (by omega)
  have e : rd_By (p ++ x :: s) (p.length : Int) = x := getD_mid p s x zBy
  have c : (opsB p).length < 4398046511104 := by unfold opsB; rw [List.length_map]; omega
  have eo : opsB p ++ [(⟨x.f0.f0, x.f0.f1, x.f0.f2⟩ : Op)] = opsB (p ++ [x]) := by simp [opsB]
  refine Ev.step (fun k => rfl) ?_
  simp only [patchworkref8_ops.l0, lt_mid, nn_nat, if_true, e, w, if_pos c, eo]
  exact i
theorem refops_ev {l : List By} (h : l.length < 4398046511104) : Ev (fun k => patchworkref8_ops.f k l) (opsB l) := refops_loop l [] h
theorem byS_len' (os : List Step) : (byS os).length ≤ os.length := by
 unfold byS
 rw [List.length_map]
 exact List.length_filter_le _ _
theorem refwalk_val {p q : List Op} (hp : Sx p) (hq : Sx q) (rp : rightL p = true) (rq : rightL q = true) : patchworkref8_walk.f p q = some (match walkO (p.length + q.length) p q false with | none => ([], false, false) | some os => (byS os, metS os, true)) := by
 have hlen : p.length + q.length ≤ 1099511627776 := by have := hp.1; have := hq.1; omega
 unfold patchworkref8_walk.f
 rw [if_pos (okR_of (rightL_okX rp hp) (rightL_okX rq hq) hlen)]
 cases walkO (p.length + q.length) p q false <;> rfl
theorem refthen_ev {p q : List Op} (hp : Sx p) (hq : Sx q) : Ev (fun k => patchworkref8_Then.f k p q) (thenL p q) := by
 cases rp : rightL p
 ·have e : thenL p q = ([], false) := by unfold thenL; simp [rp]
  rw [e]
  refine Ev.bind' (refright_ev hp.sm) ?_
  simp only [rp, Bool.false_eq_true, if_false]
  refine Ev.step (fun k => rfl) ?_
  simp only [patchworkref8_Then.j0, if_true]
  exact Ev.now _
 cases rq : rightL q
 ·have e : thenL p q = ([], false) := by unfold thenL; simp [rq]
  rw [e]
  refine Ev.bind' (refright_ev hp.sm) ?_
  simp only [rp, if_true]
  refine Ev.bind' (refright_ev hq.sm) ?_
  simp only [rq, Bool.not_false]
  refine Ev.step (fun k => rfl) ?_
  simp only [patchworkref8_Then.j0, if_true]
  exact Ev.now _
 refine Ev.bind' (refright_ev hp.sm) ?_
 simp only [rp, if_true]
 refine Ev.bind' (refright_ev hq.sm) ?_
 simp only [rq, Bool.not_true]
 refine Ev.step (fun k => rfl) ?_
 simp only [patchworkref8_Then.j0, Bool.false_eq_true, if_false]
 have hv := refwalk_val hp hq rp rq
 rcases walk_then hp hq rp rq with ⟨hw, e⟩ | ⟨os, hw, _, g1, g2, he, hf, hsm, hsk, hr, e⟩
 ·rw [hw] at hv
  rw [e]
  refine Ev.bindN hv ?_
  refine Ev.bind' (refops_ev (l := []) (by simp)) ?_
  refine Ev.bind' (refnorm_ev (l := opsB []) Sm.nil (fun o ho => by simp [opsB] at ho) (by simp [opsB, skips])) ?_
  simp only [Bool.false_eq_true, if_false]
  exact Ev.now _
 ·rw [hw] at hv
  rw [e]
  refine Ev.bindN hv ?_
  refine Ev.bind' (refops_ev (l := byS os) (by have := byS_len' os; have := hp.1; have := hq.1; omega)) ?_
  rw [opsB_byS]
  refine Ev.bind' (refnorm_ev hsm hf (by omega)) ?_
  simp only [if_true]
  have hn : rightL (normL (stepsL os)) = rightL (stepsL os) := by
   unfold normL
   rw [right_pack, rightU_nf, ← right_iff hf]
  refine Ev.bind' (refright_ev (Sm.norm hsm hf)) ?_
  rw [hn]
  cases rightL (stepsL os)
  ·simp only [Bool.false_eq_true, if_false]; exact Ev.now _
  ·simp only [if_true]; exact Ev.now _
theorem thenL_some {p q : List Op} (h : (thenL p q).2 = true) : ∃ u, rightL p = true ∧ rightL q = true ∧ cmpU (ex p) false (ex q) = some u ∧ rightU u = true ∧ thenL p q = (pack (nf [] u), true) := by
 unfold thenL at h ⊢
 split at h
 ·rename_i hr
  rw [if_pos hr]
  unfold thenU at h ⊢
  cases hc : cmpU (ex p) false (ex q) with
  | none => rw [hc] at h; simp at h
  | some u =>
   rw [hc] at h
   simp only [Option.bind_some] at h ⊢
   cases hu : rightU u
   ·rw [hu] at h; simp at h
   ·exact ⟨u, hr.1, hr.2, rfl, hu, by simp⟩
 ·simp at h
theorem thenL_len {p q : List Op} (hp : Sx p) (hq : Sx q) : (thenL p q).1.length ≤ p.length + q.length ∧ ∀ o ∈ (thenL p q).1, o.f2.size < 1073741824 := by
 cases rp : rightL p
 ·unfold thenL; simp [rp]
 cases rq : rightL q
 ·unfold thenL; simp [rq]
 rcases walk_then hp hq rp rq with ⟨hw, e⟩ | ⟨os, hw, _, g1, g2, he, hf, hsm, hsk, hr, e⟩
 ·rw [e]; simp
 ·rw [e]
  split
  ·refine ⟨?_, ?_⟩
   ·have h1 := nf_pack_len (stepsL os) [] hf
    have h2 : (stepsL os).length ≤ os.length := by unfold stepsL; rw [List.length_map]; exact List.length_filter_le _ _
    simp only [List.length_nil] at h1
    show (pack (nf [] (ex (stepsL os)))).length ≤ _
    omega
   ·intro o ho
    have ho : o ∈ pack (nf [] (ex (stepsL os))) := ho
    have he0 : ByteArray.empty.size = 0 := rfl
    rcases tx_pack _ o ho with e | ⟨x, hx, e⟩
    ·rw [e, he0]; omega
    ·rcases nf_mem _ _ _ hx with hx | hx
     ·simp at hx
     ·rcases tx_ex hx with e2 | ⟨y, hy, e2⟩
      ·rw [e, e2, he0]; omega
      ·rw [e, e2]
       obtain ⟨s, hs, rfl⟩ := List.mem_map.mp hy
       exact (g1 s (List.mem_filter.mp hs).1).1.2
  ·simp
theorem Sx.then {p q : List Op} (hp : Sx p) (hq : Sx q) (h : p.length + q.length ≤ 274877906944) : Sx (thenL p q).1 := by
 obtain ⟨h1, h2⟩ := thenL_len hp hq
 exact ⟨by omega, h2⟩
theorem thenL_right {p q : List Op} (h : (thenL p q).2 = true) : rightL (thenL p q).1 = true := by
 obtain ⟨u, _, _, _, hu, e⟩ := thenL_some h
 rw [e, right_pack, rightU_nf]; exact hu
end Go.Proofs.YtkiklmmpflndbaaDoor.P
namespace Go.Proofs.YtkiklmmpflndbaaDoor.P
open Go.RowKit Go.Proofs.YtkiklmmpflndbaaDoorW.PrintWords Go.Proofs.YtkiklmmpflndbaaDoorW.PrintLast Go.Proofs.YtkiklmmpflndbaaDoorW.PrintMore
theorem dig_one : ∀ d : Fin 10, digB d.val = ⟨#[UInt8.ofNat (48 + d.val)]⟩ := by decide +kernel
theorem dec_num : ∀ (c n : Nat), n < 10 ^ (c + 1) → numF c n = ⟨(Lib.decDigits n).toArray⟩
 | 0, n, h => by
  have h1 : n < 10 := by simpa using h
  have d : digB (n % 10) = ⟨#[UInt8.ofNat (48 + n % 10)]⟩ := dig_one ⟨n % 10, by omega⟩
  rw [numF, Lib.decDigits, dif_pos h1, d, show n % 10 = n from by omega]
 | c + 1, n, h => by
  have q : 10 ^ (c + 1 + 1) = 10 ^ (c + 1) * 10 := rfl
  have d : digB (n % 10) = ⟨#[UInt8.ofNat (48 + n % 10)]⟩ := dig_one ⟨n % 10, by omega⟩
  rw [numF, Lib.decDigits]
  by_cases h9 : n > 9
  ·have i := dec_num c (n / 10) (by omega)
   rw [if_pos h9, dif_neg (by omega), i, d]
   apply WideShapes.bytes_inj
   rw [ByteArray.data_append, Array.toList_append]
  ·rw [if_neg h9, dif_pos (by omega), d, show n % 10 = n from by omega]
theorem put_val {n : Nat} (h : n < 100000) : nums_Put.f (n : Int) = some (numF 4 n) := by
 unfold nums_Put.f
 rw [if_pos ⟨by omega, by omega⟩, dec_num 4 n (by simpa using h)]
 congr 3
theorem pwit_skip {l : List Op} {i : Nat} {N : Int} (hl : l.length < 4398046511104) (hi : i < l.length) : ∀ (m j : Nat) (out v : List ByteArray), N = ((j + m : Nat) : Int) → out.length + m ≤ 90000 → j + m ≤ 90000 →
  Ev (fun k => witness_Lines.l0 k (out ++ witU out.length (List.replicate m .skip)) l (l.length : Int) (wrap64 ((i : Int) + 1))) v → Ev (fun k => witness_Lines.l1 k out l (l.length : Int) (i : Int) N (j : Int)) v
 | 0, j, out, v, ho, h1, h2, hv => by
  have c2 : ¬ (j : Int) < N := by omega
  refine Ev.step (fun k => rfl) ?_
  simp only [witness_Lines.l1, if_neg c2]
  simpa [witU] using hv
 | m + 1, j, out, v, ho, h1, h2, hv => by
  have c2 : (j : Int) < N := by omega
  have c3 : out.length < 8796093022208 := by omega
  obtain ⟨s1, s2, _⟩ := line_size out.length
  have w : wrap64 ((j : Int) + 1) = ((j + 1 : Nat) : Int) := by rw [wrap_small (by omega) (by omega)]; omega
  have i1 := pwit_skip (N := N) hl hi m (j + 1) (out ++ [lineN out.length]) v (by rw [ho]; congr 1; omega) (by rw [List.length_append, List.length_singleton]; omega) (by omega) (by
   have e : out ++ [lineN out.length] ++ witU (out ++ [lineN out.length]).length (List.replicate m U.skip) = out ++ witU out.length (List.replicate (m + 1) U.skip) := by
    rw [List.replicate_succ, witU, List.append_assoc, List.length_append]; rfl
   rw [e]; exact hv)
  refine Ev.step (fun k => rfl) ?_
  simp only [witness_Lines.l1, if_pos c2]
  refine Ev.bindN (put_val (n := out.length) (by omega)) ?_
  simp only [if_pos s1, if_pos s2, if_pos c3, w]
  exact i1
theorem pwit_loop (s : List Op) : ∀ (p : List Op) (out : List ByteArray), Sm (p ++ s) → (∀ o ∈ s, formO o) → out.length + (olds (ex s)).length ≤ 90000 →
  Ev (fun k => witness_Lines.l0 k out (p ++ s) ((p ++ s).length : Int) (p.length : Int)) (out ++ witU out.length (ex s)) := by
 induction s with
 | nil =>
  intro p out hb _ _
  refine Ev.step (fun k => rfl) ?_
  simp only [witness_Lines.l0, lt_end, if_false]
  rw [ex_nil, witU, List.append_nil]
  exact Ev.now _
 | cons o s ih =>
  intro p out hb hf hl
  have hlen := hb.len
  rw [ex_cons, olds_app, List.length_append] at hl
  have i := fun out h => ih (p ++ [o]) out hb.snoc (fun x hx => hf x (List.mem_cons_of_mem _ hx)) h
  rw [List.append_assoc, List.singleton_append] at i
  have w := wrap_len p o (by omega)
  have c3 : out.length < 8796093022208 := by omega
  have fo := hf o (List.mem_cons_self ..)
  rw [ex_cons, wit_app]
  refine Ev.step (fun k => rfl) ?_
  simp only [witness_Lines.l0, lt_mid, nn_nat, if_true, rdOp_mid, w]
  by_cases h1 : o.f0 = 1
  ·have f1 : 1 ≤ o.f1 := by
    rcases fo with h | h
    ·exact h.2.1
    ·omega
   have e : exO o = List.replicate o.f1.toNat .skip := by simp [exO, h1]
   have eo : (olds (exO o)).length = o.f1.toNat := by rw [e, olds_skips, List.length_replicate]
   rw [eo] at hl
   simp only [if_pos h1]
   rw [e] at eo ⊢
   rw [eo]
   have hnl : (out ++ witU out.length (List.replicate o.f1.toNat U.skip)).length = out.length + o.f1.toNat := by rw [List.length_append, wit_len, olds_skips, List.length_replicate]
   have j := i (out ++ witU out.length (List.replicate o.f1.toNat U.skip)) (by rw [hnl]; omega)
   rw [hnl, List.append_assoc] at j
   refine pwit_skip (i := p.length) hb.1 (by simp) o.f1.toNat 0 out _ (by rw [Nat.zero_add]; omega) (by omega) (by omega) ?_
   rw [w]
   exact j
  ·have hk : (o.f0 = 2 ∨ o.f0 = 3 ∨ o.f0 = 4) ∧ o.f1 = 0 := by
    rcases fo with h | h
    ·exact absurd h.1 h1
    ·exact h
   simp only [if_neg h1]
   rcases hk.1 with h | h | h
   ·have e : exO o = [.keep o.f2] := by simp [exO, h]
    rw [e] at hl ⊢
    simp only [olds, List.length_cons, List.length_nil] at hl
    have j := i (out ++ [o.f2]) (by rw [List.length_append, List.length_singleton]; omega)
    rw [len_snoc out o.f2, List.append_assoc] at j
    simp only [if_pos h, if_pos c3]
    exact j
   ·have e : exO o = [.del o.f2] := by simp [exO, h]
    have h2 : ¬ o.f0 = 2 := by omega
    rw [e] at hl ⊢
    simp only [olds, List.length_cons, List.length_nil] at hl
    have j := i (out ++ [o.f2]) (by rw [List.length_append, List.length_singleton]; omega)
    rw [len_snoc out o.f2, List.append_assoc] at j
    simp only [if_neg h2, if_pos h, if_pos c3]
    exact j
   ·have e : exO o = [.ins o.f2] := by simp [exO, h]
    have h2 : ¬ o.f0 = 2 := by omega
    have h3 : ¬ o.f0 = 3 := by omega
    rw [e] at hl ⊢
    simp only [olds, List.length_nil] at hl
    have j := i out (by omega)
    simp only [if_neg h2, if_neg h3]
    exact j
theorem pwit_ev {l : List Op} (h : Sm l) : Ev (fun k => witness_Lines.f k l) (witL l) := by
 unfold witL
 have no : Ev (fun k => witness_Lines.j0 k l true) [] := by
  refine Ev.step (fun k => rfl) ?_
  simp only [witness_Lines.j0, if_true]
  exact Ev.now _
 refine Ev.bind' (right_ev h) ?_
 cases hr : rightL l
 ·simp only [Bool.false_eq_true, if_false, false_and]; exact no
 simp only [if_true, true_and]
 refine Ev.bind' (olds_ev h) ?_
 by_cases hc : capd 3 l ≤ 5000
 ·have c : ¬ capd 3 l > 5000 := by omega
  simp only [c, decide_false, if_pos hc]
  refine Ev.step (fun k => rfl) ?_
  simp only [witness_Lines.j0, Bool.false_eq_true, if_false]
  rw [olds_capd hr] at hc
  exact pwit_loop l [] [] h (rightL_form hr) (by simp only [List.length_nil]; omega)
 ·have c : capd 3 l > 5000 := by omega
  simp only [c, decide_true, if_neg hc]
  exact no
def bothL (p q : List Op) : List ByteArray × Bool := if (thenL p q).2 = true then (witL (thenL p q).1, true) else ([], false)
theorem pboth_ev {p q : List Op} (hp : Sx p) (hq : Sx q) (hl : p.length + q.length ≤ 274877906944) : Ev (fun k => witness_Both.f k p q) (bothL p q) := by
 unfold bothL
 refine Ev.bind' (pthen_ev hp hq) ?_
 cases ht : (thenL p q).2
 ·simp only [Bool.false_eq_true, if_false]; exact Ev.now _
 ·simp only [if_true]
  exact Ev.bind' (pwit_ev (hp.then hq hl).sm) (Ev.now _)
theorem alive18 : Ev (fun k => patchworklaw18_alive.f k) true := by
 have s0 : Sx [] := ⟨by simp, by simp⟩
 have s1 : Sm [(⟨1, 2, ⟨#[]⟩⟩ : Op), ⟨3, 0, ⟨#[97, 10]⟩⟩] := ⟨by simp, fun o ho => by
  rcases List.mem_cons.mp ho with rfl | ho
  ·exact (by decide : (0 : Nat) < 4611686018427387904)
  ·rw [List.mem_singleton.mp ho]; exact (by decide : (2 : Nat) < 4611686018427387904)⟩
 have e0 : bothL [] [] = ([], true) := by decide +kernel
 have e1 : witL [] = [] := by decide +kernel
 have e2 : witL [(⟨1, 2, ⟨#[]⟩⟩ : Op), ⟨3, 0, ⟨#[97, 10]⟩⟩] = [⟨#[63, 48, 10]⟩, ⟨#[63, 49, 10]⟩, ⟨#[97, 10]⟩] := by decide +kernel
 have a0 := pboth_ev s0 s0 (by simp)
 have a1 := pwit_ev s0.sm
 have a2 := pwit_ev s1
 rw [e0] at a0
 rw [e1] at a1
 rw [e2] at a2
 unfold patchworklaw18_alive.f
 refine Ev.bind' a2 ?_
 refine Ev.bind' a0 ?_
 refine Ev.bind' a1 ?_
 have t1 : (rdOf ByteArray.empty [(⟨#[63, 48, 10]⟩ : ByteArray), ⟨#[63, 49, 10]⟩, ⟨#[97, 10]⟩] 1).toList = ([63, 49, 10] : List UInt8) := by rw [Lib.toList_data]; rfl
 have t2 : (rdOf ByteArray.empty [(⟨#[63, 48, 10]⟩ : ByteArray), ⟨#[63, 49, 10]⟩, ⟨#[97, 10]⟩] 2).toList = ([97, 10] : List UInt8) := by rw [Lib.toList_data]; rfl
 have c0 : (([] : List ByteArray).length : Int) = 0 := rfl
 have c3 : (([(⟨#[63, 48, 10]⟩ : ByteArray), ⟨#[63, 49, 10]⟩, ⟨#[97, 10]⟩] : List ByteArray).length : Int) = 3 := rfl
 have c1 : (1 : Int) < (([(⟨#[63, 48, 10]⟩ : ByteArray), ⟨#[63, 49, 10]⟩, ⟨#[97, 10]⟩] : List ByteArray).length : Int) := by rw [c3]; decide
 have c2 : (2 : Int) < (([(⟨#[63, 48, 10]⟩ : ByteArray), ⟨#[63, 49, 10]⟩, ⟨#[97, 10]⟩] : List ByteArray).length : Int) := by rw [c3]; decide
 simp only [if_pos c0, if_pos c3, if_pos c1, if_pos c2, if_pos t1, if_pos t2]
 exact Ev.now _
end Go.Proofs.YtkiklmmpflndbaaDoor.P
namespace Go.Proofs.YtkiklmmpflndbaaDoor.P
open Go.RowKit Go.Proofs.YtkiklmmpflndbaaDoorW.PrintWords Go.Proofs.YtkiklmmpflndbaaDoorW.PrintLast Go.Proofs.YtkiklmmpflndbaaDoorW.PrintMore
def HD (p : List U) (x : U) (p' : List U) : Prop := p = x :: p' ∨ (p = [] ∧ x = .skip ∧ p' = [])
theorem HD.of (p : List U) : HD p (nxU p) p.tail := by
 cases p with
 | nil => exact .inr ⟨rfl, rfl, rfl⟩
 | cons x p => exact .inl rfl
inductive WT : List U → Bool → List U → List TU → Prop
 | nil (e : Bool) : WT [] e [] []
 | del (t : ByteArray) (p : List U) (e : Bool) (q : List U) (W : List TU) : WT p e q W → WT (.del t :: p) e q ((.del t, 1) :: W)
 | ins (t : ByteArray) (p : List U) (e : Bool) (q : List U) (W : List TU) : NoD p → WT p e q W → WT p e (.ins t :: q) ((.ins t, 2) :: W)
 | mid (p q p' q' : List U) (x y : U) (a : TU) (W : List TU) : HD p x p' → HD q y q' → (∀ t, x ≠ .del t) → (∀ t, y ≠ .ins t) → (p ≠ [] ∨ q ≠ []) → midT x y = some [a] → WT p' (opM x y) q' W → WT p false q (a :: W)
theorem midT_one {x y : U} {l : List TU} (h : midT x y = some l) : ∃ a, l = [a] := by
 cases x <;> cases y <;> simp only [midT] at h <;> first | (simp at h; done) | exact ⟨_, (Option.some.inj h).symm⟩ | (split at h <;> first | exact ⟨_, (Option.some.inj h).symm⟩ | (simp at h; done))
theorem nx_noD {p : List U} (h : NoD p) : ∀ t, nxU p ≠ .del t := by
 intro t e
 cases p with
 | nil => simp [nxU] at e
 | cons x p => rw [nxU_cons] at e; exact h t p (by rw [e])
theorem nx_noI {p : List U} (h : NoI p) : ∀ t, nxU p ≠ .ins t := by
 intro t e
 cases p with
 | nil => simp [nxU] at e
 | cons x p => rw [nxU_cons] at e; exact h t p (by rw [e])
theorem WT.of : ∀ p q, ∀ (e : Bool) (W : List TU), cmpT p e q = some W → WT p e q W := by
 refine walk_ind ?_ ?_ ?_ ?_
 ·intro e W h
  rw [cmpT_nil] at h
  obtain rfl := Option.some.inj h
  exact .nil e
 ·intro t p q ih e W h
  rw [cmpT_del] at h
  obtain ⟨W', h', rfl⟩ := Option.map_eq_some_iff.mp h
  exact .del t p e q W' (ih e W' h')
 ·intro t p q hp ih e W h
  rw [cmpT_ins hp] at h
  obtain ⟨W', h', rfl⟩ := Option.map_eq_some_iff.mp h
  exact .ins t p e q W' hp (ih e W' h')
 ·intro p q hp hq hne ih e W h
  rw [cmpT_mid hp hq hne] at h
  cases e with
  | true => simp at h
  | false =>
   simp only [Bool.false_eq_true, if_false] at h
   obtain ⟨l, h1, h2⟩ := Option.bind_eq_some_iff.mp h
   obtain ⟨a, rfl⟩ := midT_one h1
   obtain ⟨W', h', rfl⟩ := Option.map_eq_some_iff.mp h2
   exact .mid p q _ _ _ _ a W' (HD.of p) (HD.of q) (nx_noD hp) (nx_noI hq) hne h1 (ih _ W' h')
def no3 (W : List TU) : Prop := ∀ x ∈ W, x.2 ≠ 3
theorem no3.tail {x : TU} {W : List TU} (h : no3 (x :: W)) : no3 W := fun y hy => h y (List.mem_cons_of_mem _ hy)
theorem no3.head {x : TU} {W : List TU} (h : no3 (x :: W)) : x.2 ≠ 3 := h x (List.mem_cons_self ..)
def ownT (x : TU) : Prop := match x.1 with
 | .skip => x.2 = 0
 | .keep _ => x.2 = 0
 | .del _ => x.2 = 1 ∨ x.2 = 2
 | .ins _ => x.2 = 1 ∨ x.2 = 2
def owns (W : List TU) : Prop := ∀ x ∈ W, ownT x
theorem owns.tail {x : TU} {W : List TU} (h : owns (x :: W)) : owns W := fun y hy => h y (List.mem_cons_of_mem _ hy)
theorem owns.head {x : TU} {W : List TU} (h : owns (x :: W)) : ownT x := h x (List.mem_cons_self ..)
theorem owns.cons {x : TU} {W : List TU} (h : ownT x) (hw : owns W) : owns (x :: W) := by
 intro y hy
 rcases List.mem_cons.mp hy with rfl | hy
 ·exact h
 ·exact hw y hy
theorem owns.ok {W : List TU} (h : owns W) : okT W := by
 intro x hx hc
 have := h x hx
 obtain ⟨u, b⟩ := x
 cases u <;> simp [isCh] at hc <;> exact this
theorem mid_ways {x y : U} {a : TU} (h : midT x y = some [a]) (h3 : a.2 ≠ 3) :
  (x = .skip ∧ y = .skip ∧ a = (.skip, 0)) ∨ (∃ t, y = .keep t ∧ (x = .skip ∨ x = .keep t) ∧ a = (.keep t, 0)) ∨ (∃ t, y = .skip ∧ x = .keep t ∧ a = (.keep t, 0)) ∨
  (∃ t, y = .del t ∧ (x = .skip ∨ x = .keep t) ∧ a = (.del t, 2)) ∨ (∃ t, x = .ins t ∧ (y = .skip ∨ y = .keep t) ∧ a = (.ins t, 1)) := by
 cases x <;> cases y <;> simp only [midT] at h <;> first | (simp at h; done) | skip
 ·have := List.cons.inj (Option.some.inj h); exact .inl ⟨rfl, rfl, this.1.symm⟩
 ·rename_i t; have := List.cons.inj (Option.some.inj h); exact .inr (.inl ⟨t, rfl, .inl rfl, this.1.symm⟩)
 ·rename_i t; have := List.cons.inj (Option.some.inj h); exact .inr (.inr (.inr (.inl ⟨t, rfl, .inl rfl, this.1.symm⟩)))
 ·rename_i t; have := List.cons.inj (Option.some.inj h); exact .inr (.inr (.inl ⟨t, rfl, rfl, this.1.symm⟩))
 ·rename_i s t
  split at h
  ·rename_i e; subst e; have := List.cons.inj (Option.some.inj h); exact .inr (.inl ⟨_, rfl, .inr rfl, this.1.symm⟩)
  ·simp at h
 ·rename_i s t
  split at h
  ·rename_i e; subst e; have := List.cons.inj (Option.some.inj h); exact .inr (.inr (.inr (.inl ⟨_, rfl, .inr rfl, this.1.symm⟩)))
  ·simp at h
 ·rename_i t; have := List.cons.inj (Option.some.inj h); exact .inr (.inr (.inr (.inr ⟨t, rfl, .inl rfl, this.1.symm⟩)))
 ·rename_i s t
  split at h
  ·rename_i e; subst e; have := List.cons.inj (Option.some.inj h); exact .inr (.inr (.inr (.inr ⟨_, rfl, .inr rfl, this.1.symm⟩)))
  ·simp at h
 ·rename_i s t
  split at h
  ·have := List.cons.inj (Option.some.inj h); rw [← this.1] at h3; exact absurd rfl h3
  ·simp at h
theorem WT.owns {p : List U} {e : Bool} {q : List U} {W : List TU} (h : WT p e q W) (h3 : no3 W) : owns W := by
 induction h with
 | nil e => exact fun x hx => by simp at hx
 | del t p e q W _ ih => exact .cons (.inl rfl) (ih h3.tail)
 | ins t p e q W _ _ ih => exact .cons (.inr rfl) (ih h3.tail)
 | mid p q p' q' x y a W _ _ _ _ _ hm _ ih =>
  refine .cons ?_ (ih h3.tail)
  rcases mid_ways hm h3.head with ⟨_, _, rfl⟩ | ⟨t, _, _, rfl⟩ | ⟨t, _, _, rfl⟩ | ⟨t, _, _, rfl⟩ | ⟨t, _, _, rfl⟩
  ·rfl
  ·rfl
  ·rfl
  ·exact .inr rfl
  ·exact .inl rfl
theorem HD.eq {p p' : List U} {x : U} (h : HD p x p') (hx : x ≠ .skip) : p = x :: p' := by
 rcases h with h | ⟨_, h, _⟩
 ·exact h
 ·exact absurd h hx
def sw (x : TU) : TU := (x.1, if x.2 = 1 then 2 else if x.2 = 2 then 1 else x.2)
def pend (b : Int) (I : List TU) : Prop := ∀ x ∈ I, (∃ t, x = (.ins t, b)) ∧ (b = 1 ∨ b = 2)
theorem pend.nil (b : Int) : pend b [] := fun x hx => by simp at hx
theorem pend.tail {b : Int} {x : TU} {I : List TU} (h : pend b (x :: I)) : pend b I := fun y hy => h y (List.mem_cons_of_mem _ hy)
theorem pend.snoc {b c : Int} {I : List TU} (h : pend b I) (hb : b = 0 ∨ b = c) (hc : c = 1 ∨ c = 2) (t : ByteArray) : pend c (I ++ [(.ins t, c)]) := by
 intro x hx
 rcases List.mem_append.mp hx with hx | hx
 ·obtain ⟨⟨s, rfl⟩, h0⟩ := h x hx
  rcases hb with hb | hb
  ·omega
  ·exact ⟨⟨s, by rw [hb]⟩, hc⟩
 ·exact ⟨⟨t, List.mem_singleton.mp hx⟩, hc⟩
theorem pend.same {b c : Int} {I : List TU} (h : pend b I) (hb : b = 0 ∨ b = c) : pend c I := by
 intro x hx
 obtain ⟨⟨s, rfl⟩, h0⟩ := h x hx
 rcases hb with hb | hb
 ·omega
 ·subst hb; exact ⟨⟨s, rfl⟩, h0⟩
theorem owns.app {a b : List TU} (ha : owns a) (hb : owns b) : owns (a ++ b) := fun y hy => by
 rcases List.mem_append.mp hy with h | h
 ·exact ha y h
 ·exact hb y h
def swT (W : List TU) : List TU := W.map sw
theorem owns.sw {W : List TU} (h : owns W) : owns (swT W) := by
 intro x hx
 obtain ⟨y, hy, rfl⟩ := List.mem_map.mp hx
 have := h y hy
 obtain ⟨u, b⟩ := y
 cases u with
 | skip => have h : b = 0 := this; subst h; rfl
 | keep t => have h : b = 0 := this; subst h; rfl
 | del t => rcases this with h | h <;> (have h : b = _ := h; subst h; simp [P.sw, ownT])
 | ins t => rcases this with h | h <;> (have h : b = _ := h; subst h; simp [P.sw, ownT])
end Go.Proofs.YtkiklmmpflndbaaDoor.P
namespace Go.Proofs.YtkiklmmpflndbaaDoor.P
open Go.RowKit Go.Proofs.YtkiklmmpflndbaaDoorW.PrintWords Go.Proofs.YtkiklmmpflndbaaDoorW.PrintLast Go.Proofs.YtkiklmmpflndbaaDoorW.PrintMore
theorem told_no (x : Option (List ByteArray)) (hd : (told [] x).2 = false) : told [] x = ([], false) := by
 cases x with
 | none => rfl
 | some r =>
  have e : told [] (some r) = if wholeL ([] ++ r) = true then ([] ++ r, true) else ([], false) := rfl
  rw [e] at hd ⊢
  by_cases h : wholeL ([] ++ r) = true
  ·rw [if_pos h] at hd; simp at hd
  ·rw [if_neg h]
theorem doL_no {l : List Op} {ls : List ByteArray} (hd : (doL l ls).2 = false) : doL l ls = ([], false) := by
 unfold doL at hd ⊢
 split
 ·rename_i c
  rw [if_pos c] at hd
  exact told_no _ hd
 ·rfl
theorem doL_SmT {l : List Op} {ls : List ByteArray} (hl : l.length ≤ 2199023255552) (h : Sm l) (hll : ls.length < 2199023255552) (hls : SmT ls) : SmT (doL l ls).1 := by
 cases hd : (doL l ls).2
 ·rw [doL_no hd]; exact SmT.of_wt (by decide)
 ·obtain ⟨r, _, _, d3, _, d5⟩ := doL_true hd
  rw [d5]; exact hls.done hl h hll d3
end Go.Proofs.YtkiklmmpflndbaaDoor.P
namespace Go.Proofs.YtkiklmmpflndbaaDoor.P
open Go.RowKit Go.Proofs.YtkiklmmpflndbaaDoorW.PrintWords Go.Proofs.YtkiklmmpflndbaaDoorW.PrintLast Go.Proofs.YtkiklmmpflndbaaDoorW.PrintMore
def clS : List (Option ByteArray) → List ByteArray → Prop
 | none :: s, x :: l => openT x = false ∧ clS s l
 | some _ :: s, _ :: l => clS s l
 | _, _ => True
theorem clS_put : ∀ (o : List (Option ByteArray)) (s : List ByteArray), (∀ x ∈ s, openT x = false) → clS o (putS o s)
 | [], s, h => by cases s <;> exact trivial
 | none :: o, [], h => trivial
 | none :: o, x :: s, h => ⟨h x (List.mem_cons_self ..), clS_put o s fun y hy => h y (List.mem_cons_of_mem _ hy)⟩
 | some t :: o, s, h => by simp only [putS, clS]; exact clS_put o s h
theorem hd_skip {p p' : List U} (h : HD p .skip p') (x : ByteArray) (L : List ByteArray) : doU p (x :: L) = (doU p' L).map (x :: ·) := by
 rcases h with rfl | ⟨rfl, _, rfl⟩
 ·rw [doU]
 ·rfl
theorem hd_news {p p' : List U} {x : U} (h : HD p x p') (hp : textS (news p) = true) : textS (news p') = true := by
 rcases h with rfl | ⟨rfl, _, rfl⟩
 ·cases x with
  | skip => exact textS_none1 hp
  | keep t => exact (textS_cons hp).2
  | ins t => exact (textS_cons hp).2
  | del t => exact hp
 ·exact hp
theorem hd_olds {p p' : List U} {x : U} (h : HD p x p') (hp : textS (olds p) = true) : textS (olds p') = true := by
 rcases h with rfl | ⟨rfl, _, rfl⟩
 ·cases x with
  | skip => exact textS_none1 hp
  | keep t => exact (textS_cons hp).2
  | del t => exact (textS_cons hp).2
  | ins t => exact hp
 ·exact hp
def UNDO (p : List U) (e : Bool) (q u : List U) : Prop := ∀ (L r : List ByteArray), doU u L = some r → clS (olds u) L → L.length = (olds u).length → (∀ x ∈ L, rightT x = true) → textS (news p) = true → textS (olds q) = true →
 ∃ m, doU p L = some m ∧ doU q m = some r ∧ wholeL m = true ∧ (e = true → m = [])
theorem UNDO.del {p q u : List U} {e : Bool} (h : UNDO p e q u) (t : ByteArray) : UNDO (.del t :: p) e q (.del t :: u) := by
 intro L r hd hc hl hr hp hq
 match L, hd, hc, hl, hr with
 | [], hd, _, _, _ => simp [doU] at hd
 | x :: L, hd, hc, hl, hr =>
  rw [doU] at hd
  split at hd
  ·rename_i ex
   obtain ⟨m, a, b, c, d⟩ := h L r hd hc (by simpa [olds] using hl) (fun y hy => hr y (List.mem_cons_of_mem _ hy)) hp hq
   exact ⟨m, by rw [doU, if_pos ex]; exact a, b, c, d⟩
  ·simp at hd
theorem UNDO.ins {p q u : List U} {e : Bool} (h : UNDO p e q u) (t : ByteArray) : UNDO p e (.ins t :: q) (.ins t :: u) := by
 intro L r hd hc hl hr hp hq
 rw [doU] at hd
 obtain ⟨r', h', rfl⟩ := Option.map_eq_some_iff.mp hd
 obtain ⟨m, a, b, c, d⟩ := h L r' h' hc (by simpa [olds] using hl) hr hp hq
 exact ⟨m, a, by rw [doU, b]; rfl, c, d⟩
theorem UNDO.mid {p q p' q' u u' : List U} {x y : U} (h : UNDO p' (opM x y) q' u') (hx : HD p x p') (hy : HD q y q')
  (H : ∀ (L r : List ByteArray), doU u L = some r → clS (olds u) L → L.length = (olds u).length → (∀ z ∈ L, rightT z = true) → textS (news p) = true → textS (olds q) = true →
   ∃ (s : ByteArray) (L' r' : List ByteArray), doU u' L' = some r' ∧ clS (olds u') L' ∧ L'.length = (olds u').length ∧ (∀ z ∈ L', rightT z = true) ∧ rightT s = true ∧ (openT s = true → opM x y = true) ∧
    (∀ m, doU p' L' = some m → doU p L = some (s :: m)) ∧ (∀ m, doU q' m = some r' → doU q (s :: m) = some r)) : UNDO p false q u := by
 intro L r hd hc hl hr hp hq
 obtain ⟨s, L', r', a1, a2, a3, a4, a5, a6, a7, a8⟩ := H L r hd hc hl hr hp hq
 obtain ⟨m, b1, b2, b3, b4⟩ := h L' r' a1 a2 a3 a4 (hd_news hx hp) (hd_olds hy hq)
 refine ⟨s :: m, a7 m b1, a8 m b2, ?_, fun e => by simp at e⟩
 exact wholeL_mk a5 b3 fun o => b4 (a6 o)
theorem doU_hit (t : ByteArray) (u : List U) (L : List ByteArray) : doU (.keep t :: u) (t :: L) = (doU u L).map (t :: ·) := by rw [doU, if_pos rfl]
theorem doU_gone (t : ByteArray) (u : List U) (L : List ByteArray) : doU (.del t :: u) (t :: L) = doU u L := by rw [doU, if_pos rfl]
theorem doU_keep {t : ByteArray} {u : List U} {L r : List ByteArray} (h : doU (.keep t :: u) L = some r) : ∃ L' r', L = t :: L' ∧ r = t :: r' ∧ doU u L' = some r' := by
 cases L with
 | nil => simp [doU] at h
 | cons x L =>
  rw [doU] at h
  split at h
  ·rename_i e
   subst e
   obtain ⟨r', h', rfl⟩ := Option.map_eq_some_iff.mp h
   exact ⟨L, r', rfl, rfl, h'⟩
  ·simp at h
theorem doU_del {t : ByteArray} {u : List U} {L r : List ByteArray} (h : doU (.del t :: u) L = some r) : ∃ L', L = t :: L' ∧ doU u L' = some r := by
 cases L with
 | nil => simp [doU] at h
 | cons x L =>
  rw [doU] at h
  split at h
  ·rename_i e
   subst e
   exact ⟨L, rfl, h⟩
  ·simp at h
theorem undo {p : List U} {e : Bool} {q : List U} {W : List TU} (h : WT p e q W) : UNDO p e q (un W) := by
 induction h with
 | nil e =>
  intro L r hd hc hl hr hp hq
  obtain rfl : L = [] := List.length_eq_zero_iff.mp hl
  obtain rfl : ([] : List ByteArray) = r := Option.some.inj hd
  exact ⟨[], rfl, rfl, rfl, fun _ => rfl⟩
 | del t p e q W _ ih => rw [un_cons (by show (1 : Int) ≠ 3; decide)]; exact ih.del t
 | ins t p e q W _ _ ih => rw [un_cons (by show (2 : Int) ≠ 3; decide)]; exact ih.ins t
 | mid p q p' q' x y a W hx hy nx ny _ hm _ ih =>
  refine UNDO.mid ih hx hy ?_
  intro L r hd hc hl hr hp hq
  cases x with
  | del t => exact absurd rfl (nx t)
  | skip =>
   cases y with
   | ins t => exact absurd rfl (ny t)
   | skip =>
    simp only [midT, Option.some.injEq, List.cons.injEq, and_true] at hm
    subst hm
    rw [un_cons (by show (0 : Int) ≠ 3; decide)] at hd hc hl
    cases L with
    | nil => simp [doU] at hd
    | cons z L =>
     rw [doU] at hd
     obtain ⟨r', h', rfl⟩ := Option.map_eq_some_iff.mp hd
     refine ⟨z, L, r', h', hc.2, by simpa [olds] using hl, fun v hv => hr v (List.mem_cons_of_mem _ hv), hr z (List.mem_cons_self ..), fun o => ?_, fun m e => ?_, fun m e => ?_⟩
     ·have c1 : openT z = false := hc.1
      rw [o] at c1; simp at c1
     ·rw [hd_skip hx, e]; rfl
     ·rw [hd_skip hy, e]; rfl
   | keep t =>
    obtain rfl := hy.eq (by simp)
    simp only [midT, Option.some.injEq, List.cons.injEq, and_true] at hm
    subst hm
    rw [un_cons (by show (0 : Int) ≠ 3; decide)] at hd hc hl
    obtain ⟨L', r', rfl, rfl, h'⟩ := doU_keep hd
    exact ⟨t, L', r', h', hc, by simpa [olds] using hl, fun v hv => hr v (List.mem_cons_of_mem _ hv), (textS_cons hq).1, fun o => by simp [opM, opnX, txU, o], fun m e => by rw [hd_skip hx, e]; rfl, fun m e => by rw [doU_hit, e]; rfl⟩
   | del t =>
    obtain rfl := hy.eq (by simp)
    simp only [midT, Option.some.injEq, List.cons.injEq, and_true] at hm
    subst hm
    rw [un_cons (by show (2 : Int) ≠ 3; decide)] at hd hc hl
    obtain ⟨L', rfl, h'⟩ := doU_del hd
    exact ⟨t, L', r, h', hc, by simpa [olds] using hl, fun v hv => hr v (List.mem_cons_of_mem _ hv), (textS_cons hq).1, fun o => by simp [opM, opnX, txU, o], fun m e => by rw [hd_skip hx, e]; rfl, fun m e => by rw [doU_gone, e]⟩
  | keep s =>
   obtain rfl := hx.eq (by simp)
   cases y with
   | ins t => exact absurd rfl (ny t)
   | skip =>
    simp only [midT, Option.some.injEq, List.cons.injEq, and_true] at hm
    subst hm
    rw [un_cons (by show (0 : Int) ≠ 3; decide)] at hd hc hl
    obtain ⟨L', r', rfl, rfl, h'⟩ := doU_keep hd
    exact ⟨s, L', r', h', hc, by simpa [olds] using hl, fun v hv => hr v (List.mem_cons_of_mem _ hv), (textS_cons hp).1, fun o => by simp [opM, opnX, txU, o], fun m e => by rw [doU_hit, e]; rfl, fun m e => by rw [hd_skip hy, e]; rfl⟩
   | keep t =>
    obtain rfl := hy.eq (by simp)
    simp only [midT] at hm
    split at hm
    ·rename_i est
     subst est
     simp only [Option.some.injEq, List.cons.injEq, and_true] at hm
     subst hm
     rw [un_cons (by show (0 : Int) ≠ 3; decide)] at hd hc hl
     obtain ⟨L', r', rfl, rfl, h'⟩ := doU_keep hd
     exact ⟨s, L', r', h', hc, by simpa [olds] using hl, fun v hv => hr v (List.mem_cons_of_mem _ hv), (textS_cons hp).1, fun o => by simp [opM, opnX, txU, o], fun m e => by rw [doU_hit, e]; rfl, fun m e => by rw [doU_hit, e]; rfl⟩
    ·simp at hm
   | del t =>
    obtain rfl := hy.eq (by simp)
    simp only [midT] at hm
    split at hm
    ·rename_i est
     subst est
     simp only [Option.some.injEq, List.cons.injEq, and_true] at hm
     subst hm
     rw [un_cons (by show (2 : Int) ≠ 3; decide)] at hd hc hl
     obtain ⟨L', rfl, h'⟩ := doU_del hd
     exact ⟨s, L', r, h', hc, by simpa [olds] using hl, fun v hv => hr v (List.mem_cons_of_mem _ hv), (textS_cons hp).1, fun o => by simp [opM, opnX, txU, o], fun m e => by rw [doU_hit, e]; rfl, fun m e => by rw [doU_gone, e]⟩
    ·simp at hm
  | ins s =>
   obtain rfl := hx.eq (by simp)
   cases y with
   | ins t => exact absurd rfl (ny t)
   | skip =>
    simp only [midT, Option.some.injEq, List.cons.injEq, and_true] at hm
    subst hm
    rw [un_cons (by show (1 : Int) ≠ 3; decide)] at hd hc hl
    rw [doU] at hd
    obtain ⟨r', h', rfl⟩ := Option.map_eq_some_iff.mp hd
    exact ⟨s, L, r', h', hc, by simpa [olds] using hl, hr, (textS_cons hp).1, fun o => by simp [opM, opnX, txU, o], fun m e => by rw [doU, e]; rfl, fun m e => by rw [hd_skip hy, e]; rfl⟩
   | keep t =>
    obtain rfl := hy.eq (by simp)
    simp only [midT] at hm
    split at hm
    ·rename_i est
     subst est
     simp only [Option.some.injEq, List.cons.injEq, and_true] at hm
     subst hm
     rw [un_cons (by show (1 : Int) ≠ 3; decide)] at hd hc hl
     rw [doU] at hd
     obtain ⟨r', h', rfl⟩ := Option.map_eq_some_iff.mp hd
     exact ⟨s, L, r', h', hc, by simpa [olds] using hl, hr, (textS_cons hp).1, fun o => by simp [opM, opnX, txU, o], fun m e => by rw [doU, e]; rfl, fun m e => by rw [doU_hit, e]; rfl⟩
    ·simp at hm
   | del t =>
    obtain rfl := hy.eq (by simp)
    simp only [midT] at hm
    split at hm
    ·rename_i est
     subst est
     simp only [Option.some.injEq, List.cons.injEq, and_true] at hm
     subst hm
     have e3 : un ((.ins s, 3) :: W) = un W := by simp [un]
     rw [e3] at hd hc hl
     exact ⟨s, L, r, hd, hc, hl, hr, (textS_cons hp).1, fun o => by simp [opM, opnX, txU, o], fun m e => by rw [doU, e]; rfl, fun m e => by rw [doU_gone, e]⟩
    ·simp at hm
theorem both_do {p q : List Op} (h : (thenL p q).2 = true) (hc : capd 3 (thenL p q).1 ≤ 5000) :
  ∃ m r, doL p (witL (thenL p q).1) = (m, true) ∧ doL q m = (r, true) ∧ doL (thenL p q).1 (witL (thenL p q).1) = (r, true) := by
 have hr := thenL_right h
 obtain ⟨u, rp, rq, hu, ru, et⟩ := thenL_some h
 obtain ⟨w, hw, rfl⟩ : ∃ w, cmpT (ex p) false (ex q) = some w ∧ un w = u := by
  unfold cmpU at hu
  obtain ⟨w, a, b⟩ := Option.map_eq_some_iff.mp hu
  exact ⟨w, a, b⟩
 obtain ⟨e1, e2, e3, _, _⟩ := wit_do hr hc
 have ee : ex (thenL p q).1 = nf [] (un w) := by rw [et]; exact ex_pack _
 have eo : olds (ex (thenL p q).1) = olds (un w) := by rw [ee, olds_nf0]
 obtain ⟨r, h1, h2, h3, h4, h5⟩ := doL_true (l := (thenL p q).1) (ls := witL (thenL p q).1) (by rw [e2])
 have all3 : ∀ x ∈ skl 0 (ex (thenL p q).1), openT x = false := by
  intro x hx
  obtain ⟨m, rfl⟩ := skl_all _ _ x hx
  exact (line_ok m).2.1
 have rightAll : ∀ {l : List ByteArray}, wholeL l = true → ∀ x ∈ l, rightT x = true := by
  intro l
  induction l with
  | nil => intro _ x hx; simp at hx
  | cons y l ih =>
   intro hw x hx
   obtain ⟨a, b, _⟩ := wholeL_cons hw
   rcases List.mem_cons.mp hx with rfl | hx
   ·exact a
   ·exact ih b x hx
 have okp := rightL_U rp
 have okq := rightL_U rq
 unfold rightU okS at okp okq
 simp only [Bool.and_eq_true] at okp okq
 rw [ee, doU_nf0] at h3
 obtain ⟨m, a, b, c, _⟩ := undo (WT.of _ _ _ _ hw) _ r h3 (by rw [← eo, e1]; exact clS_put _ _ all3) (by rw [e3, eo]) (rightAll h2) okp.2.1 okq.1.1
 exact ⟨m, r, doL_of rp h2 a c, doL_of rq c b h4, h5⟩
end Go.Proofs.YtkiklmmpflndbaaDoor.P
