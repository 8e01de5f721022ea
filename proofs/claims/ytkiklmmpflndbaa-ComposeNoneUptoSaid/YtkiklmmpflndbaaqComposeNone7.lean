/- Own and printed texts that the theorem of ComposeNone reaches, put together. -/
import Derived.Test.YtkiklmmpflndbaaqComposeNone5
import Derived.Test.YtkiklmmpflndbaaqComposeNone3
set_option linter.unusedVariables false
set_option linter.unusedSimpArgs false
namespace Go.Proofs.Ytkiklmmpflndbaa.P
open Go.RowKit Go.Proofs.YtkiklmmpflndbaaW.PrintWords Go.Proofs.YtkiklmmpflndbaaW.PrintLast Go.Proofs.YtkiklmmpflndbaaW.PrintMore
def okAll (l : List Op) : Prop := ∀ o ∈ l, okOne o = true
theorem okAll.tail {o : Op} {l : List Op} (h : okAll (o :: l)) : okAll l := fun x hx => h x (List.mem_cons_of_mem _ hx)
theorem okAll.head {o : Op} {l : List Op} (h : okAll (o :: l)) : okOne o = true := h o (List.mem_cons_self ..)
def exS (os : List Step) : List TU := os.flatMap fun s => (exO s.f0).map fun u => (u, if s.f2 = true then 3 else s.f1)
theorem exS_cons (s : Step) (os : List Step) : exS (s :: os) = (exO s.f0).map (fun u => (u, if s.f2 = true then 3 else s.f1)) ++ exS os := by simp [exS]
def uO (o : Op) : U := if o.f0 = 1 then .skip else if o.f0 = 2 then .keep o.f2 else if o.f0 = 3 then .del o.f2 else .ins o.f2
theorem exO_skip {o : Op} (hk : o.f0 = 1) : exO o = List.replicate o.f1.toNat .skip := by simp [exO, hk]
theorem exO_ne {o : Op} (hk : o.f0 ≠ 1) : exO o = [uO o] := by
 unfold exO uO
 rw [if_neg hk, if_neg hk]
 split
 ·rfl
 ·split <;> rfl
theorem wrapsub {a n : Int} (h1 : 1 ≤ n) (h2 : n < a) (h3 : a ≤ 2147483648) : wrap64 (a - n) = a - n := by unfold wrap64; omega
theorem okAll.drop {ps : List Op} (h : okAll ps) {n : Int} (hn : 1 ≤ n) : okAll (dropL ps n) := by
 cases ps with
 | nil => exact h
 | cons o r =>
  rw [dropL]
  split
  ·rename_i c
   intro x hx
   rcases List.mem_cons.mp hx with rfl | hx
   ·obtain ⟨h1, h2, h3⟩ := okOne_skip h.head c.1
    unfold okOne
    rw [if_pos c.1, wrapsub hn c.2 h2, h3]
    have a1 : 1 ≤ o.f1 - n := by omega
    have a2 : o.f1 - n ≤ 2147483648 := by omega
    simp [a1, a2]
   ·exact h.tail x hx
  ·exact h.tail
theorem drop_len (ps : List Op) (n : Int) : (dropL ps n).length ≤ ps.length := by
 cases ps with
 | nil => exact Nat.le_refl _
 | cons o r => rw [dropL]; split <;> simp
theorem replicate_toNat {a : Int} (h : 1 ≤ a) : List.replicate a.toNat U.skip = .skip :: List.replicate (a - 1).toNat .skip := by
 rw [show a.toNat = (a - 1).toNat + 1 from by omega, List.replicate_succ]
theorem tail1 {ps : List Op} (h : okAll ps) : ex (dropL ps 1) = (ex ps).tail := by
 cases ps with
 | nil => rfl
 | cons o r =>
  by_cases hk : o.f0 = 1
  ·obtain ⟨h1, h2, h3⟩ := okOne_skip h.head hk
   rw [ex_cons, exO_skip hk, replicate_toNat h1]
   rw [dropL]
   by_cases c : o.f1 > 1
   ·rw [if_pos ⟨hk, c⟩, ex_cons, exO_skip (o := ⟨o.f0, wrap64 (o.f1 - 1), o.f2⟩) hk, wrapsub (by omega) c h2]; rfl
   ·rw [if_neg (fun x => c x.2), show (o.f1 - 1).toNat = 0 from by omega]; rfl
  ·rw [dropL]
   rw [if_neg (fun x => hk x.1), ex_cons, exO_ne hk]; rfl
theorem dropSkip {ps : List Op} (h : okAll ps) {n : Int} (hn : 1 ≤ n) (hk : (nextL ps 2147483648).f0 = 1) (hle : n ≤ (nextL ps 2147483648).f1) :
  ex ps = List.replicate n.toNat .skip ++ ex (dropL ps n) ∨ ex ps = [] ∧ ex (dropL ps n) = [] := by
 cases ps with
 | nil => exact .inr ⟨rfl, rfl⟩
 | cons o r =>
  left
  have hk : o.f0 = 1 := hk
  have hle : n ≤ o.f1 := hle
  obtain ⟨h1, h2, h3⟩ := okOne_skip h.head hk
  rw [dropL]
  by_cases c : o.f1 > n
  ·rw [if_pos ⟨hk, c⟩, ex_cons, ex_cons, exO_skip hk, exO_skip (o := ⟨o.f0, wrap64 (o.f1 - n), o.f2⟩) hk, wrapsub hn c h2, ← List.append_assoc, List.replicate_append_replicate]
   congr 2
   show o.f1.toNat = n.toNat + (o.f1 - n).toNat
   omega
  ·rw [if_neg (fun x => c x.2), ex_cons, exO_skip hk, show o.f1 = n from by omega]
theorem cmpT_skips : ∀ (n : Nat) (p q p' q' : List U), (p = List.replicate (n + 1) .skip ++ p' ∨ p = [] ∧ p' = []) → (q = List.replicate (n + 1) .skip ++ q' ∨ q = [] ∧ q' = []) → (p ≠ [] ∨ q ≠ []) →
  cmpT p false q = (cmpT p' false q').map (List.replicate (n + 1) ((.skip, 0) : TU) ++ ·) := by
 have hd : ∀ (n : Nat) (p p' : List U), (p = List.replicate (n + 1) .skip ++ p' ∨ p = [] ∧ p' = []) → nxU p = .skip ∧ NoD p ∧ NoI p ∧ (p.tail = List.replicate n .skip ++ p' ∨ p.tail = [] ∧ p' = []) := by
  intro n p p' h
  rcases h with rfl | ⟨rfl, rfl⟩
  ·rw [List.replicate_succ]
   exact ⟨rfl, fun t r e => by simp at e, fun t r e => by simp at e, .inl rfl⟩
  ·exact ⟨rfl, fun t r e => by simp at e, fun t r e => by simp at e, .inr ⟨rfl, rfl⟩⟩
 intro n
 induction n with
 | zero =>
  intro p q p' q' hp hq hne
  obtain ⟨p1, p2, _, p4⟩ := hd 0 p p' hp
  obtain ⟨q1, _, q3, q4⟩ := hd 0 q q' hq
  rw [cmpT_mid p2 q3 hne, p1, q1, if_neg (by simp)]
  have e1 : p.tail = p' := by rcases p4 with h | ⟨h, h'⟩ <;> simp [h, *]
  have e2 : q.tail = q' := by rcases q4 with h | ⟨h, h'⟩ <;> simp [h, *]
  rw [e1, e2]; rfl
 | succ n ih =>
  intro p q p' q' hp hq hne
  obtain ⟨p1, p2, _, p4⟩ := hd (n + 1) p p' hp
  obtain ⟨q1, _, q3, q4⟩ := hd (n + 1) q q' hq
  rw [cmpT_mid p2 q3 hne, p1, q1, if_neg (by simp)]
  have hne' : p.tail ≠ [] ∨ q.tail ≠ [] := by
   rcases hp with rfl | ⟨rfl, rfl⟩
   ·left; simp [List.replicate_succ]
   ·rcases hq with rfl | ⟨rfl, rfl⟩
    ·right; simp [List.replicate_succ]
    ·simp at hne
  show (some [((.skip, 0) : TU)]).bind (fun a => (cmpT p.tail (opM .skip .skip) q.tail).map (a ++ ·)) = _
  rw [Option.bind_some, show opM .skip .skip = false from rfl, ih p.tail q.tail p' q' p4 q4 hne', Option.map_map, List.replicate_succ (n := n + 1)]
  rfl
theorem nx_ex {ps : List Op} (h : okAll ps) : nxU (ex ps) = uO (nextL ps 2147483648) := by
 cases ps with
 | nil => rfl
 | cons o r =>
  show nxU (ex (o :: r)) = uO o
  rw [ex_cons]
  by_cases hk : o.f0 = 1
  ·rw [exO_skip hk, replicate_toNat (okOne_skip h.head hk).1]; simp [uO, hk, nxU]
  ·rw [exO_ne hk]; rfl
theorem ex_ne_nil {o : Op} {r : List Op} (h : okOne o = true) : ex (o :: r) ≠ [] := by
 rw [ex_cons]
 by_cases hk : o.f0 = 1
 ·rw [exO_skip hk, replicate_toNat (okOne_skip h hk).1]; simp
 ·rw [exO_ne hk]; simp
theorem head_cases {ps : List Op} (h : okAll ps) : NoD (ex ps) ∨ ∃ o r, ps = o :: r ∧ o.f0 = 3 ∧ ex ps = .del o.f2 :: ex r := by
 cases ps with
 | nil => exact .inl fun t r e => by simp [ex] at e
 | cons o r =>
  by_cases hk : o.f0 = 3
  ·exact .inr ⟨o, r, rfl, hk, by rw [ex_cons, exO_ne (by omega)]; simp [uO, hk]⟩
  ·left
   intro t s e
   have := nx_ex h
   rw [e] at this
   have hu : uO o = .del t := this.symm
   unfold uO at hu
   split at hu
   ·simp at hu
   ·split at hu
    ·simp at hu
    ·simp [hk] at hu
theorem head_casesI {ps : List Op} (h : okAll ps) : NoI (ex ps) ∨ ∃ o r, ps = o :: r ∧ o.f0 = 4 ∧ ex ps = .ins o.f2 :: ex r := by
 cases ps with
 | nil => exact .inl fun t r e => by simp [ex] at e
 | cons o r =>
  by_cases hk : o.f0 = 4
  ·exact .inr ⟨o, r, rfl, hk, by rw [ex_cons, exO_ne (by omega)]; simp [uO, hk]⟩
  ·left
   intro t s e
   have := nx_ex h
   rw [e] at this
   have hu : uO o = .ins t := this.symm
   unfold uO at hu
   by_cases h1 : o.f0 = 1
   ·simp [h1] at hu
   ·obtain ⟨h2, _⟩ := okOne_ne h.head h1
    rcases h2 with h2 | h2 | h2
    ·simp [h2] at hu
    ·simp [h2] at hu
    ·exact hk h2
theorem hdK_iff {k : Int} {ps : List Op} : hdK k ps = true ↔ ∃ o r, ps = o :: r ∧ o.f0 = k := by
 cases ps with
 | nil => simp [hdK]
 | cons o r => simp [hdK]
theorem opnB_right {t : ByteArray} (h : rightT t = true) : opnB t = openT t := by
 unfold rightT at h
 simp only [Bool.and_eq_true, decide_eq_true_eq] at h
 have : t ≠ ⟨#[]⟩ := fun e => h.1 (by rw [e])
 unfold opnB openT
 simp [this]
theorem app_mt (t : ByteArray) : t ++ ByteArray.empty = t := by
 apply WideShapes.bytes_inj; simp
theorem mt_app (t : ByteArray) : ByteArray.empty ++ t = t := by
 apply WideShapes.bytes_inj; simp
theorem nextL_ok {ps : List Op} (h : okAll ps) : okOne (nextL ps 2147483648) = true := by
 cases ps with
 | nil => rfl
 | cons o r => exact h.head
theorem mid_line {x y : Op} (hx : okOne x = true) (hy : okOne y = true) (h3 : x.f0 ≠ 3) (h4 : y.f0 ≠ 4) (hn : ¬ (x.f0 = 1 ∧ y.f0 = 1)) (hno : noneL x y false = false) :
  (lineL x y).2.1 = 1 ∧ midT (uO x) (uO y) = some (exS [(lineL x y).2.2]) ∧ opM (uO x) (uO y) = opnB (lineL x y).1 := by
 have hxs : x.f0 = 1 → x.f2 = ByteArray.empty := fun h => (okOne_skip hx h).2.2
 have hys : y.f0 = 1 → y.f2 = ByteArray.empty := fun h => (okOne_skip hy h).2.2
 have hxr : x.f0 ≠ 1 → opnB x.f2 = openT x.f2 := fun h => opnB_right (okOne_ne hx h).2.2
 have hyr : y.f0 ≠ 1 → opnB y.f2 = openT y.f2 := fun h => opnB_right (okOne_ne hy h).2.2
 have kx : x.f0 = 1 ∨ x.f0 = 2 ∨ x.f0 = 4 := by
  by_cases h : x.f0 = 1
  ·exact .inl h
  ·rcases (okOne_ne hx h).1 with h | h | h
   ·exact .inr (.inl h)
   ·exact absurd h h3
   ·exact .inr (.inr h)
 have ky : y.f0 = 1 ∨ y.f0 = 2 ∨ y.f0 = 3 := by
  by_cases h : y.f0 = 1
  ·exact .inl h
  ·rcases (okOne_ne hy h).1 with h | h | h
   ·exact .inr (.inl h)
   ·exact .inr (.inr h)
   ·exact absurd h h4
 have ht : x.f0 ≠ 1 → y.f0 ≠ 1 → x.f2 = y.f2 := by
  intro h1 h2
  unfold noneL at hno
  simp [h1, h2] at hno
  exact hno
 have eo : ∀ o : Op, o.f0 ≠ 1 → ∀ b : Int, ∀ g : Bool, exS [(⟨o, b, g⟩ : Step)] = [(uO o, if g = true then 3 else b)] := by
  intro o h b g
  rw [exS_cons, exO_ne h]; rfl
 rcases kx with kx | kx | kx <;> rcases ky with ky | ky | ky
 ·exact absurd ⟨kx, ky⟩ hn
 ·have e := hxs kx
  refine ⟨by simp [lineL, kx, ky], ?_, ?_⟩
  ·simp [lineL, kx, ky, eo, uO, midT]
  ·simp [lineL, kx, ky, uO, opM, opnX, txU, e, mt_app, hyr]
 ·have e := hxs kx
  refine ⟨by simp [lineL, kx, ky], ?_, ?_⟩
  ·simp [lineL, kx, ky, eo, uO, midT]
  ·simp [lineL, kx, ky, uO, opM, opnX, txU, e, mt_app, hyr]
 ·have e := hys ky
  refine ⟨by simp [lineL, kx, ky], ?_, ?_⟩
  ·simp [lineL, kx, ky, eo, uO, midT]
  ·simp [lineL, kx, ky, uO, opM, opnX, txU, e, app_mt, hxr]
 ·have e := ht (by omega) (by omega)
  refine ⟨by simp [lineL, kx, ky], ?_, ?_⟩
  ·simp [lineL, kx, ky, eo, uO, midT, e]
  ·simp [lineL, kx, ky, uO, opM, opnX, txU, e, hyr]
 ·have e := ht (by omega) (by omega)
  refine ⟨by simp [lineL, kx, ky], ?_, ?_⟩
  ·simp [lineL, kx, ky, eo, uO, midT, e]
  ·simp [lineL, kx, ky, uO, opM, opnX, txU, e, hyr]
 ·have e := hys ky
  refine ⟨by simp [lineL, kx, ky], ?_, ?_⟩
  ·simp [lineL, kx, ky, eo, uO, midT]
  ·simp [lineL, kx, ky, uO, opM, opnX, txU, e, app_mt, hxr]
 ·have e := ht (by omega) (by omega)
  refine ⟨by simp [lineL, kx, ky], ?_, ?_⟩
  ·simp [lineL, kx, ky, eo, uO, midT, e]
  ·simp [lineL, kx, ky, uO, opM, opnX, txU, e, hyr]
 ·have e := ht (by omega) (by omega)
  refine ⟨by simp [lineL, kx, ky], ?_, ?_⟩
  ·simp [lineL, kx, ky, eo, uO, midT, e]
  ·simp [lineL, kx, ky, uO, opM, opnX, txU, e, hyr]
theorem drop_both {ps qs : List Op} (hp : okAll ps) (hq : okAll qs) (hne : ps.length + qs.length ≠ 0) :
  1 ≤ (lineL (nextL ps 2147483648) (nextL qs 2147483648)).2.1 ∧ (dropL ps (lineL (nextL ps 2147483648) (nextL qs 2147483648)).2.1).length + (dropL qs (lineL (nextL ps 2147483648) (nextL qs 2147483648)).2.1).length < ps.length + qs.length := by
 have a := drop_len ps
 have b := drop_len qs
 generalize hx : nextL ps 2147483648 = x
 generalize hy : nextL qs 2147483648 = y
 have ox : okOne x = true := hx ▸ nextL_ok hp
 have oy : okOne y = true := hy ▸ nextL_ok hq
 have en : ps = [] → x.f0 = 1 ∧ x.f1 = 2147483648 := by rintro rfl; rw [← hx]; exact ⟨rfl, rfl⟩
 have eq : qs = [] → y.f0 = 1 ∧ y.f1 = 2147483648 := by rintro rfl; rw [← hy]; exact ⟨rfl, rfl⟩
 have fp : ∀ n : Int, ps ≠ [] → ¬ (x.f0 = 1 ∧ x.f1 > n) → (dropL ps n).length < ps.length := by
  intro n hl hc
  cases ps with
  | nil => exact absurd rfl hl
  | cons o r =>
   have : o = x := hx
   subst this
   rw [dropL]
   rw [if_neg hc]; simp
 have fq : ∀ n : Int, qs ≠ [] → ¬ (y.f0 = 1 ∧ y.f1 > n) → (dropL qs n).length < qs.length := by
  intro n hl hc
  cases qs with
  | nil => exact absurd rfl hl
  | cons o r =>
   have : o = y := hy
   subst this
   rw [dropL]
   rw [if_neg hc]; simp
 by_cases kx : x.f0 = 1
 ·obtain ⟨x1, x2, _⟩ := okOne_skip ox kx
  by_cases ky : y.f0 = 1
  ·obtain ⟨y1, y2, _⟩ := okOne_skip oy ky
   have e : (lineL x y).2.1 = min x.f1 y.f1 := by simp [lineL, kx, ky]
   rw [e]
   refine ⟨by omega, ?_⟩
   have ap := a (min x.f1 y.f1)
   have bq := b (min x.f1 y.f1)
   by_cases ep : ps = []
   ·have eqn : qs ≠ [] := fun h => hne (by simp [ep, h])
    have := fq (min x.f1 y.f1) eqn (fun h => by have := (en ep).2; omega)
    omega
   ·by_cases eqq : qs = []
    ·have := fp (min x.f1 y.f1) ep (fun h => by have := (eq eqq).2; omega)
     omega
    ·by_cases hm : x.f1 ≤ y.f1
     ·have := fp (min x.f1 y.f1) ep (fun h => by omega)
      omega
     ·have := fq (min x.f1 y.f1) eqq (fun h => by omega)
      omega
  ·have e : (lineL x y).2.1 = 1 := by simp [lineL, kx, ky]
   rw [e]
   have eqn : qs ≠ [] := fun h => ky (eq h).1
   have := fq 1 eqn (fun h => ky h.1)
   have := a 1
   exact ⟨by omega, by omega⟩
 ·have e : (lineL x y).2.1 = 1 := by
   by_cases ky : y.f0 = 1 <;> simp [lineL, kx, ky]
  rw [e]
  have epn : ps ≠ [] := fun h => kx (en h).1
  have := fp 1 epn (fun h => kx h.1)
  have := b 1
  exact ⟨by omega, by omega⟩
theorem walkO_cmp : ∀ (n : Nat) (ps qs : List Op) (e : Bool), ps.length + qs.length ≤ n → okAll ps → okAll qs → (walkO n ps qs e).map exS = cmpT (ex ps) e (ex qs) := by
 intro n
 induction n with
 | zero =>
  intro ps qs e h hp hq
  obtain rfl : ps = [] := List.length_eq_zero_iff.mp (by omega)
  obtain rfl : qs = [] := List.length_eq_zero_iff.mp (by omega)
  rfl
 | succ n ih =>
  intro ps qs e h hp hq
  rw [walkO]
  by_cases h0 : ps.length + qs.length = 0
  ·rw [if_pos h0]
   obtain rfl : ps = [] := List.length_eq_zero_iff.mp (by omega)
   obtain rfl : qs = [] := List.length_eq_zero_iff.mp (by omega)
   rfl
  rw [if_neg h0]
  by_cases hd : hdK 3 ps = true
  ·rw [if_pos hd]
   obtain ⟨o, r, rfl, hk⟩ := hdK_iff.mp hd
   have ee : ex (o :: r) = .del o.f2 :: ex r := by rw [ex_cons, exO_ne (by omega)]; simp [uO, hk]
   simp only [List.length_cons] at h
   rw [ee, cmpT_del, ← ih r qs e (by omega) hp.tail hq, Option.map_map, Option.map_map]
   congr 1
   funext os
   show exS (⟨o, 1, false⟩ :: os) = _
   rw [exS_cons, exO_ne (by show o.f0 ≠ 1; omega)]
   simp [uO, hk]
  rw [if_neg hd]
  have nd : NoD (ex ps) := by
   rcases head_cases hp with h | ⟨o, r, e1, e2, _⟩
   ·exact h
   ·exact absurd (hdK_iff.mpr ⟨o, r, e1, e2⟩) hd
  by_cases hi : hdK 4 qs = true
  ·rw [if_pos hi]
   obtain ⟨o, r, rfl, hk⟩ := hdK_iff.mp hi
   have ee : ex (o :: r) = .ins o.f2 :: ex r := by rw [ex_cons, exO_ne (by omega)]; simp [uO, hk]
   simp only [List.length_cons] at h
   rw [ee, cmpT_ins nd, ← ih ps r e (by omega) hp hq.tail, Option.map_map, Option.map_map]
   congr 1
   funext os
   show exS (⟨o, 2, false⟩ :: os) = _
   rw [exS_cons, exO_ne (by show o.f0 ≠ 1; omega)]
   simp [uO, hk]
  rw [if_neg hi]
  have ni : NoI (ex qs) := by
   rcases head_casesI hq with h | ⟨o, r, e1, e2, _⟩
   ·exact h
   ·exact absurd (hdK_iff.mpr ⟨o, r, e1, e2⟩) hi
  have hne : ex ps ≠ [] ∨ ex qs ≠ [] := by
   cases ps with
   | nil =>
    cases qs with
    | nil => simp at h0
    | cons o r => exact .inr (ex_ne_nil hq.head)
   | cons o r => exact .inl (ex_ne_nil hp.head)
  obtain ⟨d1, d2⟩ := drop_both hp hq h0
  have nx := nx_ex hp
  have ny := nx_ex hq
  have ox := nextL_ok hp
  have oy := nextL_ok hq
  have x3 : (nextL ps 2147483648).f0 ≠ 3 := by
   intro h3
   cases ps with
   | nil => simp [nextL] at h3
   | cons o r => exact hd (hdK_iff.mpr ⟨o, r, rfl, h3⟩)
  have y4 : (nextL qs 2147483648).f0 ≠ 4 := by
   intro h3
   cases qs with
   | nil => simp [nextL] at h3
   | cons o r => exact hi (hdK_iff.mpr ⟨o, r, rfl, h3⟩)
  have i := ih (dropL ps (lineL (nextL ps 2147483648) (nextL qs 2147483648)).2.1) (dropL qs (lineL (nextL ps 2147483648) (nextL qs 2147483648)).2.1) (opnB (lineL (nextL ps 2147483648) (nextL qs 2147483648)).1) (by omega) (hp.drop d1) (hq.drop d1)
  have dsp := fun (n : Int) hn hk hle => dropSkip hp (n := n) hn hk hle
  have dsq := fun (n : Int) hn hk hle => dropSkip hq (n := n) hn hk hle
  generalize nextL ps 2147483648 = x at *
  generalize nextL qs 2147483648 = y at *
  by_cases hno : noneL x y e = true
  ·rw [if_pos hno, cmpT_mid nd ni hne]
   show none = _
   cases e with
   | true => rfl
   | false =>
    rw [if_neg (by simp), nx, ny]
    unfold noneL at hno
    simp only [Bool.false_or, Bool.and_eq_true, decide_eq_true_eq] at hno
    obtain ⟨⟨hx, hy⟩, hxy⟩ := hno
    have : midT (uO x) (uO y) = none := by
     rcases (okOne_ne ox hx).1 with kx | kx | kx <;> rcases (okOne_ne oy hy).1 with ky | ky | ky <;> first | exact absurd kx x3 | exact absurd ky y4 | simp [uO, kx, ky, midT, hxy]
    rw [this]; rfl
  rw [if_neg hno]
  have e0 : e = false := by
   cases e with
   | false => rfl
   | true => exact absurd rfl hno
  subst e0
  have hno' : noneL x y false = false := by simpa using hno
  rw [Option.map_map]
  by_cases hs : x.f0 = 1 ∧ y.f0 = 1
  ·obtain ⟨kx, ky⟩ := hs
   obtain ⟨x1, x2, _⟩ := okOne_skip ox kx
   obtain ⟨y1, y2, _⟩ := okOne_skip oy ky
   have el : lineL x y = (x.f2 ++ y.f2, min x.f1 y.f1, ⟨⟨1, min x.f1 y.f1, ⟨#[]⟩⟩, 0, false⟩) := by simp [lineL, kx, ky]
   have eb : opnB (lineL x y).1 = false := by
    have e1 := (okOne_skip ox kx).2.2
    have e2 := (okOne_skip oy ky).2.2
    rw [el]
    show opnB (x.f2 ++ y.f2) = false
    rw [e1, e2, app_mt]; rfl
   rw [eb] at i
   rw [el] at i d1 ⊢
   simp only at i d1 ⊢
   obtain ⟨m, hm⟩ : ∃ m : Nat, (min x.f1 y.f1).toNat = m + 1 := ⟨(min x.f1 y.f1).toNat - 1, by omega⟩
   have a1 := dsp (min x.f1 y.f1) d1 kx (by omega)
   have a2 := dsq (min x.f1 y.f1) d1 ky (by omega)
   rw [hm] at a1 a2
   rw [cmpT_skips m _ _ _ _ a1 a2 hne, ← i, Option.map_map]
   have : ∀ o : Option (List Step), o.map (exS ∘ (fun os => (⟨⟨1, min x.f1 y.f1, ⟨#[]⟩⟩, 0, false⟩ : Step) :: os)) = o.map ((fun w => List.replicate (m + 1) ((.skip, 0) : TU) ++ w) ∘ exS) := by
    intro o
    congr 1
    funext os
    show exS (_ :: os) = _ ++ exS os
    rw [exS_cons, exO_skip rfl]
    show List.map _ (List.replicate (min x.f1 y.f1).toNat U.skip) ++ _ = _
    rw [hm, List.map_replicate]; rfl
   have eb' : opnB (x.f2 ++ y.f2) = false := by rw [el] at eb; exact eb
   rw [eb']
   exact this _
  ·obtain ⟨m1, m2, m3⟩ := mid_line ox oy x3 y4 hs hno'
   rw [m1] at i ⊢
   rw [cmpT_mid nd ni hne, if_neg (by simp), nx, ny, m2, Option.bind_some, m3, ← tail1 hp, ← tail1 hq, ← i, Option.map_map]
   congr 1
   funext os
   show exS (_ :: os) = exS [_] ++ exS os
   rw [exS_cons, exS_cons]
   simp [exS]
def Sx (l : List Op) : Prop := l.length ≤ 274877906944 ∧ ∀ o ∈ l, o.f2.size < 1073741824
theorem Sx.sm {l : List Op} (h : Sx l) : Sm l := ⟨by have := h.1; omega, fun o ho => by have := h.2 o ho; omega⟩
theorem Sx.of_few {l : List Op} (h : fewN l ≤ 600) : Sx l := by
 refine ⟨by have := fewN_len l; omega, fun o ho => ?_⟩
 have : ∀ l : List Op, o ∈ l → 1 + o.f2.size ≤ fewN l := by
  intro l
  induction l with
  | nil => intro h; simp at h
  | cons x l ih =>
   intro h
   have e : fewN (x :: l) = (1 + x.f2.size) + fewN l := by simp [fewN]
   rcases List.mem_cons.mp h with rfl | h
   ·omega
   ·have := ih h; omega
 have := this l ho
 omega
def stepsL (os : List Step) : List Op := (os.filter fun s => !s.f2).map (·.f0)
theorem stepsL_cons (s : Step) (os : List Step) : stepsL (s :: os) = (if s.f2 = true then [] else [s.f0]) ++ stepsL os := by
 cases h : s.f2 <;> simp [stepsL, h]
def goodS (s : Step) : Prop := (okOne s.f0 = true ∧ s.f0.f2.size < 1073741824) ∧ (s.f1 = 0 ∨ s.f1 = 1 ∨ s.f1 = 2)
def okX (l : List Op) : Prop := ∀ o ∈ l, okOne o = true ∧ o.f2.size < 1073741824
theorem okX.all {l : List Op} (h : okX l) : okAll l := fun o ho => (h o ho).1
theorem okX.drop {l : List Op} (h : okX l) {n : Int} (hn : 1 ≤ n) : okX (dropL l n) := by
 intro o ho
 refine ⟨h.all.drop hn o ho, ?_⟩
 cases l with
 | nil => exact absurd ho (by simp [dropL])
 | cons x r =>
  rw [dropL] at ho
  split at ho
  ·rcases List.mem_cons.mp ho with rfl | ho
   ·exact (h x (List.mem_cons_self ..)).2
   ·exact (h o (List.mem_cons_of_mem _ ho)).2
  ·exact (h o (List.mem_cons_of_mem _ ho)).2
theorem nextL_okX {l : List Op} (h : okX l) : okOne (nextL l 2147483648) = true ∧ (nextL l 2147483648).f2.size < 1073741824 := by
 cases l with
 | nil => exact ⟨rfl, (by decide : (0 : Nat) < 1073741824)⟩
 | cons o r => exact h o (List.mem_cons_self ..)
theorem line_good {x y : Op} (hx : okOne x = true ∧ x.f2.size < 1073741824) (hy : okOne y = true ∧ y.f2.size < 1073741824) : goodS (lineL x y).2.2 := by
 unfold lineL goodS
 by_cases kx : x.f0 = 1
 ·by_cases ky : y.f0 = 1
  ·obtain ⟨x1, x2, _⟩ := okOne_skip hx.1 kx
   obtain ⟨y1, y2, _⟩ := okOne_skip hy.1 ky
   have a1 : 1 ≤ min x.f1 y.f1 := by omega
   have a2 : min x.f1 y.f1 ≤ 2147483648 := by omega
   simp only [kx, ky, ne_eq, not_true_eq_false, false_and, if_false]
   refine ⟨⟨?_, (by decide : (0 : Nat) < 1073741824)⟩, by simp⟩
   unfold okOne
   simp [a1, a2]
  ·simp only [kx, ky, ne_eq, not_true_eq_false, not_false_eq_true, false_and, if_false, if_true]
   exact ⟨hy, by split <;> simp⟩
 ·by_cases ky : y.f0 = 1
  ·simp only [kx, ky, ne_eq, not_true_eq_false, not_false_eq_true, and_false, if_false, if_true]
   exact ⟨hx, by split <;> simp⟩
  ·simp only [kx, ky, ne_eq, not_false_eq_true, and_self, if_true]
   split
   ·exact ⟨hy, by dsimp only; split <;> simp⟩
   ·split
    ·exact ⟨hx, .inr (.inl rfl)⟩
    ·exact ⟨hx, .inr (.inl rfl)⟩
theorem walkO_good : ∀ (n : Nat) (ps qs : List Op) (e : Bool) (os : List Step), okX ps → okX qs → walkO n ps qs e = some os → (∀ s ∈ os, goodS s) ∧ os.length ≤ n := by
 intro n
 induction n with
 | zero =>
  intro ps qs e os _ _ h
  obtain rfl : os = [] := (Option.some.inj h).symm
  exact ⟨fun s hs => by simp at hs, Nat.le_refl _⟩
 | succ n ih =>
  intro ps qs e os hp hq h
  rw [walkO] at h
  have cons : ∀ (s : Step) (os' : List Step), goodS s → (∀ x ∈ os', goodS x) ∧ os'.length ≤ n → (∀ x ∈ s :: os', goodS x) ∧ (s :: os').length ≤ n + 1 := by
   intro s os' hs hr
   refine ⟨fun x hx => ?_, by simp only [List.length_cons]; omega⟩
   rcases List.mem_cons.mp hx with rfl | hx
   ·exact hs
   ·exact hr.1 x hx
  split at h
  ·obtain rfl : os = [] := (Option.some.inj h).symm
   exact ⟨fun s hs => by simp at hs, by simp⟩
  ·rename_i h0
   split at h
   ·rename_i hd
    obtain ⟨o, r, rfl, hk⟩ := hdK_iff.mp hd
    obtain ⟨os', h', rfl⟩ := Option.map_eq_some_iff.mp h
    exact cons _ _ ⟨hp o (List.mem_cons_self ..), .inr (.inl rfl)⟩ (ih r qs e os' (fun x hx => hp x (List.mem_cons_of_mem _ hx)) hq h')
   ·split at h
    ·rename_i hi
     obtain ⟨o, r, rfl, hk⟩ := hdK_iff.mp hi
     obtain ⟨os', h', rfl⟩ := Option.map_eq_some_iff.mp h
     exact cons _ _ ⟨hq o (List.mem_cons_self ..), .inr (.inr rfl)⟩ (ih ps r e os' hp (fun x hx => hq x (List.mem_cons_of_mem _ hx)) h')
    ·split at h
     ·simp at h
     ·obtain ⟨os', h', rfl⟩ := Option.map_eq_some_iff.mp h
      obtain ⟨d1, _⟩ := drop_both hp.all hq.all h0
      exact cons _ _ (line_good (nextL_okX hp) (nextL_okX hq)) (ih _ _ _ os' (hp.drop d1) (hq.drop d1) h')
theorem ex_steps : ∀ (os : List Step), (∀ s ∈ os, goodS s) → ex (stepsL os) = un (exS os)
 | [], _ => rfl
 | s :: os, h => by
  have i := ex_steps os fun x hx => h x (List.mem_cons_of_mem _ hx)
  obtain ⟨_, h2⟩ := h s (List.mem_cons_self ..)
  rw [stepsL_cons, exS_cons, un_app, ex_app, i]
  congr 1
  cases hg : s.f2
  ·have : s.f1 ≠ 3 := by omega
   have e : ∀ l : List U, un (l.map fun u => ((u, s.f1) : TU)) = l := by
    intro l
    induction l with
    | nil => rfl
    | cons u l ih =>
     rw [List.map_cons, un_cons (by exact this), ih]
   simp only [Bool.false_eq_true, if_false, ex_cons, ex_nil, List.append_nil]
   exact (e _).symm
  ·simp [un, ex]
def thenU (p q : List U) : Option (List U) := (cmpU p false q).bind fun u => if rightU u = true then some (nf [] u) else none
def thenL (p q : List Op) : List Op × Bool := if rightL p = true ∧ rightL q = true then (match thenU (ex p) (ex q) with | some u => (pack u, true) | none => ([], false)) else ([], false)
theorem rightL_okX {l : List Op} (h : rightL l = true) (hs : Sx l) : okX l := fun o ho => ⟨(rightL_ok h).1 o ho, hs.2 o ho⟩
theorem okX_W {l : List Op} (h : okX l) : l.all okW1 = true := by
 rw [List.all_eq_true]
 intro o ho
 obtain ⟨h1, h2⟩ := h o ho
 unfold okW1
 by_cases hk : o.f0 = 1
 ·obtain ⟨a, b, _⟩ := okOne_skip h1 hk
  simp [hk, a, b, h2]
 ·simp [hk, h2]
theorem okW_of {p q : List Op} (hp : okX p) (hq : okX q) (h : p.length + q.length ≤ 1099511627776) : okW p q = true := by
 unfold okW
 rw [okX_W hp, okX_W hq]; simp [h]
theorem form_steps {os : List Step} (h : ∀ s ∈ os, goodS s) : ∀ o ∈ stepsL os, formO o := by
 intro o ho
 obtain ⟨s, hs, rfl⟩ := List.mem_map.mp ho
 exact form_of (h s (List.mem_filter.mp hs).1).1.1
theorem sx_steps {os : List Step} (h : ∀ s ∈ os, goodS s) (hl : os.length ≤ 1099511627776) : Sm (stepsL os) := by
 refine ⟨?_, fun o ho => ?_⟩
 ·have : (stepsL os).length ≤ os.length := by unfold stepsL; rw [List.length_map]; exact List.length_filter_le _ _
  omega
 ·obtain ⟨s, hs, rfl⟩ := List.mem_map.mp ho
  have := (h s (List.mem_filter.mp hs).1).1.2
  omega
theorem mid_olds {x y : U} {a : List U} (h : midU x y = some a) : (olds a).length ≤ (olds [x]).length ∧ (olds a).length ≤ 1 := by
 cases x <;> cases y <;> simp only [midU, midT] at h <;> (try split at h) <;> simp [un] at h <;> subst h <;> simp [olds]
theorem Cmp.olds_le {p q w : List U} (h : Cmp p q w) : (olds w).length ≤ (olds p).length + (olds q).length := by
 induction h with
 | nil => simp [olds]
 | del t _ ih => simp only [olds, List.length_cons]; omega
 | ins t _ _ ih => simp only [olds]; omega
 | mid hp hq hne ha _ ih =>
  rename_i p q a w _
  obtain ⟨a1, a2⟩ := mid_olds ha
  rw [olds_app, List.length_append]
  cases p with
  | cons x p =>
   have : (olds (x :: p)).length = (olds [x]).length + (olds p).length := by
    show (olds ([x] ++ p)).length = _
    rw [olds_app, List.length_append]
   have e1 : nxU (x :: p) = x := rfl
   rw [e1] at a1
   have : (olds q.tail).length ≤ (olds q).length := by
    cases q with
    | nil => exact Nat.le_refl _
    | cons y q => cases y <;> simp [olds]
   simp only [List.tail_cons] at ih
   omega
  | nil =>
   cases q with
   | nil => simp at hne
   | cons y q =>
    have : (olds (y :: q)).length = 1 + (olds q).length := by
     cases y with
     | ins t => exact absurd rfl (hq t q)
     | skip => simp [olds]; omega
     | keep t => simp [olds]; omega
     | del t => simp [olds]; omega
    simp only [List.tail_cons, List.tail_nil] at ih
    omega
theorem un_cmp {p q : List U} {e : Bool} {w : List TU} (h : cmpT p e q = some w) : cmpU p e q = some (un w) := by unfold cmpU; rw [h]; rfl
theorem walk_then {p q : List Op} (hp : Sx p) (hq : Sx q) (rp : rightL p = true) (rq : rightL q = true) :
  (walkO (p.length + q.length) p q false = none ∧ thenL p q = ([], false)) ∨
  ∃ os, walkO (p.length + q.length) p q false = some os ∧ cmpT (ex p) false (ex q) = some (exS os) ∧ (∀ s ∈ os, goodS s) ∧ os.length ≤ p.length + q.length ∧ ex (stepsL os) = un (exS os) ∧ (∀ o ∈ stepsL os, formO o) ∧ Sm (stepsL os) ∧
   skips (stepsL os) ≤ 4294967296 ∧ rightL (stepsL os) = rightU (un (exS os)) ∧ thenL p q = if rightL (stepsL os) = true then (normL (stepsL os), true) else ([], false) := by
 have op := rightL_okX rp hp
 have oq := rightL_okX rq hq
 have hc := walkO_cmp (p.length + q.length) p q false (Nat.le_refl _) op.all oq.all
 cases hw : walkO (p.length + q.length) p q false with
 | none =>
  left
  refine ⟨rfl, ?_⟩
  rw [hw] at hc
  have hc : cmpT (ex p) false (ex q) = none := hc.symm
  unfold thenL thenU cmpU
  rw [if_pos ⟨rp, rq⟩, hc]; rfl
 | some os =>
  right
  rw [hw] at hc
  have hc : cmpT (ex p) false (ex q) = some (exS os) := hc.symm
  obtain ⟨g1, g2⟩ := walkO_good _ _ _ _ _ op oq hw
  have he := ex_steps os g1
  have hf := form_steps g1
  have hsm := sx_steps g1 (by have := hp.1; have := hq.1; omega)
  have hr : rightL (stepsL os) = rightU (un (exS os)) := by rw [right_iff hf, he]
  have hu := un_cmp hc
  have hsk : skips (stepsL os) ≤ 4294967296 := by
   have h1 := skips_le 3 hf
   rw [sums_olds _ hf, he] at h1
   have h2 := (Cmp.of _ _ _ _ hu).olds_le
   have h3 := (rightL_ok rp).2.1
   have h4 := (rightL_ok rq).2.1
   rw [sums_olds _ (rightL_form rp)] at h3
   rw [sums_olds _ (rightL_form rq)] at h4
   omega
  refine ⟨os, rfl, hc, g1, g2, he, hf, hsm, hsk, hr, ?_⟩
  unfold thenL thenU
  rw [if_pos ⟨rp, rq⟩, hu, Option.bind_some, hr]
  cases rightU (un (exS os))
  ·rfl
  ·simp only [if_true]
   unfold normL
   rw [he]
end Go.Proofs.Ytkiklmmpflndbaa.P
namespace Go.Proofs.Ytkiklmmpflndbaa.P
open Go.RowKit Go.Proofs.YtkiklmmpflndbaaW.PrintWords Go.Proofs.YtkiklmmpflndbaaW.PrintLast Go.Proofs.YtkiklmmpflndbaaW.PrintMore
theorem same_loop (a : List Op) : ∀ (b p q : List Op), p.length = q.length → a.length = b.length → p.length + a.length < 4611686018427387904 →
  Ev (fun k => patchworkref8_Same.l0 k (p ++ a) (q ++ b) (p.length : Int)) (decide (a = b)) := by
 induction a with
 | nil =>
  intro b p q hpq hab hb
  obtain rfl : b = [] := List.length_eq_zero_iff.mp hab.symm
  refine Ev.step (fun k => rfl) ?_
  simp only [patchworkref8_Same.l0, lt_end, if_false]
  exact Ev.now _
 | cons x a ih =>
  intro b p q hpq hab hb
  match b, hab with
  | y :: b, hab =>
   have e2 : ((p.length : Int) < ((q ++ y :: b).length : Int)) = True := by rw [hpq]; exact lt_mid q b y
   have r2 : rd_Op (q ++ y :: b) (p.length : Int) = y := by rw [hpq]; exact rdOp_mid q b y
   refine Ev.step (fun k => rfl) ?_
   simp only [patchworkref8_Same.l0, lt_mid, nn_nat, e2, if_true, rdOp_mid, r2]
   by_cases h : x = y
   ·subst h
    have := ih b (p ++ [x]) (q ++ [x]) (by simp [hpq]) (by simpa using hab) (by simp at hb ⊢; omega)
    simp only [List.append_assoc, List.singleton_append] at this
    simp only [beq_self_eq_true, Bool.not_true, Bool.or_self, Bool.false_eq_true, if_false]
    rw [wrap_len p x (by simp at hb; omega)]
    simpa using this
   ·have hb' : (!(x.f0 == y.f0) || (!(x.f1 == y.f1) || !(x.f2.toList == y.f2.toList))) = true := by
     rw [Bool.or_eq_true, Bool.or_eq_true]
     by_cases h0 : x.f0 = y.f0
     ·by_cases h1 : x.f1 = y.f1
      ·have h2 : ¬ x.f2.toList = y.f2.toList := fun e => h (Op.ext' h0 h1 (txt_eq e))
       simp [h2]
      ·simp [h1]
     ·simp [h0]
    simp only [hb', if_true]
    have : decide (x :: a = y :: b) = false := by simp [h]
    rw [this]
    exact Ev.now _
theorem same_ev (a b : List Op) (h : a.length < 4611686018427387904) : Ev (fun k => patchworkref8_Same.f k a b) (decide (a = b)) := by
 by_cases hl : a.length = b.length
 ·have := same_loop a b [] [] rfl hl (by simpa using h)
  simpa [patchworkref8_Same.f, hl] using this
 ·have h1 : ¬ ((a.length : Int) = (b.length : Int)) := by omega
  have h2 : decide (a = b) = false := by
   rw [decide_eq_false_iff_not]; exact fun e => hl (by rw [e])
  simp only [patchworkref8_Same.f, if_neg h1, h2]
  exact Ev.now _
end Go.Proofs.Ytkiklmmpflndbaa.P
namespace Go.Proofs.Ytkiklmmpflndbaa.P
open Go.RowKit Go.Proofs.YtkiklmmpflndbaaW.PrintWords Go.Proofs.YtkiklmmpflndbaaW.PrintLast Go.Proofs.YtkiklmmpflndbaaW.PrintMore
theorem told_loop (s : List Step) : ∀ (p : List Step) (out v : List Op) (b : Bool), (p ++ s).length < 1099511627777 → out.length ≤ p.length → out ++ stepsL s = v → Ev (fun k => ops_Right.f k v) b → Ev (fun k => compose_told.l0 k out (p ++ s) ((p ++ s).length : Int) (p.length : Int)) (v, b) := by
 induction s with
 | nil =>
  intro p out v b hb ho hv h
  have hv : out = v := by rw [← hv]; simp [stepsL]
  subst hv
  refine Ev.step (fun k => rfl) ?_
  simp only [compose_told.l0, lt_end, if_false]
  exact Ev.bind' h (Ev.now _)
 | cons x s ih =>
  intro p out v b hb ho hv h
  have hl := hb
  simp only [List.length_append, List.length_cons] at hl
  have i := fun out h1 h2 => ih (p ++ [x]) out v b (by simpa using hb) h1 h2 h
  rw [List.append_assoc, List.singleton_append] at i
  have w := wrap_len p x (by omega)
  have e : rd_Step (p ++ x :: s) (p.length : Int) = x := getD_mid p s x zStep
  rw [stepsL_cons] at hv
  have c : out.length < 4398046511104 := by omega
  refine Ev.step (fun k => rfl) ?_
  simp only [compose_told.l0, lt_mid, nn_nat, if_true, e, w, if_pos c]
  cases hg : x.f2
  ·simp only [Bool.false_eq_true, if_false]
   refine i _ (by simp only [List.length_append, List.length_singleton]; omega) ?_
   rw [← hv, hg]; simp
  ·simp only [if_true]
   refine i _ (by simp only [List.length_append, List.length_singleton]; omega) ?_
   rw [← hv, hg]; simp
theorem told_ev {os : List Step} (h : os.length ≤ 1099511627776) (hs : Sm (stepsL os)) : Ev (fun k => compose_told.f k os) (stepsL os, rightL (stepsL os)) :=
 told_loop os [] [] _ _ (by simpa using (by omega : os.length < 1099511627777)) (by simp) (by simp) (right_ev hs)
theorem pthen_ev {p q : List Op} (hp : Sx p) (hq : Sx q) : Ev (fun k => compose_Then.f k p q) (thenL p q) := by
 have hlen : p.length + q.length ≤ 1099511627776 := by have := hp.1; have := hq.1; omega
 cases rp : rightL p
 ·have e : thenL p q = ([], false) := by unfold thenL; simp [rp]
  rw [e]
  refine Ev.bind' (a := ([], false)) ?_ ?_
  ·refine Ev.bind' (right_ev hp.sm) ?_
   simp only [rp, Bool.false_eq_true, if_false]
   exact Ev.now _
  ·simp only [Bool.false_eq_true, if_false]
   exact Ev.now _
 cases rq : rightL q
 ·have e : thenL p q = ([], false) := by unfold thenL; simp [rq]
  rw [e]
  refine Ev.bind' (a := ([], false)) ?_ ?_
  ·refine Ev.bind' (right_ev hp.sm) ?_
   simp only [rp, if_true]
   refine Ev.bind' (right_ev hq.sm) ?_
   simp only [rq, Bool.false_eq_true, if_false]
   exact Ev.now _
  ·simp only [Bool.false_eq_true, if_false]
   exact Ev.now _
 have hW := okW_of (rightL_okX rp hp) (rightL_okX rq hq) hlen
 rcases walk_then hp hq rp rq with ⟨hw, e⟩ | ⟨os, hw, _, g1, g2, he, hf, hsm, hsk, hr, e⟩
 ·rw [e]
  refine Ev.bind' (a := ([], false)) ?_ ?_
  ·refine Ev.bind' (right_ev hp.sm) ?_
   simp only [rp, if_true]
   refine Ev.bind' (right_ev hq.sm) ?_
   simp only [rq, if_true, hW, hw]
   exact Ev.now _
  ·simp only [Bool.false_eq_true, if_false]
   exact Ev.now _
 ·rw [e]
  have ht := told_ev (os := os) (by omega) hsm
  cases hrs : rightL (stepsL os)
  ·refine Ev.bind' (a := ([], false)) ?_ ?_
   ·refine Ev.bind' (right_ev hp.sm) ?_
    simp only [rp, if_true]
    refine Ev.bind' (right_ev hq.sm) ?_
    simp only [rq, if_true, hW, hw]
    refine Ev.bind' ht ?_
    simp only [hrs, Bool.false_eq_true, if_false]
    exact Ev.now _
   ·simp only [Bool.false_eq_true, if_false]
    exact Ev.now _
  ·refine Ev.bind' (a := (os, true)) ?_ ?_
   ·refine Ev.bind' (right_ev hp.sm) ?_
    simp only [rp, if_true]
    refine Ev.bind' (right_ev hq.sm) ?_
    simp only [rq, if_true, hW, hw]
    refine Ev.bind' ht ?_
    simp only [hrs, if_true]
    exact Ev.now _
   ·simp only [if_true]
    refine Ev.bind' ht ?_
    refine Ev.bind' (norm_ev hsm) ?_
    simp only [hrs, if_true]
    exact Ev.now _
theorem thenL_of {p q : List Op} {u : List U} (h1 : rightL p = true) (h2 : rightL q = true) (h3 : cmpU (ex p) false (ex q) = some u) (h4 : rightU u = true) : thenL p q = (pack (nf [] u), true) := by
 unfold thenL thenU
 rw [if_pos ⟨h1, h2⟩, h3]
 simp [h4]
theorem thenL_len {p q : List Op} (hp : Sx p) (hq : Sx q) : (thenL p q).1.length ≤ p.length + q.length ∧ ∀ o ∈ (thenL p q).1, o.f2.size < 1073741824 := by
 cases rp : rightL p
 ·unfold thenL; simp [rp]
 cases rq : rightL q
 ·unfold thenL; simp [rq]
 rcases walk_then hp hq rp rq with ⟨hw, e⟩ | ⟨os, hw, _, g1, g2, he, hf, hsm, hsk, hr, e⟩
 ·rw [e]; simp
 ·rw [e]
  split
  ·refine ⟨?_, ?_⟩
   ·have h1 := nf_pack_len (stepsL os) [] hf
    have h2 : (stepsL os).length ≤ os.length := by unfold stepsL; rw [List.length_map]; exact List.length_filter_le _ _
    simp only [List.length_nil] at h1
    show (pack (nf [] (ex (stepsL os)))).length ≤ _
    omega
   ·intro o ho
    have ho : o ∈ pack (nf [] (ex (stepsL os))) := ho
    have he0 : ByteArray.empty.size = 0 := rfl
    rcases tx_pack _ o ho with e | ⟨x, hx, e⟩
    ·rw [e, he0]; omega
    ·rcases nf_mem _ _ _ hx with hx | hx
     ·simp at hx
     ·rcases tx_ex hx with e2 | ⟨y, hy, e2⟩
      ·rw [e, e2, he0]; omega
      ·rw [e, e2]
       obtain ⟨s, hs, rfl⟩ := List.mem_map.mp hy
       exact (g1 s (List.mem_filter.mp hs).1).1.2
  ·simp
theorem Sx.then {p q : List Op} (hp : Sx p) (hq : Sx q) (h : p.length + q.length ≤ 274877906944) : Sx (thenL p q).1 := by
 obtain ⟨h1, h2⟩ := thenL_len hp hq
 exact ⟨by omega, h2⟩
end Go.Proofs.Ytkiklmmpflndbaa.P
namespace Go.Proofs.Ytkiklmmpflndbaa.P
open Go.RowKit Go.Proofs.YtkiklmmpflndbaaW.PrintWords Go.Proofs.YtkiklmmpflndbaaW.PrintLast Go.Proofs.YtkiklmmpflndbaaW.PrintMore
theorem capd_right {l : List Op} (h : rightL l = true) : capd 3 l = ((olds (ex l)).length : Int) ∧ capd 4 l = ((news (ex l)).length : Int) ∧ (olds (ex l)).length ≤ 2147483648 ∧ (news (ex l)).length ≤ 2147483648 := by
 obtain ⟨_, h1, h2, _⟩ := rightL_ok h
 have e1 := sums_olds l (rightL_form h)
 have e2 := sums_news l (rightL_form h)
 unfold capd far
 refine ⟨?_, ?_, ?_, ?_⟩ <;> omega
theorem nfO_some {o : Option (List U)} {a : List U} (h : nfO o = some a) : ∃ u, o = some u ∧ nf [] u = a := by
 unfold nfO at h
 obtain ⟨u, h1, h2⟩ := Option.map_eq_some_iff.mp h
 exact ⟨u, h1, h2⟩
end Go.Proofs.Ytkiklmmpflndbaa.P
namespace Go.Proofs.Ytkiklmmpflndbaa.P
open Go.RowKit Go.Proofs.YtkiklmmpflndbaaW.PrintWords Go.Proofs.YtkiklmmpflndbaaW.PrintLast Go.Proofs.YtkiklmmpflndbaaW.PrintMore
theorem Sm.flip {l : List Op} (h : Sm l) : Sm (l.map flipO) := by
 refine ⟨by rw [List.length_map]; exact h.1, fun o ho => ?_⟩
 obtain ⟨x, hx, rfl⟩ := List.mem_map.mp ho
 have : (flipO x).f2 = x.f2 := by
  unfold flipO
  split
  ·rfl
  ·split <;> rfl
 rw [this]; exact h.2 x hx
theorem right_flip {l : List Op} (h : rightL l = true) : rightL (l.map flipO) = true := by
 have hf := rightL_form h
 have hf2 : ∀ o ∈ l.map flipO, formO o := fun o ho => by
  obtain ⟨x, hx, rfl⟩ := List.mem_map.mp ho
  exact form_flip (hf x hx)
 rw [right_iff hf2, ex_flip hf, rightU_flip]
 exact rightL_U h
theorem norm_flip {l : List Op} (h : rightL l = true) : normL (l.map flipO) = flipL l := by
 unfold normL flipL; rw [ex_flip (rightL_form h)]
theorem refflip_loop (s : List Op) : ∀ (p : List Op) (v : List Op), Sm (p ++ s) → Ev (fun k => (patchworkref8_norm.f k ((p ++ s).map flipO)).bind fun t => some t) v → Ev (fun k => patchworkref8_Flip.l0 k (p ++ s) (p.map flipO) (p.length : Int)) v := by
 induction s with
 | nil =>
  intro p v hb h
  rw [List.append_nil] at h
  refine Ev.step (fun k => rfl) ?_
  simp only [patchworkref8_Flip.l0, lt_end, if_false]
  exact h
 | cons o s ih =>
  intro p v hb h
  have i := ih (p ++ [o]) v hb.snoc (by simpa using h)
  rw [List.append_assoc, List.singleton_append, List.map_append, List.map_cons, List.map_nil] at i
  have hlo : (p.map flipO).length < 4398046511104 := by rw [List.length_map]; exact hb.len
  refine Ev.step (fun k => rfl) ?_
  simp only [patchworkref8_Flip.l0, lt_mid, nn_nat, if_true, rdOp_mid, if_pos hlo, wrap_len p o (by have := hb.len; omega)]
  unfold flipO at i ⊢
  by_cases h3 : o.f0 = 3
  ·simp only [if_pos h3] at i ⊢; exact i
  ·by_cases h4 : o.f0 = 4
   ·simp only [if_neg h3, if_pos h4] at i ⊢; exact i
   ·simp only [if_neg h3, if_neg h4] at i ⊢; exact i
theorem refflip_ev {l : List Op} (h : Sm l) : Ev (fun k => patchworkref8_Flip.f k l) (if rightL l then flipL l else []) := by
 refine Ev.bind' (refright_ev h) ?_
 cases hr : rightL l
 ·simp only [Bool.false_eq_true, if_false]; exact Ev.now _
 ·simp only [if_true]
  refine refflip_loop l [] _ h ?_
  have hr2 := right_flip hr
  obtain ⟨h1, h2, _⟩ := rightL_ok hr2
  have hf := rightL_form hr2
  have := skips_le 3 hf
  have := refnorm_ev h.flip hf (by omega)
  rw [norm_flip hr] at this
  exact Ev.bind' this (Ev.now _)
end Go.Proofs.Ytkiklmmpflndbaa.P
namespace Go.Proofs.Ytkiklmmpflndbaa.P
open Go.RowKit Go.Proofs.YtkiklmmpflndbaaW.PrintWords Go.Proofs.YtkiklmmpflndbaaW.PrintLast Go.Proofs.YtkiklmmpflndbaaW.PrintMore
def dU (a b : List ByteArray) : List U := ex (diffOps a b)
theorem ex_inss (b : List ByteArray) : ex (b.map fun t => (⟨4, 0, t⟩ : Op)) = b.map .ins := by
 induction b with
 | nil => rfl
 | cons t b ih => rw [List.map_cons, ex_cons, ih]; rfl
theorem ex_dels (a : List ByteArray) : ex (a.map fun t => (⟨3, 0, t⟩ : Op)) = a.map .del := by
 induction a with
 | nil => rfl
 | cons t b ih => rw [List.map_cons, ex_cons, ih]; rfl
theorem dU_nil (b : List ByteArray) : dU [] b = b.map .ins := by unfold dU; rw [diffOps_nil_left, ex_inss]
theorem dU_end (a : List ByteArray) : dU a [] = a.map .del := by unfold dU; rw [diffOps_nil_right, ex_dels]
theorem dU_same (x : ByteArray) (a b : List ByteArray) : dU (x :: a) (x :: b) = .keep x :: dU a b := by unfold dU; rw [diffOps_same, ex_cons]; rfl
theorem dU_del {x y : ByteArray} {a b : List ByteArray} (h : x ≠ y) (h2 : lcs (x :: a) b ≤ lcs a (y :: b)) : dU (x :: a) (y :: b) = .del x :: dU a (y :: b) := by unfold dU; rw [diffOps_del h h2, ex_cons]; rfl
theorem dU_ins {x y : ByteArray} {a b : List ByteArray} (h : x ≠ y) (h2 : ¬ lcs (x :: a) b ≤ lcs a (y :: b)) : dU (x :: a) (y :: b) = .ins y :: dU (x :: a) b := by unfold dU; rw [diffOps_ins h h2, ex_cons]; rfl
theorem dU_ind {C : List ByteArray → List ByteArray → List U → Prop} (h1 : ∀ b, C [] b (b.map .ins)) (h2 : ∀ x a, C (x :: a) [] ((x :: a).map .del)) (h3 : ∀ x a b, C a b (dU a b) → C (x :: a) (x :: b) (.keep x :: dU a b))
  (h4 : ∀ x a y b, x ≠ y → lcs (x :: a) b ≤ lcs a (y :: b) → C a (y :: b) (dU a (y :: b)) → C (x :: a) (y :: b) (.del x :: dU a (y :: b)))
  (h5 : ∀ x a y b, x ≠ y → ¬ lcs (x :: a) b ≤ lcs a (y :: b) → C (x :: a) b (dU (x :: a) b) → C (x :: a) (y :: b) (.ins y :: dU (x :: a) b)) : ∀ a b, C a b (dU a b) := by
 intro a b
 induction a, b using diffOps.induct with
 | case1 b => rw [dU_nil]; exact h1 b
 | case2 x a => rw [dU_end]; exact h2 x a
 | case3 a x b ih => rw [dU_same]; exact h3 x a b ih
 | case4 x a y b h k ih => rw [dU_del h k]; exact h4 x a y b h k ih
 | case5 x a y b h k ih => rw [dU_ins h k]; exact h5 x a y b h k ih
theorem sides_inss (b : List ByteArray) : olds (b.map .ins) = [] ∧ news (b.map .ins) = b.map some := by
 induction b with
 | nil => exact ⟨rfl, rfl⟩
 | cons t b ih => simp only [List.map_cons, olds, news, ih, and_self]
theorem sides_dels (b : List ByteArray) : olds (b.map .del) = b.map some ∧ news (b.map .del) = [] := by
 induction b with
 | nil => exact ⟨rfl, rfl⟩
 | cons t b ih => simp only [List.map_cons, olds, news, ih, and_self]
theorem dU_sides : ∀ a b, olds (dU a b) = a.map some ∧ news (dU a b) = b.map some :=
 dU_ind (C := fun a b u => olds u = a.map some ∧ news u = b.map some) (fun b => sides_inss b) (fun x a => sides_dels (x :: a))
  (fun x a b ih => by simp only [olds, news, ih.1, ih.2, List.map_cons, and_self])
  (fun x a y b _ _ ih => by simp only [olds, news, ih.1, ih.2, List.map_cons, and_self])
  (fun x a y b _ _ ih => by simp only [olds, news, ih.1, ih.2, List.map_cons, and_self])
def skf (s : List U) : Prop := ∀ x ∈ s, isSkip x = false
theorem skf.cons {x : U} {s : List U} (hx : isSkip x = false) (h : skf s) : skf (x :: s) := fun y hy => by
 rcases List.mem_cons.mp hy with rfl | hy
 ·exact hx
 ·exact h y hy
theorem skf.tail {x : U} {s : List U} (h : skf (x :: s)) : skf s := fun y hy => h y (List.mem_cons_of_mem _ hy)
theorem dU_self : ∀ a : List ByteArray, dU a a = a.map .keep
 | [] => by rw [dU_nil]; rfl
 | x :: a => by rw [dU_same, dU_self a]; rfl
def tdU : List ByteArray → List ByteArray → List U → List U
 | a, b, [] => dU a b
 | a, b, .skip :: u => dU a b ++ .skip :: tdU [] [] u
 | a, b, .keep t :: u => tdU (a ++ [t]) (b ++ [t]) u
 | a, b, .del t :: u => tdU (a ++ [t]) b u
 | a, b, .ins t :: u => tdU a (b ++ [t]) u
theorem tdU_sides : ∀ (u : List U) (a b : List ByteArray), olds (tdU a b u) = a.map some ++ olds u ∧ news (tdU a b u) = b.map some ++ news u
 | [], a, b => by have := dU_sides a b; simpa [tdU, olds, news] using this
 | .skip :: u, a, b => by
  have h := dU_sides a b
  have i := tdU_sides u [] []
  simp only [tdU, olds_app, news_app, olds, news, h.1, h.2, i.1, i.2, List.map_nil, List.nil_append, and_self]
 | .keep t :: u, a, b => by
  have i := tdU_sides u (a ++ [t]) (b ++ [t])
  simp only [tdU, olds, news, i.1, i.2, List.map_append, List.map_cons, List.map_nil, List.append_assoc, List.singleton_append, and_self]
 | .del t :: u, a, b => by
  have i := tdU_sides u (a ++ [t]) b
  simp only [tdU, olds, news, i.1, i.2, List.map_append, List.map_cons, List.map_nil, List.append_assoc, List.singleton_append, and_self]
 | .ins t :: u, a, b => by
  have i := tdU_sides u a (b ++ [t])
  simp only [tdU, olds, news, i.1, i.2, List.map_append, List.map_cons, List.map_nil, List.append_assoc, List.singleton_append, and_self]
theorem rightU_td (u : List U) : rightU (tdU [] [] u) = rightU u := by
 have := tdU_sides u [] []
 unfold rightU
 rw [this.1, this.2]; rfl
def seg (a b : List ByteArray) (v : List U) (ls : List ByteArray) : Option (List ByteArray) := if ls.take a.length = a then (doU v (ls.drop a.length)).map (b ++ ·) else none
def splitN : List (Option ByteArray) → List ByteArray × Option (List (Option ByteArray))
 | [] => ([], none)
 | none :: s => ([], some s)
 | some t :: s => (t :: (splitN s).1, (splitN s).2)
theorem splitN_app : ∀ (a : List ByteArray) (s : List (Option ByteArray)), splitN (a.map some ++ s) = (a ++ (splitN s).1, (splitN s).2)
 | [], s => rfl
 | t :: a, s => by rw [List.map_cons, List.cons_append, splitN, splitN_app a s]; rfl
theorem splitN_all (a : List ByteArray) : splitN (a.map some) = (a, none) := by
 have := splitN_app a []
 rw [List.append_nil] at this
 rw [this, splitN, List.append_nil]
def Gn : Nat → List (Option ByteArray) → List (Option ByteArray) → List U
 | 0, _, _ => []
 | n + 1, s, t => match (splitN s).2, (splitN t).2 with
  | some s', some t' => dU (splitN s).1 (splitN t).1 ++ .skip :: Gn n s' t'
  | _, _ => dU (splitN s).1 (splitN t).1
theorem td_Gn : ∀ (u : List U) (a b : List ByteArray) (n : Nat), u.length < n → tdU a b u = Gn n (a.map some ++ olds u) (b.map some ++ news u)
 | [], a, b, n + 1, _ => by simp [tdU, Gn, olds, news, splitN_all]
 | .skip :: u, a, b, n + 1, h => by
  have i := td_Gn u [] [] n (by simp only [List.length_cons] at h; omega)
  simp only [List.map_nil, List.nil_append] at i
  simp [tdU, Gn, olds, news, splitN_app, splitN, i]
 | .keep t :: u, a, b, n + 1, h => by
  have i := td_Gn u (a ++ [t]) (b ++ [t]) (n + 1) (by simp only [List.length_cons] at h; omega)
  simp only [List.map_append, List.map_cons, List.map_nil, List.append_assoc, List.singleton_append] at i
  exact i
 | .del t :: u, a, b, n + 1, h => by
  have i := td_Gn u (a ++ [t]) b (n + 1) (by simp only [List.length_cons] at h; omega)
  simp only [List.map_append, List.map_cons, List.map_nil, List.append_assoc, List.singleton_append] at i
  exact i
 | .ins t :: u, a, b, n + 1, h => by
  have i := td_Gn u a (b ++ [t]) (n + 1) (by simp only [List.length_cons] at h; omega)
  simp only [List.map_append, List.map_cons, List.map_nil, List.append_assoc, List.singleton_append] at i
  exact i
theorem ch_keeps (b : List ByteArray) : chU (b.map .keep) = 0 := by
 induction b with
 | nil => rfl
 | cons t b ih => rw [List.map_cons, chU_keep, ih]
theorem Gn_self : ∀ (n : Nat) (s : List (Option ByteArray)), chU (Gn n s s) = 0
 | 0, s => rfl
 | n + 1, s => by
  rw [Gn]
  cases (splitN s).2 with
  | none => simp only; rw [dU_self, ch_keeps]
  | some s' => simp only; rw [dU_self, chU_app, ch_keeps, chU_skip, Gn_self n s']
theorem ch_zero : ∀ {w : List U}, chU w = 0 → olds w = news w
 | [], _ => rfl
 | .skip :: w, h => by rw [chU_skip] at h; rw [olds, news, ch_zero h]
 | .keep t :: w, h => by rw [chU_keep] at h; rw [olds, news, ch_zero h]
 | .del t :: w, h => by rw [chU_del] at h; omega
 | .ins t :: w, h => by rw [chU_ins] at h; omega
theorem td_idle (u : List U) : chU (tdU [] [] u) = 0 ↔ olds u = news u := by
 constructor
 ·intro h
  have := ch_zero h
  have s := tdU_sides u [] []
  rw [s.1, s.2] at this
  exact this
 ·intro h
  rw [td_Gn u [] [] (u.length + 1) (by omega), h]
  exact Gn_self _ _
def tdL : List ByteArray → List ByteArray → List Op → List Op
 | a, b, [] => diffOps a b
 | a, b, o :: l => if o.f0 = 1 then diffOps a b ++ o :: tdL [] [] l else tdL (if o.f0 = 4 then a else a ++ [o.f2]) (if o.f0 = 3 then b else b ++ [o.f2]) l
theorem diffOps_mem (a b : List ByteArray) : ∀ o ∈ diffOps a b, (o.f0 = 2 ∨ o.f0 = 3 ∨ o.f0 = 4) ∧ o.f1 = 0 ∧ (o.f2 ∈ a ∨ o.f2 ∈ b) := by
 induction a, b using diffOps.induct with
 | case1 b =>
  rw [diffOps_nil_left]
  intro o ho
  obtain ⟨t, ht, rfl⟩ := List.mem_map.mp ho
  exact ⟨.inr (.inr rfl), rfl, .inr ht⟩
 | case2 x a =>
  rw [diffOps_nil_right]
  intro o ho
  obtain ⟨t, ht, rfl⟩ := List.mem_map.mp ho
  exact ⟨.inr (.inl rfl), rfl, .inl ht⟩
 | case3 a x b ih =>
  rw [diffOps_same]
  intro o ho
  rcases List.mem_cons.mp ho with rfl | ho
  ·exact ⟨.inl rfl, rfl, .inl (List.mem_cons_self ..)⟩
  ·obtain ⟨h1, h2, h3⟩ := ih o ho
   exact ⟨h1, h2, h3.imp (List.mem_cons_of_mem _) (List.mem_cons_of_mem _)⟩
 | case4 x a y b h k ih =>
  rw [diffOps_del h k]
  intro o ho
  rcases List.mem_cons.mp ho with rfl | ho
  ·exact ⟨.inr (.inl rfl), rfl, .inl (List.mem_cons_self ..)⟩
  ·obtain ⟨h1, h2, h3⟩ := ih o ho
   exact ⟨h1, h2, h3.imp (List.mem_cons_of_mem _) id⟩
 | case5 x a y b h k ih =>
  rw [diffOps_ins h k]
  intro o ho
  rcases List.mem_cons.mp ho with rfl | ho
  ·exact ⟨.inr (.inr rfl), rfl, .inr (List.mem_cons_self ..)⟩
  ·obtain ⟨h1, h2, h3⟩ := ih o ho
   exact ⟨h1, h2, h3.imp id (List.mem_cons_of_mem _)⟩
theorem td_skips (u : List U) (a b : List ByteArray) : ∀ n : Nat, tdU a b (List.replicate (n + 1) .skip ++ u) = dU a b ++ List.replicate (n + 1) .skip ++ tdU [] [] u
 | 0 => by simp [tdU]
 | n + 1 => by
  have i := td_skips u [] [] n
  rw [List.replicate_succ, List.cons_append, tdU, i, show dU [] [] = [] from dU_nil [], List.nil_append]
  simp [List.replicate_succ]
theorem ex_td : ∀ (l : List Op) (a b : List ByteArray), (∀ o ∈ l, formO o) → ex (tdL a b l) = tdU a b (ex l) ∧ (∀ o ∈ tdL a b l, formO o) ∧ skips (tdL a b l) = skips l ∧ (tdL a b l).length ≤ a.length + b.length + 2 * l.length ∧ (∀ o ∈ tdL a b l, o.f2 ∈ a ∨ o.f2 ∈ b ∨ ∃ x ∈ l, o.f2 = x.f2)
 | [], a, b, _ => by
  have hm := diffOps_mem a b
  refine ⟨rfl, fun o ho => .inr ⟨(hm o ho).1, (hm o ho).2.1⟩, ?_, ?_, fun o ho => (hm o ho).2.2.elim .inl (fun h => .inr (.inl h))⟩
  ·rw [tdL, skips_nil]
   have : ∀ l : List Op, (∀ o ∈ l, o.f0 ≠ 1) → skips l = 0 := by
    intro l
    induction l with
    | nil => intro _; rfl
    | cons o l ih => intro h; rw [skips_cons, if_neg (h o (List.mem_cons_self ..)), ih fun x hx => h x (List.mem_cons_of_mem _ hx)]; rfl
   exact this _ fun o ho => by have := (hm o ho).1; omega
  ·rw [tdL]; have := diffOps_len a b; simp; omega
 | o :: l, a, b, h => by
  have fo := h o (List.mem_cons_self ..)
  have i := fun a b => ex_td l a b fun x hx => h x (List.mem_cons_of_mem _ hx)
  rw [tdL, ex_cons]
  rcases fo with ⟨hk, h1, h2⟩ | ⟨hk, h1⟩
  ·obtain ⟨i1, i2, i3, i4, i5⟩ := i [] []
   obtain ⟨m, hm⟩ : ∃ m : Nat, o.f1.toNat = m + 1 := ⟨o.f1.toNat - 1, by omega⟩
   have dm := diffOps_mem a b
   have eo : exO o = List.replicate (m + 1) .skip := by rw [← hm]; simp [exO, hk]
   have z : skips (diffOps a b) = 0 := by
    have : ∀ l : List Op, (∀ o ∈ l, o.f0 ≠ 1) → skips l = 0 := by
     intro l
     induction l with
     | nil => intro _; rfl
     | cons o l ih => intro h; rw [skips_cons, if_neg (h o (List.mem_cons_self ..)), ih fun x hx => h x (List.mem_cons_of_mem _ hx)]; rfl
    exact this _ fun o ho => by have := (dm o ho).1; omega
   rw [if_pos hk]
   refine ⟨?_, ?_, ?_, ?_, ?_⟩
   ·rw [eo, td_skips, ex_app, ex_cons, i1, eo]; simp [dU]
   ·intro x hx
    rcases List.mem_append.mp hx with hx | hx
    ·exact .inr ⟨(dm x hx).1, (dm x hx).2.1⟩
    ·rcases List.mem_cons.mp hx with rfl | hx
     ·exact .inl ⟨hk, h1, h2⟩
     ·exact i2 x hx
   ·rw [skips_app, skips_cons, skips_cons, i3, z]; omega
   ·have := diffOps_len a b
    simp only [List.length_append, List.length_cons, List.length_nil] at i4 ⊢; omega
   ·intro x hx
    rcases List.mem_append.mp hx with hx | hx
    ·rcases (dm x hx).2.2 with h | h
     ·exact .inl h
     ·exact .inr (.inl h)
    ·rcases List.mem_cons.mp hx with rfl | hx
     ·exact .inr (.inr ⟨x, List.mem_cons_self .., rfl⟩)
     ·rcases i5 x hx with h | h | ⟨y, hy, e⟩
      ·simp at h
      ·simp at h
      ·exact .inr (.inr ⟨y, List.mem_cons_of_mem _ hy, e⟩)
  ·have k1 : ¬ o.f0 = 1 := by omega
   rw [if_neg k1]
   obtain ⟨i1, i2, i3, i4, i5⟩ := i (if o.f0 = 4 then a else a ++ [o.f2]) (if o.f0 = 3 then b else b ++ [o.f2])
   refine ⟨?_, i2, by rw [i3, skips_cons, if_neg k1]; omega, ?_, ?_⟩
   ·rw [i1]
    rcases hk with hk | hk | hk
    ·rw [show exO o = [.keep o.f2] from by simp [exO, hk], if_neg (by omega), if_neg (by omega)]; rfl
    ·rw [show exO o = [.del o.f2] from by simp [exO, hk], if_neg (by omega), if_pos hk]; rfl
    ·rw [show exO o = [.ins o.f2] from by simp [exO, hk], if_pos hk, if_neg (by omega)]; rfl
   ·refine Nat.le_trans i4 ?_
    split <;> split <;> simp only [List.length_append, List.length_cons, List.length_nil] <;> omega
   ·intro x hx
    rcases i5 x hx with h | h | ⟨y, hy, e⟩
    ·split at h
     ·exact .inl h
     ·rcases List.mem_append.mp h with h | h
      ·exact .inl h
      ·exact .inr (.inr ⟨o, List.mem_cons_self .., List.mem_singleton.mp h⟩)
    ·split at h
     ·exact .inr (.inl h)
     ·rcases List.mem_append.mp h with h | h
      ·exact .inr (.inl h)
      ·exact .inr (.inr ⟨o, List.mem_cons_self .., List.mem_singleton.mp h⟩)
    ·exact .inr (.inr ⟨y, List.mem_cons_of_mem _ hy, e⟩)
def tidyL (l : List Op) : List Op := pack (nf [] (tdU [] [] (ex l)))
theorem norm_td {l : List Op} (h : ∀ o ∈ l, formO o) : normL (tdL [] [] l) = tidyL l := by
 unfold normL tidyL; rw [(ex_td l [] [] h).1]
theorem right_td {l : List Op} (hr : rightL l = true) : rightL (tdL [] [] l) = true := by
 obtain ⟨e1, e2, _⟩ := ex_td l [] [] (rightL_form hr)
 rw [right_iff e2, e1, rightU_td]; exact rightL_U hr
theorem Sm.td {l : List Op} (h : Sm l) (hl : l.length < 2199023255552) (hf : ∀ o ∈ l, formO o) : Sm (tdL [] [] l) := by
 obtain ⟨_, _, _, e4, e5⟩ := ex_td l [] [] hf
 refine ⟨by simp only [List.length_nil] at e4; omega, fun o ho => ?_⟩
 rcases e5 o ho with h2 | h2 | ⟨x, hx, e⟩
 ·simp at h2
 ·simp at h2
 ·rw [e]; exact h.2 x hx
theorem Sm.tidy {l : List Op} (h : Sm l) (hl : l.length < 2199023255552) (hr : rightL l = true) : Sm (tidyL l) := by
 rw [← norm_td (rightL_form hr)]
 exact (h.td hl (rightL_form hr)).norm (rightL_form (right_td hr))
theorem ch_tidy (l : List Op) : chN (tidyL l) = chU (tdU [] [] (ex l)) := by
 unfold tidyL; rw [chN_ex (form_pack _), ex_pack, chU_nf, chU_nil]; omega
end Go.Proofs.Ytkiklmmpflndbaa.P
namespace Go.Proofs.Ytkiklmmpflndbaa.P
open Go.RowKit Go.Proofs.YtkiklmmpflndbaaW.PrintWords Go.Proofs.YtkiklmmpflndbaaW.PrintLast Go.Proofs.YtkiklmmpflndbaaW.PrintMore
theorem table_f {a b : List ByteArray} (ha : a.length ≤ 1000000) (hb : b.length ≤ 1000000) : patchworkref8_table.f a b = some (tabRows a b) := by simp [patchworkref8_table.f, ha, hb]
theorem rdL_get {t : List (List Int)} {i : Nat} {r : List Int} (h : t[i]? = some r) : rd_L11 t (i : Int) = r := by
 unfold rd_L11; rw [Int.toNat_natCast, List.getD_eq_getElem?_getD, h]; rfl
theorem tab_get (a b : List ByteArray) (i : Nat) (hi : i ≤ a.length) : (tabRows a b)[i]? = some ((List.range (b.length + 1)).map fun j => tabL a b i j) := by
 unfold tabRows
 rw [List.getElem?_map, List.getElem?_range (by omega)]; rfl
theorem tab_len (a b : List ByteArray) : (tabRows a b).length = a.length + 1 := by simp [tabRows]
theorem tab_row (a b : List ByteArray) {i : Nat} (hi : i ≤ a.length) : rd_L11 (tabRows a b) (i : Int) = (List.range (b.length + 1)).map fun j => tabL a b i j := rdL_get (tab_get a b i hi)
theorem tab_rd (a b : List ByteArray) {i j : Nat} (hi : i ≤ a.length) (hj : j ≤ b.length) : rd (rd_L11 (tabRows a b) (i : Int)) (j : Int) = tabL a b i j := by
 rw [tab_row a b hi]
 rw [rd_get (by simp; omega)]
 simp
theorem tab_rowlen (a b : List ByteArray) {i : Nat} (hi : i ≤ a.length) : (rd_L11 (tabRows a b) (i : Int)).length = b.length + 1 := by rw [tab_row a b hi]; simp
theorem w1 {n : Nat} (h : n ≤ 1000000) : wrap64 ((n : Int) + 1) = ((n + 1 : Nat) : Int) := by unfold wrap64; omega
theorem rd_keep {a b : List ByteArray} {i j : Nat} {out r : List Op} (hia : i < a.length) (hjb : j < b.length) (ha : a.length ≤ 1000000) (hb : b.length ≤ 1000000) (ho : out.length < 4398046511104) (heq : a[i] = b[j])
  (h : Ev (fun k => patchworkref8_LcsDiff.l0 k a b (tabRows a b) (out ++ [(⟨2, 0, a[i]⟩ : Op)]) ((i + 1 : Nat) : Int) ((j + 1 : Nat) : Int)) r) : Ev (fun k => patchworkref8_LcsDiff.l0 k a b (tabRows a b) out (i : Int) (j : Int)) r := by
 have g1 : ((i : Int) < (a.length : Int)) := by omega
 have g2 : ((j : Int) < (b.length : Int)) := by omega
 have ra : rdOf ByteArray.empty a (i : Int) = a[i] := rdOf_get hia
 have rb : rdOf ByteArray.empty b (j : Int) = b[j] := rdOf_get hjb
 have heq' : a[i].toList = b[j].toList := by rw [heq]
 have wi := w1 (show i ≤ 1000000 by omega)
 have wj := w1 (show j ≤ 1000000 by omega)
 have p1 : (i : Int) < ((tabRows a b).length : Int) := by rw [tab_len]; omega
 have p2 : (j : Int) < ((rd_L11 (tabRows a b) (i : Int)).length : Int) := by rw [tab_rowlen a b (by omega)]; omega
 have p4 : ((i + 1 : Nat) : Int) < ((tabRows a b).length : Int) := by rw [tab_len]; omega
 have p6 : ((j + 1 : Nat) : Int) < ((rd_L11 (tabRows a b) ((i + 1 : Nat) : Int)).length : Int) := by rw [tab_rowlen a b (by omega)]; omega
 have v : (rd (rd_L11 (tabRows a b) (i : Int)) (j : Int) == wrap64 (rd (rd_L11 (tabRows a b) ((i + 1 : Nat) : Int)) ((j + 1 : Nat) : Int) + 1)) = true := by
  rw [tab_rd a b (by omega) (by omega), tab_rd a b (by omega) (by omega), tabL_same hia hjb heq]
  have hbd := tabL_bd a b (i + 1) (j + 1)
  rw [show wrap64 (tabL a b (i + 1) (j + 1) + 1) = tabL a b (i + 1) (j + 1) + 1 from by unfold wrap64; omega]
  exact beq_self_eq_true _
 refine Ev.step (fun k => rfl) ?_
 simp only [patchworkref8_LcsDiff.l0, if_pos g1]
 refine Ev.step (fun k => rfl) ?_
 simp only [patchworkref8_LcsDiff.j1, if_true, if_pos g1, if_pos g2, nn_nat, ra, rb, if_pos heq', wi, wj, if_pos p1, if_pos p2, if_pos p4, if_pos p6, v]
 refine Ev.step (fun k => rfl) ?_
 simp only [patchworkref8_LcsDiff.j2, if_true, nn_nat, if_pos g1, if_pos ho, ra, wi, wj]
 exact h
theorem rd_ne {a b : List ByteArray} {i j : Nat} {out r : List Op} (hia : i < a.length) (hjb : j < b.length) (heq : a[i] ≠ b[j])
  (h : Ev (fun k => patchworkref8_LcsDiff.j2 k a b (tabRows a b) out (i : Int) (j : Int) false) r) : Ev (fun k => patchworkref8_LcsDiff.l0 k a b (tabRows a b) out (i : Int) (j : Int)) r := by
 have g1 : ((i : Int) < (a.length : Int)) := by omega
 have g2 : ((j : Int) < (b.length : Int)) := by omega
 have ra : rdOf ByteArray.empty a (i : Int) = a[i] := rdOf_get hia
 have rb : rdOf ByteArray.empty b (j : Int) = b[j] := rdOf_get hjb
 have heq' : ¬ a[i].toList = b[j].toList := fun e => heq (txt_eq e)
 refine Ev.step (fun k => rfl) ?_
 simp only [patchworkref8_LcsDiff.l0, if_pos g1]
 refine Ev.step (fun k => rfl) ?_
 simp only [patchworkref8_LcsDiff.j1, if_true, if_pos g1, if_pos g2, nn_nat, ra, rb, if_neg heq']
 exact h
theorem rd_two {a b : List ByteArray} {i j : Nat} {out r : List Op} (hia : i < a.length) (hjb : j < b.length) (ha : a.length ≤ 1000000) (hb : b.length ≤ 1000000) (ho : out.length < 4398046511104)
  (h1 : tabL a b (i + 1) j ≥ tabL a b i (j + 1) → Ev (fun k => patchworkref8_LcsDiff.l0 k a b (tabRows a b) (out ++ [(⟨3, 0, a[i]⟩ : Op)]) ((i + 1 : Nat) : Int) (j : Int)) r)
  (h2 : ¬ tabL a b (i + 1) j ≥ tabL a b i (j + 1) → Ev (fun k => patchworkref8_LcsDiff.l0 k a b (tabRows a b) (out ++ [(⟨4, 0, b[j]⟩ : Op)]) (i : Int) ((j + 1 : Nat) : Int)) r) : Ev (fun k => patchworkref8_LcsDiff.j2 k a b (tabRows a b) out (i : Int) (j : Int) false) r := by
 have g1 : ((i : Int) < (a.length : Int)) := by omega
 have g2 : ((j : Int) < (b.length : Int)) := by omega
 have g3 : ¬ (j : Int) = (b.length : Int) := by omega
 have ra : rdOf ByteArray.empty a (i : Int) = a[i] := rdOf_get hia
 have rb : rdOf ByteArray.empty b (j : Int) = b[j] := rdOf_get hjb
 have wi := w1 (show i ≤ 1000000 by omega)
 have wj := w1 (show j ≤ 1000000 by omega)
 have p1 : (i : Int) < ((tabRows a b).length : Int) := by rw [tab_len]; omega
 have p4 : ((i + 1 : Nat) : Int) < ((tabRows a b).length : Int) := by rw [tab_len]; omega
 have p7 : (j : Int) < ((rd_L11 (tabRows a b) ((i + 1 : Nat) : Int)).length : Int) := by rw [tab_rowlen a b (by omega)]; omega
 have p8 : ((j + 1 : Nat) : Int) < ((rd_L11 (tabRows a b) (i : Int)).length : Int) := by rw [tab_rowlen a b (by omega)]; omega
 have v1 := tab_rd a b (i := i + 1) (j := j) (by omega) (by omega)
 have v2 := tab_rd a b (i := i) (j := j + 1) (by omega) (by omega)
 refine Ev.step (fun k => rfl) ?_
 by_cases hge : tabL a b (i + 1) j ≥ tabL a b i (j + 1)
 ·simp only [patchworkref8_LcsDiff.j2, Bool.false_eq_true, if_false, if_neg g3, if_pos g1, wi, wj, nn_nat, if_true, if_pos p4, if_pos p7, if_pos p1, if_pos p8, v1, v2, if_pos hge, if_pos ho, ra]
  exact h1 hge
 ·simp only [patchworkref8_LcsDiff.j2, Bool.false_eq_true, if_false, if_neg g3, if_pos g1, wi, wj, nn_nat, if_true, if_pos p4, if_pos p7, if_pos p1, if_pos p8, v1, v2, if_neg hge, if_pos g2, if_pos ho, rb]
  exact h2 hge
theorem rd_del {a b : List ByteArray} {i : Nat} {out r : List Op} (hia : i < a.length) (ha : a.length ≤ 1000000) (ho : out.length < 4398046511104)
  (h : Ev (fun k => patchworkref8_LcsDiff.l0 k a b (tabRows a b) (out ++ [(⟨3, 0, a[i]⟩ : Op)]) ((i + 1 : Nat) : Int) (b.length : Int)) r) : Ev (fun k => patchworkref8_LcsDiff.l0 k a b (tabRows a b) out (i : Int) (b.length : Int)) r := by
 have g1 : ((i : Int) < (a.length : Int)) := by omega
 have g2 : ¬ ((b.length : Int) < (b.length : Int)) := by omega
 have ra : rdOf ByteArray.empty a (i : Int) = a[i] := rdOf_get hia
 have wi := w1 (show i ≤ 1000000 by omega)
 refine Ev.step (fun k => rfl) ?_
 simp only [patchworkref8_LcsDiff.l0, if_pos g1]
 refine Ev.step (fun k => rfl) ?_
 simp only [patchworkref8_LcsDiff.j1, if_true, if_pos g1, if_neg g2]
 refine Ev.step (fun k => rfl) ?_
 simp only [patchworkref8_LcsDiff.j2, Bool.false_eq_true, if_false, if_true, nn_nat, if_pos g1, if_pos ho, ra, wi]
 exact h
theorem rd_ins {a b : List ByteArray} {j : Nat} {out r : List Op} (hjb : j < b.length) (hb : b.length ≤ 1000000) (ho : out.length < 4398046511104)
  (h : Ev (fun k => patchworkref8_LcsDiff.l0 k a b (tabRows a b) (out ++ [(⟨4, 0, b[j]⟩ : Op)]) (a.length : Int) ((j + 1 : Nat) : Int)) r) : Ev (fun k => patchworkref8_LcsDiff.l0 k a b (tabRows a b) out (a.length : Int) (j : Int)) r := by
 have g1 : ¬ ((a.length : Int) < (a.length : Int)) := by omega
 have g2 : ((j : Int) < (b.length : Int)) := by omega
 have g3 : ¬ (j : Int) = (b.length : Int) := by omega
 have rb : rdOf ByteArray.empty b (j : Int) = b[j] := rdOf_get hjb
 have wj := w1 (show j ≤ 1000000 by omega)
 refine Ev.step (fun k => rfl) ?_
 simp only [patchworkref8_LcsDiff.l0, if_neg g1, g2, decide_true]
 refine Ev.step (fun k => rfl) ?_
 simp only [patchworkref8_LcsDiff.j1, if_true, if_neg g1]
 refine Ev.step (fun k => rfl) ?_
 simp only [patchworkref8_LcsDiff.j2, Bool.false_eq_true, if_false, if_neg g3, if_neg g1, nn_nat, if_true, if_pos g2, if_pos ho, rb, wj]
 exact h
theorem rd_end {a b : List ByteArray} {out : List Op} : Ev (fun k => patchworkref8_LcsDiff.l0 k a b (tabRows a b) out (a.length : Int) (b.length : Int)) out := by
 have g1 : ¬ ((a.length : Int) < (a.length : Int)) := by omega
 have g2 : ¬ ((b.length : Int) < (b.length : Int)) := by omega
 refine Ev.step (fun k => rfl) ?_
 simp only [patchworkref8_LcsDiff.l0, if_neg g1, g2, decide_false]
 refine Ev.step (fun k => rfl) ?_
 simp only [patchworkref8_LcsDiff.j1, Bool.false_eq_true, if_false]
 exact Ev.now out
theorem refDiff_loop {a b : List ByteArray} (ha : a.length ≤ 1000000) (hb : b.length ≤ 1000000) : ∀ (n i j : Nat) (out : List Op), (a.length - i) + (b.length - j) ≤ n → i ≤ a.length → j ≤ b.length → out.length + n < 4398046511104 →
  Ev (fun k => patchworkref8_LcsDiff.l0 k a b (tabRows a b) out (i : Int) (j : Int)) (out ++ diffOps (a.drop i) (b.drop j)) := by
 intro n
 induction n with
 | zero =>
  intro i j out hn hi hj hl
  obtain rfl : i = a.length := by omega
  obtain rfl : j = b.length := by omega
  rw [List.drop_length, List.drop_length, diffOps_nil_left, List.map_nil, List.append_nil]
  exact rd_end
 | succ n ih =>
  intro i j out hn hi hj hl
  have snoc : ∀ (o : Op) (l : List Op), out ++ o :: l = (out ++ [o]) ++ l := fun o l => by rw [List.append_assoc]; rfl
  have len : ∀ (o : Op), (out ++ [o]).length = out.length + 1 := fun o => by rw [List.length_append]; rfl
  by_cases hia : i < a.length
  ·have s1 : ∀ o, Ev (fun k => patchworkref8_LcsDiff.l0 k a b (tabRows a b) (out ++ [o]) ((i + 1 : Nat) : Int) (j : Int)) ((out ++ [o]) ++ diffOps (a.drop (i + 1)) (b.drop j)) := fun o => ih (i + 1) j _ (by omega) (by omega) hj (by rw [len]; omega)
   by_cases hjb : j < b.length
   ·by_cases heq : a[i] = b[j]
    ·rw [List.drop_eq_getElem_cons hia, List.drop_eq_getElem_cons hjb, ← heq, diffOps_same, snoc _ (diffOps _ _)]
     exact rd_keep hia hjb ha hb (by omega) heq (ih (i + 1) (j + 1) _ (by omega) (by omega) (by omega) (by rw [len]; omega))
    ·refine rd_ne hia hjb heq (rd_two hia hjb ha hb (by omega) (fun hge => ?_) (fun hge => ?_))
     ·have e : diffOps (a.drop i) (b.drop j) = ⟨3, 0, a[i]⟩ :: diffOps (a.drop (i + 1)) (b.drop j) := by
       rw [List.drop_eq_getElem_cons hia, List.drop_eq_getElem_cons hjb]
       refine diffOps_del heq ?_
       rw [← List.drop_eq_getElem_cons hia, ← List.drop_eq_getElem_cons hjb]
       unfold tabL at hge
       omega
      rw [e, snoc _ (diffOps _ _)]
      exact s1 _
     ·have e : diffOps (a.drop i) (b.drop j) = ⟨4, 0, b[j]⟩ :: diffOps (a.drop i) (b.drop (j + 1)) := by
       rw [List.drop_eq_getElem_cons hia, List.drop_eq_getElem_cons hjb]
       refine diffOps_ins heq ?_
       rw [← List.drop_eq_getElem_cons hia, ← List.drop_eq_getElem_cons hjb]
       unfold tabL at hge
       omega
      rw [e, snoc _ (diffOps _ _)]
      exact ih i (j + 1) _ (by omega) hi (by omega) (by rw [len]; omega)
   ·obtain rfl : j = b.length := by omega
    have e : diffOps (a.drop i) (b.drop b.length) = ⟨3, 0, a[i]⟩ :: diffOps (a.drop (i + 1)) (b.drop b.length) := by
     rw [List.drop_eq_getElem_cons hia, List.drop_length, diffOps_nil_right, diffOps_nil_right]; rfl
    rw [e, snoc _ (diffOps _ _)]
    exact rd_del hia ha (by omega) (s1 _)
  ·obtain rfl : i = a.length := by omega
   by_cases hjb : j < b.length
   ·have e : diffOps (a.drop a.length) (b.drop j) = ⟨4, 0, b[j]⟩ :: diffOps (a.drop a.length) (b.drop (j + 1)) := by
     rw [List.drop_eq_getElem_cons hjb, List.drop_length, diffOps_nil_left, diffOps_nil_left]; rfl
    rw [e, snoc _ (diffOps _ _)]
    exact rd_ins hjb hb (by omega) (ih a.length (j + 1) _ (by omega) hi (by omega) (by rw [len]; omega))
   ·obtain rfl : j = b.length := by omega
    rw [List.drop_length, List.drop_length, diffOps_nil_left, List.map_nil, List.append_nil]
    exact rd_end
theorem refDiff {a b : List ByteArray} (ha : a.length ≤ 1000000) (hb : b.length ≤ 1000000) : Ev (fun k => patchworkref8_LcsDiff.f k a b) (diffOps a b) := by
 have := refDiff_loop ha hb (a.length + b.length) 0 0 [] (by omega) (by omega) (by omega) (by simp; omega)
 simp only [patchworkref8_LcsDiff.f, table_f ha hb, Option.bind_some]
 simpa using this
end Go.Proofs.Ytkiklmmpflndbaa.P
namespace Go.Proofs.Ytkiklmmpflndbaa.P
open Go.RowKit Go.Proofs.YtkiklmmpflndbaaW.PrintWords Go.Proofs.YtkiklmmpflndbaaW.PrintLast Go.Proofs.YtkiklmmpflndbaaW.PrintMore
theorem reftidy_loop (s : List Op) : ∀ (p out : List Op) (a b : List ByteArray) (v : List Op), Sm (p ++ s) → (p ++ s).length ≤ 1000000 → (∀ o ∈ s, okOne o = true) → out.length + a.length + b.length ≤ 3 * p.length → a.length ≤ p.length → b.length ≤ p.length →
  Ev (fun k => patchworkref8_norm.f k (out ++ tdL a b s)) v → Ev (fun k => patchworkref8_Tidy.l0 k (p ++ s) out a b (p.length : Int)) v := by
 induction s with
 | nil =>
  intro p out a b v hb hl _ ho ha hb2 h
  have l3 := diffOps_len a b
  rw [List.append_nil] at hl
  have c1 : (p.length : Int) ≤ ((p ++ ([] : List Op)).length : Int) := by simp
  have c2 : (p.length : Int) = ((p ++ ([] : List Op)).length : Int) := by simp
  have c4 : out.length + (diffOps a b).length < 4398046511104 := by omega
  have c5 : ¬ (p.length : Int) < ((p ++ ([] : List Op)).length : Int) := by simp
  have w : wrap64 ((p.length : Int) + 1) = (p.length : Int) + 1 := by unfold wrap64; omega
  have c6 : ¬ (p.length : Int) + 1 ≤ ((p ++ ([] : List Op)).length : Int) := by simp; omega
  rw [tdL] at h
  refine Ev.step (fun k => rfl) ?_
  simp only [patchworkref8_Tidy.l0, if_pos c1, if_pos c2]
  refine Ev.step (fun k => rfl) ?_
  simp only [patchworkref8_Tidy.j1, if_true]
  refine Ev.bind' (refDiff (by omega) (by omega)) ?_
  simp only [if_pos c4, Option.bind_some, if_neg c5, w]
  refine Ev.step (fun k => rfl) ?_
  simp only [patchworkref8_Tidy.l0, if_neg c6]
  exact Ev.bind' h (Ev.now _)
 | cons o s ih =>
  intro p out a b v hb hl hok ho ha hb2 h
  have l3 := diffOps_len a b
  have hl' := hl
  simp only [List.length_append, List.length_cons] at hl'
  have i := fun out a b => ih (p ++ [o]) out a b v hb.snoc (by simpa using hl) (fun x hx => hok x (List.mem_cons_of_mem _ hx))
  rw [List.append_assoc, List.singleton_append] at i
  have hp := hb.len
  have lp : (p ++ [o]).length = p.length + 1 := by simp
  have w := wrap_len p o (by omega)
  have c1 : (p.length : Int) ≤ ((p ++ o :: s).length : Int) := by simp only [List.length_append, List.length_cons]; omega
  have c2 : ¬ (p.length : Int) = ((p ++ o :: s).length : Int) := by simp only [List.length_append, List.length_cons]; omega
  have oko := hok o (List.mem_cons_self ..)
  refine Ev.step (fun k => rfl) ?_
  simp only [patchworkref8_Tidy.l0, if_pos c1, if_neg c2, nn_nat, lt_mid, if_true, rdOp_mid]
  refine Ev.step (fun k => rfl) ?_
  rw [tdL] at h
  by_cases hk : o.f0 = 1
  ·have c4 : out.length + (diffOps a b).length < 4398046511104 := by omega
   have c7 : (out ++ diffOps a b).length < 4398046511104 := by rw [List.length_append]; exact c4
   rw [if_pos hk] at h
   have hk' : (o.f0 == 1) = true := by simpa using hk
   simp only [patchworkref8_Tidy.j1, hk', if_true]
   refine Ev.bind' (refDiff (by omega) (by omega)) ?_
   simp only [if_pos c4, Option.bind_some, lt_mid, nn_nat, if_true, if_pos c7, rdOp_mid, w]
   refine i _ [] [] ?_ (by simp) (by simp) (by simpa using h)
   simp only [List.length_append, List.length_cons, List.length_nil]; omega
  ·have hk' : (o.f0 == 1) = false := by simpa using hk
   obtain ⟨hk2, _, _⟩ := okOne_ne oko hk
   rw [if_neg hk] at h
   have ca : a.length < 8796093022208 := by omega
   have cb : b.length < 8796093022208 := by omega
   simp only [patchworkref8_Tidy.j1, hk', Bool.false_eq_true, if_false, nn_nat, lt_mid, if_true, rdOp_mid, w]
   rcases hk2 with hk | hk | hk
   ·rw [if_neg (by omega), if_neg (by omega)] at h
    have k4 : ¬ o.f0 = 4 := by omega
    have k3 : ¬ o.f0 = 3 := by omega
    simp only [if_neg k4, if_neg k3, if_pos ca, if_pos cb, Option.bind_some]
    exact i out _ _ (by simp only [List.length_append, List.length_cons, List.length_nil]; omega) (by simp; omega) (by simp; omega) h
   ·rw [if_neg (by omega), if_pos hk] at h
    have k4 : ¬ o.f0 = 4 := by omega
    simp only [if_neg k4, if_pos hk, if_pos ca, Option.bind_some]
    exact i out _ _ (by simp only [List.length_append, List.length_cons, List.length_nil]; omega) (by simp; omega) (by simp; omega) h
   ·rw [if_pos hk, if_neg (by omega)] at h
    have k3 : ¬ o.f0 = 3 := by omega
    simp only [if_pos hk, if_neg k3, if_pos cb]
    exact i out _ _ (by simp only [List.length_append, List.length_cons, List.length_nil]; omega) (by simp; omega) (by simp; omega) h
theorem reftidy_ev {l : List Op} (h : Sm l) (hl : l.length ≤ 1000000) : Ev (fun k => patchworkref8_Tidy.f k l) (if rightL l then tidyL l else []) := by
 refine Ev.bind' (refright_ev h) ?_
 cases hr : rightL l
 ·simp only [Bool.false_eq_true, if_false]; exact Ev.now _
 ·simp only [if_true]
  have hf := rightL_form hr
  obtain ⟨e1, e2, e3, e4, e5⟩ := ex_td l [] [] hf
  obtain ⟨h1, h2, _⟩ := rightL_ok hr
  have hsk := skips_le 3 hf
  refine reftidy_loop l [] [] [] [] _ h hl h1 (by simp) (by simp) (by simp) ?_
  have := refnorm_ev (h.td (by omega) hf) e2 (by rw [e3]; omega)
  rw [norm_td hf] at this
  exact this
theorem Sm.tidied {l : List Op} (h : Sm l) (hl : l.length ≤ 1000000) : Sm (if rightL l then tidyL l else []) := by
 split
 ·rename_i hr; exact h.tidy (by omega) hr
 ·exact .nil
def idleL (l : List Op) : Bool := decide (chN (if rightL l then tidyL l else []) = 0)
theorem refidle_ev {l : List Op} (h : Sm l) (hl : l.length ≤ 1000000) : Ev (fun k => patchworkref8_Idle.f k l) (idleL l) := by
 refine Ev.bind' (reftidy_ev h hl) ?_
 refine Ev.bind' (changes_ev (h.tidied hl)) ?_
 unfold idleL
 have : ((chN (if rightL l then tidyL l else []) : Int) == 0) = decide (chN (if rightL l then tidyL l else []) = 0) := by
  rw [Bool.eq_iff_iff]; simp
 rw [this]
 exact Ev.now _
theorem idle_iff {l : List Op} (hr : rightL l = true) : idleL l = decide (olds (ex l) = news (ex l)) := by
 unfold idleL
 rw [hr, if_pos rfl, ch_tidy]
 have := td_idle (ex l)
 simp only [this]
end Go.Proofs.Ytkiklmmpflndbaa.P
namespace Go.Proofs.Ytkiklmmpflndbaa.P
open Go.RowKit Go.Proofs.YtkiklmmpflndbaaW.PrintWords Go.Proofs.YtkiklmmpflndbaaW.PrintLast Go.Proofs.YtkiklmmpflndbaaW.PrintMore
def restN (l : List Op) : Nat → Nat
 | 0 => 0
 | n + 1 => if (l.getD n ⟨0, 0, ⟨#[]⟩⟩).f0 = 1 then restN l n else n + 1
def restL (l : List Op) : List Op := l.take (restN l l.length)
theorem rd_getD (l : List Op) (n : Nat) (h : n < l.length) : rd_Op l (n : Int) = l.getD n ⟨0, 0, ⟨#[]⟩⟩ := by
 rw [rdOp_get h, List.getD_eq_getElem?_getD, List.getElem?_eq_getElem h]; rfl
theorem prest_loop (l : List Op) (hl : l.length < 4398046511104) : ∀ n, n ≤ l.length → Ev (fun k => compose_Rest.l0 k l (n : Int)) (l.take (restN l n))
 | 0, h => by
  refine Ev.step (fun k => rfl) ?_
  have c0 : ¬ ((0 : Nat) : Int) > 0 := by omega
  have c1 : (0 : Int) ≤ ((0 : Nat) : Int) := by omega
  have c2 : ((0 : Nat) : Int) ≤ (l.length : Int) := by omega
  have c3 : ([] : List Op).length + (l.take ((0 : Nat) : Int).toNat).length < 4398046511104 := by simp
  simp only [compose_Rest.l0, if_neg c0, if_pos c1, if_pos c2, Option.bind_some, if_pos c3]
  exact Ev.now _
 | n + 1, h => by
  have i := prest_loop l hl n (by omega)
  have w : wrap64 (((n + 1 : Nat) : Int) - 1) = (n : Int) := by unfold wrap64; omega
  have c0 : ((n + 1 : Nat) : Int) > 0 := by omega
  have c1 : (0 : Int) ≤ (n : Int) := by omega
  have c2 : (n : Int) < (l.length : Int) := by omega
  have c3 : (0 : Int) ≤ ((n + 1 : Nat) : Int) := by omega
  have c4 : ((n + 1 : Nat) : Int) ≤ (l.length : Int) := by omega
  have c5 : ([] : List Op).length + (l.take ((n + 1 : Nat) : Int).toNat).length < 4398046511104 := by rw [List.length_take]; simp only [List.length_nil]; omega
  refine Ev.step (fun k => rfl) ?_
  simp only [compose_Rest.l0, w, if_pos c0, if_pos c1, if_pos c2, if_pos c3, if_pos c4, rd_getD l n (by omega), Option.bind_some, if_pos c5]
  rw [restN]
  by_cases hk : (l.getD n ⟨0, 0, ⟨#[]⟩⟩).f0 = 1
  ·simp only [if_pos hk]; exact i
  ·simp only [if_neg hk]; exact Ev.now _
theorem prest_ev {l : List Op} (h : Sm l) : Ev (fun k => compose_Rest.f k l) (restL l) := prest_loop l h.1 _ (Nat.le_refl _)
theorem alive11 : Ev (fun k => patchworklaw11_alive.f k) true := by
 have s0 : Sx [] := ⟨by simp, by simp⟩
 have s1 : Sx [(⟨4, 0, ⟨#[97, 10]⟩⟩ : Op)] := ⟨by simp, fun o ho => by rw [List.mem_singleton.mp ho]; exact (by decide : (2 : Nat) < 1073741824)⟩
 have s2 : Sx [(⟨3, 0, ⟨#[97, 10]⟩⟩ : Op)] := ⟨by simp, fun o ho => by rw [List.mem_singleton.mp ho]; exact (by decide : (2 : Nat) < 1073741824)⟩
 have s3 : Sm [(⟨1, 2, ⟨#[]⟩⟩ : Op)] := ⟨by simp, fun o ho => by rw [List.mem_singleton.mp ho]; exact (by decide : (0 : Nat) < 4611686018427387904)⟩
 have e0 : thenL [] [] = ([], true) := rfl
 have r1 : rightL [(⟨4, 0, ⟨#[97, 10]⟩⟩ : Op)] = true := by decide +kernel
 have r2 : rightL [(⟨3, 0, ⟨#[97, 10]⟩⟩ : Op)] = true := by decide +kernel
 have e1 : thenL [(⟨4, 0, ⟨#[97, 10]⟩⟩ : Op)] [(⟨3, 0, ⟨#[97, 10]⟩⟩ : Op)] = ([], true) := by
  have := thenL_of (u := []) r1 r2 (by
   show cmpU [.ins ⟨#[97, 10]⟩] false [.del ⟨#[97, 10]⟩] = some []
   simp [cmpU, cmpT, inner, midT, endQ, un]) rfl
  exact this
 have e2 : restL [(⟨1, 2, ⟨#[]⟩⟩ : Op)] = [] := rfl
 have a0 := pthen_ev s0 s0
 have a1 := pthen_ev s1 s2
 have a2 := prest_ev s3
 rw [e0] at a0
 rw [e1] at a1
 rw [e2] at a2
 unfold patchworklaw11_alive.f
 refine Ev.bind' a0 ?_
 refine Ev.bind' a1 ?_
 have c : (([] : List Op).length : Int) = 0 := rfl
 simp only [if_pos c, if_true]
 refine Ev.bind' a2 ?_
 exact Ev.now _
end Go.Proofs.Ytkiklmmpflndbaa.P
