/- Own and printed texts that the theorem of SwapApart reaches, put together. -/
import Derived.Test.YtfoponahdidddaaqSwapApart5
import Derived.Test.YtfoponahdidddaaqSwapApart3
set_option linter.unusedVariables false
set_option linter.unusedSimpArgs false
namespace Go.Proofs.Ytfoponahdidddaa.P
open Go.RowKit Go.Proofs.YtfoponahdidddaaW.PrintWords Go.Proofs.YtfoponahdidddaaW.PrintLast Go.Proofs.YtfoponahdidddaaW.PrintMore
def okAll (l : List Op) : Prop := ∀ o ∈ l, okOne o = true
theorem okAll.tail {o : Op} {l : List Op} (h : okAll (o :: l)) : okAll l := fun x hx => h x (List.mem_cons_of_mem _ hx)
theorem okAll.head {o : Op} {l : List Op} (h : okAll (o :: l)) : okOne o = true := h o (List.mem_cons_self ..)
def exS (os : List Step) : List TU := os.flatMap fun s => (exO s.f0).map fun u => (u, if s.f2 = true then 3 else s.f1)
theorem exS_cons (s : Step) (os : List Step) : exS (s :: os) = (exO s.f0).map (fun u => (u, if s.f2 = true then 3 else s.f1)) ++ exS os := by simp [exS]
def uO (o : Op) : U := if o.f0 = 1 then .skip else if o.f0 = 2 then .keep o.f2 else if o.f0 = 3 then .del o.f2 else .ins o.f2
theorem exO_skip {o : Op} (hk : o.f0 = 1) : exO o = List.replicate o.f1.toNat .skip := by simp [exO, hk]
theorem exO_ne {o : Op} (hk : o.f0 ≠ 1) : exO o = [uO o] := by
 unfold exO uO
 rw [if_neg hk, if_neg hk]
 split
 ·rfl
 ·split <;> rfl
theorem wrapsub {a n : Int} (h1 : 1 ≤ n) (h2 : n < a) (h3 : a ≤ 2147483648) : wrap64 (a - n) = a - n := by unfold wrap64; omega
theorem okAll.drop {ps : List Op} (h : okAll ps) {n : Int} (hn : 1 ≤ n) : okAll (dropL ps n) := by
 cases ps with
 | nil => exact h
 | cons o r =>
  rw [dropL]
  split
  ·rename_i c
   intro x hx
   rcases List.mem_cons.mp hx with rfl | hx
   ·obtain ⟨h1, h2, h3⟩ := okOne_skip h.head c.1
    unfold okOne
    rw [if_pos c.1, wrapsub hn c.2 h2, h3]
    have a1 : 1 ≤ o.f1 - n := by omega
    have a2 : o.f1 - n ≤ 2147483648 := by omega
    simp [a1, a2]
   ·exact h.tail x hx
  ·exact h.tail
theorem drop_len (ps : List Op) (n : Int) : (dropL ps n).length ≤ ps.length := by
 cases ps with
 | nil => exact Nat.le_refl _
 | cons o r => rw [dropL]; split <;> simp
theorem replicate_toNat {a : Int} (h : 1 ≤ a) : List.replicate a.toNat U.skip = .skip :: List.replicate (a - 1).toNat .skip := by
 rw [show a.toNat = (a - 1).toNat + 1 from by omega, List.replicate_succ]
theorem tail1 {ps : List Op} (h : okAll ps) : ex (dropL ps 1) = (ex ps).tail := by
 cases ps with
 | nil => rfl
 | cons o r =>
  by_cases hk : o.f0 = 1
  ·obtain ⟨h1, h2, h3⟩ := okOne_skip h.head hk
   rw [ex_cons, exO_skip hk, replicate_toNat h1]
   rw [dropL]
   by_cases c : o.f1 > 1
   ·rw [if_pos ⟨hk, c⟩, ex_cons, exO_skip (o := ⟨o.f0, wrap64 (o.f1 - 1), o.f2⟩) hk, wrapsub (by omega) c h2]; rfl
   ·rw [if_neg (fun x => c x.2), show (o.f1 - 1).toNat = 0 from by omega]; rfl
  ·rw [dropL]
   rw [if_neg (fun x => hk x.1), ex_cons, exO_ne hk]; rfl
theorem dropSkip {ps : List Op} (h : okAll ps) {n : Int} (hn : 1 ≤ n) (hk : (nextL ps 2147483648).f0 = 1) (hle : n ≤ (nextL ps 2147483648).f1) :
  ex ps = List.replicate n.toNat .skip ++ ex (dropL ps n) ∨ ex ps = [] ∧ ex (dropL ps n) = [] := by
 cases ps with
 | nil => exact .inr ⟨rfl, rfl⟩
 | cons o r =>
  left
  have hk : o.f0 = 1 := hk
  have hle : n ≤ o.f1 := hle
  obtain ⟨h1, h2, h3⟩ := okOne_skip h.head hk
  rw [dropL]
  by_cases c : o.f1 > n
  ·rw [if_pos ⟨hk, c⟩, ex_cons, ex_cons, exO_skip hk, exO_skip (o := ⟨o.f0, wrap64 (o.f1 - n), o.f2⟩) hk, wrapsub hn c h2, ← List.append_assoc, List.replicate_append_replicate]
   congr 2
   show o.f1.toNat = n.toNat + (o.f1 - n).toNat
   omega
  ·rw [if_neg (fun x => c x.2), ex_cons, exO_skip hk, show o.f1 = n from by omega]
theorem cmpT_skips : ∀ (n : Nat) (p q p' q' : List U), (p = List.replicate (n + 1) .skip ++ p' ∨ p = [] ∧ p' = []) → (q = List.replicate (n + 1) .skip ++ q' ∨ q = [] ∧ q' = []) → (p ≠ [] ∨ q ≠ []) →
  cmpT p false q = (cmpT p' false q').map (List.replicate (n + 1) ((.skip, 0) : TU) ++ ·) := by
 have hd : ∀ (n : Nat) (p p' : List U), (p = List.replicate (n + 1) .skip ++ p' ∨ p = [] ∧ p' = []) → nxU p = .skip ∧ NoD p ∧ NoI p ∧ (p.tail = List.replicate n .skip ++ p' ∨ p.tail = [] ∧ p' = []) := by
  intro n p p' h
  rcases h with rfl | ⟨rfl, rfl⟩
  ·rw [List.replicate_succ]
   exact ⟨rfl, fun t r e => by simp at e, fun t r e => by simp at e, .inl rfl⟩
  ·exact ⟨rfl, fun t r e => by simp at e, fun t r e => by simp at e, .inr ⟨rfl, rfl⟩⟩
 intro n
 induction n with
 | zero =>
  intro p q p' q' hp hq hne
  obtain ⟨p1, p2, _, p4⟩ := hd 0 p p' hp
  obtain ⟨q1, _, q3, q4⟩ := hd 0 q q' hq
  rw [cmpT_mid p2 q3 hne, p1, q1, if_neg (by simp)]
  have e1 : p.tail = p' := by rcases p4 with h | ⟨h, h'⟩ <;> simp [h, *]
  have e2 : q.tail = q' := by rcases q4 with h | ⟨h, h'⟩ <;> simp [h, *]
  rw [e1, e2]; rfl
 | succ n ih =>
  intro p q p' q' hp hq hne
  obtain ⟨p1, p2, _, p4⟩ := hd (n + 1) p p' hp
  obtain ⟨q1, _, q3, q4⟩ := hd (n + 1) q q' hq
  rw [cmpT_mid p2 q3 hne, p1, q1, if_neg (by simp)]
  have hne' : p.tail ≠ [] ∨ q.tail ≠ [] := by
   rcases hp with rfl | ⟨rfl, rfl⟩
   ·left; simp [List.replicate_succ]
   ·rcases hq with rfl | ⟨rfl, rfl⟩
    ·right; simp [List.replicate_succ]
    ·simp at hne
  show (some [((.skip, 0) : TU)]).bind (fun a => (cmpT p.tail (opM .skip .skip) q.tail).map (a ++ ·)) = _
  rw [Option.bind_some, show opM .skip .skip = false from rfl, ih p.tail q.tail p' q' p4 q4 hne', Option.map_map, List.replicate_succ (n := n + 1)]
  rfl
theorem nx_ex {ps : List Op} (h : okAll ps) : nxU (ex ps) = uO (nextL ps 2147483648) := by
 cases ps with
 | nil => rfl
 | cons o r =>
  show nxU (ex (o :: r)) = uO o
  rw [ex_cons]
  by_cases hk : o.f0 = 1
  ·rw [exO_skip hk, replicate_toNat (okOne_skip h.head hk).1]; simp [uO, hk, nxU]
  ·rw [exO_ne hk]; rfl
theorem ex_ne_nil {o : Op} {r : List Op} (h : okOne o = true) : ex (o :: r) ≠ [] := by
 rw [ex_cons]
 by_cases hk : o.f0 = 1
 ·rw [exO_skip hk, replicate_toNat (okOne_skip h hk).1]; simp
 ·rw [exO_ne hk]; simp
theorem head_cases {ps : List Op} (h : okAll ps) : NoD (ex ps) ∨ ∃ o r, ps = o :: r ∧ o.f0 = 3 ∧ ex ps = .del o.f2 :: ex r := by
 cases ps with
 | nil => exact .inl fun t r e => by simp [ex] at e
 | cons o r =>
  by_cases hk : o.f0 = 3
  ·exact .inr ⟨o, r, rfl, hk, by rw [ex_cons, exO_ne (by omega)]; simp [uO, hk]⟩
  ·left
   intro t s e
   have := nx_ex h
   rw [e] at this
   have hu : uO o = .del t := this.symm
   unfold uO at hu
   split at hu
   ·simp at hu
   ·split at hu
    ·simp at hu
    ·simp [hk] at hu
theorem head_casesI {ps : List Op} (h : okAll ps) : NoI (ex ps) ∨ ∃ o r, ps = o :: r ∧ o.f0 = 4 ∧ ex ps = .ins o.f2 :: ex r := by
 cases ps with
 | nil => exact .inl fun t r e => by simp [ex] at e
 | cons o r =>
  by_cases hk : o.f0 = 4
  ·exact .inr ⟨o, r, rfl, hk, by rw [ex_cons, exO_ne (by omega)]; simp [uO, hk]⟩
  ·left
   intro t s e
   have := nx_ex h
   rw [e] at this
   have hu : uO o = .ins t := this.symm
   unfold uO at hu
   by_cases h1 : o.f0 = 1
   ·simp [h1] at hu
   ·obtain ⟨h2, _⟩ := okOne_ne h.head h1
    rcases h2 with h2 | h2 | h2
    ·simp [h2] at hu
    ·simp [h2] at hu
    ·exact hk h2
theorem hdK_iff {k : Int} {ps : List Op} : hdK k ps = true ↔ ∃ o r, ps = o :: r ∧ o.f0 = k := by
 cases ps with
 | nil => simp [hdK]
 | cons o r => simp [hdK]
theorem opnB_right {t : ByteArray} (h : rightT t = true) : opnB t = openT t := by
 unfold rightT at h
 simp only [Bool.and_eq_true, decide_eq_true_eq] at h
 have : t ≠ ⟨#[]⟩ := fun e => h.1 (by rw [e])
 unfold opnB openT
 simp [this]
theorem app_mt (t : ByteArray) : t ++ ByteArray.empty = t := by
 apply WideShapes.bytes_inj; simp
theorem mt_app (t : ByteArray) : ByteArray.empty ++ t = t := by
 apply WideShapes.bytes_inj; simp
theorem nextL_ok {ps : List Op} (h : okAll ps) : okOne (nextL ps 2147483648) = true := by
 cases ps with
 | nil => rfl
 | cons o r => exact h.head
theorem mid_line {x y : Op} (hx : okOne x = true) (hy : okOne y = true) (h3 : x.f0 ≠ 3) (h4 : y.f0 ≠ 4) (hn : ¬ (x.f0 = 1 ∧ y.f0 = 1)) (hno : noneL x y false = false) :
  (lineL x y).2.1 = 1 ∧ midT (uO x) (uO y) = some (exS [(lineL x y).2.2]) ∧ opM (uO x) (uO y) = opnB (lineL x y).1 := by
 have hxs : x.f0 = 1 → x.f2 = ByteArray.empty := fun h => (okOne_skip hx h).2.2
 have hys : y.f0 = 1 → y.f2 = ByteArray.empty := fun h => (okOne_skip hy h).2.2
 have hxr : x.f0 ≠ 1 → opnB x.f2 = openT x.f2 := fun h => opnB_right (okOne_ne hx h).2.2
 have hyr : y.f0 ≠ 1 → opnB y.f2 = openT y.f2 := fun h => opnB_right (okOne_ne hy h).2.2
 have kx : x.f0 = 1 ∨ x.f0 = 2 ∨ x.f0 = 4 := by
  by_cases h : x.f0 = 1
  ·exact .inl h
  ·rcases (okOne_ne hx h).1 with h | h | h
   ·exact .inr (.inl h)
   ·exact absurd h h3
   ·exact .inr (.inr h)
 have ky : y.f0 = 1 ∨ y.f0 = 2 ∨ y.f0 = 3 := by
  by_cases h : y.f0 = 1
  ·exact .inl h
  ·rcases (okOne_ne hy h).1 with h | h | h
   ·exact .inr (.inl h)
   ·exact .inr (.inr h)
   ·exact absurd h h4
 have ht : x.f0 ≠ 1 → y.f0 ≠ 1 → x.f2 = y.f2 := by
  intro h1 h2
  unfold noneL at hno
  simp [h1, h2] at hno
  exact hno
 have eo : ∀ o : Op, o.f0 ≠ 1 → ∀ b : Int, ∀ g : Bool, exS [(⟨o, b, g⟩ : Step)] = [(uO o, if g = true then 3 else b)] := by
  intro o h b g
  rw [exS_cons, exO_ne h]; rfl
 rcases kx with kx | kx | kx <;> rcases ky with ky | ky | ky
 ·exact absurd ⟨kx, ky⟩ hn
 ·have e := hxs kx
  refine ⟨by simp [lineL, kx, ky], ?_, ?_⟩
  ·simp [lineL, kx, ky, eo, uO, midT]
  ·simp [lineL, kx, ky, uO, opM, opnX, txU, e, mt_app, hyr]
 ·have e := hxs kx
  refine ⟨by simp [lineL, kx, ky], ?_, ?_⟩
  ·simp [lineL, kx, ky, eo, uO, midT]
  ·simp [lineL, kx, ky, uO, opM, opnX, txU, e, mt_app, hyr]
 ·have e := hys ky
  refine ⟨by simp [lineL, kx, ky], ?_, ?_⟩
  ·simp [lineL, kx, ky, eo, uO, midT]
  ·simp [lineL, kx, ky, uO, opM, opnX, txU, e, app_mt, hxr]
 ·have e := ht (by omega) (by omega)
  refine ⟨by simp [lineL, kx, ky], ?_, ?_⟩
  ·simp [lineL, kx, ky, eo, uO, midT, e]
  ·simp [lineL, kx, ky, uO, opM, opnX, txU, e, hyr]
 ·have e := ht (by omega) (by omega)
  refine ⟨by simp [lineL, kx, ky], ?_, ?_⟩
  ·simp [lineL, kx, ky, eo, uO, midT, e]
  ·simp [lineL, kx, ky, uO, opM, opnX, txU, e, hyr]
 ·have e := hys ky
  refine ⟨by simp [lineL, kx, ky], ?_, ?_⟩
  ·simp [lineL, kx, ky, eo, uO, midT]
  ·simp [lineL, kx, ky, uO, opM, opnX, txU, e, app_mt, hxr]
 ·have e := ht (by omega) (by omega)
  refine ⟨by simp [lineL, kx, ky], ?_, ?_⟩
  ·simp [lineL, kx, ky, eo, uO, midT, e]
  ·simp [lineL, kx, ky, uO, opM, opnX, txU, e, hyr]
 ·have e := ht (by omega) (by omega)
  refine ⟨by simp [lineL, kx, ky], ?_, ?_⟩
  ·simp [lineL, kx, ky, eo, uO, midT, e]
  ·simp [lineL, kx, ky, uO, opM, opnX, txU, e, hyr]
theorem drop_both {ps qs : List Op} (hp : okAll ps) (hq : okAll qs) (hne : ps.length + qs.length ≠ 0) :
  1 ≤ (lineL (nextL ps 2147483648) (nextL qs 2147483648)).2.1 ∧ (dropL ps (lineL (nextL ps 2147483648) (nextL qs 2147483648)).2.1).length + (dropL qs (lineL (nextL ps 2147483648) (nextL qs 2147483648)).2.1).length < ps.length + qs.length := by
 have a := drop_len ps
 have b := drop_len qs
 generalize hx : nextL ps 2147483648 = x
 generalize hy : nextL qs 2147483648 = y
 have ox : okOne x = true := hx ▸ nextL_ok hp
 have oy : okOne y = true := hy ▸ nextL_ok hq
 have en : ps = [] → x.f0 = 1 ∧ x.f1 = 2147483648 := by rintro rfl; rw [← hx]; exact ⟨rfl, rfl⟩
 have eq : qs = [] → y.f0 = 1 ∧ y.f1 = 2147483648 := by rintro rfl; rw [← hy]; exact ⟨rfl, rfl⟩
 have fp : ∀ n : Int, ps ≠ [] → ¬ (x.f0 = 1 ∧ x.f1 > n) → (dropL ps n).length < ps.length := by
  intro n hl hc
  cases ps with
  | nil => exact absurd rfl hl
  | cons o r =>
   have : o = x := hx
   subst this
   rw [dropL]
   rw [if_neg hc]; simp
 have fq : ∀ n : Int, qs ≠ [] → ¬ (y.f0 = 1 ∧ y.f1 > n) → (dropL qs n).length < qs.length := by
  intro n hl hc
  cases qs with
  | nil => exact absurd rfl hl
  | cons o r =>
   have : o = y := hy
   subst this
   rw [dropL]
   rw [if_neg hc]; simp
 by_cases kx : x.f0 = 1
 ·obtain ⟨x1, x2, _⟩ := okOne_skip ox kx
  by_cases ky : y.f0 = 1
  ·obtain ⟨y1, y2, _⟩ := okOne_skip oy ky
   have e : (lineL x y).2.1 = min x.f1 y.f1 := by simp [lineL, kx, ky]
   rw [e]
   refine ⟨by omega, ?_⟩
   have ap := a (min x.f1 y.f1)
   have bq := b (min x.f1 y.f1)
   by_cases ep : ps = []
   ·have eqn : qs ≠ [] := fun h => hne (by simp [ep, h])
    have := fq (min x.f1 y.f1) eqn (fun h => by have := (en ep).2; omega)
    omega
   ·by_cases eqq : qs = []
    ·have := fp (min x.f1 y.f1) ep (fun h => by have := (eq eqq).2; omega)
     omega
    ·by_cases hm : x.f1 ≤ y.f1
     ·have := fp (min x.f1 y.f1) ep (fun h => by omega)
      omega
     ·have := fq (min x.f1 y.f1) eqq (fun h => by omega)
      omega
  ·have e : (lineL x y).2.1 = 1 := by simp [lineL, kx, ky]
   rw [e]
   have eqn : qs ≠ [] := fun h => ky (eq h).1
   have := fq 1 eqn (fun h => ky h.1)
   have := a 1
   exact ⟨by omega, by omega⟩
 ·have e : (lineL x y).2.1 = 1 := by
   by_cases ky : y.f0 = 1 <;> simp [lineL, kx, ky]
  rw [e]
  have epn : ps ≠ [] := fun h => kx (en h).1
  have := fp 1 epn (fun h => kx h.1)
  have := b 1
  exact ⟨by omega, by omega⟩
theorem walkO_cmp : ∀ (n : Nat) (ps qs : List Op) (e : Bool), ps.length + qs.length ≤ n → okAll ps → okAll qs → (walkO n ps qs e).map exS = cmpT (ex ps) e (ex qs) := by
 intro n
 induction n with
 | zero =>
  intro ps qs e h hp hq
  obtain rfl : ps = [] := List.length_eq_zero_iff.mp (by omega)
  obtain rfl : qs = [] := List.length_eq_zero_iff.mp (by omega)
  rfl
 | succ n ih =>
  intro ps qs e h hp hq
  rw [walkO]
  by_cases h0 : ps.length + qs.length = 0
  ·rw [if_pos h0]
   obtain rfl : ps = [] := List.length_eq_zero_iff.mp (by omega)
   obtain rfl : qs = [] := List.length_eq_zero_iff.mp (by omega)
   rfl
  rw [if_neg h0]
  by_cases hd : hdK 3 ps = true
  ·rw [if_pos hd]
   obtain ⟨o, r, rfl, hk⟩ := hdK_iff.mp hd
   have ee : ex (o :: r) = .del o.f2 :: ex r := by rw [ex_cons, exO_ne (by omega)]; simp [uO, hk]
   simp only [List.length_cons] at h
   rw [ee, cmpT_del, ← ih r qs e (by omega) hp.tail hq, Option.map_map, Option.map_map]
   congr 1
   funext os
   show exS (⟨o, 1, false⟩ :: os) = _
   rw [exS_cons, exO_ne (by show o.f0 ≠ 1; omega)]
   simp [uO, hk]
  rw [if_neg hd]
  have nd : NoD (ex ps) := by
   rcases head_cases hp with h | ⟨o, r, e1, e2, _⟩
   ·exact h
   ·exact absurd (hdK_iff.mpr ⟨o, r, e1, e2⟩) hd
  by_cases hi : hdK 4 qs = true
  ·rw [if_pos hi]
   obtain ⟨o, r, rfl, hk⟩ := hdK_iff.mp hi
   have ee : ex (o :: r) = .ins o.f2 :: ex r := by rw [ex_cons, exO_ne (by omega)]; simp [uO, hk]
   simp only [List.length_cons] at h
   rw [ee, cmpT_ins nd, ← ih ps r e (by omega) hp hq.tail, Option.map_map, Option.map_map]
   congr 1
   funext os
   show exS (⟨o, 2, false⟩ :: os) = _
   rw [exS_cons, exO_ne (by show o.f0 ≠ 1; omega)]
   simp [uO, hk]
  rw [if_neg hi]
  have ni : NoI (ex qs) := by
   rcases head_casesI hq with h | ⟨o, r, e1, e2, _⟩
   ·exact h
   ·exact absurd (hdK_iff.mpr ⟨o, r, e1, e2⟩) hi
  have hne : ex ps ≠ [] ∨ ex qs ≠ [] := by
   cases ps with
   | nil =>
    cases qs with
    | nil => simp at h0
    | cons o r => exact .inr (ex_ne_nil hq.head)
   | cons o r => exact .inl (ex_ne_nil hp.head)
  obtain ⟨d1, d2⟩ := drop_both hp hq h0
  have nx := nx_ex hp
  have ny := nx_ex hq
  have ox := nextL_ok hp
  have oy := nextL_ok hq
  have x3 : (nextL ps 2147483648).f0 ≠ 3 := by
   intro h3
   cases ps with
   | nil => simp [nextL] at h3
   | cons o r => exact hd (hdK_iff.mpr ⟨o, r, rfl, h3⟩)
  have y4 : (nextL qs 2147483648).f0 ≠ 4 := by
   intro h3
   cases qs with
   | nil => simp [nextL] at h3
   | cons o r => exact hi (hdK_iff.mpr ⟨o, r, rfl, h3⟩)
  have i := ih (dropL ps (lineL (nextL ps 2147483648) (nextL qs 2147483648)).2.1) (dropL qs (lineL (nextL ps 2147483648) (nextL qs 2147483648)).2.1) (opnB (lineL (nextL ps 2147483648) (nextL qs 2147483648)).1) (by omega) (hp.drop d1) (hq.drop d1)
  have dsp := fun (n : Int) hn hk hle => dropSkip hp (n := n) hn hk hle
  have dsq := fun (n : Int) hn hk hle => dropSkip hq (n := n) hn hk hle
  generalize nextL ps 2147483648 = x at *
  generalize nextL qs 2147483648 = y at *
  by_cases hno : noneL x y e = true
  ·rw [if_pos hno, cmpT_mid nd ni hne]
   show none = _
   cases e with
   | true => rfl
   | false =>
    rw [if_neg (by simp), nx, ny]
    unfold noneL at hno
    simp only [Bool.false_or, Bool.and_eq_true, decide_eq_true_eq] at hno
    obtain ⟨⟨hx, hy⟩, hxy⟩ := hno
    have : midT (uO x) (uO y) = none := by
     rcases (okOne_ne ox hx).1 with kx | kx | kx <;> rcases (okOne_ne oy hy).1 with ky | ky | ky <;> first | exact absurd kx x3 | exact absurd ky y4 | simp [uO, kx, ky, midT, hxy]
    rw [this]; rfl
  rw [if_neg hno]
  have e0 : e = false := by
   cases e with
   | false => rfl
   | true => exact absurd rfl hno
  subst e0
  have hno' : noneL x y false = false := by simpa using hno
  rw [Option.map_map]
  by_cases hs : x.f0 = 1 ∧ y.f0 = 1
  ·obtain ⟨kx, ky⟩ := hs
   obtain ⟨x1, x2, _⟩ := okOne_skip ox kx
   obtain ⟨y1, y2, _⟩ := okOne_skip oy ky
   have el : lineL x y = (x.f2 ++ y.f2, min x.f1 y.f1, ⟨⟨1, min x.f1 y.f1, ⟨#[]⟩⟩, 0, false⟩) := by simp [lineL, kx, ky]
   have eb : opnB (lineL x y).1 = false := by
    have e1 := (okOne_skip ox kx).2.2
    have e2 := (okOne_skip oy ky).2.2
    rw [el]
    show opnB (x.f2 ++ y.f2) = false
    rw [e1, e2, app_mt]; rfl
   rw [eb] at i
   rw [el] at i d1 ⊢
   simp only at i d1 ⊢
   obtain ⟨m, hm⟩ : ∃ m : Nat, (min x.f1 y.f1).toNat = m + 1 := ⟨(min x.f1 y.f1).toNat - 1, by omega⟩
   have a1 := dsp (min x.f1 y.f1) d1 kx (by omega)
   have a2 := dsq (min x.f1 y.f1) d1 ky (by omega)
   rw [hm] at a1 a2
   rw [cmpT_skips m _ _ _ _ a1 a2 hne, ← i, Option.map_map]
   have : ∀ o : Option (List Step), o.map (exS ∘ (fun os => (⟨⟨1, min x.f1 y.f1, ⟨#[]⟩⟩, 0, false⟩ : Step) :: os)) = o.map ((fun w => List.replicate (m + 1) ((.skip, 0) : TU) ++ w) ∘ exS) := by
    intro o
    congr 1
    funext os
    show exS (_ :: os) = _ ++ exS os
    rw [exS_cons, exO_skip rfl]
    show List.map _ (List.replicate (min x.f1 y.f1).toNat U.skip) ++ _ = _
    rw [hm, List.map_replicate]; rfl
   have eb' : opnB (x.f2 ++ y.f2) = false := by rw [el] at eb; exact eb
   rw [eb']
   exact this _
  ·obtain ⟨m1, m2, m3⟩ := mid_line ox oy x3 y4 hs hno'
   rw [m1] at i ⊢
   rw [cmpT_mid nd ni hne, if_neg (by simp), nx, ny, m2, Option.bind_some, m3, ← tail1 hp, ← tail1 hq, ← i, Option.map_map]
   congr 1
   funext os
   show exS (_ :: os) = exS [_] ++ exS os
   rw [exS_cons, exS_cons]
   simp [exS]
def Sx (l : List Op) : Prop := l.length ≤ 274877906944 ∧ ∀ o ∈ l, o.f2.size < 1073741824
theorem Sx.sm {l : List Op} (h : Sx l) : Sm l := ⟨by have := h.1; omega, fun o ho => by have := h.2 o ho; omega⟩
def stepsL (os : List Step) : List Op := (os.filter fun s => !s.f2).map (·.f0)
theorem stepsL_cons (s : Step) (os : List Step) : stepsL (s :: os) = (if s.f2 = true then [] else [s.f0]) ++ stepsL os := by
 cases h : s.f2 <;> simp [stepsL, h]
def goodS (s : Step) : Prop := (okOne s.f0 = true ∧ s.f0.f2.size < 1073741824) ∧ (s.f1 = 0 ∨ s.f1 = 1 ∨ s.f1 = 2)
def okX (l : List Op) : Prop := ∀ o ∈ l, okOne o = true ∧ o.f2.size < 1073741824
theorem okX.all {l : List Op} (h : okX l) : okAll l := fun o ho => (h o ho).1
theorem okX.drop {l : List Op} (h : okX l) {n : Int} (hn : 1 ≤ n) : okX (dropL l n) := by
 intro o ho
 refine ⟨h.all.drop hn o ho, ?_⟩
 cases l with
 | nil => exact absurd ho (by simp [dropL])
 | cons x r =>
  rw [dropL] at ho
  split at ho
  ·rcases List.mem_cons.mp ho with rfl | ho
   ·exact (h x (List.mem_cons_self ..)).2
   ·exact (h o (List.mem_cons_of_mem _ ho)).2
  ·exact (h o (List.mem_cons_of_mem _ ho)).2
theorem nextL_okX {l : List Op} (h : okX l) : okOne (nextL l 2147483648) = true ∧ (nextL l 2147483648).f2.size < 1073741824 := by
 cases l with
 | nil => exact ⟨rfl, (by decide : (0 : Nat) < 1073741824)⟩
 | cons o r => exact h o (List.mem_cons_self ..)
theorem line_good {x y : Op} (hx : okOne x = true ∧ x.f2.size < 1073741824) (hy : okOne y = true ∧ y.f2.size < 1073741824) : goodS (lineL x y).2.2 := by
 unfold lineL goodS
 by_cases kx : x.f0 = 1
 ·by_cases ky : y.f0 = 1
  ·obtain ⟨x1, x2, _⟩ := okOne_skip hx.1 kx
   obtain ⟨y1, y2, _⟩ := okOne_skip hy.1 ky
   have a1 : 1 ≤ min x.f1 y.f1 := by omega
   have a2 : min x.f1 y.f1 ≤ 2147483648 := by omega
   simp only [kx, ky, ne_eq, not_true_eq_false, false_and, if_false]
   refine ⟨⟨?_, (by decide : (0 : Nat) < 1073741824)⟩, by simp⟩
   unfold okOne
   simp [a1, a2]
  ·simp only [kx, ky, ne_eq, not_true_eq_false, not_false_eq_true, false_and, if_false, if_true]
   exact ⟨hy, by split <;> simp⟩
 ·by_cases ky : y.f0 = 1
  ·simp only [kx, ky, ne_eq, not_true_eq_false, not_false_eq_true, and_false, if_false, if_true]
   exact ⟨hx, by split <;> simp⟩
  ·simp only [kx, ky, ne_eq, not_false_eq_true, and_self, if_true]
   split
   ·exact ⟨hy, by dsimp only; split <;> simp⟩
   ·split
    ·exact ⟨hx, .inr (.inl rfl)⟩
    ·exact ⟨hx, .inr (.inl rfl)⟩
theorem walkO_good : ∀ (n : Nat) (ps qs : List Op) (e : Bool) (os : List Step), okX ps → okX qs → walkO n ps qs e = some os → (∀ s ∈ os, goodS s) ∧ os.length ≤ n := by
 intro n
 induction n with
 | zero =>
  intro ps qs e os _ _ h
  obtain rfl : os = [] := (Option.some.inj h).symm
  exact ⟨fun s hs => by simp at hs, Nat.le_refl _⟩
 | succ n ih =>
  intro ps qs e os hp hq h
  rw [walkO] at h
  have cons : ∀ (s : Step) (os' : List Step), goodS s → (∀ x ∈ os', goodS x) ∧ os'.length ≤ n → (∀ x ∈ s :: os', goodS x) ∧ (s :: os').length ≤ n + 1 := by
   intro s os' hs hr
   refine ⟨fun x hx => ?_, by simp only [List.length_cons]; omega⟩
   rcases List.mem_cons.mp hx with rfl | hx
   ·exact hs
   ·exact hr.1 x hx
  split at h
  ·obtain rfl : os = [] := (Option.some.inj h).symm
   exact ⟨fun s hs => by simp at hs, by simp⟩
  ·rename_i h0
   split at h
   ·rename_i hd
    obtain ⟨o, r, rfl, hk⟩ := hdK_iff.mp hd
    obtain ⟨os', h', rfl⟩ := Option.map_eq_some_iff.mp h
    exact cons _ _ ⟨hp o (List.mem_cons_self ..), .inr (.inl rfl)⟩ (ih r qs e os' (fun x hx => hp x (List.mem_cons_of_mem _ hx)) hq h')
   ·split at h
    ·rename_i hi
     obtain ⟨o, r, rfl, hk⟩ := hdK_iff.mp hi
     obtain ⟨os', h', rfl⟩ := Option.map_eq_some_iff.mp h
     exact cons _ _ ⟨hq o (List.mem_cons_self ..), .inr (.inr rfl)⟩ (ih ps r e os' hp (fun x hx => hq x (List.mem_cons_of_mem _ hx)) h')
    ·split at h
     ·simp at h
     ·obtain ⟨os', h', rfl⟩ := Option.map_eq_some_iff.mp h
      obtain ⟨d1, _⟩ := drop_both hp.all hq.all h0
      exact cons _ _ (line_good (nextL_okX hp) (nextL_okX hq)) (ih _ _ _ os' (hp.drop d1) (hq.drop d1) h')
theorem ex_steps : ∀ (os : List Step), (∀ s ∈ os, goodS s) → ex (stepsL os) = un (exS os)
 | [], _ => rfl
 | s :: os, h => by
  have i := ex_steps os fun x hx => h x (List.mem_cons_of_mem _ hx)
  obtain ⟨_, h2⟩ := h s (List.mem_cons_self ..)
  rw [stepsL_cons, exS_cons, un_app, ex_app, i]
  congr 1
  cases hg : s.f2
  ·have : s.f1 ≠ 3 := by omega
   have e : ∀ l : List U, un (l.map fun u => ((u, s.f1) : TU)) = l := by
    intro l
    induction l with
    | nil => rfl
    | cons u l ih =>
     rw [List.map_cons, un_cons (by exact this), ih]
   simp only [Bool.false_eq_true, if_false, ex_cons, ex_nil, List.append_nil]
   exact (e _).symm
  ·simp [un, ex]
def thenU (p q : List U) : Option (List U) := (cmpU p false q).bind fun u => if rightU u = true then some (nf [] u) else none
def thenL (p q : List Op) : List Op × Bool := if rightL p = true ∧ rightL q = true then (match thenU (ex p) (ex q) with | some u => (pack u, true) | none => ([], false)) else ([], false)
theorem rightL_okX {l : List Op} (h : rightL l = true) (hs : Sx l) : okX l := fun o ho => ⟨(rightL_ok h).1 o ho, hs.2 o ho⟩
theorem okX_W {l : List Op} (h : okX l) : l.all okW1 = true := by
 rw [List.all_eq_true]
 intro o ho
 obtain ⟨h1, h2⟩ := h o ho
 unfold okW1
 by_cases hk : o.f0 = 1
 ·obtain ⟨a, b, _⟩ := okOne_skip h1 hk
  simp [hk, a, b, h2]
 ·simp [hk, h2]
theorem okW_of {p q : List Op} (hp : okX p) (hq : okX q) (h : p.length + q.length ≤ 1099511627776) : okW p q = true := by
 unfold okW
 rw [okX_W hp, okX_W hq]; simp [h]
theorem form_steps {os : List Step} (h : ∀ s ∈ os, goodS s) : ∀ o ∈ stepsL os, formO o := by
 intro o ho
 obtain ⟨s, hs, rfl⟩ := List.mem_map.mp ho
 exact form_of (h s (List.mem_filter.mp hs).1).1.1
theorem sx_steps {os : List Step} (h : ∀ s ∈ os, goodS s) (hl : os.length ≤ 1099511627776) : Sm (stepsL os) := by
 refine ⟨?_, fun o ho => ?_⟩
 ·have : (stepsL os).length ≤ os.length := by unfold stepsL; rw [List.length_map]; exact List.length_filter_le _ _
  omega
 ·obtain ⟨s, hs, rfl⟩ := List.mem_map.mp ho
  have := (h s (List.mem_filter.mp hs).1).1.2
  omega
theorem mid_olds {x y : U} {a : List U} (h : midU x y = some a) : (olds a).length ≤ (olds [x]).length ∧ (olds a).length ≤ 1 := by
 cases x <;> cases y <;> simp only [midU, midT] at h <;> (try split at h) <;> simp [un] at h <;> subst h <;> simp [olds]
theorem Cmp.olds_le {p q w : List U} (h : Cmp p q w) : (olds w).length ≤ (olds p).length + (olds q).length := by
 induction h with
 | nil => simp [olds]
 | del t _ ih => simp only [olds, List.length_cons]; omega
 | ins t _ _ ih => simp only [olds]; omega
 | mid hp hq hne ha _ ih =>
  rename_i p q a w _
  obtain ⟨a1, a2⟩ := mid_olds ha
  rw [olds_app, List.length_append]
  cases p with
  | cons x p =>
   have : (olds (x :: p)).length = (olds [x]).length + (olds p).length := by
    show (olds ([x] ++ p)).length = _
    rw [olds_app, List.length_append]
   have e1 : nxU (x :: p) = x := rfl
   rw [e1] at a1
   have : (olds q.tail).length ≤ (olds q).length := by
    cases q with
    | nil => exact Nat.le_refl _
    | cons y q => cases y <;> simp [olds]
   simp only [List.tail_cons] at ih
   omega
  | nil =>
   cases q with
   | nil => simp at hne
   | cons y q =>
    have : (olds (y :: q)).length = 1 + (olds q).length := by
     cases y with
     | ins t => exact absurd rfl (hq t q)
     | skip => simp [olds]; omega
     | keep t => simp [olds]; omega
     | del t => simp [olds]; omega
    simp only [List.tail_cons, List.tail_nil] at ih
    omega
theorem un_cmp {p q : List U} {e : Bool} {w : List TU} (h : cmpT p e q = some w) : cmpU p e q = some (un w) := by unfold cmpU; rw [h]; rfl
theorem walk_then {p q : List Op} (hp : Sx p) (hq : Sx q) (rp : rightL p = true) (rq : rightL q = true) :
  (walkO (p.length + q.length) p q false = none ∧ thenL p q = ([], false)) ∨
  ∃ os, walkO (p.length + q.length) p q false = some os ∧ cmpT (ex p) false (ex q) = some (exS os) ∧ (∀ s ∈ os, goodS s) ∧ os.length ≤ p.length + q.length ∧ ex (stepsL os) = un (exS os) ∧ (∀ o ∈ stepsL os, formO o) ∧ Sm (stepsL os) ∧
   skips (stepsL os) ≤ 4294967296 ∧ rightL (stepsL os) = rightU (un (exS os)) ∧ thenL p q = if rightL (stepsL os) = true then (normL (stepsL os), true) else ([], false) := by
 have op := rightL_okX rp hp
 have oq := rightL_okX rq hq
 have hc := walkO_cmp (p.length + q.length) p q false (Nat.le_refl _) op.all oq.all
 cases hw : walkO (p.length + q.length) p q false with
 | none =>
  left
  refine ⟨rfl, ?_⟩
  rw [hw] at hc
  have hc : cmpT (ex p) false (ex q) = none := hc.symm
  unfold thenL thenU cmpU
  rw [if_pos ⟨rp, rq⟩, hc]; rfl
 | some os =>
  right
  rw [hw] at hc
  have hc : cmpT (ex p) false (ex q) = some (exS os) := hc.symm
  obtain ⟨g1, g2⟩ := walkO_good _ _ _ _ _ op oq hw
  have he := ex_steps os g1
  have hf := form_steps g1
  have hsm := sx_steps g1 (by have := hp.1; have := hq.1; omega)
  have hr : rightL (stepsL os) = rightU (un (exS os)) := by rw [right_iff hf, he]
  have hu := un_cmp hc
  have hsk : skips (stepsL os) ≤ 4294967296 := by
   have h1 := skips_le 3 hf
   rw [sums_olds _ hf, he] at h1
   have h2 := (Cmp.of _ _ _ _ hu).olds_le
   have h3 := (rightL_ok rp).2.1
   have h4 := (rightL_ok rq).2.1
   rw [sums_olds _ (rightL_form rp)] at h3
   rw [sums_olds _ (rightL_form rq)] at h4
   omega
  refine ⟨os, rfl, hc, g1, g2, he, hf, hsm, hsk, hr, ?_⟩
  unfold thenL thenU
  rw [if_pos ⟨rp, rq⟩, hu, Option.bind_some, hr]
  cases rightU (un (exS os))
  ·rfl
  ·simp only [if_true]
   unfold normL
   rw [he]
end Go.Proofs.Ytfoponahdidddaa.P
namespace Go.Proofs.Ytfoponahdidddaa.P
open Go.RowKit Go.Proofs.YtfoponahdidddaaW.PrintWords Go.Proofs.YtfoponahdidddaaW.PrintLast Go.Proofs.YtfoponahdidddaaW.PrintMore
theorem told_loop (s : List Step) : ∀ (p : List Step) (out v : List Op) (b : Bool), (p ++ s).length < 1099511627777 → out.length ≤ p.length → out ++ stepsL s = v → Ev (fun k => ops_Right.f k v) b → Ev (fun k => compose_told.l0 k out (p ++ s) ((p ++ s).length : Int) (p.length : Int)) (v, b) := by
 induction s with
 | nil =>
  intro p out v b hb ho hv h
  have hv : out = v := by rw [← hv]; simp [stepsL]
  subst hv
  refine Ev.step (fun k => rfl) ?_
  simp only [compose_told.l0, lt_end, if_false]
  exact Ev.bind' h (Ev.now _)
 | cons x s ih =>
  intro p out v b hb ho hv h
  have hl := hb
  simp only [List.length_append, List.length_cons] at hl
  have i := fun out h1 h2 => ih (p ++ [x]) out v b (by simpa using hb) h1 h2 h
  rw [List.append_assoc, List.singleton_append] at i
  have w := wrap_len p x (by omega)
  have e : rd_Step (p ++ x :: s) (p.length : Int) = x := getD_mid p s x zStep
  rw [stepsL_cons] at hv
  have c : out.length < 4398046511104 := by omega
  refine Ev.step (fun k => rfl) ?_
  simp only [compose_told.l0, lt_mid, nn_nat, if_true, e, w, if_pos c]
  cases hg : x.f2
  ·simp only [Bool.false_eq_true, if_false]
   refine i _ (by simp only [List.length_append, List.length_singleton]; omega) ?_
   rw [← hv, hg]; simp
  ·simp only [if_true]
   refine i _ (by simp only [List.length_append, List.length_singleton]; omega) ?_
   rw [← hv, hg]; simp
theorem told_ev {os : List Step} (h : os.length ≤ 1099511627776) (hs : Sm (stepsL os)) : Ev (fun k => compose_told.f k os) (stepsL os, rightL (stepsL os)) :=
 told_loop os [] [] _ _ (by simpa using (by omega : os.length < 1099511627777)) (by simp) (by simp) (right_ev hs)
theorem thenL_len {p q : List Op} (hp : Sx p) (hq : Sx q) : (thenL p q).1.length ≤ p.length + q.length ∧ ∀ o ∈ (thenL p q).1, o.f2.size < 1073741824 := by
 cases rp : rightL p
 ·unfold thenL; simp [rp]
 cases rq : rightL q
 ·unfold thenL; simp [rq]
 rcases walk_then hp hq rp rq with ⟨hw, e⟩ | ⟨os, hw, _, g1, g2, he, hf, hsm, hsk, hr, e⟩
 ·rw [e]; simp
 ·rw [e]
  split
  ·refine ⟨?_, ?_⟩
   ·have h1 := nf_pack_len (stepsL os) [] hf
    have h2 : (stepsL os).length ≤ os.length := by unfold stepsL; rw [List.length_map]; exact List.length_filter_le _ _
    simp only [List.length_nil] at h1
    show (pack (nf [] (ex (stepsL os)))).length ≤ _
    omega
   ·intro o ho
    have ho : o ∈ pack (nf [] (ex (stepsL os))) := ho
    have he0 : ByteArray.empty.size = 0 := rfl
    rcases tx_pack _ o ho with e | ⟨x, hx, e⟩
    ·rw [e, he0]; omega
    ·rcases nf_mem _ _ _ hx with hx | hx
     ·simp at hx
     ·rcases tx_ex hx with e2 | ⟨y, hy, e2⟩
      ·rw [e, e2, he0]; omega
      ·rw [e, e2]
       obtain ⟨s, hs, rfl⟩ := List.mem_map.mp hy
       exact (g1 s (List.mem_filter.mp hs).1).1.2
  ·simp
theorem Sx.then {p q : List Op} (hp : Sx p) (hq : Sx q) (h : p.length + q.length ≤ 274877906944) : Sx (thenL p q).1 := by
 obtain ⟨h1, h2⟩ := thenL_len hp hq
 exact ⟨by omega, h2⟩
end Go.Proofs.Ytfoponahdidddaa.P
namespace Go.Proofs.Ytfoponahdidddaa.P
open Go.RowKit Go.Proofs.YtfoponahdidddaaW.PrintWords Go.Proofs.YtfoponahdidddaaW.PrintLast Go.Proofs.YtfoponahdidddaaW.PrintMore
def sideO (b a3 : Int) (l : List Step) : List Op := l.flatMap fun s => if s.f1 = 0 ∨ s.f1 = b then [s.f0] else if s.f0.f0 = a3 then [⟨2, s.f0.f1, s.f0.f2⟩] else []
theorem sideO_cons (b a3 : Int) (s : Step) (l : List Step) : sideO b a3 (s :: l) = (if s.f1 = 0 ∨ s.f1 = b then [s.f0] else if s.f0.f0 = a3 then [⟨2, s.f0.f1, s.f0.f2⟩] else []) ++ sideO b a3 l := by simp [sideO]
def touchO : Int → List Step → Bool
 | _, [] => false
 | b, s :: l => s.f2 || ((decide (s.f1 ≠ 0) && (decide (b ≠ 0) && decide (s.f1 ≠ b))) || touchO s.f1 l)
theorem touch_met : ∀ (l : List Step) (b : Int), metS l = true → touchO b l = true
 | [], _, h => by simp [metS] at h
 | s :: l, b, h => by
  rw [touchO]
  cases hs : s.f2
  ·have : metS l = true := by simpa [metS, hs] using h
   rw [touch_met l _ this]; simp
  ·rfl
theorem sideO_len (b a3 : Int) : ∀ l : List Step, (sideO b a3 l).length ≤ l.length
 | [] => Nat.le_refl _
 | s :: l => by
  rw [sideO_cons, List.length_append]
  have := sideO_len b a3 l
  split
  ·simp; omega
  ·split
   ·simp; omega
   ·simp; omega
theorem side_loop (b a3 : Int) (s : List Step) : ∀ (p : List Step) (out : List Op), (p ++ s).length < 1099511627777 → out.length ≤ p.length → Ev (fun k => swap_side.l0 k b a3 out (p ++ s) ((p ++ s).length : Int) (p.length : Int)) (out ++ sideO b a3 s) := by
 induction s with
 | nil =>
  intro p out hb ho
  refine Ev.step (fun k => rfl) ?_
  simp only [swap_side.l0, lt_end, if_false]
  rw [show sideO b a3 [] = [] from rfl, List.append_nil]
  exact Ev.now _
 | cons x s ih =>
  intro p out hb ho
  have hl := hb
  simp only [List.length_append, List.length_cons] at hl
  have i := fun out h1 => ih (p ++ [x]) out (by simpa using hb) h1
  rw [List.append_assoc, List.singleton_append] at i
  have w := wrap_len p x (by omega)
  have e : rd_Step (p ++ x :: s) (p.length : Int) = x := getD_mid p s x zStep
  have c : out.length < 4398046511104 := by omega
  rw [sideO_cons, ← List.append_assoc]
  refine Ev.step (fun k => rfl) ?_
  simp only [swap_side.l0, lt_mid, nn_nat, if_true, e]
  by_cases h0 : x.f1 = 0
  ·simp only [if_pos h0, h0, true_or, if_true]
   refine Ev.step (fun k => rfl) ?_
   simp only [swap_side.j1, Bool.false_eq_true, if_false, if_pos c, w]
   exact i _ (by simp only [List.length_append, List.length_singleton]; omega)
  ·simp only [if_neg h0]
   by_cases h1 : x.f1 = b
   ·have hb2 : (x.f1 != b) = false := bne_eq_false_iff_eq.mpr h1
    have hy : x.f1 = 0 ∨ x.f1 = b := .inr h1
    simp only [hb2, if_pos hy]
    refine Ev.step (fun k => rfl) ?_
    simp only [swap_side.j1, Bool.false_eq_true, if_false, if_pos c, w]
    exact i (out ++ [x.f0]) (by simp only [List.length_append, List.length_singleton]; omega)
   ·have hb2 : (x.f1 != b) = true := bne_iff_ne.mpr h1
    have hn : ¬ (x.f1 = 0 ∨ x.f1 = b) := by simp [h0, h1]
    simp only [hb2, if_neg hn]
    refine Ev.step (fun k => rfl) ?_
    simp only [swap_side.j1, if_true]
    by_cases ha : x.f0.f0 = a3
    ·simp only [if_pos ha, if_pos c, w]
     exact i _ (by simp only [List.length_append, List.length_singleton]; omega)
    ·simp only [if_neg ha, w, List.append_nil]
     exact i _ (by simp only [List.length_append, List.length_singleton]; omega)
theorem side_ev (b a3 : Int) {os : List Step} (h : os.length ≤ 1099511627776) : Ev (fun k => swap_side.f k os b a3) (sideO b a3 os) := by
 have := side_loop b a3 os [] [] (by simpa using (by omega : os.length < 1099511627777)) (by simp)
 rw [List.nil_append, List.nil_append] at this
 exact this
theorem touch_loop (s : List Step) : ∀ (p : List Step) (b : Int), (p ++ s).length < 1099511627777 → Ev (fun k => swap_touch.l0 k b (p ++ s) ((p ++ s).length : Int) (p.length : Int)) (touchO b s) := by
 induction s with
 | nil =>
  intro p b hb
  refine Ev.step (fun k => rfl) ?_
  simp only [swap_touch.l0, lt_end, if_false]
  exact Ev.now _
 | cons x s ih =>
  intro p b hb
  have hl := hb
  simp only [List.length_append, List.length_cons] at hl
  have i := ih (p ++ [x]) x.f1 (by simpa using hb)
  rw [List.append_assoc, List.singleton_append] at i
  have w := wrap_len p x (by omega)
  have e : rd_Step (p ++ x :: s) (p.length : Int) = x := getD_mid p s x zStep
  rw [touchO]
  refine Ev.step (fun k => rfl) ?_
  simp only [swap_touch.l0, lt_mid, nn_nat, if_true, e, w]
  cases hg : x.f2
  ·simp only [Bool.false_eq_true, if_false, Bool.false_or]
   by_cases h0 : x.f1 = 0
   ·simp only [if_pos h0]
    have : (decide (x.f1 ≠ 0) && (decide (b ≠ 0) && decide (x.f1 ≠ b))) = false := by simp [h0]
    rw [this, Bool.false_or]; exact i
   ·simp only [if_neg h0]
    by_cases hb0 : b = 0
    ·simp only [if_pos hb0]
     have : (decide (x.f1 ≠ 0) && (decide (b ≠ 0) && decide (x.f1 ≠ b))) = false := by simp [hb0]
     rw [this, Bool.false_or]; exact i
    ·simp only [if_neg hb0]
     by_cases h1 : x.f1 = b
     ·simp only [if_pos h1]
      have : (decide (x.f1 ≠ 0) && (decide (b ≠ 0) && decide (x.f1 ≠ b))) = false := by simp [h1]
      rw [this, Bool.false_or]; exact i
     ·simp only [if_neg h1]
      have : (decide (x.f1 ≠ 0) && (decide (b ≠ 0) && decide (x.f1 ≠ b))) = true := by simp [h0, hb0, h1]
      rw [this]; exact Ev.now _
  ·simp only [if_true, Bool.true_or]; exact Ev.now _
theorem touch_ev {os : List Step} (h : os.length ≤ 1099511627776) : Ev (fun k => swap_touch.f k os) (touchO 0 os) := touch_loop os [] 0 (by simpa using (by omega : os.length < 1099511627777))
def swapEnd (x y : List Op) : List Op × List Op × Int := if rightL x = true ∧ rightL y = true then (normL x, normL y, 0) else ([], [], 7)
end Go.Proofs.Ytfoponahdidddaa.P
namespace Go.Proofs.Ytfoponahdidddaa.P
open Go.RowKit Go.Proofs.YtfoponahdidddaaW.PrintWords Go.Proofs.YtfoponahdidddaaW.PrintLast Go.Proofs.YtfoponahdidddaaW.PrintMore
def kindS (s : Step) : Prop := ((s.f0.f0 = 1 ∨ s.f0.f0 = 2) → s.f1 = 0 ∧ s.f2 = false) ∧ (s.f0.f0 = 3 → s.f1 = 1 ∨ s.f1 = 2) ∧ (s.f0.f0 = 4 → s.f1 = 1 ∨ s.f1 = 2)
theorem line_kind {x y : Op} (hx : okOne x = true) (hy : okOne y = true) (x3 : x.f0 ≠ 3) (y4 : y.f0 ≠ 4) : kindS (lineL x y).2.2 := by
 have kx : x.f0 = 1 ∨ x.f0 = 2 ∨ x.f0 = 4 := by
  by_cases h : x.f0 = 1
  ·exact .inl h
  ·rcases (okOne_ne hx h).1 with h | h | h
   ·exact .inr (.inl h)
   ·exact absurd h x3
   ·exact .inr (.inr h)
 have ky : y.f0 = 1 ∨ y.f0 = 2 ∨ y.f0 = 3 := by
  by_cases h : y.f0 = 1
  ·exact .inl h
  ·rcases (okOne_ne hy h).1 with h | h | h
   ·exact .inr (.inl h)
   ·exact .inr (.inr h)
   ·exact absurd h y4
 unfold kindS
 rcases kx with kx | kx | kx <;> rcases ky with ky | ky | ky <;> simp [lineL, kx, ky]
theorem walkO_kind : ∀ (n : Nat) (ps qs : List Op) (e : Bool) (os : List Step), okX ps → okX qs → walkO n ps qs e = some os → ∀ s ∈ os, kindS s := by
 intro n
 induction n with
 | zero =>
  intro ps qs e os _ _ h
  obtain rfl : os = [] := (Option.some.inj h).symm
  exact fun s hs => by simp at hs
 | succ n ih =>
  intro ps qs e os hp hq h
  rw [walkO] at h
  have cons : ∀ (s : Step) (os' : List Step), kindS s → (∀ x ∈ os', kindS x) → (∀ x ∈ s :: os', kindS x) := by
   intro s os' hs hr x hx
   rcases List.mem_cons.mp hx with rfl | hx
   ·exact hs
   ·exact hr x hx
  split at h
  ·obtain rfl : os = [] := (Option.some.inj h).symm
   exact fun s hs => by simp at hs
  ·rename_i h0
   split at h
   ·rename_i hd
    obtain ⟨o, r, rfl, hk⟩ := hdK_iff.mp hd
    obtain ⟨os', h', rfl⟩ := Option.map_eq_some_iff.mp h
    exact cons _ _ ⟨fun h => by exact absurd (show o.f0 = 1 ∨ o.f0 = 2 from h) (by omega), fun _ => .inl rfl, fun _ => .inl rfl⟩ (ih r qs e os' (fun x hx => hp x (List.mem_cons_of_mem _ hx)) hq h')
   ·rename_i hd
    split at h
    ·rename_i hi
     obtain ⟨o, r, rfl, hk⟩ := hdK_iff.mp hi
     obtain ⟨os', h', rfl⟩ := Option.map_eq_some_iff.mp h
     exact cons _ _ ⟨fun h => by exact absurd (show o.f0 = 1 ∨ o.f0 = 2 from h) (by omega), fun _ => .inr rfl, fun _ => .inr rfl⟩ (ih ps r e os' hp (fun x hx => hq x (List.mem_cons_of_mem _ hx)) h')
    ·rename_i hi
     split at h
     ·simp at h
     ·obtain ⟨os', h', rfl⟩ := Option.map_eq_some_iff.mp h
      obtain ⟨d1, _⟩ := drop_both hp.all hq.all h0
      refine cons _ _ (line_kind (nextL_okX hp).1 (nextL_okX hq).1 ?_ ?_) (ih _ _ _ os' (hp.drop d1) (hq.drop d1) h')
      ·intro h3
       cases ps with
       | nil => exact absurd h3 (by decide)
       | cons o r => exact hd (hdK_iff.mpr ⟨o, r, rfl, h3⟩)
      ·intro h3
       cases qs with
       | nil => exact absurd h3 (by decide)
       | cons o r => exact hi (hdK_iff.mpr ⟨o, r, rfl, h3⟩)
theorem side_ok {b a3 : Int} {os : List Step} (has : a3 = 3 ∨ a3 = 4) (h : ∀ s ∈ os, goodS s) : ∀ o ∈ sideO b a3 os, okOne o = true ∧ o.f2.size < 1073741824 := by
 intro o ho
 obtain ⟨s, hs, ho⟩ := List.mem_flatMap.mp ho
 have hg := (h s hs).1
 split at ho
 ·rw [List.mem_singleton.mp ho]; exact hg
 ·split at ho
  ·rename_i hk
   rw [List.mem_singleton.mp ho]
   refine ⟨?_, hg.2⟩
   obtain ⟨_, h1, h2⟩ := okOne_ne hg.1 (by omega)
   unfold okOne
   simp [h1, h2]
  ·simp at ho
def swapS (os : List Step) : List Op × List Op × Int := if rightL (stepsL os) = false then ([], [], 6) else if touchO 0 os = true then ([], [], 7) else swapEnd (sideO 2 3 os) (sideO 1 4 os)
def swapL (p q : List Op) : List Op × List Op × Int := if rightL p = true ∧ rightL q = true then (match walkO (p.length + q.length) p q false with | none => ([], [], 6) | some os => swapS os) else ([], [], 1)
theorem pend_ev {x y : List Op} (hx : Sm x) (hy : Sm y) : Ev (fun k => (ops_Right.f k x).bind fun t206 => if t206 = true then ((ops_Right.f k y).bind fun t207 => swap_Ops.j1 k x y (!t207)) else swap_Ops.j1 k x y true) (swapEnd x y) := by
 have no : Ev (fun k => swap_Ops.j1 k x y true) ([], [], 7) := by
  refine Ev.step (fun k => rfl) ?_
  simp only [swap_Ops.j1, if_true]
  exact Ev.now _
 unfold swapEnd
 refine Ev.bind' (right_ev hx) ?_
 cases rx : rightL x
 ·simp only [Bool.false_eq_true, if_false, false_and]; exact no
 simp only [if_true, true_and]
 refine Ev.bind' (right_ev hy) ?_
 cases ry : rightL y
 ·simp only [Bool.not_false, Bool.false_eq_true, if_false]; exact no
 simp only [Bool.not_true, if_true]
 refine Ev.step (fun k => rfl) ?_
 simp only [swap_Ops.j1, Bool.false_eq_true, if_false]
 refine Ev.bind' (norm_ev hx) ?_
 refine Ev.bind' (norm_ev hy) ?_
 simp only [rx, ry, if_true]
 exact Ev.now _
theorem sm_side {b a3 : Int} {os : List Step} (has : a3 = 3 ∨ a3 = 4) (h : ∀ s ∈ os, goodS s) (hl : os.length ≤ 1099511627776) : Sm (sideO b a3 os) := by
 refine ⟨by have := sideO_len b a3 os; omega, fun o ho => by have := (side_ok has h o ho).2; omega⟩
theorem walk_val {p q : List Op} (hp : Sx p) (hq : Sx q) (rp : rightL p = true) (rq : rightL q = true) :
  Ev (fun k => compose_Walk.f k p q) (match walkO (p.length + q.length) p q false with | none => ([], false) | some os => if rightL (stepsL os) = true then (os, true) else ([], false)) := by
 have hlen : p.length + q.length ≤ 1099511627776 := by have := hp.1; have := hq.1; omega
 have hW := okW_of (rightL_okX rp hp) (rightL_okX rq hq) hlen
 refine Ev.bind' (right_ev hp.sm) ?_
 simp only [rp, if_true]
 refine Ev.bind' (right_ev hq.sm) ?_
 simp only [rq, if_true, hW]
 rcases walk_then hp hq rp rq with ⟨hw, e⟩ | ⟨os, hw, _, g1, g2, he, hf, hsm, hsk, hr, e⟩
 ·simp only [hw]; exact Ev.now _
 ·simp only [hw]
  refine Ev.bind' (told_ev (os := os) (by omega) hsm) ?_
  cases rightL (stepsL os)
  ·simp only [Bool.false_eq_true, if_false]; exact Ev.now _
  ·simp only [if_true]; exact Ev.now _
theorem pswap_ev {p q : List Op} (hp : Sx p) (hq : Sx q) : Ev (fun k => swap_Ops.f k p q) (swapL p q) := by
 have hlen : p.length + q.length ≤ 1099511627776 := by have := hp.1; have := hq.1; omega
 have no : Ev (fun k => swap_Ops.j0 k p q true) ([], [], 1) := by
  refine Ev.step (fun k => rfl) ?_
  simp only [swap_Ops.j0, if_true]
  exact Ev.now _
 unfold swapL
 refine Ev.bind' (right_ev hp.sm) ?_
 cases rp : rightL p
 ·simp only [Bool.false_eq_true, if_false, false_and]; exact no
 simp only [if_true, true_and]
 refine Ev.bind' (right_ev hq.sm) ?_
 cases rq : rightL q
 ·simp only [Bool.not_false, Bool.false_eq_true, if_false]; exact no
 simp only [Bool.not_true, if_true]
 refine Ev.step (fun k => rfl) ?_
 simp only [swap_Ops.j0, Bool.false_eq_true, if_false]
 refine Ev.bind' (walk_val hp hq rp rq) ?_
 rcases walk_then hp hq rp rq with ⟨hw, e⟩ | ⟨os, hw, _, g1, g2, he, hf, hsm, hsk, hr, e⟩
 ·simp only [hw, Bool.false_eq_true, if_false]; exact Ev.now _
 ·simp only [hw]
  unfold swapS
  cases rs : rightL (stepsL os)
  ·simp only [Bool.false_eq_true, if_false, if_true]; exact Ev.now _
  ·simp only [if_true]
   refine Ev.bind' (side_ev 2 3 (os := os) (by omega)) ?_
   refine Ev.bind' (side_ev 1 4 (os := os) (by omega)) ?_
   refine Ev.bind' (touch_ev (os := os) (by omega)) ?_
   cases touchO 0 os
   ·simp only [Bool.false_eq_true, if_false]
    exact pend_ev (sm_side (.inl rfl) g1 (by omega)) (sm_side (.inr rfl) g1 (by omega))
   ·simp only [if_true]
    refine Ev.step (fun k => rfl) ?_
    simp only [swap_Ops.j1, if_true]
    exact Ev.now _
end Go.Proofs.Ytfoponahdidddaa.P
namespace Go.Proofs.Ytfoponahdidddaa.P
open Go.RowKit Go.Proofs.YtfoponahdidddaaW.PrintWords Go.Proofs.YtfoponahdidddaaW.PrintLast Go.Proofs.YtfoponahdidddaaW.PrintMore
theorem nf_idem (u : List U) : nf [] (nf [] u) = nf [] u := by
 have := nf_nf u [] [] .nil
 simpa using this
theorem norm_small {l : List Op} {B : Nat} (hB : 0 < B) (h : ∀ o ∈ l, o.f2.size < B) : ∀ o ∈ normL l, o.f2.size < B := by
 intro o ho
 have he : ByteArray.empty.size = 0 := rfl
 rcases tx_pack _ o ho with e | ⟨x, hx, e⟩
 ·rw [e, he]; exact hB
 ·rcases nf_mem _ _ x hx with hx | hx
  ·simp at hx
  ·rcases tx_ex hx with e2 | ⟨y, hy, e2⟩
   ·rw [e, e2, he]; exact hB
   ·rw [e, e2]; exact h y hy
theorem norm_len {l : List Op} (h : ∀ o ∈ l, formO o) : (normL l).length ≤ l.length := by
 have := nf_pack_len l [] h
 simpa [normL] using this
end Go.Proofs.Ytfoponahdidddaa.P
namespace Go.Proofs.Ytfoponahdidddaa.P
open Go.RowKit Go.Proofs.YtfoponahdidddaaW.PrintWords Go.Proofs.YtfoponahdidddaaW.PrintLast Go.Proofs.YtfoponahdidddaaW.PrintMore
theorem fst_skips : ∀ (n : Nat) (W : List TU), fstT (List.replicate n ((.skip, 0) : TU) ++ W) = List.replicate n .skip ++ fstT W
 | 0, W => by simp
 | n + 1, W => by rw [List.replicate_succ, List.cons_append, fstT, fst_skips n W]; rfl
theorem snd_skips : ∀ (n : Nat) (W : List TU), sndT (List.replicate n ((.skip, 0) : TU) ++ W) = List.replicate n .skip ++ sndT W
 | 0, W => by simp
 | n + 1, W => by rw [List.replicate_succ, List.cons_append, sndT, snd_skips n W]; rfl
theorem touch_skips : ∀ (n : Nat) (b : Int) (W : List TU), touchT b (List.replicate (n + 1) ((.skip, 0) : TU) ++ W) = touchT 0 W
 | 0, b, W => by rw [List.replicate_succ, List.cons_append, touchT]; simp
 | n + 1, b, W => by
  rw [List.replicate_succ, List.cons_append, touchT]
  show (_ || touchT 0 (List.replicate (n + 1) ((.skip, 0) : TU) ++ W)) = _
  rw [touch_skips n 0 W]; simp
theorem step_lines {s : Step} (h : goodS s) (hk : kindS s) (h2 : s.f2 = false) :
  (s.f0.f0 = 1 ∧ s.f1 = 0 ∧ ∃ n, exO s.f0 = List.replicate (n + 1) .skip) ∨ (s.f0.f0 = 2 ∧ s.f1 = 0 ∧ exO s.f0 = [.keep s.f0.f2]) ∨ (s.f0.f0 = 3 ∧ (s.f1 = 1 ∨ s.f1 = 2) ∧ exO s.f0 = [.del s.f0.f2]) ∨ (s.f0.f0 = 4 ∧ (s.f1 = 1 ∨ s.f1 = 2) ∧ exO s.f0 = [.ins s.f0.f2]) := by
 have ho := h.1.1
 by_cases h1 : s.f0.f0 = 1
 ·obtain ⟨a, b, c⟩ := okOne_skip ho h1
  refine .inl ⟨h1, (hk.1 (.inl h1)).1, (s.f0.f1 - 1).toNat, ?_⟩
  rw [exO_skip h1]
  congr 1; omega
 ·rcases (okOne_ne ho h1).1 with e | e | e
  ·exact .inr (.inl ⟨e, (hk.1 (.inr e)).1, by simp [exO, e]⟩)
  ·exact .inr (.inr (.inl ⟨e, hk.2.1 e, by simp [exO, e]⟩))
  ·exact .inr (.inr (.inr ⟨e, hk.2.2 e, by simp [exO, e]⟩))
theorem met_cons {s : Step} {os : List Step} : metS (s :: os) = false ↔ s.f2 = false ∧ metS os = false := by
 simp [metS]
theorem sides_ex : ∀ (os : List Step), metS os = false → (∀ s ∈ os, goodS s) → (∀ s ∈ os, kindS s) →
  ex (sideO 2 3 os) = fstT (exS os) ∧ ex (sideO 1 4 os) = sndT (exS os) ∧ ∀ b, touchO b os = touchT b (exS os)
 | [], _, _, _ => ⟨rfl, rfl, fun _ => rfl⟩
 | s :: os, hm, hg, hk => by
  obtain ⟨h2, hm'⟩ := met_cons.mp hm
  obtain ⟨i1, i2, i3⟩ := sides_ex os hm' (fun x hx => hg x (List.mem_cons_of_mem _ hx)) (fun x hx => hk x (List.mem_cons_of_mem _ hx))
  have e : exS (s :: os) = (exO s.f0).map (fun u => ((u, s.f1) : TU)) ++ exS os := by
   rw [exS_cons, h2]; simp
  rw [sideO_cons, sideO_cons, ex_app, ex_app, i1, i2, e]
  have t : ∀ b, touchO b (s :: os) = ((decide (s.f1 ≠ 0) && (decide (b ≠ 0) && decide (s.f1 ≠ b))) || touchT s.f1 (exS os)) := by
   intro b
   rw [touchO, h2, i3]; rfl
  rcases step_lines (hg s (List.mem_cons_self ..)) (hk s (List.mem_cons_self ..)) h2 with ⟨k, f, n, x⟩ | ⟨k, f, x⟩ | ⟨k, f, x⟩ | ⟨k, f, x⟩
  ·have hmap : (List.replicate (n + 1) U.skip).map (fun u => ((u, s.f1) : TU)) = List.replicate (n + 1) ((.skip, 0) : TU) := by rw [List.map_replicate, f]
   rw [if_pos (.inl f), if_pos (.inl f), x, hmap, fst_skips, snd_skips]
   refine ⟨by simp [ex, x], by simp [ex, x], fun b => ?_⟩
   rw [t b, touch_skips, f]; simp
  ·rw [if_pos (.inl f), if_pos (.inl f), x]
   refine ⟨by simp [ex, x, f, fstT], by simp [ex, x, f, sndT], fun b => ?_⟩
   rw [t b]; rfl
  ·rw [x]
   rcases f with f | f
   ·rw [if_neg (by omega), if_pos k, if_pos (.inr f)]
    refine ⟨?_, ?_, fun b => ?_⟩
    ·show ex [⟨2, s.f0.f1, s.f0.f2⟩] ++ fstT (exS os) = fstT ((.del s.f0.f2, s.f1) :: exS os)
     rw [f, fst_d1]; simp [ex, exO]
    ·show ex [s.f0] ++ sndT (exS os) = sndT ((.del s.f0.f2, s.f1) :: exS os)
     rw [f, snd_d1]; simp [ex, x]
    ·rw [t b]; rfl
   ·rw [if_pos (.inr f), if_neg (by omega), if_neg (by omega)]
    refine ⟨?_, ?_, fun b => ?_⟩
    ·show ex [s.f0] ++ fstT (exS os) = fstT ((.del s.f0.f2, s.f1) :: exS os)
     rw [f, fst_d2]; simp [ex, x]
    ·show ex [] ++ sndT (exS os) = sndT ((.del s.f0.f2, s.f1) :: exS os)
     rw [f, snd_d2]; rfl
    ·rw [t b]; rfl
  ·rw [x]
   rcases f with f | f
   ·rw [if_neg (by omega), if_neg (by omega), if_pos (.inr f)]
    refine ⟨?_, ?_, fun b => ?_⟩
    ·show ex [] ++ fstT (exS os) = fstT ((.ins s.f0.f2, s.f1) :: exS os)
     rw [f, fst_i1]; rfl
    ·show ex [s.f0] ++ sndT (exS os) = sndT ((.ins s.f0.f2, s.f1) :: exS os)
     rw [f, snd_i1]; simp [ex, x]
    ·rw [t b]; rfl
   ·rw [if_pos (.inr f), if_neg (by omega), if_pos k]
    refine ⟨?_, ?_, fun b => ?_⟩
    ·show ex [s.f0] ++ fstT (exS os) = fstT ((.ins s.f0.f2, s.f1) :: exS os)
     rw [f, fst_i2]; simp [ex, x]
    ·show ex [⟨2, s.f0.f1, s.f0.f2⟩] ++ sndT (exS os) = sndT ((.ins s.f0.f2, s.f1) :: exS os)
     rw [f, snd_i2]; simp [ex, exO]
    ·rw [t b]; rfl
theorem met_no3 : ∀ (os : List Step), (∀ s ∈ os, goodS s) → (no3 (exS os) ↔ metS os = false)
 | [], _ => ⟨fun _ => rfl, fun _ x hx => by simp [exS] at hx⟩
 | s :: os, hg => by
  have i := met_no3 os fun x hx => hg x (List.mem_cons_of_mem _ hx)
  have h1 := hg s (List.mem_cons_self ..)
  have hne : exO s.f0 ≠ [] := by
   by_cases hk : s.f0.f0 = 1
   ·rw [exO_skip hk, replicate_toNat (okOne_skip h1.1.1 hk).1]; simp
   ·rw [exO_ne hk]; simp
  rw [met_cons, exS_cons]
  constructor
  ·intro h
   refine ⟨?_, i.mp fun x hx => h x (List.mem_append_right _ hx)⟩
   cases h2 : s.f2
   ·rfl
   ·exfalso
    rw [h2] at h
    cases hx : exO s.f0 with
    | nil => exact hne hx
    | cons u r => exact h (u, 3) (by rw [hx]; simp) rfl
  ·rintro ⟨h2, h3⟩ x hx
   rcases List.mem_append.mp hx with hx | hx
   ·obtain ⟨u, _, rfl⟩ := List.mem_map.mp hx
    rw [h2]
    show s.f1 ≠ 3
    have := h1.2
    omega
   ·exact i.mpr h3 x hx
theorem swap_val {p q : List Op} (hp : Sx p) (hq : Sx q) (rp : rightL p = true) (rq : rightL q = true) {W : List TU} (hW : cmpT (ex p) false (ex q) = some W) :
  (rightU (un W) = false → swapL p q = ([], [], 6)) ∧ (rightU (un W) = true → (¬ no3 W → swapL p q = ([], [], 7)) ∧ (no3 W → (touchT 0 W = true → swapL p q = ([], [], 7)) ∧
   (touchT 0 W = false → swapL p q = if rightU (fstT W) = true ∧ rightU (sndT W) = true then (pack (nf [] (fstT W)), pack (nf [] (sndT W)), 0) else ([], [], 7)))) := by
 unfold swapL
 rw [if_pos ⟨rp, rq⟩]
 rcases walk_then hp hq rp rq with ⟨hw, _⟩ | ⟨os, hw, hc, g1, g2, he, hf, hsm, hsk, hr, _⟩
 ·exfalso
  have hc := walkO_cmp (p.length + q.length) p q false (Nat.le_refl _) (rightL_okX rp hp).all (rightL_okX rq hq).all
  rw [hw, hW] at hc
  simp at hc
 ·rw [hW] at hc
  obtain rfl := Option.some.inj hc
  have ks := walkO_kind _ _ _ _ _ (rightL_okX rp hp) (rightL_okX rq hq) hw
  simp only [hw]
  unfold swapS
  rw [hr]
  refine ⟨fun h => by rw [if_pos h], fun h => ?_⟩
  rw [if_neg (by rw [h]; simp)]
  refine ⟨fun h3 => ?_, fun h3 => ?_⟩
  ·have : metS os = true := by
    cases hm : metS os
    ·exact absurd ((met_no3 os g1).mpr hm) h3
    ·rfl
   rw [if_pos (touch_met os 0 this)]
  ·have hm := (met_no3 os g1).mp h3
   obtain ⟨s1, s2, s3⟩ := sides_ex os hm g1 ks
   rw [s3 0]
   refine ⟨fun ht => by rw [if_pos ht], fun ht => ?_⟩
   rw [if_neg (by rw [ht]; simp)]
   unfold swapEnd
   have f1 : ∀ o ∈ sideO 2 3 os, formO o := fun o ho => form_of (side_ok (.inl rfl) g1 o ho).1
   have f2 : ∀ o ∈ sideO 1 4 os, formO o := fun o ho => form_of (side_ok (.inr rfl) g1 o ho).1
   rw [right_iff f1, right_iff f2]
   unfold normL
   rw [s1, s2]
theorem swap_none {p q : List Op} (hp : Sx p) (hq : Sx q) (rp : rightL p = true) (rq : rightL q = true) (hW : cmpT (ex p) false (ex q) = none) : swapL p q = ([], [], 6) := by
 unfold swapL
 rw [if_pos ⟨rp, rq⟩]
 rcases walk_then hp hq rp rq with ⟨hw, _⟩ | ⟨os, hw, hc, _⟩
 ·simp only [hw]
 ·rw [hW] at hc; simp at hc
theorem swap_told {p q : List Op} (hp : Sx p) (hq : Sx q) (h : (swapL p q).2.2 = 0) : ∃ W, rightL p = true ∧ rightL q = true ∧ cmpT (ex p) false (ex q) = some W ∧ no3 W ∧ touchT 0 W = false ∧ rightU (un W) = true ∧ rightU (fstT W) = true ∧ rightU (sndT W) = true ∧
  swapL p q = (pack (nf [] (fstT W)), pack (nf [] (sndT W)), 0) := by
 by_cases hr : rightL p = true ∧ rightL q = true
 ·obtain ⟨rp, rq⟩ := hr
  cases hW : cmpT (ex p) false (ex q) with
  | none => rw [swap_none hp hq rp rq hW] at h; simp at h
  | some W =>
   obtain ⟨v1, v2⟩ := swap_val hp hq rp rq hW
   cases ru : rightU (un W)
   ·rw [v1 ru] at h; simp at h
   ·obtain ⟨v3, v4⟩ := v2 ru
    by_cases h3 : no3 W
    ·obtain ⟨v5, v6⟩ := v4 h3
     cases ht : touchT 0 W
     ·have v := v6 ht
      by_cases hs : rightU (fstT W) = true ∧ rightU (sndT W) = true
      ·rw [if_pos hs] at v
       exact ⟨W, rp, rq, rfl, h3, ht, ru, hs.1, hs.2, v⟩
      ·rw [if_neg hs] at v
       rw [v] at h; simp at h
     ·rw [v5 ht] at h; simp at h
    ·rw [v3 h3] at h; simp at h
 ·unfold swapL at h
  rw [if_neg hr] at h; simp at h
theorem swap_not {p q : List Op} (h : (swapL p q).2.2 ≠ 0) : (swapL p q).1 = [] ∧ (swapL p q).2.1 = [] := by
 unfold swapL at h ⊢
 split
 ·rename_i c
  rw [if_pos c] at h
  cases hw : walkO (p.length + q.length) p q false with
  | none => exact ⟨rfl, rfl⟩
  | some os =>
   rw [hw] at h
   simp only at h ⊢
   unfold swapS at h ⊢
   split
   ·exact ⟨rfl, rfl⟩
   ·rename_i c1
    rw [if_neg c1] at h
    split
    ·exact ⟨rfl, rfl⟩
    ·rename_i c2
     rw [if_neg c2] at h
     unfold swapEnd at h ⊢
     split
     ·rename_i c3
      rw [if_pos c3] at h
      exact absurd rfl h
     ·exact ⟨rfl, rfl⟩
 ·exact ⟨rfl, rfl⟩
theorem swap_len {p q : List Op} (hp : Sx p) (hq : Sx q) : ((swapL p q).1.length ≤ p.length + q.length ∧ ∀ o ∈ (swapL p q).1, o.f2.size < 1073741824) ∧ ((swapL p q).2.1.length ≤ p.length + q.length ∧ ∀ o ∈ (swapL p q).2.1, o.f2.size < 1073741824) := by
 by_cases h : (swapL p q).2.2 = 0
 ·obtain ⟨W, rp, rq, hW, h3, ht, r1, r2, r3, e⟩ := swap_told hp hq h
  rcases walk_then hp hq rp rq with ⟨hw, _⟩ | ⟨os, hw, hc, g1, g2, he, hf, hsm, hsk, hr, _⟩
  ·exfalso
   have hc := walkO_cmp (p.length + q.length) p q false (Nat.le_refl _) (rightL_okX rp hp).all (rightL_okX rq hq).all
   rw [hw, hW] at hc
   simp at hc
  ·rw [hW] at hc
   obtain rfl := Option.some.inj hc
   have ks := walkO_kind _ _ _ _ _ (rightL_okX rp hp) (rightL_okX rq hq) hw
   obtain ⟨s1, s2, s3⟩ := sides_ex os ((met_no3 os g1).mp h3) g1 ks
   rw [e, ← s1, ← s2]
   have k1 := side_ok (b := 2) (a3 := 3) (.inl rfl) g1
   have k2 := side_ok (b := 1) (a3 := 4) (.inr rfl) g1
   have l1 := sideO_len 2 3 os
   have l2 := sideO_len 1 4 os
   have n1 := norm_len (l := sideO 2 3 os) fun o ho => form_of (k1 o ho).1
   have n2 := norm_len (l := sideO 1 4 os) fun o ho => form_of (k2 o ho).1
   exact ⟨⟨by show (normL _).length ≤ _; omega, norm_small (by omega) fun o ho => (k1 o ho).2⟩, by show (normL _).length ≤ _; omega, norm_small (by omega) fun o ho => (k2 o ho).2⟩
 ·obtain ⟨a, b⟩ := swap_not h
  rw [a, b]
  exact ⟨⟨by simp, by simp⟩, by simp, by simp⟩
theorem Sx.swap {p q : List Op} (hp : Sx p) (hq : Sx q) (h : p.length + q.length ≤ 274877906944) : Sx (swapL p q).1 ∧ Sx (swapL p q).2.1 := by
 obtain ⟨⟨a, b⟩, c, d⟩ := swap_len hp hq
 exact ⟨⟨by omega, b⟩, by omega, d⟩
theorem num_val (x : Int) : patchworklaw15_num.f x = some x := rfl
theorem alive15 : Ev (fun k => patchworklaw15_alive.f k) true := by
 have s0 : Sx [] := ⟨by simp, by simp⟩
 have s1 : Sx [(⟨4, 0, ⟨#[97, 10]⟩⟩ : Op)] := ⟨by simp, fun o ho => by rw [List.mem_singleton.mp ho]; exact (by decide : (2 : Nat) < 1073741824)⟩
 have s2 : Sx [(⟨1, 3, ⟨#[]⟩⟩ : Op), ⟨4, 0, ⟨#[98, 10]⟩⟩] := ⟨by simp, fun o ho => by
  rcases List.mem_cons.mp ho with rfl | ho
  ·exact (by decide : (0 : Nat) < 1073741824)
  ·rw [List.mem_singleton.mp ho]; exact (by decide : (2 : Nat) < 1073741824)⟩
 have e0 : swapL [] [] = ([], [], 0) := by decide +kernel
 have e1 : swapL [(⟨4, 0, ⟨#[97, 10]⟩⟩ : Op)] [(⟨1, 3, ⟨#[]⟩⟩ : Op), ⟨4, 0, ⟨#[98, 10]⟩⟩] = ([⟨1, 2, ⟨#[]⟩⟩, ⟨4, 0, ⟨#[98, 10]⟩⟩], [⟨4, 0, ⟨#[97, 10]⟩⟩, ⟨1, 2, ⟨#[]⟩⟩, ⟨2, 0, ⟨#[98, 10]⟩⟩], 0) := by decide +kernel
 have a0 := pswap_ev s0 s0
 have a1 := pswap_ev s1 s2
 rw [e0] at a0
 rw [e1] at a1
 unfold patchworklaw15_alive.f
 refine Ev.bind' a0 ?_
 refine Ev.bind' a1 ?_
 exact Ev.now _
end Go.Proofs.Ytfoponahdidddaa.P
namespace Go.Proofs.Ytfoponahdidddaa.P
open Go.RowKit Go.Proofs.YtfoponahdidddaaW.PrintWords Go.Proofs.YtfoponahdidddaaW.PrintLast Go.Proofs.YtfoponahdidddaaW.PrintMore
def nearF (a : Int) : Int → List Op → Bool
 | _, [] => false
 | n, o :: s => if chO o = true then decide (n < a) else if o.f0 = 1 then false else nearF a (n + 1) s
theorem near_fore {a : Int} (s : List Op) : ∀ (p : List Op) (n : Nat), Sm (p ++ s) → n ≤ p.length → Ev (fun k => patchworkref8_near.l0 k (p ++ s) 1 a (n : Int) (p.length : Int)) (nearF a n s) := by
 induction s with
 | nil =>
  intro p n hb hn
  have c : (p.length : Int) ≥ 0 := by omega
  refine Ev.step (fun k => rfl) ?_
  simp only [patchworkref8_near.l0, if_pos c, lt_end, decide_false]
  refine Ev.step (fun k => rfl) ?_
  simp only [patchworkref8_near.j1, Bool.false_eq_true, if_false]
  exact Ev.now _
 | cons o s ih =>
  intro p n hb hn
  have hl := hb.len
  have i := ih (p ++ [o]) (n + 1) hb.snoc (by rw [len_snoc]; omega)
  rw [List.append_assoc, List.singleton_append] at i
  have c : (p.length : Int) ≥ 0 := by omega
  have w1 := wrap_len p o (by omega)
  have w2 : wrap64 ((n : Int) + 1) = ((n + 1 : Nat) : Int) := by rw [wrap_small (by omega) (by omega)]; omega
  refine Ev.step (fun k => rfl) ?_
  simp only [patchworkref8_near.l0, if_pos c, lt_mid, decide_true]
  refine Ev.step (fun k => rfl) ?_
  simp only [patchworkref8_near.j1, if_true, nn_nat, lt_mid, rdOp_mid, change_val, Option.bind_some, w1, w2]
  rw [nearF]
  cases chO o
  ·simp only [Bool.false_eq_true, if_false]
   by_cases hk : o.f0 = 1
   ·simp only [if_pos hk]; exact Ev.now _
   ·simp only [if_neg hk]; exact i
  ·simp only [if_true]; exact Ev.now _
theorem near_back {a : Int} (r : List Op) : ∀ (s : List Op) (n : Nat), Sm (r.reverse ++ s) → n ≤ s.length → Ev (fun k => patchworkref8_near.l0 k (r.reverse ++ s) (-1) a (n : Int) ((r.length : Int) - 1)) (nearF a n r) := by
 induction r with
 | nil =>
  intro s n hb hn
  have c : ¬ (([] : List Op).length : Int) - 1 ≥ 0 := by simp
  refine Ev.step (fun k => rfl) ?_
  simp only [patchworkref8_near.l0, if_neg c]
  refine Ev.step (fun k => rfl) ?_
  simp only [patchworkref8_near.j1, Bool.false_eq_true, if_false]
  exact Ev.now _
 | cons o r ih =>
  intro s n hb hn
  have e : (o :: r).reverse ++ s = r.reverse ++ o :: s := by simp
  rw [e] at hb ⊢
  have hl := hb.1
  simp only [List.length_append, List.length_cons, List.length_reverse] at hl
  have i := ih (o :: s) (n + 1) hb (by simp only [List.length_cons]; omega)
  have ln : ((o :: r).length : Int) - 1 = (r.reverse.length : Int) := by rw [List.length_cons, List.length_reverse]; omega
  have c : (r.reverse.length : Int) ≥ 0 := by omega
  have w1 : wrap64 ((r.reverse.length : Int) + -1) = (r.length : Int) - 1 := by rw [List.length_reverse, wrap_small (by omega) (by omega)]; omega
  have w2 : wrap64 ((n : Int) + 1) = ((n + 1 : Nat) : Int) := by rw [wrap_small (by omega) (by omega)]; omega
  rw [ln]
  refine Ev.step (fun k => rfl) ?_
  simp only [patchworkref8_near.l0, if_pos c, lt_mid, decide_true]
  refine Ev.step (fun k => rfl) ?_
  simp only [patchworkref8_near.j1, if_true, nn_nat, lt_mid, rdOp_mid, change_val, Option.bind_some, w1, w2]
  rw [nearF]
  cases chO o
  ·simp only [Bool.false_eq_true, if_false]
   by_cases hk : o.f0 = 1
   ·simp only [if_pos hk]; exact Ev.now _
   ·simp only [if_neg hk]; exact i
  ·simp only [if_true]; exact Ev.now _
def trimO (a : Int) : List Op → List Op → List Op
 | _, [] => []
 | r, o :: s => (if o.f0 = 2 ∧ nearF a 0 s = false ∧ nearF a 0 r = false then ⟨1, 1, ⟨#[]⟩⟩ else o) :: trimO a (o :: r) s
theorem trim_len (a : Int) : ∀ (s r : List Op), (trimO a r s).length = s.length
 | [], _ => rfl
 | o :: s, r => by rw [trimO, List.length_cons, List.length_cons, trim_len a s]
theorem reftrim_loop {a : Int} (s : List Op) : ∀ (r out v : List Op), Sm (r.reverse ++ s) → out.length ≤ r.length →
  Ev (fun k => (patchworkref8_norm.f k (out ++ trimO a r s)).bind fun t514 => ((patchworkref8_Rest.f k t514).bind fun t517 => (some t517))) v →
  Ev (fun k => patchworkref8_Trim.l0 k (r.reverse ++ s) a out (r.length : Int)) v := by
 induction s with
 | nil =>
  intro r out v hb ho hv
  have e : (r.length : Int) = (r.reverse.length : Int) := by rw [List.length_reverse]
  rw [e]
  refine Ev.step (fun k => rfl) ?_
  simp only [patchworkref8_Trim.l0, lt_end, if_false]
  rw [trimO, List.append_nil] at hv
  exact hv
 | cons o s ih =>
  intro r out v hb ho hv
  have hl := hb.1
  simp only [List.length_append, List.length_cons, List.length_reverse] at hl
  have e : (r.length : Int) = (r.reverse.length : Int) := by rw [List.length_reverse]
  have i := fun x h => ih (o :: r) (out ++ [x]) v (by simpa using hb) (by rw [len_snoc, List.length_cons]; omega) h
  have e2 : (o :: r).reverse ++ s = r.reverse ++ o :: s := by simp
  rw [e2] at i
  have e3 : ((o :: r).length : Int) = ((r.reverse ++ [o]).length : Int) := by simp
  rw [e3] at i
  have w : wrap64 ((r.reverse.length : Int) + 1) = ((r.reverse ++ [o]).length : Int) := wrap_len _ _ (by rw [List.length_reverse]; omega)
  have hlo : out.length < 4398046511104 := by omega
  rw [trimO] at hv
  rw [e]
  refine Ev.step (fun k => rfl) ?_
  simp only [patchworkref8_Trim.l0, lt_mid, nn_nat, if_true, rdOp_mid, w, if_pos hlo]
  by_cases hk : o.f0 = 2
  ·simp only [if_pos hk]
   have f1 : Ev (fun k => patchworkref8_near.f k (r.reverse ++ o :: s) (r.reverse.length : Int) 1 a) (nearF a 0 s) := by
    have := near_fore (a := a) s (r.reverse ++ [o]) 0 hb.snoc (Nat.zero_le _)
    rw [List.append_assoc, List.singleton_append, ← w] at this
    exact this
   have f2 : Ev (fun k => patchworkref8_near.f k (r.reverse ++ o :: s) (r.reverse.length : Int) (-1) a) (nearF a 0 r) := by
    have := near_back (a := a) r (o :: s) 0 hb (Nat.zero_le _)
    have w2 : wrap64 ((r.reverse.length : Int) + -1) = (r.length : Int) - 1 := by rw [List.length_reverse, wrap_small (by omega) (by omega)]; omega
    rw [← w2] at this
    exact this
   refine Ev.bind' f1 ?_
   cases n1 : nearF a 0 s
   ·simp only [Bool.false_eq_true, if_false]
    refine Ev.bind' f2 ?_
    cases n2 : nearF a 0 r
    ·rw [if_pos ⟨hk, n1, n2⟩] at hv
     simp only [Bool.false_eq_true, if_false]
     refine i _ ?_
     rw [List.append_assoc, List.singleton_append]
     exact hv
    ·rw [if_neg (by rw [n2]; simp)] at hv
     simp only [if_true]
     refine i _ ?_
     rw [List.append_assoc, List.singleton_append]
     exact hv
   ·rw [if_neg (by rw [n1]; simp)] at hv
    simp only [if_true]
    refine i _ ?_
    rw [List.append_assoc, List.singleton_append]
    exact hv
  ·rw [if_neg (fun h => hk h.1)] at hv
   simp only [if_neg hk]
   refine i _ ?_
   rw [List.append_assoc, List.singleton_append]
   exact hv
theorem trim_form (a : Int) : ∀ (s r : List Op), (∀ o ∈ s, formO o) → (∀ o ∈ trimO a r s, formO o) ∧ skips (trimO a r s) ≤ (sums 3 s : Int)
 | [], r, _ => ⟨fun o ho => by simp [trimO] at ho, by rw [trimO, skips_nil]; simp [sums]⟩
 | o :: s, r, h => by
  obtain ⟨i1, i2⟩ := trim_form a s (o :: r) fun x hx => h x (List.mem_cons_of_mem _ hx)
  have ho := h o (List.mem_cons_self ..)
  rw [trimO, skips_cons, sums_cons]
  have fs : formO ⟨1, 1, ⟨#[]⟩⟩ := form_of (by decide)
  refine ⟨fun x hx => ?_, ?_⟩
  ·rcases List.mem_cons.mp hx with rfl | hx
   ·split
    ·exact fs
    ·exact ho
   ·exact i1 x hx
  ·have c := skips_le 3 (l := [o]) (fun x hx => by rw [List.mem_singleton.mp hx]; exact ho)
   rw [skips_cons, skips_nil, sums_cons, sums_nil] at c
   split
   ·rename_i hc
    have : cnt 3 o = 1 := by unfold cnt; rw [if_neg (by omega), if_pos (.inl hc.1)]
    simp only [if_true]
    omega
   ·omega
theorem trim_small {B : Nat} (hB : 0 < B) (a : Int) : ∀ (s r : List Op), (∀ o ∈ s, o.f2.size < B) → ∀ o ∈ trimO a r s, o.f2.size < B
 | [], r, _ => fun o ho => by simp [trimO] at ho
 | x :: s, r, h => by
  intro o ho
  rw [trimO] at ho
  rcases List.mem_cons.mp ho with rfl | ho
  ·split
   ·exact hB
   ·exact h x (List.mem_cons_self ..)
  ·exact trim_small hB a s _ (fun y hy => h y (List.mem_cons_of_mem _ hy)) o ho
theorem Sm.trim {l : List Op} (h : Sm l) (a : Int) (r : List Op) : Sm (trimO a r l) := by
 refine ⟨by rw [trim_len]; exact h.1, trim_small (by omega) a l r h.2⟩
theorem cap_val (x : Int) : patchworkref1_Cap.f x 0 1000000 = some (max 0 (min x 1000000)) := by
 unfold patchworkref1_Cap.f
 by_cases h1 : x < 0
 ·rw [if_pos h1]; congr 1; omega
 ·rw [if_neg h1]
  by_cases h2 : x > 1000000
  ·rw [if_pos h2]; congr 1; omega
  ·rw [if_neg h2]; congr 1; omega
def trimL (l : List Op) (x : Int) : List Op := if rightL l = true then restL (normL (trimO (max 0 (min x 1000000)) [] (normL l))) else []
theorem sums_norm {l : List Op} (h : rightL l = true) : sums 3 (normL l) ≤ 2147483648 := by
 have := right_norm h
 exact (rightL_ok this).2.1
theorem reftrim_ev {l : List Op} (h : Sm l) (x : Int) : Ev (fun k => patchworkref8_Trim.f k l x) (trimL l x) := by
 unfold trimL
 refine Ev.bind' (refright_ev h) ?_
 cases hr : rightL l
 ·simp only [Bool.false_eq_true, if_false]; exact Ev.now _
 simp only [if_true, cap_val, Option.bind_some]
 have hf := rightL_form hr
 have hs : skips l ≤ 1099511627776 := by
  have := skips_le 3 hf
  have := (rightL_ok hr).2.1
  omega
 have hn := Sm.norm h hf
 have fn := rightL_form (right_norm hr)
 obtain ⟨t1, t2⟩ := trim_form (max 0 (min x 1000000)) (normL l) [] fn
 have sn := sums_norm hr
 refine Ev.bind' (refnorm_ev h hf hs) ?_
 refine reftrim_loop (normL l) [] [] _ hn (Nat.le_refl _) ?_
 rw [List.nil_append]
 refine Ev.bind' (refnorm_ev (hn.trim _ _) t1 (by omega)) ?_
 exact Ev.bind' (refrest_ev (Sm.norm (hn.trim _ _) t1)) (Ev.now _)
theorem near_zero : ∀ (s : List Op) (n : Int), 0 ≤ n → nearF 0 n s = false
 | [], _, _ => rfl
 | o :: s, n, h => by
  rw [nearF]
  split
  ·rw [decide_eq_false_iff_not]; omega
  ·split
   ·rfl
   ·exact near_zero s (n + 1) (by omega)
def blkO (o : Op) : Op := if o.f0 = 2 then ⟨1, 1, ⟨#[]⟩⟩ else o
theorem trim_zero : ∀ (s r : List Op), trimO 0 r s = s.map blkO
 | [], _ => rfl
 | o :: s, r => by
  rw [trimO, near_zero s 0 (by omega), near_zero r 0 (by omega), trim_zero s, List.map_cons]
  congr 1
  unfold blkO
  by_cases h : o.f0 = 2
  ·rw [if_pos ⟨h, rfl, rfl⟩, if_pos h]
  ·rw [if_neg (fun x => h x.1), if_neg h]
theorem restN_app (A B : List Op) : ∀ n, n ≤ A.length → restN (A ++ B) n = restN A n
 | 0, _ => rfl
 | n + 1, h => by
  rw [restN, restN, restN_app A B n (by omega)]
  rw [List.getD_eq_getElem?_getD, List.getD_eq_getElem?_getD, List.getElem?_append_left (by omega)]
theorem rest_skip {A : List Op} {o : Op} (h : o.f0 = 1) : restL (A ++ [o]) = restL A := by
 unfold restL
 have e : ((A ++ [o]).getD A.length ⟨0, 0, ⟨#[]⟩⟩) = o := by
  rw [List.getD_eq_getElem?_getD, List.getElem?_append_right (Nat.le_refl _)]; simp
 rw [len_snoc, restN, e, if_pos h, restN_app A [o] _ (Nat.le_refl _)]
 have := restN_le A A.length
 rw [List.take_append_of_le_length this]
theorem rest_ne {A : List Op} {o : Op} (h : o.f0 ≠ 1) : restL (A ++ [o]) = A ++ [o] := by
 unfold restL
 have e : ((A ++ [o]).getD A.length ⟨0, 0, ⟨#[]⟩⟩) = o := by
  rw [List.getD_eq_getElem?_getD, List.getElem?_append_right (Nat.le_refl _)]; simp
 rw [len_snoc, restN, e, if_neg h, List.take_of_length_le (by rw [len_snoc]; omega)]
theorem rest_len (l : List Op) : (restL l).length ≤ l.length := by unfold restL; rw [List.length_take]; omega
theorem ends : ∀ u : List U, ∃ v n, u = v ++ List.replicate n .skip ∧ (v = [] ∨ ∃ w x, v = w ++ [x] ∧ isSkip x = false)
 | [] => ⟨[], 0, rfl, .inl rfl⟩
 | x :: u => by
  obtain ⟨v, n, rfl, h⟩ := ends u
  rcases h with rfl | ⟨w, y, rfl, hy⟩
  ·by_cases hx : isSkip x = false
   ·exact ⟨[x], n, rfl, .inr ⟨[], x, rfl, hx⟩⟩
   ·cases x with
    | skip => exact ⟨[], n + 1, rfl, .inl rfl⟩
    | keep t => exact absurd rfl hx
    | del t => exact absurd rfl hx
    | ins t => exact absurd rfl hx
  ·exact ⟨x :: (w ++ [y]), n, rfl, .inr ⟨x :: w, y, rfl, hy⟩⟩
theorem pack_skip1 (n : Nat) : pack (List.replicate (n + 1) U.skip) = [⟨1, ((n + 1 : Nat) : Int), ByteArray.empty⟩] := by
 have := pack_skips n [] (fun x r h => by simp at h)
 rwa [List.append_nil] at this
theorem rest_pack {v : List U} (h : v = [] ∨ ∃ w x, v = w ++ [x] ∧ isSkip x = false) (n : Nat) : restL (pack (v ++ List.replicate n .skip)) = pack v := by
 rcases h with rfl | ⟨w, x, rfl, hx⟩
 ·cases n with
  | zero => rfl
  | succ n =>
   rw [List.nil_append, pack_skip1]
   exact rest_skip (A := []) rfl
 ·have e : pack (w ++ [x]) = pack w ++ [opU x] := pack_app_r [x] w (fun y hy => by rw [List.mem_singleton.mp hy]; exact hx)
  have k := opU_kind hx
  cases n with
  | zero =>
   rw [List.replicate_zero, List.append_nil, e]
   exact rest_ne k
  | succ n =>
   rw [pack_end_ne (w ++ [x]) _ (by
    intro A z h
    rw [e] at h
    have := (List.append_inj' h rfl).2
    rw [← (List.cons.inj this).1]; exact k), pack_skip1, rest_skip rfl, e]
   exact rest_ne k
end Go.Proofs.Ytfoponahdidddaa.P
namespace Go.Proofs.Ytfoponahdidddaa.P
open Go.RowKit Go.Proofs.YtfoponahdidddaaW.PrintWords Go.Proofs.YtfoponahdidddaaW.PrintLast Go.Proofs.YtfoponahdidddaaW.PrintMore
theorem okS_mk {s : List (Option ByteArray)} (h1 : textS s = true) (h2 : closedS false s = true) (h3 : s.length ≤ 2147483648) : okS s = true := by
 unfold okS
 simp [h1, h2, h3]
theorem rightU_mk {u : List U} (h1 : okS (olds u) = true) (h2 : okS (news u) = true) : rightU u = true := by unfold rightU; rw [h1, h2]; rfl
theorem ex_blkO {o : Op} (h : formO o) : exO (blkO o) = blkU (exO o) := by
 unfold blkO
 by_cases h2 : o.f0 = 2
 ·rw [if_pos h2]; simp [exO, h2, blkU, blk1]
 ·rw [if_neg h2]
  unfold exO
  by_cases h1 : o.f0 = 1
  ·rw [if_pos h1]; simp [blkU, blk1]
  ·rw [if_neg h1, if_neg h2]
   split <;> rfl
theorem ex_blk : ∀ {l : List Op}, (∀ o ∈ l, formO o) → ex (l.map blkO) = blkU (ex l)
 | [], _ => rfl
 | o :: l, h => by
  rw [List.map_cons, ex_cons, ex_cons, blk_app, ex_blkO (h o (List.mem_cons_self ..)), ex_blk fun x hx => h x (List.mem_cons_of_mem _ hx)]
theorem trim0 {l : List Op} (h : rightL l = true) : trimL l 0 = restL (pack (nf [] (blkU (ex l)))) := by
 unfold trimL
 rw [if_pos h, show max 0 (min (0 : Int) 1000000) = 0 from by decide, trim_zero]
 unfold normL
 rw [ex_blk (form_pack _), ex_pack, nf_blk]
 show restL (pack (nf [] (nf [] (blkU (ex l))))) = _
 rw [nf_idem]
theorem trim_le {l : List Op} (x : Int) : (trimL l x).length ≤ l.length := by
 unfold trimL
 split
 ·rename_i hr
  have hf := rightL_form hr
  have fn := rightL_form (right_norm hr)
  obtain ⟨t1, _⟩ := trim_form (max 0 (min x 1000000)) (normL l) [] fn
  have a1 := rest_len (normL (trimO (max 0 (min x 1000000)) [] (normL l)))
  have a2 := norm_len t1
  have a3 := norm_len hf
  rw [trim_len] at a2
  omega
 ·simp
end Go.Proofs.Ytfoponahdidddaa.P
namespace Go.Proofs.Ytfoponahdidddaa.P
open Go.RowKit Go.Proofs.YtfoponahdidddaaW.PrintWords Go.Proofs.YtfoponahdidddaaW.PrintLast Go.Proofs.YtfoponahdidddaaW.PrintMore
abbrev skU (n : Nat) : List U := List.replicate n .skip
abbrev skT (n : Nat) : List TU := List.replicate n ((.skip, 0) : TU)
theorem cmp_sk : ∀ (n : Nat) (p q : List U), cmpT (skU n ++ p) false (skU n ++ q) = (cmpT p false q).map (skT n ++ ·)
 | 0, p, q => by cases h : cmpT p false q <;> simp [skU, skT, h]
 | n + 1, p, q => cmpT_skips n _ _ p q (.inl rfl) (.inl rfl) (.inl (by simp [List.replicate_succ]))
theorem cmp_skR : ∀ (n : Nat) (q : List U), cmpT [] false (skU n ++ q) = (cmpT [] false q).map (skT n ++ ·)
 | 0, q => by cases h : cmpT [] false q <;> simp [skU, skT, h]
 | n + 1, q => cmpT_skips n _ _ [] q (.inr ⟨rfl, rfl⟩) (.inl rfl) (.inr (by simp [List.replicate_succ]))
theorem cmp_skL : ∀ (n : Nat) (p : List U), cmpT (skU n ++ p) false [] = (cmpT p false []).map (skT n ++ ·)
 | 0, p => by cases h : cmpT p false [] <;> simp [skU, skT, h]
 | n + 1, p => cmpT_skips n _ _ p [] (.inl rfl) (.inr ⟨rfl, rfl⟩) (.inl (by simp [List.replicate_succ]))
abbrev inU (n : Nat) (t : ByteArray) : List U := List.replicate n (.ins t)
abbrev inT (n : Nat) (t : ByteArray) (b : Int) : List TU := List.replicate n ((.ins t, b) : TU)
theorem map_app {α : Type} (o : Option (List α)) (a b : List α) : (o.map (b ++ ·)).map (a ++ ·) = o.map ((a ++ b) ++ ·) := by
 cases o <;> simp
theorem map_cons_app {α : Type} (o : Option (List α)) (a : α) (b : List α) : (o.map (b ++ ·)).map (a :: ·) = o.map ((a :: b) ++ ·) := by
 cases o <;> simp
theorem cmp_inL {t : ByteArray} (ho : openT t = false) : ∀ (n : Nat) (q : List U), cmpT (inU n t) false (skU n ++ q) = (cmpT [] false q).map (inT n t 1 ++ ·)
 | 0, q => by cases h : cmpT [] false q <;> simp [inU, inT, skU, h]
 | n + 1, q => by
  have i := cmp_inL ho n q
  show cmpT (.ins t :: inU n t) false (.skip :: (skU n ++ q)) = _
  rw [cmpT_mid (fun s r h => by simp at h) (fun s r h => by simp at h) (.inl (by simp)) false, if_neg (by simp)]
  show ((some [((.ins t, 1) : TU)]).bind fun a => (cmpT (inU n t) (opM (.ins t) .skip) (skU n ++ q)).map (a ++ ·)) = _
  rw [show opM (.ins t) .skip = false from by simp [opM, opnX, txU, ho], i, Option.bind_some, map_app]; rfl
theorem cmp_inE {t : ByteArray} (ho : openT t = false) : ∀ (n : Nat), cmpT (inU n t) false [] = some (inT n t 1)
 | 0 => rfl
 | n + 1 => by
  have i := cmp_inE ho n
  show cmpT (.ins t :: inU n t) false [] = _
  rw [cmpT_mid (fun s r h => by simp at h) (fun s r h => by simp at h) (.inl (by simp)) false, if_neg (by simp)]
  show ((some [((.ins t, 1) : TU)]).bind fun a => (cmpT (inU n t) (opM (.ins t) .skip) []).map (a ++ ·)) = _
  rw [show opM (.ins t) .skip = false from by simp [opM, opnX, txU, ho], i]; rfl
theorem cmp_inQ {p : List U} (hp : NoD p) (t : ByteArray) : ∀ (n : Nat) (q : List U), cmpT p false (inU n t ++ q) = (cmpT p false q).map (inT n t 2 ++ ·)
 | 0, q => by cases h : cmpT p false q <;> simp [inU, inT, h]
 | n + 1, q => by
  show cmpT p false (.ins t :: (inU n t ++ q)) = _
  rw [cmpT_ins hp, cmp_inQ hp t n q, map_cons_app]; rfl
def fineU (x : U) : Bool := match x with
 | .skip => true
 | .keep t => rightT t && !openT t
 | .del t => rightT t && !openT t
 | .ins t => rightT t && !openT t
def fineS (x : Option ByteArray) : Bool := match x with
 | none => true
 | some t => rightT t && !openT t
theorem fine_olds : ∀ u : List U, u.all fineU = true → (olds u).all fineS = true ∧ (olds u).length ≤ u.length
 | [], _ => ⟨rfl, Nat.le_refl _⟩
 | x :: u, h => by
  rw [List.all_cons, Bool.and_eq_true] at h
  obtain ⟨i1, i2⟩ := fine_olds u h.2
  cases x with
  | skip => exact ⟨by rw [olds, List.all_cons, i1]; rfl, by simp only [olds, List.length_cons]; omega⟩
  | keep t => exact ⟨by rw [olds, List.all_cons, i1]; simpa [fineS, fineU] using h.1, by simp only [olds, List.length_cons]; omega⟩
  | del t => exact ⟨by rw [olds, List.all_cons, i1]; simpa [fineS, fineU] using h.1, by simp only [olds, List.length_cons]; omega⟩
  | ins t => exact ⟨by rw [olds, i1], by simp only [olds, List.length_cons]; omega⟩
theorem fine_news : ∀ u : List U, u.all fineU = true → (news u).all fineS = true ∧ (news u).length ≤ u.length
 | [], _ => ⟨rfl, Nat.le_refl _⟩
 | x :: u, h => by
  rw [List.all_cons, Bool.and_eq_true] at h
  obtain ⟨i1, i2⟩ := fine_news u h.2
  cases x with
  | skip => exact ⟨by rw [news, List.all_cons, i1]; rfl, by simp only [news, List.length_cons]; omega⟩
  | keep t => exact ⟨by rw [news, List.all_cons, i1]; simpa [fineS, fineU] using h.1, by simp only [news, List.length_cons]; omega⟩
  | ins t => exact ⟨by rw [news, List.all_cons, i1]; simpa [fineS, fineU] using h.1, by simp only [news, List.length_cons]; omega⟩
  | del t => exact ⟨by rw [news, i1], by simp only [news, List.length_cons]; omega⟩
theorem fine_ok : ∀ s : List (Option ByteArray), s.all fineS = true → textS s = true ∧ closedS false s = true
 | [], _ => ⟨rfl, rfl⟩
 | none :: s, h => by
  have i := fine_ok s (by simpa [fineS] using h)
  exact ⟨by show (true && textS s) = true; rw [i.1]; rfl, i.2⟩
 | some t :: s, h => by
  rw [List.all_cons, Bool.and_eq_true] at h
  have i := fine_ok s h.2
  have ht : rightT t = true ∧ openT t = false := by simpa [fineS] using h.1
  exact ⟨by show (rightT t && textS s) = true; rw [ht.1, i.1]; rfl, by rw [closedS, ht.2]; exact i.2⟩
theorem fine_right {u : List U} (h : u.all fineU = true) (hl : u.length ≤ 2147483648) : rightU u = true := by
 obtain ⟨a1, a2⟩ := fine_olds u h
 obtain ⟨b1, b2⟩ := fine_news u h
 obtain ⟨c1, c2⟩ := fine_ok _ a1
 obtain ⟨d1, d2⟩ := fine_ok _ b1
 exact rightU_mk (okS_mk c1 c2 (by omega)) (okS_mk d1 d2 (by omega))
theorem fine_sk (n : Nat) : (skU n).all fineU = true := by simp [skU, fineU]
theorem fine_in {t : ByteArray} (h : fineU (.ins t) = true) (n : Nat) : (inU n t).all fineU = true := by
 rw [List.all_eq_true]
 intro x hx
 rw [List.eq_of_mem_replicate hx]; exact h
theorem fst_in1 (t : ByteArray) : ∀ (n : Nat) (W : List TU), fstT (inT n t 1 ++ W) = fstT W
 | 0, W => by simp [inT]
 | n + 1, W => by
  show fstT ((.ins t, 1) :: (inT n t 1 ++ W)) = _
  rw [fst_i1, fst_in1 t n W]
theorem fst_in2 (t : ByteArray) : ∀ (n : Nat) (W : List TU), fstT (inT n t 2 ++ W) = inU n t ++ fstT W
 | 0, W => by simp [inT, inU]
 | n + 1, W => by
  show fstT ((.ins t, 2) :: (inT n t 2 ++ W)) = .ins t :: (inU n t ++ fstT W)
  rw [fst_i2, fst_in2 t n W]
theorem snd_in1 (t : ByteArray) : ∀ (n : Nat) (W : List TU), sndT (inT n t 1 ++ W) = inU n t ++ sndT W
 | 0, W => by simp [inT, inU]
 | n + 1, W => by
  show sndT ((.ins t, 1) :: (inT n t 1 ++ W)) = .ins t :: (inU n t ++ sndT W)
  rw [snd_i1, snd_in1 t n W]
theorem snd_in2 (t : ByteArray) : ∀ (n : Nat) (W : List TU), sndT (inT n t 2 ++ W) = List.replicate n (.keep t) ++ sndT W
 | 0, W => by simp [inT]
 | n + 1, W => by
  show sndT ((.ins t, 2) :: (inT n t 2 ++ W)) = .keep t :: (List.replicate n (.keep t) ++ sndT W)
  rw [snd_i2, snd_in2 t n W]
theorem touch_in {t : ByteArray} {c : Int} : ∀ (n : Nat) (b : Int) (W : List TU), (b = 0 ∨ b = c) → (∀ d, d = b ∨ d = c → touchT d W = false) → touchT b (inT n t c ++ W) = false
 | 0, b, W, _, h => by
  show touchT b W = false
  exact h b (.inl rfl)
 | n + 1, b, W, hb, h => by
  show touchT b ((.ins t, c) :: (inT n t c ++ W)) = false
  rw [touchT]
  show (_ || touchT c (inT n t c ++ W)) = false
  rw [touch_in n c W (.inr rfl) (fun d hd => h d (.inr (by rcases hd with h | h <;> exact h)))]
  rcases hb with rfl | rfl <;> simp
theorem touch_sk {n : Nat} (hn : 0 < n) (b : Int) (W : List TU) : touchT b (skT n ++ W) = touchT 0 W := by
 cases n with
 | zero => omega
 | succ n => exact touch_skips n b W
theorem nf_in (t : ByteArray) (n : Nat) (I u : List U) : nf I (inU n t ++ u) = nf (I ++ inU n t) u :=
 nf_ins (inU n t) (fun x hx => ⟨t, List.eq_of_mem_replicate hx⟩) I u
theorem nf_sk {n : Nat} (hn : 0 < n) (I u : List U) : nf I (skU n ++ u) = I ++ (skU n ++ nf [] u) := by
 cases n with
 | zero => omega
 | succ n =>
  show nf I (.skip :: (skU n ++ u)) = I ++ (.skip :: (skU n ++ nf [] u))
  rw [nf, nf_skips]
theorem pack_sk {n : Nat} (hn : 0 < n) (u : List U) (h : NoSkU u) : pack (skU n ++ u) = ⟨1, (n : Int), ⟨#[]⟩⟩ :: pack u := by
 cases n with
 | zero => omega
 | succ n => exact pack_skips n u h
theorem pack_in (t : ByteArray) : ∀ (n : Nat) (u : List U), pack (inU n t ++ u) = List.replicate n ⟨4, 0, t⟩ ++ pack u
 | 0, u => by simp [inU]
 | n + 1, u => by
  show pack (.ins t :: (inU n t ++ u)) = ⟨4, 0, t⟩ :: (List.replicate n ⟨4, 0, t⟩ ++ pack u)
  rw [pack, put_ne rfl, pack_in t n u]; rfl
theorem noSk_in {n : Nat} (hn : 0 < n) (t : ByteArray) (u : List U) : NoSkU (inU n t ++ u) := by
 cases n with
 | zero => omega
 | succ n =>
  intro x r h
  obtain ⟨rfl, _⟩ := List.cons.inj h
  rfl
theorem blk_sk (n : Nat) : blkU (skU n) = skU n := by simp [blkU, skU, blk1]
theorem blk_in (n : Nat) (t : ByteArray) : blkU (inU n t) = inU n t := by simp [blkU, inU, blk1]
theorem blk_keep (n : Nat) (t : ByteArray) : blkU (List.replicate n (.keep t)) = skU n := by simp [blkU, skU, blk1]
theorem ex_sk {a : Int} (h : 0 ≤ a) (r : List Op) : ex ((⟨1, a, ⟨#[]⟩⟩ : Op) :: r) = skU a.toNat ++ ex r := by
 rw [ex_cons]; rfl
theorem ex_in (t : ByteArray) : ∀ n : Nat, ex (List.replicate n (⟨4, 0, t⟩ : Op)) = inU n t
 | 0 => rfl
 | n + 1 => by rw [List.replicate_succ, ex_cons, ex_in t n]; rfl
end Go.Proofs.Ytfoponahdidddaa.P
