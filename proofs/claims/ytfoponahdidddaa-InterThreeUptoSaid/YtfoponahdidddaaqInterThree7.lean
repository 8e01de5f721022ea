/- Own and printed texts that the theorem of InterThree reaches, put together. -/
import Derived.Test.YtfoponahdidddaaqInterThree5
import Derived.Test.YtfoponahdidddaaqInterThree3
set_option linter.unusedVariables false
set_option linter.unusedSimpArgs false
namespace Go.Proofs.Ytfoponahdidddaa.P
open Go.RowKit Go.Proofs.YtfoponahdidddaaW.PrintWords Go.Proofs.YtfoponahdidddaaW.PrintLast Go.Proofs.YtfoponahdidddaaW.PrintMore
def wholeL : List ByteArray → Bool
 | [] => true
 | x :: l => rightT x && (if openT x = true ∧ l ≠ [] then false else wholeL l)
def SmT (l : List ByteArray) : Prop := l.length < 4398046511104 ∧ ∀ x ∈ l, x.size < 4611686018427387904
def BgT (l : List ByteArray) : Prop := l.length < 8796093022208 ∧ ∀ x ∈ l, x.size < 4611686018427387904
theorem SmT.big {l : List ByteArray} (h : SmT l) : BgT l := ⟨by have := h.1; omega, h.2⟩
theorem BgT.mid {p s : List ByteArray} {o : ByteArray} (h : BgT (p ++ o :: s)) : o.size < 4611686018427387904 := h.2 o (by simp)
theorem BgT.snoc {p s : List ByteArray} {o : ByteArray} (h : BgT (p ++ o :: s)) : BgT ((p ++ [o]) ++ s) := by rw [List.append_assoc]; exact h
theorem whole_loop (s : List ByteArray) : ∀ (p : List ByteArray), BgT (p ++ s) → Ev (fun k => patchworkref1_Whole.l0 k (p ++ s) (p.length : Int)) (wholeL s) := by
 induction s with
 | nil =>
  intro p _
  refine Ev.step (fun k => rfl) ?_
  simp only [patchworkref1_Whole.l0, lt_end, if_false]
  exact Ev.now _
 | cons x s ih =>
  intro p hb
  have i := ih (p ++ [x]) hb.snoc
  rw [List.append_assoc, List.singleton_append] at i
  have hl := hb.1
  simp only [List.length_append, List.length_cons] at hl
  have w := wrap_len p x (by omega)
  refine Ev.step (fun k => rfl) ?_
  simp only [patchworkref1_Whole.l0, lt_mid, nn_nat, if_true, rdOf_mid, w]
  refine Ev.bind' (rightline_ev hb.mid) ?_
  unfold wholeL
  cases hr : rightT x
  ·simp only [Bool.false_eq_true, if_false, Bool.false_and]; exact Ev.now _
  simp only [if_true, Bool.true_and, open_val hb.mid, Option.bind_some]
  cases ho : openT x
  ·simp only [Bool.false_eq_true, if_false, false_and]; exact i
  simp only [if_true, true_and]
  cases s with
  | nil =>
   have c : ¬ ((p ++ [x]).length : Int) < ((p ++ x :: ([] : List ByteArray)).length : Int) := by simp
   simp only [if_neg c, ne_eq, not_true_eq_false, if_false]
   exact i
  | cons y s =>
   have c : ((p ++ [x]).length : Int) < ((p ++ x :: y :: s).length : Int) := by simp only [List.length_append, List.length_cons, List.length_nil]; omega
   simp only [if_pos c, ne_eq, List.cons_ne_nil, not_false_eq_true, if_true]
   exact Ev.now _
theorem whole_ev {l : List ByteArray} (h : BgT l) : Ev (fun k => patchworkref1_Whole.f k l) (wholeL l) := whole_loop l [] h
def doU : List U → List ByteArray → Option (List ByteArray)
 | [], ls => some ls
 | .skip :: u, x :: ls => (doU u ls).map (x :: ·)
 | .keep t :: u, x :: ls => if x = t then (doU u ls).map (x :: ·) else none
 | .del t :: u, x :: ls => if x = t then doU u ls else none
 | .ins t :: u, ls => (doU u ls).map (t :: ·)
 | .skip :: _, [] => none
 | .keep _ :: _, [] => none
 | .del _ :: _, [] => none
theorem doU_skips : ∀ (n : Nat) (u : List U) (ls : List ByteArray), doU (List.replicate n .skip ++ u) ls = if ls.length < n then none else (doU u (ls.drop n)).map (ls.take n ++ ·)
 | 0, u, ls => by simp
 | n + 1, u, [] => by simp [List.replicate_succ, doU]
 | n + 1, u, x :: ls => by
  rw [List.replicate_succ, List.cons_append, doU, doU_skips n u ls]
  by_cases h : ls.length < n
  ·simp [h]
  ·simp only [h, if_false, List.length_cons, show ¬ ls.length + 1 < n + 1 from by omega, List.drop_succ_cons, List.take_succ_cons, Option.map_map, Function.comp_def, List.cons_append]
def told (out : List ByteArray) : Option (List ByteArray) → List ByteArray × Bool
 | none => ([], false)
 | some r => if wholeL (out ++ r) then (out ++ r, true) else ([], false)
theorem told_map (out a : List ByteArray) (r : Option (List ByteArray)) : told out (r.map (a ++ ·)) = told (out ++ a) r := by
 cases r with
 | none => rfl
 | some r => simp [told]
theorem told_map1 (out : List ByteArray) (x : ByteArray) (r : Option (List ByteArray)) : told out (r.map (x :: ·)) = told (out ++ [x]) r := by
 cases r with
 | none => rfl
 | some r => simp [told]
theorem refdo_loop {ls : List ByteArray} (hls : SmT ls) (s : List Op) : ∀ (p : List Op) (out : List ByteArray) (i : Nat), Sm (p ++ s) → (∀ o ∈ s, okOne o = true) → i ≤ ls.length → out.length ≤ i + p.length → (∀ x ∈ out, x.size < 4611686018427387904) →
  Ev (fun k => patchworkref8_Do.l0 k (p ++ s) ls out (i : Int) (p.length : Int)) (told out (doU (ex s) (ls.drop i))) := by
 induction s with
 | nil =>
  intro p out i hb _ hi ho hx
  have hl1 := hls.1
  have hp := hb.1
  simp only [List.append_nil] at hp
  have c1 : (0 : Int) ≤ (i : Int) := by omega
  have c2 : (i : Int) ≤ (ls.length : Int) := by omega
  have c3 : out.length + (ls.drop (i : Int).toNat).length < 8796093022208 := by rw [Int.toNat_natCast, List.length_drop]; omega
  have hw : BgT (out ++ ls.drop (i : Int).toNat) := by
   refine ⟨by rw [List.length_append]; exact c3, fun x h => ?_⟩
   rcases List.mem_append.mp h with h | h
   ·exact hx x h
   ·exact hls.2 x (List.mem_of_mem_drop h)
  refine Ev.step (fun k => rfl) ?_
  simp only [patchworkref8_Do.l0, lt_end, if_false, if_pos c1, if_pos c2, if_pos c3, Option.bind_some]
  refine Ev.bind' (whole_ev hw) ?_
  rw [Int.toNat_natCast, ex_nil, doU, told]
  split <;> exact Ev.now _
 | cons o s ih =>
  intro p out i hb hok hi ho hx
  have hl1 := hls.1
  have hp := hb.len
  have j := fun out i => ih (p ++ [o]) out i hb.snoc (fun x hx => hok x (List.mem_cons_of_mem _ hx))
  rw [List.append_assoc, List.singleton_append] at j
  have w := wrap_len p o (by omega)
  have hplen : (p ++ [o]).length = p.length + 1 := by simp
  refine Ev.step (fun k => rfl) ?_
  simp only [patchworkref8_Do.l0, lt_mid, nn_nat, if_true, rdOp_mid]
  have hoo := hok o (List.mem_cons_self ..)
  rw [ex_cons]
  by_cases hk : o.f0 = 1
  ·obtain ⟨h1, h2, h3⟩ := okOne_skip hoo hk
   rw [show exO o = List.replicate o.f1.toNat .skip from by simp [exO, hk], doU_skips]
   have w1 : wrap64 ((ls.length : Int) - (i : Int)) = (ls.length : Int) - (i : Int) := by unfold wrap64; omega
   simp only [if_pos hk, w1, List.length_drop]
   by_cases c : (ls.length : Int) - (i : Int) < o.f1
   ·simp only [if_pos c]
    rw [if_pos (by omega)]
    exact Ev.now _
   ·simp only [if_neg c]
    rw [if_neg (by omega)]
    have w2 : wrap64 ((i : Int) + o.f1) = ((i + o.f1.toNat : Nat) : Int) := by unfold wrap64; omega
    have c2 : (i : Int) ≤ ((i + o.f1.toNat : Nat) : Int) := by omega
    have c3 : ((i + o.f1.toNat : Nat) : Int) ≤ (ls.length : Int) := by omega
    have e : (ls.take ((i + o.f1.toNat : Nat) : Int).toNat).drop (i : Int).toNat = (ls.drop i).take o.f1.toNat := by
     rw [Int.toNat_natCast, Int.toNat_natCast, List.drop_take]
     congr 1; omega
    have hlen : ((ls.drop i).take o.f1.toNat).length = o.f1.toNat := by rw [List.length_take, List.length_drop]; omega
    have c1 : (0 : Int) ≤ (i : Int) := by omega
    have c4 : out.length + ((ls.take ((i + o.f1.toNat : Nat) : Int).toNat).length - (i : Int).toNat) < 8796093022208 := by rw [List.length_take]; omega
    simp only [w2, if_pos c2, if_pos c3, if_pos c4, w]
    rw [e]
    have := j (out ++ (ls.drop i).take o.f1.toNat) (i + o.f1.toNat) (by omega) (by rw [List.length_append]; omega) (fun x hx' => by
     rcases List.mem_append.mp hx' with h | h
     ·exact hx x h
     ·exact hls.2 x (List.mem_of_mem_drop (List.mem_of_mem_take h)))
    rw [told_map, List.drop_drop]
    exact this
  ·obtain ⟨hk2, h1, h2⟩ := okOne_ne hoo hk
   simp only [if_neg hk]
   have c0 : out.length < 8796093022208 := by omega
   by_cases h4 : o.f0 = 4
   ·rw [show exO o = [.ins o.f2] from by simp [exO, h4], List.singleton_append, doU, told_map1]
    simp only [if_pos h4, if_pos c0, w]
    exact j (out ++ [o.f2]) i hi (by rw [List.length_append, List.length_singleton]; omega) (fun x hx' => by
     rcases List.mem_append.mp hx' with h | h
     ·exact hx x h
     ·rw [List.mem_singleton.mp h]; exact hb.mid)
   ·simp only [if_neg h4]
    by_cases hil : i < ls.length
    ·have c1 : ¬ (i : Int) ≥ (ls.length : Int) := by omega
     have c2 : (i : Int) < (ls.length : Int) := by omega
     have r : rdOf ByteArray.empty ls (i : Int) = ls[i] := rdOf_get hil
     have w2 : wrap64 ((i : Int) + 1) = ((i + 1 : Nat) : Int) := by unfold wrap64; omega
     simp only [if_neg c1, if_pos c2, r]
     rw [List.drop_eq_getElem_cons hil]
     refine Ev.step (fun k => rfl) ?_
     by_cases he : ls[i] = o.f2
     ·have hb2 : (ls[i].toList != o.f2.toList) = false := by rw [he]; simp
      rcases hk2 with h | h | h
      ·rw [show exO o = [.keep o.f2] from by simp [exO, h], List.singleton_append, doU, if_pos he, told_map1]
       simp only [hb2, patchworkref8_Do.j2, Bool.false_eq_true, if_false, if_pos h, if_pos c0, w, w2]
       rw [he]
       exact j (out ++ [o.f2]) (i + 1) (by omega) (by rw [List.length_append, List.length_singleton]; omega) (fun x hx' => by
        rcases List.mem_append.mp hx' with h | h
        ·exact hx x h
        ·rw [List.mem_singleton.mp h]; exact hb.mid)
      ·have h' : ¬ o.f0 = 2 := by omega
       rw [show exO o = [.del o.f2] from by simp [exO, h], List.singleton_append, doU, if_pos he]
       simp only [hb2, patchworkref8_Do.j2, Bool.false_eq_true, if_false, if_neg h', w, w2]
       exact j out (i + 1) (by omega) (by omega) hx
      ·exact absurd h h4
     ·have hb2 : (ls[i].toList != o.f2.toList) = true := by
       rw [bne_iff_ne]; exact fun e => he (txt_eq e)
      have en : doU (exO o ++ ex s) (ls[i] :: ls.drop (i + 1)) = none := by
       rcases hk2 with h | h | h
       ·rw [show exO o = [.keep o.f2] from by simp [exO, h], List.singleton_append, doU, if_neg he]
       ·rw [show exO o = [.del o.f2] from by simp [exO, h], List.singleton_append, doU, if_neg he]
       ·exact absurd h h4
      rw [en]
      simp only [hb2, patchworkref8_Do.j2, if_true]
      exact Ev.now _
    ·have c1 : (i : Int) ≥ (ls.length : Int) := by omega
     simp only [if_pos c1]
     have en : doU (exO o ++ ex s) (ls.drop i) = none := by
      rw [List.drop_eq_nil_of_le (by omega)]
      rcases hk2 with h | h | h
      ·rw [show exO o = [.keep o.f2] from by simp [exO, h], List.singleton_append, doU]
      ·rw [show exO o = [.del o.f2] from by simp [exO, h], List.singleton_append, doU]
      ·exact absurd h h4
     rw [en]
     refine Ev.step (fun k => rfl) ?_
     simp only [patchworkref8_Do.j2, if_true]
     exact Ev.now _
def doL (l : List Op) (ls : List ByteArray) : List ByteArray × Bool := if rightL l = true ∧ wholeL ls = true then told [] (doU (ex l) ls) else ([], false)
theorem refdo_ev {l : List Op} {ls : List ByteArray} (h : Sm l) (hls : SmT ls) : Ev (fun k => patchworkref8_Do.f k l ls) (doL l ls) := by
 unfold doL
 refine Ev.bind' (refright_ev h) ?_
 cases hr : rightL l
 ·simp only [Bool.false_eq_true, if_false, false_and]
  refine Ev.step (fun k => rfl) ?_
  simp only [patchworkref8_Do.j0, if_true]
  exact Ev.now _
 simp only [if_true, true_and]
 refine Ev.bind' (whole_ev hls.big) ?_
 refine Ev.step (fun k => rfl) ?_
 cases hw : wholeL ls
 ·simp only [patchworkref8_Do.j0, Bool.not_false, if_true, Bool.false_eq_true, if_false]
  exact Ev.now _
 simp only [patchworkref8_Do.j0, Bool.not_true, Bool.false_eq_true, if_false, if_true]
 exact refdo_loop hls l [] [] 0 h (rightL_ok hr).1 (by omega) (by simp) (by simp)
end Go.Proofs.Ytfoponahdidddaa.P
namespace Go.Proofs.Ytfoponahdidddaa.P
open Go.RowKit Go.Proofs.YtfoponahdidddaaW.PrintWords Go.Proofs.YtfoponahdidddaaW.PrintLast Go.Proofs.YtfoponahdidddaaW.PrintMore
theorem doU_ins : ∀ (I : List U), AllIns I → ∀ (v : List U) (ls : List ByteArray), doU (I ++ v) ls = (doU v ls).map (I.map txU ++ ·)
 | [], _, v, ls => by simp
 | x :: I, h, v, ls => by
  obtain ⟨t, rfl⟩ := h x (List.mem_cons_self ..)
  rw [List.cons_append, doU, doU_ins I (fun y hy => h y (List.mem_cons_of_mem _ hy)) v ls, Option.map_map]
  rfl
theorem doU_nf : ∀ (u I : List U), AllIns I → ∀ ls : List ByteArray, doU (nf I u) ls = (doU u ls).map (I.map txU ++ ·)
 | [], I, h, ls => by
  have := doU_ins I h [] ls
  rw [List.append_nil] at this
  rw [nf, this]
 | .ins t :: u, I, h, ls => by
  rw [nf, doU_nf u _ (h.snoc t), doU, Option.map_map]
  simp [Function.comp_def, txU]
 | .del t :: u, I, h, [] => by rw [nf, doU, doU]; rfl
 | .del t :: u, I, h, x :: ls => by
  rw [nf, doU, doU, doU_nf u I h]
  split <;> rfl
 | .keep t :: u, I, h, [] => by rw [nf, doU_ins I h, doU, doU]
 | .keep t :: u, I, h, x :: ls => by
  rw [nf, doU_ins I h, doU, doU, doU_nf u [] .nil]
  simp
 | .skip :: u, I, h, [] => by rw [nf, doU_ins I h, doU, doU]
 | .skip :: u, I, h, x :: ls => by
  rw [nf, doU_ins I h, doU, doU, doU_nf u [] .nil]
  simp
theorem doU_nf0 (u : List U) (ls : List ByteArray) : doU (nf [] u) ls = doU u ls := by
 rw [doU_nf u [] .nil]; simp
theorem doU_flip : ∀ (u : List U) (ls r : List ByteArray), doU u ls = some r → doU (flipU u) r = some ls
 | [], ls, r, h => by rw [doU] at h; rw [← Option.some.inj h]; rfl
 | .ins t :: u, ls, r, h => by
  rw [doU] at h
  obtain ⟨r', h', rfl⟩ := Option.map_eq_some_iff.mp h
  show doU (.del t :: flipU u) (t :: r') = _
  rw [doU, if_pos rfl, doU_flip u ls r' h']
 | .del t :: u, [], r, h => by rw [doU] at h; simp at h
 | .del t :: u, x :: ls, r, h => by
  rw [doU] at h
  split at h
  ·rename_i e
   show doU (.ins t :: flipU u) r = _
   rw [doU, doU_flip u ls r h, e]; rfl
  ·simp at h
 | .keep t :: u, [], r, h => by rw [doU] at h; simp at h
 | .keep t :: u, x :: ls, r, h => by
  rw [doU] at h
  split at h
  ·rename_i e
   obtain ⟨r', h', rfl⟩ := Option.map_eq_some_iff.mp h
   show doU (.keep t :: flipU u) (x :: r') = _
   rw [doU, if_pos e, doU_flip u ls r' h']; rfl
  ·simp at h
 | .skip :: u, [], r, h => by rw [doU] at h; simp at h
 | .skip :: u, x :: ls, r, h => by
  rw [doU] at h
  obtain ⟨r', h', rfl⟩ := Option.map_eq_some_iff.mp h
  show doU (.skip :: flipU u) (x :: r') = _
  rw [doU, doU_flip u ls r' h']; rfl
def insN : List U → Nat
 | [] => 0
 | .ins _ :: u => insN u + 1
 | .skip :: u => insN u
 | .keep _ :: u => insN u
 | .del _ :: u => insN u
theorem doU_len : ∀ (u : List U) (ls r : List ByteArray), doU u ls = some r → r.length ≤ ls.length + insN u
 | [], ls, r, h => by rw [doU] at h; rw [Option.some.inj h]; exact Nat.le_refl _
 | .ins t :: u, ls, r, h => by
  rw [doU] at h
  obtain ⟨r', h', rfl⟩ := Option.map_eq_some_iff.mp h
  have := doU_len u ls r' h'
  simp only [List.length_cons, insN]; omega
 | .del t :: u, [], r, h => by rw [doU] at h; simp at h
 | .del t :: u, x :: ls, r, h => by
  rw [doU] at h
  split at h
  ·have := doU_len u ls r h
   simp only [List.length_cons, insN]; omega
  ·simp at h
 | .keep t :: u, [], r, h => by rw [doU] at h; simp at h
 | .keep t :: u, x :: ls, r, h => by
  rw [doU] at h
  split at h
  ·obtain ⟨r', h', rfl⟩ := Option.map_eq_some_iff.mp h
   have := doU_len u ls r' h'
   simp only [List.length_cons, insN]; omega
  ·simp at h
 | .skip :: u, [], r, h => by rw [doU] at h; simp at h
 | .skip :: u, x :: ls, r, h => by
  rw [doU] at h
  obtain ⟨r', h', rfl⟩ := Option.map_eq_some_iff.mp h
  have := doU_len u ls r' h'
  simp only [List.length_cons, insN]; omega
theorem doU_mem : ∀ (u : List U) (ls r : List ByteArray), doU u ls = some r → ∀ y ∈ r, y ∈ ls ∨ ∃ x ∈ u, y = txU x
 | [], ls, r, h, y, hy => by rw [doU] at h; rw [Option.some.inj h]; exact .inl hy
 | .ins t :: u, ls, r, h, y, hy => by
  rw [doU] at h
  obtain ⟨r', h', rfl⟩ := Option.map_eq_some_iff.mp h
  rcases List.mem_cons.mp hy with rfl | hy
  ·exact .inr ⟨_, List.mem_cons_self .., rfl⟩
  ·rcases doU_mem u ls r' h' y hy with h | ⟨x, hx, e⟩
   ·exact .inl h
   ·exact .inr ⟨x, List.mem_cons_of_mem _ hx, e⟩
 | .del t :: u, [], r, h, y, hy => by rw [doU] at h; simp at h
 | .del t :: u, x :: ls, r, h, y, hy => by
  rw [doU] at h
  split at h
  ·rcases doU_mem u ls r h y hy with h | ⟨x, hx, e⟩
   ·exact .inl (List.mem_cons_of_mem _ h)
   ·exact .inr ⟨x, List.mem_cons_of_mem _ hx, e⟩
  ·simp at h
 | .keep t :: u, [], r, h, y, hy => by rw [doU] at h; simp at h
 | .keep t :: u, x :: ls, r, h, y, hy => by
  rw [doU] at h
  split at h
  ·obtain ⟨r', h', rfl⟩ := Option.map_eq_some_iff.mp h
   rcases List.mem_cons.mp hy with rfl | hy
   ·exact .inl (List.mem_cons_self ..)
   ·rcases doU_mem u ls r' h' y hy with h | ⟨x, hx, e⟩
    ·exact .inl (List.mem_cons_of_mem _ h)
    ·exact .inr ⟨x, List.mem_cons_of_mem _ hx, e⟩
  ·simp at h
 | .skip :: u, [], r, h, y, hy => by rw [doU] at h; simp at h
 | .skip :: u, x :: ls, r, h, y, hy => by
  rw [doU] at h
  obtain ⟨r', h', rfl⟩ := Option.map_eq_some_iff.mp h
  rcases List.mem_cons.mp hy with rfl | hy
  ·exact .inl (List.mem_cons_self ..)
  ·rcases doU_mem u ls r' h' y hy with h | ⟨x, hx, e⟩
   ·exact .inl (List.mem_cons_of_mem _ h)
   ·exact .inr ⟨x, List.mem_cons_of_mem _ hx, e⟩
theorem insN_app : ∀ (p q : List U), insN (p ++ q) = insN p + insN q
 | [], q => by simp [insN]
 | x :: p, q => by cases x <;> simp only [List.cons_append, insN, insN_app p q] <;> omega
theorem insN_ex : ∀ (l : List Op), insN (ex l) ≤ l.length
 | [] => Nat.le_refl _
 | o :: l => by
  have h : ∀ n, insN (List.replicate n .skip) = 0 := fun n => by
   induction n with
   | zero => rfl
   | succ n ih => rw [List.replicate_succ, insN, ih]
  have : insN (exO o) ≤ 1 := by
   unfold exO
   split
   ·rw [h]; omega
   ·split
    ·simp [insN]
    ·split <;> simp [insN]
  have := insN_ex l
  rw [ex_cons, insN_app, List.length_cons]; omega
theorem SmT.done {l : List Op} {ls r : List ByteArray} (hl : l.length ≤ 2199023255552) (h : Sm l) (hll : ls.length < 2199023255552) (hls : SmT ls) (hd : doU (ex l) ls = some r) : SmT r := by
 refine ⟨?_, fun y hy => ?_⟩
 ·have := doU_len _ _ _ hd
  have := insN_ex l
  omega
 ·rcases doU_mem _ _ _ hd y hy with h1 | ⟨x, hx, rfl⟩
  ·exact hls.2 y h1
  ·have he : ByteArray.empty.size = 0 := rfl
   rcases tx_ex hx with e | ⟨o, ho, e⟩
   ·rw [e, he]; omega
   ·rw [e]; exact h.2 o ho
theorem doL_true {l : List Op} {ls : List ByteArray} (h : (doL l ls).2 = true) : ∃ r, rightL l = true ∧ wholeL ls = true ∧ doU (ex l) ls = some r ∧ wholeL r = true ∧ doL l ls = (r, true) := by
 unfold doL at h ⊢
 split at h
 ·rename_i hc
  rw [if_pos hc]
  cases hd : doU (ex l) ls with
  | none => rw [hd] at h; simp [told] at h
  | some r =>
   rw [hd] at h
   simp only [told, List.nil_append] at h ⊢
   by_cases hw : wholeL r = true
   ·exact ⟨r, hc.1, hc.2, rfl, hw, by rw [if_pos hw]⟩
   ·rw [if_neg hw] at h; simp at h
 ·simp at h
theorem doL_of {l : List Op} {ls r : List ByteArray} (h1 : rightL l = true) (h2 : wholeL ls = true) (h3 : doU (ex l) ls = some r) (h4 : wholeL r = true) : doL l ls = (r, true) := by
 unfold doL
 rw [if_pos ⟨h1, h2⟩, h3, told, List.nil_append, if_pos h4]
theorem SmT.of_wt {l : List ByteArray} (h : (l.map fun s => s.size + 1).sum ≤ 2199023255551) : SmT l := by
 have hl := wt_len l
 refine ⟨by omega, fun x hx => ?_⟩
 have : x.size + 1 ≤ (l.map fun s => s.size + 1).sum := by
  clear h hl
  induction l with
  | nil => simp at hx
  | cons y l ih =>
   rw [List.map_cons, List.sum_cons]
   rcases List.mem_cons.mp hx with rfl | hx
   ·omega
   ·have := ih hx; omega
 omega
end Go.Proofs.Ytfoponahdidddaa.P
namespace Go.Proofs.Ytfoponahdidddaa.P
open Go.RowKit Go.Proofs.YtfoponahdidddaaW.PrintWords Go.Proofs.YtfoponahdidddaaW.PrintLast Go.Proofs.YtfoponahdidddaaW.PrintMore
def midT : U → U → Option (List TU)
 | .skip, .skip => some [(.skip, 0)]
 | .skip, .keep t => some [(.keep t, 0)]
 | .skip, .del t => some [(.del t, 2)]
 | .keep s, .skip => some [(.keep s, 0)]
 | .keep s, .keep t => if s = t then some [(.keep t, 0)] else none
 | .keep s, .del t => if s = t then some [(.del t, 2)] else none
 | .ins s, .skip => some [(.ins s, 1)]
 | .ins s, .keep t => if s = t then some [(.ins s, 1)] else none
 | .ins s, .del t => if s = t then some [(.ins s, 3)] else none
 | _, _ => none
def opnX : U → Bool
 | .skip => false
 | x => openT (txU x)
def opM (x y : U) : Bool := opnX x || opnX y
def inner (x : U) (f : Bool → List U → Option (List TU)) : Bool → List U → Option (List TU)
 | e, [] => if e = true then none else (midT x .skip).bind fun a => (f (opM x .skip) []).map (a ++ ·)
 | e, y :: q => match y with
  | .ins t => (inner x f e q).map ((.ins t, 2) :: ·)
  | y => if e = true then none else (midT x y).bind fun a => (f (opM x y) q).map (a ++ ·)
def endQ : Bool → List U → Option (List TU)
 | _, [] => some []
 | e, y :: q => match y with
  | .ins t => (endQ e q).map ((.ins t, 2) :: ·)
  | y => if e = true then none else (midT .skip y).bind fun a => (endQ (opM .skip y) q).map (a ++ ·)
def cmpT : List U → Bool → List U → Option (List TU)
 | [] => endQ
 | x :: p => match x with
  | .del t => fun e q => (cmpT p e q).map ((.del t, 1) :: ·)
  | x => inner x (cmpT p)
def nxU : List U → U
 | [] => .skip
 | x :: _ => x
def NoD (p : List U) : Prop := ∀ t r, p ≠ .del t :: r
def NoI (p : List U) : Prop := ∀ t r, p ≠ .ins t :: r
theorem cmpT_del (t : ByteArray) (p q : List U) (e : Bool) : cmpT (.del t :: p) e q = (cmpT p e q).map ((.del t, 1) :: ·) := rfl
theorem cmpT_ins {p : List U} (h : NoD p) (t : ByteArray) (q : List U) (e : Bool) : cmpT p e (.ins t :: q) = (cmpT p e q).map ((.ins t, 2) :: ·) := by
 cases p with
 | nil => rfl
 | cons x p => cases x <;> first | rfl | exact absurd rfl (h _ _)
theorem cmpT_mid {p q : List U} (hp : NoD p) (hq : NoI q) (hne : p ≠ [] ∨ q ≠ []) (e : Bool) :
  cmpT p e q = if e = true then none else (midT (nxU p) (nxU q)).bind fun a => (cmpT p.tail (opM (nxU p) (nxU q)) q.tail).map (a ++ ·) := by
 cases p with
 | nil =>
  cases q with
  | nil => simp at hne
  | cons y q => cases y <;> first | rfl | exact absurd rfl (hq _ _)
 | cons x p =>
  cases q with
  | nil => cases x <;> first | rfl | exact absurd rfl (hp _ _)
  | cons y q =>
   cases x <;> first | exact absurd rfl (hp _ _) | (cases y <;> first | rfl | exact absurd rfl (hq _ _))
theorem walk_ind {C : List U → List U → Prop} (nil : C [] []) (del : ∀ t p q, C p q → C (.del t :: p) q) (ins : ∀ t p q, NoD p → C p q → C p (.ins t :: q))
  (mid : ∀ p q, NoD p → NoI q → p ≠ [] ∨ q ≠ [] → C p.tail q.tail → C p q) : ∀ p q, C p q := by
 have all : ∀ n p q, p.length + q.length ≤ n → C p q := by
  intro n
  induction n with
  | zero =>
   intro p q h
   obtain rfl : p = [] := List.length_eq_zero_iff.mp (by omega)
   obtain rfl : q = [] := List.length_eq_zero_iff.mp (by omega)
   exact nil
  | succ n ih =>
   intro p q h
   by_cases hp : NoD p
   ·by_cases hq : NoI q
    ·by_cases hne : p ≠ [] ∨ q ≠ []
     ·refine mid p q hp hq hne (ih _ _ ?_)
      rw [List.length_tail, List.length_tail]
      rcases hne with h0 | h0
      ·have := List.length_pos_iff.mpr h0; omega
      ·have := List.length_pos_iff.mpr h0; omega
     ·have h1 : p = [] := Classical.byContradiction fun x => hne (.inl x)
      have h2 : q = [] := Classical.byContradiction fun x => hne (.inr x)
      rw [h1, h2]; exact nil
    ·cases q with
     | nil => exact absurd (fun t r e => by simp at e) hq
     | cons y q =>
      cases y with
      | ins t => exact ins t p q hp (ih _ _ (by simp only [List.length_cons] at h; omega))
      | skip => exact absurd (fun t r e => by simp at e) hq
      | keep t => exact absurd (fun t r e => by simp at e) hq
      | del t => exact absurd (fun t r e => by simp at e) hq
   ·cases p with
    | nil => exact absurd (fun t r e => by simp at e) hp
    | cons x p =>
     cases x with
     | del t => exact del t p q (ih _ _ (by simp only [List.length_cons] at h; omega))
     | skip => exact absurd (fun t r e => by simp at e) hp
     | keep t => exact absurd (fun t r e => by simp at e) hp
     | ins t => exact absurd (fun t r e => by simp at e) hp
 exact fun p q => all _ p q (Nat.le_refl _)
def un (w : List TU) : List U := (w.filter fun x => decide (x.2 ≠ 3)).map (·.1)
theorem un_app (a b : List TU) : un (a ++ b) = un a ++ un b := by simp [un]
theorem un_cons {x : TU} (h : x.2 ≠ 3) (w : List TU) : un (x :: w) = x.1 :: un w := by simp [un, h]
def midU (x y : U) : Option (List U) := (midT x y).map un
def cmpU (p : List U) (e : Bool) (q : List U) : Option (List U) := (cmpT p e q).map un
theorem cmpU_nil (e : Bool) : cmpU [] e [] = some [] := rfl
theorem cmpU_del (t : ByteArray) (p q : List U) (e : Bool) : cmpU (.del t :: p) e q = (cmpU p e q).map (.del t :: ·) := by
 unfold cmpU
 rw [cmpT_del, Option.map_map, Option.map_map]
 congr 1
theorem cmpU_ins {p : List U} (h : NoD p) (t : ByteArray) (q : List U) (e : Bool) : cmpU p e (.ins t :: q) = (cmpU p e q).map (.ins t :: ·) := by
 unfold cmpU
 rw [cmpT_ins h, Option.map_map, Option.map_map]
 congr 1
theorem cmpU_mid {p q : List U} (hp : NoD p) (hq : NoI q) (hne : p ≠ [] ∨ q ≠ []) (e : Bool) :
  cmpU p e q = if e = true then none else (midU (nxU p) (nxU q)).bind fun a => (cmpU p.tail (opM (nxU p) (nxU q)) q.tail).map (a ++ ·) := by
 unfold cmpU midU
 rw [cmpT_mid hp hq hne]
 split
 ·rfl
 ·cases midT (nxU p) (nxU q) with
  | none => rfl
  | some a =>
   simp only [Option.bind_some, Option.map_some, Option.map_map]
   congr 1
   funext r
   exact un_app a r
def AllDel (I : List U) : Prop := ∀ x ∈ I, ∃ t, x = .del t
theorem AllIns.one (t : ByteArray) : AllIns [.ins t] := fun x hx => ⟨t, List.mem_singleton.mp hx⟩
theorem AllDel.one (t : ByteArray) : AllDel [.del t] := fun x hx => ⟨t, List.mem_singleton.mp hx⟩
theorem AllDel.nil : AllDel [] := fun x h => by simp at h
theorem AllIns.tail {x : U} {I : List U} (h : AllIns (x :: I)) : AllIns I := fun y hy => h y (List.mem_cons_of_mem _ hy)
theorem AllIns.head {x : U} {I : List U} (h : AllIns (x :: I)) : ∃ t, x = .ins t := h x (List.mem_cons_self ..)
end Go.Proofs.Ytfoponahdidddaa.P
namespace Go.Proofs.Ytfoponahdidddaa.P
open Go.RowKit Go.Proofs.YtfoponahdidddaaW.PrintWords Go.Proofs.YtfoponahdidddaaW.PrintLast Go.Proofs.YtfoponahdidddaaW.PrintMore
inductive Cmp : List U → List U → List U → Prop
 | nil : Cmp [] [] []
 | del (t : ByteArray) {p q w : List U} : Cmp p q w → Cmp (.del t :: p) q (.del t :: w)
 | ins (t : ByteArray) {p q w : List U} : NoD p → Cmp p q w → Cmp p (.ins t :: q) (.ins t :: w)
 | mid {p q a w : List U} : NoD p → NoI q → p ≠ [] ∨ q ≠ [] → midU (nxU p) (nxU q) = some a → Cmp p.tail q.tail w → Cmp p q (a ++ w)
theorem Cmp.of : ∀ p q, ∀ (e : Bool) (w : List U), cmpU p e q = some w → Cmp p q w := by
 refine walk_ind ?_ ?_ ?_ ?_
 ·intro e w h
  rw [cmpU_nil] at h
  rw [← Option.some.inj h]; exact .nil
 ·intro t p q ih e w h
  rw [cmpU_del] at h
  obtain ⟨w', h', rfl⟩ := Option.map_eq_some_iff.mp h
  exact .del t (ih e w' h')
 ·intro t p q hp ih e w h
  rw [cmpU_ins hp] at h
  obtain ⟨w', h', rfl⟩ := Option.map_eq_some_iff.mp h
  exact .ins t hp (ih e w' h')
 ·intro p q hp hq hne ih e w h
  rw [cmpU_mid hp hq hne] at h
  split at h
  ·simp at h
  ·obtain ⟨a, ha, h⟩ := Option.bind_eq_some_iff.mp h
   obtain ⟨w', h', rfl⟩ := Option.map_eq_some_iff.mp h
   exact .mid hp hq hne ha (ih _ w' h')
end Go.Proofs.Ytfoponahdidddaa.P
namespace Go.Proofs.Ytfoponahdidddaa.P
open Go.RowKit Go.Proofs.YtfoponahdidddaaW.PrintWords Go.Proofs.YtfoponahdidddaaW.PrintLast Go.Proofs.YtfoponahdidddaaW.PrintMore
def okAll (l : List Op) : Prop := ∀ o ∈ l, okOne o = true
theorem okAll.tail {o : Op} {l : List Op} (h : okAll (o :: l)) : okAll l := fun x hx => h x (List.mem_cons_of_mem _ hx)
theorem okAll.head {o : Op} {l : List Op} (h : okAll (o :: l)) : okOne o = true := h o (List.mem_cons_self ..)
def exS (os : List Step) : List TU := os.flatMap fun s => (exO s.f0).map fun u => (u, if s.f2 = true then 3 else s.f1)
theorem exS_cons (s : Step) (os : List Step) : exS (s :: os) = (exO s.f0).map (fun u => (u, if s.f2 = true then 3 else s.f1)) ++ exS os := by simp [exS]
def uO (o : Op) : U := if o.f0 = 1 then .skip else if o.f0 = 2 then .keep o.f2 else if o.f0 = 3 then .del o.f2 else .ins o.f2
theorem exO_skip {o : Op} (hk : o.f0 = 1) : exO o = List.replicate o.f1.toNat .skip := by simp [exO, hk]
theorem exO_ne {o : Op} (hk : o.f0 ≠ 1) : exO o = [uO o] := by
 unfold exO uO
 rw [if_neg hk, if_neg hk]
 split
 ·rfl
 ·split <;> rfl
theorem wrapsub {a n : Int} (h1 : 1 ≤ n) (h2 : n < a) (h3 : a ≤ 2147483648) : wrap64 (a - n) = a - n := by unfold wrap64; omega
theorem okAll.drop {ps : List Op} (h : okAll ps) {n : Int} (hn : 1 ≤ n) : okAll (dropL ps n) := by
 cases ps with
 | nil => exact h
 | cons o r =>
  rw [dropL]
  split
  ·rename_i c
   intro x hx
   rcases List.mem_cons.mp hx with rfl | hx
   ·obtain ⟨h1, h2, h3⟩ := okOne_skip h.head c.1
    unfold okOne
    rw [if_pos c.1, wrapsub hn c.2 h2, h3]
    have a1 : 1 ≤ o.f1 - n := by omega
    have a2 : o.f1 - n ≤ 2147483648 := by omega
    simp [a1, a2]
   ·exact h.tail x hx
  ·exact h.tail
theorem drop_len (ps : List Op) (n : Int) : (dropL ps n).length ≤ ps.length := by
 cases ps with
 | nil => exact Nat.le_refl _
 | cons o r => rw [dropL]; split <;> simp
theorem replicate_toNat {a : Int} (h : 1 ≤ a) : List.replicate a.toNat U.skip = .skip :: List.replicate (a - 1).toNat .skip := by
 rw [show a.toNat = (a - 1).toNat + 1 from by omega, List.replicate_succ]
theorem tail1 {ps : List Op} (h : okAll ps) : ex (dropL ps 1) = (ex ps).tail := by
 cases ps with
 | nil => rfl
 | cons o r =>
  by_cases hk : o.f0 = 1
  ·obtain ⟨h1, h2, h3⟩ := okOne_skip h.head hk
   rw [ex_cons, exO_skip hk, replicate_toNat h1]
   rw [dropL]
   by_cases c : o.f1 > 1
   ·rw [if_pos ⟨hk, c⟩, ex_cons, exO_skip (o := ⟨o.f0, wrap64 (o.f1 - 1), o.f2⟩) hk, wrapsub (by omega) c h2]; rfl
   ·rw [if_neg (fun x => c x.2), show (o.f1 - 1).toNat = 0 from by omega]; rfl
  ·rw [dropL]
   rw [if_neg (fun x => hk x.1), ex_cons, exO_ne hk]; rfl
theorem dropSkip {ps : List Op} (h : okAll ps) {n : Int} (hn : 1 ≤ n) (hk : (nextL ps 2147483648).f0 = 1) (hle : n ≤ (nextL ps 2147483648).f1) :
  ex ps = List.replicate n.toNat .skip ++ ex (dropL ps n) ∨ ex ps = [] ∧ ex (dropL ps n) = [] := by
 cases ps with
 | nil => exact .inr ⟨rfl, rfl⟩
 | cons o r =>
  left
  have hk : o.f0 = 1 := hk
  have hle : n ≤ o.f1 := hle
  obtain ⟨h1, h2, h3⟩ := okOne_skip h.head hk
  rw [dropL]
  by_cases c : o.f1 > n
  ·rw [if_pos ⟨hk, c⟩, ex_cons, ex_cons, exO_skip hk, exO_skip (o := ⟨o.f0, wrap64 (o.f1 - n), o.f2⟩) hk, wrapsub hn c h2, ← List.append_assoc, List.replicate_append_replicate]
   congr 2
   show o.f1.toNat = n.toNat + (o.f1 - n).toNat
   omega
  ·rw [if_neg (fun x => c x.2), ex_cons, exO_skip hk, show o.f1 = n from by omega]
theorem cmpT_skips : ∀ (n : Nat) (p q p' q' : List U), (p = List.replicate (n + 1) .skip ++ p' ∨ p = [] ∧ p' = []) → (q = List.replicate (n + 1) .skip ++ q' ∨ q = [] ∧ q' = []) → (p ≠ [] ∨ q ≠ []) →
  cmpT p false q = (cmpT p' false q').map (List.replicate (n + 1) ((.skip, 0) : TU) ++ ·) := by
 have hd : ∀ (n : Nat) (p p' : List U), (p = List.replicate (n + 1) .skip ++ p' ∨ p = [] ∧ p' = []) → nxU p = .skip ∧ NoD p ∧ NoI p ∧ (p.tail = List.replicate n .skip ++ p' ∨ p.tail = [] ∧ p' = []) := by
  intro n p p' h
  rcases h with rfl | ⟨rfl, rfl⟩
  ·rw [List.replicate_succ]
   exact ⟨rfl, fun t r e => by simp at e, fun t r e => by simp at e, .inl rfl⟩
  ·exact ⟨rfl, fun t r e => by simp at e, fun t r e => by simp at e, .inr ⟨rfl, rfl⟩⟩
 intro n
 induction n with
 | zero =>
  intro p q p' q' hp hq hne
  obtain ⟨p1, p2, _, p4⟩ := hd 0 p p' hp
  obtain ⟨q1, _, q3, q4⟩ := hd 0 q q' hq
  rw [cmpT_mid p2 q3 hne, p1, q1, if_neg (by simp)]
  have e1 : p.tail = p' := by rcases p4 with h | ⟨h, h'⟩ <;> simp [h, *]
  have e2 : q.tail = q' := by rcases q4 with h | ⟨h, h'⟩ <;> simp [h, *]
  rw [e1, e2]; rfl
 | succ n ih =>
  intro p q p' q' hp hq hne
  obtain ⟨p1, p2, _, p4⟩ := hd (n + 1) p p' hp
  obtain ⟨q1, _, q3, q4⟩ := hd (n + 1) q q' hq
  rw [cmpT_mid p2 q3 hne, p1, q1, if_neg (by simp)]
  have hne' : p.tail ≠ [] ∨ q.tail ≠ [] := by
   rcases hp with rfl | ⟨rfl, rfl⟩
   ·left; simp [List.replicate_succ]
   ·rcases hq with rfl | ⟨rfl, rfl⟩
    ·right; simp [List.replicate_succ]
    ·simp at hne
  show (some [((.skip, 0) : TU)]).bind (fun a => (cmpT p.tail (opM .skip .skip) q.tail).map (a ++ ·)) = _
  rw [Option.bind_some, show opM .skip .skip = false from rfl, ih p.tail q.tail p' q' p4 q4 hne', Option.map_map, List.replicate_succ (n := n + 1)]
  rfl
theorem nx_ex {ps : List Op} (h : okAll ps) : nxU (ex ps) = uO (nextL ps 2147483648) := by
 cases ps with
 | nil => rfl
 | cons o r =>
  show nxU (ex (o :: r)) = uO o
  rw [ex_cons]
  by_cases hk : o.f0 = 1
  ·rw [exO_skip hk, replicate_toNat (okOne_skip h.head hk).1]; simp [uO, hk, nxU]
  ·rw [exO_ne hk]; rfl
theorem ex_ne_nil {o : Op} {r : List Op} (h : okOne o = true) : ex (o :: r) ≠ [] := by
 rw [ex_cons]
 by_cases hk : o.f0 = 1
 ·rw [exO_skip hk, replicate_toNat (okOne_skip h hk).1]; simp
 ·rw [exO_ne hk]; simp
theorem head_cases {ps : List Op} (h : okAll ps) : NoD (ex ps) ∨ ∃ o r, ps = o :: r ∧ o.f0 = 3 ∧ ex ps = .del o.f2 :: ex r := by
 cases ps with
 | nil => exact .inl fun t r e => by simp [ex] at e
 | cons o r =>
  by_cases hk : o.f0 = 3
  ·exact .inr ⟨o, r, rfl, hk, by rw [ex_cons, exO_ne (by omega)]; simp [uO, hk]⟩
  ·left
   intro t s e
   have := nx_ex h
   rw [e] at this
   have hu : uO o = .del t := this.symm
   unfold uO at hu
   split at hu
   ·simp at hu
   ·split at hu
    ·simp at hu
    ·simp [hk] at hu
theorem head_casesI {ps : List Op} (h : okAll ps) : NoI (ex ps) ∨ ∃ o r, ps = o :: r ∧ o.f0 = 4 ∧ ex ps = .ins o.f2 :: ex r := by
 cases ps with
 | nil => exact .inl fun t r e => by simp [ex] at e
 | cons o r =>
  by_cases hk : o.f0 = 4
  ·exact .inr ⟨o, r, rfl, hk, by rw [ex_cons, exO_ne (by omega)]; simp [uO, hk]⟩
  ·left
   intro t s e
   have := nx_ex h
   rw [e] at this
   have hu : uO o = .ins t := this.symm
   unfold uO at hu
   by_cases h1 : o.f0 = 1
   ·simp [h1] at hu
   ·obtain ⟨h2, _⟩ := okOne_ne h.head h1
    rcases h2 with h2 | h2 | h2
    ·simp [h2] at hu
    ·simp [h2] at hu
    ·exact hk h2
theorem hdK_iff {k : Int} {ps : List Op} : hdK k ps = true ↔ ∃ o r, ps = o :: r ∧ o.f0 = k := by
 cases ps with
 | nil => simp [hdK]
 | cons o r => simp [hdK]
theorem opnB_right {t : ByteArray} (h : rightT t = true) : opnB t = openT t := by
 unfold rightT at h
 simp only [Bool.and_eq_true, decide_eq_true_eq] at h
 have : t ≠ ⟨#[]⟩ := fun e => h.1 (by rw [e])
 unfold opnB openT
 simp [this]
theorem app_mt (t : ByteArray) : t ++ ByteArray.empty = t := by
 apply WideShapes.bytes_inj; simp
theorem mt_app (t : ByteArray) : ByteArray.empty ++ t = t := by
 apply WideShapes.bytes_inj; simp
theorem nextL_ok {ps : List Op} (h : okAll ps) : okOne (nextL ps 2147483648) = true := by
 cases ps with
 | nil => rfl
 | cons o r => exact h.head
theorem mid_line {x y : Op} (hx : okOne x = true) (hy : okOne y = true) (h3 : x.f0 ≠ 3) (h4 : y.f0 ≠ 4) (hn : ¬ (x.f0 = 1 ∧ y.f0 = 1)) (hno : noneL x y false = false) :
  (lineL x y).2.1 = 1 ∧ midT (uO x) (uO y) = some (exS [(lineL x y).2.2]) ∧ opM (uO x) (uO y) = opnB (lineL x y).1 := by
 have hxs : x.f0 = 1 → x.f2 = ByteArray.empty := fun h => (okOne_skip hx h).2.2
 have hys : y.f0 = 1 → y.f2 = ByteArray.empty := fun h => (okOne_skip hy h).2.2
 have hxr : x.f0 ≠ 1 → opnB x.f2 = openT x.f2 := fun h => opnB_right (okOne_ne hx h).2.2
 have hyr : y.f0 ≠ 1 → opnB y.f2 = openT y.f2 := fun h => opnB_right (okOne_ne hy h).2.2
 have kx : x.f0 = 1 ∨ x.f0 = 2 ∨ x.f0 = 4 := by
  by_cases h : x.f0 = 1
  ·exact .inl h
  ·rcases (okOne_ne hx h).1 with h | h | h
   ·exact .inr (.inl h)
   ·exact absurd h h3
   ·exact .inr (.inr h)
 have ky : y.f0 = 1 ∨ y.f0 = 2 ∨ y.f0 = 3 := by
  by_cases h : y.f0 = 1
  ·exact .inl h
  ·rcases (okOne_ne hy h).1 with h | h | h
   ·exact .inr (.inl h)
   ·exact .inr (.inr h)
   ·exact absurd h h4
 have ht : x.f0 ≠ 1 → y.f0 ≠ 1 → x.f2 = y.f2 := by
  intro h1 h2
  unfold noneL at hno
  simp [h1, h2] at hno
  exact hno
 have eo : ∀ o : Op, o.f0 ≠ 1 → ∀ b : Int, ∀ g : Bool, exS [(⟨o, b, g⟩ : Step)] = [(uO o, if g = true then 3 else b)] := by
  intro o h b g
  rw [exS_cons, exO_ne h]; rfl
 rcases kx with kx | kx | kx <;> rcases ky with ky | ky | ky
 ·exact absurd ⟨kx, ky⟩ hn
 ·have e := hxs kx
  refine ⟨by simp [lineL, kx, ky], ?_, ?_⟩
  ·simp [lineL, kx, ky, eo, uO, midT]
  ·simp [lineL, kx, ky, uO, opM, opnX, txU, e, mt_app, hyr]
 ·have e := hxs kx
  refine ⟨by simp [lineL, kx, ky], ?_, ?_⟩
  ·simp [lineL, kx, ky, eo, uO, midT]
  ·simp [lineL, kx, ky, uO, opM, opnX, txU, e, mt_app, hyr]
 ·have e := hys ky
  refine ⟨by simp [lineL, kx, ky], ?_, ?_⟩
  ·simp [lineL, kx, ky, eo, uO, midT]
  ·simp [lineL, kx, ky, uO, opM, opnX, txU, e, app_mt, hxr]
 ·have e := ht (by omega) (by omega)
  refine ⟨by simp [lineL, kx, ky], ?_, ?_⟩
  ·simp [lineL, kx, ky, eo, uO, midT, e]
  ·simp [lineL, kx, ky, uO, opM, opnX, txU, e, hyr]
 ·have e := ht (by omega) (by omega)
  refine ⟨by simp [lineL, kx, ky], ?_, ?_⟩
  ·simp [lineL, kx, ky, eo, uO, midT, e]
  ·simp [lineL, kx, ky, uO, opM, opnX, txU, e, hyr]
 ·have e := hys ky
  refine ⟨by simp [lineL, kx, ky], ?_, ?_⟩
  ·simp [lineL, kx, ky, eo, uO, midT]
  ·simp [lineL, kx, ky, uO, opM, opnX, txU, e, app_mt, hxr]
 ·have e := ht (by omega) (by omega)
  refine ⟨by simp [lineL, kx, ky], ?_, ?_⟩
  ·simp [lineL, kx, ky, eo, uO, midT, e]
  ·simp [lineL, kx, ky, uO, opM, opnX, txU, e, hyr]
 ·have e := ht (by omega) (by omega)
  refine ⟨by simp [lineL, kx, ky], ?_, ?_⟩
  ·simp [lineL, kx, ky, eo, uO, midT, e]
  ·simp [lineL, kx, ky, uO, opM, opnX, txU, e, hyr]
theorem drop_both {ps qs : List Op} (hp : okAll ps) (hq : okAll qs) (hne : ps.length + qs.length ≠ 0) :
  1 ≤ (lineL (nextL ps 2147483648) (nextL qs 2147483648)).2.1 ∧ (dropL ps (lineL (nextL ps 2147483648) (nextL qs 2147483648)).2.1).length + (dropL qs (lineL (nextL ps 2147483648) (nextL qs 2147483648)).2.1).length < ps.length + qs.length := by
 have a := drop_len ps
 have b := drop_len qs
 generalize hx : nextL ps 2147483648 = x
 generalize hy : nextL qs 2147483648 = y
 have ox : okOne x = true := hx ▸ nextL_ok hp
 have oy : okOne y = true := hy ▸ nextL_ok hq
 have en : ps = [] → x.f0 = 1 ∧ x.f1 = 2147483648 := by rintro rfl; rw [← hx]; exact ⟨rfl, rfl⟩
 have eq : qs = [] → y.f0 = 1 ∧ y.f1 = 2147483648 := by rintro rfl; rw [← hy]; exact ⟨rfl, rfl⟩
 have fp : ∀ n : Int, ps ≠ [] → ¬ (x.f0 = 1 ∧ x.f1 > n) → (dropL ps n).length < ps.length := by
  intro n hl hc
  cases ps with
  | nil => exact absurd rfl hl
  | cons o r =>
   have : o = x := hx
   subst this
   rw [dropL]
   rw [if_neg hc]; simp
 have fq : ∀ n : Int, qs ≠ [] → ¬ (y.f0 = 1 ∧ y.f1 > n) → (dropL qs n).length < qs.length := by
  intro n hl hc
  cases qs with
  | nil => exact absurd rfl hl
  | cons o r =>
   have : o = y := hy
   subst this
   rw [dropL]
   rw [if_neg hc]; simp
 by_cases kx : x.f0 = 1
 ·obtain ⟨x1, x2, _⟩ := okOne_skip ox kx
  by_cases ky : y.f0 = 1
  ·obtain ⟨y1, y2, _⟩ := okOne_skip oy ky
   have e : (lineL x y).2.1 = min x.f1 y.f1 := by simp [lineL, kx, ky]
   rw [e]
   refine ⟨by omega, ?_⟩
   have ap := a (min x.f1 y.f1)
   have bq := b (min x.f1 y.f1)
   by_cases ep : ps = []
   ·have eqn : qs ≠ [] := fun h => hne (by simp [ep, h])
    have := fq (min x.f1 y.f1) eqn (fun h => by have := (en ep).2; omega)
    omega
   ·by_cases eqq : qs = []
    ·have := fp (min x.f1 y.f1) ep (fun h => by have := (eq eqq).2; omega)
     omega
    ·by_cases hm : x.f1 ≤ y.f1
     ·have := fp (min x.f1 y.f1) ep (fun h => by omega)
      omega
     ·have := fq (min x.f1 y.f1) eqq (fun h => by omega)
      omega
  ·have e : (lineL x y).2.1 = 1 := by simp [lineL, kx, ky]
   rw [e]
   have eqn : qs ≠ [] := fun h => ky (eq h).1
   have := fq 1 eqn (fun h => ky h.1)
   have := a 1
   exact ⟨by omega, by omega⟩
 ·have e : (lineL x y).2.1 = 1 := by
   by_cases ky : y.f0 = 1 <;> simp [lineL, kx, ky]
  rw [e]
  have epn : ps ≠ [] := fun h => kx (en h).1
  have := fp 1 epn (fun h => kx h.1)
  have := b 1
  exact ⟨by omega, by omega⟩
theorem walkO_cmp : ∀ (n : Nat) (ps qs : List Op) (e : Bool), ps.length + qs.length ≤ n → okAll ps → okAll qs → (walkO n ps qs e).map exS = cmpT (ex ps) e (ex qs) := by
 intro n
 induction n with
 | zero =>
  intro ps qs e h hp hq
  obtain rfl : ps = [] := List.length_eq_zero_iff.mp (by omega)
  obtain rfl : qs = [] := List.length_eq_zero_iff.mp (by omega)
  rfl
 | succ n ih =>
  intro ps qs e h hp hq
  rw [walkO]
  by_cases h0 : ps.length + qs.length = 0
  ·rw [if_pos h0]
   obtain rfl : ps = [] := List.length_eq_zero_iff.mp (by omega)
   obtain rfl : qs = [] := List.length_eq_zero_iff.mp (by omega)
   rfl
  rw [if_neg h0]
  by_cases hd : hdK 3 ps = true
  ·rw [if_pos hd]
   obtain ⟨o, r, rfl, hk⟩ := hdK_iff.mp hd
   have ee : ex (o :: r) = .del o.f2 :: ex r := by rw [ex_cons, exO_ne (by omega)]; simp [uO, hk]
   simp only [List.length_cons] at h
   rw [ee, cmpT_del, ← ih r qs e (by omega) hp.tail hq, Option.map_map, Option.map_map]
   congr 1
   funext os
   show exS (⟨o, 1, false⟩ :: os) = _
   rw [exS_cons, exO_ne (by show o.f0 ≠ 1; omega)]
   simp [uO, hk]
  rw [if_neg hd]
  have nd : NoD (ex ps) := by
   rcases head_cases hp with h | ⟨o, r, e1, e2, _⟩
   ·exact h
   ·exact absurd (hdK_iff.mpr ⟨o, r, e1, e2⟩) hd
  by_cases hi : hdK 4 qs = true
  ·rw [if_pos hi]
   obtain ⟨o, r, rfl, hk⟩ := hdK_iff.mp hi
   have ee : ex (o :: r) = .ins o.f2 :: ex r := by rw [ex_cons, exO_ne (by omega)]; simp [uO, hk]
   simp only [List.length_cons] at h
   rw [ee, cmpT_ins nd, ← ih ps r e (by omega) hp hq.tail, Option.map_map, Option.map_map]
   congr 1
   funext os
   show exS (⟨o, 2, false⟩ :: os) = _
   rw [exS_cons, exO_ne (by show o.f0 ≠ 1; omega)]
   simp [uO, hk]
  rw [if_neg hi]
  have ni : NoI (ex qs) := by
   rcases head_casesI hq with h | ⟨o, r, e1, e2, _⟩
   ·exact h
   ·exact absurd (hdK_iff.mpr ⟨o, r, e1, e2⟩) hi
  have hne : ex ps ≠ [] ∨ ex qs ≠ [] := by
   cases ps with
   | nil =>
    cases qs with
    | nil => simp at h0
    | cons o r => exact .inr (ex_ne_nil hq.head)
   | cons o r => exact .inl (ex_ne_nil hp.head)
  obtain ⟨d1, d2⟩ := drop_both hp hq h0
  have nx := nx_ex hp
  have ny := nx_ex hq
  have ox := nextL_ok hp
  have oy := nextL_ok hq
  have x3 : (nextL ps 2147483648).f0 ≠ 3 := by
   intro h3
   cases ps with
   | nil => simp [nextL] at h3
   | cons o r => exact hd (hdK_iff.mpr ⟨o, r, rfl, h3⟩)
  have y4 : (nextL qs 2147483648).f0 ≠ 4 := by
   intro h3
   cases qs with
   | nil => simp [nextL] at h3
   | cons o r => exact hi (hdK_iff.mpr ⟨o, r, rfl, h3⟩)
  have i := ih (dropL ps (lineL (nextL ps 2147483648) (nextL qs 2147483648)).2.1) (dropL qs (lineL (nextL ps 2147483648) (nextL qs 2147483648)).2.1) (opnB (lineL (nextL ps 2147483648) (nextL qs 2147483648)).1) (by omega) (hp.drop d1) (hq.drop d1)
  have dsp := fun (n : Int) hn hk hle => dropSkip hp (n := n) hn hk hle
  have dsq := fun (n : Int) hn hk hle => dropSkip hq (n := n) hn hk hle
  generalize nextL ps 2147483648 = x at *
  generalize nextL qs 2147483648 = y at *
  by_cases hno : noneL x y e = true
  ·rw [if_pos hno, cmpT_mid nd ni hne]
   show none = _
   cases e with
   | true => rfl
   | false =>
    rw [if_neg (by simp), nx, ny]
    unfold noneL at hno
    simp only [Bool.false_or, Bool.and_eq_true, decide_eq_true_eq] at hno
    obtain ⟨⟨hx, hy⟩, hxy⟩ := hno
    have : midT (uO x) (uO y) = none := by
     rcases (okOne_ne ox hx).1 with kx | kx | kx <;> rcases (okOne_ne oy hy).1 with ky | ky | ky <;> first | exact absurd kx x3 | exact absurd ky y4 | simp [uO, kx, ky, midT, hxy]
    rw [this]; rfl
  rw [if_neg hno]
  have e0 : e = false := by
   cases e with
   | false => rfl
   | true => exact absurd rfl hno
  subst e0
  have hno' : noneL x y false = false := by simpa using hno
  rw [Option.map_map]
  by_cases hs : x.f0 = 1 ∧ y.f0 = 1
  ·obtain ⟨kx, ky⟩ := hs
   obtain ⟨x1, x2, _⟩ := okOne_skip ox kx
   obtain ⟨y1, y2, _⟩ := okOne_skip oy ky
   have el : lineL x y = (x.f2 ++ y.f2, min x.f1 y.f1, ⟨⟨1, min x.f1 y.f1, ⟨#[]⟩⟩, 0, false⟩) := by simp [lineL, kx, ky]
   have eb : opnB (lineL x y).1 = false := by
    have e1 := (okOne_skip ox kx).2.2
    have e2 := (okOne_skip oy ky).2.2
    rw [el]
    show opnB (x.f2 ++ y.f2) = false
    rw [e1, e2, app_mt]; rfl
   rw [eb] at i
   rw [el] at i d1 ⊢
   simp only at i d1 ⊢
   obtain ⟨m, hm⟩ : ∃ m : Nat, (min x.f1 y.f1).toNat = m + 1 := ⟨(min x.f1 y.f1).toNat - 1, by omega⟩
   have a1 := dsp (min x.f1 y.f1) d1 kx (by omega)
   have a2 := dsq (min x.f1 y.f1) d1 ky (by omega)
   rw [hm] at a1 a2
   rw [cmpT_skips m _ _ _ _ a1 a2 hne, ← i, Option.map_map]
   have : ∀ o : Option (List Step), o.map (exS ∘ (fun os => (⟨⟨1, min x.f1 y.f1, ⟨#[]⟩⟩, 0, false⟩ : Step) :: os)) = o.map ((fun w => List.replicate (m + 1) ((.skip, 0) : TU) ++ w) ∘ exS) := by
    intro o
    congr 1
    funext os
    show exS (_ :: os) = _ ++ exS os
    rw [exS_cons, exO_skip rfl]
    show List.map _ (List.replicate (min x.f1 y.f1).toNat U.skip) ++ _ = _
    rw [hm, List.map_replicate]; rfl
   have eb' : opnB (x.f2 ++ y.f2) = false := by rw [el] at eb; exact eb
   rw [eb']
   exact this _
  ·obtain ⟨m1, m2, m3⟩ := mid_line ox oy x3 y4 hs hno'
   rw [m1] at i ⊢
   rw [cmpT_mid nd ni hne, if_neg (by simp), nx, ny, m2, Option.bind_some, m3, ← tail1 hp, ← tail1 hq, ← i, Option.map_map]
   congr 1
   funext os
   show exS (_ :: os) = exS [_] ++ exS os
   rw [exS_cons, exS_cons]
   simp [exS]
def Sx (l : List Op) : Prop := l.length ≤ 274877906944 ∧ ∀ o ∈ l, o.f2.size < 1073741824
theorem Sx.sm {l : List Op} (h : Sx l) : Sm l := ⟨by have := h.1; omega, fun o ho => by have := h.2 o ho; omega⟩
theorem Sx.of_few {l : List Op} (h : fewN l ≤ 600) : Sx l := by
 refine ⟨by have := fewN_len l; omega, fun o ho => ?_⟩
 have : ∀ l : List Op, o ∈ l → 1 + o.f2.size ≤ fewN l := by
  intro l
  induction l with
  | nil => intro h; simp at h
  | cons x l ih =>
   intro h
   have e : fewN (x :: l) = (1 + x.f2.size) + fewN l := by simp [fewN]
   rcases List.mem_cons.mp h with rfl | h
   ·omega
   ·have := ih h; omega
 have := this l ho
 omega
def stepsL (os : List Step) : List Op := (os.filter fun s => !s.f2).map (·.f0)
theorem stepsL_cons (s : Step) (os : List Step) : stepsL (s :: os) = (if s.f2 = true then [] else [s.f0]) ++ stepsL os := by
 cases h : s.f2 <;> simp [stepsL, h]
def goodS (s : Step) : Prop := (okOne s.f0 = true ∧ s.f0.f2.size < 1073741824) ∧ (s.f1 = 0 ∨ s.f1 = 1 ∨ s.f1 = 2)
def okX (l : List Op) : Prop := ∀ o ∈ l, okOne o = true ∧ o.f2.size < 1073741824
theorem okX.all {l : List Op} (h : okX l) : okAll l := fun o ho => (h o ho).1
theorem okX.drop {l : List Op} (h : okX l) {n : Int} (hn : 1 ≤ n) : okX (dropL l n) := by
 intro o ho
 refine ⟨h.all.drop hn o ho, ?_⟩
 cases l with
 | nil => exact absurd ho (by simp [dropL])
 | cons x r =>
  rw [dropL] at ho
  split at ho
  ·rcases List.mem_cons.mp ho with rfl | ho
   ·exact (h x (List.mem_cons_self ..)).2
   ·exact (h o (List.mem_cons_of_mem _ ho)).2
  ·exact (h o (List.mem_cons_of_mem _ ho)).2
theorem nextL_okX {l : List Op} (h : okX l) : okOne (nextL l 2147483648) = true ∧ (nextL l 2147483648).f2.size < 1073741824 := by
 cases l with
 | nil => exact ⟨rfl, (by decide : (0 : Nat) < 1073741824)⟩
 | cons o r => exact h o (List.mem_cons_self ..)
theorem line_good {x y : Op} (hx : okOne x = true ∧ x.f2.size < 1073741824) (hy : okOne y = true ∧ y.f2.size < 1073741824) : goodS (lineL x y).2.2 := by
 unfold lineL goodS
 by_cases kx : x.f0 = 1
 ·by_cases ky : y.f0 = 1
  ·obtain ⟨x1, x2, _⟩ := okOne_skip hx.1 kx
   obtain ⟨y1, y2, _⟩ := okOne_skip hy.1 ky
   have a1 : 1 ≤ min x.f1 y.f1 := by omega
   have a2 : min x.f1 y.f1 ≤ 2147483648 := by omega
   simp only [kx, ky, ne_eq, not_true_eq_false, false_and, if_false]
   refine ⟨⟨?_, (by decide : (0 : Nat) < 1073741824)⟩, by simp⟩
   unfold okOne
   simp [a1, a2]
  ·simp only [kx, ky, ne_eq, not_true_eq_false, not_false_eq_true, false_and, if_false, if_true]
   exact ⟨hy, by split <;> simp⟩
 ·by_cases ky : y.f0 = 1
  ·simp only [kx, ky, ne_eq, not_true_eq_false, not_false_eq_true, and_false, if_false, if_true]
   exact ⟨hx, by split <;> simp⟩
  ·simp only [kx, ky, ne_eq, not_false_eq_true, and_self, if_true]
   split
   ·exact ⟨hy, by dsimp only; split <;> simp⟩
   ·split
    ·exact ⟨hx, .inr (.inl rfl)⟩
    ·exact ⟨hx, .inr (.inl rfl)⟩
theorem walkO_good : ∀ (n : Nat) (ps qs : List Op) (e : Bool) (os : List Step), okX ps → okX qs → walkO n ps qs e = some os → (∀ s ∈ os, goodS s) ∧ os.length ≤ n := by
 intro n
 induction n with
 | zero =>
  intro ps qs e os _ _ h
  obtain rfl : os = [] := (Option.some.inj h).symm
  exact ⟨fun s hs => by simp at hs, Nat.le_refl _⟩
 | succ n ih =>
  intro ps qs e os hp hq h
  rw [walkO] at h
  have cons : ∀ (s : Step) (os' : List Step), goodS s → (∀ x ∈ os', goodS x) ∧ os'.length ≤ n → (∀ x ∈ s :: os', goodS x) ∧ (s :: os').length ≤ n + 1 := by
   intro s os' hs hr
   refine ⟨fun x hx => ?_, by simp only [List.length_cons]; omega⟩
   rcases List.mem_cons.mp hx with rfl | hx
   ·exact hs
   ·exact hr.1 x hx
  split at h
  ·obtain rfl : os = [] := (Option.some.inj h).symm
   exact ⟨fun s hs => by simp at hs, by simp⟩
  ·rename_i h0
   split at h
   ·rename_i hd
    obtain ⟨o, r, rfl, hk⟩ := hdK_iff.mp hd
    obtain ⟨os', h', rfl⟩ := Option.map_eq_some_iff.mp h
    exact cons _ _ ⟨hp o (List.mem_cons_self ..), .inr (.inl rfl)⟩ (ih r qs e os' (fun x hx => hp x (List.mem_cons_of_mem _ hx)) hq h')
   ·split at h
    ·rename_i hi
     obtain ⟨o, r, rfl, hk⟩ := hdK_iff.mp hi
     obtain ⟨os', h', rfl⟩ := Option.map_eq_some_iff.mp h
     exact cons _ _ ⟨hq o (List.mem_cons_self ..), .inr (.inr rfl)⟩ (ih ps r e os' hp (fun x hx => hq x (List.mem_cons_of_mem _ hx)) h')
    ·split at h
     ·simp at h
     ·obtain ⟨os', h', rfl⟩ := Option.map_eq_some_iff.mp h
      obtain ⟨d1, _⟩ := drop_both hp.all hq.all h0
      exact cons _ _ (line_good (nextL_okX hp) (nextL_okX hq)) (ih _ _ _ os' (hp.drop d1) (hq.drop d1) h')
theorem ex_steps : ∀ (os : List Step), (∀ s ∈ os, goodS s) → ex (stepsL os) = un (exS os)
 | [], _ => rfl
 | s :: os, h => by
  have i := ex_steps os fun x hx => h x (List.mem_cons_of_mem _ hx)
  obtain ⟨_, h2⟩ := h s (List.mem_cons_self ..)
  rw [stepsL_cons, exS_cons, un_app, ex_app, i]
  congr 1
  cases hg : s.f2
  ·have : s.f1 ≠ 3 := by omega
   have e : ∀ l : List U, un (l.map fun u => ((u, s.f1) : TU)) = l := by
    intro l
    induction l with
    | nil => rfl
    | cons u l ih =>
     rw [List.map_cons, un_cons (by exact this), ih]
   simp only [Bool.false_eq_true, if_false, ex_cons, ex_nil, List.append_nil]
   exact (e _).symm
  ·simp [un, ex]
def thenU (p q : List U) : Option (List U) := (cmpU p false q).bind fun u => if rightU u = true then some (nf [] u) else none
def thenL (p q : List Op) : List Op × Bool := if rightL p = true ∧ rightL q = true then (match thenU (ex p) (ex q) with | some u => (pack u, true) | none => ([], false)) else ([], false)
theorem rightL_okX {l : List Op} (h : rightL l = true) (hs : Sx l) : okX l := fun o ho => ⟨(rightL_ok h).1 o ho, hs.2 o ho⟩
theorem okX_W {l : List Op} (h : okX l) : l.all okW1 = true := by
 rw [List.all_eq_true]
 intro o ho
 obtain ⟨h1, h2⟩ := h o ho
 unfold okW1
 by_cases hk : o.f0 = 1
 ·obtain ⟨a, b, _⟩ := okOne_skip h1 hk
  simp [hk, a, b, h2]
 ·simp [hk, h2]
theorem okX_R {l : List Op} (h : okX l) : l.all okR1 = true := by
 rw [List.all_eq_true]
 intro o ho
 have hw := (List.all_eq_true.mp (okX_W h)) o ho
 obtain ⟨h1, h2⟩ := h o ho
 unfold okR1
 rw [hw]
 by_cases hk : o.f0 = 1
 ·obtain ⟨a, b, c⟩ := okOne_skip h1 hk
  simp [hk, c]
  rfl
 ·obtain ⟨a, b, c⟩ := okOne_ne h1 hk
  have ht : o.f2 ≠ ⟨#[]⟩ := by
   intro e
   rw [e] at c
   exact absurd c (by decide)
  simp [hk, ht, a]
theorem okW_of {p q : List Op} (hp : okX p) (hq : okX q) (h : p.length + q.length ≤ 1099511627776) : okW p q = true := by
 unfold okW
 rw [okX_W hp, okX_W hq]; simp [h]
theorem okR_of {p q : List Op} (hp : okX p) (hq : okX q) (h : p.length + q.length ≤ 1099511627776) : okR p q = true := by
 unfold okR
 rw [okX_R hp, okX_R hq]; simp [h]
theorem form_steps {os : List Step} (h : ∀ s ∈ os, goodS s) : ∀ o ∈ stepsL os, formO o := by
 intro o ho
 obtain ⟨s, hs, rfl⟩ := List.mem_map.mp ho
 exact form_of (h s (List.mem_filter.mp hs).1).1.1
theorem sx_steps {os : List Step} (h : ∀ s ∈ os, goodS s) (hl : os.length ≤ 1099511627776) : Sm (stepsL os) := by
 refine ⟨?_, fun o ho => ?_⟩
 ·have : (stepsL os).length ≤ os.length := by unfold stepsL; rw [List.length_map]; exact List.length_filter_le _ _
  omega
 ·obtain ⟨s, hs, rfl⟩ := List.mem_map.mp ho
  have := (h s (List.mem_filter.mp hs).1).1.2
  omega
theorem mid_olds {x y : U} {a : List U} (h : midU x y = some a) : (olds a).length ≤ (olds [x]).length ∧ (olds a).length ≤ 1 := by
 cases x <;> cases y <;> simp only [midU, midT] at h <;> (try split at h) <;> simp [un] at h <;> subst h <;> simp [olds]
theorem Cmp.olds_le {p q w : List U} (h : Cmp p q w) : (olds w).length ≤ (olds p).length + (olds q).length := by
 induction h with
 | nil => simp [olds]
 | del t _ ih => simp only [olds, List.length_cons]; omega
 | ins t _ _ ih => simp only [olds]; omega
 | mid hp hq hne ha _ ih =>
  rename_i p q a w _
  obtain ⟨a1, a2⟩ := mid_olds ha
  rw [olds_app, List.length_append]
  cases p with
  | cons x p =>
   have : (olds (x :: p)).length = (olds [x]).length + (olds p).length := by
    show (olds ([x] ++ p)).length = _
    rw [olds_app, List.length_append]
   have e1 : nxU (x :: p) = x := rfl
   rw [e1] at a1
   have : (olds q.tail).length ≤ (olds q).length := by
    cases q with
    | nil => exact Nat.le_refl _
    | cons y q => cases y <;> simp [olds]
   simp only [List.tail_cons] at ih
   omega
  | nil =>
   cases q with
   | nil => simp at hne
   | cons y q =>
    have : (olds (y :: q)).length = 1 + (olds q).length := by
     cases y with
     | ins t => exact absurd rfl (hq t q)
     | skip => simp [olds]; omega
     | keep t => simp [olds]; omega
     | del t => simp [olds]; omega
    simp only [List.tail_cons, List.tail_nil] at ih
    omega
theorem un_cmp {p q : List U} {e : Bool} {w : List TU} (h : cmpT p e q = some w) : cmpU p e q = some (un w) := by unfold cmpU; rw [h]; rfl
theorem walk_then {p q : List Op} (hp : Sx p) (hq : Sx q) (rp : rightL p = true) (rq : rightL q = true) :
  (walkO (p.length + q.length) p q false = none ∧ thenL p q = ([], false)) ∨
  ∃ os, walkO (p.length + q.length) p q false = some os ∧ cmpT (ex p) false (ex q) = some (exS os) ∧ (∀ s ∈ os, goodS s) ∧ os.length ≤ p.length + q.length ∧ ex (stepsL os) = un (exS os) ∧ (∀ o ∈ stepsL os, formO o) ∧ Sm (stepsL os) ∧
   skips (stepsL os) ≤ 4294967296 ∧ rightL (stepsL os) = rightU (un (exS os)) ∧ thenL p q = if rightL (stepsL os) = true then (normL (stepsL os), true) else ([], false) := by
 have op := rightL_okX rp hp
 have oq := rightL_okX rq hq
 have hc := walkO_cmp (p.length + q.length) p q false (Nat.le_refl _) op.all oq.all
 cases hw : walkO (p.length + q.length) p q false with
 | none =>
  left
  refine ⟨rfl, ?_⟩
  rw [hw] at hc
  have hc : cmpT (ex p) false (ex q) = none := hc.symm
  unfold thenL thenU cmpU
  rw [if_pos ⟨rp, rq⟩, hc]; rfl
 | some os =>
  right
  rw [hw] at hc
  have hc : cmpT (ex p) false (ex q) = some (exS os) := hc.symm
  obtain ⟨g1, g2⟩ := walkO_good _ _ _ _ _ op oq hw
  have he := ex_steps os g1
  have hf := form_steps g1
  have hsm := sx_steps g1 (by have := hp.1; have := hq.1; omega)
  have hr : rightL (stepsL os) = rightU (un (exS os)) := by rw [right_iff hf, he]
  have hu := un_cmp hc
  have hsk : skips (stepsL os) ≤ 4294967296 := by
   have h1 := skips_le 3 hf
   rw [sums_olds _ hf, he] at h1
   have h2 := (Cmp.of _ _ _ _ hu).olds_le
   have h3 := (rightL_ok rp).2.1
   have h4 := (rightL_ok rq).2.1
   rw [sums_olds _ (rightL_form rp)] at h3
   rw [sums_olds _ (rightL_form rq)] at h4
   omega
  refine ⟨os, rfl, hc, g1, g2, he, hf, hsm, hsk, hr, ?_⟩
  unfold thenL thenU
  rw [if_pos ⟨rp, rq⟩, hu, Option.bind_some, hr]
  cases rightU (un (exS os))
  ·rfl
  ·simp only [if_true]
   unfold normL
   rw [he]
end Go.Proofs.Ytfoponahdidddaa.P
namespace Go.Proofs.Ytfoponahdidddaa.P
open Go.RowKit Go.Proofs.YtfoponahdidddaaW.PrintWords Go.Proofs.YtfoponahdidddaaW.PrintLast Go.Proofs.YtfoponahdidddaaW.PrintMore
theorem told_loop (s : List Step) : ∀ (p : List Step) (out v : List Op) (b : Bool), (p ++ s).length < 1099511627777 → out.length ≤ p.length → out ++ stepsL s = v → Ev (fun k => ops_Right.f k v) b → Ev (fun k => compose_told.l0 k out (p ++ s) ((p ++ s).length : Int) (p.length : Int)) (v, b) := by
 induction s with
 | nil =>
  intro p out v b hb ho hv h
  have hv : out = v := by rw [← hv]; simp [stepsL]
  subst hv
  refine Ev.step (fun k => rfl) ?_
  simp only [compose_told.l0, lt_end, if_false]
  exact Ev.bind' h (Ev.now _)
 | cons x s ih =>
  intro p out v b hb ho hv h
  have hl := hb
  simp only [List.length_append, List.length_cons] at hl
  have i := fun out h1 h2 => ih (p ++ [x]) out v b (by simpa using hb) h1 h2 h
  rw [List.append_assoc, List.singleton_append] at i
  have w := wrap_len p x (by omega)
  have e : rd_Step (p ++ x :: s) (p.length : Int) = x := getD_mid p s x zStep
  rw [stepsL_cons] at hv
  have c : out.length < 4398046511104 := by omega
  refine Ev.step (fun k => rfl) ?_
  simp only [compose_told.l0, lt_mid, nn_nat, if_true, e, w, if_pos c]
  cases hg : x.f2
  ·simp only [Bool.false_eq_true, if_false]
   refine i _ (by simp only [List.length_append, List.length_singleton]; omega) ?_
   rw [← hv, hg]; simp
  ·simp only [if_true]
   refine i _ (by simp only [List.length_append, List.length_singleton]; omega) ?_
   rw [← hv, hg]; simp
theorem told_ev {os : List Step} (h : os.length ≤ 1099511627776) (hs : Sm (stepsL os)) : Ev (fun k => compose_told.f k os) (stepsL os, rightL (stepsL os)) :=
 told_loop os [] [] _ _ (by simpa using (by omega : os.length < 1099511627777)) (by simp) (by simp) (right_ev hs)
theorem pthen_ev {p q : List Op} (hp : Sx p) (hq : Sx q) : Ev (fun k => compose_Then.f k p q) (thenL p q) := by
 have hlen : p.length + q.length ≤ 1099511627776 := by have := hp.1; have := hq.1; omega
 cases rp : rightL p
 ·have e : thenL p q = ([], false) := by unfold thenL; simp [rp]
  rw [e]
  refine Ev.bind' (a := ([], false)) ?_ ?_
  ·refine Ev.bind' (right_ev hp.sm) ?_
   simp only [rp, Bool.false_eq_true, if_false]
   exact Ev.now _
  ·simp only [Bool.false_eq_true, if_false]
   exact Ev.now _
 cases rq : rightL q
 ·have e : thenL p q = ([], false) := by unfold thenL; simp [rq]
  rw [e]
  refine Ev.bind' (a := ([], false)) ?_ ?_
  ·refine Ev.bind' (right_ev hp.sm) ?_
   simp only [rp, if_true]
   refine Ev.bind' (right_ev hq.sm) ?_
   simp only [rq, Bool.false_eq_true, if_false]
   exact Ev.now _
  ·simp only [Bool.false_eq_true, if_false]
   exact Ev.now _
 have hW := okW_of (rightL_okX rp hp) (rightL_okX rq hq) hlen
 rcases walk_then hp hq rp rq with ⟨hw, e⟩ | ⟨os, hw, _, g1, g2, he, hf, hsm, hsk, hr, e⟩
 ·rw [e]
  refine Ev.bind' (a := ([], false)) ?_ ?_
  ·refine Ev.bind' (right_ev hp.sm) ?_
   simp only [rp, if_true]
   refine Ev.bind' (right_ev hq.sm) ?_
   simp only [rq, if_true, hW, hw]
   exact Ev.now _
  ·simp only [Bool.false_eq_true, if_false]
   exact Ev.now _
 ·rw [e]
  have ht := told_ev (os := os) (by omega) hsm
  cases hrs : rightL (stepsL os)
  ·refine Ev.bind' (a := ([], false)) ?_ ?_
   ·refine Ev.bind' (right_ev hp.sm) ?_
    simp only [rp, if_true]
    refine Ev.bind' (right_ev hq.sm) ?_
    simp only [rq, if_true, hW, hw]
    refine Ev.bind' ht ?_
    simp only [hrs, Bool.false_eq_true, if_false]
    exact Ev.now _
   ·simp only [Bool.false_eq_true, if_false]
    exact Ev.now _
  ·refine Ev.bind' (a := (os, true)) ?_ ?_
   ·refine Ev.bind' (right_ev hp.sm) ?_
    simp only [rp, if_true]
    refine Ev.bind' (right_ev hq.sm) ?_
    simp only [rq, if_true, hW, hw]
    refine Ev.bind' ht ?_
    simp only [hrs, if_true]
    exact Ev.now _
   ·simp only [if_true]
    refine Ev.bind' ht ?_
    refine Ev.bind' (norm_ev hsm) ?_
    simp only [hrs, if_true]
    exact Ev.now _
def opsB (l : List By) : List Op := l.map (·.f0)
theorem opsB_byS (os : List Step) : opsB (byS os) = stepsL os := by
 unfold opsB byS stepsL
 rw [List.map_map]; rfl
theorem refops_loop (s : List By) : ∀ (p : List By), (p ++ s).length < 4398046511104 → Ev (fun k => patchworkref8_ops.l0 k (p ++ s) (opsB p) (p.length : Int)) (opsB (p ++ s)) := by
 induction s with
 | nil =>
  intro p _
  refine Ev.step (fun k => rfl) ?_
  simp only [patchworkref8_ops.l0, lt_end, if_false]
  rw [List.append_nil]
  exact Ev.now _
 | cons x s ih =>
  intro p hb
  have hl := hb
  simp only [List.length_append, List.length_cons] at hl
  have i := ih (p ++ [x]) (by simpa using hb)
  rw [List.append_assoc, List.singleton_append] at i
  have w := wrap_len p x (by omega)
  have e : rd_By (p ++ x :: s) (p.length : Int) = x := getD_mid p s x zBy
  have c : (opsB p).length < 4398046511104 := by unfold opsB; rw [List.length_map]; omega
  have eo : opsB p ++ [(⟨x.f0.f0, x.f0.f1, x.f0.f2⟩ : Op)] = opsB (p ++ [x]) := by simp [opsB]
  refine Ev.step (fun k => rfl) ?_
  simp only [patchworkref8_ops.l0, lt_mid, nn_nat, if_true, e, w, if_pos c, eo]
  exact i
theorem refops_ev {l : List By} (h : l.length < 4398046511104) : Ev (fun k => patchworkref8_ops.f k l) (opsB l) := refops_loop l [] h
theorem byS_len' (os : List Step) : (byS os).length ≤ os.length := by
 unfold byS
 rw [List.length_map]
 exact List.length_filter_le _ _
theorem refwalk_val {p q : List Op} (hp : Sx p) (hq : Sx q) (rp : rightL p = true) (rq : rightL q = true) : patchworkref8_walk.f p q = some (match walkO (p.length + q.length) p q false with | none => ([], false, false) | some os => (byS os, metS os, true)) := by
 have hlen : p.length + q.length ≤ 1099511627776 := by have := hp.1; have := hq.1; omega
 unfold patchworkref8_walk.f
 rw [if_pos (okR_of (rightL_okX rp hp) (rightL_okX rq hq) hlen)]
 cases walkO (p.length + q.length) p q false <;> rfl
theorem refthen_ev {p q : List Op} (hp : Sx p) (hq : Sx q) : Ev (fun k => patchworkref8_Then.f k p q) (thenL p q) := by
 cases rp : rightL p
 ·have e : thenL p q = ([], false) := by unfold thenL; simp [rp]
  rw [e]
  refine Ev.bind' (refright_ev hp.sm) ?_
  simp only [rp, Bool.false_eq_true, if_false]
  refine Ev.step (fun k => rfl) ?_
  simp only [patchworkref8_Then.j0, if_true]
  exact Ev.now _
 cases rq : rightL q
 ·have e : thenL p q = ([], false) := by unfold thenL; simp [rq]
  rw [e]
  refine Ev.bind' (refright_ev hp.sm) ?_
  simp only [rp, if_true]
  refine Ev.bind' (refright_ev hq.sm) ?_
  simp only [rq, Bool.not_false]
  refine Ev.step (fun k => rfl) ?_
  simp only [patchworkref8_Then.j0, if_true]
  exact Ev.now _
 refine Ev.bind' (refright_ev hp.sm) ?_
 simp only [rp, if_true]
 refine Ev.bind' (refright_ev hq.sm) ?_
 simp only [rq, Bool.not_true]
 refine Ev.step (fun k => rfl) ?_
 simp only [patchworkref8_Then.j0, Bool.false_eq_true, if_false]
 have hv := refwalk_val hp hq rp rq
 rcases walk_then hp hq rp rq with ⟨hw, e⟩ | ⟨os, hw, _, g1, g2, he, hf, hsm, hsk, hr, e⟩
 ·rw [hw] at hv
  rw [e]
  refine Ev.bindN hv ?_
  refine Ev.bind' (refops_ev (l := []) (by simp)) ?_
  refine Ev.bind' (refnorm_ev (l := opsB []) Sm.nil (fun o ho => by simp [opsB] at ho) (by simp [opsB, skips])) ?_
  simp only [Bool.false_eq_true, if_false]
  exact Ev.now _
 ·rw [hw] at hv
  rw [e]
  refine Ev.bindN hv ?_
  refine Ev.bind' (refops_ev (l := byS os) (by have := byS_len' os; have := hp.1; have := hq.1; omega)) ?_
  rw [opsB_byS]
  refine Ev.bind' (refnorm_ev hsm hf (by omega)) ?_
  simp only [if_true]
  have hn : rightL (normL (stepsL os)) = rightL (stepsL os) := by
   unfold normL
   rw [right_pack, rightU_nf, ← right_iff hf]
  refine Ev.bind' (refright_ev (Sm.norm hsm hf)) ?_
  rw [hn]
  cases rightL (stepsL os)
  ·simp only [Bool.false_eq_true, if_false]; exact Ev.now _
  ·simp only [if_true]; exact Ev.now _
theorem thenL_some {p q : List Op} (h : (thenL p q).2 = true) : ∃ u, rightL p = true ∧ rightL q = true ∧ cmpU (ex p) false (ex q) = some u ∧ rightU u = true ∧ thenL p q = (pack (nf [] u), true) := by
 unfold thenL at h ⊢
 split at h
 ·rename_i hr
  rw [if_pos hr]
  unfold thenU at h ⊢
  cases hc : cmpU (ex p) false (ex q) with
  | none => rw [hc] at h; simp at h
  | some u =>
   rw [hc] at h
   simp only [Option.bind_some] at h ⊢
   cases hu : rightU u
   ·rw [hu] at h; simp at h
   ·exact ⟨u, hr.1, hr.2, rfl, hu, by simp⟩
 ·simp at h
theorem thenL_of {p q : List Op} {u : List U} (h1 : rightL p = true) (h2 : rightL q = true) (h3 : cmpU (ex p) false (ex q) = some u) (h4 : rightU u = true) : thenL p q = (pack (nf [] u), true) := by
 unfold thenL thenU
 rw [if_pos ⟨h1, h2⟩, h3]
 simp [h4]
theorem thenL_len {p q : List Op} (hp : Sx p) (hq : Sx q) : (thenL p q).1.length ≤ p.length + q.length ∧ ∀ o ∈ (thenL p q).1, o.f2.size < 1073741824 := by
 cases rp : rightL p
 ·unfold thenL; simp [rp]
 cases rq : rightL q
 ·unfold thenL; simp [rq]
 rcases walk_then hp hq rp rq with ⟨hw, e⟩ | ⟨os, hw, _, g1, g2, he, hf, hsm, hsk, hr, e⟩
 ·rw [e]; simp
 ·rw [e]
  split
  ·refine ⟨?_, ?_⟩
   ·have h1 := nf_pack_len (stepsL os) [] hf
    have h2 : (stepsL os).length ≤ os.length := by unfold stepsL; rw [List.length_map]; exact List.length_filter_le _ _
    simp only [List.length_nil] at h1
    show (pack (nf [] (ex (stepsL os)))).length ≤ _
    omega
   ·intro o ho
    have ho : o ∈ pack (nf [] (ex (stepsL os))) := ho
    have he0 : ByteArray.empty.size = 0 := rfl
    rcases tx_pack _ o ho with e | ⟨x, hx, e⟩
    ·rw [e, he0]; omega
    ·rcases nf_mem _ _ _ hx with hx | hx
     ·simp at hx
     ·rcases tx_ex hx with e2 | ⟨y, hy, e2⟩
      ·rw [e, e2, he0]; omega
      ·rw [e, e2]
       obtain ⟨s, hs, rfl⟩ := List.mem_map.mp hy
       exact (g1 s (List.mem_filter.mp hs).1).1.2
  ·simp
theorem Sx.then {p q : List Op} (hp : Sx p) (hq : Sx q) (h : p.length + q.length ≤ 274877906944) : Sx (thenL p q).1 := by
 obtain ⟨h1, h2⟩ := thenL_len hp hq
 exact ⟨by omega, h2⟩
theorem thenL_right {p q : List Op} (h : (thenL p q).2 = true) : rightL (thenL p q).1 = true := by
 obtain ⟨u, _, _, _, hu, e⟩ := thenL_some h
 rw [e, right_pack, rightU_nf]; exact hu
end Go.Proofs.Ytfoponahdidddaa.P
namespace Go.Proofs.Ytfoponahdidddaa.P
open Go.RowKit Go.Proofs.YtfoponahdidddaaW.PrintWords Go.Proofs.YtfoponahdidddaaW.PrintLast Go.Proofs.YtfoponahdidddaaW.PrintMore
def fitS : List (Option ByteArray) → List ByteArray → Prop
 | [], _ => True
 | _ :: _, [] => False
 | none :: s, _ :: l => fitS s l
 | some t :: s, x :: l => x = t ∧ fitS s l
theorem doU_fit : ∀ (u : List U) (ls r : List ByteArray), doU u ls = some r → fitS (olds u) ls ∧ fitS (news u) r
 | [], ls, r, _ => ⟨trivial, trivial⟩
 | .ins t :: u, ls, r, h => by
  rw [doU] at h
  obtain ⟨r', h', rfl⟩ := Option.map_eq_some_iff.mp h
  obtain ⟨a, b⟩ := doU_fit u ls r' h'
  exact ⟨a, rfl, b⟩
 | .del t :: u, [], r, h => by rw [doU] at h; simp at h
 | .del t :: u, x :: ls, r, h => by
  rw [doU] at h
  split at h
  ·rename_i e
   obtain ⟨a, b⟩ := doU_fit u ls r h
   exact ⟨⟨e, a⟩, b⟩
  ·simp at h
 | .keep t :: u, [], r, h => by rw [doU] at h; simp at h
 | .keep t :: u, x :: ls, r, h => by
  rw [doU] at h
  split at h
  ·rename_i e
   obtain ⟨r', h', rfl⟩ := Option.map_eq_some_iff.mp h
   obtain ⟨a, b⟩ := doU_fit u ls r' h'
   exact ⟨⟨e, a⟩, ⟨e, b⟩⟩
  ·simp at h
 | .skip :: u, [], r, h => by rw [doU] at h; simp at h
 | .skip :: u, x :: ls, r, h => by
  rw [doU] at h
  obtain ⟨r', h', rfl⟩ := Option.map_eq_some_iff.mp h
  obtain ⟨a, b⟩ := doU_fit u ls r' h'
  exact ⟨a, b⟩
theorem wholeL_cons {x : ByteArray} {l : List ByteArray} (h : wholeL (x :: l) = true) : rightT x = true ∧ wholeL l = true ∧ (openT x = true → l = []) := by
 unfold wholeL at h
 rw [Bool.and_eq_true] at h
 obtain ⟨h1, h2⟩ := h
 split at h2
 ·simp at h2
 ·rename_i c
  refine ⟨h1, h2, fun ho => ?_⟩
  by_cases e : l = []
  ·exact e
  ·exact absurd ⟨ho, e⟩ c
theorem fit_ok : ∀ (s : List (Option ByteArray)) (l : List ByteArray), fitS s l → wholeL l = true → textS s = true ∧ closedS false s = true ∧ s.length ≤ l.length
 | [], l, _, _ => ⟨rfl, rfl, Nat.zero_le _⟩
 | _ :: _, [], h, _ => absurd h id
 | none :: s, x :: l, h, hw => by
  obtain ⟨_, w2, _⟩ := wholeL_cons hw
  obtain ⟨a, b, c⟩ := fit_ok s l h w2
  exact ⟨by simpa [textS] using a, by simpa [closedS] using b, by simpa using c⟩
 | some t :: s, x :: l, h, hw => by
  obtain ⟨rfl, h⟩ := h
  obtain ⟨w1, w2, w3⟩ := wholeL_cons hw
  obtain ⟨a, b, c⟩ := fit_ok s l h w2
  refine ⟨?_, ?_, by simpa using c⟩
  ·simp only [textS, List.all_cons, w1, Bool.true_and]; exact a
  ·rw [closedS]
   cases ho : openT x
   ·exact b
   ·have hl := w3 ho
    subst hl
    cases s with
    | nil => rfl
    | cons y s => cases y <;> exact absurd h id
theorem fit_okS {s : List (Option ByteArray)} {l : List ByteArray} (h : fitS s l) (hw : wholeL l = true) (hl : l.length ≤ 2147483648) : okS s = true := by
 obtain ⟨a, b, c⟩ := fit_ok s l h hw
 unfold okS
 rw [a, b, Bool.true_and, Bool.true_and, decide_eq_true_iff]
 omega
theorem rightU_of {u : List U} {ls r : List ByteArray} (h : doU u ls = some r) (h1 : wholeL ls = true) (h2 : wholeL r = true) (l1 : ls.length ≤ 2147483648) (l2 : r.length ≤ 2147483648) : rightU u = true := by
 obtain ⟨a, b⟩ := doU_fit u ls r h
 unfold rightU
 rw [fit_okS a h1 l1, fit_okS b h2 l2]; rfl
theorem mid_do {p q : List U} (hp : NoD p) (hq : NoI q) (hne : p ≠ [] ∨ q ≠ []) {ls m b : List ByteArray} (h1 : doU p ls = some m) (h2 : doU q m = some b) :
  ∃ x m', m = x :: m' ∧ ∃ a ls' b', midU (nxU p) (nxU q) = some a ∧ (opM (nxU p) (nxU q) = true → openT x = true) ∧ doU p.tail ls' = some m' ∧ doU q.tail m' = some b' ∧ ∀ r, doU r ls' = some b' → doU (a ++ r) ls = some b := by
 have two : ∀ {y : U} {q : List U} {x : ByteArray} {m' : List ByteArray}, (∀ t, y ≠ .ins t) → doU (y :: q) (x :: m') = some b →
   ∃ b', doU q m' = some b' ∧ ((y = .skip ∧ b = x :: b') ∨ (y = .keep x ∧ b = x :: b') ∨ (y = .del x ∧ b = b')) := by
  intro y q x m' hy h
  cases y with
  | ins t => exact absurd rfl (hy t)
  | skip =>
   rw [doU] at h
   obtain ⟨b', h', rfl⟩ := Option.map_eq_some_iff.mp h
   exact ⟨b', h', .inl ⟨rfl, rfl⟩⟩
  | keep t =>
   rw [doU] at h
   split at h
   ·rename_i e
    subst e
    obtain ⟨b', h', rfl⟩ := Option.map_eq_some_iff.mp h
    exact ⟨b', h', .inr (.inl ⟨rfl, rfl⟩)⟩
   ·simp at h
  | del t =>
   rw [doU] at h
   split at h
   ·rename_i e
    subst e
    exact ⟨b, h, .inr (.inr ⟨rfl, rfl⟩)⟩
   ·simp at h
 have one : ∀ {z : U} {p : List U}, (∀ t, z ≠ .del t) → doU (z :: p) ls = some m →
   ∃ x m' ls', m = x :: m' ∧ doU p ls' = some m' ∧ ((z = .skip ∧ ls = x :: ls') ∨ (z = .keep x ∧ ls = x :: ls') ∨ (z = .ins x ∧ ls = ls')) := by
  intro z p hz h
  cases z with
  | del t => exact absurd rfl (hz t)
  | ins t =>
   rw [doU] at h
   obtain ⟨m', h', rfl⟩ := Option.map_eq_some_iff.mp h
   exact ⟨t, m', ls, rfl, h', .inr (.inr ⟨rfl, rfl⟩)⟩
  | skip =>
   cases ls with
   | nil => rw [doU] at h; simp at h
   | cons x ls =>
    rw [doU] at h
    obtain ⟨m', h', rfl⟩ := Option.map_eq_some_iff.mp h
    exact ⟨x, m', ls, rfl, h', .inl ⟨rfl, rfl⟩⟩
  | keep t =>
   cases ls with
   | nil => rw [doU] at h; simp at h
   | cons x ls =>
    rw [doU] at h
    split at h
    ·rename_i e
     subst e
     obtain ⟨m', h', rfl⟩ := Option.map_eq_some_iff.mp h
     exact ⟨x, m', ls, rfl, h', .inr (.inl ⟨rfl, rfl⟩)⟩
    ·simp at h
 -- what stands at the front of each, told apart from its end
 have fp : ∃ x m' ls', m = x :: m' ∧ doU p.tail ls' = some m' ∧ ((nxU p = .skip ∧ ls = x :: ls') ∨ (nxU p = .keep x ∧ ls = x :: ls') ∨ (nxU p = .ins x ∧ ls = ls')) := by
  cases p with
  | cons z p => exact one (fun t e => hp t p (by rw [show z = .del t from e])) h1
  | nil =>
   rw [doU] at h1
   obtain rfl := Option.some.inj h1
   cases q with
   | nil => simp at hne
   | cons y q =>
    cases ls with
    | nil => cases y <;> first | exact absurd rfl (hq _ _) | (rw [doU] at h2; simp at h2)
    | cons x ls => exact ⟨x, ls, ls, rfl, rfl, .inl ⟨rfl, rfl⟩⟩
 obtain ⟨x, m', ls', rfl, hp', hx⟩ := fp
 have fq : ∃ b', doU q.tail m' = some b' ∧ ((nxU q = .skip ∧ b = x :: b') ∨ (nxU q = .keep x ∧ b = x :: b') ∨ (nxU q = .del x ∧ b = b')) := by
  cases q with
  | cons y q => exact two (fun t e => hq t q (by rw [show y = .ins t from e])) h2
  | nil =>
   rw [doU] at h2
   obtain rfl := Option.some.inj h2
   exact ⟨m', rfl, .inl ⟨rfl, rfl⟩⟩
 obtain ⟨b', hq', hy⟩ := fq
 refine ⟨x, m', rfl, ?_⟩
 rcases hx with ⟨e1, rfl⟩ | ⟨e1, rfl⟩ | ⟨e1, rfl⟩ <;> rcases hy with ⟨e2, rfl⟩ | ⟨e2, rfl⟩ | ⟨e2, rfl⟩ <;> rw [e1, e2]
 ·exact ⟨[.skip], ls', b', rfl, by simp [opM, opnX], hp', hq', fun r hr => by simp only [List.singleton_append, doU]; rw [hr]; rfl⟩
 ·exact ⟨[.keep x], ls', b', rfl, by simp [opM, opnX, txU], hp', hq', fun r hr => by simp only [List.singleton_append, doU, if_true]; rw [hr]; rfl⟩
 ·exact ⟨[.del x], ls', b, rfl, by simp [opM, opnX, txU], hp', hq', fun r hr => by simp only [List.singleton_append, doU, if_true]; exact hr⟩
 ·exact ⟨[.keep x], ls', b', rfl, by simp [opM, opnX, txU], hp', hq', fun r hr => by simp only [List.singleton_append, doU, if_true]; rw [hr]; rfl⟩
 ·exact ⟨[.keep x], ls', b', by simp [midU, midT, un], by simp [opM, opnX, txU], hp', hq', fun r hr => by simp only [List.singleton_append, doU, if_true]; rw [hr]; rfl⟩
 ·exact ⟨[.del x], ls', b, by simp [midU, midT, un], by simp [opM, opnX, txU], hp', hq', fun r hr => by simp only [List.singleton_append, doU, if_true]; exact hr⟩
 ·exact ⟨[.ins x], ls, b', rfl, by simp [opM, opnX, txU], hp', hq', fun r hr => by simp only [List.singleton_append, doU]; rw [hr]; rfl⟩
 ·exact ⟨[.ins x], ls, b', by simp [midU, midT, un], by simp [opM, opnX, txU], hp', hq', fun r hr => by simp only [List.singleton_append, doU]; rw [hr]; rfl⟩
 ·exact ⟨[], ls, b, by simp [midU, midT, un], by simp [opM, opnX, txU], hp', hq', fun r hr => hr⟩
theorem cmpU_do : ∀ p q, ∀ (e : Bool) (ls m b : List ByteArray), doU p ls = some m → doU q m = some b → wholeL m = true → (e = true → m = []) → ∃ w, cmpU p e q = some w ∧ doU w ls = some b := by
 refine walk_ind ?_ ?_ ?_ ?_
 ·intro e ls m b h1 h2 _ _
  rw [doU] at h1 h2
  obtain rfl := Option.some.inj h1
  obtain rfl := Option.some.inj h2
  exact ⟨[], rfl, rfl⟩
 ·intro t p q ih e ls m b h1 h2 h3 h4
  cases ls with
  | nil => rw [doU] at h1; simp at h1
  | cons x ls =>
   rw [doU] at h1
   split at h1
   ·rename_i ex
    obtain ⟨w, c, d⟩ := ih e ls m b h1 h2 h3 h4
    refine ⟨.del t :: w, by rw [cmpU_del, c]; rfl, ?_⟩
    rw [doU, if_pos ex]; exact d
   ·simp at h1
 ·intro t p q hp ih e ls m b h1 h2 h3 h4
  rw [doU] at h2
  obtain ⟨b', h2', rfl⟩ := Option.map_eq_some_iff.mp h2
  obtain ⟨w, c, d⟩ := ih e ls m b' h1 h2' h3 h4
  exact ⟨.ins t :: w, by rw [cmpU_ins hp, c]; rfl, by rw [doU, d]; rfl⟩
 ·intro p q hp hq hne ih e ls m b h1 h2 h3 h4
  obtain ⟨x, m', rfl, a, ls', b', hm, ho, hp', hq', hr⟩ := mid_do hp hq hne h1 h2
  have he : e = false := by
   cases e with
   | false => rfl
   | true => exact absurd (h4 rfl) (by simp)
  subst he
  obtain ⟨w1, w2, w3⟩ := wholeL_cons h3
  obtain ⟨w, c, d⟩ := ih (opM (nxU p) (nxU q)) ls' m' b' hp' hq' w2 (fun h => w3 (ho h))
  refine ⟨a ++ w, ?_, hr w d⟩
  rw [cmpU_mid hp hq hne, hm, if_neg (by simp), Option.bind_some, c]; rfl
end Go.Proofs.Ytfoponahdidddaa.P
namespace Go.Proofs.Ytfoponahdidddaa.P
open Go.RowKit Go.Proofs.YtfoponahdidddaaW.PrintWords Go.Proofs.YtfoponahdidddaaW.PrintLast Go.Proofs.YtfoponahdidddaaW.PrintMore
theorem told_no (x : Option (List ByteArray)) (hd : (told [] x).2 = false) : told [] x = ([], false) := by
 cases x with
 | none => rfl
 | some r =>
  have e : told [] (some r) = if wholeL ([] ++ r) = true then ([] ++ r, true) else ([], false) := rfl
  rw [e] at hd ⊢
  by_cases h : wholeL ([] ++ r) = true
  ·rw [if_pos h] at hd; simp at hd
  ·rw [if_neg h]
theorem doL_no {l : List Op} {ls : List ByteArray} (hd : (doL l ls).2 = false) : doL l ls = ([], false) := by
 unfold doL at hd ⊢
 split
 ·rename_i c
  rw [if_pos c] at hd
  exact told_no _ hd
 ·rfl
theorem doL_SmT {l : List Op} {ls : List ByteArray} (hl : l.length ≤ 2199023255552) (h : Sm l) (hll : ls.length < 2199023255552) (hls : SmT ls) : SmT (doL l ls).1 := by
 cases hd : (doL l ls).2
 ·rw [doL_no hd]; exact SmT.of_wt (by decide)
 ·obtain ⟨r, _, _, d3, _, d5⟩ := doL_true hd
  rw [d5]; exact hls.done hl h hll d3
end Go.Proofs.Ytfoponahdidddaa.P
namespace Go.Proofs.Ytfoponahdidddaa.P
open Go.RowKit Go.Proofs.YtfoponahdidddaaW.PrintWords Go.Proofs.YtfoponahdidddaaW.PrintLast Go.Proofs.YtfoponahdidddaaW.PrintMore
theorem then_do {p q : List Op} {ls : List ByteArray} (hp : p.length ≤ 1000000) (hq : q.length ≤ 1000000) (hl : ls.length ≤ 2000000) (h1 : (doL p ls).2 = true) (h2 : (doL q (doL p ls).1).2 = true) :
  (thenL p q).2 = true ∧ doL (thenL p q).1 ls = ((doL q (doL p ls).1).1, true) := by
 obtain ⟨a, p1, p2, p3, p4, p5⟩ := doL_true h1
 rw [p5] at h2 ⊢
 obtain ⟨b, q1, q2, q3, q4, q5⟩ := doL_true h2
 rw [q5]
 obtain ⟨w, c1, c2⟩ := cmpU_do (ex p) (ex q) false ls a b p3 q3 q2 (fun h => by simp at h)
 have l1 := doU_len _ _ _ p3
 have l2 : b.length ≤ a.length + insN (ex q) := doU_len _ _ _ q3
 have i1 := insN_ex p
 have i2 := insN_ex q
 have hu : rightU w = true := rightU_of c2 p2 q4 (by omega) (by omega)
 have ht := thenL_of p1 q1 c1 hu
 rw [ht]
 refine ⟨rfl, doL_of ?_ p2 ?_ q4⟩
 ·rw [right_pack, rightU_nf]; exact hu
 ·rw [ex_pack, doU_nf0]; exact c2
theorem norm_small {l : List Op} {B : Nat} (hB : 0 < B) (h : ∀ o ∈ l, o.f2.size < B) : ∀ o ∈ normL l, o.f2.size < B := by
 intro o ho
 have he : ByteArray.empty.size = 0 := rfl
 rcases tx_pack _ o ho with e | ⟨x, hx, e⟩
 ·rw [e, he]; exact hB
 ·rcases nf_mem _ _ x hx with hx | hx
  ·simp at hx
  ·rcases tx_ex hx with e2 | ⟨y, hy, e2⟩
   ·rw [e, e2, he]; exact hB
   ·rw [e, e2]; exact h y hy
theorem norm_len {l : List Op} (h : ∀ o ∈ l, formO o) : (normL l).length ≤ l.length := by
 have := nf_pack_len l [] h
 simpa [normL] using this
end Go.Proofs.Ytfoponahdidddaa.P
namespace Go.Proofs.Ytfoponahdidddaa.P
open Go.RowKit Go.Proofs.YtfoponahdidddaaW.PrintWords Go.Proofs.YtfoponahdidddaaW.PrintLast Go.Proofs.YtfoponahdidddaaW.PrintMore
def dU (a b : List ByteArray) : List U := ex (diffOps a b)
theorem ex_inss (b : List ByteArray) : ex (b.map fun t => (⟨4, 0, t⟩ : Op)) = b.map .ins := by
 induction b with
 | nil => rfl
 | cons t b ih => rw [List.map_cons, ex_cons, ih]; rfl
theorem ex_dels (a : List ByteArray) : ex (a.map fun t => (⟨3, 0, t⟩ : Op)) = a.map .del := by
 induction a with
 | nil => rfl
 | cons t b ih => rw [List.map_cons, ex_cons, ih]; rfl
theorem dU_nil (b : List ByteArray) : dU [] b = b.map .ins := by unfold dU; rw [diffOps_nil_left, ex_inss]
theorem dU_end (a : List ByteArray) : dU a [] = a.map .del := by unfold dU; rw [diffOps_nil_right, ex_dels]
theorem dU_same (x : ByteArray) (a b : List ByteArray) : dU (x :: a) (x :: b) = .keep x :: dU a b := by unfold dU; rw [diffOps_same, ex_cons]; rfl
theorem dU_del {x y : ByteArray} {a b : List ByteArray} (h : x ≠ y) (h2 : lcs (x :: a) b ≤ lcs a (y :: b)) : dU (x :: a) (y :: b) = .del x :: dU a (y :: b) := by unfold dU; rw [diffOps_del h h2, ex_cons]; rfl
theorem dU_ins {x y : ByteArray} {a b : List ByteArray} (h : x ≠ y) (h2 : ¬ lcs (x :: a) b ≤ lcs a (y :: b)) : dU (x :: a) (y :: b) = .ins y :: dU (x :: a) b := by unfold dU; rw [diffOps_ins h h2, ex_cons]; rfl
theorem dU_ind {C : List ByteArray → List ByteArray → List U → Prop} (h1 : ∀ b, C [] b (b.map .ins)) (h2 : ∀ x a, C (x :: a) [] ((x :: a).map .del)) (h3 : ∀ x a b, C a b (dU a b) → C (x :: a) (x :: b) (.keep x :: dU a b))
  (h4 : ∀ x a y b, x ≠ y → lcs (x :: a) b ≤ lcs a (y :: b) → C a (y :: b) (dU a (y :: b)) → C (x :: a) (y :: b) (.del x :: dU a (y :: b)))
  (h5 : ∀ x a y b, x ≠ y → ¬ lcs (x :: a) b ≤ lcs a (y :: b) → C (x :: a) b (dU (x :: a) b) → C (x :: a) (y :: b) (.ins y :: dU (x :: a) b)) : ∀ a b, C a b (dU a b) := by
 intro a b
 induction a, b using diffOps.induct with
 | case1 b => rw [dU_nil]; exact h1 b
 | case2 x a => rw [dU_end]; exact h2 x a
 | case3 a x b ih => rw [dU_same]; exact h3 x a b ih
 | case4 x a y b h k ih => rw [dU_del h k]; exact h4 x a y b h k ih
 | case5 x a y b h k ih => rw [dU_ins h k]; exact h5 x a y b h k ih
theorem sides_inss (b : List ByteArray) : olds (b.map .ins) = [] ∧ news (b.map .ins) = b.map some := by
 induction b with
 | nil => exact ⟨rfl, rfl⟩
 | cons t b ih => simp only [List.map_cons, olds, news, ih, and_self]
theorem sides_dels (b : List ByteArray) : olds (b.map .del) = b.map some ∧ news (b.map .del) = [] := by
 induction b with
 | nil => exact ⟨rfl, rfl⟩
 | cons t b ih => simp only [List.map_cons, olds, news, ih, and_self]
theorem dU_sides : ∀ a b, olds (dU a b) = a.map some ∧ news (dU a b) = b.map some :=
 dU_ind (C := fun a b u => olds u = a.map some ∧ news u = b.map some) (fun b => sides_inss b) (fun x a => sides_dels (x :: a))
  (fun x a b ih => by simp only [olds, news, ih.1, ih.2, List.map_cons, and_self])
  (fun x a y b _ _ ih => by simp only [olds, news, ih.1, ih.2, List.map_cons, and_self])
  (fun x a y b _ _ ih => by simp only [olds, news, ih.1, ih.2, List.map_cons, and_self])
def skf (s : List U) : Prop := ∀ x ∈ s, isSkip x = false
theorem skf.cons {x : U} {s : List U} (hx : isSkip x = false) (h : skf s) : skf (x :: s) := fun y hy => by
 rcases List.mem_cons.mp hy with rfl | hy
 ·exact hx
 ·exact h y hy
theorem skf.tail {x : U} {s : List U} (h : skf (x :: s)) : skf s := fun y hy => h y (List.mem_cons_of_mem _ hy)
theorem skf.app {a b : List U} (ha : skf a) (hb : skf b) : skf (a ++ b) := fun y hy => by
 rcases List.mem_append.mp hy with h | h
 ·exact ha y h
 ·exact hb y h
theorem skf_inss (b : List ByteArray) : skf (b.map .ins) := fun x hx => by obtain ⟨t, _, rfl⟩ := List.mem_map.mp hx; rfl
theorem skf_dels (b : List ByteArray) : skf (b.map .del) := fun x hx => by obtain ⟨t, _, rfl⟩ := List.mem_map.mp hx; rfl
theorem dU_skf : ∀ a b, skf (dU a b) :=
 dU_ind (C := fun a b u => skf u) (fun b => skf_inss b) (fun x a => skf_dels (x :: a)) (fun x a b ih => ih.cons rfl) (fun x a y b _ _ ih => ih.cons rfl) (fun x a y b _ _ ih => ih.cons rfl)
def tdU : List ByteArray → List ByteArray → List U → List U
 | a, b, [] => dU a b
 | a, b, .skip :: u => dU a b ++ .skip :: tdU [] [] u
 | a, b, .keep t :: u => tdU (a ++ [t]) (b ++ [t]) u
 | a, b, .del t :: u => tdU (a ++ [t]) b u
 | a, b, .ins t :: u => tdU a (b ++ [t]) u
theorem tdU_sides : ∀ (u : List U) (a b : List ByteArray), olds (tdU a b u) = a.map some ++ olds u ∧ news (tdU a b u) = b.map some ++ news u
 | [], a, b => by have := dU_sides a b; simpa [tdU, olds, news] using this
 | .skip :: u, a, b => by
  have h := dU_sides a b
  have i := tdU_sides u [] []
  simp only [tdU, olds_app, news_app, olds, news, h.1, h.2, i.1, i.2, List.map_nil, List.nil_append, and_self]
 | .keep t :: u, a, b => by
  have i := tdU_sides u (a ++ [t]) (b ++ [t])
  simp only [tdU, olds, news, i.1, i.2, List.map_append, List.map_cons, List.map_nil, List.append_assoc, List.singleton_append, and_self]
 | .del t :: u, a, b => by
  have i := tdU_sides u (a ++ [t]) b
  simp only [tdU, olds, news, i.1, i.2, List.map_append, List.map_cons, List.map_nil, List.append_assoc, List.singleton_append, and_self]
 | .ins t :: u, a, b => by
  have i := tdU_sides u a (b ++ [t])
  simp only [tdU, olds, news, i.1, i.2, List.map_append, List.map_cons, List.map_nil, List.append_assoc, List.singleton_append, and_self]
theorem rightU_td (u : List U) : rightU (tdU [] [] u) = rightU u := by
 have := tdU_sides u [] []
 unfold rightU
 rw [this.1, this.2]; rfl
def oT (s : List U) : List ByteArray := s.filterMap fun x => match x with | .keep t => some t | .del t => some t | _ => none
def nT (s : List U) : List ByteArray := s.filterMap fun x => match x with | .keep t => some t | .ins t => some t | _ => none
def seg (a b : List ByteArray) (v : List U) (ls : List ByteArray) : Option (List ByteArray) := if ls.take a.length = a then (doU v (ls.drop a.length)).map (b ++ ·) else none
theorem doU_seg : ∀ (s : List U), skf s → ∀ (v : List U) (ls : List ByteArray), doU (s ++ v) ls = seg (oT s) (nT s) v ls
 | [], _, v, ls => by simp [seg, oT, nT]
 | .skip :: s, h, v, ls => by have := h .skip (List.mem_cons_self ..); simp [isSkip] at this
 | .ins t :: s, h, v, ls => by
  have i := doU_seg s h.tail v ls
  rw [List.cons_append, doU, i]
  unfold seg
  rw [show oT (.ins t :: s) = oT s from rfl, show nT (.ins t :: s) = t :: nT s from rfl]
  split
  ·rw [Option.map_map]; rfl
  ·rfl
 | .del t :: s, h, v, [] => by
  rw [List.cons_append, doU]
  unfold seg
  rw [show oT (.del t :: s) = t :: oT s from rfl, if_neg (by simp)]
 | .del t :: s, h, v, x :: ls => by
  have i := doU_seg s h.tail v ls
  rw [List.cons_append, doU, i]
  unfold seg
  rw [show oT (.del t :: s) = t :: oT s from rfl, show nT (.del t :: s) = nT s from rfl]
  simp only [List.length_cons, List.take_succ_cons, List.drop_succ_cons, List.cons.injEq]
  by_cases hx : x = t
  ·simp [hx]
  ·simp [hx]
 | .keep t :: s, h, v, [] => by
  rw [List.cons_append, doU]
  unfold seg
  rw [show oT (.keep t :: s) = t :: oT s from rfl, if_neg (by simp)]
 | .keep t :: s, h, v, x :: ls => by
  have i := doU_seg s h.tail v ls
  rw [List.cons_append, doU, i]
  unfold seg
  rw [show oT (.keep t :: s) = t :: oT s from rfl, show nT (.keep t :: s) = t :: nT s from rfl]
  simp only [List.length_cons, List.take_succ_cons, List.drop_succ_cons, List.cons.injEq]
  by_cases hx : x = t
  ·subst hx
   simp only [if_true, true_and]
   split
   ·rw [Option.map_map]; rfl
   ·rfl
  ·simp [hx]
theorem oT_app (a b : List U) : oT (a ++ b) = oT a ++ oT b := by simp [oT]
theorem nT_app (a b : List U) : nT (a ++ b) = nT a ++ nT b := by simp [nT]
theorem oT_olds : ∀ {s : List U}, skf s → (olds s) = (oT s).map some
 | [], _ => rfl
 | x :: s, h => by
  have i := oT_olds h.tail
  have hx := h x (List.mem_cons_self ..)
  cases x with
  | skip => simp [isSkip] at hx
  | keep t => rw [olds, i]; rfl
  | del t => rw [olds, i]; rfl
  | ins t => rw [olds, i]; rfl
theorem nT_news : ∀ {s : List U}, skf s → (news s) = (nT s).map some
 | [], _ => rfl
 | x :: s, h => by
  have i := nT_news h.tail
  have hx := h x (List.mem_cons_self ..)
  cases x with
  | skip => simp [isSkip] at hx
  | keep t => rw [news, i]; rfl
  | del t => rw [news, i]; rfl
  | ins t => rw [news, i]; rfl
theorem map_some_inj {a b : List ByteArray} (h : a.map some = b.map some) : a = b := by
 have := congrArg (List.filterMap id) h
 simpa using this
theorem dU_texts (a b : List ByteArray) : oT (dU a b) = a ∧ nT (dU a b) = b :=
 ⟨map_some_inj ((oT_olds (dU_skf a b)).symm.trans (dU_sides a b).1), map_some_inj ((nT_news (dU_skf a b)).symm.trans (dU_sides a b).2)⟩
theorem seg_dU (a b : List ByteArray) (v : List U) (ls : List ByteArray) : doU (dU a b ++ v) ls = seg a b v ls := by
 rw [doU_seg _ (dU_skf a b), (dU_texts a b).1, (dU_texts a b).2]
theorem seg_step (a b : List ByteArray) (x : U) (hx : isSkip x = false) (v : List U) (ls : List ByteArray) : seg a b (x :: v) ls = seg (a ++ oT [x]) (b ++ nT [x]) v ls := by
 rw [← seg_dU a b, show dU a b ++ x :: v = (dU a b ++ [x]) ++ v from by simp, doU_seg _ ((dU_skf a b).app (fun y hy => by rw [List.mem_singleton.mp hy]; exact hx)), oT_app, nT_app, (dU_texts a b).1, (dU_texts a b).2]
theorem doU_td : ∀ (u : List U) (a b ls : List ByteArray), doU (tdU a b u) ls = seg a b u ls
 | [], a, b, ls => by
  have := seg_dU a b [] ls
  rw [List.append_nil] at this
  rw [tdU, this]
 | .skip :: u, a, b, ls => by
  rw [tdU, seg_dU]
  unfold seg
  split
  ·congr 1
   have i := doU_td u [] []
   cases ls.drop a.length with
   | nil => rw [doU, doU]
   | cons x r => rw [doU, doU, i]; simp [seg]
  ·rfl
 | .keep t :: u, a, b, ls => by rw [tdU, doU_td u, seg_step a b (.keep t) rfl]; rfl
 | .del t :: u, a, b, ls => by rw [tdU, doU_td u, seg_step a b (.del t) rfl, show nT [U.del t] = [] from rfl, List.append_nil]; rfl
 | .ins t :: u, a, b, ls => by rw [tdU, doU_td u, seg_step a b (.ins t) rfl, show oT [U.ins t] = [] from rfl, List.append_nil]; rfl
theorem doU_td0 (u : List U) (ls : List ByteArray) : doU (tdU [] [] u) ls = doU u ls := by rw [doU_td]; simp [seg]
def tdL : List ByteArray → List ByteArray → List Op → List Op
 | a, b, [] => diffOps a b
 | a, b, o :: l => if o.f0 = 1 then diffOps a b ++ o :: tdL [] [] l else tdL (if o.f0 = 4 then a else a ++ [o.f2]) (if o.f0 = 3 then b else b ++ [o.f2]) l
theorem diffOps_mem (a b : List ByteArray) : ∀ o ∈ diffOps a b, (o.f0 = 2 ∨ o.f0 = 3 ∨ o.f0 = 4) ∧ o.f1 = 0 ∧ (o.f2 ∈ a ∨ o.f2 ∈ b) := by
 induction a, b using diffOps.induct with
 | case1 b =>
  rw [diffOps_nil_left]
  intro o ho
  obtain ⟨t, ht, rfl⟩ := List.mem_map.mp ho
  exact ⟨.inr (.inr rfl), rfl, .inr ht⟩
 | case2 x a =>
  rw [diffOps_nil_right]
  intro o ho
  obtain ⟨t, ht, rfl⟩ := List.mem_map.mp ho
  exact ⟨.inr (.inl rfl), rfl, .inl ht⟩
 | case3 a x b ih =>
  rw [diffOps_same]
  intro o ho
  rcases List.mem_cons.mp ho with rfl | ho
  ·exact ⟨.inl rfl, rfl, .inl (List.mem_cons_self ..)⟩
  ·obtain ⟨h1, h2, h3⟩ := ih o ho
   exact ⟨h1, h2, h3.imp (List.mem_cons_of_mem _) (List.mem_cons_of_mem _)⟩
 | case4 x a y b h k ih =>
  rw [diffOps_del h k]
  intro o ho
  rcases List.mem_cons.mp ho with rfl | ho
  ·exact ⟨.inr (.inl rfl), rfl, .inl (List.mem_cons_self ..)⟩
  ·obtain ⟨h1, h2, h3⟩ := ih o ho
   exact ⟨h1, h2, h3.imp (List.mem_cons_of_mem _) id⟩
 | case5 x a y b h k ih =>
  rw [diffOps_ins h k]
  intro o ho
  rcases List.mem_cons.mp ho with rfl | ho
  ·exact ⟨.inr (.inr rfl), rfl, .inr (List.mem_cons_self ..)⟩
  ·obtain ⟨h1, h2, h3⟩ := ih o ho
   exact ⟨h1, h2, h3.imp id (List.mem_cons_of_mem _)⟩
theorem td_skips (u : List U) (a b : List ByteArray) : ∀ n : Nat, tdU a b (List.replicate (n + 1) .skip ++ u) = dU a b ++ List.replicate (n + 1) .skip ++ tdU [] [] u
 | 0 => by simp [tdU]
 | n + 1 => by
  have i := td_skips u [] [] n
  rw [List.replicate_succ, List.cons_append, tdU, i, show dU [] [] = [] from dU_nil [], List.nil_append]
  simp [List.replicate_succ]
theorem ex_td : ∀ (l : List Op) (a b : List ByteArray), (∀ o ∈ l, formO o) → ex (tdL a b l) = tdU a b (ex l) ∧ (∀ o ∈ tdL a b l, formO o) ∧ skips (tdL a b l) = skips l ∧ (tdL a b l).length ≤ a.length + b.length + 2 * l.length ∧ (∀ o ∈ tdL a b l, o.f2 ∈ a ∨ o.f2 ∈ b ∨ ∃ x ∈ l, o.f2 = x.f2)
 | [], a, b, _ => by
  have hm := diffOps_mem a b
  refine ⟨rfl, fun o ho => .inr ⟨(hm o ho).1, (hm o ho).2.1⟩, ?_, ?_, fun o ho => (hm o ho).2.2.elim .inl (fun h => .inr (.inl h))⟩
  ·rw [tdL, skips_nil]
   have : ∀ l : List Op, (∀ o ∈ l, o.f0 ≠ 1) → skips l = 0 := by
    intro l
    induction l with
    | nil => intro _; rfl
    | cons o l ih => intro h; rw [skips_cons, if_neg (h o (List.mem_cons_self ..)), ih fun x hx => h x (List.mem_cons_of_mem _ hx)]; rfl
   exact this _ fun o ho => by have := (hm o ho).1; omega
  ·rw [tdL]; have := diffOps_len a b; simp; omega
 | o :: l, a, b, h => by
  have fo := h o (List.mem_cons_self ..)
  have i := fun a b => ex_td l a b fun x hx => h x (List.mem_cons_of_mem _ hx)
  rw [tdL, ex_cons]
  rcases fo with ⟨hk, h1, h2⟩ | ⟨hk, h1⟩
  ·obtain ⟨i1, i2, i3, i4, i5⟩ := i [] []
   obtain ⟨m, hm⟩ : ∃ m : Nat, o.f1.toNat = m + 1 := ⟨o.f1.toNat - 1, by omega⟩
   have dm := diffOps_mem a b
   have eo : exO o = List.replicate (m + 1) .skip := by rw [← hm]; simp [exO, hk]
   have z : skips (diffOps a b) = 0 := by
    have : ∀ l : List Op, (∀ o ∈ l, o.f0 ≠ 1) → skips l = 0 := by
     intro l
     induction l with
     | nil => intro _; rfl
     | cons o l ih => intro h; rw [skips_cons, if_neg (h o (List.mem_cons_self ..)), ih fun x hx => h x (List.mem_cons_of_mem _ hx)]; rfl
    exact this _ fun o ho => by have := (dm o ho).1; omega
   rw [if_pos hk]
   refine ⟨?_, ?_, ?_, ?_, ?_⟩
   ·rw [eo, td_skips, ex_app, ex_cons, i1, eo]; simp [dU]
   ·intro x hx
    rcases List.mem_append.mp hx with hx | hx
    ·exact .inr ⟨(dm x hx).1, (dm x hx).2.1⟩
    ·rcases List.mem_cons.mp hx with rfl | hx
     ·exact .inl ⟨hk, h1, h2⟩
     ·exact i2 x hx
   ·rw [skips_app, skips_cons, skips_cons, i3, z]; omega
   ·have := diffOps_len a b
    simp only [List.length_append, List.length_cons, List.length_nil] at i4 ⊢; omega
   ·intro x hx
    rcases List.mem_append.mp hx with hx | hx
    ·rcases (dm x hx).2.2 with h | h
     ·exact .inl h
     ·exact .inr (.inl h)
    ·rcases List.mem_cons.mp hx with rfl | hx
     ·exact .inr (.inr ⟨x, List.mem_cons_self .., rfl⟩)
     ·rcases i5 x hx with h | h | ⟨y, hy, e⟩
      ·simp at h
      ·simp at h
      ·exact .inr (.inr ⟨y, List.mem_cons_of_mem _ hy, e⟩)
  ·have k1 : ¬ o.f0 = 1 := by omega
   rw [if_neg k1]
   obtain ⟨i1, i2, i3, i4, i5⟩ := i (if o.f0 = 4 then a else a ++ [o.f2]) (if o.f0 = 3 then b else b ++ [o.f2])
   refine ⟨?_, i2, by rw [i3, skips_cons, if_neg k1]; omega, ?_, ?_⟩
   ·rw [i1]
    rcases hk with hk | hk | hk
    ·rw [show exO o = [.keep o.f2] from by simp [exO, hk], if_neg (by omega), if_neg (by omega)]; rfl
    ·rw [show exO o = [.del o.f2] from by simp [exO, hk], if_neg (by omega), if_pos hk]; rfl
    ·rw [show exO o = [.ins o.f2] from by simp [exO, hk], if_pos hk, if_neg (by omega)]; rfl
   ·refine Nat.le_trans i4 ?_
    split <;> split <;> simp only [List.length_append, List.length_cons, List.length_nil] <;> omega
   ·intro x hx
    rcases i5 x hx with h | h | ⟨y, hy, e⟩
    ·split at h
     ·exact .inl h
     ·rcases List.mem_append.mp h with h | h
      ·exact .inl h
      ·exact .inr (.inr ⟨o, List.mem_cons_self .., List.mem_singleton.mp h⟩)
    ·split at h
     ·exact .inr (.inl h)
     ·rcases List.mem_append.mp h with h | h
      ·exact .inr (.inl h)
      ·exact .inr (.inr ⟨o, List.mem_cons_self .., List.mem_singleton.mp h⟩)
    ·exact .inr (.inr ⟨y, List.mem_cons_of_mem _ hy, e⟩)
def tidyL (l : List Op) : List Op := pack (nf [] (tdU [] [] (ex l)))
theorem norm_td {l : List Op} (h : ∀ o ∈ l, formO o) : normL (tdL [] [] l) = tidyL l := by
 unfold normL tidyL; rw [(ex_td l [] [] h).1]
theorem right_td {l : List Op} (hr : rightL l = true) : rightL (tdL [] [] l) = true := by
 obtain ⟨e1, e2, _⟩ := ex_td l [] [] (rightL_form hr)
 rw [right_iff e2, e1, rightU_td]; exact rightL_U hr
theorem Sm.td {l : List Op} (h : Sm l) (hl : l.length < 2199023255552) (hf : ∀ o ∈ l, formO o) : Sm (tdL [] [] l) := by
 obtain ⟨_, _, _, e4, e5⟩ := ex_td l [] [] hf
 refine ⟨by simp only [List.length_nil] at e4; omega, fun o ho => ?_⟩
 rcases e5 o ho with h2 | h2 | ⟨x, hx, e⟩
 ·simp at h2
 ·simp at h2
 ·rw [e]; exact h.2 x hx
theorem right_tidy {l : List Op} (hr : rightL l = true) : rightL (tidyL l) = true := by
 unfold tidyL; rw [right_pack, rightU_nf, rightU_td]; exact rightL_U hr
theorem doL_tidy {l : List Op} (hr : rightL l = true) (ls : List ByteArray) : doL (tidyL l) ls = doL l ls := by
 unfold doL
 rw [right_tidy hr, hr]
 unfold tidyL
 rw [ex_pack, doU_nf0, doU_td0]
end Go.Proofs.Ytfoponahdidddaa.P
namespace Go.Proofs.Ytfoponahdidddaa.P
open Go.RowKit Go.Proofs.YtfoponahdidddaaW.PrintWords Go.Proofs.YtfoponahdidddaaW.PrintLast Go.Proofs.YtfoponahdidddaaW.PrintMore
theorem diff_f' {a b : List ByteArray} (ha : a.length ≤ 1000000) (hb : b.length ≤ 1000000) : lcs_Diff.f a b = some (diffOps a b) := by simp [lcs_Diff.f, ha, hb]
def tOld (l : List Op) : List ByteArray := (l.filter fun o => decide (o.f0 = 1 ∨ o.f0 = 2 ∨ o.f0 = 3)).map (·.f2)
def tNew (l : List Op) : List ByteArray := (l.filter fun o => decide (o.f0 = 1 ∨ o.f0 = 2 ∨ o.f0 = 4)).map (·.f2)
theorem tOld_len (l : List Op) : (tOld l).length ≤ l.length := by unfold tOld; rw [List.length_map]; exact List.length_filter_le _ _
theorem tNew_len (l : List Op) : (tNew l).length ≤ l.length := by unfold tNew; rw [List.length_map]; exact List.length_filter_le _ _
theorem texts_old (s : List Op) : ∀ (p : List Op) (out : List ByteArray), Sm (p ++ s) → out.length ≤ p.length → Ev (fun k => tidy_texts_ops_Old.l0 k out (p ++ s) ((p ++ s).length : Int) (p.length : Int)) (out ++ tOld s) := by
 induction s with
 | nil =>
  intro p out _ _
  refine Ev.step (fun k => rfl) ?_
  simp only [tidy_texts_ops_Old.l0, lt_end, if_false]
  simpa [tOld] using Ev.now out
 | cons o s ih =>
  intro p out hb ho
  have i := fun out => ih (p ++ [o]) out hb.snoc
  rw [List.append_assoc, List.singleton_append] at i
  have hp := hb.len
  have co : out.length < 8796093022208 := by omega
  refine Ev.step (fun k => rfl) ?_
  simp only [tidy_texts_ops_Old.l0, lt_mid, nn_nat, if_true, rdOp_mid, old_kind, Option.bind_some, decide_eq_true_eq, wrap_len p o (by omega), if_pos co]
  by_cases h : o.f0 = 1 ∨ o.f0 = 2 ∨ o.f0 = 3
  ·simp only [if_pos h]
   have := i (out ++ [o.f2]) (by simp; omega)
   have e : tOld (o :: s) = o.f2 :: tOld s := by unfold tOld; rw [List.filter_cons_of_pos (by simpa using h)]; rfl
   rw [e]; simpa using this
  ·simp only [if_neg h]
   have := i out (by simp; omega)
   have e : tOld (o :: s) = tOld s := by unfold tOld; rw [List.filter_cons_of_neg (by simpa using h)]
   rw [e]; exact this
theorem texts_new (s : List Op) : ∀ (p : List Op) (out : List ByteArray), Sm (p ++ s) → out.length ≤ p.length → Ev (fun k => tidy_texts_ops_New.l0 k out (p ++ s) ((p ++ s).length : Int) (p.length : Int)) (out ++ tNew s) := by
 induction s with
 | nil =>
  intro p out _ _
  refine Ev.step (fun k => rfl) ?_
  simp only [tidy_texts_ops_New.l0, lt_end, if_false]
  simpa [tNew] using Ev.now out
 | cons o s ih =>
  intro p out hb ho
  have i := fun out => ih (p ++ [o]) out hb.snoc
  rw [List.append_assoc, List.singleton_append] at i
  have hp := hb.len
  have co : out.length < 8796093022208 := by omega
  refine Ev.step (fun k => rfl) ?_
  simp only [tidy_texts_ops_New.l0, lt_mid, nn_nat, if_true, rdOp_mid, new_kind, Option.bind_some, decide_eq_true_eq, wrap_len p o (by omega), if_pos co]
  by_cases h : o.f0 = 1 ∨ o.f0 = 2 ∨ o.f0 = 4
  ·simp only [if_pos h]
   have := i (out ++ [o.f2]) (by simp; omega)
   have e : tNew (o :: s) = o.f2 :: tNew s := by unfold tNew; rw [List.filter_cons_of_pos (by simpa using h)]; rfl
   rw [e]; simpa using this
  ·simp only [if_neg h]
   have := i out (by simp; omega)
   have e : tNew (o :: s) = tNew s := by unfold tNew; rw [List.filter_cons_of_neg (by simpa using h)]
   rw [e]; exact this
theorem td_run : ∀ (r : List Op) (a b : List ByteArray) (s : List Op), (∀ o ∈ r, o.f0 = 2 ∨ o.f0 = 3 ∨ o.f0 = 4) → tdL a b (r ++ s) = tdL (a ++ tOld r) (b ++ tNew r) s
 | [], a, b, s, _ => by simp [tOld, tNew]
 | o :: r, a, b, s, h => by
  have ho := h o (List.mem_cons_self ..)
  have i := fun a b => td_run r a b s fun x hx => h x (List.mem_cons_of_mem _ hx)
  rw [List.cons_append, tdL, if_neg (by omega), i]
  rcases ho with hk | hk | hk
  ·rw [if_neg (by omega), if_neg (by omega), show tOld (o :: r) = o.f2 :: tOld r from by simp [tOld, hk], show tNew (o :: r) = o.f2 :: tNew r from by simp [tNew, hk]]; simp
  ·rw [if_neg (by omega), if_pos hk, show tOld (o :: r) = o.f2 :: tOld r from by simp [tOld, hk], show tNew (o :: r) = tNew r from by simp [tNew, hk]]; simp
  ·rw [if_pos hk, if_neg (by omega), show tOld (o :: r) = tOld r from by simp [tOld, hk], show tNew (o :: r) = o.f2 :: tNew r from by simp [tNew, hk]]; simp
theorem tidy_run (r : List Op) : ∀ (p s out : List Op) (from_ : Int) (v : List Op), Sm (p ++ (r ++ s)) → (∀ o ∈ r, o.f0 ≠ 1) → (∀ o t, s = o :: t → o.f0 = 1) →
  Ev (fun k => tidy_Ops.j2 k (p ++ (r ++ s)) out ((p ++ r).length : Int) from_) v → Ev (fun k => tidy_Ops.l1 k (p ++ (r ++ s)) out (p.length : Int) from_) v := by
 induction r with
 | nil =>
  intro p s out from_ v hb _ hs h
  rw [List.append_nil, List.nil_append] at h
  rw [List.nil_append]
  refine Ev.step (fun k => rfl) ?_
  cases s with
  | nil =>
   simp only [tidy_Ops.l1, lt_end, if_false]
   exact h
  | cons o t =>
   have ho := hs o t rfl
   simp only [tidy_Ops.l1, lt_mid, nn_nat, if_true, rdOp_mid, if_pos ho]
   exact h
 | cons o r ih =>
  intro p s out from_ v hb hr hs h
  have ho := hr o (List.mem_cons_self ..)
  have i := ih (p ++ [o]) s out from_ v (by simpa using hb) (fun x hx => hr x (List.mem_cons_of_mem _ hx)) hs (by simpa using h)
  rw [List.append_assoc, List.singleton_append] at i
  rw [List.cons_append] at hb ⊢
  refine Ev.step (fun k => rfl) ?_
  simp only [tidy_Ops.l1, lt_mid, nn_nat, if_true, rdOp_mid, if_neg ho, wrap_len p o (by have := hb.len; omega)]
  exact i
theorem tidy_loop : ∀ (m : Nat) (s p out v : List Op), s.length ≤ m → Sm (p ++ s) → (p ++ s).length ≤ 1000000 → (∀ o ∈ s, okOne o = true) → out.length ≤ 2 * p.length →
  Ev (fun k => ops_Norm.f k (out ++ tdL [] [] s)) v → Ev (fun k => tidy_Ops.l0 k (p ++ s) out (p.length : Int)) v := by
 intro m
 induction m with
 | zero =>
  intro s p out v hm hb hl _ _ h
  obtain rfl : s = [] := List.length_eq_zero_iff.mp (by omega)
  refine Ev.step (fun k => rfl) ?_
  simp only [tidy_Ops.l0, lt_end, if_false]
  rw [tdL, diffOps_nil_left, List.map_nil, List.append_nil] at h
  exact Ev.bind' h (Ev.now _)
 | succ m ih =>
  intro s p out v hm hb hl hok ho h
  by_cases hs : s = []
  ·subst hs
   refine Ev.step (fun k => rfl) ?_
   simp only [tidy_Ops.l0, lt_end, if_false]
   rw [tdL, diffOps_nil_left, List.map_nil, List.append_nil] at h
   exact Ev.bind' h (Ev.now _)
  have hpos : 0 < s.length := List.length_pos_iff.mpr hs
  have g : ((p.length : Int) < ((p ++ s).length : Int)) := by simp; omega
  refine Ev.step (fun k => rfl) ?_
  simp only [tidy_Ops.l0, if_pos g]
  obtain ⟨r, t, rfl, hr, ht⟩ := cut (fun o => decide (o.f0 ≠ 1)) s
  have hr1 : ∀ o ∈ r, o.f0 ≠ 1 := fun o h => by simpa using hr o h
  have ht1 : ∀ o y, t = o :: y → o.f0 = 1 := fun o y e => by simpa using ht o y e
  have hr2 : ∀ o ∈ r, o.f0 = 2 ∨ o.f0 = 3 ∨ o.f0 = 4 := fun o h => (okOne_ne (hok o (by simp [h])) (hr1 o h)).1
  rw [td_run r [] [] t hr2, List.nil_append, List.nil_append] at h
  refine tidy_run r p t out _ v hb hr1 ht1 ?_
  simp only [List.length_append] at hm hl hpos
  have c1 : (0 : Int) ≤ (p.length : Int) := by omega
  have c2 : (p.length : Int) ≤ ((p ++ r).length : Int) := by simp only [List.length_append]; omega
  have c3 : ((p ++ r).length : Int) ≤ ((p ++ (r ++ t)).length : Int) := by simp; omega
  have hcut : ((p ++ (r ++ t)).take ((p ++ r).length : Int).toNat).drop (p.length : Int).toNat = r := by
   rw [Int.toNat_natCast, Int.toNat_natCast, ← List.append_assoc, List.take_left' rfl, List.drop_left' rfl]
  have hsr : Sm r := hb.sub.left
  have e1 : Ev (fun k => tidy_texts_ops_Old.f k r) (tOld r) := by
   have := texts_old r [] [] hsr (by simp)
   simpa [tidy_texts_ops_Old.f] using this
  have e2 : Ev (fun k => tidy_texts_ops_New.f k r) (tNew r) := by
   have := texts_new r [] [] hsr (by simp)
   simpa [tidy_texts_ops_New.f] using this
  have l1 := tOld_len r
  have l2 := tNew_len r
  have l3 := diffOps_len (tOld r) (tNew r)
  have c4 : out.length + (diffOps (tOld r) (tNew r)).length < 4398046511104 := by omega
  refine Ev.step (fun k => rfl) ?_
  simp only [tidy_Ops.j2, if_pos c1, if_pos c2, if_pos c3, hcut]
  refine Ev.bind' e1 ?_
  refine Ev.bind' e2 ?_
  simp only [diff_f' (a := tOld r) (b := tNew r) (by omega) (by omega), Option.bind_some, if_pos c4]
  cases t with
  | nil =>
   have c5 : ¬ ((p ++ r).length : Int) < ((p ++ (r ++ [])).length : Int) := by simp
   have w : wrap64 (((p ++ r).length : Int) + 1) = ((p ++ r).length : Int) + 1 := by simp only [List.length_append]; unfold wrap64; omega
   have c6 : ¬ ((p ++ r).length : Int) + 1 < ((p ++ (r ++ [])).length : Int) := by simp; omega
   simp only [if_neg c5, w]
   refine Ev.step (fun k => rfl) ?_
   simp only [tidy_Ops.l0, if_neg c6]
   rw [tdL] at h
   exact Ev.bind' h (Ev.now _)
  | cons o t =>
   have c5 : ((p ++ r).length : Int) < ((p ++ (r ++ o :: t)).length : Int) := by simp; omega
   have c6 : (0 : Int) ≤ ((p ++ r).length : Int) := by omega
   have hrd : rd_Op (p ++ (r ++ o :: t)) ((p ++ r).length : Int) = o := by
    rw [← List.append_assoc]; exact rdOp_mid (p ++ r) t o
   have hw : wrap64 (((p ++ r).length : Int) + 1) = (((p ++ r) ++ [o]).length : Int) := wrap_len (p ++ r) o (by simp only [List.length_append]; omega)
   have c7 : (out ++ diffOps (tOld r) (tNew r)).length < 4398046511104 := by rw [List.length_append]; exact c4
   simp only [if_pos c5, if_pos c6, if_pos c7, hrd, hw]
   rw [tdL, if_pos (ht1 o t rfl)] at h
   have elist : p ++ (r ++ o :: t) = ((p ++ r) ++ [o]) ++ t := by simp
   rw [elist] at hb ⊢
   simp only [List.length_cons] at hm hl hpos
   refine ih t ((p ++ r) ++ [o]) _ v (by omega) hb (by simp only [List.length_append, List.length_cons, List.length_nil]; omega) (fun x hx => hok x (by simp [hx])) ?_ ?_
   ·simp only [List.length_append, List.length_cons, List.length_nil]; omega
   ·simpa using h
theorem ptidy_ev {l : List Op} (h : Sm l) (hl : l.length ≤ 1000000) : Ev (fun k => tidy_Ops.f k l) (if rightL l then tidyL l else []) := by
 refine Ev.bind' (right_ev h) ?_
 cases hr : rightL l
 ·simp only [Bool.false_eq_true, if_false]; exact Ev.now _
 ·simp only [if_true]
  have hf := rightL_form hr
  refine tidy_loop l.length l [] [] _ (Nat.le_refl _) h hl (rightL_ok hr).1 (by simp) ?_
  have := norm_ev (h.td (by omega) hf)
  rw [right_td hr, if_pos rfl, norm_td hf] at this
  exact this
end Go.Proofs.Ytfoponahdidddaa.P
namespace Go.Proofs.Ytfoponahdidddaa.P
open Go.RowKit Go.Proofs.YtfoponahdidddaaW.PrintWords Go.Proofs.YtfoponahdidddaaW.PrintLast Go.Proofs.YtfoponahdidddaaW.PrintMore
def interL (p q : List Op) : List Op × Bool := if rightL p = true ∧ (thenL (flipL p) q).2 = true then (tidyL (thenL (flipL p) q).1, true) else ([], false)
theorem flip_small {p : List Op} (h : Sx p) (hr : rightL p = true) : Sx (flipL p) ∧ (flipL p).length ≤ p.length := by
 have hf : ∀ o ∈ p.map flipO, formO o := by
  intro o ho
  obtain ⟨x, hx, rfl⟩ := List.mem_map.mp ho
  exact form_flip (rightL_form hr x hx)
 have l := norm_len hf
 rw [List.length_map] at l
 rw [← norm_flip hr]
 refine ⟨⟨by have := h.1; omega, norm_small (by omega) fun o ho => ?_⟩, l⟩
 obtain ⟨x, hx, rfl⟩ := List.mem_map.mp ho
 have := h.2 x hx
 rw [flipO_val]
 split
 ·exact this
 ·split <;> exact this
theorem flip_right {p : List Op} (hr : rightL p = true) : rightL (flipL p) = true := by
 rw [← norm_flip hr]; exact right_norm (right_flip hr)
theorem flip_ex {p : List Op} (hr : rightL p = true) : ex (flipL p) = nf [] (flipU (ex p)) := by
 rw [← norm_flip hr, ex_norm, ex_flip (rightL_form hr)]
theorem pinter_ev {p q : List Op} (hp : Sx p) (hq : Sx q) (hl : p.length + q.length ≤ 1000000) : Ev (fun k => inter_Ops.f k p q) (interL p q) := by
 unfold interL
 refine Ev.bind' (right_ev hp.sm) ?_
 cases rp : rightL p
 ·simp only [Bool.false_eq_true, if_false, false_and]; exact Ev.now _
 simp only [if_true, true_and]
 obtain ⟨sf, lf⟩ := flip_small hp rp
 have e := flip_ev hp.sm
 rw [rp, if_pos rfl] at e
 refine Ev.bind' e ?_
 refine Ev.bind' (pthen_ev sf hq) ?_
 cases ht : (thenL (flipL p) q).2
 ·simp only [Bool.false_eq_true, if_false]; exact Ev.now _
 simp only [if_true]
 have ll := (thenL_len sf hq).1
 have sx := sf.then hq (by omega)
 have t := ptidy_ev sx.sm (by omega)
 rw [thenL_right ht, if_pos rfl] at t
 exact Ev.bind' t (Ev.now _)
theorem tidy_small {l : List Op} (h : Sx l) (hr : rightL l = true) : (tidyL l).length ≤ 2 * l.length ∧ ∀ o ∈ tidyL l, o.f2.size < 1073741824 := by
 have hf := rightL_form hr
 obtain ⟨_, t2, _, t4, t5⟩ := ex_td l [] [] hf
 rw [← norm_td hf]
 have n := norm_len t2
 simp only [List.length_nil, Nat.zero_add] at t4
 refine ⟨by omega, norm_small (by omega) fun o ho => ?_⟩
 rcases t5 o ho with h1 | h1 | ⟨x, hx, h1⟩
 ·simp at h1
 ·simp at h1
 ·rw [h1]; exact h.2 x hx
theorem inter_len {p q : List Op} (hp : Sx p) (hq : Sx q) (hl : p.length + q.length ≤ 1000000) : (interL p q).1.length ≤ 2 * (p.length + q.length) ∧ Sx (interL p q).1 := by
 unfold interL
 split
 ·rename_i c
  obtain ⟨sf, lf⟩ := flip_small hp c.1
  have ll := (thenL_len sf hq).1
  have sx := sf.then hq (by omega)
  obtain ⟨t1, t2⟩ := tidy_small sx (thenL_right c.2)
  exact ⟨by show (tidyL _).length ≤ _; omega, by show (tidyL _).length ≤ _; omega, t2⟩
 ·exact ⟨by simp, by simp, by simp⟩
theorem inter_leads {p q : List Op} {ls : List ByteArray} (hp : Sx p) (lp : p.length ≤ 1000000) (lq : q.length ≤ 1000000) (la : (doL p ls).1.length ≤ 2000000) (h1 : (doL p ls).2 = true) (h2 : (doL q ls).2 = true) :
  (interL p q).2 = true ∧ doL (interL p q).1 (doL p ls).1 = ((doL q ls).1, true) := by
 obtain ⟨a, rp, wl, d3, wa, e⟩ := doL_true h1
 rw [e] at la ⊢
 obtain ⟨sf, lf⟩ := flip_small hp rp
 have back : doL (flipL p) a = (ls, true) := doL_of (flip_right rp) wa (by rw [flip_ex rp, doU_nf0]; exact doU_flip _ _ _ d3) wl
 obtain ⟨t1, t2⟩ := then_do (p := flipL p) (q := q) (ls := a) (by omega) lq la (by rw [back]) (by rw [back]; exact h2)
 rw [back] at t2
 unfold interL
 rw [if_pos ⟨rp, t1⟩]
 refine ⟨rfl, ?_⟩
 show doL (tidyL _) a = _
 rw [doL_tidy (thenL_right t1), t2]
theorem alive14 : Ev (fun k => patchworklaw14_alive.f k) true := by
 have s0 : Sx [] := ⟨by simp, by simp⟩
 have s1 : Sx [(⟨4, 0, ⟨#[97, 10]⟩⟩ : Op)] := ⟨by simp, fun o ho => by rw [List.mem_singleton.mp ho]; exact (by decide : (2 : Nat) < 1073741824)⟩
 have s2 : Sx [(⟨4, 0, ⟨#[98, 10]⟩⟩ : Op)] := ⟨by simp, fun o ho => by rw [List.mem_singleton.mp ho]; exact (by decide : (2 : Nat) < 1073741824)⟩
 have e0 : interL [] [] = ([], true) := by decide +kernel
 have e1 : interL [(⟨4, 0, ⟨#[97, 10]⟩⟩ : Op)] [(⟨4, 0, ⟨#[98, 10]⟩⟩ : Op)] = ([⟨3, 0, ⟨#[97, 10]⟩⟩, ⟨4, 0, ⟨#[98, 10]⟩⟩], true) := by decide +kernel
 have a0 := pinter_ev s0 s0 (by simp)
 have a1 := pinter_ev s1 s2 (by simp)
 rw [e0] at a0
 rw [e1] at a1
 unfold patchworklaw14_alive.f
 refine Ev.bind' a0 ?_
 refine Ev.bind' a1 ?_
 exact Ev.now _
end Go.Proofs.Ytfoponahdidddaa.P
