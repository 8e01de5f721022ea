/- Own: steps without what turns nothing: each stretch between lines that are not known anew from side to side. -/
import Derived.Test.YtacpejblnjgcoaaDb
import Derived.Test.YtacpejblnjgcoaaN0
import Derived.Test.YtacpejblnjgcoaaLB
namespace Go.Proofs.Ytacpejblnjgcoaa.P
open Go.RowKit Go.Proofs.YtacpejblnjgcoaaW.PrintWords Go.Proofs.YtacpejblnjgcoaaW.PrintLast Go.Proofs.YtacpejblnjgcoaaW.PrintMore
set_option linter.unusedVariables false
set_option linter.unusedSimpArgs false

def dU (a b : List ByteArray) : List U := ex (diffOps a b)
theorem ex_inss (b : List ByteArray) : ex (b.map fun t => (⟨4, 0, t⟩ : Op)) = b.map .ins := by
  induction b with
  | nil => rfl
  | cons t b ih => rw [List.map_cons, ex_cons, ih]; rfl
theorem ex_dels (a : List ByteArray) : ex (a.map fun t => (⟨3, 0, t⟩ : Op)) = a.map .del := by
  induction a with
  | nil => rfl
  | cons t b ih => rw [List.map_cons, ex_cons, ih]; rfl
theorem dU_nil (b : List ByteArray) : dU [] b = b.map .ins := by unfold dU; rw [diffOps_nil_left, ex_inss]
theorem dU_end (a : List ByteArray) : dU a [] = a.map .del := by unfold dU; rw [diffOps_nil_right, ex_dels]
theorem dU_same (x : ByteArray) (a b : List ByteArray) : dU (x :: a) (x :: b) = .keep x :: dU a b := by unfold dU; rw [diffOps_same, ex_cons]; rfl
theorem dU_del {x y : ByteArray} {a b : List ByteArray} (h : x ≠ y) (h2 : lcs (x :: a) b ≤ lcs a (y :: b)) : dU (x :: a) (y :: b) = .del x :: dU a (y :: b) := by unfold dU; rw [diffOps_del h h2, ex_cons]; rfl
theorem dU_ins {x y : ByteArray} {a b : List ByteArray} (h : x ≠ y) (h2 : ¬ lcs (x :: a) b ≤ lcs a (y :: b)) : dU (x :: a) (y :: b) = .ins y :: dU (x :: a) b := by unfold dU; rw [diffOps_ins h h2, ex_cons]; rfl
theorem dU_ind {C : List ByteArray → List ByteArray → List U → Prop} (h1 : ∀ b, C [] b (b.map .ins)) (h2 : ∀ x a, C (x :: a) [] ((x :: a).map .del)) (h3 : ∀ x a b, C a b (dU a b) → C (x :: a) (x :: b) (.keep x :: dU a b))
    (h4 : ∀ x a y b, x ≠ y → lcs (x :: a) b ≤ lcs a (y :: b) → C a (y :: b) (dU a (y :: b)) → C (x :: a) (y :: b) (.del x :: dU a (y :: b)))
    (h5 : ∀ x a y b, x ≠ y → ¬ lcs (x :: a) b ≤ lcs a (y :: b) → C (x :: a) b (dU (x :: a) b) → C (x :: a) (y :: b) (.ins y :: dU (x :: a) b)) : ∀ a b, C a b (dU a b) := by
  intro a b
  induction a, b using diffOps.induct with
  | case1 b => rw [dU_nil]; exact h1 b
  | case2 x a => rw [dU_end]; exact h2 x a
  | case3 a x b ih => rw [dU_same]; exact h3 x a b ih
  | case4 x a y b h k ih => rw [dU_del h k]; exact h4 x a y b h k ih
  | case5 x a y b h k ih => rw [dU_ins h k]; exact h5 x a y b h k ih
theorem sides_inss (b : List ByteArray) : olds (b.map .ins) = [] ∧ news (b.map .ins) = b.map some := by
  induction b with
  | nil => exact ⟨rfl, rfl⟩
  | cons t b ih => simp only [List.map_cons, olds, news, ih, and_self]
theorem sides_dels (b : List ByteArray) : olds (b.map .del) = b.map some ∧ news (b.map .del) = [] := by
  induction b with
  | nil => exact ⟨rfl, rfl⟩
  | cons t b ih => simp only [List.map_cons, olds, news, ih, and_self]
theorem dU_sides : ∀ a b, olds (dU a b) = a.map some ∧ news (dU a b) = b.map some :=
  dU_ind (C := fun a b u => olds u = a.map some ∧ news u = b.map some) (fun b => sides_inss b) (fun x a => sides_dels (x :: a))
    (fun x a b ih => by simp only [olds, news, ih.1, ih.2, List.map_cons, and_self])
    (fun x a y b _ _ ih => by simp only [olds, news, ih.1, ih.2, List.map_cons, and_self])
    (fun x a y b _ _ ih => by simp only [olds, news, ih.1, ih.2, List.map_cons, and_self])
def skf (s : List U) : Prop := ∀ x ∈ s, isSkip x = false
theorem skf.cons {x : U} {s : List U} (hx : isSkip x = false) (h : skf s) : skf (x :: s) := fun y hy => by
  rcases List.mem_cons.mp hy with rfl | hy
  · exact hx
  · exact h y hy
theorem skf.tail {x : U} {s : List U} (h : skf (x :: s)) : skf s := fun y hy => h y (List.mem_cons_of_mem _ hy)
theorem skf.app {a b : List U} (ha : skf a) (hb : skf b) : skf (a ++ b) := fun y hy => by
  rcases List.mem_append.mp hy with h | h
  · exact ha y h
  · exact hb y h
theorem skf_inss (b : List ByteArray) : skf (b.map .ins) := fun x hx => by obtain ⟨t, _, rfl⟩ := List.mem_map.mp hx; rfl
theorem skf_dels (b : List ByteArray) : skf (b.map .del) := fun x hx => by obtain ⟨t, _, rfl⟩ := List.mem_map.mp hx; rfl
theorem dU_skf : ∀ a b, skf (dU a b) :=
  dU_ind (C := fun a b u => skf u) (fun b => skf_inss b) (fun x a => skf_dels (x :: a)) (fun x a b ih => ih.cons rfl) (fun x a y b _ _ ih => ih.cons rfl) (fun x a y b _ _ ih => ih.cons rfl)
theorem ch_inss (b : List ByteArray) : chU (b.map .ins) = b.length := by
  induction b with
  | nil => rfl
  | cons t b ih => rw [List.map_cons, chU_ins, ih]; rfl
theorem ch_dels (b : List ByteArray) : chU (b.map .del) = b.length := by
  induction b with
  | nil => rfl
  | cons t b ih => rw [List.map_cons, chU_del, ih]; rfl
theorem dU_ch : ∀ a b, chU (dU a b) + 2 * lcs a b = a.length + b.length :=
  dU_ind (C := fun a b u => chU u + 2 * lcs a b = a.length + b.length) (fun b => by rw [ch_inss, lcs_nil_left]; simp) (fun x a => by rw [ch_dels, lcs_nil_right]; simp)
    (fun x a b ih => by rw [chU_keep, lcs_cons_same]; simp only [List.length_cons]; omega)
    (fun x a y b h k ih => by rw [chU_del, lcs_cons_ne h, Nat.max_eq_left k]; simp only [List.length_cons] at ih ⊢; omega)
    (fun x a y b h k ih => by rw [chU_ins, lcs_cons_ne h, Nat.max_eq_right (by omega)]; simp only [List.length_cons] at ih ⊢; omega)
theorem dU_self : ∀ a : List ByteArray, dU a a = a.map .keep
  | [] => by rw [dU_nil]; rfl
  | x :: a => by rw [dU_same, dU_self a]; rfl
/-- All stretches; those of the one that is gone through have come so far. -/
def tdU : List ByteArray → List ByteArray → List U → List U
  | a, b, [] => dU a b
  | a, b, .skip :: u => dU a b ++ .skip :: tdU [] [] u
  | a, b, .keep t :: u => tdU (a ++ [t]) (b ++ [t]) u
  | a, b, .del t :: u => tdU (a ++ [t]) b u
  | a, b, .ins t :: u => tdU a (b ++ [t]) u
theorem tdU_sides : ∀ (u : List U) (a b : List ByteArray), olds (tdU a b u) = a.map some ++ olds u ∧ news (tdU a b u) = b.map some ++ news u
  | [], a, b => by have := dU_sides a b; simpa [tdU, olds, news] using this
  | .skip :: u, a, b => by
    have h := dU_sides a b
    have i := tdU_sides u [] []
    simp only [tdU, olds_app, news_app, olds, news, h.1, h.2, i.1, i.2, List.map_nil, List.nil_append, and_self]
  | .keep t :: u, a, b => by
    have i := tdU_sides u (a ++ [t]) (b ++ [t])
    simp only [tdU, olds, news, i.1, i.2, List.map_append, List.map_cons, List.map_nil, List.append_assoc, List.singleton_append, and_self]
  | .del t :: u, a, b => by
    have i := tdU_sides u (a ++ [t]) b
    simp only [tdU, olds, news, i.1, i.2, List.map_append, List.map_cons, List.map_nil, List.append_assoc, List.singleton_append, and_self]
  | .ins t :: u, a, b => by
    have i := tdU_sides u a (b ++ [t])
    simp only [tdU, olds, news, i.1, i.2, List.map_append, List.map_cons, List.map_nil, List.append_assoc, List.singleton_append, and_self]
theorem rightU_td (u : List U) : rightU (tdU [] [] u) = rightU u := by
  have := tdU_sides u [] []
  unfold rightU
  rw [this.1, this.2]; rfl
/-- What a stretch does. -/
def oT (s : List U) : List ByteArray := s.filterMap fun x => match x with | .keep t => some t | .del t => some t | _ => none
def nT (s : List U) : List ByteArray := s.filterMap fun x => match x with | .keep t => some t | .ins t => some t | _ => none
def seg (a b : List ByteArray) (v : List U) (ls : List ByteArray) : Option (List ByteArray) := if ls.take a.length = a then (doU v (ls.drop a.length)).map (b ++ ·) else none
theorem doU_seg : ∀ (s : List U), skf s → ∀ (v : List U) (ls : List ByteArray), doU (s ++ v) ls = seg (oT s) (nT s) v ls
  | [], _, v, ls => by simp [seg, oT, nT]
  | .skip :: s, h, v, ls => by have := h .skip (List.mem_cons_self ..); simp [isSkip] at this
  | .ins t :: s, h, v, ls => by
    have i := doU_seg s h.tail v ls
    rw [List.cons_append, doU, i]
    unfold seg
    rw [show oT (.ins t :: s) = oT s from rfl, show nT (.ins t :: s) = t :: nT s from rfl]
    split
    · rw [Option.map_map]; rfl
    · rfl
  | .del t :: s, h, v, [] => by
    rw [List.cons_append, doU]
    unfold seg
    rw [show oT (.del t :: s) = t :: oT s from rfl, if_neg (by simp)]
  | .del t :: s, h, v, x :: ls => by
    have i := doU_seg s h.tail v ls
    rw [List.cons_append, doU, i]
    unfold seg
    rw [show oT (.del t :: s) = t :: oT s from rfl, show nT (.del t :: s) = nT s from rfl]
    simp only [List.length_cons, List.take_succ_cons, List.drop_succ_cons, List.cons.injEq]
    by_cases hx : x = t
    · simp [hx]
    · simp [hx]
  | .keep t :: s, h, v, [] => by
    rw [List.cons_append, doU]
    unfold seg
    rw [show oT (.keep t :: s) = t :: oT s from rfl, if_neg (by simp)]
  | .keep t :: s, h, v, x :: ls => by
    have i := doU_seg s h.tail v ls
    rw [List.cons_append, doU, i]
    unfold seg
    rw [show oT (.keep t :: s) = t :: oT s from rfl, show nT (.keep t :: s) = t :: nT s from rfl]
    simp only [List.length_cons, List.take_succ_cons, List.drop_succ_cons, List.cons.injEq]
    by_cases hx : x = t
    · subst hx
      simp only [if_true, true_and]
      split
      · rw [Option.map_map]; rfl
      · rfl
    · simp [hx]
theorem oT_app (a b : List U) : oT (a ++ b) = oT a ++ oT b := by simp [oT]
theorem nT_app (a b : List U) : nT (a ++ b) = nT a ++ nT b := by simp [nT]
theorem oT_olds : ∀ {s : List U}, skf s → (olds s) = (oT s).map some
  | [], _ => rfl
  | x :: s, h => by
    have i := oT_olds h.tail
    have hx := h x (List.mem_cons_self ..)
    cases x with
    | skip => simp [isSkip] at hx
    | keep t => rw [olds, i]; rfl
    | del t => rw [olds, i]; rfl
    | ins t => rw [olds, i]; rfl
theorem nT_news : ∀ {s : List U}, skf s → (news s) = (nT s).map some
  | [], _ => rfl
  | x :: s, h => by
    have i := nT_news h.tail
    have hx := h x (List.mem_cons_self ..)
    cases x with
    | skip => simp [isSkip] at hx
    | keep t => rw [news, i]; rfl
    | del t => rw [news, i]; rfl
    | ins t => rw [news, i]; rfl
theorem map_some_inj {a b : List ByteArray} (h : a.map some = b.map some) : a = b := by
  have := congrArg (List.filterMap id) h
  simpa using this
theorem dU_texts (a b : List ByteArray) : oT (dU a b) = a ∧ nT (dU a b) = b :=
  ⟨map_some_inj ((oT_olds (dU_skf a b)).symm.trans (dU_sides a b).1), map_some_inj ((nT_news (dU_skf a b)).symm.trans (dU_sides a b).2)⟩
theorem seg_dU (a b : List ByteArray) (v : List U) (ls : List ByteArray) : doU (dU a b ++ v) ls = seg a b v ls := by
  rw [doU_seg _ (dU_skf a b), (dU_texts a b).1, (dU_texts a b).2]
theorem seg_step (a b : List ByteArray) (x : U) (hx : isSkip x = false) (v : List U) (ls : List ByteArray) : seg a b (x :: v) ls = seg (a ++ oT [x]) (b ++ nT [x]) v ls := by
  rw [← seg_dU a b, show dU a b ++ x :: v = (dU a b ++ [x]) ++ v from by simp, doU_seg _ ((dU_skf a b).app (fun y hy => by rw [List.mem_singleton.mp hy]; exact hx)), oT_app, nT_app, (dU_texts a b).1, (dU_texts a b).2]
theorem doU_td : ∀ (u : List U) (a b ls : List ByteArray), doU (tdU a b u) ls = seg a b u ls
  | [], a, b, ls => by
    have := seg_dU a b [] ls
    rw [List.append_nil] at this
    rw [tdU, this]
  | .skip :: u, a, b, ls => by
    rw [tdU, seg_dU]
    unfold seg
    split
    · congr 1
      have i := doU_td u [] []
      cases ls.drop a.length with
      | nil => rw [doU, doU]
      | cons x r => rw [doU, doU, i]; simp [seg]
    · rfl
  | .keep t :: u, a, b, ls => by rw [tdU, doU_td u, seg_step a b (.keep t) rfl]; rfl
  | .del t :: u, a, b, ls => by rw [tdU, doU_td u, seg_step a b (.del t) rfl, show nT [U.del t] = [] from rfl, List.append_nil]; rfl
  | .ins t :: u, a, b, ls => by rw [tdU, doU_td u, seg_step a b (.ins t) rfl, show oT [U.ins t] = [] from rfl, List.append_nil]; rfl
theorem doU_td0 (u : List U) (ls : List ByteArray) : doU (tdU [] [] u) ls = doU u ls := by rw [doU_td]; simp [seg]
/-- No more changes. -/
theorem td_ch : ∀ (u : List U) (a b c : List ByteArray), c.Sublist a → c.Sublist b → chU (tdU a b u) + 2 * c.length ≤ a.length + b.length + chU u
  | [], a, b, c, h1, h2 => by
    have := dU_ch a b
    have := lcs_ge h1 h2
    rw [tdU, chU_nil]; omega
  | .skip :: u, a, b, c, h1, h2 => by
    have := dU_ch a b
    have := lcs_ge h1 h2
    have i := td_ch u [] [] [] (List.Sublist.refl _) (List.Sublist.refl _)
    simp only [List.length_nil] at i
    rw [tdU, chU_app, chU_skip, chU_skip]; omega
  | .keep t :: u, a, b, c, h1, h2 => by
    have i := td_ch u (a ++ [t]) (b ++ [t]) (c ++ [t]) (h1.append (List.Sublist.refl _)) (h2.append (List.Sublist.refl _))
    simp only [List.length_append, List.length_singleton] at i
    rw [tdU, chU_keep]; omega
  | .del t :: u, a, b, c, h1, h2 => by
    have i := td_ch u (a ++ [t]) b c (h1.trans (List.sublist_append_left ..)) h2
    simp only [List.length_append, List.length_singleton] at i
    rw [tdU, chU_del]; omega
  | .ins t :: u, a, b, c, h1, h2 => by
    have i := td_ch u a (b ++ [t]) c h1 (h2.trans (List.sublist_append_left ..))
    simp only [List.length_append, List.length_singleton] at i
    rw [tdU, chU_ins]; omega
theorem td_ch0 (u : List U) : chU (tdU [] [] u) ≤ chU u := by
  have := td_ch u [] [] [] (List.Sublist.refl _) (List.Sublist.refl _)
  simpa using this
/-- It hangs on the sides alone. -/
def splitN : List (Option ByteArray) → List ByteArray × Option (List (Option ByteArray))
  | [] => ([], none)
  | none :: s => ([], some s)
  | some t :: s => (t :: (splitN s).1, (splitN s).2)
theorem splitN_app : ∀ (a : List ByteArray) (s : List (Option ByteArray)), splitN (a.map some ++ s) = (a ++ (splitN s).1, (splitN s).2)
  | [], s => rfl
  | t :: a, s => by rw [List.map_cons, List.cons_append, splitN, splitN_app a s]; rfl
theorem splitN_all (a : List ByteArray) : splitN (a.map some) = (a, none) := by
  have := splitN_app a []
  rw [List.append_nil] at this
  rw [this, splitN, List.append_nil]
def Gn : Nat → List (Option ByteArray) → List (Option ByteArray) → List U
  | 0, _, _ => []
  | n + 1, s, t => match (splitN s).2, (splitN t).2 with
    | some s', some t' => dU (splitN s).1 (splitN t).1 ++ .skip :: Gn n s' t'
    | _, _ => dU (splitN s).1 (splitN t).1
theorem td_Gn : ∀ (u : List U) (a b : List ByteArray) (n : Nat), u.length < n → tdU a b u = Gn n (a.map some ++ olds u) (b.map some ++ news u)
  | [], a, b, n + 1, _ => by simp [tdU, Gn, olds, news, splitN_all]
  | .skip :: u, a, b, n + 1, h => by
    have i := td_Gn u [] [] n (by simp only [List.length_cons] at h; omega)
    simp only [List.map_nil, List.nil_append] at i
    simp [tdU, Gn, olds, news, splitN_app, splitN, i]
  | .keep t :: u, a, b, n + 1, h => by
    have i := td_Gn u (a ++ [t]) (b ++ [t]) (n + 1) (by simp only [List.length_cons] at h; omega)
    simp only [List.map_append, List.map_cons, List.map_nil, List.append_assoc, List.singleton_append] at i
    exact i
  | .del t :: u, a, b, n + 1, h => by
    have i := td_Gn u (a ++ [t]) b (n + 1) (by simp only [List.length_cons] at h; omega)
    simp only [List.map_append, List.map_cons, List.map_nil, List.append_assoc, List.singleton_append] at i
    exact i
  | .ins t :: u, a, b, n + 1, h => by
    have i := td_Gn u a (b ++ [t]) (n + 1) (by simp only [List.length_cons] at h; omega)
    simp only [List.map_append, List.map_cons, List.map_nil, List.append_assoc, List.singleton_append] at i
    exact i
theorem td_cong {u v : List U} (h1 : olds u = olds v) (h2 : news u = news v) : tdU [] [] u = tdU [] [] v := by
  rw [td_Gn u [] [] (u.length + v.length + 1) (by omega), td_Gn v [] [] (u.length + v.length + 1) (by omega), h1, h2]
theorem ch_keeps (b : List ByteArray) : chU (b.map .keep) = 0 := by
  induction b with
  | nil => rfl
  | cons t b ih => rw [List.map_cons, chU_keep, ih]
theorem Gn_self : ∀ (n : Nat) (s : List (Option ByteArray)), chU (Gn n s s) = 0
  | 0, s => rfl
  | n + 1, s => by
    rw [Gn]
    cases (splitN s).2 with
    | none => simp only; rw [dU_self, ch_keeps]
    | some s' => simp only; rw [dU_self, chU_app, ch_keeps, chU_skip, Gn_self n s']
theorem ch_zero : ∀ {w : List U}, chU w = 0 → olds w = news w
  | [], _ => rfl
  | .skip :: w, h => by rw [chU_skip] at h; rw [olds, news, ch_zero h]
  | .keep t :: w, h => by rw [chU_keep] at h; rw [olds, news, ch_zero h]
  | .del t :: w, h => by rw [chU_del] at h; omega
  | .ins t :: w, h => by rw [chU_ins] at h; omega
theorem td_idle (u : List U) : chU (tdU [] [] u) = 0 ↔ olds u = news u := by
  constructor
  · intro h
    have := ch_zero h
    have s := tdU_sides u [] []
    rw [s.1, s.2] at this
    exact this
  · intro h
    rw [td_Gn u [] [] (u.length + 1) (by omega), h]
    exact Gn_self _ _
theorem td_td (u : List U) : nf [] (tdU [] [] (nf [] (tdU [] [] u))) = nf [] (tdU [] [] u) := by
  have s := tdU_sides u [] []
  rw [td_cong (u := nf [] (tdU [] [] u)) (v := u) (by rw [olds_nf0, s.1]; rfl) (by rw [news_nf0, s.2]; rfl)]
/-- The same of steps. -/
def tdL : List ByteArray → List ByteArray → List Op → List Op
  | a, b, [] => diffOps a b
  | a, b, o :: l => if o.f0 = 1 then diffOps a b ++ o :: tdL [] [] l else tdL (if o.f0 = 4 then a else a ++ [o.f2]) (if o.f0 = 3 then b else b ++ [o.f2]) l
theorem diffOps_mem (a b : List ByteArray) : ∀ o ∈ diffOps a b, (o.f0 = 2 ∨ o.f0 = 3 ∨ o.f0 = 4) ∧ o.f1 = 0 ∧ (o.f2 ∈ a ∨ o.f2 ∈ b) := by
  induction a, b using diffOps.induct with
  | case1 b =>
    rw [diffOps_nil_left]
    intro o ho
    obtain ⟨t, ht, rfl⟩ := List.mem_map.mp ho
    exact ⟨.inr (.inr rfl), rfl, .inr ht⟩
  | case2 x a =>
    rw [diffOps_nil_right]
    intro o ho
    obtain ⟨t, ht, rfl⟩ := List.mem_map.mp ho
    exact ⟨.inr (.inl rfl), rfl, .inl ht⟩
  | case3 a x b ih =>
    rw [diffOps_same]
    intro o ho
    rcases List.mem_cons.mp ho with rfl | ho
    · exact ⟨.inl rfl, rfl, .inl (List.mem_cons_self ..)⟩
    · obtain ⟨h1, h2, h3⟩ := ih o ho
      exact ⟨h1, h2, h3.imp (List.mem_cons_of_mem _) (List.mem_cons_of_mem _)⟩
  | case4 x a y b h k ih =>
    rw [diffOps_del h k]
    intro o ho
    rcases List.mem_cons.mp ho with rfl | ho
    · exact ⟨.inr (.inl rfl), rfl, .inl (List.mem_cons_self ..)⟩
    · obtain ⟨h1, h2, h3⟩ := ih o ho
      exact ⟨h1, h2, h3.imp (List.mem_cons_of_mem _) id⟩
  | case5 x a y b h k ih =>
    rw [diffOps_ins h k]
    intro o ho
    rcases List.mem_cons.mp ho with rfl | ho
    · exact ⟨.inr (.inr rfl), rfl, .inr (List.mem_cons_self ..)⟩
    · obtain ⟨h1, h2, h3⟩ := ih o ho
      exact ⟨h1, h2, h3.imp id (List.mem_cons_of_mem _)⟩
theorem td_skips (u : List U) (a b : List ByteArray) : ∀ n : Nat, tdU a b (List.replicate (n + 1) .skip ++ u) = dU a b ++ List.replicate (n + 1) .skip ++ tdU [] [] u
  | 0 => by simp [tdU]
  | n + 1 => by
    have i := td_skips u [] [] n
    rw [List.replicate_succ, List.cons_append, tdU, i, show dU [] [] = [] from dU_nil [], List.nil_append]
    simp [List.replicate_succ]
theorem ex_td : ∀ (l : List Op) (a b : List ByteArray), (∀ o ∈ l, formO o) → ex (tdL a b l) = tdU a b (ex l) ∧ (∀ o ∈ tdL a b l, formO o) ∧ skips (tdL a b l) = skips l ∧ (tdL a b l).length ≤ a.length + b.length + 2 * l.length ∧ (∀ o ∈ tdL a b l, o.f2 ∈ a ∨ o.f2 ∈ b ∨ ∃ x ∈ l, o.f2 = x.f2)
  | [], a, b, _ => by
    have hm := diffOps_mem a b
    refine ⟨rfl, fun o ho => .inr ⟨(hm o ho).1, (hm o ho).2.1⟩, ?_, ?_, fun o ho => (hm o ho).2.2.elim .inl (fun h => .inr (.inl h))⟩
    · rw [tdL, skips_nil]
      have : ∀ l : List Op, (∀ o ∈ l, o.f0 ≠ 1) → skips l = 0 := by
        intro l
        induction l with
        | nil => intro _; rfl
        | cons o l ih => intro h; rw [skips_cons, if_neg (h o (List.mem_cons_self ..)), ih fun x hx => h x (List.mem_cons_of_mem _ hx)]; rfl
      exact this _ fun o ho => by have := (hm o ho).1; omega
    · rw [tdL]; have := diffOps_len a b; simp; omega
  | o :: l, a, b, h => by
    have fo := h o (List.mem_cons_self ..)
    have i := fun a b => ex_td l a b fun x hx => h x (List.mem_cons_of_mem _ hx)
    rw [tdL, ex_cons]
    rcases fo with ⟨hk, h1, h2⟩ | ⟨hk, h1⟩
    · obtain ⟨i1, i2, i3, i4, i5⟩ := i [] []
      obtain ⟨m, hm⟩ : ∃ m : Nat, o.f1.toNat = m + 1 := ⟨o.f1.toNat - 1, by omega⟩
      have dm := diffOps_mem a b
      have eo : exO o = List.replicate (m + 1) .skip := by rw [← hm]; simp [exO, hk]
      have z : skips (diffOps a b) = 0 := by
        have : ∀ l : List Op, (∀ o ∈ l, o.f0 ≠ 1) → skips l = 0 := by
          intro l
          induction l with
          | nil => intro _; rfl
          | cons o l ih => intro h; rw [skips_cons, if_neg (h o (List.mem_cons_self ..)), ih fun x hx => h x (List.mem_cons_of_mem _ hx)]; rfl
        exact this _ fun o ho => by have := (dm o ho).1; omega
      rw [if_pos hk]
      refine ⟨?_, ?_, ?_, ?_, ?_⟩
      · rw [eo, td_skips, ex_app, ex_cons, i1, eo]; simp [dU]
      · intro x hx
        rcases List.mem_append.mp hx with hx | hx
        · exact .inr ⟨(dm x hx).1, (dm x hx).2.1⟩
        · rcases List.mem_cons.mp hx with rfl | hx
          · exact .inl ⟨hk, h1, h2⟩
          · exact i2 x hx
      · rw [skips_app, skips_cons, skips_cons, i3, z]; omega
      · have := diffOps_len a b
        simp only [List.length_append, List.length_cons, List.length_nil] at i4 ⊢; omega
      · intro x hx
        rcases List.mem_append.mp hx with hx | hx
        · rcases (dm x hx).2.2 with h | h
          · exact .inl h
          · exact .inr (.inl h)
        · rcases List.mem_cons.mp hx with rfl | hx
          · exact .inr (.inr ⟨x, List.mem_cons_self .., rfl⟩)
          · rcases i5 x hx with h | h | ⟨y, hy, e⟩
            · simp at h
            · simp at h
            · exact .inr (.inr ⟨y, List.mem_cons_of_mem _ hy, e⟩)
    · have k1 : ¬ o.f0 = 1 := by omega
      rw [if_neg k1]
      obtain ⟨i1, i2, i3, i4, i5⟩ := i (if o.f0 = 4 then a else a ++ [o.f2]) (if o.f0 = 3 then b else b ++ [o.f2])
      refine ⟨?_, i2, by rw [i3, skips_cons, if_neg k1]; omega, ?_, ?_⟩
      · rw [i1]
        rcases hk with hk | hk | hk
        · rw [show exO o = [.keep o.f2] from by simp [exO, hk], if_neg (by omega), if_neg (by omega)]; rfl
        · rw [show exO o = [.del o.f2] from by simp [exO, hk], if_neg (by omega), if_pos hk]; rfl
        · rw [show exO o = [.ins o.f2] from by simp [exO, hk], if_pos hk, if_neg (by omega)]; rfl
      · refine Nat.le_trans i4 ?_
        split <;> split <;> simp only [List.length_append, List.length_cons, List.length_nil] <;> omega
      · intro x hx
        rcases i5 x hx with h | h | ⟨y, hy, e⟩
        · split at h
          · exact .inl h
          · rcases List.mem_append.mp h with h | h
            · exact .inl h
            · exact .inr (.inr ⟨o, List.mem_cons_self .., List.mem_singleton.mp h⟩)
        · split at h
          · exact .inr (.inl h)
          · rcases List.mem_append.mp h with h | h
            · exact .inr (.inl h)
            · exact .inr (.inr ⟨o, List.mem_cons_self .., List.mem_singleton.mp h⟩)
        · exact .inr (.inr ⟨y, List.mem_cons_of_mem _ hy, e⟩)
def tidyL (l : List Op) : List Op := pack (nf [] (tdU [] [] (ex l)))
theorem norm_td {l : List Op} (h : ∀ o ∈ l, formO o) : normL (tdL [] [] l) = tidyL l := by
  unfold normL tidyL; rw [(ex_td l [] [] h).1]
theorem right_td {l : List Op} (hr : rightL l = true) : rightL (tdL [] [] l) = true := by
  obtain ⟨e1, e2, _⟩ := ex_td l [] [] (rightL_form hr)
  rw [right_iff e2, e1, rightU_td]; exact rightL_U hr
theorem Sm.td {l : List Op} (h : Sm l) (hl : l.length < 2199023255552) (hf : ∀ o ∈ l, formO o) : Sm (tdL [] [] l) := by
  obtain ⟨_, _, _, e4, e5⟩ := ex_td l [] [] hf
  refine ⟨by simp only [List.length_nil] at e4; omega, fun o ho => ?_⟩
  rcases e5 o ho with h2 | h2 | ⟨x, hx, e⟩
  · simp at h2
  · simp at h2
  · rw [e]; exact h.2 x hx
theorem Sm.tidy {l : List Op} (h : Sm l) (hl : l.length < 2199023255552) (hr : rightL l = true) : Sm (tidyL l) := by
  rw [← norm_td (rightL_form hr)]
  exact (h.td hl (rightL_form hr)).norm (rightL_form (right_td hr))
theorem right_tidy {l : List Op} (hr : rightL l = true) : rightL (tidyL l) = true := by
  unfold tidyL; rw [right_pack, rightU_nf, rightU_td]; exact rightL_U hr
theorem doL_tidy {l : List Op} (hr : rightL l = true) (ls : List ByteArray) : doL (tidyL l) ls = doL l ls := by
  unfold doL
  rw [right_tidy hr, hr]
  unfold tidyL
  rw [ex_pack, doU_nf0, doU_td0]
theorem ch_tidy (l : List Op) : chN (tidyL l) = chU (tdU [] [] (ex l)) := by
  unfold tidyL; rw [chN_ex (form_pack _), ex_pack, chU_nf, chU_nil]; omega
theorem tidy_tidy (l : List Op) : tidyL (tidyL l) = tidyL l := by
  unfold tidyL; rw [ex_pack, td_td]
end Go.Proofs.Ytacpejblnjgcoaa.P
