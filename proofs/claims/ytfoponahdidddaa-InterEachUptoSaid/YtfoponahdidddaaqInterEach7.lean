/- Own and printed texts that the theorem of InterEach reaches, put together. -/
import Derived.Test.YtfoponahdidddaaqInterEach5
import Derived.Test.YtfoponahdidddaaqInterEach3
set_option linter.unusedVariables false
set_option linter.unusedSimpArgs false
namespace Go.Proofs.Ytfoponahdidddaa.P
open Go.RowKit Go.Proofs.YtfoponahdidddaaW.PrintWords Go.Proofs.YtfoponahdidddaaW.PrintLast Go.Proofs.YtfoponahdidddaaW.PrintMore
theorem diff_f' {a b : List ByteArray} (ha : a.length ≤ 1000000) (hb : b.length ≤ 1000000) : lcs_Diff.f a b = some (diffOps a b) := by simp [lcs_Diff.f, ha, hb]
def tOld (l : List Op) : List ByteArray := (l.filter fun o => decide (o.f0 = 1 ∨ o.f0 = 2 ∨ o.f0 = 3)).map (·.f2)
def tNew (l : List Op) : List ByteArray := (l.filter fun o => decide (o.f0 = 1 ∨ o.f0 = 2 ∨ o.f0 = 4)).map (·.f2)
theorem tOld_len (l : List Op) : (tOld l).length ≤ l.length := by unfold tOld; rw [List.length_map]; exact List.length_filter_le _ _
theorem tNew_len (l : List Op) : (tNew l).length ≤ l.length := by unfold tNew; rw [List.length_map]; exact List.length_filter_le _ _
theorem texts_old (s : List Op) : ∀ (p : List Op) (out : List ByteArray), Sm (p ++ s) → out.length ≤ p.length → Ev (fun k => tidy_texts_ops_Old.l0 k out (p ++ s) ((p ++ s).length : Int) (p.length : Int)) (out ++ tOld s) := by
 induction s with
 | nil =>
  intro p out _ _
  refine Ev.step (fun k => rfl) ?_
  simp only [tidy_texts_ops_Old.l0, lt_end, if_false]
  simpa [tOld] using Ev.now out
 | cons o s ih =>
  intro p out hb ho
  have i := fun out => ih (p ++ [o]) out hb.snoc
  rw [List.append_assoc, List.singleton_append] at i
  have hp := hb.len
  have co : out.length < 8796093022208 := by omega
  refine Ev.step (fun k => rfl) ?_
  simp only [tidy_texts_ops_Old.l0, lt_mid, nn_nat, if_true, rdOp_mid, old_kind, Option.bind_some, decide_eq_true_eq, wrap_len p o (by omega), if_pos co]
  by_cases h : o.f0 = 1 ∨ o.f0 = 2 ∨ o.f0 = 3
  ·simp only [if_pos h]
   have := i (out ++ [o.f2]) (by simp; omega)
   have e : tOld (o :: s) = o.f2 :: tOld s := by unfold tOld; rw [List.filter_cons_of_pos (by simpa using h)]; rfl
   rw [e]; simpa using this
  ·simp only [if_neg h]
   have := i out (by simp; omega)
   have e : tOld (o :: s) = tOld s := by unfold tOld; rw [List.filter_cons_of_neg (by simpa using h)]
   rw [e]; exact this
theorem texts_new (s : List Op) : ∀ (p : List Op) (out : List ByteArray), Sm (p ++ s) → out.length ≤ p.length → Ev (fun k => tidy_texts_ops_New.l0 k out (p ++ s) ((p ++ s).length : Int) (p.length : Int)) (out ++ tNew s) := by
 induction s with
 | nil =>
  intro p out _ _
  refine Ev.step (fun k => rfl) ?_
  simp only [tidy_texts_ops_New.l0, lt_end, if_false]
  simpa [tNew] using Ev.now out
 | cons o s ih =>
  intro p out hb ho
  have i := fun out => ih (p ++ [o]) out hb.snoc
  rw [List.append_assoc, List.singleton_append] at i
  have hp := hb.len
  have co : out.length < 8796093022208 := by omega
  refine Ev.step (fun k => rfl) ?_
  simp only [tidy_texts_ops_New.l0, lt_mid, nn_nat, if_true, rdOp_mid, new_kind, Option.bind_some, decide_eq_true_eq, wrap_len p o (by omega), if_pos co]
  by_cases h : o.f0 = 1 ∨ o.f0 = 2 ∨ o.f0 = 4
  ·simp only [if_pos h]
   have := i (out ++ [o.f2]) (by simp; omega)
   have e : tNew (o :: s) = o.f2 :: tNew s := by unfold tNew; rw [List.filter_cons_of_pos (by simpa using h)]; rfl
   rw [e]; simpa using this
  ·simp only [if_neg h]
   have := i out (by simp; omega)
   have e : tNew (o :: s) = tNew s := by unfold tNew; rw [List.filter_cons_of_neg (by simpa using h)]
   rw [e]; exact this
theorem td_run : ∀ (r : List Op) (a b : List ByteArray) (s : List Op), (∀ o ∈ r, o.f0 = 2 ∨ o.f0 = 3 ∨ o.f0 = 4) → tdL a b (r ++ s) = tdL (a ++ tOld r) (b ++ tNew r) s
 | [], a, b, s, _ => by simp [tOld, tNew]
 | o :: r, a, b, s, h => by
  have ho := h o (List.mem_cons_self ..)
  have i := fun a b => td_run r a b s fun x hx => h x (List.mem_cons_of_mem _ hx)
  rw [List.cons_append, tdL, if_neg (by omega), i]
  rcases ho with hk | hk | hk
  ·rw [if_neg (by omega), if_neg (by omega), show tOld (o :: r) = o.f2 :: tOld r from by simp [tOld, hk], show tNew (o :: r) = o.f2 :: tNew r from by simp [tNew, hk]]; simp
  ·rw [if_neg (by omega), if_pos hk, show tOld (o :: r) = o.f2 :: tOld r from by simp [tOld, hk], show tNew (o :: r) = tNew r from by simp [tNew, hk]]; simp
  ·rw [if_pos hk, if_neg (by omega), show tOld (o :: r) = tOld r from by simp [tOld, hk], show tNew (o :: r) = o.f2 :: tNew r from by simp [tNew, hk]]; simp
theorem tidy_run (r : List Op) : ∀ (p s out : List Op) (from_ : Int) (v : List Op), Sm (p ++ (r ++ s)) → (∀ o ∈ r, o.f0 ≠ 1) → (∀ o t, s = o :: t → o.f0 = 1) →
  Ev (fun k => tidy_Ops.j2 k (p ++ (r ++ s)) out ((p ++ r).length : Int) from_) v → Ev (fun k => tidy_Ops.l1 k (p ++ (r ++ s)) out (p.length : Int) from_) v := by
 induction r with
 | nil =>
  intro p s out from_ v hb _ hs h
  rw [List.append_nil, List.nil_append] at h
  rw [List.nil_append]
  refine Ev.step (fun k => rfl) ?_
  cases s with
  | nil =>
   simp only [tidy_Ops.l1, lt_end, if_false]
   exact h
  | cons o t =>
   have ho := hs o t rfl
   simp only [tidy_Ops.l1, lt_mid, nn_nat, if_true, rdOp_mid, if_pos ho]
   exact h
 | cons o r ih =>
  intro p s out from_ v hb hr hs h
  have ho := hr o (List.mem_cons_self ..)
  have i := ih (p ++ [o]) s out from_ v (by simpa using hb) (fun x hx => hr x (List.mem_cons_of_mem _ hx)) hs (by simpa using h)
  rw [List.append_assoc, List.singleton_append] at i
  rw [List.cons_append] at hb ⊢
  refine Ev.step (fun k => rfl) ?_
  simp only [tidy_Ops.l1, lt_mid, nn_nat, if_true, rdOp_mid, if_neg ho, wrap_len p o (by have := hb.len; omega)]
  exact i
theorem tidy_loop : ∀ (m : Nat) (s p out v : List Op), s.length ≤ m → Sm (p ++ s) → (p ++ s).length ≤ 1000000 → (∀ o ∈ s, okOne o = true) → out.length ≤ 2 * p.length →
  Ev (fun k => ops_Norm.f k (out ++ tdL [] [] s)) v → Ev (fun k => tidy_Ops.l0 k (p ++ s) out (p.length : Int)) v := by
 intro m
 induction m with
 | zero =>
  intro s p out v hm hb hl _ _ h
  obtain rfl : s = [] := List.length_eq_zero_iff.mp (by omega)
  refine Ev.step (fun k => rfl) ?_
  simp only [tidy_Ops.l0, lt_end, if_false]
  rw [tdL, diffOps_nil_left, List.map_nil, List.append_nil] at h
  exact Ev.bind' h (Ev.now _)
 | succ m ih =>
  intro s p out v hm hb hl hok ho h
  by_cases hs : s = []
  ·subst hs
   refine Ev.step (fun k => rfl) ?_
   simp only [tidy_Ops.l0, lt_end, if_false]
   rw [tdL, diffOps_nil_left, List.map_nil, List.append_nil] at h
   exact Ev.bind' h (Ev.now _)
  have hpos : 0 < s.length := List.length_pos_iff.mpr hs
  have g : ((p.length : Int) < ((p ++ s).length : Int)) := by simp; omega
  refine Ev.step (fun k => rfl) ?_
  simp only [tidy_Ops.l0, if_pos g]
  obtain ⟨r, t, rfl, hr, ht⟩ := cut (fun o => decide (o.f0 ≠ 1)) s
  have hr1 : ∀ o ∈ r, o.f0 ≠ 1 := fun o h => by simpa using hr o h
  have ht1 : ∀ o y, t = o :: y → o.f0 = 1 := fun o y e => by simpa using ht o y e
  have hr2 : ∀ o ∈ r, o.f0 = 2 ∨ o.f0 = 3 ∨ o.f0 = 4 := fun o h => (okOne_ne (hok o (by simp [h])) (hr1 o h)).1
  rw [td_run r [] [] t hr2, List.nil_append, List.nil_append] at h
  refine tidy_run r p t out _ v hb hr1 ht1 ?_
  simp only [List.length_append] at hm hl hpos
  have c1 : (0 : Int) ≤ (p.length : Int) := by omega
  have c2 : (p.length : Int) ≤ ((p ++ r).length : Int) := by simp only [List.length_append]; omega
  have c3 : ((p ++ r).length : Int) ≤ ((p ++ (r ++ t)).length : Int) := by simp; omega
  have hcut : ((p ++ (r ++ t)).take ((p ++ r).length : Int).toNat).drop (p.length : Int).toNat = r := by
   rw [Int.toNat_natCast, Int.toNat_natCast, ← List.append_assoc, List.take_left' rfl, List.drop_left' rfl]
  have hsr : Sm r := hb.sub.left
  have e1 : Ev (fun k => tidy_texts_ops_Old.f k r) (tOld r) := by
   have := texts_old r [] [] hsr (by simp)
   simpa [tidy_texts_ops_Old.f] using this
  have e2 : Ev (fun k => tidy_texts_ops_New.f k r) (tNew r) := by
   have := texts_new r [] [] hsr (by simp)
   simpa [tidy_texts_ops_New.f] using this
  have l1 := tOld_len r
  have l2 := tNew_len r
  have l3 := diffOps_len (tOld r) (tNew r)
  have c4 : out.length + (diffOps (tOld r) (tNew r)).length < 4398046511104 := by omega
  refine Ev.step (fun k => rfl) ?_
  simp only [tidy_Ops.j2, if_pos c1, if_pos c2, if_pos c3, hcut]
  refine Ev.bind' e1 ?_
  refine Ev.bind' e2 ?_
  simp only [diff_f' (a := tOld r) (b := tNew r) (by omega) (by omega), Option.bind_some, if_pos c4]
  cases t with
  | nil =>
   have c5 : ¬ ((p ++ r).length : Int) < ((p ++ (r ++ [])).length : Int) := by simp
   have w : wrap64 (((p ++ r).length : Int) + 1) = ((p ++ r).length : Int) + 1 := by simp only [List.length_append]; unfold wrap64; omega
   have c6 : ¬ ((p ++ r).length : Int) + 1 < ((p ++ (r ++ [])).length : Int) := by simp; omega
   simp only [if_neg c5, w]
   refine Ev.step (fun k => rfl) ?_
   simp only [tidy_Ops.l0, if_neg c6]
   rw [tdL] at h
   exact Ev.bind' h (Ev.now _)
  | cons o t =>
   have c5 : ((p ++ r).length : Int) < ((p ++ (r ++ o :: t)).length : Int) := by simp; omega
   have c6 : (0 : Int) ≤ ((p ++ r).length : Int) := by omega
   have hrd : rd_Op (p ++ (r ++ o :: t)) ((p ++ r).length : Int) = o := by
    rw [← List.append_assoc]; exact rdOp_mid (p ++ r) t o
   have hw : wrap64 (((p ++ r).length : Int) + 1) = (((p ++ r) ++ [o]).length : Int) := wrap_len (p ++ r) o (by simp only [List.length_append]; omega)
   have c7 : (out ++ diffOps (tOld r) (tNew r)).length < 4398046511104 := by rw [List.length_append]; exact c4
   simp only [if_pos c5, if_pos c6, if_pos c7, hrd, hw]
   rw [tdL, if_pos (ht1 o t rfl)] at h
   have elist : p ++ (r ++ o :: t) = ((p ++ r) ++ [o]) ++ t := by simp
   rw [elist] at hb ⊢
   simp only [List.length_cons] at hm hl hpos
   refine ih t ((p ++ r) ++ [o]) _ v (by omega) hb (by simp only [List.length_append, List.length_cons, List.length_nil]; omega) (fun x hx => hok x (by simp [hx])) ?_ ?_
   ·simp only [List.length_append, List.length_cons, List.length_nil]; omega
   ·simpa using h
theorem ptidy_ev {l : List Op} (h : Sm l) (hl : l.length ≤ 1000000) : Ev (fun k => tidy_Ops.f k l) (if rightL l then tidyL l else []) := by
 refine Ev.bind' (right_ev h) ?_
 cases hr : rightL l
 ·simp only [Bool.false_eq_true, if_false]; exact Ev.now _
 ·simp only [if_true]
  have hf := rightL_form hr
  refine tidy_loop l.length l [] [] _ (Nat.le_refl _) h hl (rightL_ok hr).1 (by simp) ?_
  have := norm_ev (h.td (by omega) hf)
  rw [right_td hr, if_pos rfl, norm_td hf] at this
  exact this
end Go.Proofs.Ytfoponahdidddaa.P
namespace Go.Proofs.Ytfoponahdidddaa.P
open Go.RowKit Go.Proofs.YtfoponahdidddaaW.PrintWords Go.Proofs.YtfoponahdidddaaW.PrintLast Go.Proofs.YtfoponahdidddaaW.PrintMore
def interL (p q : List Op) : List Op × Bool := if rightL p = true ∧ (thenL (flipL p) q).2 = true then (tidyL (thenL (flipL p) q).1, true) else ([], false)
theorem flip_small {p : List Op} (h : Sx p) (hr : rightL p = true) : Sx (flipL p) ∧ (flipL p).length ≤ p.length := by
 have hf : ∀ o ∈ p.map flipO, formO o := by
  intro o ho
  obtain ⟨x, hx, rfl⟩ := List.mem_map.mp ho
  exact form_flip (rightL_form hr x hx)
 have l := norm_len hf
 rw [List.length_map] at l
 rw [← norm_flip hr]
 refine ⟨⟨by have := h.1; omega, norm_small (by omega) fun o ho => ?_⟩, l⟩
 obtain ⟨x, hx, rfl⟩ := List.mem_map.mp ho
 have := h.2 x hx
 rw [flipO_val]
 split
 ·exact this
 ·split <;> exact this
theorem pinter_ev {p q : List Op} (hp : Sx p) (hq : Sx q) (hl : p.length + q.length ≤ 1000000) : Ev (fun k => inter_Ops.f k p q) (interL p q) := by
 unfold interL
 refine Ev.bind' (right_ev hp.sm) ?_
 cases rp : rightL p
 ·simp only [Bool.false_eq_true, if_false, false_and]; exact Ev.now _
 simp only [if_true, true_and]
 obtain ⟨sf, lf⟩ := flip_small hp rp
 have e := flip_ev hp.sm
 rw [rp, if_pos rfl] at e
 refine Ev.bind' e ?_
 refine Ev.bind' (pthen_ev sf hq) ?_
 cases ht : (thenL (flipL p) q).2
 ·simp only [Bool.false_eq_true, if_false]; exact Ev.now _
 simp only [if_true]
 have ll := (thenL_len sf hq).1
 have sx := sf.then hq (by omega)
 have t := ptidy_ev sx.sm (by omega)
 rw [thenL_right ht, if_pos rfl] at t
 exact Ev.bind' t (Ev.now _)
theorem alive14 : Ev (fun k => patchworklaw14_alive.f k) true := by
 have s0 : Sx [] := ⟨by simp, by simp⟩
 have s1 : Sx [(⟨4, 0, ⟨#[97, 10]⟩⟩ : Op)] := ⟨by simp, fun o ho => by rw [List.mem_singleton.mp ho]; exact (by decide : (2 : Nat) < 1073741824)⟩
 have s2 : Sx [(⟨4, 0, ⟨#[98, 10]⟩⟩ : Op)] := ⟨by simp, fun o ho => by rw [List.mem_singleton.mp ho]; exact (by decide : (2 : Nat) < 1073741824)⟩
 have e0 : interL [] [] = ([], true) := by decide +kernel
 have e1 : interL [(⟨4, 0, ⟨#[97, 10]⟩⟩ : Op)] [(⟨4, 0, ⟨#[98, 10]⟩⟩ : Op)] = ([⟨3, 0, ⟨#[97, 10]⟩⟩, ⟨4, 0, ⟨#[98, 10]⟩⟩], true) := by decide +kernel
 have a0 := pinter_ev s0 s0 (by simp)
 have a1 := pinter_ev s1 s2 (by simp)
 rw [e0] at a0
 rw [e1] at a1
 unfold patchworklaw14_alive.f
 refine Ev.bind' a0 ?_
 refine Ev.bind' a1 ?_
 exact Ev.now _
end Go.Proofs.Ytfoponahdidddaa.P
