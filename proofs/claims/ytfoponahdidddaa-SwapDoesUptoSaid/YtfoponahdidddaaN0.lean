/- Own: how many changes steps have. -/
import Derived.Test.YtfoponahdidddaaUb
namespace Go.Proofs.Ytfoponahdidddaa.P
open Go.RowKit Go.Proofs.YtfoponahdidddaaW.PrintWords Go.Proofs.YtfoponahdidddaaW.PrintLast Go.Proofs.YtfoponahdidddaaW.PrintMore
set_option linter.unusedVariables false
set_option linter.unusedSimpArgs false

/-- How many changes, and lines. -/
def chU (u : List U) : Nat := (u.filter isCh).length
theorem chU_app (p q : List U) : chU (p ++ q) = chU p + chU q := by simp [chU]
theorem chU_nil : chU [] = 0 := rfl
theorem chU_del (t : ByteArray) (u : List U) : chU (.del t :: u) = chU u + 1 := by unfold chU; rw [List.filter_cons_of_pos rfl]; rfl
theorem chU_ins (t : ByteArray) (u : List U) : chU (.ins t :: u) = chU u + 1 := by unfold chU; rw [List.filter_cons_of_pos rfl]; rfl
theorem chU_keep (t : ByteArray) (u : List U) : chU (.keep t :: u) = chU u := by unfold chU; rw [List.filter_cons_of_neg (by simp [isCh])]
theorem chU_skip (u : List U) : chU (.skip :: u) = chU u := by unfold chU; rw [List.filter_cons_of_neg (by simp [isCh])]
theorem chU_nf : ∀ (u I : List U), chU (nf I u) = chU I + chU u
  | [], I => by rw [nf, chU_nil]; rfl
  | .ins t :: u, I => by rw [nf, chU_nf u, chU_app, chU_ins, chU_ins, chU_nil]; omega
  | .del t :: u, I => by rw [nf, chU_del, chU_del, chU_nf u]; omega
  | .keep t :: u, I => by rw [nf, chU_app, chU_keep, chU_keep, chU_nf u, chU_nil]; omega
  | .skip :: u, I => by rw [nf, chU_app, chU_skip, chU_skip, chU_nf u, chU_nil]; omega
def chN (l : List Op) : Nat := (l.filter chO).length
theorem chN_snoc (p : List Op) (o : Op) : chN (p ++ [o]) = chN p + (if chO o then 1 else 0) := by
  simp only [chN, List.filter_append, List.length_append]
  cases h : chO o <;> simp [h]
theorem chN_le (l : List Op) : chN l ≤ l.length := List.length_filter_le _ _
theorem change_val (o : Op) : patchworkref8_change.f o.f0 o.f1 o.f2 = some (chO o) := by
  unfold patchworkref8_change.f chO
  by_cases h3 : o.f0 = 3
  · simp [h3]
  · by_cases h4 : o.f0 = 4 <;> simp [h3, h4]
theorem changes_loop (s : List Op) : ∀ (p : List Op), Sm (p ++ s) → Ev (fun k => patchworkref8_Changes.l0 k (p ++ s) (chN p : Int) (p.length : Int)) (chN (p ++ s) : Int) := by
  induction s with
  | nil =>
    intro p _
    refine Ev.step (fun k => rfl) ?_
    simp only [patchworkref8_Changes.l0, lt_end, if_false]
    rw [List.append_nil]
    exact Ev.now _
  | cons o s ih =>
    intro p hb
    have i := ih (p ++ [o]) hb.snoc
    rw [List.append_assoc, List.singleton_append, chN_snoc] at i
    have hp := hb.len
    have hcp := chN_le p
    have w2 : wrap64 ((chN p : Int) + 1) = ((chN p + 1 : Nat) : Int) := by unfold wrap64; omega
    refine Ev.step (fun k => rfl) ?_
    simp only [patchworkref8_Changes.l0, lt_mid, nn_nat, if_true, rdOp_mid, change_val, Option.bind_some, wrap_len p o (by omega), w2]
    cases hc : chO o
    · simp only [hc, Bool.false_eq_true, if_false, Nat.add_zero] at i ⊢; exact i
    · simp only [hc, if_true] at i ⊢; exact i
theorem changes_ev {l : List Op} (h : Sm l) : Ev (fun k => patchworkref8_Changes.f k l) (chN l : Int) := changes_loop l [] h
/-- How many changes packed steps have. -/
theorem chN_ex : ∀ {l : List Op}, (∀ o ∈ l, formO o) → chN l = chU (ex l)
  | [], _ => rfl
  | o :: l, h => by
    have i := chN_ex (l := l) fun x hx => h x (List.mem_cons_of_mem _ hx)
    have rp : ∀ n, chU (List.replicate n .skip) = 0 := by
      intro n
      induction n with
      | zero => rfl
      | succ n ih => rw [List.replicate_succ, chU_skip, ih]
    rw [ex_cons, chU_app, ← i]
    unfold chN
    rcases h o (List.mem_cons_self ..) with ⟨hk, h1, _⟩ | ⟨hk | hk | hk, _⟩
    · rw [show exO o = List.replicate o.f1.toNat .skip from by simp [exO, hk], rp, List.filter_cons_of_neg (by simp [chO, hk])]; omega
    · rw [show exO o = [.keep o.f2] from by simp [exO, hk], List.filter_cons_of_neg (by simp [chO, hk]), chU_keep, chU_nil]; omega
    · rw [show exO o = [.del o.f2] from by simp [exO, hk], List.filter_cons_of_pos (by simp [chO, hk]), chU_del, chU_nil, List.length_cons]; omega
    · rw [show exO o = [.ins o.f2] from by simp [exO, hk], List.filter_cons_of_pos (by simp [chO, hk]), chU_ins, chU_nil, List.length_cons]; omega
theorem chN_pack (u : List U) : chN (pack u) = chU u := by rw [chN_ex (form_pack u), ex_pack]
theorem chU_nf0 (u : List U) : chU (nf [] u) = chU u := by rw [chU_nf, chU_nil]; omega
end Go.Proofs.Ytfoponahdidddaa.P
