/- Own: the lines that steps know. -/
import Derived.Test.YtkalkickknjdhaaUb
import Derived.Test.YtkalkickknjdhaaQc
namespace Go.Proofs.Ytkalkickknjdhaa.P
open Go.RowKit Go.Proofs.YtkalkickknjdhaaW.PrintWords Go.Proofs.YtkalkickknjdhaaW.PrintLast Go.Proofs.YtkalkickknjdhaaW.PrintMore

def known (c : Int) (l : List Op) : List ByteArray := (l.filter fun o => decide (o.f0 ≠ 1 ∧ o.f0 ≠ c)).map (·.f2)
theorem known_snoc (c : Int) (p : List Op) (o : Op) : known c (p ++ [o]) = known c p ++ known c [o] := by simp [known]
theorem known_len (c : Int) (l : List Op) : (known c l).length ≤ l.length := by simp only [known, List.length_map]; exact List.length_filter_le _ _
theorem known_loop (c : Int) (s : List Op) : ∀ (p : List Op), Sm (p ++ s) → Ev (fun k => patchworklaw8_Known.l0 k (p ++ s) c (known c p) (p.length : Int)) (known c (p ++ s)) := by
  induction s with
  | nil =>
    intro p _
    refine Ev.step (fun k => rfl) ?_
    simp only [patchworklaw8_Known.l0, lt_end, if_false]
    rw [List.append_nil]
    exact Ev.now _
  | cons o s ih =>
    intro p hb
    have i := ih (p ++ [o]) hb.snoc
    rw [List.append_assoc, List.singleton_append, known_snoc] at i
    have hk := known_len c p
    have hp := hb.len
    have hlo : (known c p).length < 8796093022208 := by omega
    refine Ev.step (fun k => rfl) ?_
    simp only [patchworklaw8_Known.l0, lt_mid, nn_nat, if_true, rdOp_mid, if_pos hlo, wrap_len p o (by omega)]
    by_cases h1 : o.f0 = 1
    · rw [show known c [o] = [] from by simp [known, h1], List.append_nil] at i
      simp only [if_pos h1]; exact i
    · by_cases h2 : o.f0 = c
      · rw [show known c [o] = [] from by simp [known, h2], List.append_nil] at i
        simp only [if_neg h1, if_pos h2]; exact i
      · rw [show known c [o] = [o.f2] from by simp [known, h1, h2]] at i
        simp only [if_neg h1, if_neg h2]; exact i
theorem known_ev (c : Int) {l : List Op} (h : Sm l) : Ev (fun k => patchworklaw8_Known.f k l c) (known c l) := known_loop c l [] h
theorem some_none (n : Nat) : (List.replicate n (none : Option ByteArray)).filterMap id = [] := by
  induction n with
  | zero => rfl
  | succ n ih => rw [List.replicate_succ, List.filterMap_cons_none rfl, ih]
theorem known_cons (c : Int) (o : Op) (l : List Op) : known c (o :: l) = known c [o] ++ known c l := by
  simp only [known, List.filter_cons]
  split <;> simp
theorem known_olds : ∀ {l : List Op}, (∀ o ∈ l, formO o) → known 4 l = (olds (ex l)).filterMap id
  | [], _ => rfl
  | o :: l, h => by
    rw [known_cons, known_olds fun x hx => h x (List.mem_cons_of_mem _ hx), ex_cons, olds_app, List.filterMap_append]
    congr 1
    rcases h o (List.mem_cons_self ..) with ⟨hk, h1, _⟩ | ⟨hk | hk | hk, _⟩
    · rw [show exO o = List.replicate o.f1.toNat .skip from by simp [exO, hk], olds_skips, some_none]; simp [known, hk]
    · rw [show exO o = [.keep o.f2] from by simp [exO, hk]]; simp [known, hk, olds]
    · rw [show exO o = [.del o.f2] from by simp [exO, hk]]; simp [known, hk, olds]
    · rw [show exO o = [.ins o.f2] from by simp [exO, hk]]; simp [known, hk, olds]
theorem known_news : ∀ {l : List Op}, (∀ o ∈ l, formO o) → known 3 l = (news (ex l)).filterMap id
  | [], _ => rfl
  | o :: l, h => by
    rw [known_cons, known_news fun x hx => h x (List.mem_cons_of_mem _ hx), ex_cons, news_app, List.filterMap_append]
    congr 1
    rcases h o (List.mem_cons_self ..) with ⟨hk, h1, _⟩ | ⟨hk | hk | hk, _⟩
    · rw [show exO o = List.replicate o.f1.toNat .skip from by simp [exO, hk], news_skips, some_none]; simp [known, hk]
    · rw [show exO o = [.keep o.f2] from by simp [exO, hk]]; simp [known, hk, news]
    · rw [show exO o = [.del o.f2] from by simp [exO, hk]]; simp [known, hk, news]
    · rw [show exO o = [.ins o.f2] from by simp [exO, hk]]; simp [known, hk, news]
end Go.Proofs.Ytkalkickknjdhaa.P
