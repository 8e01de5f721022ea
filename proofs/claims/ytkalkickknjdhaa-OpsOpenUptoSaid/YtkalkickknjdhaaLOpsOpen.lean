/- Own: OpsOpen holds. -/
import Derived.Test.YtkalkickknjdhaaOa
import Derived.Test.YtkalkickknjdhaaSOpsOpen
namespace Go.Proofs.Ytkalkickknjdhaa.P
open Go.RowKit Go.Proofs.YtkalkickknjdhaaW.PrintWords Go.Proofs.YtkalkickknjdhaaW.PrintLast Go.Proofs.YtkalkickknjdhaaW.PrintMore
set_option linter.unusedVariables false
set_option linter.unusedSimpArgs false

theorem OpsOpen.out (a b : Int) (c : ByteArray) (d : Int) : Ev (fun k => patchworklaw8_OpsOpen.j0 k a b c d true true) true := by
  refine Ev.step (fun k => rfl) ?_
  simp only [patchworklaw8_OpsOpen.j0, if_true]
  exact Ev.now true
/-- Two steps, of which the first may be open. -/
theorem two_right {a : Int} {t : ByteArray} (ha : a = 2 ∨ a = 3 ∨ a = 4) (ht : rightT t = true) {o : Op} (ho : okOne o = true) (h3 : cnt 3 o ≤ 1000) (h4 : cnt 4 o ≤ 1000) :
    rightL [(⟨a, 0, t⟩ : Op), o] = (!openT t || (decide (a = 3) && decide (o.f0 = 4)) || (decide (a = 4) && decide (o.f0 = 3))) := by
  have b3 : capd 3 [(⟨a, 0, t⟩ : Op), o] ≤ 2147483648 := by
    have : cnt 3 (⟨a, 0, t⟩ : Op) ≤ 1 := by unfold cnt; simp only; split <;> (try split) <;> simp_all
    unfold capd far sums
    simp only [List.map_cons, List.map_nil, List.sum_cons, List.sum_nil]; omega
  have b4 : capd 4 [(⟨a, 0, t⟩ : Op), o] ≤ 2147483648 := by
    have : cnt 4 (⟨a, 0, t⟩ : Op) ≤ 1 := by unfold cnt; simp only; split <;> (try split) <;> simp_all
    unfold capd far sums
    simp only [List.map_cons, List.map_nil, List.sum_cons, List.sum_nil]; omega
  have ok1 : okOne (⟨a, 0, t⟩ : Op) = true := by unfold okOne; rw [if_neg (by simp only; omega)]; simp [ha, ht]
  have hk : o.f0 = 1 ∨ o.f0 = 2 ∨ o.f0 = 3 ∨ o.f0 = 4 := by
    by_cases h : o.f0 = 1
    · exact .inl h
    · exact .inr (okOne_ne ho h).1
  unfold rightL
  simp only [List.all_cons, List.all_nil, ok1, ho, b3, b4, decide_true, Bool.true_and, Bool.and_true]
  rcases ha with rfl | rfl | rfl <;> rcases hk with e | e | e | e <;> cases hop : openT t <;> simp [closedGo, e, hop]
theorem OpsOpen.proved : OpsOpen.Pure := by
  intro a b t n wa wb wn hw
  simp only at hw
  have hst : t.size < 4611686018427387904 := by omega
  refine Ev.rounds ?_
  simp only [patchworklaw8_OpsOpen.f]
  refine Ev.bind' alive8 ?_
  simp only [if_true]
  by_cases c1 : a < 2
  · simp only [if_pos c1]; exact OpsOpen.out a b t n
  by_cases c2 : a > 4
  · simp only [if_neg c1, if_pos c2]; exact OpsOpen.out a b t n
  by_cases c3 : b < 1
  · simp only [if_neg c1, if_neg c2, if_pos c3]; exact OpsOpen.out a b t n
  by_cases c4 : b > 4
  · simp only [if_neg c1, if_neg c2, if_neg c3, if_pos c4]; exact OpsOpen.out a b t n
  by_cases c5 : (t.size : Int) > 50
  · simp only [if_neg c1, if_neg c2, if_neg c3, if_neg c4, if_pos c5]; exact OpsOpen.out a b t n
  simp only [if_neg c1, if_neg c2, if_neg c3, if_neg c4, if_neg c5]
  refine Ev.bind' (rightline_ev hst) ?_
  cases hr : rightT t
  · simp only [Bool.false_eq_true, if_false]; exact OpsOpen.out a b t n
  simp only [if_true]
  by_cases c6 : n < 1
  · simp only [if_pos c6]; exact OpsOpen.out a b t n
  by_cases c7 : n > 1000
  · simp only [if_neg c6, c7, decide_true]; exact OpsOpen.out a b t n
  simp only [if_neg c6, c7, decide_false]
  have ht : t.data.toList ≠ [] := by intro e; simp [rightT, e] at hr
  have hp := size_pos ht
  have w : wrap64 ((t.size : Int) - 1) = ((t.size - 1 : Nat) : Int) := by unfold wrap64; omega
  have d1 : (0 : Int) ≤ ((t.size - 1 : Nat) : Int) := by omega
  have d2 : ((t.size - 1 : Nat) : Int) < (t.size : Int) := by omega
  have hb : (¬ bt t ((t.size - 1 : Nat) : Int) = 10) ↔ openT t = true := by
    rw [bt_getD, openT_getD ht, u10, bne_iff_ne]
  have ha : a = 2 ∨ a = 3 ∨ a = 4 := by omega
  have z : rightT (⟨#[122, 10]⟩ : ByteArray) = true := by decide
  have q1 : (1 : Int) < (([(⟨a, 0, t⟩ : Op), (⟨b, 0, (⟨#[122, 10]⟩ : ByteArray)⟩ : Op)] : List Op).length : Int) := by simp
  -- the second step as it comes to be
  refine Ev.step (fun k => rfl) ?_
  by_cases hb1 : b = 1
  · have ok : okOne (⟨1, n, ⟨#[]⟩⟩ : Op) = true := by
      have e : (⟨#[]⟩ : ByteArray).data.toList = [] := rfl
      unfold okOne; simp [e]; omega
    have r := two_right ha hr ok (by simp [cnt]; omega) (by simp [cnt]; omega)
    have sm : Sm [(⟨a, 0, t⟩ : Op), ⟨1, n, ⟨#[]⟩⟩] := ⟨by simp, fun o ho => by
      rcases List.mem_cons.mp ho with rfl | ho
      · exact hst
      · rw [List.mem_singleton.mp ho]; show 0 < _; omega⟩
    have e := right_ev sm
    have st : ([(⟨a, 0, t⟩ : Op), (⟨b, 0, (⟨#[122, 10]⟩ : ByteArray)⟩ : Op)] : List Op).set (1 : Int).toNat ⟨1, n, ⟨#[]⟩⟩ = [⟨a, 0, t⟩, ⟨1, n, ⟨#[]⟩⟩] := rfl
    rw [r] at e
    have b4 : ¬ b = 4 := by omega
    simp only [patchworklaw8_OpsOpen.j0, Bool.false_eq_true, if_false, Option.bind_some, if_pos hb1, if_pos q1, st, w, if_pos d1, if_pos d2, hb, if_neg b4]
    subst hb1
    rcases ha with rfl | rfl | rfl <;> cases ho : openT t <;> simp [ho] at e ⊢ <;> first | exact e | exact Ev.bind' e (by simpa using Ev.now true)
  · have ok : okOne (⟨b, 0, ⟨#[122, 10]⟩⟩ : Op) = true := by
      unfold okOne; rw [if_neg (by simp only; omega)]; simp [z]; omega
    have cb : ∀ c, cnt c (⟨b, 0, ⟨#[122, 10]⟩⟩ : Op) ≤ 1000 := fun c => by unfold cnt; simp only; split <;> (try split) <;> simp_all
    have r := two_right ha hr ok (cb 3) (cb 4)
    have sm : Sm [(⟨a, 0, t⟩ : Op), ⟨b, 0, ⟨#[122, 10]⟩⟩] := ⟨by simp, fun o ho => by
      rcases List.mem_cons.mp ho with rfl | ho
      · exact hst
      · rw [List.mem_singleton.mp ho]; show 2 < _; omega⟩
    have e := right_ev sm
    rw [r] at e
    simp only [patchworklaw8_OpsOpen.j0, Bool.false_eq_true, if_false, Option.bind_some, if_neg hb1, w, if_pos d1, if_pos d2, hb]
    have hb' : b = 2 ∨ b = 3 ∨ b = 4 := by omega
    rcases ha with rfl | rfl | rfl <;> rcases hb' with rfl | rfl | rfl <;> cases ho : openT t <;> simp [ho] at e ⊢ <;> first | exact e | exact Ev.bind' e (by simpa using Ev.now true)
end Go.Proofs.Ytkalkickknjdhaa.P
