/- Own: ComposeBack holds. -/
import Derived.Test.YtkiklmmpflndbaaEe
import Derived.Test.YtkiklmmpflndbaaFs
import Derived.Test.YtkiklmmpflndbaaSComposeBack
namespace Go.Proofs.Ytkiklmmpflndbaa.P
open Go.RowKit Go.Proofs.YtkiklmmpflndbaaW.PrintWords Go.Proofs.YtkiklmmpflndbaaW.PrintLast Go.Proofs.YtkiklmmpflndbaaW.PrintMore

theorem ComposeBack.out (a b : List Op) : Ev (fun k => patchworklaw11_ComposeBack.j0 k a b true true) true := by
  refine Ev.step (fun k => rfl) ?_
  simp only [patchworklaw11_ComposeBack.j0, if_true]
  exact Ev.now true
theorem Sx.flipped {l : List Op} (h : Sx l) (hr : rightL l = true) : Sx (flipL l) := by
  have lf : (flipL l).length ≤ l.length := by
    rw [← norm_flip hr]
    have := nf_pack_len (l.map flipO) [] (rightL_form (right_flip hr))
    show (pack (nf [] (ex (l.map flipO)))).length ≤ _
    simpa using this
  refine ⟨by have := h.1; omega, fun o ho => ?_⟩
  have ho : o ∈ pack (nf [] (flipU (ex l))) := ho
  rw [← ex_flip (rightL_form hr)] at ho
  have he0 : ByteArray.empty.size = 0 := rfl
  rcases tx_pack _ o ho with e | ⟨x, hx, e⟩
  · rw [e, he0]; omega
  · rcases nf_mem _ _ _ hx with hx | hx
    · simp at hx
    · rcases tx_ex hx with e2 | ⟨y, hy, e2⟩
      · rw [e, e2, he0]; omega
      · rw [e, e2]
        obtain ⟨z, hz, rfl⟩ := List.mem_map.mp hy
        have : (flipO z).f2 = z.f2 := by
          unfold flipO
          split
          · rfl
          · split <;> rfl
        rw [this]; exact h.2 z hz
theorem flipL_len {l : List Op} (hr : rightL l = true) : (flipL l).length ≤ l.length := by
  rw [← norm_flip hr]
  have := nf_pack_len (l.map flipO) [] (rightL_form (right_flip hr))
  show (pack (nf [] (ex (l.map flipO)))).length ≤ _
  simpa using this
/-- Two, one behind the other, turned back. -/
theorem then_flip {p q : List Op} (hp : rightL p = true) (hq : rightL q = true) : (thenL (flipL q) (flipL p)).2 = (thenL p q).2 ∧ ((thenL p q).2 = true → flipL (thenL p q).1 = (thenL (flipL q) (flipL p)).1) := by
  have rp : rightL (flipL p) = true := by unfold flipL; rw [right_pack, rightU_nf, rightU_flip]; exact rightL_U hp
  have rq : rightL (flipL q) = true := by unfold flipL; rw [right_pack, rightU_nf, rightU_flip]; exact rightL_U hq
  have hc : nfO (cmpU (ex (flipL q)) false (ex (flipL p))) = nfO ((cmpU (ex p) false (ex q)).map flipU) := by
    unfold flipL
    rw [ex_pack, ex_pack, cmpU_norm1, cmpU_norm2, flip_cmp]
  unfold thenL thenU
  rw [if_pos (show rightL (flipL q) = true ∧ rightL (flipL p) = true from ⟨rq, rp⟩), if_pos (show rightL p = true ∧ rightL q = true from ⟨hp, hq⟩)]
  cases hu : cmpU (ex p) false (ex q) with
  | none =>
    rw [hu] at hc
    have : cmpU (ex (flipL q)) false (ex (flipL p)) = none := by
      cases hv : cmpU (ex (flipL q)) false (ex (flipL p)) with
      | none => rfl
      | some v => rw [hv] at hc; simp [nfO] at hc
    rw [this]
    exact ⟨rfl, fun h => by simp at h⟩
  | some u =>
    rw [hu] at hc
    obtain ⟨v, hv, ev⟩ := nfO_some hc
    rw [hv]
    have ru : rightU v = rightU u := by rw [← rightU_nf, ev, rightU_nf, rightU_flip]
    simp only [Option.bind_some, ru]
    cases rightU u
    · exact ⟨rfl, fun h => by simp at h⟩
    · refine ⟨rfl, fun _ => ?_⟩
      show flipL (pack (nf [] u)) = pack (nf [] v)
      unfold flipL
      rw [ex_pack, ev]
      congr 1
      exact nf_flip_cong (nf_idem u)
theorem ComposeBack.proved : ComposeBack.Pure := by
  intro p q _ _ hw
  simp only at hw
  have fp := fewN_le p
  have fq := fewN_le q
  have lp := fewN_len p
  have lq := fewN_len q
  refine Ev.rounds ?_
  simp only [patchworklaw11_ComposeBack.f]
  refine Ev.bind' alive11 ?_
  simp only [if_true]
  refine Ev.bind' (few_ev (by omega)) ?_
  by_cases h : fewN p ≤ 600
  · simp only [h, decide_true, if_true]
    refine Ev.bind' (few_ev (by omega)) ?_
    by_cases h2 : fewN q ≤ 600
    · simp only [h2, decide_true, if_true]
      have hp := Sx.of_few h
      have hq := Sx.of_few h2
      refine Ev.bind' (refright_ev hp.sm) ?_
      cases rp : rightL p
      · simp only [Bool.false_eq_true, if_false]; exact ComposeBack.out p q
      simp only [if_true]
      refine Ev.bind' (refright_ev hq.sm) ?_
      cases rq : rightL q
      · exact ComposeBack.out p q
      simp only [Bool.not_true]
      have e1 := refflip_ev hp.sm
      have e2 := refflip_ev hq.sm
      rw [rp, if_pos rfl] at e1
      rw [rq, if_pos rfl] at e2
      obtain ⟨t1, t2⟩ := then_flip rp rq
      have ht := hp.then hq (by omega)
      have lt := (thenL_len hp hq).1
      refine Ev.step (fun k => rfl) ?_
      simp only [patchworklaw11_ComposeBack.j0, Bool.false_eq_true, if_false]
      refine Ev.bind' (pthen_ev hp hq) ?_
      refine Ev.bind' e2 ?_
      refine Ev.bind' e1 ?_
      refine Ev.bind' (pthen_ev (hq.flipped rq) (hp.flipped rp)) ?_
      rw [t1]
      simp only [beq_self_eq_true, if_true]
      cases d : (thenL p q).2
      · simp only [Bool.false_eq_true, if_false]; exact Ev.now true
      · simp only [if_true]
        have rt := thenL_right d
        have e3 := refflip_ev ht.sm
        rw [rt, if_pos rfl, t2 d] at e3
        refine Ev.bind' e3 ?_
        refine Ev.bind' (same_ev _ _ (by rw [← t2 d]; have := flipL_len rt; omega)) ?_
        simp only [decide_true]
        exact Ev.now true
    · simp only [h2, decide_false, Bool.false_eq_true, if_false]
      exact ComposeBack.out p q
  · simp only [h, decide_false, Bool.false_eq_true, if_false]
    exact ComposeBack.out p q
end Go.Proofs.Ytkiklmmpflndbaa.P
