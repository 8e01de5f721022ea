/- Own: ApplyTells holds. -/
import Derived.Test.YtkalkickknjdhaaAa
import Derived.Test.YtkalkickknjdhaaDc
import Derived.Test.YtkalkickknjdhaaSApplyTells
namespace Go.Proofs.Ytkalkickknjdhaa.P
open Go.RowKit Go.Proofs.YtkalkickknjdhaaW.PrintWords Go.Proofs.YtkalkickknjdhaaW.PrintLast Go.Proofs.YtkalkickknjdhaaW.PrintMore
set_option linter.unusedVariables false
set_option linter.unusedSimpArgs false

theorem ApplyTells.out (a : List Op) (b : List ByteArray) : Ev (fun k => patchworklaw9_ApplyTells.j0 k a b true true) true := by
  refine Ev.step (fun k => rfl) ?_
  simp only [patchworklaw9_ApplyTells.j0, if_true]
  exact Ev.now true
theorem ApplyTells.proved : ApplyTells.Pure := by
  intro l ls _ _ hw
  simp only at hw
  have hs : Sm l := Sm.of_wt (by omega)
  have hf := fewN_le l
  have hfl := fewN_len l
  have w1 := wt_len ls
  have t1 := textSum_le ls
  have hls : SmT ls := SmT.of_wt (by omega)
  obtain ⟨b1, e1, _⟩ := short_ev ls (by omega)
  refine Ev.rounds ?_
  simp only [patchworklaw9_ApplyTells.f]
  refine Ev.bind' alive9 ?_
  simp only [if_true]
  refine Ev.bind' (few_ev (by omega)) ?_
  by_cases h : fewN l ≤ 600
  · simp only [h, decide_true, if_true]
    refine Ev.bind' e1 ?_
    cases b1
    · exact ApplyTells.out l ls
    simp only [Bool.not_true]
    have c1 : ([] : List Op).length + l.length < 4398046511104 := by have := hs.1; simp; omega
    have c2 : ([] : List ByteArray).length + ls.length < 8796093022208 := by have := hls.1; simp; omega
    have hd := doL_SmT (l := l) (by omega) hs (ls := ls) (by omega) hls
    refine Ev.step (fun k => rfl) ?_
    simp only [patchworklaw9_ApplyTells.j0, Bool.false_eq_true, if_false, if_pos c1, if_pos c2, List.nil_append]
    refine Ev.bind' (pdo_ev hs hls) ?_
    refine Ev.bind' (refdo_ev hs hls) ?_
    refine Ev.bind' (texts_ev _ _ (by have := hd.1; omega)) ?_
    simp only [decide_true, if_true, beq_self_eq_true]
    refine Ev.bind' (pfits_ev hs hls) ?_
    simp only [beq_self_eq_true]
    exact Ev.now true
  · simp only [h, decide_false, Bool.false_eq_true, if_false]
    exact ApplyTells.out l ls
end Go.Proofs.Ytkalkickknjdhaa.P
