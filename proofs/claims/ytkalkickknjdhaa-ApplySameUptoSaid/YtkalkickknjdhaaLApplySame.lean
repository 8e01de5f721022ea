/- Own: ApplySame holds. -/
import Derived.Test.YtkalkickknjdhaaAa
import Derived.Test.YtkalkickknjdhaaDc
import Derived.Test.YtkalkickknjdhaaMn
import Derived.Test.YtkalkickknjdhaaSApplySame
namespace Go.Proofs.Ytkalkickknjdhaa.P
open Go.RowKit Go.Proofs.YtkalkickknjdhaaW.PrintWords Go.Proofs.YtkalkickknjdhaaW.PrintLast Go.Proofs.YtkalkickknjdhaaW.PrintMore
set_option linter.unusedVariables false
set_option linter.unusedSimpArgs false

theorem ApplySame.out (a : List Op) (b : List ByteArray) : Ev (fun k => patchworklaw9_ApplySame.j0 k a b true true) true := by
  refine Ev.step (fun k => rfl) ?_
  simp only [patchworklaw9_ApplySame.j0, if_true]
  exact Ev.now true
theorem doL_norm {l : List Op} (hr : rightL l = true) (ls : List ByteArray) : doL (normL l) ls = doL l ls := by
  unfold doL
  rw [right_norm hr, hr, ex_norm, doU_nf0]
theorem ApplySame.proved : ApplySame.Pure := by
  intro l ls _ _ hw
  simp only at hw
  have hs : Sm l := Sm.of_wt (by omega)
  have hf := fewN_le l
  have hfl := fewN_len l
  have w1 := wt_len ls
  have t1 := textSum_le ls
  have hls : SmT ls := SmT.of_wt (by omega)
  obtain ⟨b1, e1, _⟩ := short_ev ls (by omega)
  refine Ev.rounds ?_
  simp only [patchworklaw9_ApplySame.f]
  refine Ev.bind' alive9 ?_
  simp only [if_true]
  refine Ev.bind' (few_ev (by omega)) ?_
  by_cases h : fewN l ≤ 600
  · simp only [h, decide_true, if_true]
    refine Ev.bind' e1 ?_
    cases b1
    · exact ApplySame.out l ls
    simp only [if_true]
    refine Ev.bind' (refright_ev hs) ?_
    cases hr : rightL l
    · exact ApplySame.out l ls
    simp only [Bool.not_true]
    have rn := refNorm_ev hs
    rw [hr, if_pos rfl] at rn
    have hn := hs.norm (rightL_form hr)
    refine Ev.step (fun k => rfl) ?_
    simp only [patchworklaw9_ApplySame.j0, Bool.false_eq_true, if_false]
    refine Ev.bind' (pdo_ev hs hls) ?_
    refine Ev.bind' rn ?_
    refine Ev.bind' (pdo_ev hn hls) ?_
    simp only [doL_norm hr, beq_self_eq_true, if_true]
    refine Ev.bind' (texts_ev _ _ (by have := (doL_SmT (l := l) (by omega) hs (ls := ls) (by omega) hls).1; omega)) ?_
    simp only [decide_true]
    exact Ev.now true
  · simp only [h, decide_false, Bool.false_eq_true, if_false]
    exact ApplySame.out l ls
end Go.Proofs.Ytkalkickknjdhaa.P
