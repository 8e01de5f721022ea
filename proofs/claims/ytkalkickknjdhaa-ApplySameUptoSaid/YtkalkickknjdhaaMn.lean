/- Own: the reference's Norm. -/
import Derived.Test.YtkalkickknjdhaaMe
namespace Go.Proofs.Ytkalkickknjdhaa.P
open Go.RowKit Go.Proofs.YtkalkickknjdhaaW.PrintWords Go.Proofs.YtkalkickknjdhaaW.PrintLast Go.Proofs.YtkalkickknjdhaaW.PrintMore
set_option linter.unusedVariables false
set_option linter.unusedSimpArgs false

/-- The reference's Norm. -/
theorem refNorm_ev {l : List Op} (h : Sm l) : Ev (fun k => patchworkref8_Norm.f k l) (if rightL l then normL l else []) := by
  refine Ev.bind' (refright_ev h) ?_
  cases hr : rightL l
  · simp only [Bool.false_eq_true, if_false]; exact Ev.now _
  · simp only [if_true]
    obtain ⟨h1, h2, _⟩ := rightL_ok hr
    have hf : ∀ o ∈ l, formO o := fun o ho => form_of (h1 o ho)
    have := skips_le 3 hf
    exact Ev.bind' (refnorm_ev h hf (by omega)) (Ev.now _)
end Go.Proofs.Ytkalkickknjdhaa.P
