/- Own: what holds of a step that comes in, and its weight. -/
import Derived.Test.YtacpejblnjgcoaaP0
namespace Go.Proofs.Ytacpejblnjgcoaa.P
open Go.RowKit Go.Proofs.YtacpejblnjgcoaaW.PrintWords Go.Proofs.YtacpejblnjgcoaaW.PrintLast Go.Proofs.YtacpejblnjgcoaaW.PrintMore
def okOp (x : Op) : Prop := (Lit.int .i64 x.f0).wf = true ∧ (Lit.int .i64 x.f1).wf = true ∧ True
def wtOp (x : Op) : Nat := 1 + 1 + (x.f2.size + 1) + 1
def okHunk (x : Hunk) : Prop := (Lit.int .i64 x.f0).wf = true ∧ (Lit.int .i64 x.f1).wf = true ∧ ∀ y ∈ x.f2, okOp y
def wtHunk (x : Hunk) : Nat := 1 + 1 + ((x.f2.map wtOp).sum + 1) + 1
end Go.Proofs.Ytacpejblnjgcoaa.P
