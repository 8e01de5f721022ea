/- Own: what holds of a step that comes in, and its weight. -/
import Derived.Test.YtkalkickknjdhaaP0
namespace Go.Proofs.Ytkalkickknjdhaa.P
open Go.RowKit Go.Proofs.YtkalkickknjdhaaW.PrintWords Go.Proofs.YtkalkickknjdhaaW.PrintLast Go.Proofs.YtkalkickknjdhaaW.PrintMore
def okOp (x : Op) : Prop := (Lit.int .i64 x.f0).wf = true ∧ (Lit.int .i64 x.f1).wf = true ∧ True
def wtOp (x : Op) : Nat := 1 + 1 + (x.f2.size + 1) + 1
end Go.Proofs.Ytkalkickknjdhaa.P
