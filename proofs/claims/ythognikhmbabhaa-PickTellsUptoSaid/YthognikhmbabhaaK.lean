/- Own: what holds of a step that comes in, and its weight. -/
import Derived.Test.YthognikhmbabhaaP0
namespace Go.Proofs.Ythognikhmbabhaa.P
open Go.RowKit Go.Proofs.YthognikhmbabhaaW.PrintWords Go.Proofs.YthognikhmbabhaaW.PrintLast Go.Proofs.YthognikhmbabhaaW.PrintMore
def okOp (x : Op) : Prop := (Lit.int .i64 x.f0).wf = true ∧ (Lit.int .i64 x.f1).wf = true ∧ True
def wtOp (x : Op) : Nat := 1 + 1 + (x.f2.size + 1) + 1
end Go.Proofs.Ythognikhmbabhaa.P
