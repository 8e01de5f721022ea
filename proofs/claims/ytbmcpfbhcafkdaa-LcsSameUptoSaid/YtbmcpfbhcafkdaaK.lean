/- Own: what holds of a step that comes in, and its weight. -/
import Derived.Test.YtbmcpfbhcafkdaaP0
namespace Go.Proofs.Ytbmcpfbhcafkdaa.P
open Go.RowKit Go.Proofs.YtbmcpfbhcafkdaaW.PrintWords Go.Proofs.YtbmcpfbhcafkdaaW.PrintLast Go.Proofs.YtbmcpfbhcafkdaaW.PrintMore
def okOp (x : Op) : Prop := (Lit.int .i64 x.f0).wf = true ∧ (Lit.int .i64 x.f1).wf = true ∧ True
def wtOp (x : Op) : Nat := 1 + 1 + (x.f2.size + 1) + 1
end Go.Proofs.Ytbmcpfbhcafkdaa.P
