/- The pure statement of OpsLimits. -/
import Derived.Test.YtkalkickknjdhaaP21
import Derived.Test.YtkalkickknjdhaaK
namespace Go.Proofs.Ytkalkickknjdhaa.P
open Go.RowKit Go.Proofs.YtkalkickknjdhaaW.PrintWords Go.Proofs.YtkalkickknjdhaaW.PrintLast Go.Proofs.YtkalkickknjdhaaW.PrintMore
def OpsLimits.Pure : Prop := ∀ (a0 : Int) (a1 : Int), ((fun n => (Lit.int .i64 n).wf = true) a0) → ((fun n => (Lit.int .i64 n).wf = true) a1) → (fun _ => 1) a0 + (fun _ => 1) a1 ≤ 1048576 → ∃ k, patchworklaw8_OpsLimits.f k a0 a1 = some true
end Go.Proofs.Ytkalkickknjdhaa.P
