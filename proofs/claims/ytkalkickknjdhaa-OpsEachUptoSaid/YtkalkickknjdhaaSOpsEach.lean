/- The pure statement of OpsEach. -/
import Derived.Test.YtkalkickknjdhaaP22
import Derived.Test.YtkalkickknjdhaaK
namespace Go.Proofs.Ytkalkickknjdhaa.P
open Go.RowKit Go.Proofs.YtkalkickknjdhaaW.PrintWords Go.Proofs.YtkalkickknjdhaaW.PrintLast Go.Proofs.YtkalkickknjdhaaW.PrintMore
def OpsEach.Pure : Prop := ∀ (a0 : Int), ((fun n => (Lit.int .i64 n).wf = true) a0) → (fun _ => 1) a0 ≤ 1048576 → ∃ k, patchworklaw8_OpsEach.f k a0 = some true
end Go.Proofs.Ytkalkickknjdhaa.P
