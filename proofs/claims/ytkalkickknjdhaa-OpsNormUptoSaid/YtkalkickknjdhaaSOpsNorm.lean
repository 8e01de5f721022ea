/- The pure statement of OpsNorm. -/
import Derived.Test.YtkalkickknjdhaaP19
import Derived.Test.YtkalkickknjdhaaK
namespace Go.Proofs.Ytkalkickknjdhaa.P
open Go.RowKit Go.Proofs.YtkalkickknjdhaaW.PrintWords Go.Proofs.YtkalkickknjdhaaW.PrintLast Go.Proofs.YtkalkickknjdhaaW.PrintMore
def OpsNorm.Pure : Prop := ∀ (l0 : List (Op)), ((fun xs => ∀ y ∈ xs, okOp y) l0) → (fun xs => (xs.map wtOp).sum + 1) l0 ≤ 1048576 → ∃ k, patchworklaw8_OpsNorm.f k l0 = some true
end Go.Proofs.Ytkalkickknjdhaa.P
