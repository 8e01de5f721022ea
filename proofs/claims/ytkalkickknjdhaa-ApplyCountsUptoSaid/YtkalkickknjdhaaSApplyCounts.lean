/- The pure statement of ApplyCounts. -/
import Derived.Test.YtkalkickknjdhaaP14
import Derived.Test.YtkalkickknjdhaaK
namespace Go.Proofs.Ytkalkickknjdhaa.P
open Go.RowKit Go.Proofs.YtkalkickknjdhaaW.PrintWords Go.Proofs.YtkalkickknjdhaaW.PrintLast Go.Proofs.YtkalkickknjdhaaW.PrintMore
def ApplyCounts.Pure : Prop := ∀ (l0 : List (Op)) (l1 : List ByteArray), ((fun xs => ∀ y ∈ xs, okOp y) l0) → ((fun xs => ∀ y ∈ xs, (fun _ => True) y) l1) → (fun xs => (xs.map wtOp).sum + 1) l0 + (fun xs => (xs.map (fun s => s.size + 1)).sum + 1) l1 ≤ 1048576 → ∃ k, patchworklaw9_ApplyCounts.f k l0 l1 = some true
end Go.Proofs.Ytkalkickknjdhaa.P
