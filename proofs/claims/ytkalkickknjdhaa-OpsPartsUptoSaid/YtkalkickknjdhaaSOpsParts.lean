/- The pure statement of OpsParts. -/
import Derived.Test.YtkalkickknjdhaaP22
import Derived.Test.YtkalkickknjdhaaK
namespace Go.Proofs.Ytkalkickknjdhaa.P
open Go.RowKit Go.Proofs.YtkalkickknjdhaaW.PrintWords Go.Proofs.YtkalkickknjdhaaW.PrintLast Go.Proofs.YtkalkickknjdhaaW.PrintMore
def OpsParts.Pure : Prop := ∀ (l0 : List (Op)) (l1 : List (Op)), ((fun xs => ∀ y ∈ xs, okOp y) l0) → ((fun xs => ∀ y ∈ xs, okOp y) l1) → (fun xs => (xs.map wtOp).sum + 1) l0 + (fun xs => (xs.map wtOp).sum + 1) l1 ≤ 1048576 → ∃ k, patchworklaw8_OpsParts.f k l0 l1 = some true
end Go.Proofs.Ytkalkickknjdhaa.P
