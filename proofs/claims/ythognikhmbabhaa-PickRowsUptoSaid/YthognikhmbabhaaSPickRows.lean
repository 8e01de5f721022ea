/- The pure statement of PickRows. -/
import Derived.Test.YthognikhmbabhaaP22
import Derived.Test.YthognikhmbabhaaK
namespace Go.Proofs.Ythognikhmbabhaa.P
open Go.RowKit Go.Proofs.YthognikhmbabhaaW.PrintWords Go.Proofs.YthognikhmbabhaaW.PrintLast Go.Proofs.YthognikhmbabhaaW.PrintMore
def PickRows.Pure : Prop := ∀ (l0 : List (Op)), ((fun xs => ∀ y ∈ xs, okOp y) l0) → (fun xs => (xs.map wtOp).sum + 1) l0 ≤ 1048576 → ∃ k, patchworklaw16_PickRows.f k l0 = some true
end Go.Proofs.Ythognikhmbabhaa.P
