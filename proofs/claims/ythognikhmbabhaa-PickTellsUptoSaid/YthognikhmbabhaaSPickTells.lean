/- The pure statement of PickTells. -/
import Derived.Test.YthognikhmbabhaaP19
import Derived.Test.YthognikhmbabhaaK
namespace Go.Proofs.Ythognikhmbabhaa.P
open Go.RowKit Go.Proofs.YthognikhmbabhaaW.PrintWords Go.Proofs.YthognikhmbabhaaW.PrintLast Go.Proofs.YthognikhmbabhaaW.PrintMore
def PickTells.Pure : Prop := ∀ (l0 : List (Op)) (l1 : List Bool), ((fun xs => ∀ y ∈ xs, okOp y) l0) → ((fun xs => ∀ y ∈ xs, (fun _ => True) y) l1) → (fun xs => (xs.map wtOp).sum + 1) l0 + (fun xs => (xs.map (fun _ => 1)).sum + 1) l1 ≤ 1048576 → ∃ k, patchworklaw16_PickTells.f k l0 l1 = some true
end Go.Proofs.Ythognikhmbabhaa.P
