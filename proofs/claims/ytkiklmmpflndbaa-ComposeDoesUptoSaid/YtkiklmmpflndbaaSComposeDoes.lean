/- The pure statement of ComposeDoes. -/
import Derived.Test.YtkiklmmpflndbaaP14
import Derived.Test.YtkiklmmpflndbaaK
namespace Go.Proofs.Ytkiklmmpflndbaa.P
open Go.RowKit Go.Proofs.YtkiklmmpflndbaaW.PrintWords Go.Proofs.YtkiklmmpflndbaaW.PrintLast Go.Proofs.YtkiklmmpflndbaaW.PrintMore
def ComposeDoes.Pure : Prop := ∀ (l0 : List (Op)) (l1 : List (Op)) (l2 : List ByteArray), ((fun xs => ∀ y ∈ xs, okOp y) l0) → ((fun xs => ∀ y ∈ xs, okOp y) l1) → ((fun xs => ∀ y ∈ xs, (fun _ => True) y) l2) → (fun xs => (xs.map wtOp).sum + 1) l0 + (fun xs => (xs.map wtOp).sum + 1) l1 + (fun xs => (xs.map (fun s => s.size + 1)).sum + 1) l2 ≤ 1048576 → ∃ k, patchworklaw11_ComposeDoes.f k l0 l1 l2 = some true
end Go.Proofs.Ytkiklmmpflndbaa.P
