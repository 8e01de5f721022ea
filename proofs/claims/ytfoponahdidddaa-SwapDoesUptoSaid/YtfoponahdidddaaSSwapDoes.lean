/- The pure statement of SwapDoes. -/
import Derived.Test.YtfoponahdidddaaP24
import Derived.Test.YtfoponahdidddaaK
namespace Go.Proofs.Ytfoponahdidddaa.P
open Go.RowKit Go.Proofs.YtfoponahdidddaaW.PrintWords Go.Proofs.YtfoponahdidddaaW.PrintLast Go.Proofs.YtfoponahdidddaaW.PrintMore
def SwapDoes.Pure : Prop := ∀ (l0 : List (Op)) (l1 : List (Op)) (l2 : List ByteArray), ((fun xs => ∀ y ∈ xs, okOp y) l0) → ((fun xs => ∀ y ∈ xs, okOp y) l1) → ((fun xs => ∀ y ∈ xs, (fun _ => True) y) l2) → (fun xs => (xs.map wtOp).sum + 1) l0 + (fun xs => (xs.map wtOp).sum + 1) l1 + (fun xs => (xs.map (fun s => s.size + 1)).sum + 1) l2 ≤ 1048576 → ∃ k, patchworklaw15_SwapDoes.f k l0 l1 l2 = some true
end Go.Proofs.Ytfoponahdidddaa.P
