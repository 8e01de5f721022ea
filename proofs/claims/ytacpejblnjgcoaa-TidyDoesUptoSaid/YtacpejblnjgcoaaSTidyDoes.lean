/- The pure statement of TidyDoes. -/
import Derived.Test.YtacpejblnjgcoaaP15
import Derived.Test.YtacpejblnjgcoaaK
namespace Go.Proofs.Ytacpejblnjgcoaa.P
open Go.RowKit Go.Proofs.YtacpejblnjgcoaaW.PrintWords Go.Proofs.YtacpejblnjgcoaaW.PrintLast Go.Proofs.YtacpejblnjgcoaaW.PrintMore
def TidyDoes.Pure : Prop := ∀ (l0 : List (Op)) (l1 : List ByteArray), ((fun xs => ∀ y ∈ xs, okOp y) l0) → ((fun xs => ∀ y ∈ xs, (fun _ => True) y) l1) → (fun xs => (xs.map wtOp).sum + 1) l0 + (fun xs => (xs.map (fun s => s.size + 1)).sum + 1) l1 ≤ 1048576 → ∃ k, patchworklaw13_TidyDoes.f k l0 l1 = some true
end Go.Proofs.Ytacpejblnjgcoaa.P
