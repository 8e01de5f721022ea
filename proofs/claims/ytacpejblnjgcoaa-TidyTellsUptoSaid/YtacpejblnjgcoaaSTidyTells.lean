/- The pure statement of TidyTells. -/
import Derived.Test.YtacpejblnjgcoaaP14
import Derived.Test.YtacpejblnjgcoaaK
namespace Go.Proofs.Ytacpejblnjgcoaa.P
open Go.RowKit Go.Proofs.YtacpejblnjgcoaaW.PrintWords Go.Proofs.YtacpejblnjgcoaaW.PrintLast Go.Proofs.YtacpejblnjgcoaaW.PrintMore
def TidyTells.Pure : Prop := ∀ (l0 : List (Op)), ((fun xs => ∀ y ∈ xs, okOp y) l0) → (fun xs => (xs.map wtOp).sum + 1) l0 ≤ 1048576 → ∃ k, patchworklaw13_TidyTells.f k l0 = some true
end Go.Proofs.Ytacpejblnjgcoaa.P
