/- The pure statement of TidyLeast. -/
import Derived.Test.YtacpejblnjgcoaaP17
import Derived.Test.YtacpejblnjgcoaaK
namespace Go.Proofs.Ytacpejblnjgcoaa.P
open Go.RowKit Go.Proofs.YtacpejblnjgcoaaW.PrintWords Go.Proofs.YtacpejblnjgcoaaW.PrintLast Go.Proofs.YtacpejblnjgcoaaW.PrintMore
def TidyLeast.Pure : Prop := ∀ (l0 : List ByteArray) (l1 : List ByteArray) (a2 : Int) (l3 : List Int), ((fun xs => ∀ y ∈ xs, (fun _ => True) y) l0) → ((fun xs => ∀ y ∈ xs, (fun _ => True) y) l1) → ((fun n => (Lit.int .i64 n).wf = true) a2) → ((fun xs => ∀ y ∈ xs, (fun n => (Lit.int .i64 n).wf = true) y) l3) → (fun xs => (xs.map (fun s => s.size + 1)).sum + 1) l0 + (fun xs => (xs.map (fun s => s.size + 1)).sum + 1) l1 + (fun _ => 1) a2 + (fun xs => (xs.map (fun _ => 1)).sum + 1) l3 ≤ 1048576 → ∃ k, patchworklaw13_TidyLeast.f k l0 l1 a2 l3 = some true
end Go.Proofs.Ytacpejblnjgcoaa.P
