/- The pure statement of OpsOpen. -/
import Derived.Test.YtkalkickknjdhaaP19
import Derived.Test.YtkalkickknjdhaaK
namespace Go.Proofs.Ytkalkickknjdhaa.P
open Go.RowKit Go.Proofs.YtkalkickknjdhaaW.PrintWords Go.Proofs.YtkalkickknjdhaaW.PrintLast Go.Proofs.YtkalkickknjdhaaW.PrintMore
def OpsOpen.Pure : Prop := ∀ (a0 : Int) (a1 : Int) (a2 : ByteArray) (a3 : Int), ((fun n => (Lit.int .i64 n).wf = true) a0) → ((fun n => (Lit.int .i64 n).wf = true) a1) → ((fun n => (Lit.int .i64 n).wf = true) a3) → (fun _ => 1) a0 + (fun _ => 1) a1 + (fun s => s.size + 1) a2 + (fun _ => 1) a3 ≤ 1048576 → ∃ k, patchworklaw8_OpsOpen.f k a0 a1 a2 a3 = some true
end Go.Proofs.Ytkalkickknjdhaa.P
