/- The pure statement of FlipEach. -/
import Derived.Test.YthognikhmbabhaaP18
import Derived.Test.YthognikhmbabhaaK
namespace Go.Proofs.Ythognikhmbabhaa.P
open Go.RowKit Go.Proofs.YthognikhmbabhaaW.PrintWords Go.Proofs.YthognikhmbabhaaW.PrintLast Go.Proofs.YthognikhmbabhaaW.PrintMore
def FlipEach.Pure : Prop := ∀ (a0 : Int), ((fun n => (Lit.int .i64 n).wf = true) a0) → (fun _ => 1) a0 ≤ 1048576 → ∃ k, patchworklaw10_FlipEach.f k a0 = some true
end Go.Proofs.Ythognikhmbabhaa.P
