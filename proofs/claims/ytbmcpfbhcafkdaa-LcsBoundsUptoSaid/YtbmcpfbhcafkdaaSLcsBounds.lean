/- The pure statement of LcsBounds. -/
import Derived.Test.YtbmcpfbhcafkdaaP9
import Derived.Test.YtbmcpfbhcafkdaaK
namespace Go.Proofs.Ytbmcpfbhcafkdaa.P
open Go.RowKit Go.Proofs.YtbmcpfbhcafkdaaW.PrintWords Go.Proofs.YtbmcpfbhcafkdaaW.PrintLast Go.Proofs.YtbmcpfbhcafkdaaW.PrintMore
def LcsBounds.Pure : Prop := ∀ (l0 : List ByteArray) (l1 : List ByteArray) (l2 : List ByteArray) (l3 : List Int), ((fun xs => ∀ y ∈ xs, (fun _ => True) y) l0) → ((fun xs => ∀ y ∈ xs, (fun _ => True) y) l1) → ((fun xs => ∀ y ∈ xs, (fun _ => True) y) l2) → ((fun xs => ∀ y ∈ xs, (fun n => (Lit.int .i64 n).wf = true) y) l3) → (fun xs => (xs.map (fun s => s.size + 1)).sum + 1) l0 + (fun xs => (xs.map (fun s => s.size + 1)).sum + 1) l1 + (fun xs => (xs.map (fun s => s.size + 1)).sum + 1) l2 + (fun xs => (xs.map (fun _ => 1)).sum + 1) l3 ≤ 1048576 → ∃ k, patchworklaw12_LcsBounds.f k l0 l1 l2 l3 = some true
end Go.Proofs.Ytbmcpfbhcafkdaa.P
