/- The pure statement of LcsSame. -/
import Derived.Test.YtbmcpfbhcafkdaaP10
import Derived.Test.YtbmcpfbhcafkdaaK
namespace Go.Proofs.Ytbmcpfbhcafkdaa.P
open Go.RowKit Go.Proofs.YtbmcpfbhcafkdaaW.PrintWords Go.Proofs.YtbmcpfbhcafkdaaW.PrintLast Go.Proofs.YtbmcpfbhcafkdaaW.PrintMore
def LcsSame.Pure : Prop := ∀ (l0 : List ByteArray) (l1 : List ByteArray), ((fun xs => ∀ y ∈ xs, (fun _ => True) y) l0) → ((fun xs => ∀ y ∈ xs, (fun _ => True) y) l1) → (fun xs => (xs.map (fun s => s.size + 1)).sum + 1) l0 + (fun xs => (xs.map (fun s => s.size + 1)).sum + 1) l1 ≤ 1048576 → ∃ k, patchworklaw12_LcsSame.f k l0 l1 = some true
end Go.Proofs.Ytbmcpfbhcafkdaa.P
