/-
  No cell of these rows narrows 'for every input' (looked for: loops, veiled, ifaces, maps, wideKeys, modest, calm, conditions, laid).
  DERIVED. THE GIVEN ROWS OF THIS SEAT. 4 by the template 'for every input the law returns true; each argument reads behind the call as it read before'; 0 by the template 'total and deterministic' (their statements: YtbmcpfbhcafkdaaTotals.lean).
  GIVEN WITH THE SEED: the statements are not yours to turn. If you find one false, say at which input.
  Laid BY PROGRAM, IN A SANDBOX (cutbox-rows.mjs): the forced cells as the released guide's own fill.sh prints them over the translation a434b9e6b98bb17e… (all of the seat's roots in one cut). By AI agents, Wed Nov 11 2026. No macro, syntax, notation, axiom, sorry.
-/
import Derived.Test.YtbmcpfbhcafkdaaChecked
import GoSem.Claim
import GoSem.ClaimJoined
import GoSem.ClaimMapViews
import Derived.JoinedTies
import Derived.KernelRfl
namespace Go.Proofs.Ytbmcpfbhcafkdaa
/- THE CELL 'sum', in the pinned program and in every row, IS THE sha256 OF THE DUMP (.gsa) THAT YtbmcpfbhcafkdaaProg.lean LOADS. Nothing in Lean hashes anything: it is a label: what it is worth is what the hold of that sum in a sandbox is worth. -/
noncomputable def Try.pinned : Pinned := { name := "ytbmcpfbhcafkdaa", sum := "a434b9e6b98bb17e5ecaf0d6e9e097e6015e363656957fd37ea0898df97d2434", checked := Try.checked }
namespace Rows
def none {H : Type} : Left H := { results := [], args := [] }

/-- 'patchworklaw12.LcsTells': WHATEVER THE INPUT: true; the input reads as it did. -/
def lcsTellsSpec : ChangeSpec := { name := "lcsTells", fn := fun _ => fun
  | [d1, d2] => { results := [.lit (.bool true)], args := [d1, d2] }
  | _ => none }
def lcsTellsRow : OpenClaim := { program := "ytbmcpfbhcafkdaa", sum := "a434b9e6b98bb17e5ecaf0d6e9e097e6015e363656957fd37ea0898df97d2434", func := "patchwork/patchworklaw12.LcsTells", spec := "lcsTells", unfollowed := true, recurses := true, apart := false }
def LcsTellsSaid : Prop := lcsTellsRow.holds Try.pinned (OpenSpec.ofChange lcsTellsSpec)

/-- ITS FALSE NEIGHBOUR: 'it returns false'. Refute it at one input. -/
def lcsTellsWrong : ChangeSpec := { name := "lcsTells", fn := fun _ => fun
  | [d1, d2] => { results := [.lit (.bool false)], args := [d1, d2] }
  | _ => none }
def LcsTellsWrongFalsely : Prop := lcsTellsRow.holds Try.pinned (OpenSpec.ofChange lcsTellsWrong)

/-- 'patchworklaw12.LcsLeads': WHATEVER THE INPUT: true; the input reads as it did. -/
def lcsLeadsSpec : ChangeSpec := { name := "lcsLeads", fn := fun _ => fun
  | [d1, d2] => { results := [.lit (.bool true)], args := [d1, d2] }
  | _ => none }
def lcsLeadsRow : OpenClaim := { program := "ytbmcpfbhcafkdaa", sum := "a434b9e6b98bb17e5ecaf0d6e9e097e6015e363656957fd37ea0898df97d2434", func := "patchwork/patchworklaw12.LcsLeads", spec := "lcsLeads", unfollowed := true, recurses := true, apart := false }
def LcsLeadsSaid : Prop := lcsLeadsRow.holds Try.pinned (OpenSpec.ofChange lcsLeadsSpec)

/-- ITS FALSE NEIGHBOUR: 'it returns false'. Refute it at one input. -/
def lcsLeadsWrong : ChangeSpec := { name := "lcsLeads", fn := fun _ => fun
  | [d1, d2] => { results := [.lit (.bool false)], args := [d1, d2] }
  | _ => none }
def LcsLeadsWrongFalsely : Prop := lcsLeadsRow.holds Try.pinned (OpenSpec.ofChange lcsLeadsWrong)

/-- 'patchworklaw12.LcsBounds': WHATEVER THE INPUT: true; the input reads as it did. -/
def lcsBoundsSpec : ChangeSpec := { name := "lcsBounds", fn := fun _ => fun
  | [d1, d2, d3, d4] => { results := [.lit (.bool true)], args := [d1, d2, d3, d4] }
  | _ => none }
def lcsBoundsRow : OpenClaim := { program := "ytbmcpfbhcafkdaa", sum := "a434b9e6b98bb17e5ecaf0d6e9e097e6015e363656957fd37ea0898df97d2434", func := "patchwork/patchworklaw12.LcsBounds", spec := "lcsBounds", unfollowed := true, recurses := true, apart := false }
def LcsBoundsSaid : Prop := lcsBoundsRow.holds Try.pinned (OpenSpec.ofChange lcsBoundsSpec)

/-- ITS FALSE NEIGHBOUR: 'it returns false'. Refute it at one input. -/
def lcsBoundsWrong : ChangeSpec := { name := "lcsBounds", fn := fun _ => fun
  | [d1, d2, d3, d4] => { results := [.lit (.bool false)], args := [d1, d2, d3, d4] }
  | _ => none }
def LcsBoundsWrongFalsely : Prop := lcsBoundsRow.holds Try.pinned (OpenSpec.ofChange lcsBoundsWrong)

/-- 'patchworklaw12.LcsSame': WHATEVER THE INPUT: true; the input reads as it did. -/
def lcsSameSpec : ChangeSpec := { name := "lcsSame", fn := fun _ => fun
  | [d1, d2] => { results := [.lit (.bool true)], args := [d1, d2] }
  | _ => none }
def lcsSameRow : OpenClaim := { program := "ytbmcpfbhcafkdaa", sum := "a434b9e6b98bb17e5ecaf0d6e9e097e6015e363656957fd37ea0898df97d2434", func := "patchwork/patchworklaw12.LcsSame", spec := "lcsSame", unfollowed := true, recurses := true, apart := false }
def LcsSameSaid : Prop := lcsSameRow.holds Try.pinned (OpenSpec.ofChange lcsSameSpec)

/-- ITS FALSE NEIGHBOUR: 'it returns false'. Refute it at one input. -/
def lcsSameWrong : ChangeSpec := { name := "lcsSame", fn := fun _ => fun
  | [d1, d2] => { results := [.lit (.bool false)], args := [d1, d2] }
  | _ => none }
def LcsSameWrongFalsely : Prop := lcsSameRow.holds Try.pinned (OpenSpec.ofChange lcsSameWrong)

/- THE SECOND FORM. 'bulk': how many values and letters a reading holds, each counted each time it is reached (what is shared counts as often as it is met; a slice's spare places count too). A statement '..UptoSaid' is the law's where the arguments, and the package variables that the reading takes, are together of bulk at most 1048576: NARROWER than '..Said'. Prove '..Said' where nothing that the law and all that it calls make is longer than what came in: it says more and counts as full. Else prove '..UptoSaid'. A law counts once. -/
mutual
def uptoBulk {H : Type} : DataW H → Nat
  | .lit (.string bytes) => bytes.length + 1
  | .lit _ => 1
  | .nil => 1
  | .ptr d => uptoBulk d + 1
  | .slice elems spare => uptoBulkAll elems + uptoBulkAll spare + 1
  | .agg parts => uptoBulkAll parts + 1
  | .iface _ d => uptoBulk d + 1
  | .map entries => uptoBulkEntries entries + 1
  | .held _ => 1
def uptoBulkAll {H : Type} : List (DataW H) → Nat
  | [] => 0
  | d :: r => uptoBulk d + uptoBulkAll r
def uptoBulkEntries {H : Type} : List (Lit × DataW H) → Nat
  | [] => 0
  | x :: r => uptoBulkEntry x + uptoBulkEntries r
def uptoBulkEntry {H : Type} : Lit × DataW H → Nat
  | (.string bytes, d) => bytes.length + uptoBulk d + 1
  | (_, d) => uptoBulk d + 1
 end
def uptoSmall : (H : Type) → List (DataW H) → Bool := fun _ ds => decide (uptoBulkAll ds ≤ 1048576)
def OpenSpec.upto (s : _root_.Go.ChangeSpec) : _root_.Go.OpenSpec := { _root_.Go.OpenSpec.ofChange s with cond := some uptoSmall }

/-- 'patchworklaw12.LcsTells', WHERE WHAT IT READS IS OF BULK AT MOST 1048576: true; the input reads as it did. -/
def lcsTellsUptoRow : OpenClaim := { program := "ytbmcpfbhcafkdaa", sum := "a434b9e6b98bb17e5ecaf0d6e9e097e6015e363656957fd37ea0898df97d2434", func := "patchwork/patchworklaw12.LcsTells", spec := "lcsTells", unfollowed := true, recurses := true, apart := false, narrowed := true }
def LcsTellsUptoSaid : Prop := lcsTellsUptoRow.holds Try.pinned (OpenSpec.upto lcsTellsSpec)

/-- 'patchworklaw12.LcsLeads', WHERE WHAT IT READS IS OF BULK AT MOST 1048576: true; the input reads as it did. -/
def lcsLeadsUptoRow : OpenClaim := { program := "ytbmcpfbhcafkdaa", sum := "a434b9e6b98bb17e5ecaf0d6e9e097e6015e363656957fd37ea0898df97d2434", func := "patchwork/patchworklaw12.LcsLeads", spec := "lcsLeads", unfollowed := true, recurses := true, apart := false, narrowed := true }
def LcsLeadsUptoSaid : Prop := lcsLeadsUptoRow.holds Try.pinned (OpenSpec.upto lcsLeadsSpec)

/-- 'patchworklaw12.LcsBounds', WHERE WHAT IT READS IS OF BULK AT MOST 1048576: true; the input reads as it did. -/
def lcsBoundsUptoRow : OpenClaim := { program := "ytbmcpfbhcafkdaa", sum := "a434b9e6b98bb17e5ecaf0d6e9e097e6015e363656957fd37ea0898df97d2434", func := "patchwork/patchworklaw12.LcsBounds", spec := "lcsBounds", unfollowed := true, recurses := true, apart := false, narrowed := true }
def LcsBoundsUptoSaid : Prop := lcsBoundsUptoRow.holds Try.pinned (OpenSpec.upto lcsBoundsSpec)

/-- 'patchworklaw12.LcsSame', WHERE WHAT IT READS IS OF BULK AT MOST 1048576: true; the input reads as it did. -/
def lcsSameUptoRow : OpenClaim := { program := "ytbmcpfbhcafkdaa", sum := "a434b9e6b98bb17e5ecaf0d6e9e097e6015e363656957fd37ea0898df97d2434", func := "patchwork/patchworklaw12.LcsSame", spec := "lcsSame", unfollowed := true, recurses := true, apart := false, narrowed := true }
def LcsSameUptoSaid : Prop := lcsSameUptoRow.holds Try.pinned (OpenSpec.upto lcsSameSpec)

end Rows
end Go.Proofs.Ytbmcpfbhcafkdaa
