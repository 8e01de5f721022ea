/-
  No cell of these rows narrows 'for every input' (looked for: loops, veiled, ifaces, maps, wideKeys, modest, calm, conditions, laid).
  DERIVED. THE GIVEN ROWS OF THIS SEAT. 7 by the template 'for every input the law returns true; each argument reads behind the call as it read before'; 0 by the template 'total and deterministic' (their statements: YtkiklmmpflndbaaTotals.lean).
  GIVEN WITH THE SEED: the statements are not yours to turn. If you find one false, say at which input.
  Laid BY PROGRAM, IN A SANDBOX (cutbox-rows.mjs): the forced cells as the released guide's own fill.sh prints them over the translation 4153a3577f0c1feb… (all of the seat's roots in one cut). By AI agents, Wed Nov 11 2026. No macro, syntax, notation, axiom, sorry.
-/
import Derived.Test.YtkiklmmpflndbaaChecked
import GoSem.Claim
import GoSem.ClaimJoined
import GoSem.ClaimMapViews
import Derived.JoinedTies
import Derived.KernelRfl
namespace Go.Proofs.Ytkiklmmpflndbaa
/- THE CELL 'sum', in the pinned program and in every row, IS THE sha256 OF THE DUMP (.gsa) THAT YtkiklmmpflndbaaProg.lean LOADS. Nothing in Lean hashes anything: it is a label: what it is worth is what the hold of that sum in a sandbox is worth. -/
noncomputable def Try.pinned : Pinned := { name := "ytkiklmmpflndbaa", sum := "4153a3577f0c1feb134b392287f9fc5b65810ade3d7dba847304bce035bf7c3b", checked := Try.checked }
namespace Rows
def none {H : Type} : Left H := { results := [], args := [] }

/-- 'patchworklaw11.ComposeTells': WHATEVER THE INPUT: true; the input reads as it did. -/
def composeTellsSpec : ChangeSpec := { name := "composeTells", fn := fun _ => fun
  | [d1, d2] => { results := [.lit (.bool true)], args := [d1, d2] }
  | _ => none }
def composeTellsRow : OpenClaim := { program := "ytkiklmmpflndbaa", sum := "4153a3577f0c1feb134b392287f9fc5b65810ade3d7dba847304bce035bf7c3b", func := "patchwork/patchworklaw11.ComposeTells", spec := "composeTells", inPlace := ["internal/bytealg.IndexByteString", "internal/bytealg.IndexString"], unfollowed := true, recurses := true, named := ["internal/bytealg.MaxLen"], apart := false }
def ComposeTellsSaid : Prop := composeTellsRow.holds Try.pinned (OpenSpec.ofChange composeTellsSpec)

/-- ITS FALSE NEIGHBOUR: 'it returns false'. Refute it at one input. -/
def composeTellsWrong : ChangeSpec := { name := "composeTells", fn := fun _ => fun
  | [d1, d2] => { results := [.lit (.bool false)], args := [d1, d2] }
  | _ => none }
def ComposeTellsWrongFalsely : Prop := composeTellsRow.holds Try.pinned (OpenSpec.ofChange composeTellsWrong)

/-- 'patchworklaw11.ComposeDoes': WHATEVER THE INPUT: true; the input reads as it did. -/
def composeDoesSpec : ChangeSpec := { name := "composeDoes", fn := fun _ => fun
  | [d1, d2, d3] => { results := [.lit (.bool true)], args := [d1, d2, d3] }
  | _ => none }
def composeDoesRow : OpenClaim := { program := "ytkiklmmpflndbaa", sum := "4153a3577f0c1feb134b392287f9fc5b65810ade3d7dba847304bce035bf7c3b", func := "patchwork/patchworklaw11.ComposeDoes", spec := "composeDoes", inPlace := ["internal/bytealg.IndexByteString", "internal/bytealg.IndexString"], unfollowed := true, recurses := true, named := ["internal/bytealg.MaxLen"], apart := false }
def ComposeDoesSaid : Prop := composeDoesRow.holds Try.pinned (OpenSpec.ofChange composeDoesSpec)

/-- ITS FALSE NEIGHBOUR: 'it returns false'. Refute it at one input. -/
def composeDoesWrong : ChangeSpec := { name := "composeDoes", fn := fun _ => fun
  | [d1, d2, d3] => { results := [.lit (.bool false)], args := [d1, d2, d3] }
  | _ => none }
def ComposeDoesWrongFalsely : Prop := composeDoesRow.holds Try.pinned (OpenSpec.ofChange composeDoesWrong)

/-- 'patchworklaw11.ComposeThree': WHATEVER THE INPUT: true; the input reads as it did. -/
def composeThreeSpec : ChangeSpec := { name := "composeThree", fn := fun _ => fun
  | [d1, d2, d3] => { results := [.lit (.bool true)], args := [d1, d2, d3] }
  | _ => none }
def composeThreeRow : OpenClaim := { program := "ytkiklmmpflndbaa", sum := "4153a3577f0c1feb134b392287f9fc5b65810ade3d7dba847304bce035bf7c3b", func := "patchwork/patchworklaw11.ComposeThree", spec := "composeThree", inPlace := ["internal/bytealg.IndexByteString", "internal/bytealg.IndexString"], unfollowed := true, recurses := true, named := ["internal/bytealg.MaxLen"], apart := false }
def ComposeThreeSaid : Prop := composeThreeRow.holds Try.pinned (OpenSpec.ofChange composeThreeSpec)

/-- ITS FALSE NEIGHBOUR: 'it returns false'. Refute it at one input. -/
def composeThreeWrong : ChangeSpec := { name := "composeThree", fn := fun _ => fun
  | [d1, d2, d3] => { results := [.lit (.bool false)], args := [d1, d2, d3] }
  | _ => none }
def ComposeThreeWrongFalsely : Prop := composeThreeRow.holds Try.pinned (OpenSpec.ofChange composeThreeWrong)

/-- 'patchworklaw11.ComposeNone': WHATEVER THE INPUT: true; the input reads as it did. -/
def composeNoneSpec : ChangeSpec := { name := "composeNone", fn := fun _ => fun
  | [d] => { results := [.lit (.bool true)], args := [d] }
  | _ => none }
def composeNoneRow : OpenClaim := { program := "ytkiklmmpflndbaa", sum := "4153a3577f0c1feb134b392287f9fc5b65810ade3d7dba847304bce035bf7c3b", func := "patchwork/patchworklaw11.ComposeNone", spec := "composeNone", inPlace := ["internal/bytealg.IndexByteString", "internal/bytealg.IndexString"], unfollowed := true, recurses := true, named := ["internal/bytealg.MaxLen"], apart := false }
def ComposeNoneSaid : Prop := composeNoneRow.holds Try.pinned (OpenSpec.ofChange composeNoneSpec)

/-- ITS FALSE NEIGHBOUR: 'it returns false'. Refute it at one input. -/
def composeNoneWrong : ChangeSpec := { name := "composeNone", fn := fun _ => fun
  | [d] => { results := [.lit (.bool false)], args := [d] }
  | _ => none }
def ComposeNoneWrongFalsely : Prop := composeNoneRow.holds Try.pinned (OpenSpec.ofChange composeNoneWrong)

/-- 'patchworklaw11.ComposeFalse': WHATEVER THE INPUT: true; the input reads as it did. -/
def composeFalseSpec : ChangeSpec := { name := "composeFalse", fn := fun _ => fun
  | [d1, d2, d3] => { results := [.lit (.bool true)], args := [d1, d2, d3] }
  | _ => none }
def composeFalseRow : OpenClaim := { program := "ytkiklmmpflndbaa", sum := "4153a3577f0c1feb134b392287f9fc5b65810ade3d7dba847304bce035bf7c3b", func := "patchwork/patchworklaw11.ComposeFalse", spec := "composeFalse", inPlace := ["internal/bytealg.IndexByteString", "internal/bytealg.IndexString"], unfollowed := true, recurses := true, named := ["internal/bytealg.MaxLen"], apart := false }
def ComposeFalseSaid : Prop := composeFalseRow.holds Try.pinned (OpenSpec.ofChange composeFalseSpec)

/-- ITS FALSE NEIGHBOUR: 'it returns false'. Refute it at one input. -/
def composeFalseWrong : ChangeSpec := { name := "composeFalse", fn := fun _ => fun
  | [d1, d2, d3] => { results := [.lit (.bool false)], args := [d1, d2, d3] }
  | _ => none }
def ComposeFalseWrongFalsely : Prop := composeFalseRow.holds Try.pinned (OpenSpec.ofChange composeFalseWrong)

/-- 'patchworklaw11.ComposeBack': WHATEVER THE INPUT: true; the input reads as it did. -/
def composeBackSpec : ChangeSpec := { name := "composeBack", fn := fun _ => fun
  | [d1, d2] => { results := [.lit (.bool true)], args := [d1, d2] }
  | _ => none }
def composeBackRow : OpenClaim := { program := "ytkiklmmpflndbaa", sum := "4153a3577f0c1feb134b392287f9fc5b65810ade3d7dba847304bce035bf7c3b", func := "patchwork/patchworklaw11.ComposeBack", spec := "composeBack", inPlace := ["internal/bytealg.IndexByteString", "internal/bytealg.IndexString"], unfollowed := true, recurses := true, named := ["internal/bytealg.MaxLen"], apart := false }
def ComposeBackSaid : Prop := composeBackRow.holds Try.pinned (OpenSpec.ofChange composeBackSpec)

/-- ITS FALSE NEIGHBOUR: 'it returns false'. Refute it at one input. -/
def composeBackWrong : ChangeSpec := { name := "composeBack", fn := fun _ => fun
  | [d1, d2] => { results := [.lit (.bool false)], args := [d1, d2] }
  | _ => none }
def ComposeBackWrongFalsely : Prop := composeBackRow.holds Try.pinned (OpenSpec.ofChange composeBackWrong)

/-- 'patchworklaw11.ComposeCounts': WHATEVER THE INPUT: true; the input reads as it did. -/
def composeCountsSpec : ChangeSpec := { name := "composeCounts", fn := fun _ => fun
  | [d1, d2] => { results := [.lit (.bool true)], args := [d1, d2] }
  | _ => none }
def composeCountsRow : OpenClaim := { program := "ytkiklmmpflndbaa", sum := "4153a3577f0c1feb134b392287f9fc5b65810ade3d7dba847304bce035bf7c3b", func := "patchwork/patchworklaw11.ComposeCounts", spec := "composeCounts", inPlace := ["internal/bytealg.IndexByteString", "internal/bytealg.IndexString"], unfollowed := true, recurses := true, named := ["internal/bytealg.MaxLen"], apart := false }
def ComposeCountsSaid : Prop := composeCountsRow.holds Try.pinned (OpenSpec.ofChange composeCountsSpec)

/-- ITS FALSE NEIGHBOUR: 'it returns false'. Refute it at one input. -/
def composeCountsWrong : ChangeSpec := { name := "composeCounts", fn := fun _ => fun
  | [d1, d2] => { results := [.lit (.bool false)], args := [d1, d2] }
  | _ => none }
def ComposeCountsWrongFalsely : Prop := composeCountsRow.holds Try.pinned (OpenSpec.ofChange composeCountsWrong)

/- THE SECOND FORM. 'bulk': how many values and letters a reading holds, each counted each time it is reached (what is shared counts as often as it is met; a slice's spare places count too). A statement '..UptoSaid' is the law's where the arguments, and the package variables that the reading takes, are together of bulk at most 1048576: NARROWER than '..Said'. Prove '..Said' where nothing that the law and all that it calls make is longer than what came in: it says more and counts as full. Else prove '..UptoSaid'. A law counts once. -/
mutual
def uptoBulk {H : Type} : DataW H → Nat
  | .lit (.string bytes) => bytes.length + 1
  | .lit _ => 1
  | .nil => 1
  | .ptr d => uptoBulk d + 1
  | .slice elems spare => uptoBulkAll elems + uptoBulkAll spare + 1
  | .agg parts => uptoBulkAll parts + 1
  | .iface _ d => uptoBulk d + 1
  | .map entries => uptoBulkEntries entries + 1
  | .held _ => 1
def uptoBulkAll {H : Type} : List (DataW H) → Nat
  | [] => 0
  | d :: r => uptoBulk d + uptoBulkAll r
def uptoBulkEntries {H : Type} : List (Lit × DataW H) → Nat
  | [] => 0
  | x :: r => uptoBulkEntry x + uptoBulkEntries r
def uptoBulkEntry {H : Type} : Lit × DataW H → Nat
  | (.string bytes, d) => bytes.length + uptoBulk d + 1
  | (_, d) => uptoBulk d + 1
 end
def uptoSmall : (H : Type) → List (DataW H) → Bool := fun _ ds => decide (uptoBulkAll ds ≤ 1048576)
def OpenSpec.upto (s : _root_.Go.ChangeSpec) : _root_.Go.OpenSpec := { _root_.Go.OpenSpec.ofChange s with cond := some uptoSmall }

/-- 'patchworklaw11.ComposeTells', WHERE WHAT IT READS IS OF BULK AT MOST 1048576: true; the input reads as it did. -/
def composeTellsUptoRow : OpenClaim := { program := "ytkiklmmpflndbaa", sum := "4153a3577f0c1feb134b392287f9fc5b65810ade3d7dba847304bce035bf7c3b", func := "patchwork/patchworklaw11.ComposeTells", spec := "composeTells", inPlace := ["internal/bytealg.IndexByteString", "internal/bytealg.IndexString"], unfollowed := true, recurses := true, named := ["internal/bytealg.MaxLen"], apart := false, narrowed := true }
def ComposeTellsUptoSaid : Prop := composeTellsUptoRow.holds Try.pinned (OpenSpec.upto composeTellsSpec)

/-- 'patchworklaw11.ComposeDoes', WHERE WHAT IT READS IS OF BULK AT MOST 1048576: true; the input reads as it did. -/
def composeDoesUptoRow : OpenClaim := { program := "ytkiklmmpflndbaa", sum := "4153a3577f0c1feb134b392287f9fc5b65810ade3d7dba847304bce035bf7c3b", func := "patchwork/patchworklaw11.ComposeDoes", spec := "composeDoes", inPlace := ["internal/bytealg.IndexByteString", "internal/bytealg.IndexString"], unfollowed := true, recurses := true, named := ["internal/bytealg.MaxLen"], apart := false, narrowed := true }
def ComposeDoesUptoSaid : Prop := composeDoesUptoRow.holds Try.pinned (OpenSpec.upto composeDoesSpec)

/-- 'patchworklaw11.ComposeThree', WHERE WHAT IT READS IS OF BULK AT MOST 1048576: true; the input reads as it did. -/
def composeThreeUptoRow : OpenClaim := { program := "ytkiklmmpflndbaa", sum := "4153a3577f0c1feb134b392287f9fc5b65810ade3d7dba847304bce035bf7c3b", func := "patchwork/patchworklaw11.ComposeThree", spec := "composeThree", inPlace := ["internal/bytealg.IndexByteString", "internal/bytealg.IndexString"], unfollowed := true, recurses := true, named := ["internal/bytealg.MaxLen"], apart := false, narrowed := true }
def ComposeThreeUptoSaid : Prop := composeThreeUptoRow.holds Try.pinned (OpenSpec.upto composeThreeSpec)

/-- 'patchworklaw11.ComposeNone', WHERE WHAT IT READS IS OF BULK AT MOST 1048576: true; the input reads as it did. -/
def composeNoneUptoRow : OpenClaim := { program := "ytkiklmmpflndbaa", sum := "4153a3577f0c1feb134b392287f9fc5b65810ade3d7dba847304bce035bf7c3b", func := "patchwork/patchworklaw11.ComposeNone", spec := "composeNone", inPlace := ["internal/bytealg.IndexByteString", "internal/bytealg.IndexString"], unfollowed := true, recurses := true, named := ["internal/bytealg.MaxLen"], apart := false, narrowed := true }
def ComposeNoneUptoSaid : Prop := composeNoneUptoRow.holds Try.pinned (OpenSpec.upto composeNoneSpec)

/-- 'patchworklaw11.ComposeFalse', WHERE WHAT IT READS IS OF BULK AT MOST 1048576: true; the input reads as it did. -/
def composeFalseUptoRow : OpenClaim := { program := "ytkiklmmpflndbaa", sum := "4153a3577f0c1feb134b392287f9fc5b65810ade3d7dba847304bce035bf7c3b", func := "patchwork/patchworklaw11.ComposeFalse", spec := "composeFalse", inPlace := ["internal/bytealg.IndexByteString", "internal/bytealg.IndexString"], unfollowed := true, recurses := true, named := ["internal/bytealg.MaxLen"], apart := false, narrowed := true }
def ComposeFalseUptoSaid : Prop := composeFalseUptoRow.holds Try.pinned (OpenSpec.upto composeFalseSpec)

/-- 'patchworklaw11.ComposeBack', WHERE WHAT IT READS IS OF BULK AT MOST 1048576: true; the input reads as it did. -/
def composeBackUptoRow : OpenClaim := { program := "ytkiklmmpflndbaa", sum := "4153a3577f0c1feb134b392287f9fc5b65810ade3d7dba847304bce035bf7c3b", func := "patchwork/patchworklaw11.ComposeBack", spec := "composeBack", inPlace := ["internal/bytealg.IndexByteString", "internal/bytealg.IndexString"], unfollowed := true, recurses := true, named := ["internal/bytealg.MaxLen"], apart := false, narrowed := true }
def ComposeBackUptoSaid : Prop := composeBackUptoRow.holds Try.pinned (OpenSpec.upto composeBackSpec)

/-- 'patchworklaw11.ComposeCounts', WHERE WHAT IT READS IS OF BULK AT MOST 1048576: true; the input reads as it did. -/
def composeCountsUptoRow : OpenClaim := { program := "ytkiklmmpflndbaa", sum := "4153a3577f0c1feb134b392287f9fc5b65810ade3d7dba847304bce035bf7c3b", func := "patchwork/patchworklaw11.ComposeCounts", spec := "composeCounts", inPlace := ["internal/bytealg.IndexByteString", "internal/bytealg.IndexString"], unfollowed := true, recurses := true, named := ["internal/bytealg.MaxLen"], apart := false, narrowed := true }
def ComposeCountsUptoSaid : Prop := composeCountsUptoRow.holds Try.pinned (OpenSpec.upto composeCountsSpec)

end Rows
end Go.Proofs.Ytkiklmmpflndbaa
