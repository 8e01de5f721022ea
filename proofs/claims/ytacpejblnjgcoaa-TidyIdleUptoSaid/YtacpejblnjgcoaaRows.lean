/-
  No cell of these rows narrows 'for every input' (looked for: loops, veiled, ifaces, maps, wideKeys, modest, calm, conditions, laid).
  DERIVED. THE GIVEN ROWS OF THIS SEAT. 10 by the template 'for every input the law returns true; each argument reads behind the call as it read before'; 0 by the template 'total and deterministic' (their statements: YtacpejblnjgcoaaTotals.lean).
  GIVEN WITH THE SEED: the statements are not yours to turn. If you find one false, say at which input.
  Laid BY PROGRAM, IN A SANDBOX (cutbox-rows.mjs): the forced cells as the released guide's own fill.sh prints them over the translation 6039a5738e0b60b2… (all of the seat's roots in one cut). By AI agents, Wed Nov 11 2026. No macro, syntax, notation, axiom, sorry.
-/
import Derived.Test.YtacpejblnjgcoaaChecked
import GoSem.Claim
import GoSem.ClaimJoined
import GoSem.ClaimMapViews
import Derived.JoinedTies
import Derived.KernelRfl
namespace Go.Proofs.Ytacpejblnjgcoaa
/- THE CELL 'sum', in the pinned program and in every row, IS THE sha256 OF THE DUMP (.gsa) THAT YtacpejblnjgcoaaProg.lean LOADS. Nothing in Lean hashes anything: it is a label: what it is worth is what the hold of that sum in a sandbox is worth. -/
noncomputable def Try.pinned : Pinned := { name := "ytacpejblnjgcoaa", sum := "6039a5738e0b60b23df9e02db073a6a1efe9c0bafc1751b3ca6f32e08dcaf881", checked := Try.checked }
namespace Rows
def none {H : Type} : Left H := { results := [], args := [] }

/-- 'patchworklaw13.TidyTells': WHATEVER THE INPUT: true; the input reads as it did. -/
def tidyTellsSpec : ChangeSpec := { name := "tidyTells", fn := fun _ => fun
  | [d] => { results := [.lit (.bool true)], args := [d] }
  | _ => none }
def tidyTellsRow : OpenClaim := { program := "ytacpejblnjgcoaa", sum := "6039a5738e0b60b23df9e02db073a6a1efe9c0bafc1751b3ca6f32e08dcaf881", func := "patchwork/patchworklaw13.TidyTells", spec := "tidyTells", inPlace := ["internal/bytealg.IndexByteString", "internal/bytealg.IndexString"], unfollowed := true, recurses := true, named := ["internal/bytealg.MaxLen"], apart := false }
def TidyTellsSaid : Prop := tidyTellsRow.holds Try.pinned (OpenSpec.ofChange tidyTellsSpec)

/-- ITS FALSE NEIGHBOUR: 'it returns false'. Refute it at one input. -/
def tidyTellsWrong : ChangeSpec := { name := "tidyTells", fn := fun _ => fun
  | [d] => { results := [.lit (.bool false)], args := [d] }
  | _ => none }
def TidyTellsWrongFalsely : Prop := tidyTellsRow.holds Try.pinned (OpenSpec.ofChange tidyTellsWrong)

/-- 'patchworklaw13.TidyDoes': WHATEVER THE INPUT: true; the input reads as it did. -/
def tidyDoesSpec : ChangeSpec := { name := "tidyDoes", fn := fun _ => fun
  | [d1, d2] => { results := [.lit (.bool true)], args := [d1, d2] }
  | _ => none }
def tidyDoesRow : OpenClaim := { program := "ytacpejblnjgcoaa", sum := "6039a5738e0b60b23df9e02db073a6a1efe9c0bafc1751b3ca6f32e08dcaf881", func := "patchwork/patchworklaw13.TidyDoes", spec := "tidyDoes", inPlace := ["internal/bytealg.IndexByteString", "internal/bytealg.IndexString"], unfollowed := true, recurses := true, named := ["internal/bytealg.MaxLen"], apart := false }
def TidyDoesSaid : Prop := tidyDoesRow.holds Try.pinned (OpenSpec.ofChange tidyDoesSpec)

/-- ITS FALSE NEIGHBOUR: 'it returns false'. Refute it at one input. -/
def tidyDoesWrong : ChangeSpec := { name := "tidyDoes", fn := fun _ => fun
  | [d1, d2] => { results := [.lit (.bool false)], args := [d1, d2] }
  | _ => none }
def TidyDoesWrongFalsely : Prop := tidyDoesRow.holds Try.pinned (OpenSpec.ofChange tidyDoesWrong)

/-- 'patchworklaw13.TidyIdle': WHATEVER THE INPUT: true; the input reads as it did. -/
def tidyIdleSpec : ChangeSpec := { name := "tidyIdle", fn := fun _ => fun
  | [d] => { results := [.lit (.bool true)], args := [d] }
  | _ => none }
def tidyIdleRow : OpenClaim := { program := "ytacpejblnjgcoaa", sum := "6039a5738e0b60b23df9e02db073a6a1efe9c0bafc1751b3ca6f32e08dcaf881", func := "patchwork/patchworklaw13.TidyIdle", spec := "tidyIdle", inPlace := ["internal/bytealg.IndexByteString", "internal/bytealg.IndexString"], unfollowed := true, recurses := true, named := ["internal/bytealg.MaxLen"], apart := false }
def TidyIdleSaid : Prop := tidyIdleRow.holds Try.pinned (OpenSpec.ofChange tidyIdleSpec)

/-- ITS FALSE NEIGHBOUR: 'it returns false'. Refute it at one input. -/
def tidyIdleWrong : ChangeSpec := { name := "tidyIdle", fn := fun _ => fun
  | [d] => { results := [.lit (.bool false)], args := [d] }
  | _ => none }
def TidyIdleWrongFalsely : Prop := tidyIdleRow.holds Try.pinned (OpenSpec.ofChange tidyIdleWrong)

/-- 'patchworklaw13.TidyLeast': WHATEVER THE INPUT: true; the input reads as it did. -/
def tidyLeastSpec : ChangeSpec := { name := "tidyLeast", fn := fun _ => fun
  | [d1, d2, d3, d4] => { results := [.lit (.bool true)], args := [d1, d2, d3, d4] }
  | _ => none }
def tidyLeastRow : OpenClaim := { program := "ytacpejblnjgcoaa", sum := "6039a5738e0b60b23df9e02db073a6a1efe9c0bafc1751b3ca6f32e08dcaf881", func := "patchwork/patchworklaw13.TidyLeast", spec := "tidyLeast", inPlace := ["internal/bytealg.IndexByteString", "internal/bytealg.IndexString"], unfollowed := true, recurses := true, named := ["internal/bytealg.MaxLen"], apart := false }
def TidyLeastSaid : Prop := tidyLeastRow.holds Try.pinned (OpenSpec.ofChange tidyLeastSpec)

/-- ITS FALSE NEIGHBOUR: 'it returns false'. Refute it at one input. -/
def tidyLeastWrong : ChangeSpec := { name := "tidyLeast", fn := fun _ => fun
  | [d1, d2, d3, d4] => { results := [.lit (.bool false)], args := [d1, d2, d3, d4] }
  | _ => none }
def TidyLeastWrongFalsely : Prop := tidyLeastRow.holds Try.pinned (OpenSpec.ofChange tidyLeastWrong)

/-- 'patchworklaw17.TrimTells': WHATEVER THE INPUT: true; the input reads as it did. -/
def trimTellsSpec : ChangeSpec := { name := "trimTells", fn := fun _ => fun
  | [d1, d2, d3] => { results := [.lit (.bool true)], args := [d1, d2, d3] }
  | _ => none }
def trimTellsRow : OpenClaim := { program := "ytacpejblnjgcoaa", sum := "6039a5738e0b60b23df9e02db073a6a1efe9c0bafc1751b3ca6f32e08dcaf881", func := "patchwork/patchworklaw17.TrimTells", spec := "trimTells", inPlace := ["internal/bytealg.IndexByteString", "internal/bytealg.IndexString"], unfollowed := true, recurses := true, named := ["internal/bytealg.MaxLen"], apart := false }
def TrimTellsSaid : Prop := trimTellsRow.holds Try.pinned (OpenSpec.ofChange trimTellsSpec)

/-- ITS FALSE NEIGHBOUR: 'it returns false'. Refute it at one input. -/
def trimTellsWrong : ChangeSpec := { name := "trimTells", fn := fun _ => fun
  | [d1, d2, d3] => { results := [.lit (.bool false)], args := [d1, d2, d3] }
  | _ => none }
def TrimTellsWrongFalsely : Prop := trimTellsRow.holds Try.pinned (OpenSpec.ofChange trimTellsWrong)

/-- 'patchworklaw17.TrimDoes': WHATEVER THE INPUT: true; the input reads as it did. -/
def trimDoesSpec : ChangeSpec := { name := "trimDoes", fn := fun _ => fun
  | [d1, d2, d3] => { results := [.lit (.bool true)], args := [d1, d2, d3] }
  | _ => none }
def trimDoesRow : OpenClaim := { program := "ytacpejblnjgcoaa", sum := "6039a5738e0b60b23df9e02db073a6a1efe9c0bafc1751b3ca6f32e08dcaf881", func := "patchwork/patchworklaw17.TrimDoes", spec := "trimDoes", inPlace := ["internal/bytealg.IndexByteString", "internal/bytealg.IndexString"], unfollowed := true, recurses := true, named := ["internal/bytealg.MaxLen"], apart := false }
def TrimDoesSaid : Prop := trimDoesRow.holds Try.pinned (OpenSpec.ofChange trimDoesSpec)

/-- ITS FALSE NEIGHBOUR: 'it returns false'. Refute it at one input. -/
def trimDoesWrong : ChangeSpec := { name := "trimDoes", fn := fun _ => fun
  | [d1, d2, d3] => { results := [.lit (.bool false)], args := [d1, d2, d3] }
  | _ => none }
def TrimDoesWrongFalsely : Prop := trimDoesRow.holds Try.pinned (OpenSpec.ofChange trimDoesWrong)

/-- 'patchworklaw17.TrimTwice': WHATEVER THE INPUT: true; the input reads as it did. -/
def trimTwiceSpec : ChangeSpec := { name := "trimTwice", fn := fun _ => fun
  | [d1, d2, d3] => { results := [.lit (.bool true)], args := [d1, d2, d3] }
  | _ => none }
def trimTwiceRow : OpenClaim := { program := "ytacpejblnjgcoaa", sum := "6039a5738e0b60b23df9e02db073a6a1efe9c0bafc1751b3ca6f32e08dcaf881", func := "patchwork/patchworklaw17.TrimTwice", spec := "trimTwice", inPlace := ["internal/bytealg.IndexByteString", "internal/bytealg.IndexString"], unfollowed := true, recurses := true, named := ["internal/bytealg.MaxLen"], apart := false }
def TrimTwiceSaid : Prop := trimTwiceRow.holds Try.pinned (OpenSpec.ofChange trimTwiceSpec)

/-- ITS FALSE NEIGHBOUR: 'it returns false'. Refute it at one input. -/
def trimTwiceWrong : ChangeSpec := { name := "trimTwice", fn := fun _ => fun
  | [d1, d2, d3] => { results := [.lit (.bool false)], args := [d1, d2, d3] }
  | _ => none }
def TrimTwiceWrongFalsely : Prop := trimTwiceRow.holds Try.pinned (OpenSpec.ofChange trimTwiceWrong)

/-- 'patchworklaw17.TrimGlues': WHATEVER THE INPUT: true; the input reads as it did. -/
def trimGluesSpec : ChangeSpec := { name := "trimGlues", fn := fun _ => fun
  | [d1, d2] => { results := [.lit (.bool true)], args := [d1, d2] }
  | _ => none }
def trimGluesRow : OpenClaim := { program := "ytacpejblnjgcoaa", sum := "6039a5738e0b60b23df9e02db073a6a1efe9c0bafc1751b3ca6f32e08dcaf881", func := "patchwork/patchworklaw17.TrimGlues", spec := "trimGlues", inPlace := ["internal/bytealg.IndexByteString", "internal/bytealg.IndexString"], unfollowed := true, recurses := true, named := ["internal/bytealg.MaxLen"], apart := false }
def TrimGluesSaid : Prop := trimGluesRow.holds Try.pinned (OpenSpec.ofChange trimGluesSpec)

/-- ITS FALSE NEIGHBOUR: 'it returns false'. Refute it at one input. -/
def trimGluesWrong : ChangeSpec := { name := "trimGlues", fn := fun _ => fun
  | [d1, d2] => { results := [.lit (.bool false)], args := [d1, d2] }
  | _ => none }
def TrimGluesWrongFalsely : Prop := trimGluesRow.holds Try.pinned (OpenSpec.ofChange trimGluesWrong)

/-- 'patchworklaw17.TrimAround': WHATEVER THE INPUT: true; the input reads as it did. -/
def trimAroundSpec : ChangeSpec := { name := "trimAround", fn := fun _ => fun
  | [d1, d2, d3] => { results := [.lit (.bool true)], args := [d1, d2, d3] }
  | _ => none }
def trimAroundRow : OpenClaim := { program := "ytacpejblnjgcoaa", sum := "6039a5738e0b60b23df9e02db073a6a1efe9c0bafc1751b3ca6f32e08dcaf881", func := "patchwork/patchworklaw17.TrimAround", spec := "trimAround", inPlace := ["internal/bytealg.IndexByteString", "internal/bytealg.IndexString"], unfollowed := true, recurses := true, named := ["internal/bytealg.MaxLen"], apart := false }
def TrimAroundSaid : Prop := trimAroundRow.holds Try.pinned (OpenSpec.ofChange trimAroundSpec)

/-- ITS FALSE NEIGHBOUR: 'it returns false'. Refute it at one input. -/
def trimAroundWrong : ChangeSpec := { name := "trimAround", fn := fun _ => fun
  | [d1, d2, d3] => { results := [.lit (.bool false)], args := [d1, d2, d3] }
  | _ => none }
def TrimAroundWrongFalsely : Prop := trimAroundRow.holds Try.pinned (OpenSpec.ofChange trimAroundWrong)

/-- 'patchworklaw17.TrimJoins': WHATEVER THE INPUT: true; the input reads as it did. -/
def trimJoinsSpec : ChangeSpec := { name := "trimJoins", fn := fun _ => fun
  | [d1, d2] => { results := [.lit (.bool true)], args := [d1, d2] }
  | _ => none }
def trimJoinsRow : OpenClaim := { program := "ytacpejblnjgcoaa", sum := "6039a5738e0b60b23df9e02db073a6a1efe9c0bafc1751b3ca6f32e08dcaf881", func := "patchwork/patchworklaw17.TrimJoins", spec := "trimJoins", inPlace := ["internal/bytealg.IndexByteString", "internal/bytealg.IndexString"], unfollowed := true, recurses := true, named := ["internal/bytealg.MaxLen"], apart := false }
def TrimJoinsSaid : Prop := trimJoinsRow.holds Try.pinned (OpenSpec.ofChange trimJoinsSpec)

/-- ITS FALSE NEIGHBOUR: 'it returns false'. Refute it at one input. -/
def trimJoinsWrong : ChangeSpec := { name := "trimJoins", fn := fun _ => fun
  | [d1, d2] => { results := [.lit (.bool false)], args := [d1, d2] }
  | _ => none }
def TrimJoinsWrongFalsely : Prop := trimJoinsRow.holds Try.pinned (OpenSpec.ofChange trimJoinsWrong)

/- THE SECOND FORM. 'bulk': how many values and letters a reading holds, each counted each time it is reached (what is shared counts as often as it is met; a slice's spare places count too). A statement '..UptoSaid' is the law's where the arguments, and the package variables that the reading takes, are together of bulk at most 1048576: NARROWER than '..Said'. Prove '..Said' where nothing that the law and all that it calls make is longer than what came in: it says more and counts as full. Else prove '..UptoSaid'. A law counts once. -/
mutual
def uptoBulk {H : Type} : DataW H → Nat
  | .lit (.string bytes) => bytes.length + 1
  | .lit _ => 1
  | .nil => 1
  | .ptr d => uptoBulk d + 1
  | .slice elems spare => uptoBulkAll elems + uptoBulkAll spare + 1
  | .agg parts => uptoBulkAll parts + 1
  | .iface _ d => uptoBulk d + 1
  | .map entries => uptoBulkEntries entries + 1
  | .held _ => 1
def uptoBulkAll {H : Type} : List (DataW H) → Nat
  | [] => 0
  | d :: r => uptoBulk d + uptoBulkAll r
def uptoBulkEntries {H : Type} : List (Lit × DataW H) → Nat
  | [] => 0
  | x :: r => uptoBulkEntry x + uptoBulkEntries r
def uptoBulkEntry {H : Type} : Lit × DataW H → Nat
  | (.string bytes, d) => bytes.length + uptoBulk d + 1
  | (_, d) => uptoBulk d + 1
 end
def uptoSmall : (H : Type) → List (DataW H) → Bool := fun _ ds => decide (uptoBulkAll ds ≤ 1048576)
def OpenSpec.upto (s : _root_.Go.ChangeSpec) : _root_.Go.OpenSpec := { _root_.Go.OpenSpec.ofChange s with cond := some uptoSmall }

/-- 'patchworklaw13.TidyTells', WHERE WHAT IT READS IS OF BULK AT MOST 1048576: true; the input reads as it did. -/
def tidyTellsUptoRow : OpenClaim := { program := "ytacpejblnjgcoaa", sum := "6039a5738e0b60b23df9e02db073a6a1efe9c0bafc1751b3ca6f32e08dcaf881", func := "patchwork/patchworklaw13.TidyTells", spec := "tidyTells", inPlace := ["internal/bytealg.IndexByteString", "internal/bytealg.IndexString"], unfollowed := true, recurses := true, named := ["internal/bytealg.MaxLen"], apart := false, narrowed := true }
def TidyTellsUptoSaid : Prop := tidyTellsUptoRow.holds Try.pinned (OpenSpec.upto tidyTellsSpec)

/-- 'patchworklaw13.TidyDoes', WHERE WHAT IT READS IS OF BULK AT MOST 1048576: true; the input reads as it did. -/
def tidyDoesUptoRow : OpenClaim := { program := "ytacpejblnjgcoaa", sum := "6039a5738e0b60b23df9e02db073a6a1efe9c0bafc1751b3ca6f32e08dcaf881", func := "patchwork/patchworklaw13.TidyDoes", spec := "tidyDoes", inPlace := ["internal/bytealg.IndexByteString", "internal/bytealg.IndexString"], unfollowed := true, recurses := true, named := ["internal/bytealg.MaxLen"], apart := false, narrowed := true }
def TidyDoesUptoSaid : Prop := tidyDoesUptoRow.holds Try.pinned (OpenSpec.upto tidyDoesSpec)

/-- 'patchworklaw13.TidyIdle', WHERE WHAT IT READS IS OF BULK AT MOST 1048576: true; the input reads as it did. -/
def tidyIdleUptoRow : OpenClaim := { program := "ytacpejblnjgcoaa", sum := "6039a5738e0b60b23df9e02db073a6a1efe9c0bafc1751b3ca6f32e08dcaf881", func := "patchwork/patchworklaw13.TidyIdle", spec := "tidyIdle", inPlace := ["internal/bytealg.IndexByteString", "internal/bytealg.IndexString"], unfollowed := true, recurses := true, named := ["internal/bytealg.MaxLen"], apart := false, narrowed := true }
def TidyIdleUptoSaid : Prop := tidyIdleUptoRow.holds Try.pinned (OpenSpec.upto tidyIdleSpec)

/-- 'patchworklaw13.TidyLeast', WHERE WHAT IT READS IS OF BULK AT MOST 1048576: true; the input reads as it did. -/
def tidyLeastUptoRow : OpenClaim := { program := "ytacpejblnjgcoaa", sum := "6039a5738e0b60b23df9e02db073a6a1efe9c0bafc1751b3ca6f32e08dcaf881", func := "patchwork/patchworklaw13.TidyLeast", spec := "tidyLeast", inPlace := ["internal/bytealg.IndexByteString", "internal/bytealg.IndexString"], unfollowed := true, recurses := true, named := ["internal/bytealg.MaxLen"], apart := false, narrowed := true }
def TidyLeastUptoSaid : Prop := tidyLeastUptoRow.holds Try.pinned (OpenSpec.upto tidyLeastSpec)

/-- 'patchworklaw17.TrimTells', WHERE WHAT IT READS IS OF BULK AT MOST 1048576: true; the input reads as it did. -/
def trimTellsUptoRow : OpenClaim := { program := "ytacpejblnjgcoaa", sum := "6039a5738e0b60b23df9e02db073a6a1efe9c0bafc1751b3ca6f32e08dcaf881", func := "patchwork/patchworklaw17.TrimTells", spec := "trimTells", inPlace := ["internal/bytealg.IndexByteString", "internal/bytealg.IndexString"], unfollowed := true, recurses := true, named := ["internal/bytealg.MaxLen"], apart := false, narrowed := true }
def TrimTellsUptoSaid : Prop := trimTellsUptoRow.holds Try.pinned (OpenSpec.upto trimTellsSpec)

/-- 'patchworklaw17.TrimDoes', WHERE WHAT IT READS IS OF BULK AT MOST 1048576: true; the input reads as it did. -/
def trimDoesUptoRow : OpenClaim := { program := "ytacpejblnjgcoaa", sum := "6039a5738e0b60b23df9e02db073a6a1efe9c0bafc1751b3ca6f32e08dcaf881", func := "patchwork/patchworklaw17.TrimDoes", spec := "trimDoes", inPlace := ["internal/bytealg.IndexByteString", "internal/bytealg.IndexString"], unfollowed := true, recurses := true, named := ["internal/bytealg.MaxLen"], apart := false, narrowed := true }
def TrimDoesUptoSaid : Prop := trimDoesUptoRow.holds Try.pinned (OpenSpec.upto trimDoesSpec)

/-- 'patchworklaw17.TrimTwice', WHERE WHAT IT READS IS OF BULK AT MOST 1048576: true; the input reads as it did. -/
def trimTwiceUptoRow : OpenClaim := { program := "ytacpejblnjgcoaa", sum := "6039a5738e0b60b23df9e02db073a6a1efe9c0bafc1751b3ca6f32e08dcaf881", func := "patchwork/patchworklaw17.TrimTwice", spec := "trimTwice", inPlace := ["internal/bytealg.IndexByteString", "internal/bytealg.IndexString"], unfollowed := true, recurses := true, named := ["internal/bytealg.MaxLen"], apart := false, narrowed := true }
def TrimTwiceUptoSaid : Prop := trimTwiceUptoRow.holds Try.pinned (OpenSpec.upto trimTwiceSpec)

/-- 'patchworklaw17.TrimGlues', WHERE WHAT IT READS IS OF BULK AT MOST 1048576: true; the input reads as it did. -/
def trimGluesUptoRow : OpenClaim := { program := "ytacpejblnjgcoaa", sum := "6039a5738e0b60b23df9e02db073a6a1efe9c0bafc1751b3ca6f32e08dcaf881", func := "patchwork/patchworklaw17.TrimGlues", spec := "trimGlues", inPlace := ["internal/bytealg.IndexByteString", "internal/bytealg.IndexString"], unfollowed := true, recurses := true, named := ["internal/bytealg.MaxLen"], apart := false, narrowed := true }
def TrimGluesUptoSaid : Prop := trimGluesUptoRow.holds Try.pinned (OpenSpec.upto trimGluesSpec)

/-- 'patchworklaw17.TrimAround', WHERE WHAT IT READS IS OF BULK AT MOST 1048576: true; the input reads as it did. -/
def trimAroundUptoRow : OpenClaim := { program := "ytacpejblnjgcoaa", sum := "6039a5738e0b60b23df9e02db073a6a1efe9c0bafc1751b3ca6f32e08dcaf881", func := "patchwork/patchworklaw17.TrimAround", spec := "trimAround", inPlace := ["internal/bytealg.IndexByteString", "internal/bytealg.IndexString"], unfollowed := true, recurses := true, named := ["internal/bytealg.MaxLen"], apart := false, narrowed := true }
def TrimAroundUptoSaid : Prop := trimAroundUptoRow.holds Try.pinned (OpenSpec.upto trimAroundSpec)

/-- 'patchworklaw17.TrimJoins', WHERE WHAT IT READS IS OF BULK AT MOST 1048576: true; the input reads as it did. -/
def trimJoinsUptoRow : OpenClaim := { program := "ytacpejblnjgcoaa", sum := "6039a5738e0b60b23df9e02db073a6a1efe9c0bafc1751b3ca6f32e08dcaf881", func := "patchwork/patchworklaw17.TrimJoins", spec := "trimJoins", inPlace := ["internal/bytealg.IndexByteString", "internal/bytealg.IndexString"], unfollowed := true, recurses := true, named := ["internal/bytealg.MaxLen"], apart := false, narrowed := true }
def TrimJoinsUptoSaid : Prop := trimJoinsUptoRow.holds Try.pinned (OpenSpec.upto trimJoinsSpec)

end Rows
end Go.Proofs.Ytacpejblnjgcoaa
