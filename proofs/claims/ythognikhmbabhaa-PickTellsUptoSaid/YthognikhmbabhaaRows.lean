/-
  No cell of these rows narrows 'for every input' (looked for: loops, veiled, ifaces, maps, wideKeys, modest, calm, conditions, laid).
  DERIVED. THE GIVEN ROWS OF THIS SEAT. 9 by the template 'for every input the law returns true; each argument reads behind the call as it read before'; 0 by the template 'total and deterministic' (their statements: YthognikhmbabhaaTotals.lean).
  GIVEN WITH THE SEED: the statements are not yours to turn. If you find one false, say at which input.
  Laid BY PROGRAM, IN A SANDBOX (cutbox-rows.mjs): the forced cells as the released guide's own fill.sh prints them over the translation 31fbc7c930a05994… (all of the seat's roots in one cut). By AI agents, Wed Nov 11 2026. No macro, syntax, notation, axiom, sorry.
-/
import Derived.Test.YthognikhmbabhaaChecked
import GoSem.Claim
import GoSem.ClaimJoined
import GoSem.ClaimMapViews
import Derived.JoinedTies
import Derived.KernelRfl
namespace Go.Proofs.Ythognikhmbabhaa
/- THE CELL 'sum', in the pinned program and in every row, IS THE sha256 OF THE DUMP (.gsa) THAT YthognikhmbabhaaProg.lean LOADS. Nothing in Lean hashes anything: it is a label: what it is worth is what the hold of that sum in a sandbox is worth. -/
noncomputable def Try.pinned : Pinned := { name := "ythognikhmbabhaa", sum := "31fbc7c930a059941c63066289b70f48109c2b7c69e25ce313b58329d76b0838", checked := Try.checked }
namespace Rows
def none {H : Type} : Left H := { results := [], args := [] }

/-- 'patchworklaw10.FlipTells': WHATEVER THE INPUT: true; the input reads as it did. -/
def flipTellsSpec : ChangeSpec := { name := "flipTells", fn := fun _ => fun
  | [d] => { results := [.lit (.bool true)], args := [d] }
  | _ => none }
def flipTellsRow : OpenClaim := { program := "ythognikhmbabhaa", sum := "31fbc7c930a059941c63066289b70f48109c2b7c69e25ce313b58329d76b0838", func := "patchwork/patchworklaw10.FlipTells", spec := "flipTells", inPlace := ["internal/bytealg.IndexByteString", "internal/bytealg.IndexString"], unfollowed := true, recurses := true, named := ["internal/bytealg.MaxLen"], apart := false }
def FlipTellsSaid : Prop := flipTellsRow.holds Try.pinned (OpenSpec.ofChange flipTellsSpec)

/-- ITS FALSE NEIGHBOUR: 'it returns false'. Refute it at one input. -/
def flipTellsWrong : ChangeSpec := { name := "flipTells", fn := fun _ => fun
  | [d] => { results := [.lit (.bool false)], args := [d] }
  | _ => none }
def FlipTellsWrongFalsely : Prop := flipTellsRow.holds Try.pinned (OpenSpec.ofChange flipTellsWrong)

/-- 'patchworklaw10.FlipTwice': WHATEVER THE INPUT: true; the input reads as it did. -/
def flipTwiceSpec : ChangeSpec := { name := "flipTwice", fn := fun _ => fun
  | [d] => { results := [.lit (.bool true)], args := [d] }
  | _ => none }
def flipTwiceRow : OpenClaim := { program := "ythognikhmbabhaa", sum := "31fbc7c930a059941c63066289b70f48109c2b7c69e25ce313b58329d76b0838", func := "patchwork/patchworklaw10.FlipTwice", spec := "flipTwice", inPlace := ["internal/bytealg.IndexByteString", "internal/bytealg.IndexString"], unfollowed := true, recurses := true, named := ["internal/bytealg.MaxLen"], apart := false }
def FlipTwiceSaid : Prop := flipTwiceRow.holds Try.pinned (OpenSpec.ofChange flipTwiceSpec)

/-- ITS FALSE NEIGHBOUR: 'it returns false'. Refute it at one input. -/
def flipTwiceWrong : ChangeSpec := { name := "flipTwice", fn := fun _ => fun
  | [d] => { results := [.lit (.bool false)], args := [d] }
  | _ => none }
def FlipTwiceWrongFalsely : Prop := flipTwiceRow.holds Try.pinned (OpenSpec.ofChange flipTwiceWrong)

/-- 'patchworklaw10.FlipUndoes': WHATEVER THE INPUT: true; the input reads as it did. -/
def flipUndoesSpec : ChangeSpec := { name := "flipUndoes", fn := fun _ => fun
  | [d1, d2] => { results := [.lit (.bool true)], args := [d1, d2] }
  | _ => none }
def flipUndoesRow : OpenClaim := { program := "ythognikhmbabhaa", sum := "31fbc7c930a059941c63066289b70f48109c2b7c69e25ce313b58329d76b0838", func := "patchwork/patchworklaw10.FlipUndoes", spec := "flipUndoes", inPlace := ["internal/bytealg.IndexByteString", "internal/bytealg.IndexString"], unfollowed := true, recurses := true, named := ["internal/bytealg.MaxLen"], apart := false }
def FlipUndoesSaid : Prop := flipUndoesRow.holds Try.pinned (OpenSpec.ofChange flipUndoesSpec)

/-- ITS FALSE NEIGHBOUR: 'it returns false'. Refute it at one input. -/
def flipUndoesWrong : ChangeSpec := { name := "flipUndoes", fn := fun _ => fun
  | [d1, d2] => { results := [.lit (.bool false)], args := [d1, d2] }
  | _ => none }
def FlipUndoesWrongFalsely : Prop := flipUndoesRow.holds Try.pinned (OpenSpec.ofChange flipUndoesWrong)

/-- 'patchworklaw10.FlipEach': WHATEVER THE INPUT: true; the input reads as it did. -/
def flipEachSpec : ChangeSpec := { name := "flipEach", fn := fun _ => fun
  | [d] => { results := [.lit (.bool true)], args := [d] }
  | _ => none }
def flipEachRow : OpenClaim := { program := "ythognikhmbabhaa", sum := "31fbc7c930a059941c63066289b70f48109c2b7c69e25ce313b58329d76b0838", func := "patchwork/patchworklaw10.FlipEach", spec := "flipEach", inPlace := ["internal/bytealg.IndexByteString", "internal/bytealg.IndexString"], unfollowed := true, recurses := true, named := ["internal/bytealg.MaxLen"], apart := false }
def FlipEachSaid : Prop := flipEachRow.holds Try.pinned (OpenSpec.ofChange flipEachSpec)

/-- ITS FALSE NEIGHBOUR: 'it returns false'. Refute it at one input. -/
def flipEachWrong : ChangeSpec := { name := "flipEach", fn := fun _ => fun
  | [d] => { results := [.lit (.bool false)], args := [d] }
  | _ => none }
def FlipEachWrongFalsely : Prop := flipEachRow.holds Try.pinned (OpenSpec.ofChange flipEachWrong)

/-- 'patchworklaw16.PickTells': WHATEVER THE INPUT: true; the input reads as it did. -/
def pickTellsSpec : ChangeSpec := { name := "pickTells", fn := fun _ => fun
  | [d1, d2] => { results := [.lit (.bool true)], args := [d1, d2] }
  | _ => none }
def pickTellsRow : OpenClaim := { program := "ythognikhmbabhaa", sum := "31fbc7c930a059941c63066289b70f48109c2b7c69e25ce313b58329d76b0838", func := "patchwork/patchworklaw16.PickTells", spec := "pickTells", inPlace := ["internal/bytealg.IndexByteString", "internal/bytealg.IndexString"], unfollowed := true, recurses := true, named := ["internal/bytealg.MaxLen"], apart := false }
def PickTellsSaid : Prop := pickTellsRow.holds Try.pinned (OpenSpec.ofChange pickTellsSpec)

/-- ITS FALSE NEIGHBOUR: 'it returns false'. Refute it at one input. -/
def pickTellsWrong : ChangeSpec := { name := "pickTells", fn := fun _ => fun
  | [d1, d2] => { results := [.lit (.bool false)], args := [d1, d2] }
  | _ => none }
def PickTellsWrongFalsely : Prop := pickTellsRow.holds Try.pinned (OpenSpec.ofChange pickTellsWrong)

/-- 'patchworklaw16.PickDoes': WHATEVER THE INPUT: true; the input reads as it did. -/
def pickDoesSpec : ChangeSpec := { name := "pickDoes", fn := fun _ => fun
  | [d1, d2, d3] => { results := [.lit (.bool true)], args := [d1, d2, d3] }
  | _ => none }
def pickDoesRow : OpenClaim := { program := "ythognikhmbabhaa", sum := "31fbc7c930a059941c63066289b70f48109c2b7c69e25ce313b58329d76b0838", func := "patchwork/patchworklaw16.PickDoes", spec := "pickDoes", inPlace := ["internal/bytealg.IndexByteString", "internal/bytealg.IndexString"], unfollowed := true, recurses := true, named := ["internal/bytealg.MaxLen"], apart := false }
def PickDoesSaid : Prop := pickDoesRow.holds Try.pinned (OpenSpec.ofChange pickDoesSpec)

/-- ITS FALSE NEIGHBOUR: 'it returns false'. Refute it at one input. -/
def pickDoesWrong : ChangeSpec := { name := "pickDoes", fn := fun _ => fun
  | [d1, d2, d3] => { results := [.lit (.bool false)], args := [d1, d2, d3] }
  | _ => none }
def PickDoesWrongFalsely : Prop := pickDoesRow.holds Try.pinned (OpenSpec.ofChange pickDoesWrong)

/-- 'patchworklaw16.PickAll': WHATEVER THE INPUT: true; the input reads as it did. -/
def pickAllSpec : ChangeSpec := { name := "pickAll", fn := fun _ => fun
  | [d1, d2] => { results := [.lit (.bool true)], args := [d1, d2] }
  | _ => none }
def pickAllRow : OpenClaim := { program := "ythognikhmbabhaa", sum := "31fbc7c930a059941c63066289b70f48109c2b7c69e25ce313b58329d76b0838", func := "patchwork/patchworklaw16.PickAll", spec := "pickAll", inPlace := ["internal/bytealg.IndexByteString", "internal/bytealg.IndexString"], unfollowed := true, recurses := true, named := ["internal/bytealg.MaxLen"], apart := false }
def PickAllSaid : Prop := pickAllRow.holds Try.pinned (OpenSpec.ofChange pickAllSpec)

/-- ITS FALSE NEIGHBOUR: 'it returns false'. Refute it at one input. -/
def pickAllWrong : ChangeSpec := { name := "pickAll", fn := fun _ => fun
  | [d1, d2] => { results := [.lit (.bool false)], args := [d1, d2] }
  | _ => none }
def PickAllWrongFalsely : Prop := pickAllRow.holds Try.pinned (OpenSpec.ofChange pickAllWrong)

/-- 'patchworklaw16.PickRows': WHATEVER THE INPUT: true; the input reads as it did. -/
def pickRowsSpec : ChangeSpec := { name := "pickRows", fn := fun _ => fun
  | [d] => { results := [.lit (.bool true)], args := [d] }
  | _ => none }
def pickRowsRow : OpenClaim := { program := "ythognikhmbabhaa", sum := "31fbc7c930a059941c63066289b70f48109c2b7c69e25ce313b58329d76b0838", func := "patchwork/patchworklaw16.PickRows", spec := "pickRows", inPlace := ["internal/bytealg.IndexByteString", "internal/bytealg.IndexString"], unfollowed := true, recurses := true, named := ["internal/bytealg.MaxLen"], apart := false }
def PickRowsSaid : Prop := pickRowsRow.holds Try.pinned (OpenSpec.ofChange pickRowsSpec)

/-- ITS FALSE NEIGHBOUR: 'it returns false'. Refute it at one input. -/
def pickRowsWrong : ChangeSpec := { name := "pickRows", fn := fun _ => fun
  | [d] => { results := [.lit (.bool false)], args := [d] }
  | _ => none }
def PickRowsWrongFalsely : Prop := pickRowsRow.holds Try.pinned (OpenSpec.ofChange pickRowsWrong)

/-- 'patchworklaw16.PickParts': WHATEVER THE INPUT: true; the input reads as it did. -/
def pickPartsSpec : ChangeSpec := { name := "pickParts", fn := fun _ => fun
  | [d1, d2, d3] => { results := [.lit (.bool true)], args := [d1, d2, d3] }
  | _ => none }
def pickPartsRow : OpenClaim := { program := "ythognikhmbabhaa", sum := "31fbc7c930a059941c63066289b70f48109c2b7c69e25ce313b58329d76b0838", func := "patchwork/patchworklaw16.PickParts", spec := "pickParts", inPlace := ["internal/bytealg.IndexByteString", "internal/bytealg.IndexString"], unfollowed := true, recurses := true, named := ["internal/bytealg.MaxLen"], apart := false }
def PickPartsSaid : Prop := pickPartsRow.holds Try.pinned (OpenSpec.ofChange pickPartsSpec)

/-- ITS FALSE NEIGHBOUR: 'it returns false'. Refute it at one input. -/
def pickPartsWrong : ChangeSpec := { name := "pickParts", fn := fun _ => fun
  | [d1, d2, d3] => { results := [.lit (.bool false)], args := [d1, d2, d3] }
  | _ => none }
def PickPartsWrongFalsely : Prop := pickPartsRow.holds Try.pinned (OpenSpec.ofChange pickPartsWrong)

/- THE SECOND FORM. 'bulk': how many values and letters a reading holds, each counted each time it is reached (what is shared counts as often as it is met; a slice's spare places count too). A statement '..UptoSaid' is the law's where the arguments, and the package variables that the reading takes, are together of bulk at most 1048576: NARROWER than '..Said'. Prove '..Said' where nothing that the law and all that it calls make is longer than what came in: it says more and counts as full. Else prove '..UptoSaid'. A law counts once. -/
mutual
def uptoBulk {H : Type} : DataW H → Nat
  | .lit (.string bytes) => bytes.length + 1
  | .lit _ => 1
  | .nil => 1
  | .ptr d => uptoBulk d + 1
  | .slice elems spare => uptoBulkAll elems + uptoBulkAll spare + 1
  | .agg parts => uptoBulkAll parts + 1
  | .iface _ d => uptoBulk d + 1
  | .map entries => uptoBulkEntries entries + 1
  | .held _ => 1
def uptoBulkAll {H : Type} : List (DataW H) → Nat
  | [] => 0
  | d :: r => uptoBulk d + uptoBulkAll r
def uptoBulkEntries {H : Type} : List (Lit × DataW H) → Nat
  | [] => 0
  | x :: r => uptoBulkEntry x + uptoBulkEntries r
def uptoBulkEntry {H : Type} : Lit × DataW H → Nat
  | (.string bytes, d) => bytes.length + uptoBulk d + 1
  | (_, d) => uptoBulk d + 1
 end
def uptoSmall : (H : Type) → List (DataW H) → Bool := fun _ ds => decide (uptoBulkAll ds ≤ 1048576)
def OpenSpec.upto (s : _root_.Go.ChangeSpec) : _root_.Go.OpenSpec := { _root_.Go.OpenSpec.ofChange s with cond := some uptoSmall }

/-- 'patchworklaw10.FlipTells', WHERE WHAT IT READS IS OF BULK AT MOST 1048576: true; the input reads as it did. -/
def flipTellsUptoRow : OpenClaim := { program := "ythognikhmbabhaa", sum := "31fbc7c930a059941c63066289b70f48109c2b7c69e25ce313b58329d76b0838", func := "patchwork/patchworklaw10.FlipTells", spec := "flipTells", inPlace := ["internal/bytealg.IndexByteString", "internal/bytealg.IndexString"], unfollowed := true, recurses := true, named := ["internal/bytealg.MaxLen"], apart := false, narrowed := true }
def FlipTellsUptoSaid : Prop := flipTellsUptoRow.holds Try.pinned (OpenSpec.upto flipTellsSpec)

/-- 'patchworklaw10.FlipTwice', WHERE WHAT IT READS IS OF BULK AT MOST 1048576: true; the input reads as it did. -/
def flipTwiceUptoRow : OpenClaim := { program := "ythognikhmbabhaa", sum := "31fbc7c930a059941c63066289b70f48109c2b7c69e25ce313b58329d76b0838", func := "patchwork/patchworklaw10.FlipTwice", spec := "flipTwice", inPlace := ["internal/bytealg.IndexByteString", "internal/bytealg.IndexString"], unfollowed := true, recurses := true, named := ["internal/bytealg.MaxLen"], apart := false, narrowed := true }
def FlipTwiceUptoSaid : Prop := flipTwiceUptoRow.holds Try.pinned (OpenSpec.upto flipTwiceSpec)

/-- 'patchworklaw10.FlipUndoes', WHERE WHAT IT READS IS OF BULK AT MOST 1048576: true; the input reads as it did. -/
def flipUndoesUptoRow : OpenClaim := { program := "ythognikhmbabhaa", sum := "31fbc7c930a059941c63066289b70f48109c2b7c69e25ce313b58329d76b0838", func := "patchwork/patchworklaw10.FlipUndoes", spec := "flipUndoes", inPlace := ["internal/bytealg.IndexByteString", "internal/bytealg.IndexString"], unfollowed := true, recurses := true, named := ["internal/bytealg.MaxLen"], apart := false, narrowed := true }
def FlipUndoesUptoSaid : Prop := flipUndoesUptoRow.holds Try.pinned (OpenSpec.upto flipUndoesSpec)

/-- 'patchworklaw10.FlipEach', WHERE WHAT IT READS IS OF BULK AT MOST 1048576: true; the input reads as it did. -/
def flipEachUptoRow : OpenClaim := { program := "ythognikhmbabhaa", sum := "31fbc7c930a059941c63066289b70f48109c2b7c69e25ce313b58329d76b0838", func := "patchwork/patchworklaw10.FlipEach", spec := "flipEach", inPlace := ["internal/bytealg.IndexByteString", "internal/bytealg.IndexString"], unfollowed := true, recurses := true, named := ["internal/bytealg.MaxLen"], apart := false, narrowed := true }
def FlipEachUptoSaid : Prop := flipEachUptoRow.holds Try.pinned (OpenSpec.upto flipEachSpec)

/-- 'patchworklaw16.PickTells', WHERE WHAT IT READS IS OF BULK AT MOST 1048576: true; the input reads as it did. -/
def pickTellsUptoRow : OpenClaim := { program := "ythognikhmbabhaa", sum := "31fbc7c930a059941c63066289b70f48109c2b7c69e25ce313b58329d76b0838", func := "patchwork/patchworklaw16.PickTells", spec := "pickTells", inPlace := ["internal/bytealg.IndexByteString", "internal/bytealg.IndexString"], unfollowed := true, recurses := true, named := ["internal/bytealg.MaxLen"], apart := false, narrowed := true }
def PickTellsUptoSaid : Prop := pickTellsUptoRow.holds Try.pinned (OpenSpec.upto pickTellsSpec)

/-- 'patchworklaw16.PickDoes', WHERE WHAT IT READS IS OF BULK AT MOST 1048576: true; the input reads as it did. -/
def pickDoesUptoRow : OpenClaim := { program := "ythognikhmbabhaa", sum := "31fbc7c930a059941c63066289b70f48109c2b7c69e25ce313b58329d76b0838", func := "patchwork/patchworklaw16.PickDoes", spec := "pickDoes", inPlace := ["internal/bytealg.IndexByteString", "internal/bytealg.IndexString"], unfollowed := true, recurses := true, named := ["internal/bytealg.MaxLen"], apart := false, narrowed := true }
def PickDoesUptoSaid : Prop := pickDoesUptoRow.holds Try.pinned (OpenSpec.upto pickDoesSpec)

/-- 'patchworklaw16.PickAll', WHERE WHAT IT READS IS OF BULK AT MOST 1048576: true; the input reads as it did. -/
def pickAllUptoRow : OpenClaim := { program := "ythognikhmbabhaa", sum := "31fbc7c930a059941c63066289b70f48109c2b7c69e25ce313b58329d76b0838", func := "patchwork/patchworklaw16.PickAll", spec := "pickAll", inPlace := ["internal/bytealg.IndexByteString", "internal/bytealg.IndexString"], unfollowed := true, recurses := true, named := ["internal/bytealg.MaxLen"], apart := false, narrowed := true }
def PickAllUptoSaid : Prop := pickAllUptoRow.holds Try.pinned (OpenSpec.upto pickAllSpec)

/-- 'patchworklaw16.PickRows', WHERE WHAT IT READS IS OF BULK AT MOST 1048576: true; the input reads as it did. -/
def pickRowsUptoRow : OpenClaim := { program := "ythognikhmbabhaa", sum := "31fbc7c930a059941c63066289b70f48109c2b7c69e25ce313b58329d76b0838", func := "patchwork/patchworklaw16.PickRows", spec := "pickRows", inPlace := ["internal/bytealg.IndexByteString", "internal/bytealg.IndexString"], unfollowed := true, recurses := true, named := ["internal/bytealg.MaxLen"], apart := false, narrowed := true }
def PickRowsUptoSaid : Prop := pickRowsUptoRow.holds Try.pinned (OpenSpec.upto pickRowsSpec)

/-- 'patchworklaw16.PickParts', WHERE WHAT IT READS IS OF BULK AT MOST 1048576: true; the input reads as it did. -/
def pickPartsUptoRow : OpenClaim := { program := "ythognikhmbabhaa", sum := "31fbc7c930a059941c63066289b70f48109c2b7c69e25ce313b58329d76b0838", func := "patchwork/patchworklaw16.PickParts", spec := "pickParts", inPlace := ["internal/bytealg.IndexByteString", "internal/bytealg.IndexString"], unfollowed := true, recurses := true, named := ["internal/bytealg.MaxLen"], apart := false, narrowed := true }
def PickPartsUptoSaid : Prop := pickPartsUptoRow.holds Try.pinned (OpenSpec.upto pickPartsSpec)

end Rows
end Go.Proofs.Ythognikhmbabhaa
