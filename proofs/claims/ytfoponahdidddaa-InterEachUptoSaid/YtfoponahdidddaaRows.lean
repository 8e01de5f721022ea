/-
  No cell of these rows narrows 'for every input' (looked for: loops, veiled, ifaces, maps, wideKeys, modest, calm, conditions, laid).
  DERIVED. THE GIVEN ROWS OF THIS SEAT. 11 by the template 'for every input the law returns true; each argument reads behind the call as it read before'; 0 by the template 'total and deterministic' (their statements: YtfoponahdidddaaTotals.lean).
  GIVEN WITH THE SEED: the statements are not yours to turn. If you find one false, say at which input.
  Laid BY PROGRAM, IN A SANDBOX (cutbox-rows.mjs): the forced cells as the released guide's own fill.sh prints them over the translation fcacd28fcc15558a… (all of the seat's roots in one cut). By AI agents, Wed Nov 11 2026. No macro, syntax, notation, axiom, sorry.
-/
import Derived.Test.YtfoponahdidddaaChecked
import GoSem.Claim
import GoSem.ClaimJoined
import GoSem.ClaimMapViews
import Derived.JoinedTies
import Derived.KernelRfl
namespace Go.Proofs.Ytfoponahdidddaa
/- THE CELL 'sum', in the pinned program and in every row, IS THE sha256 OF THE DUMP (.gsa) THAT YtfoponahdidddaaProg.lean LOADS. Nothing in Lean hashes anything: it is a label: what it is worth is what the hold of that sum in a sandbox is worth. -/
noncomputable def Try.pinned : Pinned := { name := "ytfoponahdidddaa", sum := "fcacd28fcc15558a9b4566fbe0f6791a2195efb086030245d2daee5d53071360", checked := Try.checked }
namespace Rows
def none {H : Type} : Left H := { results := [], args := [] }

/-- 'patchworklaw15.SwapTells': WHATEVER THE INPUT: true; the input reads as it did. -/
def swapTellsSpec : ChangeSpec := { name := "swapTells", fn := fun _ => fun
  | [d1, d2] => { results := [.lit (.bool true)], args := [d1, d2] }
  | _ => none }
def swapTellsRow : OpenClaim := { program := "ytfoponahdidddaa", sum := "fcacd28fcc15558a9b4566fbe0f6791a2195efb086030245d2daee5d53071360", func := "patchwork/patchworklaw15.SwapTells", spec := "swapTells", inPlace := ["internal/bytealg.IndexByteString", "internal/bytealg.IndexString"], unfollowed := true, recurses := true, named := ["internal/bytealg.MaxLen"], apart := false }
def SwapTellsSaid : Prop := swapTellsRow.holds Try.pinned (OpenSpec.ofChange swapTellsSpec)

/-- ITS FALSE NEIGHBOUR: 'it returns false'. Refute it at one input. -/
def swapTellsWrong : ChangeSpec := { name := "swapTells", fn := fun _ => fun
  | [d1, d2] => { results := [.lit (.bool false)], args := [d1, d2] }
  | _ => none }
def SwapTellsWrongFalsely : Prop := swapTellsRow.holds Try.pinned (OpenSpec.ofChange swapTellsWrong)

/-- 'patchworklaw15.SwapDoes': WHATEVER THE INPUT: true; the input reads as it did. -/
def swapDoesSpec : ChangeSpec := { name := "swapDoes", fn := fun _ => fun
  | [d1, d2, d3] => { results := [.lit (.bool true)], args := [d1, d2, d3] }
  | _ => none }
def swapDoesRow : OpenClaim := { program := "ytfoponahdidddaa", sum := "fcacd28fcc15558a9b4566fbe0f6791a2195efb086030245d2daee5d53071360", func := "patchwork/patchworklaw15.SwapDoes", spec := "swapDoes", inPlace := ["internal/bytealg.IndexByteString", "internal/bytealg.IndexString"], unfollowed := true, recurses := true, named := ["internal/bytealg.MaxLen"], apart := false }
def SwapDoesSaid : Prop := swapDoesRow.holds Try.pinned (OpenSpec.ofChange swapDoesSpec)

/-- ITS FALSE NEIGHBOUR: 'it returns false'. Refute it at one input. -/
def swapDoesWrong : ChangeSpec := { name := "swapDoes", fn := fun _ => fun
  | [d1, d2, d3] => { results := [.lit (.bool false)], args := [d1, d2, d3] }
  | _ => none }
def SwapDoesWrongFalsely : Prop := swapDoesRow.holds Try.pinned (OpenSpec.ofChange swapDoesWrong)

/-- 'patchworklaw15.SwapKeeps': WHATEVER THE INPUT: true; the input reads as it did. -/
def swapKeepsSpec : ChangeSpec := { name := "swapKeeps", fn := fun _ => fun
  | [d1, d2] => { results := [.lit (.bool true)], args := [d1, d2] }
  | _ => none }
def swapKeepsRow : OpenClaim := { program := "ytfoponahdidddaa", sum := "fcacd28fcc15558a9b4566fbe0f6791a2195efb086030245d2daee5d53071360", func := "patchwork/patchworklaw15.SwapKeeps", spec := "swapKeeps", inPlace := ["internal/bytealg.IndexByteString", "internal/bytealg.IndexString"], unfollowed := true, recurses := true, named := ["internal/bytealg.MaxLen"], apart := false }
def SwapKeepsSaid : Prop := swapKeepsRow.holds Try.pinned (OpenSpec.ofChange swapKeepsSpec)

/-- ITS FALSE NEIGHBOUR: 'it returns false'. Refute it at one input. -/
def swapKeepsWrong : ChangeSpec := { name := "swapKeeps", fn := fun _ => fun
  | [d1, d2] => { results := [.lit (.bool false)], args := [d1, d2] }
  | _ => none }
def SwapKeepsWrongFalsely : Prop := swapKeepsRow.holds Try.pinned (OpenSpec.ofChange swapKeepsWrong)

/-- 'patchworklaw15.SwapBack': WHATEVER THE INPUT: true; the input reads as it did. -/
def swapBackSpec : ChangeSpec := { name := "swapBack", fn := fun _ => fun
  | [d1, d2] => { results := [.lit (.bool true)], args := [d1, d2] }
  | _ => none }
def swapBackRow : OpenClaim := { program := "ytfoponahdidddaa", sum := "fcacd28fcc15558a9b4566fbe0f6791a2195efb086030245d2daee5d53071360", func := "patchwork/patchworklaw15.SwapBack", spec := "swapBack", inPlace := ["internal/bytealg.IndexByteString", "internal/bytealg.IndexString"], unfollowed := true, recurses := true, named := ["internal/bytealg.MaxLen"], apart := false }
def SwapBackSaid : Prop := swapBackRow.holds Try.pinned (OpenSpec.ofChange swapBackSpec)

/-- ITS FALSE NEIGHBOUR: 'it returns false'. Refute it at one input. -/
def swapBackWrong : ChangeSpec := { name := "swapBack", fn := fun _ => fun
  | [d1, d2] => { results := [.lit (.bool false)], args := [d1, d2] }
  | _ => none }
def SwapBackWrongFalsely : Prop := swapBackRow.holds Try.pinned (OpenSpec.ofChange swapBackWrong)

/-- 'patchworklaw15.SwapNear': WHATEVER THE INPUT: true; the input reads as it did. -/
def swapNearSpec : ChangeSpec := { name := "swapNear", fn := fun _ => fun
  | [d1, d2, d3] => { results := [.lit (.bool true)], args := [d1, d2, d3] }
  | _ => none }
def swapNearRow : OpenClaim := { program := "ytfoponahdidddaa", sum := "fcacd28fcc15558a9b4566fbe0f6791a2195efb086030245d2daee5d53071360", func := "patchwork/patchworklaw15.SwapNear", spec := "swapNear", inPlace := ["internal/bytealg.IndexByteString", "internal/bytealg.IndexString"], unfollowed := true, recurses := true, named := ["internal/bytealg.MaxLen"], apart := false }
def SwapNearSaid : Prop := swapNearRow.holds Try.pinned (OpenSpec.ofChange swapNearSpec)

/-- ITS FALSE NEIGHBOUR: 'it returns false'. Refute it at one input. -/
def swapNearWrong : ChangeSpec := { name := "swapNear", fn := fun _ => fun
  | [d1, d2, d3] => { results := [.lit (.bool false)], args := [d1, d2, d3] }
  | _ => none }
def SwapNearWrongFalsely : Prop := swapNearRow.holds Try.pinned (OpenSpec.ofChange swapNearWrong)

/-- 'patchworklaw15.SwapApart': WHATEVER THE INPUT: true; the input reads as it did. -/
def swapApartSpec : ChangeSpec := { name := "swapApart", fn := fun _ => fun
  | [d1, d2, d3, d4, d5] => { results := [.lit (.bool true)], args := [d1, d2, d3, d4, d5] }
  | _ => none }
def swapApartRow : OpenClaim := { program := "ytfoponahdidddaa", sum := "fcacd28fcc15558a9b4566fbe0f6791a2195efb086030245d2daee5d53071360", func := "patchwork/patchworklaw15.SwapApart", spec := "swapApart", inPlace := ["internal/bytealg.IndexByteString", "internal/bytealg.IndexString"], unfollowed := true, recurses := true, named := ["internal/bytealg.MaxLen"], apart := false }
def SwapApartSaid : Prop := swapApartRow.holds Try.pinned (OpenSpec.ofChange swapApartSpec)

/-- ITS FALSE NEIGHBOUR: 'it returns false'. Refute it at one input. -/
def swapApartWrong : ChangeSpec := { name := "swapApart", fn := fun _ => fun
  | [d1, d2, d3, d4, d5] => { results := [.lit (.bool false)], args := [d1, d2, d3, d4, d5] }
  | _ => none }
def SwapApartWrongFalsely : Prop := swapApartRow.holds Try.pinned (OpenSpec.ofChange swapApartWrong)

/-- 'patchworklaw14.InterTells': WHATEVER THE INPUT: true; the input reads as it did. -/
def interTellsSpec : ChangeSpec := { name := "interTells", fn := fun _ => fun
  | [d1, d2] => { results := [.lit (.bool true)], args := [d1, d2] }
  | _ => none }
def interTellsRow : OpenClaim := { program := "ytfoponahdidddaa", sum := "fcacd28fcc15558a9b4566fbe0f6791a2195efb086030245d2daee5d53071360", func := "patchwork/patchworklaw14.InterTells", spec := "interTells", inPlace := ["internal/bytealg.IndexByteString", "internal/bytealg.IndexString"], unfollowed := true, recurses := true, named := ["internal/bytealg.MaxLen"], apart := false }
def InterTellsSaid : Prop := interTellsRow.holds Try.pinned (OpenSpec.ofChange interTellsSpec)

/-- ITS FALSE NEIGHBOUR: 'it returns false'. Refute it at one input. -/
def interTellsWrong : ChangeSpec := { name := "interTells", fn := fun _ => fun
  | [d1, d2] => { results := [.lit (.bool false)], args := [d1, d2] }
  | _ => none }
def InterTellsWrongFalsely : Prop := interTellsRow.holds Try.pinned (OpenSpec.ofChange interTellsWrong)

/-- 'patchworklaw14.InterLeads': WHATEVER THE INPUT: true; the input reads as it did. -/
def interLeadsSpec : ChangeSpec := { name := "interLeads", fn := fun _ => fun
  | [d1, d2, d3] => { results := [.lit (.bool true)], args := [d1, d2, d3] }
  | _ => none }
def interLeadsRow : OpenClaim := { program := "ytfoponahdidddaa", sum := "fcacd28fcc15558a9b4566fbe0f6791a2195efb086030245d2daee5d53071360", func := "patchwork/patchworklaw14.InterLeads", spec := "interLeads", inPlace := ["internal/bytealg.IndexByteString", "internal/bytealg.IndexString"], unfollowed := true, recurses := true, named := ["internal/bytealg.MaxLen"], apart := false }
def InterLeadsSaid : Prop := interLeadsRow.holds Try.pinned (OpenSpec.ofChange interLeadsSpec)

/-- ITS FALSE NEIGHBOUR: 'it returns false'. Refute it at one input. -/
def interLeadsWrong : ChangeSpec := { name := "interLeads", fn := fun _ => fun
  | [d1, d2, d3] => { results := [.lit (.bool false)], args := [d1, d2, d3] }
  | _ => none }
def InterLeadsWrongFalsely : Prop := interLeadsRow.holds Try.pinned (OpenSpec.ofChange interLeadsWrong)

/-- 'patchworklaw14.InterSelf': WHATEVER THE INPUT: true; the input reads as it did. -/
def interSelfSpec : ChangeSpec := { name := "interSelf", fn := fun _ => fun
  | [d1, d2] => { results := [.lit (.bool true)], args := [d1, d2] }
  | _ => none }
def interSelfRow : OpenClaim := { program := "ytfoponahdidddaa", sum := "fcacd28fcc15558a9b4566fbe0f6791a2195efb086030245d2daee5d53071360", func := "patchwork/patchworklaw14.InterSelf", spec := "interSelf", inPlace := ["internal/bytealg.IndexByteString", "internal/bytealg.IndexString"], unfollowed := true, recurses := true, named := ["internal/bytealg.MaxLen"], apart := false }
def InterSelfSaid : Prop := interSelfRow.holds Try.pinned (OpenSpec.ofChange interSelfSpec)

/-- ITS FALSE NEIGHBOUR: 'it returns false'. Refute it at one input. -/
def interSelfWrong : ChangeSpec := { name := "interSelf", fn := fun _ => fun
  | [d1, d2] => { results := [.lit (.bool false)], args := [d1, d2] }
  | _ => none }
def InterSelfWrongFalsely : Prop := interSelfRow.holds Try.pinned (OpenSpec.ofChange interSelfWrong)

/-- 'patchworklaw14.InterThree': WHATEVER THE INPUT: true; the input reads as it did. -/
def interThreeSpec : ChangeSpec := { name := "interThree", fn := fun _ => fun
  | [d1, d2, d3, d4] => { results := [.lit (.bool true)], args := [d1, d2, d3, d4] }
  | _ => none }
def interThreeRow : OpenClaim := { program := "ytfoponahdidddaa", sum := "fcacd28fcc15558a9b4566fbe0f6791a2195efb086030245d2daee5d53071360", func := "patchwork/patchworklaw14.InterThree", spec := "interThree", inPlace := ["internal/bytealg.IndexByteString", "internal/bytealg.IndexString"], unfollowed := true, recurses := true, named := ["internal/bytealg.MaxLen"], apart := false }
def InterThreeSaid : Prop := interThreeRow.holds Try.pinned (OpenSpec.ofChange interThreeSpec)

/-- ITS FALSE NEIGHBOUR: 'it returns false'. Refute it at one input. -/
def interThreeWrong : ChangeSpec := { name := "interThree", fn := fun _ => fun
  | [d1, d2, d3, d4] => { results := [.lit (.bool false)], args := [d1, d2, d3, d4] }
  | _ => none }
def InterThreeWrongFalsely : Prop := interThreeRow.holds Try.pinned (OpenSpec.ofChange interThreeWrong)

/-- 'patchworklaw14.InterEach': WHATEVER THE INPUT: true; the input reads as it did. -/
def interEachSpec : ChangeSpec := { name := "interEach", fn := fun _ => fun
  | [d] => { results := [.lit (.bool true)], args := [d] }
  | _ => none }
def interEachRow : OpenClaim := { program := "ytfoponahdidddaa", sum := "fcacd28fcc15558a9b4566fbe0f6791a2195efb086030245d2daee5d53071360", func := "patchwork/patchworklaw14.InterEach", spec := "interEach", inPlace := ["internal/bytealg.IndexByteString", "internal/bytealg.IndexString"], unfollowed := true, recurses := true, named := ["internal/bytealg.MaxLen"], apart := false }
def InterEachSaid : Prop := interEachRow.holds Try.pinned (OpenSpec.ofChange interEachSpec)

/-- ITS FALSE NEIGHBOUR: 'it returns false'. Refute it at one input. -/
def interEachWrong : ChangeSpec := { name := "interEach", fn := fun _ => fun
  | [d] => { results := [.lit (.bool false)], args := [d] }
  | _ => none }
def InterEachWrongFalsely : Prop := interEachRow.holds Try.pinned (OpenSpec.ofChange interEachWrong)

/- THE SECOND FORM. 'bulk': how many values and letters a reading holds, each counted each time it is reached (what is shared counts as often as it is met; a slice's spare places count too). A statement '..UptoSaid' is the law's where the arguments, and the package variables that the reading takes, are together of bulk at most 1048576: NARROWER than '..Said'. Prove '..Said' where nothing that the law and all that it calls make is longer than what came in: it says more and counts as full. Else prove '..UptoSaid'. A law counts once. -/
mutual
def uptoBulk {H : Type} : DataW H → Nat
  | .lit (.string bytes) => bytes.length + 1
  | .lit _ => 1
  | .nil => 1
  | .ptr d => uptoBulk d + 1
  | .slice elems spare => uptoBulkAll elems + uptoBulkAll spare + 1
  | .agg parts => uptoBulkAll parts + 1
  | .iface _ d => uptoBulk d + 1
  | .map entries => uptoBulkEntries entries + 1
  | .held _ => 1
def uptoBulkAll {H : Type} : List (DataW H) → Nat
  | [] => 0
  | d :: r => uptoBulk d + uptoBulkAll r
def uptoBulkEntries {H : Type} : List (Lit × DataW H) → Nat
  | [] => 0
  | x :: r => uptoBulkEntry x + uptoBulkEntries r
def uptoBulkEntry {H : Type} : Lit × DataW H → Nat
  | (.string bytes, d) => bytes.length + uptoBulk d + 1
  | (_, d) => uptoBulk d + 1
 end
def uptoSmall : (H : Type) → List (DataW H) → Bool := fun _ ds => decide (uptoBulkAll ds ≤ 1048576)
def OpenSpec.upto (s : _root_.Go.ChangeSpec) : _root_.Go.OpenSpec := { _root_.Go.OpenSpec.ofChange s with cond := some uptoSmall }

/-- 'patchworklaw15.SwapTells', WHERE WHAT IT READS IS OF BULK AT MOST 1048576: true; the input reads as it did. -/
def swapTellsUptoRow : OpenClaim := { program := "ytfoponahdidddaa", sum := "fcacd28fcc15558a9b4566fbe0f6791a2195efb086030245d2daee5d53071360", func := "patchwork/patchworklaw15.SwapTells", spec := "swapTells", inPlace := ["internal/bytealg.IndexByteString", "internal/bytealg.IndexString"], unfollowed := true, recurses := true, named := ["internal/bytealg.MaxLen"], apart := false, narrowed := true }
def SwapTellsUptoSaid : Prop := swapTellsUptoRow.holds Try.pinned (OpenSpec.upto swapTellsSpec)

/-- 'patchworklaw15.SwapDoes', WHERE WHAT IT READS IS OF BULK AT MOST 1048576: true; the input reads as it did. -/
def swapDoesUptoRow : OpenClaim := { program := "ytfoponahdidddaa", sum := "fcacd28fcc15558a9b4566fbe0f6791a2195efb086030245d2daee5d53071360", func := "patchwork/patchworklaw15.SwapDoes", spec := "swapDoes", inPlace := ["internal/bytealg.IndexByteString", "internal/bytealg.IndexString"], unfollowed := true, recurses := true, named := ["internal/bytealg.MaxLen"], apart := false, narrowed := true }
def SwapDoesUptoSaid : Prop := swapDoesUptoRow.holds Try.pinned (OpenSpec.upto swapDoesSpec)

/-- 'patchworklaw15.SwapKeeps', WHERE WHAT IT READS IS OF BULK AT MOST 1048576: true; the input reads as it did. -/
def swapKeepsUptoRow : OpenClaim := { program := "ytfoponahdidddaa", sum := "fcacd28fcc15558a9b4566fbe0f6791a2195efb086030245d2daee5d53071360", func := "patchwork/patchworklaw15.SwapKeeps", spec := "swapKeeps", inPlace := ["internal/bytealg.IndexByteString", "internal/bytealg.IndexString"], unfollowed := true, recurses := true, named := ["internal/bytealg.MaxLen"], apart := false, narrowed := true }
def SwapKeepsUptoSaid : Prop := swapKeepsUptoRow.holds Try.pinned (OpenSpec.upto swapKeepsSpec)

/-- 'patchworklaw15.SwapBack', WHERE WHAT IT READS IS OF BULK AT MOST 1048576: true; the input reads as it did. -/
def swapBackUptoRow : OpenClaim := { program := "ytfoponahdidddaa", sum := "fcacd28fcc15558a9b4566fbe0f6791a2195efb086030245d2daee5d53071360", func := "patchwork/patchworklaw15.SwapBack", spec := "swapBack", inPlace := ["internal/bytealg.IndexByteString", "internal/bytealg.IndexString"], unfollowed := true, recurses := true, named := ["internal/bytealg.MaxLen"], apart := false, narrowed := true }
def SwapBackUptoSaid : Prop := swapBackUptoRow.holds Try.pinned (OpenSpec.upto swapBackSpec)

/-- 'patchworklaw15.SwapNear', WHERE WHAT IT READS IS OF BULK AT MOST 1048576: true; the input reads as it did. -/
def swapNearUptoRow : OpenClaim := { program := "ytfoponahdidddaa", sum := "fcacd28fcc15558a9b4566fbe0f6791a2195efb086030245d2daee5d53071360", func := "patchwork/patchworklaw15.SwapNear", spec := "swapNear", inPlace := ["internal/bytealg.IndexByteString", "internal/bytealg.IndexString"], unfollowed := true, recurses := true, named := ["internal/bytealg.MaxLen"], apart := false, narrowed := true }
def SwapNearUptoSaid : Prop := swapNearUptoRow.holds Try.pinned (OpenSpec.upto swapNearSpec)

/-- 'patchworklaw15.SwapApart', WHERE WHAT IT READS IS OF BULK AT MOST 1048576: true; the input reads as it did. -/
def swapApartUptoRow : OpenClaim := { program := "ytfoponahdidddaa", sum := "fcacd28fcc15558a9b4566fbe0f6791a2195efb086030245d2daee5d53071360", func := "patchwork/patchworklaw15.SwapApart", spec := "swapApart", inPlace := ["internal/bytealg.IndexByteString", "internal/bytealg.IndexString"], unfollowed := true, recurses := true, named := ["internal/bytealg.MaxLen"], apart := false, narrowed := true }
def SwapApartUptoSaid : Prop := swapApartUptoRow.holds Try.pinned (OpenSpec.upto swapApartSpec)

/-- 'patchworklaw14.InterTells', WHERE WHAT IT READS IS OF BULK AT MOST 1048576: true; the input reads as it did. -/
def interTellsUptoRow : OpenClaim := { program := "ytfoponahdidddaa", sum := "fcacd28fcc15558a9b4566fbe0f6791a2195efb086030245d2daee5d53071360", func := "patchwork/patchworklaw14.InterTells", spec := "interTells", inPlace := ["internal/bytealg.IndexByteString", "internal/bytealg.IndexString"], unfollowed := true, recurses := true, named := ["internal/bytealg.MaxLen"], apart := false, narrowed := true }
def InterTellsUptoSaid : Prop := interTellsUptoRow.holds Try.pinned (OpenSpec.upto interTellsSpec)

/-- 'patchworklaw14.InterLeads', WHERE WHAT IT READS IS OF BULK AT MOST 1048576: true; the input reads as it did. -/
def interLeadsUptoRow : OpenClaim := { program := "ytfoponahdidddaa", sum := "fcacd28fcc15558a9b4566fbe0f6791a2195efb086030245d2daee5d53071360", func := "patchwork/patchworklaw14.InterLeads", spec := "interLeads", inPlace := ["internal/bytealg.IndexByteString", "internal/bytealg.IndexString"], unfollowed := true, recurses := true, named := ["internal/bytealg.MaxLen"], apart := false, narrowed := true }
def InterLeadsUptoSaid : Prop := interLeadsUptoRow.holds Try.pinned (OpenSpec.upto interLeadsSpec)

/-- 'patchworklaw14.InterSelf', WHERE WHAT IT READS IS OF BULK AT MOST 1048576: true; the input reads as it did. -/
def interSelfUptoRow : OpenClaim := { program := "ytfoponahdidddaa", sum := "fcacd28fcc15558a9b4566fbe0f6791a2195efb086030245d2daee5d53071360", func := "patchwork/patchworklaw14.InterSelf", spec := "interSelf", inPlace := ["internal/bytealg.IndexByteString", "internal/bytealg.IndexString"], unfollowed := true, recurses := true, named := ["internal/bytealg.MaxLen"], apart := false, narrowed := true }
def InterSelfUptoSaid : Prop := interSelfUptoRow.holds Try.pinned (OpenSpec.upto interSelfSpec)

/-- 'patchworklaw14.InterThree', WHERE WHAT IT READS IS OF BULK AT MOST 1048576: true; the input reads as it did. -/
def interThreeUptoRow : OpenClaim := { program := "ytfoponahdidddaa", sum := "fcacd28fcc15558a9b4566fbe0f6791a2195efb086030245d2daee5d53071360", func := "patchwork/patchworklaw14.InterThree", spec := "interThree", inPlace := ["internal/bytealg.IndexByteString", "internal/bytealg.IndexString"], unfollowed := true, recurses := true, named := ["internal/bytealg.MaxLen"], apart := false, narrowed := true }
def InterThreeUptoSaid : Prop := interThreeUptoRow.holds Try.pinned (OpenSpec.upto interThreeSpec)

/-- 'patchworklaw14.InterEach', WHERE WHAT IT READS IS OF BULK AT MOST 1048576: true; the input reads as it did. -/
def interEachUptoRow : OpenClaim := { program := "ytfoponahdidddaa", sum := "fcacd28fcc15558a9b4566fbe0f6791a2195efb086030245d2daee5d53071360", func := "patchwork/patchworklaw14.InterEach", spec := "interEach", inPlace := ["internal/bytealg.IndexByteString", "internal/bytealg.IndexString"], unfollowed := true, recurses := true, named := ["internal/bytealg.MaxLen"], apart := false, narrowed := true }
def InterEachUptoSaid : Prop := interEachUptoRow.holds Try.pinned (OpenSpec.upto interEachSpec)

end Rows
end Go.Proofs.Ytfoponahdidddaa
