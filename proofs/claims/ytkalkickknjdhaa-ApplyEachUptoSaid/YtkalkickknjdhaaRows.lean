/-
  No cell of these rows narrows 'for every input' (looked for: loops, veiled, ifaces, maps, wideKeys, modest, calm, conditions, laid).
  DERIVED. THE GIVEN ROWS OF THIS SEAT. 11 by the template 'for every input the law returns true; each argument reads behind the call as it read before'; 0 by the template 'total and deterministic' (their statements: YtkalkickknjdhaaTotals.lean).
  GIVEN WITH THE SEED: the statements are not yours to turn. If you find one false, say at which input.
  Laid BY PROGRAM, IN A SANDBOX (cutbox-rows.mjs): the forced cells as the released guide's own fill.sh prints them over the translation 8649566824185ffa… (all of the seat's roots in one cut). By AI agents, Wed Nov 11 2026. No macro, syntax, notation, axiom, sorry.
-/
import Derived.Test.YtkalkickknjdhaaChecked
import GoSem.Claim
import GoSem.ClaimJoined
import GoSem.ClaimMapViews
import Derived.JoinedTies
import Derived.KernelRfl
namespace Go.Proofs.Ytkalkickknjdhaa
/- THE CELL 'sum', in the pinned program and in every row, IS THE sha256 OF THE DUMP (.gsa) THAT YtkalkickknjdhaaProg.lean LOADS. Nothing in Lean hashes anything: it is a label: what it is worth is what the hold of that sum in a sandbox is worth. -/
noncomputable def Try.pinned : Pinned := { name := "ytkalkickknjdhaa", sum := "8649566824185ffa355ed1749e9db1d11d4eeaf9c56c57b5166838d8fe131034", checked := Try.checked }
namespace Rows
def none {H : Type} : Left H := { results := [], args := [] }

/-- 'patchworklaw9.ApplyTells': WHATEVER THE INPUT: true; the input reads as it did. -/
def applyTellsSpec : ChangeSpec := { name := "applyTells", fn := fun _ => fun
  | [d1, d2] => { results := [.lit (.bool true)], args := [d1, d2] }
  | _ => none }
def applyTellsRow : OpenClaim := { program := "ytkalkickknjdhaa", sum := "8649566824185ffa355ed1749e9db1d11d4eeaf9c56c57b5166838d8fe131034", func := "patchwork/patchworklaw9.ApplyTells", spec := "applyTells", inPlace := ["internal/bytealg.IndexByteString", "internal/bytealg.IndexString"], unfollowed := true, recurses := true, named := ["internal/bytealg.MaxLen"], apart := false }
def ApplyTellsSaid : Prop := applyTellsRow.holds Try.pinned (OpenSpec.ofChange applyTellsSpec)

/-- ITS FALSE NEIGHBOUR: 'it returns false'. Refute it at one input. -/
def applyTellsWrong : ChangeSpec := { name := "applyTells", fn := fun _ => fun
  | [d1, d2] => { results := [.lit (.bool false)], args := [d1, d2] }
  | _ => none }
def ApplyTellsWrongFalsely : Prop := applyTellsRow.holds Try.pinned (OpenSpec.ofChange applyTellsWrong)

/-- 'patchworklaw9.ApplySame': WHATEVER THE INPUT: true; the input reads as it did. -/
def applySameSpec : ChangeSpec := { name := "applySame", fn := fun _ => fun
  | [d1, d2] => { results := [.lit (.bool true)], args := [d1, d2] }
  | _ => none }
def applySameRow : OpenClaim := { program := "ytkalkickknjdhaa", sum := "8649566824185ffa355ed1749e9db1d11d4eeaf9c56c57b5166838d8fe131034", func := "patchwork/patchworklaw9.ApplySame", spec := "applySame", inPlace := ["internal/bytealg.IndexByteString", "internal/bytealg.IndexString"], unfollowed := true, recurses := true, named := ["internal/bytealg.MaxLen"], apart := false }
def ApplySameSaid : Prop := applySameRow.holds Try.pinned (OpenSpec.ofChange applySameSpec)

/-- ITS FALSE NEIGHBOUR: 'it returns false'. Refute it at one input. -/
def applySameWrong : ChangeSpec := { name := "applySame", fn := fun _ => fun
  | [d1, d2] => { results := [.lit (.bool false)], args := [d1, d2] }
  | _ => none }
def ApplySameWrongFalsely : Prop := applySameRow.holds Try.pinned (OpenSpec.ofChange applySameWrong)

/-- 'patchworklaw9.ApplyCounts': WHATEVER THE INPUT: true; the input reads as it did. -/
def applyCountsSpec : ChangeSpec := { name := "applyCounts", fn := fun _ => fun
  | [d1, d2] => { results := [.lit (.bool true)], args := [d1, d2] }
  | _ => none }
def applyCountsRow : OpenClaim := { program := "ytkalkickknjdhaa", sum := "8649566824185ffa355ed1749e9db1d11d4eeaf9c56c57b5166838d8fe131034", func := "patchwork/patchworklaw9.ApplyCounts", spec := "applyCounts", inPlace := ["internal/bytealg.IndexByteString", "internal/bytealg.IndexString"], unfollowed := true, recurses := true, named := ["internal/bytealg.MaxLen"], apart := false }
def ApplyCountsSaid : Prop := applyCountsRow.holds Try.pinned (OpenSpec.ofChange applyCountsSpec)

/-- ITS FALSE NEIGHBOUR: 'it returns false'. Refute it at one input. -/
def applyCountsWrong : ChangeSpec := { name := "applyCounts", fn := fun _ => fun
  | [d1, d2] => { results := [.lit (.bool false)], args := [d1, d2] }
  | _ => none }
def ApplyCountsWrongFalsely : Prop := applyCountsRow.holds Try.pinned (OpenSpec.ofChange applyCountsWrong)

/-- 'patchworklaw9.ApplyNeeds': WHATEVER THE INPUT: true; the input reads as it did. -/
def applyNeedsSpec : ChangeSpec := { name := "applyNeeds", fn := fun _ => fun
  | [d1, d2, d3, d4] => { results := [.lit (.bool true)], args := [d1, d2, d3, d4] }
  | _ => none }
def applyNeedsRow : OpenClaim := { program := "ytkalkickknjdhaa", sum := "8649566824185ffa355ed1749e9db1d11d4eeaf9c56c57b5166838d8fe131034", func := "patchwork/patchworklaw9.ApplyNeeds", spec := "applyNeeds", inPlace := ["internal/bytealg.IndexByteString", "internal/bytealg.IndexString"], unfollowed := true, recurses := true, named := ["internal/bytealg.MaxLen"], apart := false }
def ApplyNeedsSaid : Prop := applyNeedsRow.holds Try.pinned (OpenSpec.ofChange applyNeedsSpec)

/-- ITS FALSE NEIGHBOUR: 'it returns false'. Refute it at one input. -/
def applyNeedsWrong : ChangeSpec := { name := "applyNeeds", fn := fun _ => fun
  | [d1, d2, d3, d4] => { results := [.lit (.bool false)], args := [d1, d2, d3, d4] }
  | _ => none }
def ApplyNeedsWrongFalsely : Prop := applyNeedsRow.holds Try.pinned (OpenSpec.ofChange applyNeedsWrong)

/-- 'patchworklaw9.ApplyEach': WHATEVER THE INPUT: true; the input reads as it did. -/
def applyEachSpec : ChangeSpec := { name := "applyEach", fn := fun _ => fun
  | [d] => { results := [.lit (.bool true)], args := [d] }
  | _ => none }
def applyEachRow : OpenClaim := { program := "ytkalkickknjdhaa", sum := "8649566824185ffa355ed1749e9db1d11d4eeaf9c56c57b5166838d8fe131034", func := "patchwork/patchworklaw9.ApplyEach", spec := "applyEach", inPlace := ["internal/bytealg.IndexByteString", "internal/bytealg.IndexString"], unfollowed := true, recurses := true, named := ["internal/bytealg.MaxLen"], apart := false }
def ApplyEachSaid : Prop := applyEachRow.holds Try.pinned (OpenSpec.ofChange applyEachSpec)

/-- ITS FALSE NEIGHBOUR: 'it returns false'. Refute it at one input. -/
def applyEachWrong : ChangeSpec := { name := "applyEach", fn := fun _ => fun
  | [d] => { results := [.lit (.bool false)], args := [d] }
  | _ => none }
def ApplyEachWrongFalsely : Prop := applyEachRow.holds Try.pinned (OpenSpec.ofChange applyEachWrong)

/-- 'patchworklaw8.OpsTell': WHATEVER THE INPUT: true; the input reads as it did. -/
def opsTellSpec : ChangeSpec := { name := "opsTell", fn := fun _ => fun
  | [d1, d2] => { results := [.lit (.bool true)], args := [d1, d2] }
  | _ => none }
def opsTellRow : OpenClaim := { program := "ytkalkickknjdhaa", sum := "8649566824185ffa355ed1749e9db1d11d4eeaf9c56c57b5166838d8fe131034", func := "patchwork/patchworklaw8.OpsTell", spec := "opsTell", inPlace := ["internal/bytealg.IndexByteString", "internal/bytealg.IndexString"], unfollowed := true, recurses := true, named := ["internal/bytealg.MaxLen"], apart := false }
def OpsTellSaid : Prop := opsTellRow.holds Try.pinned (OpenSpec.ofChange opsTellSpec)

/-- ITS FALSE NEIGHBOUR: 'it returns false'. Refute it at one input. -/
def opsTellWrong : ChangeSpec := { name := "opsTell", fn := fun _ => fun
  | [d1, d2] => { results := [.lit (.bool false)], args := [d1, d2] }
  | _ => none }
def OpsTellWrongFalsely : Prop := opsTellRow.holds Try.pinned (OpenSpec.ofChange opsTellWrong)

/-- 'patchworklaw8.OpsNorm': WHATEVER THE INPUT: true; the input reads as it did. -/
def opsNormSpec : ChangeSpec := { name := "opsNorm", fn := fun _ => fun
  | [d] => { results := [.lit (.bool true)], args := [d] }
  | _ => none }
def opsNormRow : OpenClaim := { program := "ytkalkickknjdhaa", sum := "8649566824185ffa355ed1749e9db1d11d4eeaf9c56c57b5166838d8fe131034", func := "patchwork/patchworklaw8.OpsNorm", spec := "opsNorm", inPlace := ["internal/bytealg.IndexByteString", "internal/bytealg.IndexString"], unfollowed := true, recurses := true, named := ["internal/bytealg.MaxLen"], apart := false }
def OpsNormSaid : Prop := opsNormRow.holds Try.pinned (OpenSpec.ofChange opsNormSpec)

/-- ITS FALSE NEIGHBOUR: 'it returns false'. Refute it at one input. -/
def opsNormWrong : ChangeSpec := { name := "opsNorm", fn := fun _ => fun
  | [d] => { results := [.lit (.bool false)], args := [d] }
  | _ => none }
def OpsNormWrongFalsely : Prop := opsNormRow.holds Try.pinned (OpenSpec.ofChange opsNormWrong)

/-- 'patchworklaw8.OpsOpen': WHATEVER THE INPUT: true; the input reads as it did. -/
def opsOpenSpec : ChangeSpec := { name := "opsOpen", fn := fun _ => fun
  | [d1, d2, d3, d4] => { results := [.lit (.bool true)], args := [d1, d2, d3, d4] }
  | _ => none }
def opsOpenRow : OpenClaim := { program := "ytkalkickknjdhaa", sum := "8649566824185ffa355ed1749e9db1d11d4eeaf9c56c57b5166838d8fe131034", func := "patchwork/patchworklaw8.OpsOpen", spec := "opsOpen", inPlace := ["internal/bytealg.IndexByteString", "internal/bytealg.IndexString"], unfollowed := true, recurses := true, named := ["internal/bytealg.MaxLen"], apart := false }
def OpsOpenSaid : Prop := opsOpenRow.holds Try.pinned (OpenSpec.ofChange opsOpenSpec)

/-- ITS FALSE NEIGHBOUR: 'it returns false'. Refute it at one input. -/
def opsOpenWrong : ChangeSpec := { name := "opsOpen", fn := fun _ => fun
  | [d1, d2, d3, d4] => { results := [.lit (.bool false)], args := [d1, d2, d3, d4] }
  | _ => none }
def OpsOpenWrongFalsely : Prop := opsOpenRow.holds Try.pinned (OpenSpec.ofChange opsOpenWrong)

/-- 'patchworklaw8.OpsLimits': WHATEVER THE INPUT: true; the input reads as it did. -/
def opsLimitsSpec : ChangeSpec := { name := "opsLimits", fn := fun _ => fun
  | [d1, d2] => { results := [.lit (.bool true)], args := [d1, d2] }
  | _ => none }
def opsLimitsRow : OpenClaim := { program := "ytkalkickknjdhaa", sum := "8649566824185ffa355ed1749e9db1d11d4eeaf9c56c57b5166838d8fe131034", func := "patchwork/patchworklaw8.OpsLimits", spec := "opsLimits", inPlace := ["internal/bytealg.IndexByteString", "internal/bytealg.IndexString"], unfollowed := true, recurses := true, named := ["internal/bytealg.MaxLen"], apart := false }
def OpsLimitsSaid : Prop := opsLimitsRow.holds Try.pinned (OpenSpec.ofChange opsLimitsSpec)

/-- ITS FALSE NEIGHBOUR: 'it returns false'. Refute it at one input. -/
def opsLimitsWrong : ChangeSpec := { name := "opsLimits", fn := fun _ => fun
  | [d1, d2] => { results := [.lit (.bool false)], args := [d1, d2] }
  | _ => none }
def OpsLimitsWrongFalsely : Prop := opsLimitsRow.holds Try.pinned (OpenSpec.ofChange opsLimitsWrong)

/-- 'patchworklaw8.OpsParts': WHATEVER THE INPUT: true; the input reads as it did. -/
def opsPartsSpec : ChangeSpec := { name := "opsParts", fn := fun _ => fun
  | [d1, d2] => { results := [.lit (.bool true)], args := [d1, d2] }
  | _ => none }
def opsPartsRow : OpenClaim := { program := "ytkalkickknjdhaa", sum := "8649566824185ffa355ed1749e9db1d11d4eeaf9c56c57b5166838d8fe131034", func := "patchwork/patchworklaw8.OpsParts", spec := "opsParts", inPlace := ["internal/bytealg.IndexByteString", "internal/bytealg.IndexString"], unfollowed := true, recurses := true, named := ["internal/bytealg.MaxLen"], apart := false }
def OpsPartsSaid : Prop := opsPartsRow.holds Try.pinned (OpenSpec.ofChange opsPartsSpec)

/-- ITS FALSE NEIGHBOUR: 'it returns false'. Refute it at one input. -/
def opsPartsWrong : ChangeSpec := { name := "opsParts", fn := fun _ => fun
  | [d1, d2] => { results := [.lit (.bool false)], args := [d1, d2] }
  | _ => none }
def OpsPartsWrongFalsely : Prop := opsPartsRow.holds Try.pinned (OpenSpec.ofChange opsPartsWrong)

/-- 'patchworklaw8.OpsEach': WHATEVER THE INPUT: true; the input reads as it did. -/
def opsEachSpec : ChangeSpec := { name := "opsEach", fn := fun _ => fun
  | [d] => { results := [.lit (.bool true)], args := [d] }
  | _ => none }
def opsEachRow : OpenClaim := { program := "ytkalkickknjdhaa", sum := "8649566824185ffa355ed1749e9db1d11d4eeaf9c56c57b5166838d8fe131034", func := "patchwork/patchworklaw8.OpsEach", spec := "opsEach", inPlace := ["internal/bytealg.IndexByteString", "internal/bytealg.IndexString"], unfollowed := true, recurses := true, named := ["internal/bytealg.MaxLen"], apart := false }
def OpsEachSaid : Prop := opsEachRow.holds Try.pinned (OpenSpec.ofChange opsEachSpec)

/-- ITS FALSE NEIGHBOUR: 'it returns false'. Refute it at one input. -/
def opsEachWrong : ChangeSpec := { name := "opsEach", fn := fun _ => fun
  | [d] => { results := [.lit (.bool false)], args := [d] }
  | _ => none }
def OpsEachWrongFalsely : Prop := opsEachRow.holds Try.pinned (OpenSpec.ofChange opsEachWrong)

/- THE SECOND FORM. 'bulk': how many values and letters a reading holds, each counted each time it is reached (what is shared counts as often as it is met; a slice's spare places count too). A statement '..UptoSaid' is the law's where the arguments, and the package variables that the reading takes, are together of bulk at most 1048576: NARROWER than '..Said'. Prove '..Said' where nothing that the law and all that it calls make is longer than what came in: it says more and counts as full. Else prove '..UptoSaid'. A law counts once. -/
mutual
def uptoBulk {H : Type} : DataW H → Nat
  | .lit (.string bytes) => bytes.length + 1
  | .lit _ => 1
  | .nil => 1
  | .ptr d => uptoBulk d + 1
  | .slice elems spare => uptoBulkAll elems + uptoBulkAll spare + 1
  | .agg parts => uptoBulkAll parts + 1
  | .iface _ d => uptoBulk d + 1
  | .map entries => uptoBulkEntries entries + 1
  | .held _ => 1
def uptoBulkAll {H : Type} : List (DataW H) → Nat
  | [] => 0
  | d :: r => uptoBulk d + uptoBulkAll r
def uptoBulkEntries {H : Type} : List (Lit × DataW H) → Nat
  | [] => 0
  | x :: r => uptoBulkEntry x + uptoBulkEntries r
def uptoBulkEntry {H : Type} : Lit × DataW H → Nat
  | (.string bytes, d) => bytes.length + uptoBulk d + 1
  | (_, d) => uptoBulk d + 1
 end
def uptoSmall : (H : Type) → List (DataW H) → Bool := fun _ ds => decide (uptoBulkAll ds ≤ 1048576)
def OpenSpec.upto (s : _root_.Go.ChangeSpec) : _root_.Go.OpenSpec := { _root_.Go.OpenSpec.ofChange s with cond := some uptoSmall }

/-- 'patchworklaw9.ApplyTells', WHERE WHAT IT READS IS OF BULK AT MOST 1048576: true; the input reads as it did. -/
def applyTellsUptoRow : OpenClaim := { program := "ytkalkickknjdhaa", sum := "8649566824185ffa355ed1749e9db1d11d4eeaf9c56c57b5166838d8fe131034", func := "patchwork/patchworklaw9.ApplyTells", spec := "applyTells", inPlace := ["internal/bytealg.IndexByteString", "internal/bytealg.IndexString"], unfollowed := true, recurses := true, named := ["internal/bytealg.MaxLen"], apart := false, narrowed := true }
def ApplyTellsUptoSaid : Prop := applyTellsUptoRow.holds Try.pinned (OpenSpec.upto applyTellsSpec)

/-- 'patchworklaw9.ApplySame', WHERE WHAT IT READS IS OF BULK AT MOST 1048576: true; the input reads as it did. -/
def applySameUptoRow : OpenClaim := { program := "ytkalkickknjdhaa", sum := "8649566824185ffa355ed1749e9db1d11d4eeaf9c56c57b5166838d8fe131034", func := "patchwork/patchworklaw9.ApplySame", spec := "applySame", inPlace := ["internal/bytealg.IndexByteString", "internal/bytealg.IndexString"], unfollowed := true, recurses := true, named := ["internal/bytealg.MaxLen"], apart := false, narrowed := true }
def ApplySameUptoSaid : Prop := applySameUptoRow.holds Try.pinned (OpenSpec.upto applySameSpec)

/-- 'patchworklaw9.ApplyCounts', WHERE WHAT IT READS IS OF BULK AT MOST 1048576: true; the input reads as it did. -/
def applyCountsUptoRow : OpenClaim := { program := "ytkalkickknjdhaa", sum := "8649566824185ffa355ed1749e9db1d11d4eeaf9c56c57b5166838d8fe131034", func := "patchwork/patchworklaw9.ApplyCounts", spec := "applyCounts", inPlace := ["internal/bytealg.IndexByteString", "internal/bytealg.IndexString"], unfollowed := true, recurses := true, named := ["internal/bytealg.MaxLen"], apart := false, narrowed := true }
def ApplyCountsUptoSaid : Prop := applyCountsUptoRow.holds Try.pinned (OpenSpec.upto applyCountsSpec)

/-- 'patchworklaw9.ApplyNeeds', WHERE WHAT IT READS IS OF BULK AT MOST 1048576: true; the input reads as it did. -/
def applyNeedsUptoRow : OpenClaim := { program := "ytkalkickknjdhaa", sum := "8649566824185ffa355ed1749e9db1d11d4eeaf9c56c57b5166838d8fe131034", func := "patchwork/patchworklaw9.ApplyNeeds", spec := "applyNeeds", inPlace := ["internal/bytealg.IndexByteString", "internal/bytealg.IndexString"], unfollowed := true, recurses := true, named := ["internal/bytealg.MaxLen"], apart := false, narrowed := true }
def ApplyNeedsUptoSaid : Prop := applyNeedsUptoRow.holds Try.pinned (OpenSpec.upto applyNeedsSpec)

/-- 'patchworklaw9.ApplyEach', WHERE WHAT IT READS IS OF BULK AT MOST 1048576: true; the input reads as it did. -/
def applyEachUptoRow : OpenClaim := { program := "ytkalkickknjdhaa", sum := "8649566824185ffa355ed1749e9db1d11d4eeaf9c56c57b5166838d8fe131034", func := "patchwork/patchworklaw9.ApplyEach", spec := "applyEach", inPlace := ["internal/bytealg.IndexByteString", "internal/bytealg.IndexString"], unfollowed := true, recurses := true, named := ["internal/bytealg.MaxLen"], apart := false, narrowed := true }
def ApplyEachUptoSaid : Prop := applyEachUptoRow.holds Try.pinned (OpenSpec.upto applyEachSpec)

/-- 'patchworklaw8.OpsTell', WHERE WHAT IT READS IS OF BULK AT MOST 1048576: true; the input reads as it did. -/
def opsTellUptoRow : OpenClaim := { program := "ytkalkickknjdhaa", sum := "8649566824185ffa355ed1749e9db1d11d4eeaf9c56c57b5166838d8fe131034", func := "patchwork/patchworklaw8.OpsTell", spec := "opsTell", inPlace := ["internal/bytealg.IndexByteString", "internal/bytealg.IndexString"], unfollowed := true, recurses := true, named := ["internal/bytealg.MaxLen"], apart := false, narrowed := true }
def OpsTellUptoSaid : Prop := opsTellUptoRow.holds Try.pinned (OpenSpec.upto opsTellSpec)

/-- 'patchworklaw8.OpsNorm', WHERE WHAT IT READS IS OF BULK AT MOST 1048576: true; the input reads as it did. -/
def opsNormUptoRow : OpenClaim := { program := "ytkalkickknjdhaa", sum := "8649566824185ffa355ed1749e9db1d11d4eeaf9c56c57b5166838d8fe131034", func := "patchwork/patchworklaw8.OpsNorm", spec := "opsNorm", inPlace := ["internal/bytealg.IndexByteString", "internal/bytealg.IndexString"], unfollowed := true, recurses := true, named := ["internal/bytealg.MaxLen"], apart := false, narrowed := true }
def OpsNormUptoSaid : Prop := opsNormUptoRow.holds Try.pinned (OpenSpec.upto opsNormSpec)

/-- 'patchworklaw8.OpsOpen', WHERE WHAT IT READS IS OF BULK AT MOST 1048576: true; the input reads as it did. -/
def opsOpenUptoRow : OpenClaim := { program := "ytkalkickknjdhaa", sum := "8649566824185ffa355ed1749e9db1d11d4eeaf9c56c57b5166838d8fe131034", func := "patchwork/patchworklaw8.OpsOpen", spec := "opsOpen", inPlace := ["internal/bytealg.IndexByteString", "internal/bytealg.IndexString"], unfollowed := true, recurses := true, named := ["internal/bytealg.MaxLen"], apart := false, narrowed := true }
def OpsOpenUptoSaid : Prop := opsOpenUptoRow.holds Try.pinned (OpenSpec.upto opsOpenSpec)

/-- 'patchworklaw8.OpsLimits', WHERE WHAT IT READS IS OF BULK AT MOST 1048576: true; the input reads as it did. -/
def opsLimitsUptoRow : OpenClaim := { program := "ytkalkickknjdhaa", sum := "8649566824185ffa355ed1749e9db1d11d4eeaf9c56c57b5166838d8fe131034", func := "patchwork/patchworklaw8.OpsLimits", spec := "opsLimits", inPlace := ["internal/bytealg.IndexByteString", "internal/bytealg.IndexString"], unfollowed := true, recurses := true, named := ["internal/bytealg.MaxLen"], apart := false, narrowed := true }
def OpsLimitsUptoSaid : Prop := opsLimitsUptoRow.holds Try.pinned (OpenSpec.upto opsLimitsSpec)

/-- 'patchworklaw8.OpsParts', WHERE WHAT IT READS IS OF BULK AT MOST 1048576: true; the input reads as it did. -/
def opsPartsUptoRow : OpenClaim := { program := "ytkalkickknjdhaa", sum := "8649566824185ffa355ed1749e9db1d11d4eeaf9c56c57b5166838d8fe131034", func := "patchwork/patchworklaw8.OpsParts", spec := "opsParts", inPlace := ["internal/bytealg.IndexByteString", "internal/bytealg.IndexString"], unfollowed := true, recurses := true, named := ["internal/bytealg.MaxLen"], apart := false, narrowed := true }
def OpsPartsUptoSaid : Prop := opsPartsUptoRow.holds Try.pinned (OpenSpec.upto opsPartsSpec)

/-- 'patchworklaw8.OpsEach', WHERE WHAT IT READS IS OF BULK AT MOST 1048576: true; the input reads as it did. -/
def opsEachUptoRow : OpenClaim := { program := "ytkalkickknjdhaa", sum := "8649566824185ffa355ed1749e9db1d11d4eeaf9c56c57b5166838d8fe131034", func := "patchwork/patchworklaw8.OpsEach", spec := "opsEach", inPlace := ["internal/bytealg.IndexByteString", "internal/bytealg.IndexString"], unfollowed := true, recurses := true, named := ["internal/bytealg.MaxLen"], apart := false, narrowed := true }
def OpsEachUptoSaid : Prop := opsEachUptoRow.holds Try.pinned (OpenSpec.upto opsEachSpec)

end Rows
end Go.Proofs.Ytkalkickknjdhaa
