/-
  DERIVED. GIVEN WITH THE SEED: THE CARDS: each row of YtkiklmmpflndbaaDoorRows.lean that lists a variable, with what it lists TIED to the program's text (the seventh form; the later family's looks); each row that meets fmt, with fmt's text TOLD by the authors' own Lean function (tested against real Go, not proved from fmt's source: count such statements apart). THE CARD IS WHAT COUNTS. Prove the row's statement (the work); the ties are given (YtkiklmmpflndbaaDoorTie.lean); close each card by the builder's one call (the guide's Derived/Test/ToyasCard.lean, 'card_holds'). Laid BY PROGRAM, IN A SANDBOX (cutbox-door.mjs). By AI agents, Wed Nov 11 2026. No macro, syntax, notation, axiom, sorry.
-/
import Derived.Test.YtkiklmmpflndbaaDoorRows
import GoSem.ClaimSeven
namespace Go.Proofs.YtkiklmmpflndbaaDoor
namespace Rows

/-- THE TIED CARD OF 'patchworklaw18.WitnessLeast'. -/
def witnessLeastCard : Claim7 := { stood := { row := witnessLeastRow, standIns := [], harness := (true, "5a7a1b6bcbd410e632947cfeab083694863a703188d9da3b503c38a73c9e1589"), looks := false }, kinds := [], alts := [], laidByText := true, laidKinds := [.data, .data, .data], laidTests := true, laidLooks := .later }
def WitnessLeastCardSaid : Prop := Claim7.holds Tryd.pinned (.plain (OpenSpec.ofChange witnessLeastSpec)) witnessLeastCard

/-- THE TIED CARD OF 'patchworklaw18.WitnessEach'. -/
def witnessEachCard : Claim7 := { stood := { row := witnessEachRow, standIns := [], harness := (true, "5a7a1b6bcbd410e632947cfeab083694863a703188d9da3b503c38a73c9e1589"), looks := false }, kinds := [], alts := [], laidByText := true, laidKinds := [.data, .data, .data], laidTests := true, laidLooks := .later }
def WitnessEachCardSaid : Prop := Claim7.holds Tryd.pinned (.plain (OpenSpec.ofChange witnessEachSpec)) witnessEachCard

/-- THE TIED CARD OF 'patchworklaw18.WitnessTells'. -/
def witnessTellsCard : Claim7 := { stood := { row := witnessTellsRow, standIns := [], harness := (true, "5a7a1b6bcbd410e632947cfeab083694863a703188d9da3b503c38a73c9e1589"), looks := false }, kinds := [], alts := [], laidByText := true, laidKinds := [.data, .data, .data], laidTests := true, laidLooks := .later }
def WitnessTellsCardSaid : Prop := Claim7.holds Tryd.pinned (.plain (OpenSpec.ofChange witnessTellsSpec)) witnessTellsCard

/-- THE TIED CARD OF 'patchworklaw18.WitnessDoes'. -/
def witnessDoesCard : Claim7 := { stood := { row := witnessDoesRow, standIns := [], harness := (true, "5a7a1b6bcbd410e632947cfeab083694863a703188d9da3b503c38a73c9e1589"), looks := false }, kinds := [], alts := [], laidByText := true, laidKinds := [.data, .data, .data], laidTests := true, laidLooks := .later }
def WitnessDoesCardSaid : Prop := Claim7.holds Tryd.pinned (.plain (OpenSpec.ofChange witnessDoesSpec)) witnessDoesCard

/-- THE TIED CARD OF 'patchworklaw18.WitnessBoth'. -/
def witnessBothCard : Claim7 := { stood := { row := witnessBothRow, standIns := [], harness := (true, "5a7a1b6bcbd410e632947cfeab083694863a703188d9da3b503c38a73c9e1589"), looks := false }, kinds := [], alts := [], laidByText := true, laidKinds := [.data, .data, .data], laidTests := true, laidLooks := .later }
def WitnessBothCardSaid : Prop := Claim7.holds Tryd.pinned (.plain (OpenSpec.ofChange witnessBothSpec)) witnessBothCard

/-- THE SECOND FORM's CARD OF 'patchworklaw18.WitnessLeast'. -/
def witnessLeastUptoCard : Claim7 := { stood := { row := witnessLeastUptoRow, standIns := [], harness := (true, "5a7a1b6bcbd410e632947cfeab083694863a703188d9da3b503c38a73c9e1589"), looks := false }, kinds := [], alts := [], laidByText := true, laidKinds := [.data, .data, .data], laidTests := true, laidLooks := .later }
def WitnessLeastUptoCardSaid : Prop := Claim7.holds Tryd.pinned (.plain (OpenSpec.upto witnessLeastSpec)) witnessLeastUptoCard

/-- THE SECOND FORM's CARD OF 'patchworklaw18.WitnessEach'. -/
def witnessEachUptoCard : Claim7 := { stood := { row := witnessEachUptoRow, standIns := [], harness := (true, "5a7a1b6bcbd410e632947cfeab083694863a703188d9da3b503c38a73c9e1589"), looks := false }, kinds := [], alts := [], laidByText := true, laidKinds := [.data, .data, .data], laidTests := true, laidLooks := .later }
def WitnessEachUptoCardSaid : Prop := Claim7.holds Tryd.pinned (.plain (OpenSpec.upto witnessEachSpec)) witnessEachUptoCard

/-- THE SECOND FORM's CARD OF 'patchworklaw18.WitnessTells'. -/
def witnessTellsUptoCard : Claim7 := { stood := { row := witnessTellsUptoRow, standIns := [], harness := (true, "5a7a1b6bcbd410e632947cfeab083694863a703188d9da3b503c38a73c9e1589"), looks := false }, kinds := [], alts := [], laidByText := true, laidKinds := [.data, .data, .data], laidTests := true, laidLooks := .later }
def WitnessTellsUptoCardSaid : Prop := Claim7.holds Tryd.pinned (.plain (OpenSpec.upto witnessTellsSpec)) witnessTellsUptoCard

/-- THE SECOND FORM's CARD OF 'patchworklaw18.WitnessDoes'. -/
def witnessDoesUptoCard : Claim7 := { stood := { row := witnessDoesUptoRow, standIns := [], harness := (true, "5a7a1b6bcbd410e632947cfeab083694863a703188d9da3b503c38a73c9e1589"), looks := false }, kinds := [], alts := [], laidByText := true, laidKinds := [.data, .data, .data], laidTests := true, laidLooks := .later }
def WitnessDoesUptoCardSaid : Prop := Claim7.holds Tryd.pinned (.plain (OpenSpec.upto witnessDoesSpec)) witnessDoesUptoCard

/-- THE SECOND FORM's CARD OF 'patchworklaw18.WitnessBoth'. -/
def witnessBothUptoCard : Claim7 := { stood := { row := witnessBothUptoRow, standIns := [], harness := (true, "5a7a1b6bcbd410e632947cfeab083694863a703188d9da3b503c38a73c9e1589"), looks := false }, kinds := [], alts := [], laidByText := true, laidKinds := [.data, .data, .data], laidTests := true, laidLooks := .later }
def WitnessBothUptoCardSaid : Prop := Claim7.holds Tryd.pinned (.plain (OpenSpec.upto witnessBothSpec)) witnessBothUptoCard
end Rows
end Go.Proofs.YtkiklmmpflndbaaDoor
