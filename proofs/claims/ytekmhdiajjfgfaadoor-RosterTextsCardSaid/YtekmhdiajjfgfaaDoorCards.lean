/-
  DERIVED. GIVEN WITH THE SEED: THE CARDS: each row of YtekmhdiajjfgfaaDoorRows.lean that lists a variable, with what it lists TIED to the program's text (the seventh form; the later family's looks); each row that meets fmt, with fmt's text TOLD by the authors' own Lean function (tested against real Go, not proved from fmt's source: count such statements apart). THE CARD IS WHAT COUNTS. Prove the row's statement (the work); the ties are given (YtekmhdiajjfgfaaDoorTie.lean); close each card by the builder's one call (the guide's Derived/Test/ToyasCard.lean, 'card_holds'). Laid BY PROGRAM, IN A SANDBOX (cutbox-door.mjs). By AI agents, Wed Nov 11 2026. No macro, syntax, notation, axiom, sorry.
-/
import Derived.Test.YtekmhdiajjfgfaaDoorRows
import GoSem.ClaimSeven
namespace Go.Proofs.YtekmhdiajjfgfaaDoor
namespace Rows

/-- THE TIED CARD OF 'cotillionlaw18.RosterPlays'. -/
def rosterPlaysCard : Claim7 := { stood := { row := rosterPlaysRow, standIns := [], harness := (true, "73e75d92015e31f0366242bcb9c7d74be77aa8c8edce018d4ca78962583cbb2c"), looks := false }, kinds := [], alts := [], laidByText := true, laidKinds := [.data], laidTests := true, laidLooks := .later }
def RosterPlaysCardSaid : Prop := Claim7.holds Tryd.pinned (.plain (OpenSpec.ofChange rosterPlaysSpec)) rosterPlaysCard

/-- THE TIED CARD OF 'cotillionlaw18.RosterRows'. -/
def rosterRowsCard : Claim7 := { stood := { row := rosterRowsRow, standIns := [], harness := (true, "73e75d92015e31f0366242bcb9c7d74be77aa8c8edce018d4ca78962583cbb2c"), looks := false }, kinds := [], alts := [], laidByText := true, laidKinds := [.data], laidTests := true, laidLooks := .later }
def RosterRowsCardSaid : Prop := Claim7.holds Tryd.pinned (.plain (OpenSpec.ofChange rosterRowsSpec)) rosterRowsCard

/-- THE TIED CARD OF 'cotillionlaw18.RosterReads'. -/
def rosterReadsCard : Claim7 := { stood := { row := rosterReadsRow, standIns := [], harness := (true, "73e75d92015e31f0366242bcb9c7d74be77aa8c8edce018d4ca78962583cbb2c"), looks := false }, kinds := [], alts := [], laidByText := true, laidKinds := [.data], laidTests := true, laidLooks := .later }
def RosterReadsCardSaid : Prop := Claim7.holds Tryd.pinned (.plain (OpenSpec.ofChange rosterReadsSpec)) rosterReadsCard

/-- THE TIED CARD OF 'cotillionlaw18.RosterTexts'. -/
def rosterTextsCard : Claim7 := { stood := { row := rosterTextsRow, standIns := [], harness := (true, "73e75d92015e31f0366242bcb9c7d74be77aa8c8edce018d4ca78962583cbb2c"), looks := false }, kinds := [], alts := [], laidByText := true, laidKinds := [.data], laidTests := true, laidLooks := .later }
def RosterTextsCardSaid : Prop := Claim7.holds Tryd.pinned (.plain (OpenSpec.ofChange rosterTextsSpec)) rosterTextsCard

/-- THE SECOND FORM's CARD OF 'cotillionlaw18.RosterPlays'. -/
def rosterPlaysUptoCard : Claim7 := { stood := { row := rosterPlaysUptoRow, standIns := [], harness := (true, "73e75d92015e31f0366242bcb9c7d74be77aa8c8edce018d4ca78962583cbb2c"), looks := false }, kinds := [], alts := [], laidByText := true, laidKinds := [.data], laidTests := true, laidLooks := .later }
def RosterPlaysUptoCardSaid : Prop := Claim7.holds Tryd.pinned (.plain (OpenSpec.upto rosterPlaysSpec)) rosterPlaysUptoCard

/-- THE SECOND FORM's CARD OF 'cotillionlaw18.RosterRows'. -/
def rosterRowsUptoCard : Claim7 := { stood := { row := rosterRowsUptoRow, standIns := [], harness := (true, "73e75d92015e31f0366242bcb9c7d74be77aa8c8edce018d4ca78962583cbb2c"), looks := false }, kinds := [], alts := [], laidByText := true, laidKinds := [.data], laidTests := true, laidLooks := .later }
def RosterRowsUptoCardSaid : Prop := Claim7.holds Tryd.pinned (.plain (OpenSpec.upto rosterRowsSpec)) rosterRowsUptoCard

/-- THE SECOND FORM's CARD OF 'cotillionlaw18.RosterReads'. -/
def rosterReadsUptoCard : Claim7 := { stood := { row := rosterReadsUptoRow, standIns := [], harness := (true, "73e75d92015e31f0366242bcb9c7d74be77aa8c8edce018d4ca78962583cbb2c"), looks := false }, kinds := [], alts := [], laidByText := true, laidKinds := [.data], laidTests := true, laidLooks := .later }
def RosterReadsUptoCardSaid : Prop := Claim7.holds Tryd.pinned (.plain (OpenSpec.upto rosterReadsSpec)) rosterReadsUptoCard

/-- THE SECOND FORM's CARD OF 'cotillionlaw18.RosterTexts'. -/
def rosterTextsUptoCard : Claim7 := { stood := { row := rosterTextsUptoRow, standIns := [], harness := (true, "73e75d92015e31f0366242bcb9c7d74be77aa8c8edce018d4ca78962583cbb2c"), looks := false }, kinds := [], alts := [], laidByText := true, laidKinds := [.data], laidTests := true, laidLooks := .later }
def RosterTextsUptoCardSaid : Prop := Claim7.holds Tryd.pinned (.plain (OpenSpec.upto rosterTextsSpec)) rosterTextsUptoCard
end Rows
end Go.Proofs.YtekmhdiajjfgfaaDoor
