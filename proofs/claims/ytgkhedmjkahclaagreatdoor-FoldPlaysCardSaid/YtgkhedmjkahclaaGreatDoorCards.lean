/-
  DERIVED. GIVEN WITH THE SEED: THE CARDS: each row of YtgkhedmjkahclaaGreatDoorRows.lean that lists a variable, with what it lists TIED to the program's text (the seventh form; the later family's looks); each row that meets fmt, with fmt's text TOLD by the authors' own Lean function (tested against real Go, not proved from fmt's source: count such statements apart). THE CARD IS WHAT COUNTS. Prove the row's statement (the work); the ties are given (YtgkhedmjkahclaaGreatDoorTie.lean); close each card by the builder's one call (the guide's Derived/Test/ToyasCard.lean, 'card_holds'). Laid BY PROGRAM, IN A SANDBOX (cutbox-door.mjs). By AI agents, Wed Nov 11 2026. No macro, syntax, notation, axiom, sorry.
-/
import Derived.Test.YtgkhedmjkahclaaGreatDoorRows
import GoSem.ClaimSeven
namespace Go.Proofs.YtgkhedmjkahclaaGreatDoor
namespace Rows

/-- THE TIED CARD OF 'cotillionlaw22.FoldPlays'. -/
def foldPlaysCard : Claim7 := { stood := { row := foldPlaysRow, standIns := [], harness := (true, "d149d779ac089365f3c600f0d5e3e0d27559a5fddf009011d39d04c4f81fb2a2"), looks := false }, kinds := [], alts := [], laidByText := true, laidKinds := [.data], laidTests := true, laidLooks := .later }
def FoldPlaysCardSaid : Prop := Claim7.holds Tryz.pinned (.plain (OpenSpec.ofChange foldPlaysSpec)) foldPlaysCard

/-- THE SECOND FORM's CARD OF 'cotillionlaw22.FoldPlays'. -/
def foldPlaysUptoCard : Claim7 := { stood := { row := foldPlaysUptoRow, standIns := [], harness := (true, "d149d779ac089365f3c600f0d5e3e0d27559a5fddf009011d39d04c4f81fb2a2"), looks := false }, kinds := [], alts := [], laidByText := true, laidKinds := [.data], laidTests := true, laidLooks := .later }
def FoldPlaysUptoCardSaid : Prop := Claim7.holds Tryz.pinned (.plain (OpenSpec.upto foldPlaysSpec)) foldPlaysUptoCard
end Rows
end Go.Proofs.YtgkhedmjkahclaaGreatDoor
