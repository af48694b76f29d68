/-
  DERIVED. GIVEN WITH THE SEED: THE CARDS: each row of YtgbhhjdmochhpaaGreatDoorRows.lean that lists a variable, with what it lists TIED to the program's text (the seventh form; the later family's looks); each row that meets fmt, with fmt's text TOLD by the authors' own Lean function (tested against real Go, not proved from fmt's source: count such statements apart). THE CARD IS WHAT COUNTS. Prove the row's statement (the work); the ties are given (YtgbhhjdmochhpaaGreatDoorTie.lean); close each card by the builder's one call (the guide's Derived/Test/ToyasCard.lean, 'card_holds'). Laid BY PROGRAM, IN A SANDBOX (cutbox-door.mjs). By AI agents, Wed Nov 11 2026. No macro, syntax, notation, axiom, sorry.
-/
import Derived.Test.YtgbhhjdmochhpaaGreatDoorRows
import GoSem.ClaimSeven
namespace Go.Proofs.YtgbhhjdmochhpaaGreatDoor
namespace Rows

/-- THE TIED CARD OF 'shipyardtop.TopSpools'. -/
def topSpoolsCard : Claim7 := { stood := { row := topSpoolsRow, standIns := [], harness := (true, "180b3cebf2734fb7e3bb42ecf7f83bd1b8d8b9b527dd2657d4c0a5b07c44b872"), looks := false }, kinds := [], alts := [], laidByText := true, laidKinds := [.data, .pinned], laidTests := true, laidLooks := .later }
def TopSpoolsCardSaid : Prop := Claim7.holds Tryz.pinned (.plain (OpenSpec.ofChange topSpoolsSpec)) topSpoolsCard

/-- THE SECOND FORM's CARD OF 'shipyardtop.TopSpools'. -/
def topSpoolsUptoCard : Claim7 := { stood := { row := topSpoolsUptoRow, standIns := [], harness := (true, "180b3cebf2734fb7e3bb42ecf7f83bd1b8d8b9b527dd2657d4c0a5b07c44b872"), looks := false }, kinds := [], alts := [], laidByText := true, laidKinds := [.data, .pinned], laidTests := true, laidLooks := .later }
def TopSpoolsUptoCardSaid : Prop := Claim7.holds Tryz.pinned (.plain (OpenSpec.upto topSpoolsSpec)) topSpoolsUptoCard
end Rows
end Go.Proofs.YtgbhhjdmochhpaaGreatDoor
