/-
  DERIVED. GIVEN WITH THE SEED: THE CARDS: each row of YtencnijahlkbaaaGreatDoorRows.lean that lists a variable, with what it lists TIED to the program's text (the seventh form; the later family's looks); each row that meets fmt, with fmt's text TOLD by the authors' own Lean function (tested against real Go, not proved from fmt's source: count such statements apart). THE CARD IS WHAT COUNTS. Prove the row's statement (the work); the ties are given (YtencnijahlkbaaaGreatDoorTie.lean); close each card by the builder's one call (the guide's Derived/Test/ToyasCard.lean, 'card_holds'). Laid BY PROGRAM, IN A SANDBOX (cutbox-door.mjs). By AI agents, Wed Nov 11 2026. No macro, syntax, notation, axiom, sorry.
-/
import Derived.Test.YtencnijahlkbaaaGreatDoorRows
import GoSem.ClaimSeven
namespace Go.Proofs.YtencnijahlkbaaaGreatDoor
namespace Rows

/-- THE TIED CARD OF 'shipyardtop.TopOpenings'. -/
def topOpeningsCard : Claim7 := { stood := { row := topOpeningsRow, standIns := [], harness := (true, "b5d3fb42cb34300376cf90a5e7ff80652d97bfbfe836780d04fa1ae4df7e6830"), looks := false }, kinds := [], alts := [], laidByText := true, laidKinds := [.data, .data, .pinned], laidTests := true, laidLooks := .later }
def TopOpeningsCardSaid : Prop := Claim7.holds Tryz.pinned (.plain (OpenSpec.ofChange topOpeningsSpec)) topOpeningsCard

/-- THE SECOND FORM's CARD OF 'shipyardtop.TopOpenings'. -/
def topOpeningsUptoCard : Claim7 := { stood := { row := topOpeningsUptoRow, standIns := [], harness := (true, "b5d3fb42cb34300376cf90a5e7ff80652d97bfbfe836780d04fa1ae4df7e6830"), looks := false }, kinds := [], alts := [], laidByText := true, laidKinds := [.data, .data, .pinned], laidTests := true, laidLooks := .later }
def TopOpeningsUptoCardSaid : Prop := Claim7.holds Tryz.pinned (.plain (OpenSpec.upto topOpeningsSpec)) topOpeningsUptoCard
end Rows
end Go.Proofs.YtencnijahlkbaaaGreatDoor
