/-
  DERIVED. GIVEN WITH THE SEED: THE CARDS: each row of YtbfbifogamlepaaDoorRows.lean that lists a variable, with what it lists TIED to the program's text (the seventh form; the later family's looks); each row that meets fmt, with fmt's text TOLD by the authors' own Lean function (tested against real Go, not proved from fmt's source: count such statements apart). THE CARD IS WHAT COUNTS. Prove the row's statement (the work); the ties are given (YtbfbifogamlepaaDoorTie.lean); close each card by the builder's one call (the guide's Derived/Test/ToyasCard.lean, 'card_holds'). Laid BY PROGRAM, IN A SANDBOX (cutbox-door.mjs). By AI agents, Wed Nov 11 2026. No macro, syntax, notation, axiom, sorry.
-/
import Derived.Test.YtbfbifogamlepaaDoorRows
import GoSem.ClaimSeven
namespace Go.Proofs.YtbfbifogamlepaaDoor
namespace Rows

/-- THE TIED CARD OF 'shipyardtop.TopLifts'. -/
def topLiftsCard : Claim7 := { stood := { row := topLiftsRow, standIns := [], harness := (true, "8310b7d4c359511de8f10225f9b4dde1a7e04b3d113c8aff97ea99f4a72a71de"), looks := false }, kinds := [], alts := [], laidByText := true, laidKinds := [.data, .pinned], laidTests := true, laidLooks := .later }
def TopLiftsCardSaid : Prop := Claim7.holds Tryd.pinned (.plain (OpenSpec.ofChange topLiftsSpec)) topLiftsCard

/-- THE SECOND FORM's CARD OF 'shipyardtop.TopLifts'. -/
def topLiftsUptoCard : Claim7 := { stood := { row := topLiftsUptoRow, standIns := [], harness := (true, "8310b7d4c359511de8f10225f9b4dde1a7e04b3d113c8aff97ea99f4a72a71de"), looks := false }, kinds := [], alts := [], laidByText := true, laidKinds := [.data, .pinned], laidTests := true, laidLooks := .later }
def TopLiftsUptoCardSaid : Prop := Claim7.holds Tryd.pinned (.plain (OpenSpec.upto topLiftsSpec)) topLiftsUptoCard
end Rows
end Go.Proofs.YtbfbifogamlepaaDoor
