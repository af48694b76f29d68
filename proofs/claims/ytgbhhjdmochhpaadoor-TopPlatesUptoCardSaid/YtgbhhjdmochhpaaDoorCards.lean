/-
  DERIVED. GIVEN WITH THE SEED: THE CARDS: each row of YtgbhhjdmochhpaaDoorRows.lean that lists a variable, with what it lists TIED to the program's text (the seventh form; the later family's looks); each row that meets fmt, with fmt's text TOLD by the authors' own Lean function (tested against real Go, not proved from fmt's source: count such statements apart). THE CARD IS WHAT COUNTS. Prove the row's statement (the work); the ties are given (YtgbhhjdmochhpaaDoorTie.lean); close each card by the builder's one call (the guide's Derived/Test/ToyasCard.lean, 'card_holds'). Laid BY PROGRAM, IN A SANDBOX (cutbox-door.mjs). By AI agents, Wed Nov 11 2026. No macro, syntax, notation, axiom, sorry.
-/
import Derived.Test.YtgbhhjdmochhpaaDoorRows
import GoSem.ClaimSeven
namespace Go.Proofs.YtgbhhjdmochhpaaDoor
namespace Rows

/-- THE TIED CARD OF 'shipyardtop.TopPlates'. -/
def topPlatesCard : Claim7 := { stood := { row := topPlatesRow, standIns := [], harness := (true, "99f7efe85b86c5de3fe9b1a84fcce4c505b71782cb8658a222318b4eb4dd1137"), looks := false }, kinds := [], alts := [], laidByText := true, laidKinds := [.data, .pinned], laidTests := true, laidLooks := .later }
def TopPlatesCardSaid : Prop := Claim7.holds Tryd.pinned (.plain (OpenSpec.ofChange topPlatesSpec)) topPlatesCard

/-- THE SECOND FORM's CARD OF 'shipyardtop.TopPlates'. -/
def topPlatesUptoCard : Claim7 := { stood := { row := topPlatesUptoRow, standIns := [], harness := (true, "99f7efe85b86c5de3fe9b1a84fcce4c505b71782cb8658a222318b4eb4dd1137"), looks := false }, kinds := [], alts := [], laidByText := true, laidKinds := [.data, .pinned], laidTests := true, laidLooks := .later }
def TopPlatesUptoCardSaid : Prop := Claim7.holds Tryd.pinned (.plain (OpenSpec.upto topPlatesSpec)) topPlatesUptoCard
end Rows
end Go.Proofs.YtgbhhjdmochhpaaDoor
