/-
  DERIVED. GIVEN WITH THE SEED: THE CARDS: each row of YtiddpaaihloopaaGreatDoorRows.lean that lists a variable, with what it lists TIED to the program's text (the seventh form; the later family's looks); each row that meets fmt, with fmt's text TOLD by the authors' own Lean function (tested against real Go, not proved from fmt's source: count such statements apart). THE CARD IS WHAT COUNTS. Prove the row's statement (the work); the ties are given (YtiddpaaihloopaaGreatDoorTie.lean); close each card by the builder's one call (the guide's Derived/Test/ToyasCard.lean, 'card_holds'). Laid BY PROGRAM, IN A SANDBOX (cutbox-door.mjs). By AI agents, Wed Nov 11 2026. No macro, syntax, notation, axiom, sorry.
-/
import Derived.Test.YtiddpaaihloopaaGreatDoorRows
import GoSem.ClaimSeven
namespace Go.Proofs.YtiddpaaihloopaaGreatDoor
namespace Rows

/-- THE TIED CARD OF 'shipyardlaw29.StockAdds'. -/
def stockAddsCard : Claim7 := { stood := { row := stockAddsRow, standIns := [], harness := (true, "8abf25efe3fb62749212cb9bcbe99bdc68e77d29d9fb425e421f73e029eddf14"), looks := false }, kinds := [], alts := [], laidByText := true, laidKinds := [.data, .pinned], laidTests := true, laidLooks := .later }
def StockAddsCardSaid : Prop := Claim7.holds Tryz.pinned (.plain (OpenSpec.ofChange stockAddsSpec)) stockAddsCard

/-- THE TIED CARD OF 'shipyardlaw29.StockTakes'. -/
def stockTakesCard : Claim7 := { stood := { row := stockTakesRow, standIns := [], harness := (true, "8abf25efe3fb62749212cb9bcbe99bdc68e77d29d9fb425e421f73e029eddf14"), looks := false }, kinds := [], alts := [], laidByText := true, laidKinds := [.data, .pinned], laidTests := true, laidLooks := .later }
def StockTakesCardSaid : Prop := Claim7.holds Tryz.pinned (.plain (OpenSpec.ofChange stockTakesSpec)) stockTakesCard

/-- THE TIED CARD OF 'shipyardlaw29.StockPicks'. -/
def stockPicksCard : Claim7 := { stood := { row := stockPicksRow, standIns := [], harness := (true, "8abf25efe3fb62749212cb9bcbe99bdc68e77d29d9fb425e421f73e029eddf14"), looks := false }, kinds := [], alts := [], laidByText := true, laidKinds := [.data, .pinned], laidTests := true, laidLooks := .later }
def StockPicksCardSaid : Prop := Claim7.holds Tryz.pinned (.plain (OpenSpec.ofChange stockPicksSpec)) stockPicksCard

/-- THE SECOND FORM's CARD OF 'shipyardlaw29.StockAdds'. -/
def stockAddsUptoCard : Claim7 := { stood := { row := stockAddsUptoRow, standIns := [], harness := (true, "8abf25efe3fb62749212cb9bcbe99bdc68e77d29d9fb425e421f73e029eddf14"), looks := false }, kinds := [], alts := [], laidByText := true, laidKinds := [.data, .pinned], laidTests := true, laidLooks := .later }
def StockAddsUptoCardSaid : Prop := Claim7.holds Tryz.pinned (.plain (OpenSpec.upto stockAddsSpec)) stockAddsUptoCard

/-- THE SECOND FORM's CARD OF 'shipyardlaw29.StockTakes'. -/
def stockTakesUptoCard : Claim7 := { stood := { row := stockTakesUptoRow, standIns := [], harness := (true, "8abf25efe3fb62749212cb9bcbe99bdc68e77d29d9fb425e421f73e029eddf14"), looks := false }, kinds := [], alts := [], laidByText := true, laidKinds := [.data, .pinned], laidTests := true, laidLooks := .later }
def StockTakesUptoCardSaid : Prop := Claim7.holds Tryz.pinned (.plain (OpenSpec.upto stockTakesSpec)) stockTakesUptoCard

/-- THE SECOND FORM's CARD OF 'shipyardlaw29.StockPicks'. -/
def stockPicksUptoCard : Claim7 := { stood := { row := stockPicksUptoRow, standIns := [], harness := (true, "8abf25efe3fb62749212cb9bcbe99bdc68e77d29d9fb425e421f73e029eddf14"), looks := false }, kinds := [], alts := [], laidByText := true, laidKinds := [.data, .pinned], laidTests := true, laidLooks := .later }
def StockPicksUptoCardSaid : Prop := Claim7.holds Tryz.pinned (.plain (OpenSpec.upto stockPicksSpec)) stockPicksUptoCard
end Rows
end Go.Proofs.YtiddpaaihloopaaGreatDoor
