/-
  DERIVED. GIVEN WITH THE SEED: THE CARDS: each row of YtpkgadjglidnaaaDoorRows.lean that lists a variable, with what it lists TIED to the program's text (the seventh form; the later family's looks); each row that meets fmt, with fmt's text TOLD by the authors' own Lean function (tested against real Go, not proved from fmt's source: count such statements apart). THE CARD IS WHAT COUNTS. Prove the row's statement (the work); the ties are given (YtpkgadjglidnaaaDoorTie.lean); close each card by the builder's one call (the guide's Derived/Test/ToyasCard.lean, 'card_holds'). Laid BY PROGRAM, IN A SANDBOX (cutbox-door.mjs). By AI agents, Wed Nov 11 2026. No macro, syntax, notation, axiom, sorry.
-/
import Derived.Test.YtpkgadjglidnaaaDoorRows
import GoSem.ClaimSeven
namespace Go.Proofs.YtpkgadjglidnaaaDoor
namespace Rows

/-- THE TIED CARD OF 'shipyardlaw45.CableChecks'. -/
def cableChecksCard : Claim7 := { stood := { row := cableChecksRow, standIns := [], harness := (true, "6133d5eabdf02d8b1ca207ce69bcd95146dfd70028384c6b6333511a6c3d7ede"), looks := false }, kinds := [], alts := [], laidByText := true, laidKinds := [.data, .pinned], laidTests := true, laidLooks := .later }
def CableChecksCardSaid : Prop := Claim7.holds Tryd.pinned (.plain (OpenSpec.ofChange cableChecksSpec)) cableChecksCard

/-- THE TIED CARD OF 'shipyardlaw45.CableRoutes'. -/
def cableRoutesCard : Claim7 := { stood := { row := cableRoutesRow, standIns := [], harness := (true, "6133d5eabdf02d8b1ca207ce69bcd95146dfd70028384c6b6333511a6c3d7ede"), looks := false }, kinds := [], alts := [], laidByText := true, laidKinds := [.data, .pinned], laidTests := true, laidLooks := .later }
def CableRoutesCardSaid : Prop := Claim7.holds Tryd.pinned (.plain (OpenSpec.ofChange cableRoutesSpec)) cableRoutesCard

/-- THE TIED CARD OF 'shipyardlaw45.CableLays'. -/
def cableLaysCard : Claim7 := { stood := { row := cableLaysRow, standIns := [], harness := (true, "6133d5eabdf02d8b1ca207ce69bcd95146dfd70028384c6b6333511a6c3d7ede"), looks := false }, kinds := [], alts := [], laidByText := true, laidKinds := [.data, .pinned], laidTests := true, laidLooks := .later }
def CableLaysCardSaid : Prop := Claim7.holds Tryd.pinned (.plain (OpenSpec.ofChange cableLaysSpec)) cableLaysCard

/-- THE TIED CARD OF 'shipyardlaw45.CableUses'. -/
def cableUsesCard : Claim7 := { stood := { row := cableUsesRow, standIns := [], harness := (true, "6133d5eabdf02d8b1ca207ce69bcd95146dfd70028384c6b6333511a6c3d7ede"), looks := false }, kinds := [], alts := [], laidByText := true, laidKinds := [.data, .pinned], laidTests := true, laidLooks := .later }
def CableUsesCardSaid : Prop := Claim7.holds Tryd.pinned (.plain (OpenSpec.ofChange cableUsesSpec)) cableUsesCard

/-- THE TIED CARD OF 'shipyardlaw45.CableShortest'. -/
def cableShortestCard : Claim7 := { stood := { row := cableShortestRow, standIns := [], harness := (true, "6133d5eabdf02d8b1ca207ce69bcd95146dfd70028384c6b6333511a6c3d7ede"), looks := false }, kinds := [], alts := [], laidByText := true, laidKinds := [.data, .pinned], laidTests := true, laidLooks := .later }
def CableShortestCardSaid : Prop := Claim7.holds Tryd.pinned (.plain (OpenSpec.ofChange cableShortestSpec)) cableShortestCard

/-- THE TIED CARD OF 'shipyardlaw45.CableBack'. -/
def cableBackCard : Claim7 := { stood := { row := cableBackRow, standIns := [], harness := (true, "6133d5eabdf02d8b1ca207ce69bcd95146dfd70028384c6b6333511a6c3d7ede"), looks := false }, kinds := [], alts := [], laidByText := true, laidKinds := [.data, .pinned], laidTests := true, laidLooks := .later }
def CableBackCardSaid : Prop := Claim7.holds Tryd.pinned (.plain (OpenSpec.ofChange cableBackSpec)) cableBackCard

/-- THE TIED CARD OF 'shipyardlaw45.CableFits'. -/
def cableFitsCard : Claim7 := { stood := { row := cableFitsRow, standIns := [], harness := (true, "6133d5eabdf02d8b1ca207ce69bcd95146dfd70028384c6b6333511a6c3d7ede"), looks := false }, kinds := [], alts := [], laidByText := true, laidKinds := [.data, .pinned], laidTests := true, laidLooks := .later }
def CableFitsCardSaid : Prop := Claim7.holds Tryd.pinned (.plain (OpenSpec.ofChange cableFitsSpec)) cableFitsCard

/-- THE SECOND FORM's CARD OF 'shipyardlaw45.CableChecks'. -/
def cableChecksUptoCard : Claim7 := { stood := { row := cableChecksUptoRow, standIns := [], harness := (true, "6133d5eabdf02d8b1ca207ce69bcd95146dfd70028384c6b6333511a6c3d7ede"), looks := false }, kinds := [], alts := [], laidByText := true, laidKinds := [.data, .pinned], laidTests := true, laidLooks := .later }
def CableChecksUptoCardSaid : Prop := Claim7.holds Tryd.pinned (.plain (OpenSpec.upto cableChecksSpec)) cableChecksUptoCard

/-- THE SECOND FORM's CARD OF 'shipyardlaw45.CableRoutes'. -/
def cableRoutesUptoCard : Claim7 := { stood := { row := cableRoutesUptoRow, standIns := [], harness := (true, "6133d5eabdf02d8b1ca207ce69bcd95146dfd70028384c6b6333511a6c3d7ede"), looks := false }, kinds := [], alts := [], laidByText := true, laidKinds := [.data, .pinned], laidTests := true, laidLooks := .later }
def CableRoutesUptoCardSaid : Prop := Claim7.holds Tryd.pinned (.plain (OpenSpec.upto cableRoutesSpec)) cableRoutesUptoCard

/-- THE SECOND FORM's CARD OF 'shipyardlaw45.CableLays'. -/
def cableLaysUptoCard : Claim7 := { stood := { row := cableLaysUptoRow, standIns := [], harness := (true, "6133d5eabdf02d8b1ca207ce69bcd95146dfd70028384c6b6333511a6c3d7ede"), looks := false }, kinds := [], alts := [], laidByText := true, laidKinds := [.data, .pinned], laidTests := true, laidLooks := .later }
def CableLaysUptoCardSaid : Prop := Claim7.holds Tryd.pinned (.plain (OpenSpec.upto cableLaysSpec)) cableLaysUptoCard

/-- THE SECOND FORM's CARD OF 'shipyardlaw45.CableUses'. -/
def cableUsesUptoCard : Claim7 := { stood := { row := cableUsesUptoRow, standIns := [], harness := (true, "6133d5eabdf02d8b1ca207ce69bcd95146dfd70028384c6b6333511a6c3d7ede"), looks := false }, kinds := [], alts := [], laidByText := true, laidKinds := [.data, .pinned], laidTests := true, laidLooks := .later }
def CableUsesUptoCardSaid : Prop := Claim7.holds Tryd.pinned (.plain (OpenSpec.upto cableUsesSpec)) cableUsesUptoCard

/-- THE SECOND FORM's CARD OF 'shipyardlaw45.CableShortest'. -/
def cableShortestUptoCard : Claim7 := { stood := { row := cableShortestUptoRow, standIns := [], harness := (true, "6133d5eabdf02d8b1ca207ce69bcd95146dfd70028384c6b6333511a6c3d7ede"), looks := false }, kinds := [], alts := [], laidByText := true, laidKinds := [.data, .pinned], laidTests := true, laidLooks := .later }
def CableShortestUptoCardSaid : Prop := Claim7.holds Tryd.pinned (.plain (OpenSpec.upto cableShortestSpec)) cableShortestUptoCard

/-- THE SECOND FORM's CARD OF 'shipyardlaw45.CableBack'. -/
def cableBackUptoCard : Claim7 := { stood := { row := cableBackUptoRow, standIns := [], harness := (true, "6133d5eabdf02d8b1ca207ce69bcd95146dfd70028384c6b6333511a6c3d7ede"), looks := false }, kinds := [], alts := [], laidByText := true, laidKinds := [.data, .pinned], laidTests := true, laidLooks := .later }
def CableBackUptoCardSaid : Prop := Claim7.holds Tryd.pinned (.plain (OpenSpec.upto cableBackSpec)) cableBackUptoCard

/-- THE SECOND FORM's CARD OF 'shipyardlaw45.CableFits'. -/
def cableFitsUptoCard : Claim7 := { stood := { row := cableFitsUptoRow, standIns := [], harness := (true, "6133d5eabdf02d8b1ca207ce69bcd95146dfd70028384c6b6333511a6c3d7ede"), looks := false }, kinds := [], alts := [], laidByText := true, laidKinds := [.data, .pinned], laidTests := true, laidLooks := .later }
def CableFitsUptoCardSaid : Prop := Claim7.holds Tryd.pinned (.plain (OpenSpec.upto cableFitsSpec)) cableFitsUptoCard
end Rows
end Go.Proofs.YtpkgadjglidnaaaDoor
