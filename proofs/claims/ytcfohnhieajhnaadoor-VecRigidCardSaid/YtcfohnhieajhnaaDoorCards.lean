/-
  DERIVED. GIVEN WITH THE SEED: THE CARDS: each row of YtcfohnhieajhnaaDoorRows.lean that lists a variable, with what it lists TIED to the program's text (the seventh form; the later family's looks); each row that meets fmt, with fmt's text TOLD by the authors' own Lean function (tested against real Go, not proved from fmt's source: count such statements apart). THE CARD IS WHAT COUNTS. Prove the row's statement (the work); the ties are given (YtcfohnhieajhnaaDoorTie.lean); close each card by the builder's one call (the guide's Derived/Test/ToyasCard.lean, 'card_holds'). Laid BY PROGRAM, IN A SANDBOX (cutbox-door.mjs). By AI agents, Wed Nov 11 2026. No macro, syntax, notation, axiom, sorry.
-/
import Derived.Test.YtcfohnhieajhnaaDoorRows
import GoSem.ClaimSeven
namespace Go.Proofs.YtcfohnhieajhnaaDoor
namespace Rows

/-- THE TIED CARD OF 'shipyardlaw11.VecRotations'. -/
def vecRotationsCard : Claim7 := { stood := { row := vecRotationsRow, standIns := [], harness := (true, "131c5a521ef432085db6e522125595f76754b58ac2cd0b9d54bee4d044862d69"), looks := false }, kinds := [], alts := [], laidByText := true, laidKinds := [.data], laidTests := true, laidLooks := .later }
def VecRotationsCardSaid : Prop := Claim7.holds Tryd.pinned (.plain (OpenSpec.ofChange vecRotationsSpec)) vecRotationsCard

/-- THE TIED CARD OF 'shipyardlaw11.VecMeets'. -/
def vecMeetsCard : Claim7 := { stood := { row := vecMeetsRow, standIns := [], harness := (true, "131c5a521ef432085db6e522125595f76754b58ac2cd0b9d54bee4d044862d69"), looks := false }, kinds := [], alts := [], laidByText := true, laidKinds := [.data], laidTests := true, laidLooks := .later }
def VecMeetsCardSaid : Prop := Claim7.holds Tryd.pinned (.plain (OpenSpec.ofChange vecMeetsSpec)) vecMeetsCard

/-- THE TIED CARD OF 'shipyardlaw11.VecGroup'. -/
def vecGroupCard : Claim7 := { stood := { row := vecGroupRow, standIns := [], harness := (true, "131c5a521ef432085db6e522125595f76754b58ac2cd0b9d54bee4d044862d69"), looks := false }, kinds := [], alts := [], laidByText := true, laidKinds := [.data], laidTests := true, laidLooks := .later }
def VecGroupCardSaid : Prop := Claim7.holds Tryd.pinned (.plain (OpenSpec.ofChange vecGroupSpec)) vecGroupCard

/-- THE TIED CARD OF 'shipyardlaw11.VecRigid'. -/
def vecRigidCard : Claim7 := { stood := { row := vecRigidRow, standIns := [], harness := (true, "131c5a521ef432085db6e522125595f76754b58ac2cd0b9d54bee4d044862d69"), looks := false }, kinds := [], alts := [], laidByText := true, laidKinds := [.data], laidTests := true, laidLooks := .later }
def VecRigidCardSaid : Prop := Claim7.holds Tryd.pinned (.plain (OpenSpec.ofChange vecRigidSpec)) vecRigidCard

/-- THE TIED CARD OF 'shipyardlaw11.VecChains'. -/
def vecChainsCard : Claim7 := { stood := { row := vecChainsRow, standIns := [], harness := (true, "131c5a521ef432085db6e522125595f76754b58ac2cd0b9d54bee4d044862d69"), looks := false }, kinds := [], alts := [], laidByText := true, laidKinds := [.data], laidTests := true, laidLooks := .later }
def VecChainsCardSaid : Prop := Claim7.holds Tryd.pinned (.plain (OpenSpec.ofChange vecChainsSpec)) vecChainsCard

/-- THE TIED CARD OF 'shipyardlaw11.VecBoxes'. -/
def vecBoxesCard : Claim7 := { stood := { row := vecBoxesRow, standIns := [], harness := (true, "131c5a521ef432085db6e522125595f76754b58ac2cd0b9d54bee4d044862d69"), looks := false }, kinds := [], alts := [], laidByText := true, laidKinds := [.data], laidTests := true, laidLooks := .later }
def VecBoxesCardSaid : Prop := Claim7.holds Tryd.pinned (.plain (OpenSpec.ofChange vecBoxesSpec)) vecBoxesCard

/-- THE TIED CARD OF 'shipyardlaw11.VecPlaces'. -/
def vecPlacesCard : Claim7 := { stood := { row := vecPlacesRow, standIns := [], harness := (true, "131c5a521ef432085db6e522125595f76754b58ac2cd0b9d54bee4d044862d69"), looks := false }, kinds := [], alts := [], laidByText := true, laidKinds := [.data], laidTests := true, laidLooks := .later }
def VecPlacesCardSaid : Prop := Claim7.holds Tryd.pinned (.plain (OpenSpec.ofChange vecPlacesSpec)) vecPlacesCard

/-- THE TIED CARD OF 'shipyardlaw11.VecTurns'. -/
def vecTurnsCard : Claim7 := { stood := { row := vecTurnsRow, standIns := [], harness := (true, "131c5a521ef432085db6e522125595f76754b58ac2cd0b9d54bee4d044862d69"), looks := false }, kinds := [], alts := [], laidByText := true, laidKinds := [.data], laidTests := true, laidLooks := .later }
def VecTurnsCardSaid : Prop := Claim7.holds Tryd.pinned (.plain (OpenSpec.ofChange vecTurnsSpec)) vecTurnsCard

/-- THE SECOND FORM's CARD OF 'shipyardlaw11.VecRotations'. -/
def vecRotationsUptoCard : Claim7 := { stood := { row := vecRotationsUptoRow, standIns := [], harness := (true, "131c5a521ef432085db6e522125595f76754b58ac2cd0b9d54bee4d044862d69"), looks := false }, kinds := [], alts := [], laidByText := true, laidKinds := [.data], laidTests := true, laidLooks := .later }
def VecRotationsUptoCardSaid : Prop := Claim7.holds Tryd.pinned (.plain (OpenSpec.upto vecRotationsSpec)) vecRotationsUptoCard

/-- THE SECOND FORM's CARD OF 'shipyardlaw11.VecMeets'. -/
def vecMeetsUptoCard : Claim7 := { stood := { row := vecMeetsUptoRow, standIns := [], harness := (true, "131c5a521ef432085db6e522125595f76754b58ac2cd0b9d54bee4d044862d69"), looks := false }, kinds := [], alts := [], laidByText := true, laidKinds := [.data], laidTests := true, laidLooks := .later }
def VecMeetsUptoCardSaid : Prop := Claim7.holds Tryd.pinned (.plain (OpenSpec.upto vecMeetsSpec)) vecMeetsUptoCard

/-- THE SECOND FORM's CARD OF 'shipyardlaw11.VecGroup'. -/
def vecGroupUptoCard : Claim7 := { stood := { row := vecGroupUptoRow, standIns := [], harness := (true, "131c5a521ef432085db6e522125595f76754b58ac2cd0b9d54bee4d044862d69"), looks := false }, kinds := [], alts := [], laidByText := true, laidKinds := [.data], laidTests := true, laidLooks := .later }
def VecGroupUptoCardSaid : Prop := Claim7.holds Tryd.pinned (.plain (OpenSpec.upto vecGroupSpec)) vecGroupUptoCard

/-- THE SECOND FORM's CARD OF 'shipyardlaw11.VecRigid'. -/
def vecRigidUptoCard : Claim7 := { stood := { row := vecRigidUptoRow, standIns := [], harness := (true, "131c5a521ef432085db6e522125595f76754b58ac2cd0b9d54bee4d044862d69"), looks := false }, kinds := [], alts := [], laidByText := true, laidKinds := [.data], laidTests := true, laidLooks := .later }
def VecRigidUptoCardSaid : Prop := Claim7.holds Tryd.pinned (.plain (OpenSpec.upto vecRigidSpec)) vecRigidUptoCard

/-- THE SECOND FORM's CARD OF 'shipyardlaw11.VecChains'. -/
def vecChainsUptoCard : Claim7 := { stood := { row := vecChainsUptoRow, standIns := [], harness := (true, "131c5a521ef432085db6e522125595f76754b58ac2cd0b9d54bee4d044862d69"), looks := false }, kinds := [], alts := [], laidByText := true, laidKinds := [.data], laidTests := true, laidLooks := .later }
def VecChainsUptoCardSaid : Prop := Claim7.holds Tryd.pinned (.plain (OpenSpec.upto vecChainsSpec)) vecChainsUptoCard

/-- THE SECOND FORM's CARD OF 'shipyardlaw11.VecBoxes'. -/
def vecBoxesUptoCard : Claim7 := { stood := { row := vecBoxesUptoRow, standIns := [], harness := (true, "131c5a521ef432085db6e522125595f76754b58ac2cd0b9d54bee4d044862d69"), looks := false }, kinds := [], alts := [], laidByText := true, laidKinds := [.data], laidTests := true, laidLooks := .later }
def VecBoxesUptoCardSaid : Prop := Claim7.holds Tryd.pinned (.plain (OpenSpec.upto vecBoxesSpec)) vecBoxesUptoCard

/-- THE SECOND FORM's CARD OF 'shipyardlaw11.VecPlaces'. -/
def vecPlacesUptoCard : Claim7 := { stood := { row := vecPlacesUptoRow, standIns := [], harness := (true, "131c5a521ef432085db6e522125595f76754b58ac2cd0b9d54bee4d044862d69"), looks := false }, kinds := [], alts := [], laidByText := true, laidKinds := [.data], laidTests := true, laidLooks := .later }
def VecPlacesUptoCardSaid : Prop := Claim7.holds Tryd.pinned (.plain (OpenSpec.upto vecPlacesSpec)) vecPlacesUptoCard

/-- THE SECOND FORM's CARD OF 'shipyardlaw11.VecTurns'. -/
def vecTurnsUptoCard : Claim7 := { stood := { row := vecTurnsUptoRow, standIns := [], harness := (true, "131c5a521ef432085db6e522125595f76754b58ac2cd0b9d54bee4d044862d69"), looks := false }, kinds := [], alts := [], laidByText := true, laidKinds := [.data], laidTests := true, laidLooks := .later }
def VecTurnsUptoCardSaid : Prop := Claim7.holds Tryd.pinned (.plain (OpenSpec.upto vecTurnsSpec)) vecTurnsUptoCard
end Rows
end Go.Proofs.YtcfohnhieajhnaaDoor
