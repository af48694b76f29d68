/-
  DERIVED. GIVEN WITH THE SEED: THE CARDS: each row of YtiddpaaihloopaaDoorRows.lean that lists a variable, with what it lists TIED to the program's text (the seventh form; the later family's looks); each row that meets fmt, with fmt's text TOLD by the authors' own Lean function (tested against real Go, not proved from fmt's source: count such statements apart). THE CARD IS WHAT COUNTS. Prove the row's statement (the work); the ties are given (YtiddpaaihloopaaDoorTie.lean); close each card by the builder's one call (the guide's Derived/Test/ToyasCard.lean, 'card_holds'). Laid BY PROGRAM, IN A SANDBOX (cutbox-door.mjs). By AI agents, Wed Nov 11 2026. No macro, syntax, notation, axiom, sorry.
-/
import Derived.Test.YtiddpaaihloopaaDoorRows
import GoSem.ClaimSeven
namespace Go.Proofs.YtiddpaaihloopaaDoor
namespace Rows

/-- THE TIED CARD OF 'shipyardlaw29.StockChecks'. -/
def stockChecksCard : Claim7 := { stood := { row := stockChecksRow, standIns := [], harness := (true, "d3be9044f2c9254f4de9bd1e10ed5f11cbc8db3c8d3144316fd379af426783d5"), looks := false }, kinds := [], alts := [], laidByText := true, laidKinds := [.data, .pinned], laidTests := true, laidLooks := .later }
def StockChecksCardSaid : Prop := Claim7.holds Tryd.pinned (.plain (OpenSpec.ofChange stockChecksSpec)) stockChecksCard

/-- THE TIED CARD OF 'shipyardlaw29.StockBack'. -/
def stockBackCard : Claim7 := { stood := { row := stockBackRow, standIns := [], harness := (true, "d3be9044f2c9254f4de9bd1e10ed5f11cbc8db3c8d3144316fd379af426783d5"), looks := false }, kinds := [], alts := [], laidByText := true, laidKinds := [.data, .pinned], laidTests := true, laidLooks := .later }
def StockBackCardSaid : Prop := Claim7.holds Tryd.pinned (.plain (OpenSpec.ofChange stockBackSpec)) stockBackCard

/-- THE TIED CARD OF 'shipyardlaw29.StockLeast'. -/
def stockLeastCard : Claim7 := { stood := { row := stockLeastRow, standIns := [], harness := (true, "d3be9044f2c9254f4de9bd1e10ed5f11cbc8db3c8d3144316fd379af426783d5"), looks := false }, kinds := [], alts := [], laidByText := true, laidKinds := [.data, .pinned], laidTests := true, laidLooks := .later }
def StockLeastCardSaid : Prop := Claim7.holds Tryd.pinned (.plain (OpenSpec.ofChange stockLeastSpec)) stockLeastCard

/-- THE TIED CARD OF 'shipyardlaw29.StockOrders'. -/
def stockOrdersCard : Claim7 := { stood := { row := stockOrdersRow, standIns := [], harness := (true, "d3be9044f2c9254f4de9bd1e10ed5f11cbc8db3c8d3144316fd379af426783d5"), looks := false }, kinds := [], alts := [], laidByText := true, laidKinds := [.data, .pinned], laidTests := true, laidLooks := .later }
def StockOrdersCardSaid : Prop := Claim7.holds Tryd.pinned (.plain (OpenSpec.ofChange stockOrdersSpec)) stockOrdersCard

/-- THE SECOND FORM's CARD OF 'shipyardlaw29.StockChecks'. -/
def stockChecksUptoCard : Claim7 := { stood := { row := stockChecksUptoRow, standIns := [], harness := (true, "d3be9044f2c9254f4de9bd1e10ed5f11cbc8db3c8d3144316fd379af426783d5"), looks := false }, kinds := [], alts := [], laidByText := true, laidKinds := [.data, .pinned], laidTests := true, laidLooks := .later }
def StockChecksUptoCardSaid : Prop := Claim7.holds Tryd.pinned (.plain (OpenSpec.upto stockChecksSpec)) stockChecksUptoCard

/-- THE SECOND FORM's CARD OF 'shipyardlaw29.StockBack'. -/
def stockBackUptoCard : Claim7 := { stood := { row := stockBackUptoRow, standIns := [], harness := (true, "d3be9044f2c9254f4de9bd1e10ed5f11cbc8db3c8d3144316fd379af426783d5"), looks := false }, kinds := [], alts := [], laidByText := true, laidKinds := [.data, .pinned], laidTests := true, laidLooks := .later }
def StockBackUptoCardSaid : Prop := Claim7.holds Tryd.pinned (.plain (OpenSpec.upto stockBackSpec)) stockBackUptoCard

/-- THE SECOND FORM's CARD OF 'shipyardlaw29.StockLeast'. -/
def stockLeastUptoCard : Claim7 := { stood := { row := stockLeastUptoRow, standIns := [], harness := (true, "d3be9044f2c9254f4de9bd1e10ed5f11cbc8db3c8d3144316fd379af426783d5"), looks := false }, kinds := [], alts := [], laidByText := true, laidKinds := [.data, .pinned], laidTests := true, laidLooks := .later }
def StockLeastUptoCardSaid : Prop := Claim7.holds Tryd.pinned (.plain (OpenSpec.upto stockLeastSpec)) stockLeastUptoCard

/-- THE SECOND FORM's CARD OF 'shipyardlaw29.StockOrders'. -/
def stockOrdersUptoCard : Claim7 := { stood := { row := stockOrdersUptoRow, standIns := [], harness := (true, "d3be9044f2c9254f4de9bd1e10ed5f11cbc8db3c8d3144316fd379af426783d5"), looks := false }, kinds := [], alts := [], laidByText := true, laidKinds := [.data, .pinned], laidTests := true, laidLooks := .later }
def StockOrdersUptoCardSaid : Prop := Claim7.holds Tryd.pinned (.plain (OpenSpec.upto stockOrdersSpec)) stockOrdersUptoCard
end Rows
end Go.Proofs.YtiddpaaihloopaaDoor
