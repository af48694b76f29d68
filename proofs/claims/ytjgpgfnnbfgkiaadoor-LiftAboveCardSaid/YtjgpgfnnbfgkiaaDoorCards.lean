/-
  DERIVED. GIVEN WITH THE SEED: THE CARDS: each row of YtjgpgfnnbfgkiaaDoorRows.lean that lists a variable, with what it lists TIED to the program's text (the seventh form; the later family's looks); each row that meets fmt, with fmt's text TOLD by the authors' own Lean function (tested against real Go, not proved from fmt's source: count such statements apart). THE CARD IS WHAT COUNTS. Prove the row's statement (the work); the ties are given (YtjgpgfnnbfgkiaaDoorTie.lean); close each card by the builder's one call (the guide's Derived/Test/ToyasCard.lean, 'card_holds'). Laid BY PROGRAM, IN A SANDBOX (cutbox-door.mjs). By AI agents, Wed Nov 11 2026. No macro, syntax, notation, axiom, sorry.
-/
import Derived.Test.YtjgpgfnnbfgkiaaDoorRows
import GoSem.ClaimSeven
namespace Go.Proofs.YtjgpgfnnbfgkiaaDoor
namespace Rows

/-- THE TIED CARD OF 'shipyardlaw50.LiftGross'. -/
def liftGrossCard : Claim7 := { stood := { row := liftGrossRow, standIns := [], harness := (true, "e2dd2409fbed3f11a85651a910411d4dfa6b3aeea955bbec49c9dc28deb65971"), looks := false }, kinds := [], alts := [], laidByText := true, laidKinds := [.data, .pinned], laidTests := true, laidLooks := .later }
def LiftGrossCardSaid : Prop := Claim7.holds Tryd.pinned (.plain (OpenSpec.ofChange liftGrossSpec)) liftGrossCard

/-- THE TIED CARD OF 'shipyardlaw50.LiftLoads'. -/
def liftLoadsCard : Claim7 := { stood := { row := liftLoadsRow, standIns := [], harness := (true, "e2dd2409fbed3f11a85651a910411d4dfa6b3aeea955bbec49c9dc28deb65971"), looks := false }, kinds := [], alts := [], laidByText := true, laidKinds := [.data, .pinned], laidTests := true, laidLooks := .later }
def LiftLoadsCardSaid : Prop := Claim7.holds Tryd.pinned (.plain (OpenSpec.ofChange liftLoadsSpec)) liftLoadsCard

/-- THE TIED CARD OF 'shipyardlaw50.LiftChecks'. -/
def liftChecksCard : Claim7 := { stood := { row := liftChecksRow, standIns := [], harness := (true, "e2dd2409fbed3f11a85651a910411d4dfa6b3aeea955bbec49c9dc28deb65971"), looks := false }, kinds := [], alts := [], laidByText := true, laidKinds := [.data, .pinned], laidTests := true, laidLooks := .later }
def LiftChecksCardSaid : Prop := Claim7.holds Tryd.pinned (.plain (OpenSpec.ofChange liftChecksSpec)) liftChecksCard

/-- THE TIED CARD OF 'shipyardlaw50.LiftWhole'. -/
def liftWholeCard : Claim7 := { stood := { row := liftWholeRow, standIns := [], harness := (true, "e2dd2409fbed3f11a85651a910411d4dfa6b3aeea955bbec49c9dc28deb65971"), looks := false }, kinds := [], alts := [], laidByText := true, laidKinds := [.data, .pinned], laidTests := true, laidLooks := .later }
def LiftWholeCardSaid : Prop := Claim7.holds Tryd.pinned (.plain (OpenSpec.ofChange liftWholeSpec)) liftWholeCard

/-- THE TIED CARD OF 'shipyardlaw50.LiftCharts'. -/
def liftChartsCard : Claim7 := { stood := { row := liftChartsRow, standIns := [], harness := (true, "e2dd2409fbed3f11a85651a910411d4dfa6b3aeea955bbec49c9dc28deb65971"), looks := false }, kinds := [], alts := [], laidByText := true, laidKinds := [.data, .pinned], laidTests := true, laidLooks := .later }
def LiftChartsCardSaid : Prop := Claim7.holds Tryd.pinned (.plain (OpenSpec.ofChange liftChartsSpec)) liftChartsCard

/-- THE TIED CARD OF 'shipyardlaw50.LiftTwo'. -/
def liftTwoCard : Claim7 := { stood := { row := liftTwoRow, standIns := [], harness := (true, "e2dd2409fbed3f11a85651a910411d4dfa6b3aeea955bbec49c9dc28deb65971"), looks := false }, kinds := [], alts := [], laidByText := true, laidKinds := [.data, .pinned], laidTests := true, laidLooks := .later }
def LiftTwoCardSaid : Prop := Claim7.holds Tryd.pinned (.plain (OpenSpec.ofChange liftTwoSpec)) liftTwoCard

/-- THE TIED CARD OF 'shipyardlaw50.LiftMiddle'. -/
def liftMiddleCard : Claim7 := { stood := { row := liftMiddleRow, standIns := [], harness := (true, "e2dd2409fbed3f11a85651a910411d4dfa6b3aeea955bbec49c9dc28deb65971"), looks := false }, kinds := [], alts := [], laidByText := true, laidKinds := [.data, .pinned], laidTests := true, laidLooks := .later }
def LiftMiddleCardSaid : Prop := Claim7.holds Tryd.pinned (.plain (OpenSpec.ofChange liftMiddleSpec)) liftMiddleCard

/-- THE TIED CARD OF 'shipyardlaw50.LiftAbove'. -/
def liftAboveCard : Claim7 := { stood := { row := liftAboveRow, standIns := [], harness := (true, "e2dd2409fbed3f11a85651a910411d4dfa6b3aeea955bbec49c9dc28deb65971"), looks := false }, kinds := [], alts := [], laidByText := true, laidKinds := [.data, .pinned], laidTests := true, laidLooks := .later }
def LiftAboveCardSaid : Prop := Claim7.holds Tryd.pinned (.plain (OpenSpec.ofChange liftAboveSpec)) liftAboveCard

/-- THE SECOND FORM's CARD OF 'shipyardlaw50.LiftGross'. -/
def liftGrossUptoCard : Claim7 := { stood := { row := liftGrossUptoRow, standIns := [], harness := (true, "e2dd2409fbed3f11a85651a910411d4dfa6b3aeea955bbec49c9dc28deb65971"), looks := false }, kinds := [], alts := [], laidByText := true, laidKinds := [.data, .pinned], laidTests := true, laidLooks := .later }
def LiftGrossUptoCardSaid : Prop := Claim7.holds Tryd.pinned (.plain (OpenSpec.upto liftGrossSpec)) liftGrossUptoCard

/-- THE SECOND FORM's CARD OF 'shipyardlaw50.LiftLoads'. -/
def liftLoadsUptoCard : Claim7 := { stood := { row := liftLoadsUptoRow, standIns := [], harness := (true, "e2dd2409fbed3f11a85651a910411d4dfa6b3aeea955bbec49c9dc28deb65971"), looks := false }, kinds := [], alts := [], laidByText := true, laidKinds := [.data, .pinned], laidTests := true, laidLooks := .later }
def LiftLoadsUptoCardSaid : Prop := Claim7.holds Tryd.pinned (.plain (OpenSpec.upto liftLoadsSpec)) liftLoadsUptoCard

/-- THE SECOND FORM's CARD OF 'shipyardlaw50.LiftChecks'. -/
def liftChecksUptoCard : Claim7 := { stood := { row := liftChecksUptoRow, standIns := [], harness := (true, "e2dd2409fbed3f11a85651a910411d4dfa6b3aeea955bbec49c9dc28deb65971"), looks := false }, kinds := [], alts := [], laidByText := true, laidKinds := [.data, .pinned], laidTests := true, laidLooks := .later }
def LiftChecksUptoCardSaid : Prop := Claim7.holds Tryd.pinned (.plain (OpenSpec.upto liftChecksSpec)) liftChecksUptoCard

/-- THE SECOND FORM's CARD OF 'shipyardlaw50.LiftWhole'. -/
def liftWholeUptoCard : Claim7 := { stood := { row := liftWholeUptoRow, standIns := [], harness := (true, "e2dd2409fbed3f11a85651a910411d4dfa6b3aeea955bbec49c9dc28deb65971"), looks := false }, kinds := [], alts := [], laidByText := true, laidKinds := [.data, .pinned], laidTests := true, laidLooks := .later }
def LiftWholeUptoCardSaid : Prop := Claim7.holds Tryd.pinned (.plain (OpenSpec.upto liftWholeSpec)) liftWholeUptoCard

/-- THE SECOND FORM's CARD OF 'shipyardlaw50.LiftCharts'. -/
def liftChartsUptoCard : Claim7 := { stood := { row := liftChartsUptoRow, standIns := [], harness := (true, "e2dd2409fbed3f11a85651a910411d4dfa6b3aeea955bbec49c9dc28deb65971"), looks := false }, kinds := [], alts := [], laidByText := true, laidKinds := [.data, .pinned], laidTests := true, laidLooks := .later }
def LiftChartsUptoCardSaid : Prop := Claim7.holds Tryd.pinned (.plain (OpenSpec.upto liftChartsSpec)) liftChartsUptoCard

/-- THE SECOND FORM's CARD OF 'shipyardlaw50.LiftTwo'. -/
def liftTwoUptoCard : Claim7 := { stood := { row := liftTwoUptoRow, standIns := [], harness := (true, "e2dd2409fbed3f11a85651a910411d4dfa6b3aeea955bbec49c9dc28deb65971"), looks := false }, kinds := [], alts := [], laidByText := true, laidKinds := [.data, .pinned], laidTests := true, laidLooks := .later }
def LiftTwoUptoCardSaid : Prop := Claim7.holds Tryd.pinned (.plain (OpenSpec.upto liftTwoSpec)) liftTwoUptoCard

/-- THE SECOND FORM's CARD OF 'shipyardlaw50.LiftMiddle'. -/
def liftMiddleUptoCard : Claim7 := { stood := { row := liftMiddleUptoRow, standIns := [], harness := (true, "e2dd2409fbed3f11a85651a910411d4dfa6b3aeea955bbec49c9dc28deb65971"), looks := false }, kinds := [], alts := [], laidByText := true, laidKinds := [.data, .pinned], laidTests := true, laidLooks := .later }
def LiftMiddleUptoCardSaid : Prop := Claim7.holds Tryd.pinned (.plain (OpenSpec.upto liftMiddleSpec)) liftMiddleUptoCard

/-- THE SECOND FORM's CARD OF 'shipyardlaw50.LiftAbove'. -/
def liftAboveUptoCard : Claim7 := { stood := { row := liftAboveUptoRow, standIns := [], harness := (true, "e2dd2409fbed3f11a85651a910411d4dfa6b3aeea955bbec49c9dc28deb65971"), looks := false }, kinds := [], alts := [], laidByText := true, laidKinds := [.data, .pinned], laidTests := true, laidLooks := .later }
def LiftAboveUptoCardSaid : Prop := Claim7.holds Tryd.pinned (.plain (OpenSpec.upto liftAboveSpec)) liftAboveUptoCard
end Rows
end Go.Proofs.YtjgpgfnnbfgkiaaDoor
