/-
  NARROWER THAN 'FOR EVERY INPUT', by the rows' own cells (each row's printed sentence says how): VecRotations: laid · VecMeets: laid · VecGroup: laid · VecRigid: laid · VecChains: laid · VecBoxes: laid · VecPlaces: laid · VecTurns: laid.
  DERIVED. THE GIVEN ROWS OF THIS SEAT. 8 by the template 'for every input the law returns true; each argument reads behind the call as it read before'; 0 by the template 'total and deterministic' (their statements: YtcfohnhieajhnaaDoorTotals.lean).
  GIVEN WITH THE SEED: the statements are not yours to turn. If you find one false, say at which input.
  Laid BY PROGRAM, IN A SANDBOX (cutbox-rows.mjs): the forced cells as the released guide's own fill.sh prints them over the translation 1ab39c14fe8470f2… (all of the seat's roots in one cut). By AI agents, Wed Nov 11 2026. No macro, syntax, notation, axiom, sorry.
-/
import Derived.Test.YtcfohnhieajhnaaDoorChecked
import GoSem.Claim
import GoSem.ClaimJoined
import GoSem.ClaimMapViews
import Derived.JoinedTies
import Derived.KernelRfl
namespace Go.Proofs.YtcfohnhieajhnaaDoor
/- THE CELL 'sum', in the pinned program and in every row, IS THE sha256 OF THE DUMP (.gsa) THAT YtcfohnhieajhnaaDoorProg.lean LOADS. Nothing in Lean hashes anything: it is a label: what it is worth is what the hold of that sum in a sandbox is worth. -/
noncomputable def Tryd.pinned : Pinned := { name := "ytcfohnhieajhnaadoor", sum := "1ab39c14fe8470f2302131b14c374d8e834a94ffa20cad7087ba9387e5d781c4", checked := Tryd.checked }
namespace Rows
def none {H : Type} : Left H := { results := [], args := [] }

/- WHAT THE LISTED PACKAGE-LEVEL VARIABLES READ AS WHEN THE CALL BEGINS. Each datum BY PROGRAM (the guide's laid-datum.mjs) off the statement by which the dump's own 'gosem.cut.vars' lays the variable. In a bare row this is a premise. The card (YtcfohnhieajhnaaDoorCards.lean) ties it to the program's text. -/
def laid_shipyard_vec_probe {H : Type} : DataW H := .agg [.lit (.int .i64 1), .lit (.int .i64 2), .lit (.int .i64 3)]

/-- 'shipyardlaw11.VecRotations': WHATEVER THE INPUT: true; the input reads as it did. -/
def vecRotationsSpec : ChangeSpec := { name := "vecRotations", fn := fun _ => fun
  | [d1, d2] => { results := [.lit (.bool true)], args := [d1, d2] }
  | _ => none }
def vecRotationsRow : OpenClaim := { program := "ytcfohnhieajhnaadoor", sum := "1ab39c14fe8470f2302131b14c374d8e834a94ffa20cad7087ba9387e5d781c4", func := "shipyard/shipyardlaw11.VecRotations", spec := "vecRotations", named := ["shipyard/vec.probe"], apart := false, laid := [("shipyard/vec.probe", laid_shipyard_vec_probe)] }
def VecRotationsSaid : Prop := vecRotationsRow.holds Tryd.pinned (OpenSpec.ofChange vecRotationsSpec)

/-- ITS FALSE NEIGHBOUR: 'it returns false'. Refute it at one input. -/
def vecRotationsWrong : ChangeSpec := { name := "vecRotations", fn := fun _ => fun
  | [d1, d2] => { results := [.lit (.bool false)], args := [d1, d2] }
  | _ => none }
def VecRotationsWrongFalsely : Prop := vecRotationsRow.holds Tryd.pinned (OpenSpec.ofChange vecRotationsWrong)

/-- 'shipyardlaw11.VecMeets': WHATEVER THE INPUT: true; the input reads as it did. -/
def vecMeetsSpec : ChangeSpec := { name := "vecMeets", fn := fun _ => fun
  | [d1, d2] => { results := [.lit (.bool true)], args := [d1, d2] }
  | _ => none }
def vecMeetsRow : OpenClaim := { program := "ytcfohnhieajhnaadoor", sum := "1ab39c14fe8470f2302131b14c374d8e834a94ffa20cad7087ba9387e5d781c4", func := "shipyard/shipyardlaw11.VecMeets", spec := "vecMeets", named := ["shipyard/vec.probe"], apart := false, laid := [("shipyard/vec.probe", laid_shipyard_vec_probe)] }
def VecMeetsSaid : Prop := vecMeetsRow.holds Tryd.pinned (OpenSpec.ofChange vecMeetsSpec)

/-- ITS FALSE NEIGHBOUR: 'it returns false'. Refute it at one input. -/
def vecMeetsWrong : ChangeSpec := { name := "vecMeets", fn := fun _ => fun
  | [d1, d2] => { results := [.lit (.bool false)], args := [d1, d2] }
  | _ => none }
def VecMeetsWrongFalsely : Prop := vecMeetsRow.holds Tryd.pinned (OpenSpec.ofChange vecMeetsWrong)

/-- 'shipyardlaw11.VecGroup': WHATEVER THE INPUT: true; the input reads as it did. -/
def vecGroupSpec : ChangeSpec := { name := "vecGroup", fn := fun _ => fun
  | [d1, d2] => { results := [.lit (.bool true)], args := [d1, d2] }
  | _ => none }
def vecGroupRow : OpenClaim := { program := "ytcfohnhieajhnaadoor", sum := "1ab39c14fe8470f2302131b14c374d8e834a94ffa20cad7087ba9387e5d781c4", func := "shipyard/shipyardlaw11.VecGroup", spec := "vecGroup", named := ["shipyard/vec.probe"], apart := false, laid := [("shipyard/vec.probe", laid_shipyard_vec_probe)] }
def VecGroupSaid : Prop := vecGroupRow.holds Tryd.pinned (OpenSpec.ofChange vecGroupSpec)

/-- ITS FALSE NEIGHBOUR: 'it returns false'. Refute it at one input. -/
def vecGroupWrong : ChangeSpec := { name := "vecGroup", fn := fun _ => fun
  | [d1, d2] => { results := [.lit (.bool false)], args := [d1, d2] }
  | _ => none }
def VecGroupWrongFalsely : Prop := vecGroupRow.holds Tryd.pinned (OpenSpec.ofChange vecGroupWrong)

/-- 'shipyardlaw11.VecRigid': WHATEVER THE INPUT: true; the input reads as it did. -/
def vecRigidSpec : ChangeSpec := { name := "vecRigid", fn := fun _ => fun
  | [d1, d2] => { results := [.lit (.bool true)], args := [d1, d2] }
  | _ => none }
def vecRigidRow : OpenClaim := { program := "ytcfohnhieajhnaadoor", sum := "1ab39c14fe8470f2302131b14c374d8e834a94ffa20cad7087ba9387e5d781c4", func := "shipyard/shipyardlaw11.VecRigid", spec := "vecRigid", named := ["shipyard/vec.probe"], apart := false, laid := [("shipyard/vec.probe", laid_shipyard_vec_probe)] }
def VecRigidSaid : Prop := vecRigidRow.holds Tryd.pinned (OpenSpec.ofChange vecRigidSpec)

/-- ITS FALSE NEIGHBOUR: 'it returns false'. Refute it at one input. -/
def vecRigidWrong : ChangeSpec := { name := "vecRigid", fn := fun _ => fun
  | [d1, d2] => { results := [.lit (.bool false)], args := [d1, d2] }
  | _ => none }
def VecRigidWrongFalsely : Prop := vecRigidRow.holds Tryd.pinned (OpenSpec.ofChange vecRigidWrong)

/-- 'shipyardlaw11.VecChains': WHATEVER THE INPUT: true; the input reads as it did. -/
def vecChainsSpec : ChangeSpec := { name := "vecChains", fn := fun _ => fun
  | [d1, d2, d3] => { results := [.lit (.bool true)], args := [d1, d2, d3] }
  | _ => none }
def vecChainsRow : OpenClaim := { program := "ytcfohnhieajhnaadoor", sum := "1ab39c14fe8470f2302131b14c374d8e834a94ffa20cad7087ba9387e5d781c4", func := "shipyard/shipyardlaw11.VecChains", spec := "vecChains", named := ["shipyard/vec.probe"], apart := false, laid := [("shipyard/vec.probe", laid_shipyard_vec_probe)] }
def VecChainsSaid : Prop := vecChainsRow.holds Tryd.pinned (OpenSpec.ofChange vecChainsSpec)

/-- ITS FALSE NEIGHBOUR: 'it returns false'. Refute it at one input. -/
def vecChainsWrong : ChangeSpec := { name := "vecChains", fn := fun _ => fun
  | [d1, d2, d3] => { results := [.lit (.bool false)], args := [d1, d2, d3] }
  | _ => none }
def VecChainsWrongFalsely : Prop := vecChainsRow.holds Tryd.pinned (OpenSpec.ofChange vecChainsWrong)

/-- 'shipyardlaw11.VecBoxes': WHATEVER THE INPUT: true; the input reads as it did. -/
def vecBoxesSpec : ChangeSpec := { name := "vecBoxes", fn := fun _ => fun
  | [d1, d2, d3] => { results := [.lit (.bool true)], args := [d1, d2, d3] }
  | _ => none }
def vecBoxesRow : OpenClaim := { program := "ytcfohnhieajhnaadoor", sum := "1ab39c14fe8470f2302131b14c374d8e834a94ffa20cad7087ba9387e5d781c4", func := "shipyard/shipyardlaw11.VecBoxes", spec := "vecBoxes", named := ["shipyard/vec.probe"], apart := false, laid := [("shipyard/vec.probe", laid_shipyard_vec_probe)] }
def VecBoxesSaid : Prop := vecBoxesRow.holds Tryd.pinned (OpenSpec.ofChange vecBoxesSpec)

/-- ITS FALSE NEIGHBOUR: 'it returns false'. Refute it at one input. -/
def vecBoxesWrong : ChangeSpec := { name := "vecBoxes", fn := fun _ => fun
  | [d1, d2, d3] => { results := [.lit (.bool false)], args := [d1, d2, d3] }
  | _ => none }
def VecBoxesWrongFalsely : Prop := vecBoxesRow.holds Tryd.pinned (OpenSpec.ofChange vecBoxesWrong)

/-- 'shipyardlaw11.VecPlaces': WHATEVER THE INPUT: true; the input reads as it did. -/
def vecPlacesSpec : ChangeSpec := { name := "vecPlaces", fn := fun _ => fun
  | [d1, d2, d3] => { results := [.lit (.bool true)], args := [d1, d2, d3] }
  | _ => none }
def vecPlacesRow : OpenClaim := { program := "ytcfohnhieajhnaadoor", sum := "1ab39c14fe8470f2302131b14c374d8e834a94ffa20cad7087ba9387e5d781c4", func := "shipyard/shipyardlaw11.VecPlaces", spec := "vecPlaces", named := ["shipyard/vec.probe"], apart := false, laid := [("shipyard/vec.probe", laid_shipyard_vec_probe)] }
def VecPlacesSaid : Prop := vecPlacesRow.holds Tryd.pinned (OpenSpec.ofChange vecPlacesSpec)

/-- ITS FALSE NEIGHBOUR: 'it returns false'. Refute it at one input. -/
def vecPlacesWrong : ChangeSpec := { name := "vecPlaces", fn := fun _ => fun
  | [d1, d2, d3] => { results := [.lit (.bool false)], args := [d1, d2, d3] }
  | _ => none }
def VecPlacesWrongFalsely : Prop := vecPlacesRow.holds Tryd.pinned (OpenSpec.ofChange vecPlacesWrong)

/-- 'shipyardlaw11.VecTurns': WHATEVER THE INPUT: true; the input reads as it did. -/
def vecTurnsSpec : ChangeSpec := { name := "vecTurns", fn := fun _ => fun
  | [d1, d2, d3] => { results := [.lit (.bool true)], args := [d1, d2, d3] }
  | _ => none }
def vecTurnsRow : OpenClaim := { program := "ytcfohnhieajhnaadoor", sum := "1ab39c14fe8470f2302131b14c374d8e834a94ffa20cad7087ba9387e5d781c4", func := "shipyard/shipyardlaw11.VecTurns", spec := "vecTurns", named := ["shipyard/vec.probe"], apart := false, laid := [("shipyard/vec.probe", laid_shipyard_vec_probe)] }
def VecTurnsSaid : Prop := vecTurnsRow.holds Tryd.pinned (OpenSpec.ofChange vecTurnsSpec)

/-- ITS FALSE NEIGHBOUR: 'it returns false'. Refute it at one input. -/
def vecTurnsWrong : ChangeSpec := { name := "vecTurns", fn := fun _ => fun
  | [d1, d2, d3] => { results := [.lit (.bool false)], args := [d1, d2, d3] }
  | _ => none }
def VecTurnsWrongFalsely : Prop := vecTurnsRow.holds Tryd.pinned (OpenSpec.ofChange vecTurnsWrong)

/- THE SECOND FORM. 'bulk': how many values and letters a reading holds, each counted each time it is reached (what is shared counts as often as it is met; a slice's spare places count too). A statement '..UptoSaid' is the law's where the arguments, and the package variables that the reading takes, are together of bulk at most 1048576: NARROWER than '..Said'. Prove '..Said' where nothing that the law and all that it calls make is longer than what came in: it says more and counts as full. Else prove '..UptoSaid'. A law counts once. -/
mutual
def uptoBulk {H : Type} : DataW H → Nat
  | .lit (.string bytes) => bytes.length + 1
  | .lit _ => 1
  | .nil => 1
  | .ptr d => uptoBulk d + 1
  | .slice elems spare => uptoBulkAll elems + uptoBulkAll spare + 1
  | .agg parts => uptoBulkAll parts + 1
  | .iface _ d => uptoBulk d + 1
  | .map entries => uptoBulkEntries entries + 1
  | .held _ => 1
def uptoBulkAll {H : Type} : List (DataW H) → Nat
  | [] => 0
  | d :: r => uptoBulk d + uptoBulkAll r
def uptoBulkEntries {H : Type} : List (Lit × DataW H) → Nat
  | [] => 0
  | x :: r => uptoBulkEntry x + uptoBulkEntries r
def uptoBulkEntry {H : Type} : Lit × DataW H → Nat
  | (.string bytes, d) => bytes.length + uptoBulk d + 1
  | (_, d) => uptoBulk d + 1
 end
def uptoSmall : (H : Type) → List (DataW H) → Bool := fun _ ds => decide (uptoBulkAll ds ≤ 1048576)
def OpenSpec.upto (s : _root_.Go.ChangeSpec) : _root_.Go.OpenSpec := { _root_.Go.OpenSpec.ofChange s with cond := some uptoSmall }

/-- 'shipyardlaw11.VecRotations', WHERE WHAT IT READS IS OF BULK AT MOST 1048576: true; the input reads as it did. -/
def vecRotationsUptoRow : OpenClaim := { program := "ytcfohnhieajhnaadoor", sum := "1ab39c14fe8470f2302131b14c374d8e834a94ffa20cad7087ba9387e5d781c4", func := "shipyard/shipyardlaw11.VecRotations", spec := "vecRotations", named := ["shipyard/vec.probe"], apart := false, laid := [("shipyard/vec.probe", laid_shipyard_vec_probe)], narrowed := true }
def VecRotationsUptoSaid : Prop := vecRotationsUptoRow.holds Tryd.pinned (OpenSpec.upto vecRotationsSpec)

/-- 'shipyardlaw11.VecMeets', WHERE WHAT IT READS IS OF BULK AT MOST 1048576: true; the input reads as it did. -/
def vecMeetsUptoRow : OpenClaim := { program := "ytcfohnhieajhnaadoor", sum := "1ab39c14fe8470f2302131b14c374d8e834a94ffa20cad7087ba9387e5d781c4", func := "shipyard/shipyardlaw11.VecMeets", spec := "vecMeets", named := ["shipyard/vec.probe"], apart := false, laid := [("shipyard/vec.probe", laid_shipyard_vec_probe)], narrowed := true }
def VecMeetsUptoSaid : Prop := vecMeetsUptoRow.holds Tryd.pinned (OpenSpec.upto vecMeetsSpec)

/-- 'shipyardlaw11.VecGroup', WHERE WHAT IT READS IS OF BULK AT MOST 1048576: true; the input reads as it did. -/
def vecGroupUptoRow : OpenClaim := { program := "ytcfohnhieajhnaadoor", sum := "1ab39c14fe8470f2302131b14c374d8e834a94ffa20cad7087ba9387e5d781c4", func := "shipyard/shipyardlaw11.VecGroup", spec := "vecGroup", named := ["shipyard/vec.probe"], apart := false, laid := [("shipyard/vec.probe", laid_shipyard_vec_probe)], narrowed := true }
def VecGroupUptoSaid : Prop := vecGroupUptoRow.holds Tryd.pinned (OpenSpec.upto vecGroupSpec)

/-- 'shipyardlaw11.VecRigid', WHERE WHAT IT READS IS OF BULK AT MOST 1048576: true; the input reads as it did. -/
def vecRigidUptoRow : OpenClaim := { program := "ytcfohnhieajhnaadoor", sum := "1ab39c14fe8470f2302131b14c374d8e834a94ffa20cad7087ba9387e5d781c4", func := "shipyard/shipyardlaw11.VecRigid", spec := "vecRigid", named := ["shipyard/vec.probe"], apart := false, laid := [("shipyard/vec.probe", laid_shipyard_vec_probe)], narrowed := true }
def VecRigidUptoSaid : Prop := vecRigidUptoRow.holds Tryd.pinned (OpenSpec.upto vecRigidSpec)

/-- 'shipyardlaw11.VecChains', WHERE WHAT IT READS IS OF BULK AT MOST 1048576: true; the input reads as it did. -/
def vecChainsUptoRow : OpenClaim := { program := "ytcfohnhieajhnaadoor", sum := "1ab39c14fe8470f2302131b14c374d8e834a94ffa20cad7087ba9387e5d781c4", func := "shipyard/shipyardlaw11.VecChains", spec := "vecChains", named := ["shipyard/vec.probe"], apart := false, laid := [("shipyard/vec.probe", laid_shipyard_vec_probe)], narrowed := true }
def VecChainsUptoSaid : Prop := vecChainsUptoRow.holds Tryd.pinned (OpenSpec.upto vecChainsSpec)

/-- 'shipyardlaw11.VecBoxes', WHERE WHAT IT READS IS OF BULK AT MOST 1048576: true; the input reads as it did. -/
def vecBoxesUptoRow : OpenClaim := { program := "ytcfohnhieajhnaadoor", sum := "1ab39c14fe8470f2302131b14c374d8e834a94ffa20cad7087ba9387e5d781c4", func := "shipyard/shipyardlaw11.VecBoxes", spec := "vecBoxes", named := ["shipyard/vec.probe"], apart := false, laid := [("shipyard/vec.probe", laid_shipyard_vec_probe)], narrowed := true }
def VecBoxesUptoSaid : Prop := vecBoxesUptoRow.holds Tryd.pinned (OpenSpec.upto vecBoxesSpec)

/-- 'shipyardlaw11.VecPlaces', WHERE WHAT IT READS IS OF BULK AT MOST 1048576: true; the input reads as it did. -/
def vecPlacesUptoRow : OpenClaim := { program := "ytcfohnhieajhnaadoor", sum := "1ab39c14fe8470f2302131b14c374d8e834a94ffa20cad7087ba9387e5d781c4", func := "shipyard/shipyardlaw11.VecPlaces", spec := "vecPlaces", named := ["shipyard/vec.probe"], apart := false, laid := [("shipyard/vec.probe", laid_shipyard_vec_probe)], narrowed := true }
def VecPlacesUptoSaid : Prop := vecPlacesUptoRow.holds Tryd.pinned (OpenSpec.upto vecPlacesSpec)

/-- 'shipyardlaw11.VecTurns', WHERE WHAT IT READS IS OF BULK AT MOST 1048576: true; the input reads as it did. -/
def vecTurnsUptoRow : OpenClaim := { program := "ytcfohnhieajhnaadoor", sum := "1ab39c14fe8470f2302131b14c374d8e834a94ffa20cad7087ba9387e5d781c4", func := "shipyard/shipyardlaw11.VecTurns", spec := "vecTurns", named := ["shipyard/vec.probe"], apart := false, laid := [("shipyard/vec.probe", laid_shipyard_vec_probe)], narrowed := true }
def VecTurnsUptoSaid : Prop := vecTurnsUptoRow.holds Tryd.pinned (OpenSpec.upto vecTurnsSpec)

end Rows
end Go.Proofs.YtcfohnhieajhnaaDoor
