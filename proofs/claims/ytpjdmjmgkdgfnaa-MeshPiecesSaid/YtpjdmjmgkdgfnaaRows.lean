/-
  No cell of these rows narrows 'for every input' (looked for: loops, veiled, ifaces, maps, wideKeys, modest, calm, conditions, laid).
  DERIVED. THE GIVEN ROWS OF THIS SEAT. 8 by the template 'for every input the law returns true; each argument reads behind the call as it read before'; 0 by the template 'total and deterministic' (their statements: YtpjdmjmgkdgfnaaTotals.lean).
  GIVEN WITH THE SEED: the statements are not yours to turn. If you find one false, say at which input.
  Laid BY PROGRAM, IN A SANDBOX (cutbox-rows.mjs): the forced cells as the released guide's own fill.sh prints them over the translation 68eb3668794c350e… (all of the seat's roots in one cut). By AI agents, Wed Nov 11 2026. No macro, syntax, notation, axiom, sorry.
-/
import Derived.Test.YtpjdmjmgkdgfnaaChecked
import GoSem.Claim
import GoSem.ClaimJoined
import GoSem.ClaimMapViews
import Derived.JoinedTies
import Derived.KernelRfl
namespace Go.Proofs.Ytpjdmjmgkdgfnaa
/- THE CELL 'sum', in the pinned program and in every row, IS THE sha256 OF THE DUMP (.gsa) THAT YtpjdmjmgkdgfnaaProg.lean LOADS. Nothing in Lean hashes anything: it is a label: what it is worth is what the hold of that sum in a sandbox is worth. -/
noncomputable def Try.pinned : Pinned := { name := "ytpjdmjmgkdgfnaa", sum := "68eb3668794c350e983b1908b9773fb06c8c3d3f8bcb74f2303bae1e058ef9d3", checked := Try.checked }
namespace Rows
def none {H : Type} : Left H := { results := [], args := [] }

/-- 'shipyardlaw14.MeshChecks': WHATEVER THE INPUT: true; the input reads as it did. -/
def meshChecksSpec : ChangeSpec := { name := "meshChecks", fn := fun _ => fun
  | [d] => { results := [.lit (.bool true)], args := [d] }
  | _ => none }
def meshChecksRow : OpenClaim := { program := "ytpjdmjmgkdgfnaa", sum := "68eb3668794c350e983b1908b9773fb06c8c3d3f8bcb74f2303bae1e058ef9d3", func := "shipyard/shipyardlaw14.MeshChecks", spec := "meshChecks", inPlace := ["math/bits.Add64", "math/bits.Sub64"], unfollowed := true, recurses := true, plainKeys := false, apart := false }
def MeshChecksSaid : Prop := meshChecksRow.holds Try.pinned (OpenSpec.ofChange meshChecksSpec)

/-- ITS FALSE NEIGHBOUR: 'it returns false'. Refute it at one input. -/
def meshChecksWrong : ChangeSpec := { name := "meshChecks", fn := fun _ => fun
  | [d] => { results := [.lit (.bool false)], args := [d] }
  | _ => none }
def MeshChecksWrongFalsely : Prop := meshChecksRow.holds Try.pinned (OpenSpec.ofChange meshChecksWrong)

/-- 'shipyardlaw14.MeshVolumes': WHATEVER THE INPUT: true; the input reads as it did. -/
def meshVolumesSpec : ChangeSpec := { name := "meshVolumes", fn := fun _ => fun
  | [d] => { results := [.lit (.bool true)], args := [d] }
  | _ => none }
def meshVolumesRow : OpenClaim := { program := "ytpjdmjmgkdgfnaa", sum := "68eb3668794c350e983b1908b9773fb06c8c3d3f8bcb74f2303bae1e058ef9d3", func := "shipyard/shipyardlaw14.MeshVolumes", spec := "meshVolumes", inPlace := ["math/bits.Add64", "math/bits.Sub64"], unfollowed := true, recurses := true, plainKeys := false, apart := false }
def MeshVolumesSaid : Prop := meshVolumesRow.holds Try.pinned (OpenSpec.ofChange meshVolumesSpec)

/-- ITS FALSE NEIGHBOUR: 'it returns false'. Refute it at one input. -/
def meshVolumesWrong : ChangeSpec := { name := "meshVolumes", fn := fun _ => fun
  | [d] => { results := [.lit (.bool false)], args := [d] }
  | _ => none }
def MeshVolumesWrongFalsely : Prop := meshVolumesRow.holds Try.pinned (OpenSpec.ofChange meshVolumesWrong)

/-- 'shipyardlaw14.MeshMoves': WHATEVER THE INPUT: true; the input reads as it did. -/
def meshMovesSpec : ChangeSpec := { name := "meshMoves", fn := fun _ => fun
  | [d1, d2] => { results := [.lit (.bool true)], args := [d1, d2] }
  | _ => none }
def meshMovesRow : OpenClaim := { program := "ytpjdmjmgkdgfnaa", sum := "68eb3668794c350e983b1908b9773fb06c8c3d3f8bcb74f2303bae1e058ef9d3", func := "shipyard/shipyardlaw14.MeshMoves", spec := "meshMoves", inPlace := ["math/bits.Add64", "math/bits.Sub64"], unfollowed := true, recurses := true, plainKeys := false, apart := false }
def MeshMovesSaid : Prop := meshMovesRow.holds Try.pinned (OpenSpec.ofChange meshMovesSpec)

/-- ITS FALSE NEIGHBOUR: 'it returns false'. Refute it at one input. -/
def meshMovesWrong : ChangeSpec := { name := "meshMoves", fn := fun _ => fun
  | [d1, d2] => { results := [.lit (.bool false)], args := [d1, d2] }
  | _ => none }
def MeshMovesWrongFalsely : Prop := meshMovesRow.holds Try.pinned (OpenSpec.ofChange meshMovesWrong)

/-- 'shipyardlaw14.MeshRigid': WHATEVER THE INPUT: true; the input reads as it did. -/
def meshRigidSpec : ChangeSpec := { name := "meshRigid", fn := fun _ => fun
  | [d1, d2] => { results := [.lit (.bool true)], args := [d1, d2] }
  | _ => none }
def meshRigidRow : OpenClaim := { program := "ytpjdmjmgkdgfnaa", sum := "68eb3668794c350e983b1908b9773fb06c8c3d3f8bcb74f2303bae1e058ef9d3", func := "shipyard/shipyardlaw14.MeshRigid", spec := "meshRigid", inPlace := ["math/bits.Add64", "math/bits.Sub64"], unfollowed := true, recurses := true, plainKeys := false, apart := false }
def MeshRigidSaid : Prop := meshRigidRow.holds Try.pinned (OpenSpec.ofChange meshRigidSpec)

/-- ITS FALSE NEIGHBOUR: 'it returns false'. Refute it at one input. -/
def meshRigidWrong : ChangeSpec := { name := "meshRigid", fn := fun _ => fun
  | [d1, d2] => { results := [.lit (.bool false)], args := [d1, d2] }
  | _ => none }
def MeshRigidWrongFalsely : Prop := meshRigidRow.holds Try.pinned (OpenSpec.ofChange meshRigidWrong)

/-- 'shipyardlaw14.MeshBoxes': WHATEVER THE INPUT: true; the input reads as it did. -/
def meshBoxesSpec : ChangeSpec := { name := "meshBoxes", fn := fun _ => fun
  | [d1, d2, d3] => { results := [.lit (.bool true)], args := [d1, d2, d3] }
  | _ => none }
def meshBoxesRow : OpenClaim := { program := "ytpjdmjmgkdgfnaa", sum := "68eb3668794c350e983b1908b9773fb06c8c3d3f8bcb74f2303bae1e058ef9d3", func := "shipyard/shipyardlaw14.MeshBoxes", spec := "meshBoxes", inPlace := ["math/bits.Add64", "math/bits.Sub64"], unfollowed := true, recurses := true, plainKeys := false, apart := false }
def MeshBoxesSaid : Prop := meshBoxesRow.holds Try.pinned (OpenSpec.ofChange meshBoxesSpec)

/-- ITS FALSE NEIGHBOUR: 'it returns false'. Refute it at one input. -/
def meshBoxesWrong : ChangeSpec := { name := "meshBoxes", fn := fun _ => fun
  | [d1, d2, d3] => { results := [.lit (.bool false)], args := [d1, d2, d3] }
  | _ => none }
def MeshBoxesWrongFalsely : Prop := meshBoxesRow.holds Try.pinned (OpenSpec.ofChange meshBoxesWrong)

/-- 'shipyardlaw14.MeshPieces': WHATEVER THE INPUT: true; the input reads as it did. -/
def meshPiecesSpec : ChangeSpec := { name := "meshPieces", fn := fun _ => fun
  | [d1, d2, d3] => { results := [.lit (.bool true)], args := [d1, d2, d3] }
  | _ => none }
def meshPiecesRow : OpenClaim := { program := "ytpjdmjmgkdgfnaa", sum := "68eb3668794c350e983b1908b9773fb06c8c3d3f8bcb74f2303bae1e058ef9d3", func := "shipyard/shipyardlaw14.MeshPieces", spec := "meshPieces", inPlace := ["math/bits.Add64", "math/bits.Sub64"], unfollowed := true, recurses := true, plainKeys := false, apart := false }
def MeshPiecesSaid : Prop := meshPiecesRow.holds Try.pinned (OpenSpec.ofChange meshPiecesSpec)

/-- ITS FALSE NEIGHBOUR: 'it returns false'. Refute it at one input. -/
def meshPiecesWrong : ChangeSpec := { name := "meshPieces", fn := fun _ => fun
  | [d1, d2, d3] => { results := [.lit (.bool false)], args := [d1, d2, d3] }
  | _ => none }
def MeshPiecesWrongFalsely : Prop := meshPiecesRow.holds Try.pinned (OpenSpec.ofChange meshPiecesWrong)

/-- 'shipyardlaw14.MeshTogether': WHATEVER THE INPUT: true; the input reads as it did. -/
def meshTogetherSpec : ChangeSpec := { name := "meshTogether", fn := fun _ => fun
  | [d1, d2] => { results := [.lit (.bool true)], args := [d1, d2] }
  | _ => none }
def meshTogetherRow : OpenClaim := { program := "ytpjdmjmgkdgfnaa", sum := "68eb3668794c350e983b1908b9773fb06c8c3d3f8bcb74f2303bae1e058ef9d3", func := "shipyard/shipyardlaw14.MeshTogether", spec := "meshTogether", inPlace := ["math/bits.Add64", "math/bits.Sub64"], unfollowed := true, recurses := true, plainKeys := false, apart := false }
def MeshTogetherSaid : Prop := meshTogetherRow.holds Try.pinned (OpenSpec.ofChange meshTogetherSpec)

/-- ITS FALSE NEIGHBOUR: 'it returns false'. Refute it at one input. -/
def meshTogetherWrong : ChangeSpec := { name := "meshTogether", fn := fun _ => fun
  | [d1, d2] => { results := [.lit (.bool false)], args := [d1, d2] }
  | _ => none }
def MeshTogetherWrongFalsely : Prop := meshTogetherRow.holds Try.pinned (OpenSpec.ofChange meshTogetherWrong)

/-- 'shipyardlaw14.MeshReversed': WHATEVER THE INPUT: true; the input reads as it did. -/
def meshReversedSpec : ChangeSpec := { name := "meshReversed", fn := fun _ => fun
  | [d1, d2] => { results := [.lit (.bool true)], args := [d1, d2] }
  | _ => none }
def meshReversedRow : OpenClaim := { program := "ytpjdmjmgkdgfnaa", sum := "68eb3668794c350e983b1908b9773fb06c8c3d3f8bcb74f2303bae1e058ef9d3", func := "shipyard/shipyardlaw14.MeshReversed", spec := "meshReversed", inPlace := ["math/bits.Add64", "math/bits.Sub64"], unfollowed := true, recurses := true, plainKeys := false, apart := false }
def MeshReversedSaid : Prop := meshReversedRow.holds Try.pinned (OpenSpec.ofChange meshReversedSpec)

/-- ITS FALSE NEIGHBOUR: 'it returns false'. Refute it at one input. -/
def meshReversedWrong : ChangeSpec := { name := "meshReversed", fn := fun _ => fun
  | [d1, d2] => { results := [.lit (.bool false)], args := [d1, d2] }
  | _ => none }
def MeshReversedWrongFalsely : Prop := meshReversedRow.holds Try.pinned (OpenSpec.ofChange meshReversedWrong)

/- THE SECOND FORM. 'bulk': how many values and letters a reading holds, each counted each time it is reached (what is shared counts as often as it is met; a slice's spare places count too). A statement '..UptoSaid' is the law's where the arguments, and the package variables that the reading takes, are together of bulk at most 1048576: NARROWER than '..Said'. Prove '..Said' where nothing that the law and all that it calls make is longer than what came in: it says more and counts as full. Else prove '..UptoSaid'. A law counts once. -/
mutual
def uptoBulk {H : Type} : DataW H → Nat
  | .lit (.string bytes) => bytes.length + 1
  | .lit _ => 1
  | .nil => 1
  | .ptr d => uptoBulk d + 1
  | .slice elems spare => uptoBulkAll elems + uptoBulkAll spare + 1
  | .agg parts => uptoBulkAll parts + 1
  | .iface _ d => uptoBulk d + 1
  | .map entries => uptoBulkEntries entries + 1
  | .held _ => 1
def uptoBulkAll {H : Type} : List (DataW H) → Nat
  | [] => 0
  | d :: r => uptoBulk d + uptoBulkAll r
def uptoBulkEntries {H : Type} : List (Lit × DataW H) → Nat
  | [] => 0
  | x :: r => uptoBulkEntry x + uptoBulkEntries r
def uptoBulkEntry {H : Type} : Lit × DataW H → Nat
  | (.string bytes, d) => bytes.length + uptoBulk d + 1
  | (_, d) => uptoBulk d + 1
 end
def uptoSmall : (H : Type) → List (DataW H) → Bool := fun _ ds => decide (uptoBulkAll ds ≤ 1048576)
def OpenSpec.upto (s : _root_.Go.ChangeSpec) : _root_.Go.OpenSpec := { _root_.Go.OpenSpec.ofChange s with cond := some uptoSmall }

/-- 'shipyardlaw14.MeshChecks', WHERE WHAT IT READS IS OF BULK AT MOST 1048576: true; the input reads as it did. -/
def meshChecksUptoRow : OpenClaim := { program := "ytpjdmjmgkdgfnaa", sum := "68eb3668794c350e983b1908b9773fb06c8c3d3f8bcb74f2303bae1e058ef9d3", func := "shipyard/shipyardlaw14.MeshChecks", spec := "meshChecks", inPlace := ["math/bits.Add64", "math/bits.Sub64"], unfollowed := true, recurses := true, plainKeys := false, apart := false, narrowed := true }
def MeshChecksUptoSaid : Prop := meshChecksUptoRow.holds Try.pinned (OpenSpec.upto meshChecksSpec)

/-- 'shipyardlaw14.MeshVolumes', WHERE WHAT IT READS IS OF BULK AT MOST 1048576: true; the input reads as it did. -/
def meshVolumesUptoRow : OpenClaim := { program := "ytpjdmjmgkdgfnaa", sum := "68eb3668794c350e983b1908b9773fb06c8c3d3f8bcb74f2303bae1e058ef9d3", func := "shipyard/shipyardlaw14.MeshVolumes", spec := "meshVolumes", inPlace := ["math/bits.Add64", "math/bits.Sub64"], unfollowed := true, recurses := true, plainKeys := false, apart := false, narrowed := true }
def MeshVolumesUptoSaid : Prop := meshVolumesUptoRow.holds Try.pinned (OpenSpec.upto meshVolumesSpec)

/-- 'shipyardlaw14.MeshMoves', WHERE WHAT IT READS IS OF BULK AT MOST 1048576: true; the input reads as it did. -/
def meshMovesUptoRow : OpenClaim := { program := "ytpjdmjmgkdgfnaa", sum := "68eb3668794c350e983b1908b9773fb06c8c3d3f8bcb74f2303bae1e058ef9d3", func := "shipyard/shipyardlaw14.MeshMoves", spec := "meshMoves", inPlace := ["math/bits.Add64", "math/bits.Sub64"], unfollowed := true, recurses := true, plainKeys := false, apart := false, narrowed := true }
def MeshMovesUptoSaid : Prop := meshMovesUptoRow.holds Try.pinned (OpenSpec.upto meshMovesSpec)

/-- 'shipyardlaw14.MeshRigid', WHERE WHAT IT READS IS OF BULK AT MOST 1048576: true; the input reads as it did. -/
def meshRigidUptoRow : OpenClaim := { program := "ytpjdmjmgkdgfnaa", sum := "68eb3668794c350e983b1908b9773fb06c8c3d3f8bcb74f2303bae1e058ef9d3", func := "shipyard/shipyardlaw14.MeshRigid", spec := "meshRigid", inPlace := ["math/bits.Add64", "math/bits.Sub64"], unfollowed := true, recurses := true, plainKeys := false, apart := false, narrowed := true }
def MeshRigidUptoSaid : Prop := meshRigidUptoRow.holds Try.pinned (OpenSpec.upto meshRigidSpec)

/-- 'shipyardlaw14.MeshBoxes', WHERE WHAT IT READS IS OF BULK AT MOST 1048576: true; the input reads as it did. -/
def meshBoxesUptoRow : OpenClaim := { program := "ytpjdmjmgkdgfnaa", sum := "68eb3668794c350e983b1908b9773fb06c8c3d3f8bcb74f2303bae1e058ef9d3", func := "shipyard/shipyardlaw14.MeshBoxes", spec := "meshBoxes", inPlace := ["math/bits.Add64", "math/bits.Sub64"], unfollowed := true, recurses := true, plainKeys := false, apart := false, narrowed := true }
def MeshBoxesUptoSaid : Prop := meshBoxesUptoRow.holds Try.pinned (OpenSpec.upto meshBoxesSpec)

/-- 'shipyardlaw14.MeshPieces', WHERE WHAT IT READS IS OF BULK AT MOST 1048576: true; the input reads as it did. -/
def meshPiecesUptoRow : OpenClaim := { program := "ytpjdmjmgkdgfnaa", sum := "68eb3668794c350e983b1908b9773fb06c8c3d3f8bcb74f2303bae1e058ef9d3", func := "shipyard/shipyardlaw14.MeshPieces", spec := "meshPieces", inPlace := ["math/bits.Add64", "math/bits.Sub64"], unfollowed := true, recurses := true, plainKeys := false, apart := false, narrowed := true }
def MeshPiecesUptoSaid : Prop := meshPiecesUptoRow.holds Try.pinned (OpenSpec.upto meshPiecesSpec)

/-- 'shipyardlaw14.MeshTogether', WHERE WHAT IT READS IS OF BULK AT MOST 1048576: true; the input reads as it did. -/
def meshTogetherUptoRow : OpenClaim := { program := "ytpjdmjmgkdgfnaa", sum := "68eb3668794c350e983b1908b9773fb06c8c3d3f8bcb74f2303bae1e058ef9d3", func := "shipyard/shipyardlaw14.MeshTogether", spec := "meshTogether", inPlace := ["math/bits.Add64", "math/bits.Sub64"], unfollowed := true, recurses := true, plainKeys := false, apart := false, narrowed := true }
def MeshTogetherUptoSaid : Prop := meshTogetherUptoRow.holds Try.pinned (OpenSpec.upto meshTogetherSpec)

/-- 'shipyardlaw14.MeshReversed', WHERE WHAT IT READS IS OF BULK AT MOST 1048576: true; the input reads as it did. -/
def meshReversedUptoRow : OpenClaim := { program := "ytpjdmjmgkdgfnaa", sum := "68eb3668794c350e983b1908b9773fb06c8c3d3f8bcb74f2303bae1e058ef9d3", func := "shipyard/shipyardlaw14.MeshReversed", spec := "meshReversed", inPlace := ["math/bits.Add64", "math/bits.Sub64"], unfollowed := true, recurses := true, plainKeys := false, apart := false, narrowed := true }
def MeshReversedUptoSaid : Prop := meshReversedUptoRow.holds Try.pinned (OpenSpec.upto meshReversedSpec)

end Rows
end Go.Proofs.Ytpjdmjmgkdgfnaa
