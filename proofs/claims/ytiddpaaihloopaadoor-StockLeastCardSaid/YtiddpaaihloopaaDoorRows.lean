/-
  NARROWER THAN 'FOR EVERY INPUT', by the rows' own cells (each row's printed sentence says how): StockChecks: laid · StockBack: laid · StockLeast: laid · StockOrders: laid.
  DERIVED. THE GIVEN ROWS OF THIS SEAT. 4 by the template 'for every input the law returns true; each argument reads behind the call as it read before'; 0 by the template 'total and deterministic' (their statements: YtiddpaaihloopaaDoorTotals.lean).
  GIVEN WITH THE SEED: the statements are not yours to turn. If you find one false, say at which input.
  Laid BY PROGRAM, IN A SANDBOX (cutbox-rows.mjs): the forced cells as the released guide's own fill.sh prints them over the translation 412dbce84dccff5a… (all of the seat's roots in one cut). By AI agents, Wed Nov 11 2026. No macro, syntax, notation, axiom, sorry.
-/
import Derived.Test.YtiddpaaihloopaaDoorChecked
import GoSem.PinnedTables
import GoSem.Claim
import GoSem.ClaimJoined
import GoSem.ClaimMapViews
import Derived.JoinedTies
import Derived.KernelRfl
namespace Go.Proofs.YtiddpaaihloopaaDoor
/- THE CELL 'sum', in the pinned program and in every row, IS THE sha256 OF THE DUMP (.gsa) THAT YtiddpaaihloopaaDoorProg.lean LOADS. Nothing in Lean hashes anything: it is a label: what it is worth is what the hold of that sum in a sandbox is worth. -/
noncomputable def Tryd.pinned : Pinned := { name := "ytiddpaaihloopaadoor", sum := "412dbce84dccff5adee93c05470fffe949a1abdad16847d6c42b3e034db54a39", checked := Tryd.checked }
namespace Rows
def none {H : Type} : Left H := { results := [], args := [] }

/- WHAT THE LISTED PACKAGE-LEVEL VARIABLES READ AS WHEN THE CALL BEGINS. Each datum BY PROGRAM (the guide's laid-datum.mjs) off the statement by which the dump's own 'gosem.cut.vars' lays the variable. In a bare row this is a premise. The card (YtiddpaaihloopaaDoorCards.lean) ties it to the program's text. -/
def laid_unicode_utf8_acceptRanges {H : Type} : DataW H := .agg [.agg [.lit (.int .u8 128), .lit (.int .u8 191)], .agg [.lit (.int .u8 160), .lit (.int .u8 191)], .agg [.lit (.int .u8 128), .lit (.int .u8 159)], .agg [.lit (.int .u8 144), .lit (.int .u8 191)], .agg [.lit (.int .u8 128), .lit (.int .u8 143)], .agg [.lit (.int .u8 0), .lit (.int .u8 0)], .agg [.lit (.int .u8 0), .lit (.int .u8 0)], .agg [.lit (.int .u8 0), .lit (.int .u8 0)], .agg [.lit (.int .u8 0), .lit (.int .u8 0)], .agg [.lit (.int .u8 0), .lit (.int .u8 0)], .agg [.lit (.int .u8 0), .lit (.int .u8 0)], .agg [.lit (.int .u8 0), .lit (.int .u8 0)], .agg [.lit (.int .u8 0), .lit (.int .u8 0)], .agg [.lit (.int .u8 0), .lit (.int .u8 0)], .agg [.lit (.int .u8 0), .lit (.int .u8 0)], .agg [.lit (.int .u8 0), .lit (.int .u8 0)]]
/-- One of Go's own tables, pinned by name: the form's constant. -/
def laid_unicode_utf8_first : DataW Unit := Go.Pinned.utf8First

/-- 'shipyardlaw29.StockChecks': WHATEVER THE INPUT: true; the input reads as it did. -/
def stockChecksSpec : ChangeSpec := { name := "stockChecks", fn := fun _ => fun
  | [d1, d2, d3] => { results := [.lit (.bool true)], args := [d1, d2, d3] }
  | _ => none }
def stockChecksRow : OpenClaim := { program := "ytiddpaaihloopaadoor", sum := "412dbce84dccff5adee93c05470fffe949a1abdad16847d6c42b3e034db54a39", func := "shipyard/shipyardlaw29.StockChecks", spec := "stockChecks", inPlace := ["internal/bytealg.CountString", "internal/bytealg.IndexByteString", "internal/bytealg.IndexString", "internal/bytealg.abigen_runtime_cmpstring", "slices.overlaps[shipyard/api.Sheet]", "slices.overlaps[shipyard/api.Bar]"], unfollowed := true, recurses := true, named := ["unicode/utf8.first", "unicode/utf8.acceptRanges", "internal/bytealg.MaxLen"], apart := false, laid := [("unicode/utf8.acceptRanges", laid_unicode_utf8_acceptRanges), ("unicode/utf8.first", laid_unicode_utf8_first)] }
def StockChecksSaid : Prop := stockChecksRow.holds Tryd.pinned (OpenSpec.ofChange stockChecksSpec)

/-- ITS FALSE NEIGHBOUR: 'it returns false'. Refute it at one input. -/
def stockChecksWrong : ChangeSpec := { name := "stockChecks", fn := fun _ => fun
  | [d1, d2, d3] => { results := [.lit (.bool false)], args := [d1, d2, d3] }
  | _ => none }
def StockChecksWrongFalsely : Prop := stockChecksRow.holds Tryd.pinned (OpenSpec.ofChange stockChecksWrong)

/-- 'shipyardlaw29.StockBack': WHATEVER THE INPUT: true; the input reads as it did. -/
def stockBackSpec : ChangeSpec := { name := "stockBack", fn := fun _ => fun
  | [d1, d2, d3] => { results := [.lit (.bool true)], args := [d1, d2, d3] }
  | _ => none }
def stockBackRow : OpenClaim := { program := "ytiddpaaihloopaadoor", sum := "412dbce84dccff5adee93c05470fffe949a1abdad16847d6c42b3e034db54a39", func := "shipyard/shipyardlaw29.StockBack", spec := "stockBack", inPlace := ["internal/bytealg.CountString", "internal/bytealg.IndexByteString", "internal/bytealg.IndexString", "internal/bytealg.abigen_runtime_cmpstring", "slices.overlaps[shipyard/api.Sheet]", "slices.overlaps[shipyard/api.Bar]"], unfollowed := true, recurses := true, named := ["unicode/utf8.first", "unicode/utf8.acceptRanges", "internal/bytealg.MaxLen"], apart := false, laid := [("unicode/utf8.acceptRanges", laid_unicode_utf8_acceptRanges), ("unicode/utf8.first", laid_unicode_utf8_first)] }
def StockBackSaid : Prop := stockBackRow.holds Tryd.pinned (OpenSpec.ofChange stockBackSpec)

/-- ITS FALSE NEIGHBOUR: 'it returns false'. Refute it at one input. -/
def stockBackWrong : ChangeSpec := { name := "stockBack", fn := fun _ => fun
  | [d1, d2, d3] => { results := [.lit (.bool false)], args := [d1, d2, d3] }
  | _ => none }
def StockBackWrongFalsely : Prop := stockBackRow.holds Tryd.pinned (OpenSpec.ofChange stockBackWrong)

/-- 'shipyardlaw29.StockLeast': WHATEVER THE INPUT: true; the input reads as it did. -/
def stockLeastSpec : ChangeSpec := { name := "stockLeast", fn := fun _ => fun
  | [d1, d2, d3] => { results := [.lit (.bool true)], args := [d1, d2, d3] }
  | _ => none }
def stockLeastRow : OpenClaim := { program := "ytiddpaaihloopaadoor", sum := "412dbce84dccff5adee93c05470fffe949a1abdad16847d6c42b3e034db54a39", func := "shipyard/shipyardlaw29.StockLeast", spec := "stockLeast", inPlace := ["internal/bytealg.CountString", "internal/bytealg.IndexByteString", "internal/bytealg.IndexString", "internal/bytealg.abigen_runtime_cmpstring", "slices.overlaps[shipyard/api.Sheet]", "slices.overlaps[shipyard/api.Bar]"], unfollowed := true, recurses := true, named := ["unicode/utf8.first", "unicode/utf8.acceptRanges", "internal/bytealg.MaxLen"], apart := false, laid := [("unicode/utf8.acceptRanges", laid_unicode_utf8_acceptRanges), ("unicode/utf8.first", laid_unicode_utf8_first)] }
def StockLeastSaid : Prop := stockLeastRow.holds Tryd.pinned (OpenSpec.ofChange stockLeastSpec)

/-- ITS FALSE NEIGHBOUR: 'it returns false'. Refute it at one input. -/
def stockLeastWrong : ChangeSpec := { name := "stockLeast", fn := fun _ => fun
  | [d1, d2, d3] => { results := [.lit (.bool false)], args := [d1, d2, d3] }
  | _ => none }
def StockLeastWrongFalsely : Prop := stockLeastRow.holds Tryd.pinned (OpenSpec.ofChange stockLeastWrong)

/-- 'shipyardlaw29.StockOrders': WHATEVER THE INPUT: true; the input reads as it did. -/
def stockOrdersSpec : ChangeSpec := { name := "stockOrders", fn := fun _ => fun
  | [d1, d2, d3] => { results := [.lit (.bool true)], args := [d1, d2, d3] }
  | _ => none }
def stockOrdersRow : OpenClaim := { program := "ytiddpaaihloopaadoor", sum := "412dbce84dccff5adee93c05470fffe949a1abdad16847d6c42b3e034db54a39", func := "shipyard/shipyardlaw29.StockOrders", spec := "stockOrders", inPlace := ["internal/bytealg.CountString", "internal/bytealg.IndexByteString", "internal/bytealg.IndexString", "internal/bytealg.abigen_runtime_cmpstring", "slices.overlaps[shipyard/api.Sheet]", "slices.overlaps[shipyard/api.Bar]"], unfollowed := true, recurses := true, named := ["unicode/utf8.first", "unicode/utf8.acceptRanges", "internal/bytealg.MaxLen"], apart := false, laid := [("unicode/utf8.acceptRanges", laid_unicode_utf8_acceptRanges), ("unicode/utf8.first", laid_unicode_utf8_first)] }
def StockOrdersSaid : Prop := stockOrdersRow.holds Tryd.pinned (OpenSpec.ofChange stockOrdersSpec)

/-- ITS FALSE NEIGHBOUR: 'it returns false'. Refute it at one input. -/
def stockOrdersWrong : ChangeSpec := { name := "stockOrders", fn := fun _ => fun
  | [d1, d2, d3] => { results := [.lit (.bool false)], args := [d1, d2, d3] }
  | _ => none }
def StockOrdersWrongFalsely : Prop := stockOrdersRow.holds Tryd.pinned (OpenSpec.ofChange stockOrdersWrong)

/- THE SECOND FORM. 'bulk': how many values and letters a reading holds, each counted each time it is reached (what is shared counts as often as it is met; a slice's spare places count too). A statement '..UptoSaid' is the law's where the arguments, and the package variables that the reading takes, are together of bulk at most 1048576: NARROWER than '..Said'. Prove '..Said' where nothing that the law and all that it calls make is longer than what came in: it says more and counts as full. Else prove '..UptoSaid'. A law counts once. -/
mutual
def uptoBulk {H : Type} : DataW H → Nat
  | .lit (.string bytes) => bytes.length + 1
  | .lit _ => 1
  | .nil => 1
  | .ptr d => uptoBulk d + 1
  | .slice elems spare => uptoBulkAll elems + uptoBulkAll spare + 1
  | .agg parts => uptoBulkAll parts + 1
  | .iface _ d => uptoBulk d + 1
  | .map entries => uptoBulkEntries entries + 1
  | .held _ => 1
def uptoBulkAll {H : Type} : List (DataW H) → Nat
  | [] => 0
  | d :: r => uptoBulk d + uptoBulkAll r
def uptoBulkEntries {H : Type} : List (Lit × DataW H) → Nat
  | [] => 0
  | x :: r => uptoBulkEntry x + uptoBulkEntries r
def uptoBulkEntry {H : Type} : Lit × DataW H → Nat
  | (.string bytes, d) => bytes.length + uptoBulk d + 1
  | (_, d) => uptoBulk d + 1
 end
def uptoSmall : (H : Type) → List (DataW H) → Bool := fun _ ds => decide (uptoBulkAll ds ≤ 1048576)
def OpenSpec.upto (s : _root_.Go.ChangeSpec) : _root_.Go.OpenSpec := { _root_.Go.OpenSpec.ofChange s with cond := some uptoSmall }

/-- 'shipyardlaw29.StockChecks', WHERE WHAT IT READS IS OF BULK AT MOST 1048576: true; the input reads as it did. -/
def stockChecksUptoRow : OpenClaim := { program := "ytiddpaaihloopaadoor", sum := "412dbce84dccff5adee93c05470fffe949a1abdad16847d6c42b3e034db54a39", func := "shipyard/shipyardlaw29.StockChecks", spec := "stockChecks", inPlace := ["internal/bytealg.CountString", "internal/bytealg.IndexByteString", "internal/bytealg.IndexString", "internal/bytealg.abigen_runtime_cmpstring", "slices.overlaps[shipyard/api.Sheet]", "slices.overlaps[shipyard/api.Bar]"], unfollowed := true, recurses := true, named := ["unicode/utf8.first", "unicode/utf8.acceptRanges", "internal/bytealg.MaxLen"], apart := false, laid := [("unicode/utf8.acceptRanges", laid_unicode_utf8_acceptRanges), ("unicode/utf8.first", laid_unicode_utf8_first)], narrowed := true }
def StockChecksUptoSaid : Prop := stockChecksUptoRow.holds Tryd.pinned (OpenSpec.upto stockChecksSpec)

/-- 'shipyardlaw29.StockBack', WHERE WHAT IT READS IS OF BULK AT MOST 1048576: true; the input reads as it did. -/
def stockBackUptoRow : OpenClaim := { program := "ytiddpaaihloopaadoor", sum := "412dbce84dccff5adee93c05470fffe949a1abdad16847d6c42b3e034db54a39", func := "shipyard/shipyardlaw29.StockBack", spec := "stockBack", inPlace := ["internal/bytealg.CountString", "internal/bytealg.IndexByteString", "internal/bytealg.IndexString", "internal/bytealg.abigen_runtime_cmpstring", "slices.overlaps[shipyard/api.Sheet]", "slices.overlaps[shipyard/api.Bar]"], unfollowed := true, recurses := true, named := ["unicode/utf8.first", "unicode/utf8.acceptRanges", "internal/bytealg.MaxLen"], apart := false, laid := [("unicode/utf8.acceptRanges", laid_unicode_utf8_acceptRanges), ("unicode/utf8.first", laid_unicode_utf8_first)], narrowed := true }
def StockBackUptoSaid : Prop := stockBackUptoRow.holds Tryd.pinned (OpenSpec.upto stockBackSpec)

/-- 'shipyardlaw29.StockLeast', WHERE WHAT IT READS IS OF BULK AT MOST 1048576: true; the input reads as it did. -/
def stockLeastUptoRow : OpenClaim := { program := "ytiddpaaihloopaadoor", sum := "412dbce84dccff5adee93c05470fffe949a1abdad16847d6c42b3e034db54a39", func := "shipyard/shipyardlaw29.StockLeast", spec := "stockLeast", inPlace := ["internal/bytealg.CountString", "internal/bytealg.IndexByteString", "internal/bytealg.IndexString", "internal/bytealg.abigen_runtime_cmpstring", "slices.overlaps[shipyard/api.Sheet]", "slices.overlaps[shipyard/api.Bar]"], unfollowed := true, recurses := true, named := ["unicode/utf8.first", "unicode/utf8.acceptRanges", "internal/bytealg.MaxLen"], apart := false, laid := [("unicode/utf8.acceptRanges", laid_unicode_utf8_acceptRanges), ("unicode/utf8.first", laid_unicode_utf8_first)], narrowed := true }
def StockLeastUptoSaid : Prop := stockLeastUptoRow.holds Tryd.pinned (OpenSpec.upto stockLeastSpec)

/-- 'shipyardlaw29.StockOrders', WHERE WHAT IT READS IS OF BULK AT MOST 1048576: true; the input reads as it did. -/
def stockOrdersUptoRow : OpenClaim := { program := "ytiddpaaihloopaadoor", sum := "412dbce84dccff5adee93c05470fffe949a1abdad16847d6c42b3e034db54a39", func := "shipyard/shipyardlaw29.StockOrders", spec := "stockOrders", inPlace := ["internal/bytealg.CountString", "internal/bytealg.IndexByteString", "internal/bytealg.IndexString", "internal/bytealg.abigen_runtime_cmpstring", "slices.overlaps[shipyard/api.Sheet]", "slices.overlaps[shipyard/api.Bar]"], unfollowed := true, recurses := true, named := ["unicode/utf8.first", "unicode/utf8.acceptRanges", "internal/bytealg.MaxLen"], apart := false, laid := [("unicode/utf8.acceptRanges", laid_unicode_utf8_acceptRanges), ("unicode/utf8.first", laid_unicode_utf8_first)], narrowed := true }
def StockOrdersUptoSaid : Prop := stockOrdersUptoRow.holds Tryd.pinned (OpenSpec.upto stockOrdersSpec)

end Rows
end Go.Proofs.YtiddpaaihloopaaDoor
