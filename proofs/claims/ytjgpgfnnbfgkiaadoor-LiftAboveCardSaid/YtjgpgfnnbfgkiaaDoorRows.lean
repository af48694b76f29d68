/-
  NARROWER THAN 'FOR EVERY INPUT', by the rows' own cells (each row's printed sentence says how): LiftGross: laid · LiftLoads: laid · LiftChecks: laid · LiftWhole: laid · LiftCharts: laid · LiftTwo: laid · LiftMiddle: laid · LiftAbove: laid.
  DERIVED. THE GIVEN ROWS OF THIS SEAT. 8 by the template 'for every input the law returns true; each argument reads behind the call as it read before'; 0 by the template 'total and deterministic' (their statements: YtjgpgfnnbfgkiaaDoorTotals.lean).
  GIVEN WITH THE SEED: the statements are not yours to turn. If you find one false, say at which input.
  Laid BY PROGRAM, IN A SANDBOX (cutbox-rows.mjs): the forced cells as the released guide's own fill.sh prints them over the translation 5a4b411b72909524… (all of the seat's roots in one cut). By AI agents, Wed Nov 11 2026. No macro, syntax, notation, axiom, sorry.
-/
import Derived.Test.YtjgpgfnnbfgkiaaDoorChecked
import GoSem.PinnedTables
import GoSem.Claim
import GoSem.ClaimJoined
import GoSem.ClaimMapViews
import Derived.JoinedTies
import Derived.KernelRfl
namespace Go.Proofs.YtjgpgfnnbfgkiaaDoor
/- THE CELL 'sum', in the pinned program and in every row, IS THE sha256 OF THE DUMP (.gsa) THAT YtjgpgfnnbfgkiaaDoorProg.lean LOADS. Nothing in Lean hashes anything: it is a label: what it is worth is what the hold of that sum in a sandbox is worth. -/
noncomputable def Tryd.pinned : Pinned := { name := "ytjgpgfnnbfgkiaadoor", sum := "5a4b411b7290952436e3d60d8f291179366ba110f92a752d82b1a8ed0e2b2e5b", checked := Tryd.checked }
namespace Rows
def none {H : Type} : Left H := { results := [], args := [] }

/- WHAT THE LISTED PACKAGE-LEVEL VARIABLES READ AS WHEN THE CALL BEGINS. Each datum BY PROGRAM (the guide's laid-datum.mjs) off the statement by which the dump's own 'gosem.cut.vars' lays the variable. In a bare row this is a premise. The card (YtjgpgfnnbfgkiaaDoorCards.lean) ties it to the program's text. -/
def laid_unicode_utf8_acceptRanges {H : Type} : DataW H := .agg [.agg [.lit (.int .u8 128), .lit (.int .u8 191)], .agg [.lit (.int .u8 160), .lit (.int .u8 191)], .agg [.lit (.int .u8 128), .lit (.int .u8 159)], .agg [.lit (.int .u8 144), .lit (.int .u8 191)], .agg [.lit (.int .u8 128), .lit (.int .u8 143)], .agg [.lit (.int .u8 0), .lit (.int .u8 0)], .agg [.lit (.int .u8 0), .lit (.int .u8 0)], .agg [.lit (.int .u8 0), .lit (.int .u8 0)], .agg [.lit (.int .u8 0), .lit (.int .u8 0)], .agg [.lit (.int .u8 0), .lit (.int .u8 0)], .agg [.lit (.int .u8 0), .lit (.int .u8 0)], .agg [.lit (.int .u8 0), .lit (.int .u8 0)], .agg [.lit (.int .u8 0), .lit (.int .u8 0)], .agg [.lit (.int .u8 0), .lit (.int .u8 0)], .agg [.lit (.int .u8 0), .lit (.int .u8 0)], .agg [.lit (.int .u8 0), .lit (.int .u8 0)]]
/-- One of Go's own tables, pinned by name: the form's constant. -/
def laid_unicode_utf8_first : DataW Unit := Go.Pinned.utf8First

/-- 'shipyardlaw50.LiftGross': WHATEVER THE INPUT: true; the input reads as it did. -/
def liftGrossSpec : ChangeSpec := { name := "liftGross", fn := fun _ => fun
  | [d] => { results := [.lit (.bool true)], args := [d] }
  | _ => none }
def liftGrossRow : OpenClaim := { program := "ytjgpgfnnbfgkiaadoor", sum := "5a4b411b7290952436e3d60d8f291179366ba110f92a752d82b1a8ed0e2b2e5b", func := "shipyard/shipyardlaw50.LiftGross", spec := "liftGross", inPlace := ["internal/bytealg.CountString", "internal/bytealg.IndexByteString", "internal/bytealg.IndexString"], named := ["unicode/utf8.first", "unicode/utf8.acceptRanges", "internal/bytealg.MaxLen"], apart := false, laid := [("unicode/utf8.acceptRanges", laid_unicode_utf8_acceptRanges), ("unicode/utf8.first", laid_unicode_utf8_first)] }
def LiftGrossSaid : Prop := liftGrossRow.holds Tryd.pinned (OpenSpec.ofChange liftGrossSpec)

/-- ITS FALSE NEIGHBOUR: 'it returns false'. Refute it at one input. -/
def liftGrossWrong : ChangeSpec := { name := "liftGross", fn := fun _ => fun
  | [d] => { results := [.lit (.bool false)], args := [d] }
  | _ => none }
def LiftGrossWrongFalsely : Prop := liftGrossRow.holds Tryd.pinned (OpenSpec.ofChange liftGrossWrong)

/-- 'shipyardlaw50.LiftLoads': WHATEVER THE INPUT: true; the input reads as it did. -/
def liftLoadsSpec : ChangeSpec := { name := "liftLoads", fn := fun _ => fun
  | [d1, d2] => { results := [.lit (.bool true)], args := [d1, d2] }
  | _ => none }
def liftLoadsRow : OpenClaim := { program := "ytjgpgfnnbfgkiaadoor", sum := "5a4b411b7290952436e3d60d8f291179366ba110f92a752d82b1a8ed0e2b2e5b", func := "shipyard/shipyardlaw50.LiftLoads", spec := "liftLoads", inPlace := ["internal/bytealg.CountString", "internal/bytealg.IndexByteString", "internal/bytealg.IndexString"], named := ["unicode/utf8.first", "unicode/utf8.acceptRanges", "internal/bytealg.MaxLen"], apart := false, laid := [("unicode/utf8.acceptRanges", laid_unicode_utf8_acceptRanges), ("unicode/utf8.first", laid_unicode_utf8_first)] }
def LiftLoadsSaid : Prop := liftLoadsRow.holds Tryd.pinned (OpenSpec.ofChange liftLoadsSpec)

/-- ITS FALSE NEIGHBOUR: 'it returns false'. Refute it at one input. -/
def liftLoadsWrong : ChangeSpec := { name := "liftLoads", fn := fun _ => fun
  | [d1, d2] => { results := [.lit (.bool false)], args := [d1, d2] }
  | _ => none }
def LiftLoadsWrongFalsely : Prop := liftLoadsRow.holds Tryd.pinned (OpenSpec.ofChange liftLoadsWrong)

/-- 'shipyardlaw50.LiftChecks': WHATEVER THE INPUT: true; the input reads as it did. -/
def liftChecksSpec : ChangeSpec := { name := "liftChecks", fn := fun _ => fun
  | [d1, d2, d3] => { results := [.lit (.bool true)], args := [d1, d2, d3] }
  | _ => none }
def liftChecksRow : OpenClaim := { program := "ytjgpgfnnbfgkiaadoor", sum := "5a4b411b7290952436e3d60d8f291179366ba110f92a752d82b1a8ed0e2b2e5b", func := "shipyard/shipyardlaw50.LiftChecks", spec := "liftChecks", inPlace := ["internal/bytealg.CountString", "internal/bytealg.IndexByteString", "internal/bytealg.IndexString"], named := ["unicode/utf8.first", "unicode/utf8.acceptRanges", "internal/bytealg.MaxLen"], apart := false, laid := [("unicode/utf8.acceptRanges", laid_unicode_utf8_acceptRanges), ("unicode/utf8.first", laid_unicode_utf8_first)] }
def LiftChecksSaid : Prop := liftChecksRow.holds Tryd.pinned (OpenSpec.ofChange liftChecksSpec)

/-- ITS FALSE NEIGHBOUR: 'it returns false'. Refute it at one input. -/
def liftChecksWrong : ChangeSpec := { name := "liftChecks", fn := fun _ => fun
  | [d1, d2, d3] => { results := [.lit (.bool false)], args := [d1, d2, d3] }
  | _ => none }
def LiftChecksWrongFalsely : Prop := liftChecksRow.holds Tryd.pinned (OpenSpec.ofChange liftChecksWrong)

/-- 'shipyardlaw50.LiftWhole': WHATEVER THE INPUT: true; the input reads as it did. -/
def liftWholeSpec : ChangeSpec := { name := "liftWhole", fn := fun _ => fun
  | [d1, d2] => { results := [.lit (.bool true)], args := [d1, d2] }
  | _ => none }
def liftWholeRow : OpenClaim := { program := "ytjgpgfnnbfgkiaadoor", sum := "5a4b411b7290952436e3d60d8f291179366ba110f92a752d82b1a8ed0e2b2e5b", func := "shipyard/shipyardlaw50.LiftWhole", spec := "liftWhole", inPlace := ["internal/bytealg.CountString", "internal/bytealg.IndexByteString", "internal/bytealg.IndexString"], named := ["unicode/utf8.first", "unicode/utf8.acceptRanges", "internal/bytealg.MaxLen"], apart := false, laid := [("unicode/utf8.acceptRanges", laid_unicode_utf8_acceptRanges), ("unicode/utf8.first", laid_unicode_utf8_first)] }
def LiftWholeSaid : Prop := liftWholeRow.holds Tryd.pinned (OpenSpec.ofChange liftWholeSpec)

/-- ITS FALSE NEIGHBOUR: 'it returns false'. Refute it at one input. -/
def liftWholeWrong : ChangeSpec := { name := "liftWhole", fn := fun _ => fun
  | [d1, d2] => { results := [.lit (.bool false)], args := [d1, d2] }
  | _ => none }
def LiftWholeWrongFalsely : Prop := liftWholeRow.holds Tryd.pinned (OpenSpec.ofChange liftWholeWrong)

/-- 'shipyardlaw50.LiftCharts': WHATEVER THE INPUT: true; the input reads as it did. -/
def liftChartsSpec : ChangeSpec := { name := "liftCharts", fn := fun _ => fun
  | [d1, d2, d3] => { results := [.lit (.bool true)], args := [d1, d2, d3] }
  | _ => none }
def liftChartsRow : OpenClaim := { program := "ytjgpgfnnbfgkiaadoor", sum := "5a4b411b7290952436e3d60d8f291179366ba110f92a752d82b1a8ed0e2b2e5b", func := "shipyard/shipyardlaw50.LiftCharts", spec := "liftCharts", inPlace := ["internal/bytealg.CountString", "internal/bytealg.IndexByteString", "internal/bytealg.IndexString"], named := ["unicode/utf8.first", "unicode/utf8.acceptRanges", "internal/bytealg.MaxLen"], apart := false, laid := [("unicode/utf8.acceptRanges", laid_unicode_utf8_acceptRanges), ("unicode/utf8.first", laid_unicode_utf8_first)] }
def LiftChartsSaid : Prop := liftChartsRow.holds Tryd.pinned (OpenSpec.ofChange liftChartsSpec)

/-- ITS FALSE NEIGHBOUR: 'it returns false'. Refute it at one input. -/
def liftChartsWrong : ChangeSpec := { name := "liftCharts", fn := fun _ => fun
  | [d1, d2, d3] => { results := [.lit (.bool false)], args := [d1, d2, d3] }
  | _ => none }
def LiftChartsWrongFalsely : Prop := liftChartsRow.holds Tryd.pinned (OpenSpec.ofChange liftChartsWrong)

/-- 'shipyardlaw50.LiftTwo': WHATEVER THE INPUT: true; the input reads as it did. -/
def liftTwoSpec : ChangeSpec := { name := "liftTwo", fn := fun _ => fun
  | [d1, d2, d3] => { results := [.lit (.bool true)], args := [d1, d2, d3] }
  | _ => none }
def liftTwoRow : OpenClaim := { program := "ytjgpgfnnbfgkiaadoor", sum := "5a4b411b7290952436e3d60d8f291179366ba110f92a752d82b1a8ed0e2b2e5b", func := "shipyard/shipyardlaw50.LiftTwo", spec := "liftTwo", inPlace := ["internal/bytealg.CountString", "internal/bytealg.IndexByteString", "internal/bytealg.IndexString"], named := ["unicode/utf8.first", "unicode/utf8.acceptRanges", "internal/bytealg.MaxLen"], apart := false, laid := [("unicode/utf8.acceptRanges", laid_unicode_utf8_acceptRanges), ("unicode/utf8.first", laid_unicode_utf8_first)] }
def LiftTwoSaid : Prop := liftTwoRow.holds Tryd.pinned (OpenSpec.ofChange liftTwoSpec)

/-- ITS FALSE NEIGHBOUR: 'it returns false'. Refute it at one input. -/
def liftTwoWrong : ChangeSpec := { name := "liftTwo", fn := fun _ => fun
  | [d1, d2, d3] => { results := [.lit (.bool false)], args := [d1, d2, d3] }
  | _ => none }
def LiftTwoWrongFalsely : Prop := liftTwoRow.holds Tryd.pinned (OpenSpec.ofChange liftTwoWrong)

/-- 'shipyardlaw50.LiftMiddle': WHATEVER THE INPUT: true; the input reads as it did. -/
def liftMiddleSpec : ChangeSpec := { name := "liftMiddle", fn := fun _ => fun
  | [d1, d2, d3] => { results := [.lit (.bool true)], args := [d1, d2, d3] }
  | _ => none }
def liftMiddleRow : OpenClaim := { program := "ytjgpgfnnbfgkiaadoor", sum := "5a4b411b7290952436e3d60d8f291179366ba110f92a752d82b1a8ed0e2b2e5b", func := "shipyard/shipyardlaw50.LiftMiddle", spec := "liftMiddle", inPlace := ["internal/bytealg.CountString", "internal/bytealg.IndexByteString", "internal/bytealg.IndexString"], named := ["unicode/utf8.first", "unicode/utf8.acceptRanges", "internal/bytealg.MaxLen"], apart := false, laid := [("unicode/utf8.acceptRanges", laid_unicode_utf8_acceptRanges), ("unicode/utf8.first", laid_unicode_utf8_first)] }
def LiftMiddleSaid : Prop := liftMiddleRow.holds Tryd.pinned (OpenSpec.ofChange liftMiddleSpec)

/-- ITS FALSE NEIGHBOUR: 'it returns false'. Refute it at one input. -/
def liftMiddleWrong : ChangeSpec := { name := "liftMiddle", fn := fun _ => fun
  | [d1, d2, d3] => { results := [.lit (.bool false)], args := [d1, d2, d3] }
  | _ => none }
def LiftMiddleWrongFalsely : Prop := liftMiddleRow.holds Tryd.pinned (OpenSpec.ofChange liftMiddleWrong)

/-- 'shipyardlaw50.LiftAbove': WHATEVER THE INPUT: true; the input reads as it did. -/
def liftAboveSpec : ChangeSpec := { name := "liftAbove", fn := fun _ => fun
  | [d1, d2, d3] => { results := [.lit (.bool true)], args := [d1, d2, d3] }
  | _ => none }
def liftAboveRow : OpenClaim := { program := "ytjgpgfnnbfgkiaadoor", sum := "5a4b411b7290952436e3d60d8f291179366ba110f92a752d82b1a8ed0e2b2e5b", func := "shipyard/shipyardlaw50.LiftAbove", spec := "liftAbove", inPlace := ["internal/bytealg.CountString", "internal/bytealg.IndexByteString", "internal/bytealg.IndexString"], named := ["unicode/utf8.first", "unicode/utf8.acceptRanges", "internal/bytealg.MaxLen"], apart := false, laid := [("unicode/utf8.acceptRanges", laid_unicode_utf8_acceptRanges), ("unicode/utf8.first", laid_unicode_utf8_first)] }
def LiftAboveSaid : Prop := liftAboveRow.holds Tryd.pinned (OpenSpec.ofChange liftAboveSpec)

/-- ITS FALSE NEIGHBOUR: 'it returns false'. Refute it at one input. -/
def liftAboveWrong : ChangeSpec := { name := "liftAbove", fn := fun _ => fun
  | [d1, d2, d3] => { results := [.lit (.bool false)], args := [d1, d2, d3] }
  | _ => none }
def LiftAboveWrongFalsely : Prop := liftAboveRow.holds Tryd.pinned (OpenSpec.ofChange liftAboveWrong)

/- THE SECOND FORM. 'bulk': how many values and letters a reading holds, each counted each time it is reached (what is shared counts as often as it is met; a slice's spare places count too). A statement '..UptoSaid' is the law's where the arguments, and the package variables that the reading takes, are together of bulk at most 1048576: NARROWER than '..Said'. Prove '..Said' where nothing that the law and all that it calls make is longer than what came in: it says more and counts as full. Else prove '..UptoSaid'. A law counts once. -/
mutual
def uptoBulk {H : Type} : DataW H → Nat
  | .lit (.string bytes) => bytes.length + 1
  | .lit _ => 1
  | .nil => 1
  | .ptr d => uptoBulk d + 1
  | .slice elems spare => uptoBulkAll elems + uptoBulkAll spare + 1
  | .agg parts => uptoBulkAll parts + 1
  | .iface _ d => uptoBulk d + 1
  | .map entries => uptoBulkEntries entries + 1
  | .held _ => 1
def uptoBulkAll {H : Type} : List (DataW H) → Nat
  | [] => 0
  | d :: r => uptoBulk d + uptoBulkAll r
def uptoBulkEntries {H : Type} : List (Lit × DataW H) → Nat
  | [] => 0
  | x :: r => uptoBulkEntry x + uptoBulkEntries r
def uptoBulkEntry {H : Type} : Lit × DataW H → Nat
  | (.string bytes, d) => bytes.length + uptoBulk d + 1
  | (_, d) => uptoBulk d + 1
 end
def uptoSmall : (H : Type) → List (DataW H) → Bool := fun _ ds => decide (uptoBulkAll ds ≤ 1048576)
def OpenSpec.upto (s : _root_.Go.ChangeSpec) : _root_.Go.OpenSpec := { _root_.Go.OpenSpec.ofChange s with cond := some uptoSmall }

/-- 'shipyardlaw50.LiftGross', WHERE WHAT IT READS IS OF BULK AT MOST 1048576: true; the input reads as it did. -/
def liftGrossUptoRow : OpenClaim := { program := "ytjgpgfnnbfgkiaadoor", sum := "5a4b411b7290952436e3d60d8f291179366ba110f92a752d82b1a8ed0e2b2e5b", func := "shipyard/shipyardlaw50.LiftGross", spec := "liftGross", inPlace := ["internal/bytealg.CountString", "internal/bytealg.IndexByteString", "internal/bytealg.IndexString"], named := ["unicode/utf8.first", "unicode/utf8.acceptRanges", "internal/bytealg.MaxLen"], apart := false, laid := [("unicode/utf8.acceptRanges", laid_unicode_utf8_acceptRanges), ("unicode/utf8.first", laid_unicode_utf8_first)], narrowed := true }
def LiftGrossUptoSaid : Prop := liftGrossUptoRow.holds Tryd.pinned (OpenSpec.upto liftGrossSpec)

/-- 'shipyardlaw50.LiftLoads', WHERE WHAT IT READS IS OF BULK AT MOST 1048576: true; the input reads as it did. -/
def liftLoadsUptoRow : OpenClaim := { program := "ytjgpgfnnbfgkiaadoor", sum := "5a4b411b7290952436e3d60d8f291179366ba110f92a752d82b1a8ed0e2b2e5b", func := "shipyard/shipyardlaw50.LiftLoads", spec := "liftLoads", inPlace := ["internal/bytealg.CountString", "internal/bytealg.IndexByteString", "internal/bytealg.IndexString"], named := ["unicode/utf8.first", "unicode/utf8.acceptRanges", "internal/bytealg.MaxLen"], apart := false, laid := [("unicode/utf8.acceptRanges", laid_unicode_utf8_acceptRanges), ("unicode/utf8.first", laid_unicode_utf8_first)], narrowed := true }
def LiftLoadsUptoSaid : Prop := liftLoadsUptoRow.holds Tryd.pinned (OpenSpec.upto liftLoadsSpec)

/-- 'shipyardlaw50.LiftChecks', WHERE WHAT IT READS IS OF BULK AT MOST 1048576: true; the input reads as it did. -/
def liftChecksUptoRow : OpenClaim := { program := "ytjgpgfnnbfgkiaadoor", sum := "5a4b411b7290952436e3d60d8f291179366ba110f92a752d82b1a8ed0e2b2e5b", func := "shipyard/shipyardlaw50.LiftChecks", spec := "liftChecks", inPlace := ["internal/bytealg.CountString", "internal/bytealg.IndexByteString", "internal/bytealg.IndexString"], named := ["unicode/utf8.first", "unicode/utf8.acceptRanges", "internal/bytealg.MaxLen"], apart := false, laid := [("unicode/utf8.acceptRanges", laid_unicode_utf8_acceptRanges), ("unicode/utf8.first", laid_unicode_utf8_first)], narrowed := true }
def LiftChecksUptoSaid : Prop := liftChecksUptoRow.holds Tryd.pinned (OpenSpec.upto liftChecksSpec)

/-- 'shipyardlaw50.LiftWhole', WHERE WHAT IT READS IS OF BULK AT MOST 1048576: true; the input reads as it did. -/
def liftWholeUptoRow : OpenClaim := { program := "ytjgpgfnnbfgkiaadoor", sum := "5a4b411b7290952436e3d60d8f291179366ba110f92a752d82b1a8ed0e2b2e5b", func := "shipyard/shipyardlaw50.LiftWhole", spec := "liftWhole", inPlace := ["internal/bytealg.CountString", "internal/bytealg.IndexByteString", "internal/bytealg.IndexString"], named := ["unicode/utf8.first", "unicode/utf8.acceptRanges", "internal/bytealg.MaxLen"], apart := false, laid := [("unicode/utf8.acceptRanges", laid_unicode_utf8_acceptRanges), ("unicode/utf8.first", laid_unicode_utf8_first)], narrowed := true }
def LiftWholeUptoSaid : Prop := liftWholeUptoRow.holds Tryd.pinned (OpenSpec.upto liftWholeSpec)

/-- 'shipyardlaw50.LiftCharts', WHERE WHAT IT READS IS OF BULK AT MOST 1048576: true; the input reads as it did. -/
def liftChartsUptoRow : OpenClaim := { program := "ytjgpgfnnbfgkiaadoor", sum := "5a4b411b7290952436e3d60d8f291179366ba110f92a752d82b1a8ed0e2b2e5b", func := "shipyard/shipyardlaw50.LiftCharts", spec := "liftCharts", inPlace := ["internal/bytealg.CountString", "internal/bytealg.IndexByteString", "internal/bytealg.IndexString"], named := ["unicode/utf8.first", "unicode/utf8.acceptRanges", "internal/bytealg.MaxLen"], apart := false, laid := [("unicode/utf8.acceptRanges", laid_unicode_utf8_acceptRanges), ("unicode/utf8.first", laid_unicode_utf8_first)], narrowed := true }
def LiftChartsUptoSaid : Prop := liftChartsUptoRow.holds Tryd.pinned (OpenSpec.upto liftChartsSpec)

/-- 'shipyardlaw50.LiftTwo', WHERE WHAT IT READS IS OF BULK AT MOST 1048576: true; the input reads as it did. -/
def liftTwoUptoRow : OpenClaim := { program := "ytjgpgfnnbfgkiaadoor", sum := "5a4b411b7290952436e3d60d8f291179366ba110f92a752d82b1a8ed0e2b2e5b", func := "shipyard/shipyardlaw50.LiftTwo", spec := "liftTwo", inPlace := ["internal/bytealg.CountString", "internal/bytealg.IndexByteString", "internal/bytealg.IndexString"], named := ["unicode/utf8.first", "unicode/utf8.acceptRanges", "internal/bytealg.MaxLen"], apart := false, laid := [("unicode/utf8.acceptRanges", laid_unicode_utf8_acceptRanges), ("unicode/utf8.first", laid_unicode_utf8_first)], narrowed := true }
def LiftTwoUptoSaid : Prop := liftTwoUptoRow.holds Tryd.pinned (OpenSpec.upto liftTwoSpec)

/-- 'shipyardlaw50.LiftMiddle', WHERE WHAT IT READS IS OF BULK AT MOST 1048576: true; the input reads as it did. -/
def liftMiddleUptoRow : OpenClaim := { program := "ytjgpgfnnbfgkiaadoor", sum := "5a4b411b7290952436e3d60d8f291179366ba110f92a752d82b1a8ed0e2b2e5b", func := "shipyard/shipyardlaw50.LiftMiddle", spec := "liftMiddle", inPlace := ["internal/bytealg.CountString", "internal/bytealg.IndexByteString", "internal/bytealg.IndexString"], named := ["unicode/utf8.first", "unicode/utf8.acceptRanges", "internal/bytealg.MaxLen"], apart := false, laid := [("unicode/utf8.acceptRanges", laid_unicode_utf8_acceptRanges), ("unicode/utf8.first", laid_unicode_utf8_first)], narrowed := true }
def LiftMiddleUptoSaid : Prop := liftMiddleUptoRow.holds Tryd.pinned (OpenSpec.upto liftMiddleSpec)

/-- 'shipyardlaw50.LiftAbove', WHERE WHAT IT READS IS OF BULK AT MOST 1048576: true; the input reads as it did. -/
def liftAboveUptoRow : OpenClaim := { program := "ytjgpgfnnbfgkiaadoor", sum := "5a4b411b7290952436e3d60d8f291179366ba110f92a752d82b1a8ed0e2b2e5b", func := "shipyard/shipyardlaw50.LiftAbove", spec := "liftAbove", inPlace := ["internal/bytealg.CountString", "internal/bytealg.IndexByteString", "internal/bytealg.IndexString"], named := ["unicode/utf8.first", "unicode/utf8.acceptRanges", "internal/bytealg.MaxLen"], apart := false, laid := [("unicode/utf8.acceptRanges", laid_unicode_utf8_acceptRanges), ("unicode/utf8.first", laid_unicode_utf8_first)], narrowed := true }
def LiftAboveUptoSaid : Prop := liftAboveUptoRow.holds Tryd.pinned (OpenSpec.upto liftAboveSpec)

end Rows
end Go.Proofs.YtjgpgfnnbfgkiaaDoor
