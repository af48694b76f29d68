/-
  NARROWER THAN 'FOR EVERY INPUT', by the rows' own cells (each row's printed sentence says how): CableChecks: laid · CableRoutes: laid · CableLays: laid · CableUses: laid · CableShortest: laid · CableBack: laid · CableFits: laid.
  DERIVED. THE GIVEN ROWS OF THIS SEAT. 7 by the template 'for every input the law returns true; each argument reads behind the call as it read before'; 0 by the template 'total and deterministic' (their statements: YtpkgadjglidnaaaDoorTotals.lean).
  GIVEN WITH THE SEED: the statements are not yours to turn. If you find one false, say at which input.
  Laid BY PROGRAM, IN A SANDBOX (cutbox-rows.mjs): the forced cells as the released guide's own fill.sh prints them over the translation 21f07fd6d6ab0f50… (all of the seat's roots in one cut). By AI agents, Wed Nov 11 2026. No macro, syntax, notation, axiom, sorry.
-/
import Derived.Test.YtpkgadjglidnaaaDoorChecked
import GoSem.PinnedTables
import GoSem.Claim
import GoSem.ClaimJoined
import GoSem.ClaimMapViews
import Derived.JoinedTies
import Derived.KernelRfl
namespace Go.Proofs.YtpkgadjglidnaaaDoor
/- THE CELL 'sum', in the pinned program and in every row, IS THE sha256 OF THE DUMP (.gsa) THAT YtpkgadjglidnaaaDoorProg.lean LOADS. Nothing in Lean hashes anything: it is a label: what it is worth is what the hold of that sum in a sandbox is worth. -/
noncomputable def Tryd.pinned : Pinned := { name := "ytpkgadjglidnaaadoor", sum := "21f07fd6d6ab0f507af3c3ee68a2293acf38721baf0f2ea895666f9a4daa1d43", checked := Tryd.checked }
namespace Rows
def none {H : Type} : Left H := { results := [], args := [] }

/- WHAT THE LISTED PACKAGE-LEVEL VARIABLES READ AS WHEN THE CALL BEGINS. Each datum BY PROGRAM (the guide's laid-datum.mjs) off the statement by which the dump's own 'gosem.cut.vars' lays the variable. In a bare row this is a premise. The card (YtpkgadjglidnaaaDoorCards.lean) ties it to the program's text. -/
def laid_unicode_utf8_acceptRanges {H : Type} : DataW H := .agg [.agg [.lit (.int .u8 128), .lit (.int .u8 191)], .agg [.lit (.int .u8 160), .lit (.int .u8 191)], .agg [.lit (.int .u8 128), .lit (.int .u8 159)], .agg [.lit (.int .u8 144), .lit (.int .u8 191)], .agg [.lit (.int .u8 128), .lit (.int .u8 143)], .agg [.lit (.int .u8 0), .lit (.int .u8 0)], .agg [.lit (.int .u8 0), .lit (.int .u8 0)], .agg [.lit (.int .u8 0), .lit (.int .u8 0)], .agg [.lit (.int .u8 0), .lit (.int .u8 0)], .agg [.lit (.int .u8 0), .lit (.int .u8 0)], .agg [.lit (.int .u8 0), .lit (.int .u8 0)], .agg [.lit (.int .u8 0), .lit (.int .u8 0)], .agg [.lit (.int .u8 0), .lit (.int .u8 0)], .agg [.lit (.int .u8 0), .lit (.int .u8 0)], .agg [.lit (.int .u8 0), .lit (.int .u8 0)], .agg [.lit (.int .u8 0), .lit (.int .u8 0)]]
/-- One of Go's own tables, pinned by name: the form's constant. -/
def laid_unicode_utf8_first : DataW Unit := Go.Pinned.utf8First

/-- 'shipyardlaw45.CableChecks': WHATEVER THE INPUT: true; the input reads as it did. -/
def cableChecksSpec : ChangeSpec := { name := "cableChecks", fn := fun _ => fun
  | [d1, d2, d3] => { results := [.lit (.bool true)], args := [d1, d2, d3] }
  | _ => none }
def cableChecksRow : OpenClaim := { program := "ytpkgadjglidnaaadoor", sum := "21f07fd6d6ab0f507af3c3ee68a2293acf38721baf0f2ea895666f9a4daa1d43", func := "shipyard/shipyardlaw45.CableChecks", spec := "cableChecks", inPlace := ["internal/bytealg.CountString", "internal/bytealg.IndexByteString", "internal/bytealg.IndexString"], named := ["unicode/utf8.first", "unicode/utf8.acceptRanges", "internal/bytealg.MaxLen"], apart := false, laid := [("unicode/utf8.acceptRanges", laid_unicode_utf8_acceptRanges), ("unicode/utf8.first", laid_unicode_utf8_first)] }
def CableChecksSaid : Prop := cableChecksRow.holds Tryd.pinned (OpenSpec.ofChange cableChecksSpec)

/-- ITS FALSE NEIGHBOUR: 'it returns false'. Refute it at one input. -/
def cableChecksWrong : ChangeSpec := { name := "cableChecks", fn := fun _ => fun
  | [d1, d2, d3] => { results := [.lit (.bool false)], args := [d1, d2, d3] }
  | _ => none }
def CableChecksWrongFalsely : Prop := cableChecksRow.holds Tryd.pinned (OpenSpec.ofChange cableChecksWrong)

/-- 'shipyardlaw45.CableRoutes': WHATEVER THE INPUT: true; the input reads as it did. -/
def cableRoutesSpec : ChangeSpec := { name := "cableRoutes", fn := fun _ => fun
  | [d1, d2, d3] => { results := [.lit (.bool true)], args := [d1, d2, d3] }
  | _ => none }
def cableRoutesRow : OpenClaim := { program := "ytpkgadjglidnaaadoor", sum := "21f07fd6d6ab0f507af3c3ee68a2293acf38721baf0f2ea895666f9a4daa1d43", func := "shipyard/shipyardlaw45.CableRoutes", spec := "cableRoutes", inPlace := ["internal/bytealg.CountString", "internal/bytealg.IndexByteString", "internal/bytealg.IndexString"], named := ["unicode/utf8.first", "unicode/utf8.acceptRanges", "internal/bytealg.MaxLen"], apart := false, laid := [("unicode/utf8.acceptRanges", laid_unicode_utf8_acceptRanges), ("unicode/utf8.first", laid_unicode_utf8_first)] }
def CableRoutesSaid : Prop := cableRoutesRow.holds Tryd.pinned (OpenSpec.ofChange cableRoutesSpec)

/-- ITS FALSE NEIGHBOUR: 'it returns false'. Refute it at one input. -/
def cableRoutesWrong : ChangeSpec := { name := "cableRoutes", fn := fun _ => fun
  | [d1, d2, d3] => { results := [.lit (.bool false)], args := [d1, d2, d3] }
  | _ => none }
def CableRoutesWrongFalsely : Prop := cableRoutesRow.holds Tryd.pinned (OpenSpec.ofChange cableRoutesWrong)

/-- 'shipyardlaw45.CableLays': WHATEVER THE INPUT: true; the input reads as it did. -/
def cableLaysSpec : ChangeSpec := { name := "cableLays", fn := fun _ => fun
  | [d1, d2] => { results := [.lit (.bool true)], args := [d1, d2] }
  | _ => none }
def cableLaysRow : OpenClaim := { program := "ytpkgadjglidnaaadoor", sum := "21f07fd6d6ab0f507af3c3ee68a2293acf38721baf0f2ea895666f9a4daa1d43", func := "shipyard/shipyardlaw45.CableLays", spec := "cableLays", inPlace := ["internal/bytealg.CountString", "internal/bytealg.IndexByteString", "internal/bytealg.IndexString"], named := ["unicode/utf8.first", "unicode/utf8.acceptRanges", "internal/bytealg.MaxLen"], apart := false, laid := [("unicode/utf8.acceptRanges", laid_unicode_utf8_acceptRanges), ("unicode/utf8.first", laid_unicode_utf8_first)] }
def CableLaysSaid : Prop := cableLaysRow.holds Tryd.pinned (OpenSpec.ofChange cableLaysSpec)

/-- ITS FALSE NEIGHBOUR: 'it returns false'. Refute it at one input. -/
def cableLaysWrong : ChangeSpec := { name := "cableLays", fn := fun _ => fun
  | [d1, d2] => { results := [.lit (.bool false)], args := [d1, d2] }
  | _ => none }
def CableLaysWrongFalsely : Prop := cableLaysRow.holds Tryd.pinned (OpenSpec.ofChange cableLaysWrong)

/-- 'shipyardlaw45.CableUses': WHATEVER THE INPUT: true; the input reads as it did. -/
def cableUsesSpec : ChangeSpec := { name := "cableUses", fn := fun _ => fun
  | [d1, d2, d3] => { results := [.lit (.bool true)], args := [d1, d2, d3] }
  | _ => none }
def cableUsesRow : OpenClaim := { program := "ytpkgadjglidnaaadoor", sum := "21f07fd6d6ab0f507af3c3ee68a2293acf38721baf0f2ea895666f9a4daa1d43", func := "shipyard/shipyardlaw45.CableUses", spec := "cableUses", inPlace := ["internal/bytealg.CountString", "internal/bytealg.IndexByteString", "internal/bytealg.IndexString"], named := ["unicode/utf8.first", "unicode/utf8.acceptRanges", "internal/bytealg.MaxLen"], apart := false, laid := [("unicode/utf8.acceptRanges", laid_unicode_utf8_acceptRanges), ("unicode/utf8.first", laid_unicode_utf8_first)] }
def CableUsesSaid : Prop := cableUsesRow.holds Tryd.pinned (OpenSpec.ofChange cableUsesSpec)

/-- ITS FALSE NEIGHBOUR: 'it returns false'. Refute it at one input. -/
def cableUsesWrong : ChangeSpec := { name := "cableUses", fn := fun _ => fun
  | [d1, d2, d3] => { results := [.lit (.bool false)], args := [d1, d2, d3] }
  | _ => none }
def CableUsesWrongFalsely : Prop := cableUsesRow.holds Tryd.pinned (OpenSpec.ofChange cableUsesWrong)

/-- 'shipyardlaw45.CableShortest': WHATEVER THE INPUT: true; the input reads as it did. -/
def cableShortestSpec : ChangeSpec := { name := "cableShortest", fn := fun _ => fun
  | [d1, d2, d3] => { results := [.lit (.bool true)], args := [d1, d2, d3] }
  | _ => none }
def cableShortestRow : OpenClaim := { program := "ytpkgadjglidnaaadoor", sum := "21f07fd6d6ab0f507af3c3ee68a2293acf38721baf0f2ea895666f9a4daa1d43", func := "shipyard/shipyardlaw45.CableShortest", spec := "cableShortest", inPlace := ["internal/bytealg.CountString", "internal/bytealg.IndexByteString", "internal/bytealg.IndexString"], named := ["unicode/utf8.first", "unicode/utf8.acceptRanges", "internal/bytealg.MaxLen"], apart := false, laid := [("unicode/utf8.acceptRanges", laid_unicode_utf8_acceptRanges), ("unicode/utf8.first", laid_unicode_utf8_first)] }
def CableShortestSaid : Prop := cableShortestRow.holds Tryd.pinned (OpenSpec.ofChange cableShortestSpec)

/-- ITS FALSE NEIGHBOUR: 'it returns false'. Refute it at one input. -/
def cableShortestWrong : ChangeSpec := { name := "cableShortest", fn := fun _ => fun
  | [d1, d2, d3] => { results := [.lit (.bool false)], args := [d1, d2, d3] }
  | _ => none }
def CableShortestWrongFalsely : Prop := cableShortestRow.holds Tryd.pinned (OpenSpec.ofChange cableShortestWrong)

/-- 'shipyardlaw45.CableBack': WHATEVER THE INPUT: true; the input reads as it did. -/
def cableBackSpec : ChangeSpec := { name := "cableBack", fn := fun _ => fun
  | [d1, d2, d3] => { results := [.lit (.bool true)], args := [d1, d2, d3] }
  | _ => none }
def cableBackRow : OpenClaim := { program := "ytpkgadjglidnaaadoor", sum := "21f07fd6d6ab0f507af3c3ee68a2293acf38721baf0f2ea895666f9a4daa1d43", func := "shipyard/shipyardlaw45.CableBack", spec := "cableBack", inPlace := ["internal/bytealg.CountString", "internal/bytealg.IndexByteString", "internal/bytealg.IndexString"], named := ["unicode/utf8.first", "unicode/utf8.acceptRanges", "internal/bytealg.MaxLen"], apart := false, laid := [("unicode/utf8.acceptRanges", laid_unicode_utf8_acceptRanges), ("unicode/utf8.first", laid_unicode_utf8_first)] }
def CableBackSaid : Prop := cableBackRow.holds Tryd.pinned (OpenSpec.ofChange cableBackSpec)

/-- ITS FALSE NEIGHBOUR: 'it returns false'. Refute it at one input. -/
def cableBackWrong : ChangeSpec := { name := "cableBack", fn := fun _ => fun
  | [d1, d2, d3] => { results := [.lit (.bool false)], args := [d1, d2, d3] }
  | _ => none }
def CableBackWrongFalsely : Prop := cableBackRow.holds Tryd.pinned (OpenSpec.ofChange cableBackWrong)

/-- 'shipyardlaw45.CableFits': WHATEVER THE INPUT: true; the input reads as it did. -/
def cableFitsSpec : ChangeSpec := { name := "cableFits", fn := fun _ => fun
  | [d1, d2] => { results := [.lit (.bool true)], args := [d1, d2] }
  | _ => none }
def cableFitsRow : OpenClaim := { program := "ytpkgadjglidnaaadoor", sum := "21f07fd6d6ab0f507af3c3ee68a2293acf38721baf0f2ea895666f9a4daa1d43", func := "shipyard/shipyardlaw45.CableFits", spec := "cableFits", inPlace := ["internal/bytealg.CountString", "internal/bytealg.IndexByteString", "internal/bytealg.IndexString"], named := ["unicode/utf8.first", "unicode/utf8.acceptRanges", "internal/bytealg.MaxLen"], apart := false, laid := [("unicode/utf8.acceptRanges", laid_unicode_utf8_acceptRanges), ("unicode/utf8.first", laid_unicode_utf8_first)] }
def CableFitsSaid : Prop := cableFitsRow.holds Tryd.pinned (OpenSpec.ofChange cableFitsSpec)

/-- ITS FALSE NEIGHBOUR: 'it returns false'. Refute it at one input. -/
def cableFitsWrong : ChangeSpec := { name := "cableFits", fn := fun _ => fun
  | [d1, d2] => { results := [.lit (.bool false)], args := [d1, d2] }
  | _ => none }
def CableFitsWrongFalsely : Prop := cableFitsRow.holds Tryd.pinned (OpenSpec.ofChange cableFitsWrong)

/- THE SECOND FORM. 'bulk': how many values and letters a reading holds, each counted each time it is reached (what is shared counts as often as it is met; a slice's spare places count too). A statement '..UptoSaid' is the law's where the arguments, and the package variables that the reading takes, are together of bulk at most 1048576: NARROWER than '..Said'. Prove '..Said' where nothing that the law and all that it calls make is longer than what came in: it says more and counts as full. Else prove '..UptoSaid'. A law counts once. -/
mutual
def uptoBulk {H : Type} : DataW H → Nat
  | .lit (.string bytes) => bytes.length + 1
  | .lit _ => 1
  | .nil => 1
  | .ptr d => uptoBulk d + 1
  | .slice elems spare => uptoBulkAll elems + uptoBulkAll spare + 1
  | .agg parts => uptoBulkAll parts + 1
  | .iface _ d => uptoBulk d + 1
  | .map entries => uptoBulkEntries entries + 1
  | .held _ => 1
def uptoBulkAll {H : Type} : List (DataW H) → Nat
  | [] => 0
  | d :: r => uptoBulk d + uptoBulkAll r
def uptoBulkEntries {H : Type} : List (Lit × DataW H) → Nat
  | [] => 0
  | x :: r => uptoBulkEntry x + uptoBulkEntries r
def uptoBulkEntry {H : Type} : Lit × DataW H → Nat
  | (.string bytes, d) => bytes.length + uptoBulk d + 1
  | (_, d) => uptoBulk d + 1
 end
def uptoSmall : (H : Type) → List (DataW H) → Bool := fun _ ds => decide (uptoBulkAll ds ≤ 1048576)
def OpenSpec.upto (s : _root_.Go.ChangeSpec) : _root_.Go.OpenSpec := { _root_.Go.OpenSpec.ofChange s with cond := some uptoSmall }

/-- 'shipyardlaw45.CableChecks', WHERE WHAT IT READS IS OF BULK AT MOST 1048576: true; the input reads as it did. -/
def cableChecksUptoRow : OpenClaim := { program := "ytpkgadjglidnaaadoor", sum := "21f07fd6d6ab0f507af3c3ee68a2293acf38721baf0f2ea895666f9a4daa1d43", func := "shipyard/shipyardlaw45.CableChecks", spec := "cableChecks", inPlace := ["internal/bytealg.CountString", "internal/bytealg.IndexByteString", "internal/bytealg.IndexString"], named := ["unicode/utf8.first", "unicode/utf8.acceptRanges", "internal/bytealg.MaxLen"], apart := false, laid := [("unicode/utf8.acceptRanges", laid_unicode_utf8_acceptRanges), ("unicode/utf8.first", laid_unicode_utf8_first)], narrowed := true }
def CableChecksUptoSaid : Prop := cableChecksUptoRow.holds Tryd.pinned (OpenSpec.upto cableChecksSpec)

/-- 'shipyardlaw45.CableRoutes', WHERE WHAT IT READS IS OF BULK AT MOST 1048576: true; the input reads as it did. -/
def cableRoutesUptoRow : OpenClaim := { program := "ytpkgadjglidnaaadoor", sum := "21f07fd6d6ab0f507af3c3ee68a2293acf38721baf0f2ea895666f9a4daa1d43", func := "shipyard/shipyardlaw45.CableRoutes", spec := "cableRoutes", inPlace := ["internal/bytealg.CountString", "internal/bytealg.IndexByteString", "internal/bytealg.IndexString"], named := ["unicode/utf8.first", "unicode/utf8.acceptRanges", "internal/bytealg.MaxLen"], apart := false, laid := [("unicode/utf8.acceptRanges", laid_unicode_utf8_acceptRanges), ("unicode/utf8.first", laid_unicode_utf8_first)], narrowed := true }
def CableRoutesUptoSaid : Prop := cableRoutesUptoRow.holds Tryd.pinned (OpenSpec.upto cableRoutesSpec)

/-- 'shipyardlaw45.CableLays', WHERE WHAT IT READS IS OF BULK AT MOST 1048576: true; the input reads as it did. -/
def cableLaysUptoRow : OpenClaim := { program := "ytpkgadjglidnaaadoor", sum := "21f07fd6d6ab0f507af3c3ee68a2293acf38721baf0f2ea895666f9a4daa1d43", func := "shipyard/shipyardlaw45.CableLays", spec := "cableLays", inPlace := ["internal/bytealg.CountString", "internal/bytealg.IndexByteString", "internal/bytealg.IndexString"], named := ["unicode/utf8.first", "unicode/utf8.acceptRanges", "internal/bytealg.MaxLen"], apart := false, laid := [("unicode/utf8.acceptRanges", laid_unicode_utf8_acceptRanges), ("unicode/utf8.first", laid_unicode_utf8_first)], narrowed := true }
def CableLaysUptoSaid : Prop := cableLaysUptoRow.holds Tryd.pinned (OpenSpec.upto cableLaysSpec)

/-- 'shipyardlaw45.CableUses', WHERE WHAT IT READS IS OF BULK AT MOST 1048576: true; the input reads as it did. -/
def cableUsesUptoRow : OpenClaim := { program := "ytpkgadjglidnaaadoor", sum := "21f07fd6d6ab0f507af3c3ee68a2293acf38721baf0f2ea895666f9a4daa1d43", func := "shipyard/shipyardlaw45.CableUses", spec := "cableUses", inPlace := ["internal/bytealg.CountString", "internal/bytealg.IndexByteString", "internal/bytealg.IndexString"], named := ["unicode/utf8.first", "unicode/utf8.acceptRanges", "internal/bytealg.MaxLen"], apart := false, laid := [("unicode/utf8.acceptRanges", laid_unicode_utf8_acceptRanges), ("unicode/utf8.first", laid_unicode_utf8_first)], narrowed := true }
def CableUsesUptoSaid : Prop := cableUsesUptoRow.holds Tryd.pinned (OpenSpec.upto cableUsesSpec)

/-- 'shipyardlaw45.CableShortest', WHERE WHAT IT READS IS OF BULK AT MOST 1048576: true; the input reads as it did. -/
def cableShortestUptoRow : OpenClaim := { program := "ytpkgadjglidnaaadoor", sum := "21f07fd6d6ab0f507af3c3ee68a2293acf38721baf0f2ea895666f9a4daa1d43", func := "shipyard/shipyardlaw45.CableShortest", spec := "cableShortest", inPlace := ["internal/bytealg.CountString", "internal/bytealg.IndexByteString", "internal/bytealg.IndexString"], named := ["unicode/utf8.first", "unicode/utf8.acceptRanges", "internal/bytealg.MaxLen"], apart := false, laid := [("unicode/utf8.acceptRanges", laid_unicode_utf8_acceptRanges), ("unicode/utf8.first", laid_unicode_utf8_first)], narrowed := true }
def CableShortestUptoSaid : Prop := cableShortestUptoRow.holds Tryd.pinned (OpenSpec.upto cableShortestSpec)

/-- 'shipyardlaw45.CableBack', WHERE WHAT IT READS IS OF BULK AT MOST 1048576: true; the input reads as it did. -/
def cableBackUptoRow : OpenClaim := { program := "ytpkgadjglidnaaadoor", sum := "21f07fd6d6ab0f507af3c3ee68a2293acf38721baf0f2ea895666f9a4daa1d43", func := "shipyard/shipyardlaw45.CableBack", spec := "cableBack", inPlace := ["internal/bytealg.CountString", "internal/bytealg.IndexByteString", "internal/bytealg.IndexString"], named := ["unicode/utf8.first", "unicode/utf8.acceptRanges", "internal/bytealg.MaxLen"], apart := false, laid := [("unicode/utf8.acceptRanges", laid_unicode_utf8_acceptRanges), ("unicode/utf8.first", laid_unicode_utf8_first)], narrowed := true }
def CableBackUptoSaid : Prop := cableBackUptoRow.holds Tryd.pinned (OpenSpec.upto cableBackSpec)

/-- 'shipyardlaw45.CableFits', WHERE WHAT IT READS IS OF BULK AT MOST 1048576: true; the input reads as it did. -/
def cableFitsUptoRow : OpenClaim := { program := "ytpkgadjglidnaaadoor", sum := "21f07fd6d6ab0f507af3c3ee68a2293acf38721baf0f2ea895666f9a4daa1d43", func := "shipyard/shipyardlaw45.CableFits", spec := "cableFits", inPlace := ["internal/bytealg.CountString", "internal/bytealg.IndexByteString", "internal/bytealg.IndexString"], named := ["unicode/utf8.first", "unicode/utf8.acceptRanges", "internal/bytealg.MaxLen"], apart := false, laid := [("unicode/utf8.acceptRanges", laid_unicode_utf8_acceptRanges), ("unicode/utf8.first", laid_unicode_utf8_first)], narrowed := true }
def CableFitsUptoSaid : Prop := cableFitsUptoRow.holds Tryd.pinned (OpenSpec.upto cableFitsSpec)

end Rows
end Go.Proofs.YtpkgadjglidnaaaDoor
