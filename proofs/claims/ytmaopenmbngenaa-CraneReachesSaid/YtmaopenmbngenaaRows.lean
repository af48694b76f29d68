/-
  No cell of these rows narrows 'for every input' (looked for: loops, veiled, ifaces, maps, wideKeys, modest, calm, conditions, laid).
  DERIVED. THE GIVEN ROWS OF THIS SEAT. 6 by the template 'for every input the law returns true; each argument reads behind the call as it read before'; 0 by the template 'total and deterministic' (their statements: YtmaopenmbngenaaTotals.lean).
  GIVEN WITH THE SEED: the statements are not yours to turn. If you find one false, say at which input.
  Laid BY PROGRAM, IN A SANDBOX (cutbox-rows.mjs): the forced cells as the released guide's own fill.sh prints them over the translation 14ec99a82cb25db6… (all of the seat's roots in one cut). By AI agents, Wed Nov 11 2026. No macro, syntax, notation, axiom, sorry.
-/
import Derived.Test.YtmaopenmbngenaaChecked
import GoSem.Claim
import GoSem.ClaimJoined
import GoSem.ClaimMapViews
import Derived.JoinedTies
import Derived.KernelRfl
namespace Go.Proofs.Ytmaopenmbngenaa
/- THE CELL 'sum', in the pinned program and in every row, IS THE sha256 OF THE DUMP (.gsa) THAT YtmaopenmbngenaaProg.lean LOADS. Nothing in Lean hashes anything: it is a label: what it is worth is what the hold of that sum in a sandbox is worth. -/
noncomputable def Try.pinned : Pinned := { name := "ytmaopenmbngenaa", sum := "14ec99a82cb25db63158456cc02db1bace735900d5aebeb6a90366518a2c9bf8", checked := Try.checked }
namespace Rows
def none {H : Type} : Left H := { results := [], args := [] }

/-- 'shipyardlaw48.CraneChecks': WHATEVER THE INPUT: true; the input reads as it did. -/
def craneChecksSpec : ChangeSpec := { name := "craneChecks", fn := fun _ => fun
  | [d] => { results := [.lit (.bool true)], args := [d] }
  | _ => none }
def craneChecksRow : OpenClaim := { program := "ytmaopenmbngenaa", sum := "14ec99a82cb25db63158456cc02db1bace735900d5aebeb6a90366518a2c9bf8", func := "shipyard/shipyardlaw48.CraneChecks", spec := "craneChecks", apart := false }
def CraneChecksSaid : Prop := craneChecksRow.holds Try.pinned (OpenSpec.ofChange craneChecksSpec)

/-- ITS FALSE NEIGHBOUR: 'it returns false'. Refute it at one input. -/
def craneChecksWrong : ChangeSpec := { name := "craneChecks", fn := fun _ => fun
  | [d] => { results := [.lit (.bool false)], args := [d] }
  | _ => none }
def CraneChecksWrongFalsely : Prop := craneChecksRow.holds Try.pinned (OpenSpec.ofChange craneChecksWrong)

/-- 'shipyardlaw48.CraneLoads': WHATEVER THE INPUT: true; the input reads as it did. -/
def craneLoadsSpec : ChangeSpec := { name := "craneLoads", fn := fun _ => fun
  | [d1, d2, d3] => { results := [.lit (.bool true)], args := [d1, d2, d3] }
  | _ => none }
def craneLoadsRow : OpenClaim := { program := "ytmaopenmbngenaa", sum := "14ec99a82cb25db63158456cc02db1bace735900d5aebeb6a90366518a2c9bf8", func := "shipyard/shipyardlaw48.CraneLoads", spec := "craneLoads", apart := false }
def CraneLoadsSaid : Prop := craneLoadsRow.holds Try.pinned (OpenSpec.ofChange craneLoadsSpec)

/-- ITS FALSE NEIGHBOUR: 'it returns false'. Refute it at one input. -/
def craneLoadsWrong : ChangeSpec := { name := "craneLoads", fn := fun _ => fun
  | [d1, d2, d3] => { results := [.lit (.bool false)], args := [d1, d2, d3] }
  | _ => none }
def CraneLoadsWrongFalsely : Prop := craneLoadsRow.holds Try.pinned (OpenSpec.ofChange craneLoadsWrong)

/-- 'shipyardlaw48.CranePicks': WHATEVER THE INPUT: true; the input reads as it did. -/
def cranePicksSpec : ChangeSpec := { name := "cranePicks", fn := fun _ => fun
  | [d1, d2, d3] => { results := [.lit (.bool true)], args := [d1, d2, d3] }
  | _ => none }
def cranePicksRow : OpenClaim := { program := "ytmaopenmbngenaa", sum := "14ec99a82cb25db63158456cc02db1bace735900d5aebeb6a90366518a2c9bf8", func := "shipyard/shipyardlaw48.CranePicks", spec := "cranePicks", apart := false }
def CranePicksSaid : Prop := cranePicksRow.holds Try.pinned (OpenSpec.ofChange cranePicksSpec)

/-- ITS FALSE NEIGHBOUR: 'it returns false'. Refute it at one input. -/
def cranePicksWrong : ChangeSpec := { name := "cranePicks", fn := fun _ => fun
  | [d1, d2, d3] => { results := [.lit (.bool false)], args := [d1, d2, d3] }
  | _ => none }
def CranePicksWrongFalsely : Prop := cranePicksRow.holds Try.pinned (OpenSpec.ofChange cranePicksWrong)

/-- 'shipyardlaw48.CraneShares': WHATEVER THE INPUT: true; the input reads as it did. -/
def craneSharesSpec : ChangeSpec := { name := "craneShares", fn := fun _ => fun
  | [d1, d2] => { results := [.lit (.bool true)], args := [d1, d2] }
  | _ => none }
def craneSharesRow : OpenClaim := { program := "ytmaopenmbngenaa", sum := "14ec99a82cb25db63158456cc02db1bace735900d5aebeb6a90366518a2c9bf8", func := "shipyard/shipyardlaw48.CraneShares", spec := "craneShares", apart := false }
def CraneSharesSaid : Prop := craneSharesRow.holds Try.pinned (OpenSpec.ofChange craneSharesSpec)

/-- ITS FALSE NEIGHBOUR: 'it returns false'. Refute it at one input. -/
def craneSharesWrong : ChangeSpec := { name := "craneShares", fn := fun _ => fun
  | [d1, d2] => { results := [.lit (.bool false)], args := [d1, d2] }
  | _ => none }
def CraneSharesWrongFalsely : Prop := craneSharesRow.holds Try.pinned (OpenSpec.ofChange craneSharesWrong)

/-- 'shipyardlaw48.CraneReaches': WHATEVER THE INPUT: true; the input reads as it did. -/
def craneReachesSpec : ChangeSpec := { name := "craneReaches", fn := fun _ => fun
  | [d1, d2, d3] => { results := [.lit (.bool true)], args := [d1, d2, d3] }
  | _ => none }
def craneReachesRow : OpenClaim := { program := "ytmaopenmbngenaa", sum := "14ec99a82cb25db63158456cc02db1bace735900d5aebeb6a90366518a2c9bf8", func := "shipyard/shipyardlaw48.CraneReaches", spec := "craneReaches", apart := false }
def CraneReachesSaid : Prop := craneReachesRow.holds Try.pinned (OpenSpec.ofChange craneReachesSpec)

/-- ITS FALSE NEIGHBOUR: 'it returns false'. Refute it at one input. -/
def craneReachesWrong : ChangeSpec := { name := "craneReaches", fn := fun _ => fun
  | [d1, d2, d3] => { results := [.lit (.bool false)], args := [d1, d2, d3] }
  | _ => none }
def CraneReachesWrongFalsely : Prop := craneReachesRow.holds Try.pinned (OpenSpec.ofChange craneReachesWrong)

/-- 'shipyardlaw48.CraneBalances': WHATEVER THE INPUT: true; the input reads as it did. -/
def craneBalancesSpec : ChangeSpec := { name := "craneBalances", fn := fun _ => fun
  | [d1, d2] => { results := [.lit (.bool true)], args := [d1, d2] }
  | _ => none }
def craneBalancesRow : OpenClaim := { program := "ytmaopenmbngenaa", sum := "14ec99a82cb25db63158456cc02db1bace735900d5aebeb6a90366518a2c9bf8", func := "shipyard/shipyardlaw48.CraneBalances", spec := "craneBalances", apart := false }
def CraneBalancesSaid : Prop := craneBalancesRow.holds Try.pinned (OpenSpec.ofChange craneBalancesSpec)

/-- ITS FALSE NEIGHBOUR: 'it returns false'. Refute it at one input. -/
def craneBalancesWrong : ChangeSpec := { name := "craneBalances", fn := fun _ => fun
  | [d1, d2] => { results := [.lit (.bool false)], args := [d1, d2] }
  | _ => none }
def CraneBalancesWrongFalsely : Prop := craneBalancesRow.holds Try.pinned (OpenSpec.ofChange craneBalancesWrong)

/- THE SECOND FORM. 'bulk': how many values and letters a reading holds, each counted each time it is reached (what is shared counts as often as it is met; a slice's spare places count too). A statement '..UptoSaid' is the law's where the arguments, and the package variables that the reading takes, are together of bulk at most 1048576: NARROWER than '..Said'. Prove '..Said' where nothing that the law and all that it calls make is longer than what came in: it says more and counts as full. Else prove '..UptoSaid'. A law counts once. -/
mutual
def uptoBulk {H : Type} : DataW H → Nat
  | .lit (.string bytes) => bytes.length + 1
  | .lit _ => 1
  | .nil => 1
  | .ptr d => uptoBulk d + 1
  | .slice elems spare => uptoBulkAll elems + uptoBulkAll spare + 1
  | .agg parts => uptoBulkAll parts + 1
  | .iface _ d => uptoBulk d + 1
  | .map entries => uptoBulkEntries entries + 1
  | .held _ => 1
def uptoBulkAll {H : Type} : List (DataW H) → Nat
  | [] => 0
  | d :: r => uptoBulk d + uptoBulkAll r
def uptoBulkEntries {H : Type} : List (Lit × DataW H) → Nat
  | [] => 0
  | x :: r => uptoBulkEntry x + uptoBulkEntries r
def uptoBulkEntry {H : Type} : Lit × DataW H → Nat
  | (.string bytes, d) => bytes.length + uptoBulk d + 1
  | (_, d) => uptoBulk d + 1
 end
def uptoSmall : (H : Type) → List (DataW H) → Bool := fun _ ds => decide (uptoBulkAll ds ≤ 1048576)
def OpenSpec.upto (s : _root_.Go.ChangeSpec) : _root_.Go.OpenSpec := { _root_.Go.OpenSpec.ofChange s with cond := some uptoSmall }

/-- 'shipyardlaw48.CraneChecks', WHERE WHAT IT READS IS OF BULK AT MOST 1048576: true; the input reads as it did. -/
def craneChecksUptoRow : OpenClaim := { program := "ytmaopenmbngenaa", sum := "14ec99a82cb25db63158456cc02db1bace735900d5aebeb6a90366518a2c9bf8", func := "shipyard/shipyardlaw48.CraneChecks", spec := "craneChecks", apart := false, narrowed := true }
def CraneChecksUptoSaid : Prop := craneChecksUptoRow.holds Try.pinned (OpenSpec.upto craneChecksSpec)

/-- 'shipyardlaw48.CraneLoads', WHERE WHAT IT READS IS OF BULK AT MOST 1048576: true; the input reads as it did. -/
def craneLoadsUptoRow : OpenClaim := { program := "ytmaopenmbngenaa", sum := "14ec99a82cb25db63158456cc02db1bace735900d5aebeb6a90366518a2c9bf8", func := "shipyard/shipyardlaw48.CraneLoads", spec := "craneLoads", apart := false, narrowed := true }
def CraneLoadsUptoSaid : Prop := craneLoadsUptoRow.holds Try.pinned (OpenSpec.upto craneLoadsSpec)

/-- 'shipyardlaw48.CranePicks', WHERE WHAT IT READS IS OF BULK AT MOST 1048576: true; the input reads as it did. -/
def cranePicksUptoRow : OpenClaim := { program := "ytmaopenmbngenaa", sum := "14ec99a82cb25db63158456cc02db1bace735900d5aebeb6a90366518a2c9bf8", func := "shipyard/shipyardlaw48.CranePicks", spec := "cranePicks", apart := false, narrowed := true }
def CranePicksUptoSaid : Prop := cranePicksUptoRow.holds Try.pinned (OpenSpec.upto cranePicksSpec)

/-- 'shipyardlaw48.CraneShares', WHERE WHAT IT READS IS OF BULK AT MOST 1048576: true; the input reads as it did. -/
def craneSharesUptoRow : OpenClaim := { program := "ytmaopenmbngenaa", sum := "14ec99a82cb25db63158456cc02db1bace735900d5aebeb6a90366518a2c9bf8", func := "shipyard/shipyardlaw48.CraneShares", spec := "craneShares", apart := false, narrowed := true }
def CraneSharesUptoSaid : Prop := craneSharesUptoRow.holds Try.pinned (OpenSpec.upto craneSharesSpec)

/-- 'shipyardlaw48.CraneReaches', WHERE WHAT IT READS IS OF BULK AT MOST 1048576: true; the input reads as it did. -/
def craneReachesUptoRow : OpenClaim := { program := "ytmaopenmbngenaa", sum := "14ec99a82cb25db63158456cc02db1bace735900d5aebeb6a90366518a2c9bf8", func := "shipyard/shipyardlaw48.CraneReaches", spec := "craneReaches", apart := false, narrowed := true }
def CraneReachesUptoSaid : Prop := craneReachesUptoRow.holds Try.pinned (OpenSpec.upto craneReachesSpec)

/-- 'shipyardlaw48.CraneBalances', WHERE WHAT IT READS IS OF BULK AT MOST 1048576: true; the input reads as it did. -/
def craneBalancesUptoRow : OpenClaim := { program := "ytmaopenmbngenaa", sum := "14ec99a82cb25db63158456cc02db1bace735900d5aebeb6a90366518a2c9bf8", func := "shipyard/shipyardlaw48.CraneBalances", spec := "craneBalances", apart := false, narrowed := true }
def CraneBalancesUptoSaid : Prop := craneBalancesUptoRow.holds Try.pinned (OpenSpec.upto craneBalancesSpec)

end Rows
end Go.Proofs.Ytmaopenmbngenaa
