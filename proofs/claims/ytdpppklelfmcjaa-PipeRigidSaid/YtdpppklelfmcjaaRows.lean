/-
  No cell of these rows narrows 'for every input' (looked for: loops, veiled, ifaces, maps, wideKeys, modest, calm, conditions, laid).
  DERIVED. THE GIVEN ROWS OF THIS SEAT. 7 by the template 'for every input the law returns true; each argument reads behind the call as it read before'; 0 by the template 'total and deterministic' (their statements: YtdpppklelfmcjaaTotals.lean).
  GIVEN WITH THE SEED: the statements are not yours to turn. If you find one false, say at which input.
  Laid BY PROGRAM, IN A SANDBOX (cutbox-rows.mjs): the forced cells as the released guide's own fill.sh prints them over the translation 4117195f13d1decd… (all of the seat's roots in one cut). By AI agents, Wed Nov 11 2026. No macro, syntax, notation, axiom, sorry.
-/
import Derived.Test.YtdpppklelfmcjaaChecked
import GoSem.Claim
import GoSem.ClaimJoined
import GoSem.ClaimMapViews
import Derived.JoinedTies
import Derived.KernelRfl
namespace Go.Proofs.Ytdpppklelfmcjaa
/- THE CELL 'sum', in the pinned program and in every row, IS THE sha256 OF THE DUMP (.gsa) THAT YtdpppklelfmcjaaProg.lean LOADS. Nothing in Lean hashes anything: it is a label: what it is worth is what the hold of that sum in a sandbox is worth. -/
noncomputable def Try.pinned : Pinned := { name := "ytdpppklelfmcjaa", sum := "4117195f13d1decdb5425ba532c352f0e6b00967228214accee3cdf79e829083", checked := Try.checked }
namespace Rows
def none {H : Type} : Left H := { results := [], args := [] }

/-- 'shipyardlaw43.PipeChecks': WHATEVER THE INPUT: true; the input reads as it did. -/
def pipeChecksSpec : ChangeSpec := { name := "pipeChecks", fn := fun _ => fun
  | [d1, d2] => { results := [.lit (.bool true)], args := [d1, d2] }
  | _ => none }
def pipeChecksRow : OpenClaim := { program := "ytdpppklelfmcjaa", sum := "4117195f13d1decdb5425ba532c352f0e6b00967228214accee3cdf79e829083", func := "shipyard/shipyardlaw43.PipeChecks", spec := "pipeChecks", unfollowed := true, recurses := true, apart := false }
def PipeChecksSaid : Prop := pipeChecksRow.holds Try.pinned (OpenSpec.ofChange pipeChecksSpec)

/-- ITS FALSE NEIGHBOUR: 'it returns false'. Refute it at one input. -/
def pipeChecksWrong : ChangeSpec := { name := "pipeChecks", fn := fun _ => fun
  | [d1, d2] => { results := [.lit (.bool false)], args := [d1, d2] }
  | _ => none }
def PipeChecksWrongFalsely : Prop := pipeChecksRow.holds Try.pinned (OpenSpec.ofChange pipeChecksWrong)

/-- 'shipyardlaw43.PipeLengths': WHATEVER THE INPUT: true; the input reads as it did. -/
def pipeLengthsSpec : ChangeSpec := { name := "pipeLengths", fn := fun _ => fun
  | [d1, d2] => { results := [.lit (.bool true)], args := [d1, d2] }
  | _ => none }
def pipeLengthsRow : OpenClaim := { program := "ytdpppklelfmcjaa", sum := "4117195f13d1decdb5425ba532c352f0e6b00967228214accee3cdf79e829083", func := "shipyard/shipyardlaw43.PipeLengths", spec := "pipeLengths", unfollowed := true, recurses := true, apart := false }
def PipeLengthsSaid : Prop := pipeLengthsRow.holds Try.pinned (OpenSpec.ofChange pipeLengthsSpec)

/-- ITS FALSE NEIGHBOUR: 'it returns false'. Refute it at one input. -/
def pipeLengthsWrong : ChangeSpec := { name := "pipeLengths", fn := fun _ => fun
  | [d1, d2] => { results := [.lit (.bool false)], args := [d1, d2] }
  | _ => none }
def PipeLengthsWrongFalsely : Prop := pipeLengthsRow.holds Try.pinned (OpenSpec.ofChange pipeLengthsWrong)

/-- 'shipyardlaw43.PipeParts': WHATEVER THE INPUT: true; the input reads as it did. -/
def pipePartsSpec : ChangeSpec := { name := "pipeParts", fn := fun _ => fun
  | [d1, d2, d3] => { results := [.lit (.bool true)], args := [d1, d2, d3] }
  | _ => none }
def pipePartsRow : OpenClaim := { program := "ytdpppklelfmcjaa", sum := "4117195f13d1decdb5425ba532c352f0e6b00967228214accee3cdf79e829083", func := "shipyard/shipyardlaw43.PipeParts", spec := "pipeParts", unfollowed := true, recurses := true, apart := false }
def PipePartsSaid : Prop := pipePartsRow.holds Try.pinned (OpenSpec.ofChange pipePartsSpec)

/-- ITS FALSE NEIGHBOUR: 'it returns false'. Refute it at one input. -/
def pipePartsWrong : ChangeSpec := { name := "pipeParts", fn := fun _ => fun
  | [d1, d2, d3] => { results := [.lit (.bool false)], args := [d1, d2, d3] }
  | _ => none }
def PipePartsWrongFalsely : Prop := pipePartsRow.holds Try.pinned (OpenSpec.ofChange pipePartsWrong)

/-- 'shipyardlaw43.PipeReversed': WHATEVER THE INPUT: true; the input reads as it did. -/
def pipeReversedSpec : ChangeSpec := { name := "pipeReversed", fn := fun _ => fun
  | [d1, d2] => { results := [.lit (.bool true)], args := [d1, d2] }
  | _ => none }
def pipeReversedRow : OpenClaim := { program := "ytdpppklelfmcjaa", sum := "4117195f13d1decdb5425ba532c352f0e6b00967228214accee3cdf79e829083", func := "shipyard/shipyardlaw43.PipeReversed", spec := "pipeReversed", unfollowed := true, recurses := true, apart := false }
def PipeReversedSaid : Prop := pipeReversedRow.holds Try.pinned (OpenSpec.ofChange pipeReversedSpec)

/-- ITS FALSE NEIGHBOUR: 'it returns false'. Refute it at one input. -/
def pipeReversedWrong : ChangeSpec := { name := "pipeReversed", fn := fun _ => fun
  | [d1, d2] => { results := [.lit (.bool false)], args := [d1, d2] }
  | _ => none }
def PipeReversedWrongFalsely : Prop := pipeReversedRow.holds Try.pinned (OpenSpec.ofChange pipeReversedWrong)

/-- 'shipyardlaw43.PipeBends': WHATEVER THE INPUT: true; the input reads as it did. -/
def pipeBendsSpec : ChangeSpec := { name := "pipeBends", fn := fun _ => fun
  | [d1, d2] => { results := [.lit (.bool true)], args := [d1, d2] }
  | _ => none }
def pipeBendsRow : OpenClaim := { program := "ytdpppklelfmcjaa", sum := "4117195f13d1decdb5425ba532c352f0e6b00967228214accee3cdf79e829083", func := "shipyard/shipyardlaw43.PipeBends", spec := "pipeBends", unfollowed := true, recurses := true, apart := false }
def PipeBendsSaid : Prop := pipeBendsRow.holds Try.pinned (OpenSpec.ofChange pipeBendsSpec)

/-- ITS FALSE NEIGHBOUR: 'it returns false'. Refute it at one input. -/
def pipeBendsWrong : ChangeSpec := { name := "pipeBends", fn := fun _ => fun
  | [d1, d2] => { results := [.lit (.bool false)], args := [d1, d2] }
  | _ => none }
def PipeBendsWrongFalsely : Prop := pipeBendsRow.holds Try.pinned (OpenSpec.ofChange pipeBendsWrong)

/-- 'shipyardlaw43.PipeLonger': WHATEVER THE INPUT: true; the input reads as it did. -/
def pipeLongerSpec : ChangeSpec := { name := "pipeLonger", fn := fun _ => fun
  | [d1, d2, d3] => { results := [.lit (.bool true)], args := [d1, d2, d3] }
  | _ => none }
def pipeLongerRow : OpenClaim := { program := "ytdpppklelfmcjaa", sum := "4117195f13d1decdb5425ba532c352f0e6b00967228214accee3cdf79e829083", func := "shipyard/shipyardlaw43.PipeLonger", spec := "pipeLonger", unfollowed := true, recurses := true, apart := false }
def PipeLongerSaid : Prop := pipeLongerRow.holds Try.pinned (OpenSpec.ofChange pipeLongerSpec)

/-- ITS FALSE NEIGHBOUR: 'it returns false'. Refute it at one input. -/
def pipeLongerWrong : ChangeSpec := { name := "pipeLonger", fn := fun _ => fun
  | [d1, d2, d3] => { results := [.lit (.bool false)], args := [d1, d2, d3] }
  | _ => none }
def PipeLongerWrongFalsely : Prop := pipeLongerRow.holds Try.pinned (OpenSpec.ofChange pipeLongerWrong)

/-- 'shipyardlaw43.PipeRigid': WHATEVER THE INPUT: true; the input reads as it did. -/
def pipeRigidSpec : ChangeSpec := { name := "pipeRigid", fn := fun _ => fun
  | [d1, d2, d3] => { results := [.lit (.bool true)], args := [d1, d2, d3] }
  | _ => none }
def pipeRigidRow : OpenClaim := { program := "ytdpppklelfmcjaa", sum := "4117195f13d1decdb5425ba532c352f0e6b00967228214accee3cdf79e829083", func := "shipyard/shipyardlaw43.PipeRigid", spec := "pipeRigid", unfollowed := true, recurses := true, apart := false }
def PipeRigidSaid : Prop := pipeRigidRow.holds Try.pinned (OpenSpec.ofChange pipeRigidSpec)

/-- ITS FALSE NEIGHBOUR: 'it returns false'. Refute it at one input. -/
def pipeRigidWrong : ChangeSpec := { name := "pipeRigid", fn := fun _ => fun
  | [d1, d2, d3] => { results := [.lit (.bool false)], args := [d1, d2, d3] }
  | _ => none }
def PipeRigidWrongFalsely : Prop := pipeRigidRow.holds Try.pinned (OpenSpec.ofChange pipeRigidWrong)

/- THE SECOND FORM. 'bulk': how many values and letters a reading holds, each counted each time it is reached (what is shared counts as often as it is met; a slice's spare places count too). A statement '..UptoSaid' is the law's where the arguments, and the package variables that the reading takes, are together of bulk at most 1048576: NARROWER than '..Said'. Prove '..Said' where nothing that the law and all that it calls make is longer than what came in: it says more and counts as full. Else prove '..UptoSaid'. A law counts once. -/
mutual
def uptoBulk {H : Type} : DataW H → Nat
  | .lit (.string bytes) => bytes.length + 1
  | .lit _ => 1
  | .nil => 1
  | .ptr d => uptoBulk d + 1
  | .slice elems spare => uptoBulkAll elems + uptoBulkAll spare + 1
  | .agg parts => uptoBulkAll parts + 1
  | .iface _ d => uptoBulk d + 1
  | .map entries => uptoBulkEntries entries + 1
  | .held _ => 1
def uptoBulkAll {H : Type} : List (DataW H) → Nat
  | [] => 0
  | d :: r => uptoBulk d + uptoBulkAll r
def uptoBulkEntries {H : Type} : List (Lit × DataW H) → Nat
  | [] => 0
  | x :: r => uptoBulkEntry x + uptoBulkEntries r
def uptoBulkEntry {H : Type} : Lit × DataW H → Nat
  | (.string bytes, d) => bytes.length + uptoBulk d + 1
  | (_, d) => uptoBulk d + 1
 end
def uptoSmall : (H : Type) → List (DataW H) → Bool := fun _ ds => decide (uptoBulkAll ds ≤ 1048576)
def OpenSpec.upto (s : _root_.Go.ChangeSpec) : _root_.Go.OpenSpec := { _root_.Go.OpenSpec.ofChange s with cond := some uptoSmall }

/-- 'shipyardlaw43.PipeChecks', WHERE WHAT IT READS IS OF BULK AT MOST 1048576: true; the input reads as it did. -/
def pipeChecksUptoRow : OpenClaim := { program := "ytdpppklelfmcjaa", sum := "4117195f13d1decdb5425ba532c352f0e6b00967228214accee3cdf79e829083", func := "shipyard/shipyardlaw43.PipeChecks", spec := "pipeChecks", unfollowed := true, recurses := true, apart := false, narrowed := true }
def PipeChecksUptoSaid : Prop := pipeChecksUptoRow.holds Try.pinned (OpenSpec.upto pipeChecksSpec)

/-- 'shipyardlaw43.PipeLengths', WHERE WHAT IT READS IS OF BULK AT MOST 1048576: true; the input reads as it did. -/
def pipeLengthsUptoRow : OpenClaim := { program := "ytdpppklelfmcjaa", sum := "4117195f13d1decdb5425ba532c352f0e6b00967228214accee3cdf79e829083", func := "shipyard/shipyardlaw43.PipeLengths", spec := "pipeLengths", unfollowed := true, recurses := true, apart := false, narrowed := true }
def PipeLengthsUptoSaid : Prop := pipeLengthsUptoRow.holds Try.pinned (OpenSpec.upto pipeLengthsSpec)

/-- 'shipyardlaw43.PipeParts', WHERE WHAT IT READS IS OF BULK AT MOST 1048576: true; the input reads as it did. -/
def pipePartsUptoRow : OpenClaim := { program := "ytdpppklelfmcjaa", sum := "4117195f13d1decdb5425ba532c352f0e6b00967228214accee3cdf79e829083", func := "shipyard/shipyardlaw43.PipeParts", spec := "pipeParts", unfollowed := true, recurses := true, apart := false, narrowed := true }
def PipePartsUptoSaid : Prop := pipePartsUptoRow.holds Try.pinned (OpenSpec.upto pipePartsSpec)

/-- 'shipyardlaw43.PipeReversed', WHERE WHAT IT READS IS OF BULK AT MOST 1048576: true; the input reads as it did. -/
def pipeReversedUptoRow : OpenClaim := { program := "ytdpppklelfmcjaa", sum := "4117195f13d1decdb5425ba532c352f0e6b00967228214accee3cdf79e829083", func := "shipyard/shipyardlaw43.PipeReversed", spec := "pipeReversed", unfollowed := true, recurses := true, apart := false, narrowed := true }
def PipeReversedUptoSaid : Prop := pipeReversedUptoRow.holds Try.pinned (OpenSpec.upto pipeReversedSpec)

/-- 'shipyardlaw43.PipeBends', WHERE WHAT IT READS IS OF BULK AT MOST 1048576: true; the input reads as it did. -/
def pipeBendsUptoRow : OpenClaim := { program := "ytdpppklelfmcjaa", sum := "4117195f13d1decdb5425ba532c352f0e6b00967228214accee3cdf79e829083", func := "shipyard/shipyardlaw43.PipeBends", spec := "pipeBends", unfollowed := true, recurses := true, apart := false, narrowed := true }
def PipeBendsUptoSaid : Prop := pipeBendsUptoRow.holds Try.pinned (OpenSpec.upto pipeBendsSpec)

/-- 'shipyardlaw43.PipeLonger', WHERE WHAT IT READS IS OF BULK AT MOST 1048576: true; the input reads as it did. -/
def pipeLongerUptoRow : OpenClaim := { program := "ytdpppklelfmcjaa", sum := "4117195f13d1decdb5425ba532c352f0e6b00967228214accee3cdf79e829083", func := "shipyard/shipyardlaw43.PipeLonger", spec := "pipeLonger", unfollowed := true, recurses := true, apart := false, narrowed := true }
def PipeLongerUptoSaid : Prop := pipeLongerUptoRow.holds Try.pinned (OpenSpec.upto pipeLongerSpec)

/-- 'shipyardlaw43.PipeRigid', WHERE WHAT IT READS IS OF BULK AT MOST 1048576: true; the input reads as it did. -/
def pipeRigidUptoRow : OpenClaim := { program := "ytdpppklelfmcjaa", sum := "4117195f13d1decdb5425ba532c352f0e6b00967228214accee3cdf79e829083", func := "shipyard/shipyardlaw43.PipeRigid", spec := "pipeRigid", unfollowed := true, recurses := true, apart := false, narrowed := true }
def PipeRigidUptoSaid : Prop := pipeRigidUptoRow.holds Try.pinned (OpenSpec.upto pipeRigidSpec)

end Rows
end Go.Proofs.Ytdpppklelfmcjaa
