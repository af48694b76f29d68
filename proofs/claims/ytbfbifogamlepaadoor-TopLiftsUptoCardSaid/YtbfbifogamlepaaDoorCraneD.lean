/-
  What Few and Pick return, the program's and the reference's, by walks. Conditions: none. By an AI agent.
-/
import Derived.Test.YtbfbifogamlepaaDoorCraneC
namespace Go.Proofs.YtbfbifogamlepaaDoor
open Go.RowKit
set_option linter.unusedSimpArgs false

def pickName (n : Nat) (nm : Nat → ByteArray) (F : Nat) : ByteArray := if F < n then nm F else ⟨#[]⟩
def pickF (n : Nat) (rn : Nat → Nat) (r q : Nat → Nat → Int) (x y : Int) : Nat := firstFrom (fun i => decide (y ≤ loadF (rn i) (r i) (q i) x)) n 0
end Go.Proofs.YtbfbifogamlepaaDoor
