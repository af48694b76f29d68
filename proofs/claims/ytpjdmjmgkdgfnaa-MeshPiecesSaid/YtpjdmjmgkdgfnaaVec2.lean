/-
  What like, Compose and Back of package vec return, by walks. Conditions: package vec's variable probe holds (1, 2, 3). By an AI agent.
-/
import Derived.Test.YtpjdmjmgkdgfnaaVec
import Derived.Test.YtpjdmjmgkdgfnaaTail
namespace Go.Proofs.Ytpjdmjmgkdgfnaa
open Go.RowKit

theorem probe_in : InB 2199023255552 (1, 2, 3) := by unfold InB; decide

theorem eql_vec (a b c x y z : Int) (W : World) : (binOp .eql 40 (.agg #[.int .i64 a, .int .i64 b, .int .i64 c]) (.agg #[.int .i64 x, .int .i64 y, .int .i64 z])).run Try.prog W = .ok (.bool (decide ((a, b, c) = (x, y, z)))) W := by
  simp [go_sem]
  split
  · split
    · split <;> simp [*]
    · simp [*]
  · simp [*]

end Go.Proofs.Ytpjdmjmgkdgfnaa
