/-
  What like, Compose and Back of package vec return, by walks. Conditions: package vec's variable probe holds (1, 2, 3). By an AI agent.
-/
import Derived.Test.YtgbhhjdmochhpaaGreatDoorVec
import Derived.Test.YtgbhhjdmochhpaaGreatDoorTail
namespace Go.Proofs.YtgbhhjdmochhpaaGreatDoor
open Go.RowKit

theorem probe_in : InB 2199023255552 (1, 2, 3) := by unfold InB; decide

theorem eql_vec (a b c x y z : Int) (W : World) : (binOp .eql 39 (.agg #[.int .i64 a, .int .i64 b, .int .i64 c]) (.agg #[.int .i64 x, .int .i64 y, .int .i64 z])).run Tryz.prog W = .ok (.bool (decide ((a, b, c) = (x, y, z)))) W := by
  simp [go_sem]
  split
  · split
    · split <;> simp [*]
    · simp [*]
  · simp [*]

end Go.Proofs.YtgbhhjdmochhpaaGreatDoor
