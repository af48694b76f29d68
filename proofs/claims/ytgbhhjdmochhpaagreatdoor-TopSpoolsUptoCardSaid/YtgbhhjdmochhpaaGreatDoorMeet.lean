/-
  What Meet returns, the program's and the reference's, by walks. Conditions: none. By an AI agent.
-/
import Derived.Test.YtgbhhjdmochhpaaGreatDoorRef11
namespace Go.Proofs.YtgbhhjdmochhpaaGreatDoor
open Go.RowKit
set_option linter.unusedSimpArgs false

def mx (x y : Int) : Int := if y > x then y else x
def mn (x y : Int) : Int := if y < x then y else x
theorem run_mx (ts : Array TypeId) (t : TypeId) (x y : Int) (w : World) : (Builtin.max_ ts t #[.int .i64 x, .int .i64 y]).run Tryz.prog w = .ok (.int .i64 (mx x y)) w := by
  simp [go_sem, mx]
theorem run_mn (ts : Array TypeId) (t : TypeId) (x y : Int) (w : World) : (Builtin.min_ ts t #[.int .i64 x, .int .i64 y]).run Tryz.prog w = .ok (.int .i64 (mn x y)) w := by
  simp [go_sem, mn]
def meetsF (a1 a2 a3 a4 a5 a6 b1 b2 b3 b4 b5 b6 : Int) : Bool := decide (mx a1 b1 ≤ mn a4 b4 ∧ mx a2 b2 ≤ mn a5 b5 ∧ mx a3 b3 ≤ mn a6 b6)
def meetF (a1 a2 a3 a4 a5 a6 b1 b2 b3 b4 b5 b6 : Int) : V × V := if (mx a1 b1 ≤ mn a4 b4 ∧ mx a2 b2 ≤ mn a5 b5 ∧ mx a3 b3 ≤ mn a6 b6) then (((mx a1 b1), (mx a2 b2), (mx a3 b3)), ((mn a4 b4), (mn a5 b5), (mn a6 b6))) else (zeroV, zeroV)
end Go.Proofs.YtgbhhjdmochhpaaGreatDoor
