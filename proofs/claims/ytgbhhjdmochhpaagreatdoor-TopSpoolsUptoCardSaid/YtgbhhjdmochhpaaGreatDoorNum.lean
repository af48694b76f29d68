/-
  What num.Ceil and its reference return for numbers that are not below 0, by walks. Conditions: 0 ≤ a, 0 < b, both at most 2^62. By an AI agent.
-/
import Derived.Test.YtgbhhjdmochhpaaGreatDoorBase
namespace Go.Proofs.YtgbhhjdmochhpaaGreatDoor
open Go.RowKit
set_option linter.unusedSimpArgs false

/-- rounded up -/
def ceilF (a b : Int) : Int := if a % b = 0 then a / b else a / b + 1
theorem divided_in (a b : Int) (w : World) (ha : 0 ≤ a ∧ a ≤ 4611686018427387904) (hb : 0 < b ∧ b ≤ 4611686018427387904) :
    Calls Tryz.prog 87 #[.int .i64 a, .int .i64 b] w fun e w' => e = .returned (.tuple #[.int .i64 (a / b), .int .i64 (a % b), .int .i64 0]) ∧ Below w.heap.size w w' := by
  obtain ⟨ha0, ha1⟩ := ha
  obtain ⟨hb0, hb1⟩ := hb
  have hz : (b == 0) = false := by simp; omega
  have hm : (a == -9223372036854775808) = false := by simp; omega
  go_enter Tryz.func87, Tryz.ntmps87
  go_wp2_with fail
  refine wp_region_past (by kernel_rfl) (by kernel_rfl) ?_
  iterate 9 go_big_quiet_step (fail)
  refine wpQuiet_nil ?_
  intro w1 hw'
  have hB := past_out hw'
  clear hw'
  go_wp2
  go_returns
  exact ⟨rfl, hB⟩
end Go.Proofs.YtgbhhjdmochhpaaGreatDoor
