/-
  What num.Ceil and its reference return for numbers that are not below 0, by walks. Conditions: 0 ≤ a, 0 < b, both at most 2^62. By an AI agent.
-/
import Derived.Test.YtbfbifogamlepaaDoorBase
namespace Go.Proofs.YtbfbifogamlepaaDoor
open Go.RowKit
set_option linter.unusedSimpArgs false

/-- rounded up -/
def ceilF (a b : Int) : Int := if a % b = 0 then a / b else a / b + 1
theorem divided_in (a b : Int) (w : World) (ha : 0 ≤ a ∧ a ≤ 4611686018427387904) (hb : 0 < b ∧ b ≤ 4611686018427387904) :
    Calls Tryd.prog 42 #[.int .i64 a, .int .i64 b] w fun e w' => e = .returned (.tuple #[.int .i64 (a / b), .int .i64 (a % b), .int .i64 0]) ∧ Below w.heap.size w w' := by
  obtain ⟨ha0, ha1⟩ := ha
  obtain ⟨hb0, hb1⟩ := hb
  have hz : (b == 0) = false := by simp; omega
  have hm : (a == -9223372036854775808) = false := by simp; omega
  go_enter Tryd.func42, Tryd.ntmps42
  go_wp2_with fail
  refine wp_region_past (by kernel_rfl) (by kernel_rfl) ?_
  iterate 9 go_big_quiet_step (fail)
  refine wpQuiet_nil ?_
  intro w1 hw'
  have hB := past_out hw'
  clear hw'
  go_wp2
  go_returns
  exact ⟨rfl, hB⟩
theorem ceil_in (a b : Int) (w : World) (ha : 0 ≤ a ∧ a ≤ 4611686018427387904) (hb : 0 < b ∧ b ≤ 4611686018427387904) :
    Calls Tryd.prog 24 #[.int .i64 a, .int .i64 b] w fun e w' => e = .returned (.tuple #[.int .i64 (ceilF a b), .int .i64 0]) ∧ Below w.heap.size w w' := by
  have hm0 : 0 ≤ a % b := Int.emod_nonneg _ (by omega)
  have hq0 : 0 ≤ a / b := Int.ediv_nonneg ha.1 (by omega)
  have hq1 : a / b ≤ a := Int.ediv_le_self _ ha.1
  have hq2 : a / b ≤ 4611686018427387904 := by omega
  obtain ⟨ha0, ha1⟩ := ha
  obtain ⟨hb0, hb1⟩ := hb
  by_cases h : a % b = 0
  · have h1 : (a % b != 0) = false := by simpa using h
    have E : Hid (ceilF a b = a / b) := if_pos h
    clear h
    go_enter Tryd.func24, Tryd.ntmps24
    go_wp2_with fail
    (go_at_call 42; refine (divided_in _ _ _ ⟨ha0, ha1⟩ ⟨hb0, hb1⟩).mono ?_; rintro e w1 ⟨rfl, hB⟩)
    go_wp2
    go_returns
    exact ⟨by rw [E.out]; rfl, hB⟩
  · have h1 : (a % b != 0) = true := by simpa using h
    have E : Hid (ceilF a b = a / b + 1) := if_neg h
    have h2 : decide (a % b < 0) = false := decide_eq_false (by omega)
    have h3 : decide (b < 0) = false := decide_eq_false (by omega)
    clear h
    go_enter Tryd.func24, Tryd.ntmps24
    go_wp2_with fail
    (go_at_call 42; refine (divided_in _ _ _ ⟨ha0, ha1⟩ ⟨hb0, hb1⟩).mono ?_; rintro e w1 ⟨rfl, hB⟩)
    go_wp2
    go_returns
    exact ⟨by rw [E.out]; rfl, hB⟩
theorem rfloor_in (a b : Int) (w : World) (ha : 0 ≤ a ∧ a ≤ 4611686018427387904) (hb : 0 < b ∧ b ≤ 4611686018427387904) :
    Calls Tryd.prog 62 #[.int .i64 a, .int .i64 b] w fun e w' => e = .returned (.tuple #[.int .i64 (a / b), .int .i64 0]) ∧ Below w.heap.size w w' := by
  have hm0 : 0 ≤ a % b := Int.emod_nonneg _ (by omega)
  obtain ⟨ha0, ha1⟩ := ha
  obtain ⟨hb0, hb1⟩ := hb
  have hz : (b == 0) = false := by simp; omega
  have hm : (a == -9223372036854775808) = false := by simp; omega
  have h2 : decide (a < 0) = false := decide_eq_false (by omega)
  have h3 : decide (b < 0) = false := decide_eq_false (by omega)
  by_cases h : a % b = 0
  · have h1 : (a % b != 0) = false := by simpa using h
    clear h
    go_enter Tryd.func62, Tryd.ntmps62
    go_wp2
    go_returns
    exact ⟨rfl, by go_grown⟩
  · have h1 : (a % b != 0) = true := by simpa using h
    clear h
    go_enter Tryd.func62, Tryd.ntmps62
    go_wp2
    go_returns
    exact ⟨rfl, by go_grown⟩
theorem rceil_in (a b : Int) (w : World) (ha : 0 ≤ a ∧ a ≤ 4611686018427387904) (hb : 0 < b ∧ b ≤ 4611686018427387904) :
    Calls Tryd.prog 53 #[.int .i64 a, .int .i64 b] w fun e w' => e = .returned (.tuple #[.int .i64 (ceilF a b), .int .i64 0]) ∧ Below w.heap.size w w' := by
  have hq0 : 0 ≤ a / b := Int.ediv_nonneg ha.1 (by omega)
  have hq1 : a / b ≤ a := Int.ediv_le_self _ ha.1
  have hq2 : a / b ≤ 4611686018427387904 := by omega
  obtain ⟨ha0, ha1⟩ := ha
  obtain ⟨hb0, hb1⟩ := hb
  by_cases h : a % b = 0
  · have h1 : (a % b != 0) = false := by simpa using h
    have E : Hid (ceilF a b = a / b) := if_pos h
    clear h
    go_enter Tryd.func53, Tryd.ntmps53
    go_wp2_with fail
    (go_at_call 62; refine (rfloor_in _ _ _ ⟨ha0, ha1⟩ ⟨hb0, hb1⟩).mono ?_; rintro e w1 ⟨rfl, hB⟩)
    go_wp2
    go_returns
    exact ⟨by rw [E.out]; rfl, hB⟩
  · have h1 : (a % b != 0) = true := by simpa using h
    have E : Hid (ceilF a b = a / b + 1) := if_neg h
    clear h
    go_enter Tryd.func53, Tryd.ntmps53
    go_wp2_with fail
    (go_at_call 62; refine (rfloor_in _ _ _ ⟨ha0, ha1⟩ ⟨hb0, hb1⟩).mono ?_; rintro e w1 ⟨rfl, hB⟩)
    go_wp2
    go_returns
    exact ⟨by rw [E.out]; rfl, hB⟩
end Go.Proofs.YtbfbifogamlepaaDoor
