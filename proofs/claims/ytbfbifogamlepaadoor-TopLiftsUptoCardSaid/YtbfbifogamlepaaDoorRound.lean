/-
  Division of any number by a positive one. Conditions: none. By an AI agent.
-/
import Derived.Test.YtbfbifogamlepaaDoorGross
namespace Go.Proofs.YtbfbifogamlepaaDoor
open Go Go.ChangeShapes Go.WideShapes Go.RowKit Go.ChangeAt
set_option linter.unusedSimpArgs false
set_option linter.unusedVariables false
theorem tdiv_bd {a b Q : Int} (h : a.tdiv b = Q) (ha : -4611686018427387904 ≤ a ∧ a ≤ 4611686018427387904) : -4611686018427387904 ≤ Q ∧ Q ≤ 4611686018427387904 := by
  have := Int.natAbs_tdiv_le_natAbs a b
  rw [h] at this
  omega
theorem tmod_bd {a b M : Int} (h : a.tmod b = M) (hb : 0 < b) : -b < M ∧ M < b := by
  rw [← h]
  exact ⟨Int.lt_tmod_of_pos a hb, Int.tmod_lt_of_pos a hb⟩
theorem divided_any {a b Q M : Int} (w : World) (ha : -4611686018427387904 ≤ a ∧ a ≤ 4611686018427387904) (hb : 0 < b ∧ b ≤ 4611686018427387904) (hQ : a.tdiv b = Q) (hM : a.tmod b = M) :
    Calls Tryd.prog 42 #[.int .i64 a, .int .i64 b] w fun e w' => e = .returned (.tuple #[.int .i64 Q, .int .i64 M, .int .i64 0]) ∧ Below w.heap.size w w' := by
  obtain ⟨q0, q1⟩ := tdiv_bd hQ ha
  obtain ⟨m0, m1⟩ := tmod_bd hM hb.1
  obtain ⟨ha0, ha1⟩ := ha
  obtain ⟨hb0, hb1⟩ := hb
  have hz : (b == 0) = false := by simp; omega
  have hm : (a == -9223372036854775808) = false := by simp; omega
  have w1 : IntKind.i64.wrap Q = Q := IntWalk.i64_in _ (by omega)
  have w2 : IntKind.i64.wrap M = M := IntWalk.i64_in _ (by omega)
  go_enter Tryd.func42, Tryd.ntmps42
  go_wp2_with fail
  refine wp_region_past (by kernel_rfl) (by kernel_rfl) ?_
  iterate 9 go_big_quiet_step (fail)
  refine wpQuiet_nil ?_
  intro w1 hw'
  have hB := past_out hw'
  clear hw'
  go_wp2
  go_returns
  exact ⟨rfl, hB⟩
theorem fl_of {a b : Int} (hb : 0 < b) : a / b = if a.tmod b < 0 then a.tdiv b - 1 else a.tdiv b := by
  have h1 := Int.mul_tdiv_add_tmod a b
  have h2 := tmod_bd (rfl : a.tmod b = a.tmod b) hb
  generalize a.tdiv b = Q at *
  generalize a.tmod b = M at *
  subst h1
  split
  · rw [show b * Q + M = (M + b) + b * (Q - 1) by rw [Int.mul_sub]; omega, Int.add_mul_ediv_left _ _ (by omega), Int.ediv_eq_zero_of_lt (by omega) (by omega)]; omega
  · rw [Int.add_comm, Int.add_mul_ediv_left _ _ (by omega), Int.ediv_eq_zero_of_lt (by omega) (by omega)]; omega
theorem floor_any {a b q : Int} (w : World) (ha : -4611686018427387904 ≤ a ∧ a ≤ 4611686018427387904) (hb : 0 < b ∧ b ≤ 4611686018427387904) (he : a / b = q) :
    Calls Tryd.prog 54 #[.int .i64 a, .int .i64 b] w fun e w' => e = .returned (.tuple #[.int .i64 q, .int .i64 0]) ∧ Below w.heap.size w w' := by
  obtain ⟨Q, hQ⟩ : ∃ Q, a.tdiv b = Q := ⟨_, rfl⟩
  obtain ⟨M, hM⟩ : ∃ M, a.tmod b = M := ⟨_, rfl⟩
  obtain ⟨q0, q1⟩ := tdiv_bd hQ ha
  obtain ⟨m0, m1⟩ := tmod_bd hM hb.1
  have hf := fl_of (a := a) hb.1
  rw [he, hQ, hM] at hf
  have HA := Lib.hid ha
  have HBd := Lib.hid hb
  have HQ := Lib.hid hQ
  have HM := Lib.hid hM
  have b0 : decide (b < 0) = false := decide_eq_false (by omega)
  have b1 : ¬ b < 0 := by omega
  by_cases hz : M = 0
  · have E : Hid (q = Q) := by show _ = _; rw [hf, if_neg (by omega)]
    have k0 : (M != 0) = false := by simp; omega
    clear hf hQ hM hz he ha hb
    go_enter Tryd.func54, Tryd.ntmps54
    go_wp2_with fail
    (go_at_call 42; refine (divided_any _ HA.out HBd.out HQ.out HM.out).mono ?_; rintro e w1 ⟨rfl, hB⟩)
    go_wp2
    go_returns
    exact ⟨by rw [E.out]; rfl, hB⟩
  · have k0 : (M != 0) = true := by simp; omega
    by_cases hl : M < 0
    · have E : Hid (q = Q - 1) := by show _ = _; rw [hf, if_pos hl]
      have k1 : decide (M < 0) = true := decide_eq_true hl
      clear hf hQ hM hz he ha hb
      go_enter Tryd.func54, Tryd.ntmps54
      go_wp2_with fail
      (go_at_call 42; refine (divided_any _ HA.out HBd.out HQ.out HM.out).mono ?_; rintro e w1 ⟨rfl, hB⟩)
      go_wp2
      go_returns
      exact ⟨by rw [E.out]; rfl, hB⟩
    · have E : Hid (q = Q) := by show _ = _; rw [hf, if_neg hl]
      have k1 : decide (M < 0) = false := decide_eq_false hl
      clear hf hQ hM hz he ha hb
      go_enter Tryd.func54, Tryd.ntmps54
      go_wp2_with fail
      (go_at_call 42; refine (divided_any _ HA.out HBd.out HQ.out HM.out).mono ?_; rintro e w1 ⟨rfl, hB⟩)
      go_wp2
      go_returns
      exact ⟨by rw [E.out]; rfl, hB⟩
end Go.Proofs.YtbfbifogamlepaaDoor
