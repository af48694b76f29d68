/-
  The reference's Floor, and the two Rounds. Conditions: none. By an AI agent.
-/
import Derived.Test.YtbfbifogamlepaaDoorRound
namespace Go.Proofs.YtbfbifogamlepaaDoor
open Go Go.ChangeShapes Go.WideShapes Go.RowKit Go.ChangeAt
set_option linter.unusedSimpArgs false
set_option linter.unusedVariables false
theorem tmod_sign {a b M : Int} (h : a.tmod b = M) : (0 ≤ a → 0 ≤ M) ∧ (a < 0 → M ≤ 0) := by
  refine ⟨fun ha => by rw [← h]; exact Int.tmod_nonneg b ha, fun ha => ?_⟩
  have h2 : 0 ≤ (-a).tmod b := Int.tmod_nonneg b (by omega)
  rw [Int.neg_tmod, h] at h2
  omega
theorem rfloor_any {a b q : Int} (w : World) (ha : -4611686018427387904 ≤ a ∧ a ≤ 4611686018427387904) (hb : 0 < b ∧ b ≤ 4611686018427387904) (he : a / b = q) :
    Calls Tryd.prog 62 #[.int .i64 a, .int .i64 b] w fun e w' => e = .returned (.tuple #[.int .i64 q, .int .i64 0]) ∧ Below w.heap.size w w' := by
  obtain ⟨Q, hQ⟩ : ∃ Q, a.tdiv b = Q := ⟨_, rfl⟩
  obtain ⟨M, hM⟩ : ∃ M, a.tmod b = M := ⟨_, rfl⟩
  obtain ⟨q0, q1⟩ := tdiv_bd hQ ha
  obtain ⟨m0, m1⟩ := tmod_bd hM hb.1
  obtain ⟨s0, s1⟩ := tmod_sign hM
  have hf := fl_of (a := a) hb.1
  rw [he, hQ, hM] at hf
  have w1 : IntKind.i64.wrap Q = Q := IntWalk.i64_in _ (by omega)
  have w2 : IntKind.i64.wrap M = M := IntWalk.i64_in _ (by omega)
  have hz : (b == 0) = false := by simp; omega
  have hm : (a == -9223372036854775808) = false := by simp; omega
  have hbz : b ≠ 0 := by omega
  have b0 : decide (b < 0) = false := decide_eq_false (by omega)
  have b1 : ¬ b < 0 := by omega
  by_cases hzm : M = 0
  · have E : Hid (q = Q) := by show _ = _; rw [hf, if_neg (by omega)]
    have k0 : (M != 0) = false := by simp; omega
    clear hf hzm he s0 s1
    go_enter Tryd.func62, Tryd.ntmps62
    go_wp2
    go_returns
    exact ⟨by rw [E.out]; rfl, by go_grown⟩
  · have k0 : (M != 0) = true := by simp; omega
    by_cases hl : a < 0
    · have E : Hid (q = Q - 1) := by show _ = _; rw [hf, if_pos (by omega)]
      have k1 : decide (a < 0) = true := decide_eq_true hl
      clear hf hzm he s0 s1
      go_enter Tryd.func62, Tryd.ntmps62
      go_wp2
      go_returns
      exact ⟨by rw [E.out]; rfl, by go_grown⟩
    · have E : Hid (q = Q) := by show _ = _; rw [hf, if_neg (by omega)]
      have k1 : decide (a < 0) = false := decide_eq_false hl
      clear hf hzm he s0 s1
      go_enter Tryd.func62, Tryd.ntmps62
      go_wp2
      go_returns
      exact ⟨by rw [E.out]; rfl, by go_grown⟩
theorem mag_pos (a : Int) (w : World) (ha : 0 ≤ a ∧ a ≤ 4611686018427387904) :
    Calls Tryd.prog 55 #[.int .i64 a] w fun e w' => e = .returned (.int .u64 a) ∧ Below w.heap.size w w' := by
  obtain ⟨ha0, ha1⟩ := ha
  have h1 : decide (a < 0) = false := decide_eq_false (by omega)
  have hw : IntKind.u64.wrap a = a := by simp [IntKind.wrap, IntKind.signed, IntKind.bits]; omega
  go_enter Tryd.func55, Tryd.ntmps55
  go_wp2
  go_returns
  exact ⟨rfl, by go_grown⟩
/-- rounded to the nearest, halves up -/
def roundF (a b : Int) : Int := if b - (a - a / b * b) ≤ a - a / b * b then a / b + 1 else a / b
set_option maxRecDepth 20000 in
set_option maxHeartbeats 4000000 in
theorem round_any (a b : Int) (w : World) (ha : -1152921504606846976 ≤ a ∧ a ≤ 1152921504606846976) (hb : 0 < b ∧ b ≤ 1099511627776) :
    Calls Tryd.prog 38 #[.int .i64 a, .int .i64 b] w fun e w' => e = .returned (.tuple #[.int .i64 (roundF a b), .int .i64 0]) ∧ Below w.heap.size w w' := by
  obtain ⟨p, hp⟩ : ∃ p, a / b = p := ⟨_, rfl⟩
  obtain ⟨ha0, ha1⟩ := ha
  obtain ⟨hb0, hb1⟩ := hb
  obtain ⟨p0, p1⟩ : -1152921504606846976 - 1 ≤ p ∧ p ≤ 1152921504606846976 + 1 := by
    have h1 := fl_of (a := a) hb0
    obtain ⟨q0, q1⟩ : -1152921504606846976 ≤ a.tdiv b ∧ a.tdiv b ≤ 1152921504606846976 := by
      have := Int.natAbs_tdiv_le_natAbs a b
      omega
    rw [hp] at h1
    split at h1 <;> omega
  obtain ⟨t, ht⟩ : ∃ t, p * b = t := ⟨_, rfl⟩
  have hr := Int.emod_nonneg a (show b ≠ 0 by omega)
  have hr2 := Int.emod_lt_of_pos a hb0
  have hr3 := Int.mul_ediv_add_emod a b
  rw [hp, Int.mul_comm, ht] at hr3
  have g0 : 0 ≤ a - t := by omega
  have g1 : a - t < b := by omega
  have t0 : -1152921504606846976 - 1099511627776 ≤ t := by omega
  have t1 : t ≤ 1152921504606846976 := by omega
  have wt : IntKind.i64.wrap t = t := IntWalk.i64_in _ (by omega)
  have wu : IntKind.u64.wrap (b - (a - t)) = b - (a - t) := by simp [IntKind.wrap, IntKind.signed, IntKind.bits]; omega
  have bp : decide (0 < b) = true := decide_eq_true hb0
  have HP := Lib.hid hp
  by_cases hc : b - (a - t) ≤ a - t
  · have E : Hid (roundF a b = p + 1) := by show _ = _; unfold roundF; rw [hp, ht, if_pos hc]
    have kc : decide (b - (a - t) ≤ a - t) = true := decide_eq_true hc
    clear hr hr2 hr3 hp
    go_enter Tryd.func38, Tryd.ntmps38
    go_wp2_with fail
    (go_at_call 54; refine (floor_any _ ⟨by omega, by omega⟩ ⟨by omega, by omega⟩ HP.out).mono ?_; rintro e w1 ⟨rfl, hb⟩)
    have HB1 := Lib.hid hb
    clear hb
    go_wp2_with fail
    (go_at_call 55; refine (mag_pos _ _ ⟨by omega, by omega⟩).mono ?_; rintro e w2 ⟨rfl, hb⟩)
    have HB2 := Lib.hid (below_step HB1.out hb)
    clear hb
    go_wp2_with fail
    (go_at_call 55; refine (mag_pos _ _ ⟨by omega, by omega⟩).mono ?_; rintro e w3 ⟨rfl, hb⟩)
    have HB3 := Lib.hid (below_step HB2.out hb)
    clear hb
    go_wp2
    go_returns
    exact ⟨by rw [E.out]; rfl, HB3.out⟩
  · have E : Hid (roundF a b = p) := by show _ = _; unfold roundF; rw [hp, ht, if_neg hc]
    have kc : decide (b - (a - t) ≤ a - t) = false := decide_eq_false hc
    have bn : decide (b < 0) = false := decide_eq_false (by omega)
    clear hr hr2 hr3 hp
    go_enter Tryd.func38, Tryd.ntmps38
    go_wp2_with fail
    (go_at_call 54; refine (floor_any _ ⟨by omega, by omega⟩ ⟨by omega, by omega⟩ HP.out).mono ?_; rintro e w1 ⟨rfl, hb⟩)
    have HB1 := Lib.hid hb
    clear hb
    go_wp2_with fail
    (go_at_call 55; refine (mag_pos _ _ ⟨by omega, by omega⟩).mono ?_; rintro e w2 ⟨rfl, hb⟩)
    have HB2 := Lib.hid (below_step HB1.out hb)
    clear hb
    go_wp2_with fail
    (go_at_call 55; refine (mag_pos _ _ ⟨by omega, by omega⟩).mono ?_; rintro e w3 ⟨rfl, hb⟩)
    have HB3 := Lib.hid (below_step HB2.out hb)
    clear hb
    go_wp2
    go_returns
    exact ⟨by rw [E.out]; rfl, HB3.out⟩
set_option maxRecDepth 20000 in
set_option maxHeartbeats 4000000 in
theorem rround_any (a b : Int) (w : World) (ha : -1152921504606846976 ≤ a ∧ a ≤ 1152921504606846976) (hb : 0 < b ∧ b ≤ 1099511627776) :
    Calls Tryd.prog 49 #[.int .i64 a, .int .i64 b] w fun e w' => e = .returned (.tuple #[.int .i64 (roundF a b), .int .i64 0]) ∧ Below w.heap.size w w' := by
  obtain ⟨p, hp⟩ : ∃ p, a / b = p := ⟨_, rfl⟩
  obtain ⟨ha0, ha1⟩ := ha
  obtain ⟨hb0, hb1⟩ := hb
  obtain ⟨p0, p1⟩ : -1152921504606846976 - 1 ≤ p ∧ p ≤ 1152921504606846976 + 1 := by
    have h1 := fl_of (a := a) hb0
    obtain ⟨q0, q1⟩ : -1152921504606846976 ≤ a.tdiv b ∧ a.tdiv b ≤ 1152921504606846976 := by
      have := Int.natAbs_tdiv_le_natAbs a b
      omega
    rw [hp] at h1
    split at h1 <;> omega
  obtain ⟨t, ht⟩ : ∃ t, p * b = t := ⟨_, rfl⟩
  have hr := Int.emod_nonneg a (show b ≠ 0 by omega)
  have hr2 := Int.emod_lt_of_pos a hb0
  have hr3 := Int.mul_ediv_add_emod a b
  rw [hp, Int.mul_comm, ht] at hr3
  have g0 : 0 ≤ a - t := by omega
  have g1 : a - t < b := by omega
  have t0 : -1152921504606846976 - 1099511627776 ≤ t := by omega
  have t1 : t ≤ 1152921504606846976 := by omega
  have wt : IntKind.i64.wrap t = t := IntWalk.i64_in _ (by omega)
  have wu : IntKind.u64.wrap (b - (a - t)) = b - (a - t) := by simp [IntKind.wrap, IntKind.signed, IntKind.bits]; omega
  have bp : decide (0 < b) = true := decide_eq_true hb0
  have HP := Lib.hid hp
  by_cases hc : b - (a - t) ≤ a - t
  · have E : Hid (roundF a b = p + 1) := by show _ = _; unfold roundF; rw [hp, ht, if_pos hc]
    have kc : decide (b - (a - t) ≤ a - t) = true := decide_eq_true hc
    clear hr hr2 hr3 hp
    go_enter Tryd.func49, Tryd.ntmps49
    go_wp2_with fail
    (go_at_call 62; refine (rfloor_any _ ⟨by omega, by omega⟩ ⟨by omega, by omega⟩ HP.out).mono ?_; rintro e w1 ⟨rfl, hb⟩)
    have HB1 := Lib.hid hb
    clear hb
    go_wp2
    go_returns
    exact ⟨by rw [E.out]; rfl, HB1.out⟩
  · have E : Hid (roundF a b = p) := by show _ = _; unfold roundF; rw [hp, ht, if_neg hc]
    have kc : decide (b - (a - t) ≤ a - t) = false := decide_eq_false hc
    have bn : decide (b < 0) = false := decide_eq_false (by omega)
    clear hr hr2 hr3 hp
    go_enter Tryd.func49, Tryd.ntmps49
    go_wp2_with fail
    (go_at_call 62; refine (rfloor_any _ ⟨by omega, by omega⟩ ⟨by omega, by omega⟩ HP.out).mono ?_; rintro e w1 ⟨rfl, hb⟩)
    have HB1 := Lib.hid hb
    clear hb
    go_wp2
    go_returns
    exact ⟨by rw [E.out]; rfl, HB1.out⟩
end Go.Proofs.YtbfbifogamlepaaDoor
