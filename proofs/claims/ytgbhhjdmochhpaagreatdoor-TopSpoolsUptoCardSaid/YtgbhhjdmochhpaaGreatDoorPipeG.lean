/-
  Numbers; Legs of any path; the plain length. Conditions: none. By an AI agent.
-/
import Derived.Test.YtgbhhjdmochhpaaGreatDoorPipeE
import Derived.Test.YtgbhhjdmochhpaaGreatDoorPipeF
namespace Go.Proofs.YtgbhhjdmochhpaaGreatDoor
open Go Go.ChangeShapes Go.WideShapes Go.RowKit Go.ChangeAt
set_option linter.unusedSimpArgs false
set_option linter.unusedVariables false

theorem mul_in {x y B C : Int} (hx : -B ≤ x ∧ x ≤ B) (hy : -C ≤ y ∧ y ≤ C) : -(B * C) ≤ x * y ∧ x * y ≤ B * C := by
  have hB : 0 ≤ B := by omega
  have hC : 0 ≤ C := by omega
  have h1 : (x * y).natAbs ≤ (B * C).natAbs := by
    rw [Int.natAbs_mul, Int.natAbs_mul]
    exact Nat.mul_le_mul (by omega) (by omega)
  have h2 : 0 ≤ B * C := Int.mul_nonneg hB hC
  omega
theorem floor_in (a b q : Int) (w : World) (ha : 0 ≤ a ∧ a ≤ 4611686018427387904) (hb : 0 < b ∧ b ≤ 4611686018427387904) (he : a / b = q) :
    Calls Tryz.prog 53 #[.int .i64 a, .int .i64 b] w fun e w' => e = .returned (.tuple #[.int .i64 q, .int .i64 0]) ∧ Below w.heap.size w w' := by
  have hm0 : 0 ≤ a % b := Int.emod_nonneg _ (by omega)
  have hq0 : 0 ≤ a / b := Int.ediv_nonneg ha.1 (by omega)
  have hq1 : a / b ≤ a := Int.ediv_le_self _ ha.1
  obtain ⟨ha0, ha1⟩ := ha
  obtain ⟨hb0, hb1⟩ := hb
  have HE := Lib.hid he
  clear he
  have h3 : decide (b < 0) = false := decide_eq_false (by omega)
  by_cases h : a % b = 0
  · have h1 : (a % b != 0) = false := by simpa using h
    clear h
    go_enter Tryz.func53, Tryz.ntmps53
    go_wp2_with fail
    (go_at_call 87; refine (divided_in _ _ _ ⟨ha0, ha1⟩ ⟨hb0, hb1⟩).mono ?_; rintro e w1 ⟨rfl, hB⟩)
    go_wp2
    go_returns
    exact ⟨by rw [← HE.out]; rfl, hB⟩
  · have h1 : (a % b != 0) = true := by simpa using h
    have h2 : decide (a % b < 0) = false := decide_eq_false (by omega)
    clear h
    go_enter Tryz.func53, Tryz.ntmps53
    go_wp2_with fail
    (go_at_call 87; refine (divided_in _ _ _ ⟨ha0, ha1⟩ ⟨hb0, hb1⟩).mono ?_; rintro e w1 ⟨rfl, hB⟩)
    go_wp2
    go_returns
    exact ⟨by rw [← HE.out]; rfl, hB⟩
theorem mag_in (a : Int) (w : World) (ha : 0 ≤ a ∧ a ≤ 4611686018427387904) :
    Calls Tryz.prog 54 #[.int .i64 a] w fun e w' => e = .returned (.int .u64 a) ∧ Below w.heap.size w w' := by
  obtain ⟨ha0, ha1⟩ := ha
  have h1 : decide (a < 0) = false := decide_eq_false (by omega)
  have hw : IntKind.u64.wrap a = a := by simp [IntKind.wrap, IntKind.signed, IntKind.bits]; omega
  go_enter Tryz.func54, Tryz.ntmps54
  go_wp2
  go_returns
  exact ⟨rfl, by go_grown⟩
theorem round_arc (a q : Int) (w : World) (ha : 0 ≤ a ∧ a ≤ 1570800000) (he : (a + 50000) / 100000 = q) :
    Calls Tryz.prog 19 #[.int .i64 a, .int .i64 100000] w fun e w' => e = .returned (.tuple #[.int .i64 q, .int .i64 0]) ∧ Below w.heap.size w w' := by
  obtain ⟨p, hp⟩ : ∃ p, a / 100000 = p := ⟨_, rfl⟩
  obtain ⟨ha0, ha1⟩ := ha
  have p0 : 0 ≤ p := by omega
  have p1 : p ≤ 15708 := by omega
  have g0 : 0 ≤ a - p * 100000 := by omega
  have g1 : a - p * 100000 < 100000 := by omega
  have HP := Lib.hid hp
  have HE := Lib.hid he
  by_cases hc : 50000 ≤ a - p * 100000
  · have HQ : Hid (q = p + 1) := by show _ = _; omega
    have k0 : IntKind.u64.wrap (100000 - (a - p * 100000)) = 100000 - (a - p * 100000) := by simp [IntKind.wrap, IntKind.signed, IntKind.bits]; omega
    have k1 : decide (100000 - (a - p * 100000) ≤ a - p * 100000) = true := decide_eq_true (by omega)
    clear hp he
    go_enter Tryz.func19, Tryz.ntmps19
    go_wp2_with fail
    (go_at_call 53; refine (floor_in _ _ p _ ⟨ha0, by omega⟩ ⟨by omega, by omega⟩ HP.out).mono ?_; rintro e w1 ⟨rfl, hb⟩)
    have HB1 := Lib.hid hb
    clear hb
    go_wp2_with fail
    (go_at_call 54; refine (mag_in _ _ ⟨by omega, by omega⟩).mono ?_; rintro e w2 ⟨rfl, hb⟩)
    have HB2 := Lib.hid (below_step HB1.out hb)
    clear hb
    go_wp2_with fail
    (go_at_call 54; refine (mag_in _ _ ⟨by omega, by omega⟩).mono ?_; rintro e w3 ⟨rfl, hb⟩)
    have HB3 := Lib.hid (below_step HB2.out hb)
    clear hb
    go_wp2
    go_returns
    exact ⟨by rw [HQ.out]; rfl, HB3.out⟩
  · have HQ : Hid (q = p) := by show _ = _; omega
    have k0 : IntKind.u64.wrap (100000 - (a - p * 100000)) = 100000 - (a - p * 100000) := by simp [IntKind.wrap, IntKind.signed, IntKind.bits]; omega
    have k1 : decide (100000 - (a - p * 100000) ≤ a - p * 100000) = false := decide_eq_false (by omega)
    clear hp he
    go_enter Tryz.func19, Tryz.ntmps19
    go_wp2_with fail
    (go_at_call 53; refine (floor_in _ _ p _ ⟨ha0, by omega⟩ ⟨by omega, by omega⟩ HP.out).mono ?_; rintro e w1 ⟨rfl, hb⟩)
    have HB1 := Lib.hid hb
    clear hb
    go_wp2_with fail
    (go_at_call 54; refine (mag_in _ _ ⟨by omega, by omega⟩).mono ?_; rintro e w2 ⟨rfl, hb⟩)
    have HB2 := Lib.hid (below_step HB1.out hb)
    clear hb
    go_wp2_with fail
    (go_at_call 54; refine (mag_in _ _ ⟨by omega, by omega⟩).mono ?_; rintro e w3 ⟨rfl, hb⟩)
    have HB3 := Lib.hid (below_step HB2.out hb)
    clear hb
    go_wp2
    go_returns
    exact ⟨by rw [HQ.out]; rfl, HB3.out⟩
def legN (n : Nat) (x y z : Nat → Int) : Nat := if allTo (inP x y z) n = true then n - 1 else 0
set_option maxHeartbeats 2000000 in
theorem legs_any (v : Value) (n : Nat) (x y z : Nat → Int) (w : World) (h : VecsAt w v n x y z) (hn : n ≤ 1000) :
    Calls Tryz.prog 20 #[v] w fun e w' => ∃ l, e = .returned l ∧ IntsAt w' l (legN n x y z) (legV x y z) ∧ NewFrom w.heap.size l ∧ Below w.heap.size w w' := by
  by_cases hA : allTo (inP x y z) n = true
  · rw [show legN n x y z = n - 1 from if_pos hA]
    exact legs_pts v n x y z w h (inP_all hA) hn
  · rw [show legN n x y z = 0 from if_neg hA]
    have hA2 : allTo (inP x y z) n = false := by simpa using hA
    have HA := Lib.hid hA2
    clear hA hA2
    have hel := h.form
    obtain ⟨oa, cap, rfl, hn0, hel⟩ := hel
    have HEL := Lib.hid hel
    have HV := Lib.hid h
    clear hel h
    go_enter Tryz.func20, Tryz.ntmps20
    go_wp2_with fail
    (go_at_call 50; refine (contains_pts _ _ _ _ _ _ HV.out).mono ?_; rintro e w1 ⟨rfl, hb⟩)
    rw [HA.out]
    have HB1 := Lib.hid hb
    clear hb
    go_wp2
    go_returns
    exact ⟨_, rfl, intsAt_nil _ _, newFrom_nil _, HB1.out⟩
set_option maxHeartbeats 2000000 in
theorem rlegs_any (v : Value) (n : Nat) (x y z : Nat → Int) (w : World) (h : VecsAt w v n x y z) (hn : n ≤ 1000) :
    Calls Tryz.prog 56 #[v] w fun e w' => ∃ l, e = .returned l ∧ IntsAt w' l (legN n x y z) (legV x y z) ∧ NewFrom w.heap.size l ∧ Below w.heap.size w w' := by
  by_cases hA : allTo (inP x y z) n = true
  · rw [show legN n x y z = n - 1 from if_pos hA]
    exact rlegs_pts v n x y z w h (inP_all hA) hn
  · rw [show legN n x y z = 0 from if_neg hA]
    have hA2 : allTo (inP x y z) n = false := by simpa using hA
    have HA := Lib.hid hA2
    clear hA hA2
    have hel := h.form
    obtain ⟨oa, cap, rfl, hn0, hel⟩ := hel
    have HEL := Lib.hid hel
    have HV := Lib.hid h
    clear hel h
    go_enter Tryz.func56, Tryz.ntmps56
    go_wp2_with fail
    (go_at_call 88; refine (inside_pts _ _ _ _ _ _ HV.out).mono ?_; rintro e w1 ⟨rfl, hb⟩)
    rw [HA.out]
    have HB1 := Lib.hid hb
    clear hb
    go_wp2
    go_returns
    exact ⟨_, rfl, intsAt_nil _ _, newFrom_nil _, HB1.out⟩
def sumTo (f : Nat → Int) : Nat → Int
  | 0 => 0
  | n + 1 => sumTo f n + f n
theorem sum_bd {f : Nat → Int} {B : Int} : ∀ {n : Nat}, (∀ i, i < n → 0 ≤ f i ∧ f i ≤ B) → 0 ≤ sumTo f n ∧ sumTo f n ≤ B * n
  | 0, _ => by simp [sumTo]
  | n + 1, h => by
    have h1 := sum_bd (f := f) (n := n) (fun i hi => h i (by omega))
    have h2 := h n (by omega)
    unfold sumTo
    rw [show B * ((n + 1 : Nat) : Int) = B * n + B by rw [Int.natCast_add, Int.mul_add]; simp]
    omega
theorem leg_bd {x y z : Nat → Int} {n : Nat} (hin : ∀ i, i < n → In3 (x i) (y i) (z i)) : ∀ i, i < n - 1 → 0 ≤ legV x y z i ∧ legV x y z i ≤ 3145728 := by
  intro i hi
  have i1 := hin i (by omega)
  have i2 := hin (i + 1) (by omega)
  have bx := mag_bd (sub_fits (a := x (i + 1)) (b := x i) ⟨i2.1, i2.2.1⟩ ⟨i1.1, i1.2.1⟩)
  have by' := mag_bd (sub_fits (a := y (i + 1)) (b := y i) ⟨i2.2.2.1, i2.2.2.2.1⟩ ⟨i1.2.2.1, i1.2.2.2.1⟩)
  have bz := mag_bd (sub_fits (a := z (i + 1)) (b := z i) ⟨i2.2.2.2.2.1, i2.2.2.2.2.2⟩ ⟨i1.2.2.2.2.1, i1.2.2.2.2.2⟩)
  unfold legV
  omega
def arcF (r : Int) : Int := (r * 157080 + 50000) / 100000
/-- length and error -/
def lengthF (n : Nat) (x y z : Nat → Int) (r : Int) : Int := if checkF n x y z r = 0 then sumTo (legV x y z) (n - 1) + mx ((n : Int) - 2) 0 * (arcF r - 2 * r) else 0
theorem check_zero {n : Nat} {x y z : Nat → Int} {r : Int} (h : checkF n x y z r = 0) : 2 ≤ n ∧ n ≤ 32 ∧ allTo (inP x y z) n = true ∧ 1 ≤ r ∧ r ≤ 10000 ∧ allTo (fun i => !badB x y z i) (n - 1) = true ∧ allTo (fun i => !shortB x y z n r i) (n - 1) = true := by
  unfold checkF at h
  split at h
  · omega
  · split at h
    · omega
    · split at h
      · omega
      · rename_i h9
        split at h
        · omega
        · rename_i h17
          split at h
          · omega
          · rename_i h18
            exact ⟨by omega, by omega, by simpa using fun e => h9 (.inl e), by omega, by omega, by simpa using h17, by simpa using h18⟩
theorem bends_val {v : Value} {n : Nat} {x y z : Nat → Int} {B : Int} (w : World) (h : VecsAt w v n x y z) (hB : mx ((n : Int) - 2) 0 = B) :
    Calls Tryz.prog 21 #[v] w fun e w' => e = .returned (.int .i64 B) ∧ Below w.heap.size w w' := by
  subst hB; exact bends_pts v n x y z w h
theorem rbends_val {v : Value} {n : Nat} {x y z : Nat → Int} {B : Int} (w : World) (h : VecsAt w v n x y z) (hB : mx ((n : Int) - 2) 0 = B) :
    Calls Tryz.prog 57 #[v] w fun e w' => e = .returned (.int .i64 B) ∧ Below w.heap.size w w' := by
  subst hB; exact rbends_pts v n x y z w h
end Go.Proofs.YtgbhhjdmochhpaaGreatDoor
