/-
  What the functions of package vec return, by walks through their text: Calls of each, for small vectors. Conditions: the bounds that each theorem names. By an AI agent.
-/
import Derived.Test.YtgbhhjdmochhpaaGreatDoorVecPlain
namespace Go.Proofs.YtgbhhjdmochhpaaGreatDoor
open Go.RowKit

def vecVal (v : V) : Value := .agg #[.int .i64 v.1, .int .i64 v.2.1, .int .i64 v.2.2]

set_option maxHeartbeats 400000 in
theorem number_any (k : Int) (w : World) :
    Calls Tryz.prog 75 #[.int .i64 k] w fun e w' => e = .returned (.int .i64 (numT k)) ∧ w = w' := by
  by_cases h0 : k < 0
  · go_enter Tryz.func75, Tryz.ntmps75
    go_wp2
    go_ret
    exact ⟨by unfold numT; rw [if_pos h0]; rfl, rfl⟩
  · by_cases h1 : 24 ≤ k
    · go_enter Tryz.func75, Tryz.ntmps75
      go_wp2
      go_ret
      exact ⟨by unfold numT; rw [if_neg (by omega), if_pos h1]; rfl, rfl⟩
    · go_enter Tryz.func75, Tryz.ntmps75
      go_wp2
      go_ret
      exact ⟨by unfold numT; rw [if_neg (by omega), if_neg (by omega)]; rfl, rfl⟩

set_option maxHeartbeats 400000 in
theorem plus_any (a b c x y z : Int) (w : World) (ha : -2199023255552 ≤ a ∧ a ≤ 2199023255552) (hb : -2199023255552 ≤ b ∧ b ≤ 2199023255552) (hc : -2199023255552 ≤ c ∧ c ≤ 2199023255552)
    (hx : -2199023255552 ≤ x ∧ x ≤ 2199023255552) (hy : -2199023255552 ≤ y ∧ y ≤ 2199023255552) (hz : -2199023255552 ≤ z ∧ z ≤ 2199023255552) :
    Calls Tryz.prog 84 #[.agg #[.int .i64 a, .int .i64 b, .int .i64 c], .agg #[.int .i64 x, .int .i64 y, .int .i64 z]] w fun e w' => e = .returned (.agg #[.int .i64 (a + x), .int .i64 (b + y), .int .i64 (c + z)]) ∧ Below w.heap.size w w' := by
  obtain ⟨ha0, ha1⟩ := ha
  obtain ⟨hb0, hb1⟩ := hb
  obtain ⟨hc0, hc1⟩ := hc
  obtain ⟨hx0, hx1⟩ := hx
  obtain ⟨hy0, hy1⟩ := hy
  obtain ⟨hz0, hz1⟩ := hz
  go_enter Tryz.func84, Tryz.ntmps84
  go_wp2
  go_returns
  exact ⟨rfl, by go_grown⟩

set_option maxHeartbeats 400000 in
theorem opposite_any (a b c : Int) (w : World) (ha : -2199023255552 ≤ a ∧ a ≤ 2199023255552) (hb : -2199023255552 ≤ b ∧ b ≤ 2199023255552) (hc : -2199023255552 ≤ c ∧ c ≤ 2199023255552) :
    Calls Tryz.prog 85 #[.agg #[.int .i64 a, .int .i64 b, .int .i64 c]] w fun e w' => e = .returned (.agg #[.int .i64 (-a), .int .i64 (-b), .int .i64 (-c)]) ∧ Below w.heap.size w w' := by
  obtain ⟨ha0, ha1⟩ := ha
  obtain ⟨hb0, hb1⟩ := hb
  obtain ⟨hc0, hc1⟩ := hc
  go_enter Tryz.func85, Tryz.ntmps85
  go_wp2
  go_returns
  exact ⟨rfl, by go_grown⟩

section
variable {n x y z : Int}
theorem tl1 (h : (n == 1) = true) : Ending.returned (.agg #[.int .i64 x, .int .i64 (-z), .int .i64 y]) = Ending.returned (vecVal (tiltV n (x, y, z))) := by
  obtain rfl : n = 1 := by simpa using h
  rfl
theorem tl2 (_h1 : (n == 1) = false) (h : (n == 2) = true) : Ending.returned (.agg #[.int .i64 x, .int .i64 (-y), .int .i64 (-z)]) = Ending.returned (vecVal (tiltV n (x, y, z))) := by
  obtain rfl : n = 2 := by simpa using h
  rfl
theorem tl3 (_h1 : (n == 1) = false) (_h2 : (n == 2) = false) (h : (n == 3) = true) : Ending.returned (.agg #[.int .i64 x, .int .i64 z, .int .i64 (-y)]) = Ending.returned (vecVal (tiltV n (x, y, z))) := by
  obtain rfl : n = 3 := by simpa using h
  rfl
theorem tl4 (_h1 : (n == 1) = false) (_h2 : (n == 2) = false) (_h3 : (n == 3) = false) (h : (n == 4) = true) : Ending.returned (.agg #[.int .i64 z, .int .i64 y, .int .i64 (-x)]) = Ending.returned (vecVal (tiltV n (x, y, z))) := by
  obtain rfl : n = 4 := by simpa using h
  rfl
theorem tl5 (_h1 : (n == 1) = false) (_h2 : (n == 2) = false) (_h3 : (n == 3) = false) (_h4 : (n == 4) = false) (h : (n == 5) = true) : Ending.returned (.agg #[.int .i64 (-z), .int .i64 y, .int .i64 x]) = Ending.returned (vecVal (tiltV n (x, y, z))) := by
  obtain rfl : n = 5 := by simpa using h
  rfl
theorem tl6 (h1 : (n == 1) = false) (h2 : (n == 2) = false) (h3 : (n == 3) = false) (h4 : (n == 4) = false) (h5 : (n == 5) = false) : Ending.returned (.agg #[.int .i64 x, .int .i64 y, .int .i64 z]) = Ending.returned (vecVal (tiltV n (x, y, z))) := by
  simp only [beq_eq_false_iff_ne, ne_eq] at h1 h2 h3 h4 h5
  unfold tiltV
  rw [if_neg h1, if_neg h2, if_neg h3, if_neg h4, if_neg h5]
  rfl
end

set_option maxHeartbeats 1000000 in
theorem turned_val (a b c k : Int) (w : World) (ha : InB 2199023255552 (a, b, c)) :
    Calls Tryz.prog 49 #[.agg #[.int .i64 a, .int .i64 b, .int .i64 c], .int .i64 k] w fun e w' => e = .returned (vecVal (turnV (a, b, c) k)) ∧ Below w.heap.size w w' := by
  obtain ⟨hn0, hn1⟩ := num_bd k
  have hqb := qn_bd ha
  have HQ := Lib.hid hqb
  clear hqb ha
  go_enter Tryz.func49, Tryz.ntmps49
  go_wp2_with (go_at_call 75; refine (number_any _ _).mono ?_; rintro e w' ⟨rfl, rfl⟩)
  go_loopw [9] (fun i wr => ∃ (j : Nat) (x y z : Int), (j : Int) ≤ numT k % 4 ∧ i = .int .i64 j ∧ Hid (qn j (a, b, c) = (x, y, z)) ∧ wr = (w.alloc (.cells #[.int .i64 x, .int .i64 y, .int .i64 z] 39)).alloc (.cells #[.int .i64 0, .int .i64 0, .int .i64 0] 39)) (fun i _ => 4 - (intOf i).toNat)
  case atStart => exact ⟨0, a, b, c, by omega, rfl, rfl, rfl⟩
  case round =>
    obtain ⟨j, x, y, z, hj, rfl, hq, rfl⟩ := hrel
    have hb := HQ.out j
    rw [hq.out] at hb
    obtain ⟨hx0, hx1, hy0, hy1, hz0, hz1⟩ := hb
    simp only at hx0 hx1 hy0 hy1 hz0 hz1
    by_cases hlt : (j : Int) < numT k % 4
    · go_wp2
      go_roundw
      case rel => exact ⟨j + 1, -y, x, z, by omega, by go_num, by show qt (qn j (a, b, c)) = _; rw [hq.out]; rfl, rfl⟩
      case measure => simp [intOf]; omega
    · have hjm : (numT k % 4).toNat = j := by omega
      have HK : Hid (turnV (a, b, c) k = tiltV (numT k / 4) (x, y, z)) := by show turnV (a, b, c) k = _; unfold turnV; rw [hjm, hq.out]
      clear hjm
      go_wp2
      all_goals go_returns
      all_goals (rw [HK.out]; refine ⟨?_, by go_grown⟩; clear HK)
      all_goals (first | exact tl1 ‹_› | exact tl2 ‹_› ‹_› | exact tl3 ‹_› ‹_› ‹_› | exact tl4 ‹_› ‹_› ‹_› ‹_› | exact tl5 ‹_› ‹_› ‹_› ‹_› ‹_› | exact tl6 ‹_› ‹_› ‹_› ‹_› ‹_›)

theorem turned_any (a b c k : Int) (w : World) (ha : InB 2199023255552 (a, b, c)) :
    Calls Tryz.prog 49 #[.agg #[.int .i64 a, .int .i64 b, .int .i64 c], .int .i64 k] w fun e w' => e = .returned (.agg #[.int .i64 (turnV (a, b, c) k).1, .int .i64 (turnV (a, b, c) k).2.1, .int .i64 (turnV (a, b, c) k).2.2]) ∧ Below w.heap.size w w' :=
  turned_val a b c k w ha

section
variable (x0 x1 x2 : Value) (w : World)
theorem idx0 : (Instr.index 102 (.agg #[x0, x1, x2]) (.int .i64 0)).run Tryz.prog w = .ok x0 w := by kernel_rfl
theorem idx1 : (Instr.index 102 (.agg #[x0, x1, x2]) (.int .i64 1)).run Tryz.prog w = .ok x1 w := by kernel_rfl
theorem idx2 : (Instr.index 102 (.agg #[x0, x1, x2]) (.int .i64 2)).run Tryz.prog w = .ok x2 w := by kernel_rfl
end
set_option maxHeartbeats 1000000 in
theorem within_yes (a b c l : Int) (w : World) (hl : 0 ≤ l ∧ l ≤ 2199023255552) (h : InB l (a, b, c)) :
    Calls Tryz.prog 48 #[.agg #[.int .i64 a, .int .i64 b, .int .i64 c], .int .i64 l] w fun e w' => e = .returned (.bool true) ∧ Below w.heap.size w w' := by
  obtain ⟨hx0, hx1, hy0, hy1, hz0, hz1⟩ := h
  simp only at hx0 hx1 hy0 hy1 hz0 hz1
  obtain ⟨hl0, hl1⟩ := hl
  have i0 := idx0
  have i1 := idx1
  have i2 := idx2
  go_enter Tryz.func48, Tryz.ntmps48
  go_wp2
  go_rounds 4
  go_returns
  exact ⟨rfl, by go_grown⟩
set_option maxHeartbeats 1000000 in
theorem within_no (a b c l : Int) (w : World) (hl : 0 ≤ l ∧ l ≤ 2199023255552) (h : ¬ InB l (a, b, c)) :
    Calls Tryz.prog 48 #[.agg #[.int .i64 a, .int .i64 b, .int .i64 c], .int .i64 l] w fun e w' => e = .returned (.bool false) ∧ Below w.heap.size w w' := by
  have H : Hid (¬ InB l (a, b, c)) := Lib.hid h
  clear h
  obtain ⟨hl0, hl1⟩ := hl
  have i0 := idx0
  have i1 := idx1
  have i2 := idx2
  go_enter Tryz.func48, Tryz.ntmps48
  go_wp2
  go_rounds 4
  all_goals (first | (exfalso; refine H.out ⟨?_, ?_, ?_, ?_, ?_, ?_⟩ <;> simp <;> omega; done) | (go_returns; exact ⟨rfl, by go_grown⟩))
end Go.Proofs.YtgbhhjdmochhpaaGreatDoor
