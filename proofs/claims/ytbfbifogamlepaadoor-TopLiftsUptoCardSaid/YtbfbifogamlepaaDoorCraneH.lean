/-
  What Share returns where it errs, way by way, by walks. Conditions: none. By an AI agent.
-/
import Derived.Test.YtbfbifogamlepaaDoorCraneG
import Derived.Test.YtbfbifogamlepaaDoorNum
namespace Go.Proofs.YtbfbifogamlepaaDoor
open Go.RowKit
set_option linter.unusedSimpArgs false

set_option maxRecDepth 20000 in
set_option maxHeartbeats 4000000 in
theorem share_r0 (mass ax ay bx by' cx cy : Int) (w : World) (hm : mass < 0) : Calls Tryd.prog 41 #[.int .i64 mass, .agg #[.int .i64 ax, .int .i64 ay], .agg #[.int .i64 bx, .int .i64 by'], .agg #[.int .i64 cx, .int .i64 cy]] w fun e w' => e = .returned (.tuple #[.int .i64 0, .int .i64 0, .int .i64 9]) ∧ Below w.heap.size w w' := by
  go_enter Tryd.func41, Tryd.ntmps41
  go_wp2
  go_returns
  exact ⟨rfl, by go_grown⟩
set_option maxRecDepth 20000 in
set_option maxHeartbeats 4000000 in
theorem share_r1 (mass ax ay bx by' cx cy : Int) (w : World) (hm0 : 0 ≤ mass) (hm1 : 1099511627776 < mass) : Calls Tryd.prog 41 #[.int .i64 mass, .agg #[.int .i64 ax, .int .i64 ay], .agg #[.int .i64 bx, .int .i64 by'], .agg #[.int .i64 cx, .int .i64 cy]] w fun e w' => e = .returned (.tuple #[.int .i64 0, .int .i64 0, .int .i64 9]) ∧ Below w.heap.size w w' := by
  go_enter Tryd.func41, Tryd.ntmps41
  go_wp2
  go_returns
  exact ⟨rfl, by go_grown⟩
set_option maxRecDepth 20000 in
set_option maxHeartbeats 4000000 in
theorem share_r2 (mass ax ay bx by' cx cy : Int) (w : World) (hm0 : 0 ≤ mass) (hm1 : mass ≤ 1099511627776)  (ha : ¬ InP ax ay) : Calls Tryd.prog 41 #[.int .i64 mass, .agg #[.int .i64 ax, .int .i64 ay], .agg #[.int .i64 bx, .int .i64 by'], .agg #[.int .i64 cx, .int .i64 cy]] w fun e w' => e = .returned (.tuple #[.int .i64 0, .int .i64 0, .int .i64 9]) ∧ Below w.heap.size w w' := by
  go_enter Tryd.func41, Tryd.ntmps41
  go_wp2_with fail
  (go_at_call 56; refine (inside_no ax ay _ (by assumption)).mono ?_; rintro e w1 ⟨rfl, hb1⟩)
  have HB1 : Hid (Below (((w.alloc (.cells #[.int .i64 ax, .int .i64 ay] 43)).alloc (.cells #[.int .i64 bx, .int .i64 by'] 43)).alloc (.cells #[.int .i64 cx, .int .i64 cy] 43)).heap.size (((w.alloc (.cells #[.int .i64 ax, .int .i64 ay] 43)).alloc (.cells #[.int .i64 bx, .int .i64 by'] 43)).alloc (.cells #[.int .i64 cx, .int .i64 cy] 43)) w1) := hb1
  clear hb1
  have z1 : w.heap.size + 1 + 1 < w1.heap.size := by have := HB1.out.size; simp at this; omega
  have z1a : w.heap.size + 1 < w1.heap.size := by omega
  have z1b : w.heap.size < w1.heap.size := by omega
  have x10 : w1.cell? ⟨w.heap.size, 0, none⟩ = some (.int .i64 ax) := by rw [HB1.out.cell (p := ⟨_, _, none⟩) (by simp <;> omega)]; simp [go_sem]
  have x11 : w1.cell? ⟨w.heap.size, 1, none⟩ = some (.int .i64 ay) := by rw [HB1.out.cell (p := ⟨_, _, none⟩) (by simp <;> omega)]; simp [go_sem]
  have x12 : w1.cell? ⟨w.heap.size + 1, 0, none⟩ = some (.int .i64 bx) := by rw [HB1.out.cell (p := ⟨_, _, none⟩) (by simp <;> omega)]; simp [go_sem]
  have x13 : w1.cell? ⟨w.heap.size + 1, 1, none⟩ = some (.int .i64 by') := by rw [HB1.out.cell (p := ⟨_, _, none⟩) (by simp <;> omega)]; simp [go_sem]
  have x14 : w1.cell? ⟨w.heap.size + 1 + 1, 0, none⟩ = some (.int .i64 cx) := by rw [HB1.out.cell (p := ⟨_, _, none⟩) (by simp <;> omega)]; simp [go_sem]
  have x15 : w1.cell? ⟨w.heap.size + 1 + 1, 1, none⟩ = some (.int .i64 cy) := by rw [HB1.out.cell (p := ⟨_, _, none⟩) (by simp <;> omega)]; simp [go_sem]
  go_wp2
  go_returns
  exact ⟨rfl, below_step (w := w) (by go_grown) HB1.out⟩
set_option maxRecDepth 20000 in
set_option maxHeartbeats 4000000 in
theorem share_r3 (mass ax ay bx by' cx cy : Int) (w : World) (hm0 : 0 ≤ mass) (hm1 : mass ≤ 1099511627776) (ha : InP ax ay) (hb : ¬ InP bx by') : Calls Tryd.prog 41 #[.int .i64 mass, .agg #[.int .i64 ax, .int .i64 ay], .agg #[.int .i64 bx, .int .i64 by'], .agg #[.int .i64 cx, .int .i64 cy]] w fun e w' => e = .returned (.tuple #[.int .i64 0, .int .i64 0, .int .i64 9]) ∧ Below w.heap.size w w' := by
  go_enter Tryd.func41, Tryd.ntmps41
  go_wp2_with fail
  (go_at_call 56; refine (inside_yes ax ay _ (by assumption)).mono ?_; rintro e w1 ⟨rfl, hb1⟩)
  have HB1 : Hid (Below (((w.alloc (.cells #[.int .i64 ax, .int .i64 ay] 43)).alloc (.cells #[.int .i64 bx, .int .i64 by'] 43)).alloc (.cells #[.int .i64 cx, .int .i64 cy] 43)).heap.size (((w.alloc (.cells #[.int .i64 ax, .int .i64 ay] 43)).alloc (.cells #[.int .i64 bx, .int .i64 by'] 43)).alloc (.cells #[.int .i64 cx, .int .i64 cy] 43)) w1) := hb1
  clear hb1
  have z1 : w.heap.size + 1 + 1 < w1.heap.size := by have := HB1.out.size; simp at this; omega
  have z1a : w.heap.size + 1 < w1.heap.size := by omega
  have z1b : w.heap.size < w1.heap.size := by omega
  have x10 : w1.cell? ⟨w.heap.size, 0, none⟩ = some (.int .i64 ax) := by rw [HB1.out.cell (p := ⟨_, _, none⟩) (by simp <;> omega)]; simp [go_sem]
  have x11 : w1.cell? ⟨w.heap.size, 1, none⟩ = some (.int .i64 ay) := by rw [HB1.out.cell (p := ⟨_, _, none⟩) (by simp <;> omega)]; simp [go_sem]
  have x12 : w1.cell? ⟨w.heap.size + 1, 0, none⟩ = some (.int .i64 bx) := by rw [HB1.out.cell (p := ⟨_, _, none⟩) (by simp <;> omega)]; simp [go_sem]
  have x13 : w1.cell? ⟨w.heap.size + 1, 1, none⟩ = some (.int .i64 by') := by rw [HB1.out.cell (p := ⟨_, _, none⟩) (by simp <;> omega)]; simp [go_sem]
  have x14 : w1.cell? ⟨w.heap.size + 1 + 1, 0, none⟩ = some (.int .i64 cx) := by rw [HB1.out.cell (p := ⟨_, _, none⟩) (by simp <;> omega)]; simp [go_sem]
  have x15 : w1.cell? ⟨w.heap.size + 1 + 1, 1, none⟩ = some (.int .i64 cy) := by rw [HB1.out.cell (p := ⟨_, _, none⟩) (by simp <;> omega)]; simp [go_sem]
  go_wp2_with fail
  (go_at_call 56; refine (inside_no bx by' _ (by assumption)).mono ?_; rintro e w2 ⟨rfl, hb1⟩)
  have HB2 : Hid (Below (((w.alloc (.cells #[.int .i64 ax, .int .i64 ay] 43)).alloc (.cells #[.int .i64 bx, .int .i64 by'] 43)).alloc (.cells #[.int .i64 cx, .int .i64 cy] 43)).heap.size (((w.alloc (.cells #[.int .i64 ax, .int .i64 ay] 43)).alloc (.cells #[.int .i64 bx, .int .i64 by'] 43)).alloc (.cells #[.int .i64 cx, .int .i64 cy] 43)) w2) := HB1.out.trans (hb1.mono HB1.out.size)
  clear hb1
  have z2 : w.heap.size + 1 + 1 < w2.heap.size := by have := HB2.out.size; simp at this; omega
  have z2a : w.heap.size + 1 < w2.heap.size := by omega
  have z2b : w.heap.size < w2.heap.size := by omega
  have x20 : w2.cell? ⟨w.heap.size, 0, none⟩ = some (.int .i64 ax) := by rw [HB2.out.cell (p := ⟨_, _, none⟩) (by simp <;> omega)]; simp [go_sem]
  have x21 : w2.cell? ⟨w.heap.size, 1, none⟩ = some (.int .i64 ay) := by rw [HB2.out.cell (p := ⟨_, _, none⟩) (by simp <;> omega)]; simp [go_sem]
  have x22 : w2.cell? ⟨w.heap.size + 1, 0, none⟩ = some (.int .i64 bx) := by rw [HB2.out.cell (p := ⟨_, _, none⟩) (by simp <;> omega)]; simp [go_sem]
  have x23 : w2.cell? ⟨w.heap.size + 1, 1, none⟩ = some (.int .i64 by') := by rw [HB2.out.cell (p := ⟨_, _, none⟩) (by simp <;> omega)]; simp [go_sem]
  have x24 : w2.cell? ⟨w.heap.size + 1 + 1, 0, none⟩ = some (.int .i64 cx) := by rw [HB2.out.cell (p := ⟨_, _, none⟩) (by simp <;> omega)]; simp [go_sem]
  have x25 : w2.cell? ⟨w.heap.size + 1 + 1, 1, none⟩ = some (.int .i64 cy) := by rw [HB2.out.cell (p := ⟨_, _, none⟩) (by simp <;> omega)]; simp [go_sem]
  go_wp2
  go_returns
  exact ⟨rfl, below_step (w := w) (by go_grown) HB2.out⟩
set_option maxRecDepth 20000 in
set_option maxHeartbeats 4000000 in
theorem share_r4 (mass ax ay bx by' cx cy : Int) (w : World) (hm0 : 0 ≤ mass) (hm1 : mass ≤ 1099511627776) (ha : InP ax ay) (hb : InP bx by') (hc : ¬ InP cx cy) : Calls Tryd.prog 41 #[.int .i64 mass, .agg #[.int .i64 ax, .int .i64 ay], .agg #[.int .i64 bx, .int .i64 by'], .agg #[.int .i64 cx, .int .i64 cy]] w fun e w' => e = .returned (.tuple #[.int .i64 0, .int .i64 0, .int .i64 9]) ∧ Below w.heap.size w w' := by
  go_enter Tryd.func41, Tryd.ntmps41
  go_wp2_with fail
  (go_at_call 56; refine (inside_yes ax ay _ (by assumption)).mono ?_; rintro e w1 ⟨rfl, hb1⟩)
  have HB1 : Hid (Below (((w.alloc (.cells #[.int .i64 ax, .int .i64 ay] 43)).alloc (.cells #[.int .i64 bx, .int .i64 by'] 43)).alloc (.cells #[.int .i64 cx, .int .i64 cy] 43)).heap.size (((w.alloc (.cells #[.int .i64 ax, .int .i64 ay] 43)).alloc (.cells #[.int .i64 bx, .int .i64 by'] 43)).alloc (.cells #[.int .i64 cx, .int .i64 cy] 43)) w1) := hb1
  clear hb1
  have z1 : w.heap.size + 1 + 1 < w1.heap.size := by have := HB1.out.size; simp at this; omega
  have z1a : w.heap.size + 1 < w1.heap.size := by omega
  have z1b : w.heap.size < w1.heap.size := by omega
  have x10 : w1.cell? ⟨w.heap.size, 0, none⟩ = some (.int .i64 ax) := by rw [HB1.out.cell (p := ⟨_, _, none⟩) (by simp <;> omega)]; simp [go_sem]
  have x11 : w1.cell? ⟨w.heap.size, 1, none⟩ = some (.int .i64 ay) := by rw [HB1.out.cell (p := ⟨_, _, none⟩) (by simp <;> omega)]; simp [go_sem]
  have x12 : w1.cell? ⟨w.heap.size + 1, 0, none⟩ = some (.int .i64 bx) := by rw [HB1.out.cell (p := ⟨_, _, none⟩) (by simp <;> omega)]; simp [go_sem]
  have x13 : w1.cell? ⟨w.heap.size + 1, 1, none⟩ = some (.int .i64 by') := by rw [HB1.out.cell (p := ⟨_, _, none⟩) (by simp <;> omega)]; simp [go_sem]
  have x14 : w1.cell? ⟨w.heap.size + 1 + 1, 0, none⟩ = some (.int .i64 cx) := by rw [HB1.out.cell (p := ⟨_, _, none⟩) (by simp <;> omega)]; simp [go_sem]
  have x15 : w1.cell? ⟨w.heap.size + 1 + 1, 1, none⟩ = some (.int .i64 cy) := by rw [HB1.out.cell (p := ⟨_, _, none⟩) (by simp <;> omega)]; simp [go_sem]
  go_wp2_with fail
  (go_at_call 56; refine (inside_yes bx by' _ (by assumption)).mono ?_; rintro e w2 ⟨rfl, hb1⟩)
  have HB2 : Hid (Below (((w.alloc (.cells #[.int .i64 ax, .int .i64 ay] 43)).alloc (.cells #[.int .i64 bx, .int .i64 by'] 43)).alloc (.cells #[.int .i64 cx, .int .i64 cy] 43)).heap.size (((w.alloc (.cells #[.int .i64 ax, .int .i64 ay] 43)).alloc (.cells #[.int .i64 bx, .int .i64 by'] 43)).alloc (.cells #[.int .i64 cx, .int .i64 cy] 43)) w2) := HB1.out.trans (hb1.mono HB1.out.size)
  clear hb1
  have z2 : w.heap.size + 1 + 1 < w2.heap.size := by have := HB2.out.size; simp at this; omega
  have z2a : w.heap.size + 1 < w2.heap.size := by omega
  have z2b : w.heap.size < w2.heap.size := by omega
  have x20 : w2.cell? ⟨w.heap.size, 0, none⟩ = some (.int .i64 ax) := by rw [HB2.out.cell (p := ⟨_, _, none⟩) (by simp <;> omega)]; simp [go_sem]
  have x21 : w2.cell? ⟨w.heap.size, 1, none⟩ = some (.int .i64 ay) := by rw [HB2.out.cell (p := ⟨_, _, none⟩) (by simp <;> omega)]; simp [go_sem]
  have x22 : w2.cell? ⟨w.heap.size + 1, 0, none⟩ = some (.int .i64 bx) := by rw [HB2.out.cell (p := ⟨_, _, none⟩) (by simp <;> omega)]; simp [go_sem]
  have x23 : w2.cell? ⟨w.heap.size + 1, 1, none⟩ = some (.int .i64 by') := by rw [HB2.out.cell (p := ⟨_, _, none⟩) (by simp <;> omega)]; simp [go_sem]
  have x24 : w2.cell? ⟨w.heap.size + 1 + 1, 0, none⟩ = some (.int .i64 cx) := by rw [HB2.out.cell (p := ⟨_, _, none⟩) (by simp <;> omega)]; simp [go_sem]
  have x25 : w2.cell? ⟨w.heap.size + 1 + 1, 1, none⟩ = some (.int .i64 cy) := by rw [HB2.out.cell (p := ⟨_, _, none⟩) (by simp <;> omega)]; simp [go_sem]
  go_wp2_with fail
  (go_at_call 56; refine (inside_no cx cy _ (by assumption)).mono ?_; rintro e w3 ⟨rfl, hb1⟩)
  have HB3 : Hid (Below (((w.alloc (.cells #[.int .i64 ax, .int .i64 ay] 43)).alloc (.cells #[.int .i64 bx, .int .i64 by'] 43)).alloc (.cells #[.int .i64 cx, .int .i64 cy] 43)).heap.size (((w.alloc (.cells #[.int .i64 ax, .int .i64 ay] 43)).alloc (.cells #[.int .i64 bx, .int .i64 by'] 43)).alloc (.cells #[.int .i64 cx, .int .i64 cy] 43)) w3) := HB2.out.trans (hb1.mono HB2.out.size)
  clear hb1
  have z3 : w.heap.size + 1 + 1 < w3.heap.size := by have := HB3.out.size; simp at this; omega
  have z3a : w.heap.size + 1 < w3.heap.size := by omega
  have z3b : w.heap.size < w3.heap.size := by omega
  have x30 : w3.cell? ⟨w.heap.size, 0, none⟩ = some (.int .i64 ax) := by rw [HB3.out.cell (p := ⟨_, _, none⟩) (by simp <;> omega)]; simp [go_sem]
  have x31 : w3.cell? ⟨w.heap.size, 1, none⟩ = some (.int .i64 ay) := by rw [HB3.out.cell (p := ⟨_, _, none⟩) (by simp <;> omega)]; simp [go_sem]
  have x32 : w3.cell? ⟨w.heap.size + 1, 0, none⟩ = some (.int .i64 bx) := by rw [HB3.out.cell (p := ⟨_, _, none⟩) (by simp <;> omega)]; simp [go_sem]
  have x33 : w3.cell? ⟨w.heap.size + 1, 1, none⟩ = some (.int .i64 by') := by rw [HB3.out.cell (p := ⟨_, _, none⟩) (by simp <;> omega)]; simp [go_sem]
  have x34 : w3.cell? ⟨w.heap.size + 1 + 1, 0, none⟩ = some (.int .i64 cx) := by rw [HB3.out.cell (p := ⟨_, _, none⟩) (by simp <;> omega)]; simp [go_sem]
  have x35 : w3.cell? ⟨w.heap.size + 1 + 1, 1, none⟩ = some (.int .i64 cy) := by rw [HB3.out.cell (p := ⟨_, _, none⟩) (by simp <;> omega)]; simp [go_sem]
  go_wp2
  go_returns
  exact ⟨rfl, below_step (w := w) (by go_grown) HB3.out⟩
set_option maxRecDepth 20000 in
set_option maxHeartbeats 4000000 in
theorem share_s0e (mass ax ay bx by' cx cy : Int) (w : World) (hm0 : 0 ≤ mass) (hm1 : mass ≤ 1099511627776) (ha : InP ax ay) (hb : InP bx by') (hc : InP cx cy) (g0 : cx < mn ax bx) (heq : decide ((ax, ay) = (bx, by')) = true) : Calls Tryd.prog 41 #[.int .i64 mass, .agg #[.int .i64 ax, .int .i64 ay], .agg #[.int .i64 bx, .int .i64 by'], .agg #[.int .i64 cx, .int .i64 cy]] w fun e w' => e = .returned (.tuple #[.int .i64 0, .int .i64 0, .int .i64 17]) ∧ Below w.heap.size w w' := by
  have HA := ha
  have HBB := hb
  have HCC := hc
  obtain ⟨a0, a1, a2, a3⟩ := HA
  obtain ⟨b0, b1, b2, b3⟩ := HBB
  obtain ⟨c0, c1, c2, c3⟩ := HCC
  obtain ⟨m0, m1⟩ := mul_in (x := bx - ax) (y := cy - ay) (B := 2097152) (C := 2097152) ⟨by omega, by omega⟩ ⟨by omega, by omega⟩
  obtain ⟨m2, m3⟩ := mul_in (x := by' - ay) (y := cx - ax) (B := 2097152) (C := 2097152) ⟨by omega, by omega⟩ ⟨by omega, by omega⟩
  simp only [Int.reduceMul, Int.reduceNeg] at m0 m1 m2 m3
  have hmx := run_mx
  have hmn := run_mn
  have hpt := fun W => eql_point ax ay bx by' W
  rw [heq] at hpt
  have kk : decide (mn ax bx ≤ cx) = false := decide_eq_false (by omega)
  go_enter Tryd.func41, Tryd.ntmps41
  go_wp2_with fail
  (go_at_call 56; refine (inside_yes ax ay _ (by assumption)).mono ?_; rintro e w1 ⟨rfl, hb1⟩)
  have HB1 : Hid (Below (((w.alloc (.cells #[.int .i64 ax, .int .i64 ay] 43)).alloc (.cells #[.int .i64 bx, .int .i64 by'] 43)).alloc (.cells #[.int .i64 cx, .int .i64 cy] 43)).heap.size (((w.alloc (.cells #[.int .i64 ax, .int .i64 ay] 43)).alloc (.cells #[.int .i64 bx, .int .i64 by'] 43)).alloc (.cells #[.int .i64 cx, .int .i64 cy] 43)) w1) := hb1
  clear hb1
  have z1 : w.heap.size + 1 + 1 < w1.heap.size := by have := HB1.out.size; simp at this; omega
  have z1a : w.heap.size + 1 < w1.heap.size := by omega
  have z1b : w.heap.size < w1.heap.size := by omega
  have x10 : w1.cell? ⟨w.heap.size, 0, none⟩ = some (.int .i64 ax) := by rw [HB1.out.cell (p := ⟨_, _, none⟩) (by simp <;> omega)]; simp [go_sem]
  have x11 : w1.cell? ⟨w.heap.size, 1, none⟩ = some (.int .i64 ay) := by rw [HB1.out.cell (p := ⟨_, _, none⟩) (by simp <;> omega)]; simp [go_sem]
  have x12 : w1.cell? ⟨w.heap.size + 1, 0, none⟩ = some (.int .i64 bx) := by rw [HB1.out.cell (p := ⟨_, _, none⟩) (by simp <;> omega)]; simp [go_sem]
  have x13 : w1.cell? ⟨w.heap.size + 1, 1, none⟩ = some (.int .i64 by') := by rw [HB1.out.cell (p := ⟨_, _, none⟩) (by simp <;> omega)]; simp [go_sem]
  have x14 : w1.cell? ⟨w.heap.size + 1 + 1, 0, none⟩ = some (.int .i64 cx) := by rw [HB1.out.cell (p := ⟨_, _, none⟩) (by simp <;> omega)]; simp [go_sem]
  have x15 : w1.cell? ⟨w.heap.size + 1 + 1, 1, none⟩ = some (.int .i64 cy) := by rw [HB1.out.cell (p := ⟨_, _, none⟩) (by simp <;> omega)]; simp [go_sem]
  go_wp2_with fail
  (go_at_call 56; refine (inside_yes bx by' _ (by assumption)).mono ?_; rintro e w2 ⟨rfl, hb1⟩)
  have HB2 : Hid (Below (((w.alloc (.cells #[.int .i64 ax, .int .i64 ay] 43)).alloc (.cells #[.int .i64 bx, .int .i64 by'] 43)).alloc (.cells #[.int .i64 cx, .int .i64 cy] 43)).heap.size (((w.alloc (.cells #[.int .i64 ax, .int .i64 ay] 43)).alloc (.cells #[.int .i64 bx, .int .i64 by'] 43)).alloc (.cells #[.int .i64 cx, .int .i64 cy] 43)) w2) := HB1.out.trans (hb1.mono HB1.out.size)
  clear hb1
  have z2 : w.heap.size + 1 + 1 < w2.heap.size := by have := HB2.out.size; simp at this; omega
  have z2a : w.heap.size + 1 < w2.heap.size := by omega
  have z2b : w.heap.size < w2.heap.size := by omega
  have x20 : w2.cell? ⟨w.heap.size, 0, none⟩ = some (.int .i64 ax) := by rw [HB2.out.cell (p := ⟨_, _, none⟩) (by simp <;> omega)]; simp [go_sem]
  have x21 : w2.cell? ⟨w.heap.size, 1, none⟩ = some (.int .i64 ay) := by rw [HB2.out.cell (p := ⟨_, _, none⟩) (by simp <;> omega)]; simp [go_sem]
  have x22 : w2.cell? ⟨w.heap.size + 1, 0, none⟩ = some (.int .i64 bx) := by rw [HB2.out.cell (p := ⟨_, _, none⟩) (by simp <;> omega)]; simp [go_sem]
  have x23 : w2.cell? ⟨w.heap.size + 1, 1, none⟩ = some (.int .i64 by') := by rw [HB2.out.cell (p := ⟨_, _, none⟩) (by simp <;> omega)]; simp [go_sem]
  have x24 : w2.cell? ⟨w.heap.size + 1 + 1, 0, none⟩ = some (.int .i64 cx) := by rw [HB2.out.cell (p := ⟨_, _, none⟩) (by simp <;> omega)]; simp [go_sem]
  have x25 : w2.cell? ⟨w.heap.size + 1 + 1, 1, none⟩ = some (.int .i64 cy) := by rw [HB2.out.cell (p := ⟨_, _, none⟩) (by simp <;> omega)]; simp [go_sem]
  go_wp2_with fail
  (go_at_call 56; refine (inside_yes cx cy _ (by assumption)).mono ?_; rintro e w3 ⟨rfl, hb1⟩)
  have HB3 : Hid (Below (((w.alloc (.cells #[.int .i64 ax, .int .i64 ay] 43)).alloc (.cells #[.int .i64 bx, .int .i64 by'] 43)).alloc (.cells #[.int .i64 cx, .int .i64 cy] 43)).heap.size (((w.alloc (.cells #[.int .i64 ax, .int .i64 ay] 43)).alloc (.cells #[.int .i64 bx, .int .i64 by'] 43)).alloc (.cells #[.int .i64 cx, .int .i64 cy] 43)) w3) := HB2.out.trans (hb1.mono HB2.out.size)
  clear hb1
  have z3 : w.heap.size + 1 + 1 < w3.heap.size := by have := HB3.out.size; simp at this; omega
  have z3a : w.heap.size + 1 < w3.heap.size := by omega
  have z3b : w.heap.size < w3.heap.size := by omega
  have x30 : w3.cell? ⟨w.heap.size, 0, none⟩ = some (.int .i64 ax) := by rw [HB3.out.cell (p := ⟨_, _, none⟩) (by simp <;> omega)]; simp [go_sem]
  have x31 : w3.cell? ⟨w.heap.size, 1, none⟩ = some (.int .i64 ay) := by rw [HB3.out.cell (p := ⟨_, _, none⟩) (by simp <;> omega)]; simp [go_sem]
  have x32 : w3.cell? ⟨w.heap.size + 1, 0, none⟩ = some (.int .i64 bx) := by rw [HB3.out.cell (p := ⟨_, _, none⟩) (by simp <;> omega)]; simp [go_sem]
  have x33 : w3.cell? ⟨w.heap.size + 1, 1, none⟩ = some (.int .i64 by') := by rw [HB3.out.cell (p := ⟨_, _, none⟩) (by simp <;> omega)]; simp [go_sem]
  have x34 : w3.cell? ⟨w.heap.size + 1 + 1, 0, none⟩ = some (.int .i64 cx) := by rw [HB3.out.cell (p := ⟨_, _, none⟩) (by simp <;> omega)]; simp [go_sem]
  have x35 : w3.cell? ⟨w.heap.size + 1 + 1, 1, none⟩ = some (.int .i64 cy) := by rw [HB3.out.cell (p := ⟨_, _, none⟩) (by simp <;> omega)]; simp [go_sem]
  go_wp2
  go_returns
  exact ⟨rfl, below_step (w := w) (by go_grown) HB3.out⟩
set_option maxRecDepth 20000 in
set_option maxHeartbeats 4000000 in
theorem share_s0n (mass ax ay bx by' cx cy : Int) (w : World) (hm0 : 0 ≤ mass) (hm1 : mass ≤ 1099511627776) (ha : InP ax ay) (hb : InP bx by') (hc : InP cx cy) (g0 : cx < mn ax bx) (heq : decide ((ax, ay) = (bx, by')) = false) : Calls Tryd.prog 41 #[.int .i64 mass, .agg #[.int .i64 ax, .int .i64 ay], .agg #[.int .i64 bx, .int .i64 by'], .agg #[.int .i64 cx, .int .i64 cy]] w fun e w' => e = .returned (.tuple #[.int .i64 0, .int .i64 0, .int .i64 17]) ∧ Below w.heap.size w w' := by
  have HA := ha
  have HBB := hb
  have HCC := hc
  obtain ⟨a0, a1, a2, a3⟩ := HA
  obtain ⟨b0, b1, b2, b3⟩ := HBB
  obtain ⟨c0, c1, c2, c3⟩ := HCC
  obtain ⟨m0, m1⟩ := mul_in (x := bx - ax) (y := cy - ay) (B := 2097152) (C := 2097152) ⟨by omega, by omega⟩ ⟨by omega, by omega⟩
  obtain ⟨m2, m3⟩ := mul_in (x := by' - ay) (y := cx - ax) (B := 2097152) (C := 2097152) ⟨by omega, by omega⟩ ⟨by omega, by omega⟩
  simp only [Int.reduceMul, Int.reduceNeg] at m0 m1 m2 m3
  have hmx := run_mx
  have hmn := run_mn
  have hpt := fun W => eql_point ax ay bx by' W
  rw [heq] at hpt
  have kk : decide (mn ax bx ≤ cx) = false := decide_eq_false (by omega)
  go_enter Tryd.func41, Tryd.ntmps41
  go_wp2_with fail
  (go_at_call 56; refine (inside_yes ax ay _ (by assumption)).mono ?_; rintro e w1 ⟨rfl, hb1⟩)
  have HB1 : Hid (Below (((w.alloc (.cells #[.int .i64 ax, .int .i64 ay] 43)).alloc (.cells #[.int .i64 bx, .int .i64 by'] 43)).alloc (.cells #[.int .i64 cx, .int .i64 cy] 43)).heap.size (((w.alloc (.cells #[.int .i64 ax, .int .i64 ay] 43)).alloc (.cells #[.int .i64 bx, .int .i64 by'] 43)).alloc (.cells #[.int .i64 cx, .int .i64 cy] 43)) w1) := hb1
  clear hb1
  have z1 : w.heap.size + 1 + 1 < w1.heap.size := by have := HB1.out.size; simp at this; omega
  have z1a : w.heap.size + 1 < w1.heap.size := by omega
  have z1b : w.heap.size < w1.heap.size := by omega
  have x10 : w1.cell? ⟨w.heap.size, 0, none⟩ = some (.int .i64 ax) := by rw [HB1.out.cell (p := ⟨_, _, none⟩) (by simp <;> omega)]; simp [go_sem]
  have x11 : w1.cell? ⟨w.heap.size, 1, none⟩ = some (.int .i64 ay) := by rw [HB1.out.cell (p := ⟨_, _, none⟩) (by simp <;> omega)]; simp [go_sem]
  have x12 : w1.cell? ⟨w.heap.size + 1, 0, none⟩ = some (.int .i64 bx) := by rw [HB1.out.cell (p := ⟨_, _, none⟩) (by simp <;> omega)]; simp [go_sem]
  have x13 : w1.cell? ⟨w.heap.size + 1, 1, none⟩ = some (.int .i64 by') := by rw [HB1.out.cell (p := ⟨_, _, none⟩) (by simp <;> omega)]; simp [go_sem]
  have x14 : w1.cell? ⟨w.heap.size + 1 + 1, 0, none⟩ = some (.int .i64 cx) := by rw [HB1.out.cell (p := ⟨_, _, none⟩) (by simp <;> omega)]; simp [go_sem]
  have x15 : w1.cell? ⟨w.heap.size + 1 + 1, 1, none⟩ = some (.int .i64 cy) := by rw [HB1.out.cell (p := ⟨_, _, none⟩) (by simp <;> omega)]; simp [go_sem]
  go_wp2_with fail
  (go_at_call 56; refine (inside_yes bx by' _ (by assumption)).mono ?_; rintro e w2 ⟨rfl, hb1⟩)
  have HB2 : Hid (Below (((w.alloc (.cells #[.int .i64 ax, .int .i64 ay] 43)).alloc (.cells #[.int .i64 bx, .int .i64 by'] 43)).alloc (.cells #[.int .i64 cx, .int .i64 cy] 43)).heap.size (((w.alloc (.cells #[.int .i64 ax, .int .i64 ay] 43)).alloc (.cells #[.int .i64 bx, .int .i64 by'] 43)).alloc (.cells #[.int .i64 cx, .int .i64 cy] 43)) w2) := HB1.out.trans (hb1.mono HB1.out.size)
  clear hb1
  have z2 : w.heap.size + 1 + 1 < w2.heap.size := by have := HB2.out.size; simp at this; omega
  have z2a : w.heap.size + 1 < w2.heap.size := by omega
  have z2b : w.heap.size < w2.heap.size := by omega
  have x20 : w2.cell? ⟨w.heap.size, 0, none⟩ = some (.int .i64 ax) := by rw [HB2.out.cell (p := ⟨_, _, none⟩) (by simp <;> omega)]; simp [go_sem]
  have x21 : w2.cell? ⟨w.heap.size, 1, none⟩ = some (.int .i64 ay) := by rw [HB2.out.cell (p := ⟨_, _, none⟩) (by simp <;> omega)]; simp [go_sem]
  have x22 : w2.cell? ⟨w.heap.size + 1, 0, none⟩ = some (.int .i64 bx) := by rw [HB2.out.cell (p := ⟨_, _, none⟩) (by simp <;> omega)]; simp [go_sem]
  have x23 : w2.cell? ⟨w.heap.size + 1, 1, none⟩ = some (.int .i64 by') := by rw [HB2.out.cell (p := ⟨_, _, none⟩) (by simp <;> omega)]; simp [go_sem]
  have x24 : w2.cell? ⟨w.heap.size + 1 + 1, 0, none⟩ = some (.int .i64 cx) := by rw [HB2.out.cell (p := ⟨_, _, none⟩) (by simp <;> omega)]; simp [go_sem]
  have x25 : w2.cell? ⟨w.heap.size + 1 + 1, 1, none⟩ = some (.int .i64 cy) := by rw [HB2.out.cell (p := ⟨_, _, none⟩) (by simp <;> omega)]; simp [go_sem]
  go_wp2_with fail
  (go_at_call 56; refine (inside_yes cx cy _ (by assumption)).mono ?_; rintro e w3 ⟨rfl, hb1⟩)
  have HB3 : Hid (Below (((w.alloc (.cells #[.int .i64 ax, .int .i64 ay] 43)).alloc (.cells #[.int .i64 bx, .int .i64 by'] 43)).alloc (.cells #[.int .i64 cx, .int .i64 cy] 43)).heap.size (((w.alloc (.cells #[.int .i64 ax, .int .i64 ay] 43)).alloc (.cells #[.int .i64 bx, .int .i64 by'] 43)).alloc (.cells #[.int .i64 cx, .int .i64 cy] 43)) w3) := HB2.out.trans (hb1.mono HB2.out.size)
  clear hb1
  have z3 : w.heap.size + 1 + 1 < w3.heap.size := by have := HB3.out.size; simp at this; omega
  have z3a : w.heap.size + 1 < w3.heap.size := by omega
  have z3b : w.heap.size < w3.heap.size := by omega
  have x30 : w3.cell? ⟨w.heap.size, 0, none⟩ = some (.int .i64 ax) := by rw [HB3.out.cell (p := ⟨_, _, none⟩) (by simp <;> omega)]; simp [go_sem]
  have x31 : w3.cell? ⟨w.heap.size, 1, none⟩ = some (.int .i64 ay) := by rw [HB3.out.cell (p := ⟨_, _, none⟩) (by simp <;> omega)]; simp [go_sem]
  have x32 : w3.cell? ⟨w.heap.size + 1, 0, none⟩ = some (.int .i64 bx) := by rw [HB3.out.cell (p := ⟨_, _, none⟩) (by simp <;> omega)]; simp [go_sem]
  have x33 : w3.cell? ⟨w.heap.size + 1, 1, none⟩ = some (.int .i64 by') := by rw [HB3.out.cell (p := ⟨_, _, none⟩) (by simp <;> omega)]; simp [go_sem]
  have x34 : w3.cell? ⟨w.heap.size + 1 + 1, 0, none⟩ = some (.int .i64 cx) := by rw [HB3.out.cell (p := ⟨_, _, none⟩) (by simp <;> omega)]; simp [go_sem]
  have x35 : w3.cell? ⟨w.heap.size + 1 + 1, 1, none⟩ = some (.int .i64 cy) := by rw [HB3.out.cell (p := ⟨_, _, none⟩) (by simp <;> omega)]; simp [go_sem]
  go_wp2
  go_returns
  exact ⟨rfl, below_step (w := w) (by go_grown) HB3.out⟩
set_option maxRecDepth 20000 in
set_option maxHeartbeats 4000000 in
theorem share_s1e (mass ax ay bx by' cx cy : Int) (w : World) (hm0 : 0 ≤ mass) (hm1 : mass ≤ 1099511627776) (ha : InP ax ay) (hb : InP bx by') (hc : InP cx cy) (g0 : mn ax bx ≤ cx) (g1 : mx ax bx < cx) (heq : decide ((ax, ay) = (bx, by')) = true) : Calls Tryd.prog 41 #[.int .i64 mass, .agg #[.int .i64 ax, .int .i64 ay], .agg #[.int .i64 bx, .int .i64 by'], .agg #[.int .i64 cx, .int .i64 cy]] w fun e w' => e = .returned (.tuple #[.int .i64 0, .int .i64 0, .int .i64 17]) ∧ Below w.heap.size w w' := by
  have HA := ha
  have HBB := hb
  have HCC := hc
  obtain ⟨a0, a1, a2, a3⟩ := HA
  obtain ⟨b0, b1, b2, b3⟩ := HBB
  obtain ⟨c0, c1, c2, c3⟩ := HCC
  obtain ⟨m0, m1⟩ := mul_in (x := bx - ax) (y := cy - ay) (B := 2097152) (C := 2097152) ⟨by omega, by omega⟩ ⟨by omega, by omega⟩
  obtain ⟨m2, m3⟩ := mul_in (x := by' - ay) (y := cx - ax) (B := 2097152) (C := 2097152) ⟨by omega, by omega⟩ ⟨by omega, by omega⟩
  simp only [Int.reduceMul, Int.reduceNeg] at m0 m1 m2 m3
  have hmx := run_mx
  have hmn := run_mn
  have hpt := fun W => eql_point ax ay bx by' W
  rw [heq] at hpt
  have kk : decide (cx ≤ mx ax bx) = false := decide_eq_false (by omega)
  go_enter Tryd.func41, Tryd.ntmps41
  go_wp2_with fail
  (go_at_call 56; refine (inside_yes ax ay _ (by assumption)).mono ?_; rintro e w1 ⟨rfl, hb1⟩)
  have HB1 : Hid (Below (((w.alloc (.cells #[.int .i64 ax, .int .i64 ay] 43)).alloc (.cells #[.int .i64 bx, .int .i64 by'] 43)).alloc (.cells #[.int .i64 cx, .int .i64 cy] 43)).heap.size (((w.alloc (.cells #[.int .i64 ax, .int .i64 ay] 43)).alloc (.cells #[.int .i64 bx, .int .i64 by'] 43)).alloc (.cells #[.int .i64 cx, .int .i64 cy] 43)) w1) := hb1
  clear hb1
  have z1 : w.heap.size + 1 + 1 < w1.heap.size := by have := HB1.out.size; simp at this; omega
  have z1a : w.heap.size + 1 < w1.heap.size := by omega
  have z1b : w.heap.size < w1.heap.size := by omega
  have x10 : w1.cell? ⟨w.heap.size, 0, none⟩ = some (.int .i64 ax) := by rw [HB1.out.cell (p := ⟨_, _, none⟩) (by simp <;> omega)]; simp [go_sem]
  have x11 : w1.cell? ⟨w.heap.size, 1, none⟩ = some (.int .i64 ay) := by rw [HB1.out.cell (p := ⟨_, _, none⟩) (by simp <;> omega)]; simp [go_sem]
  have x12 : w1.cell? ⟨w.heap.size + 1, 0, none⟩ = some (.int .i64 bx) := by rw [HB1.out.cell (p := ⟨_, _, none⟩) (by simp <;> omega)]; simp [go_sem]
  have x13 : w1.cell? ⟨w.heap.size + 1, 1, none⟩ = some (.int .i64 by') := by rw [HB1.out.cell (p := ⟨_, _, none⟩) (by simp <;> omega)]; simp [go_sem]
  have x14 : w1.cell? ⟨w.heap.size + 1 + 1, 0, none⟩ = some (.int .i64 cx) := by rw [HB1.out.cell (p := ⟨_, _, none⟩) (by simp <;> omega)]; simp [go_sem]
  have x15 : w1.cell? ⟨w.heap.size + 1 + 1, 1, none⟩ = some (.int .i64 cy) := by rw [HB1.out.cell (p := ⟨_, _, none⟩) (by simp <;> omega)]; simp [go_sem]
  go_wp2_with fail
  (go_at_call 56; refine (inside_yes bx by' _ (by assumption)).mono ?_; rintro e w2 ⟨rfl, hb1⟩)
  have HB2 : Hid (Below (((w.alloc (.cells #[.int .i64 ax, .int .i64 ay] 43)).alloc (.cells #[.int .i64 bx, .int .i64 by'] 43)).alloc (.cells #[.int .i64 cx, .int .i64 cy] 43)).heap.size (((w.alloc (.cells #[.int .i64 ax, .int .i64 ay] 43)).alloc (.cells #[.int .i64 bx, .int .i64 by'] 43)).alloc (.cells #[.int .i64 cx, .int .i64 cy] 43)) w2) := HB1.out.trans (hb1.mono HB1.out.size)
  clear hb1
  have z2 : w.heap.size + 1 + 1 < w2.heap.size := by have := HB2.out.size; simp at this; omega
  have z2a : w.heap.size + 1 < w2.heap.size := by omega
  have z2b : w.heap.size < w2.heap.size := by omega
  have x20 : w2.cell? ⟨w.heap.size, 0, none⟩ = some (.int .i64 ax) := by rw [HB2.out.cell (p := ⟨_, _, none⟩) (by simp <;> omega)]; simp [go_sem]
  have x21 : w2.cell? ⟨w.heap.size, 1, none⟩ = some (.int .i64 ay) := by rw [HB2.out.cell (p := ⟨_, _, none⟩) (by simp <;> omega)]; simp [go_sem]
  have x22 : w2.cell? ⟨w.heap.size + 1, 0, none⟩ = some (.int .i64 bx) := by rw [HB2.out.cell (p := ⟨_, _, none⟩) (by simp <;> omega)]; simp [go_sem]
  have x23 : w2.cell? ⟨w.heap.size + 1, 1, none⟩ = some (.int .i64 by') := by rw [HB2.out.cell (p := ⟨_, _, none⟩) (by simp <;> omega)]; simp [go_sem]
  have x24 : w2.cell? ⟨w.heap.size + 1 + 1, 0, none⟩ = some (.int .i64 cx) := by rw [HB2.out.cell (p := ⟨_, _, none⟩) (by simp <;> omega)]; simp [go_sem]
  have x25 : w2.cell? ⟨w.heap.size + 1 + 1, 1, none⟩ = some (.int .i64 cy) := by rw [HB2.out.cell (p := ⟨_, _, none⟩) (by simp <;> omega)]; simp [go_sem]
  go_wp2_with fail
  (go_at_call 56; refine (inside_yes cx cy _ (by assumption)).mono ?_; rintro e w3 ⟨rfl, hb1⟩)
  have HB3 : Hid (Below (((w.alloc (.cells #[.int .i64 ax, .int .i64 ay] 43)).alloc (.cells #[.int .i64 bx, .int .i64 by'] 43)).alloc (.cells #[.int .i64 cx, .int .i64 cy] 43)).heap.size (((w.alloc (.cells #[.int .i64 ax, .int .i64 ay] 43)).alloc (.cells #[.int .i64 bx, .int .i64 by'] 43)).alloc (.cells #[.int .i64 cx, .int .i64 cy] 43)) w3) := HB2.out.trans (hb1.mono HB2.out.size)
  clear hb1
  have z3 : w.heap.size + 1 + 1 < w3.heap.size := by have := HB3.out.size; simp at this; omega
  have z3a : w.heap.size + 1 < w3.heap.size := by omega
  have z3b : w.heap.size < w3.heap.size := by omega
  have x30 : w3.cell? ⟨w.heap.size, 0, none⟩ = some (.int .i64 ax) := by rw [HB3.out.cell (p := ⟨_, _, none⟩) (by simp <;> omega)]; simp [go_sem]
  have x31 : w3.cell? ⟨w.heap.size, 1, none⟩ = some (.int .i64 ay) := by rw [HB3.out.cell (p := ⟨_, _, none⟩) (by simp <;> omega)]; simp [go_sem]
  have x32 : w3.cell? ⟨w.heap.size + 1, 0, none⟩ = some (.int .i64 bx) := by rw [HB3.out.cell (p := ⟨_, _, none⟩) (by simp <;> omega)]; simp [go_sem]
  have x33 : w3.cell? ⟨w.heap.size + 1, 1, none⟩ = some (.int .i64 by') := by rw [HB3.out.cell (p := ⟨_, _, none⟩) (by simp <;> omega)]; simp [go_sem]
  have x34 : w3.cell? ⟨w.heap.size + 1 + 1, 0, none⟩ = some (.int .i64 cx) := by rw [HB3.out.cell (p := ⟨_, _, none⟩) (by simp <;> omega)]; simp [go_sem]
  have x35 : w3.cell? ⟨w.heap.size + 1 + 1, 1, none⟩ = some (.int .i64 cy) := by rw [HB3.out.cell (p := ⟨_, _, none⟩) (by simp <;> omega)]; simp [go_sem]
  go_wp2
  go_returns
  exact ⟨rfl, below_step (w := w) (by go_grown) HB3.out⟩
set_option maxRecDepth 20000 in
set_option maxHeartbeats 4000000 in
theorem share_s1n (mass ax ay bx by' cx cy : Int) (w : World) (hm0 : 0 ≤ mass) (hm1 : mass ≤ 1099511627776) (ha : InP ax ay) (hb : InP bx by') (hc : InP cx cy) (g0 : mn ax bx ≤ cx) (g1 : mx ax bx < cx) (heq : decide ((ax, ay) = (bx, by')) = false) : Calls Tryd.prog 41 #[.int .i64 mass, .agg #[.int .i64 ax, .int .i64 ay], .agg #[.int .i64 bx, .int .i64 by'], .agg #[.int .i64 cx, .int .i64 cy]] w fun e w' => e = .returned (.tuple #[.int .i64 0, .int .i64 0, .int .i64 17]) ∧ Below w.heap.size w w' := by
  have HA := ha
  have HBB := hb
  have HCC := hc
  obtain ⟨a0, a1, a2, a3⟩ := HA
  obtain ⟨b0, b1, b2, b3⟩ := HBB
  obtain ⟨c0, c1, c2, c3⟩ := HCC
  obtain ⟨m0, m1⟩ := mul_in (x := bx - ax) (y := cy - ay) (B := 2097152) (C := 2097152) ⟨by omega, by omega⟩ ⟨by omega, by omega⟩
  obtain ⟨m2, m3⟩ := mul_in (x := by' - ay) (y := cx - ax) (B := 2097152) (C := 2097152) ⟨by omega, by omega⟩ ⟨by omega, by omega⟩
  simp only [Int.reduceMul, Int.reduceNeg] at m0 m1 m2 m3
  have hmx := run_mx
  have hmn := run_mn
  have hpt := fun W => eql_point ax ay bx by' W
  rw [heq] at hpt
  have kk : decide (cx ≤ mx ax bx) = false := decide_eq_false (by omega)
  go_enter Tryd.func41, Tryd.ntmps41
  go_wp2_with fail
  (go_at_call 56; refine (inside_yes ax ay _ (by assumption)).mono ?_; rintro e w1 ⟨rfl, hb1⟩)
  have HB1 : Hid (Below (((w.alloc (.cells #[.int .i64 ax, .int .i64 ay] 43)).alloc (.cells #[.int .i64 bx, .int .i64 by'] 43)).alloc (.cells #[.int .i64 cx, .int .i64 cy] 43)).heap.size (((w.alloc (.cells #[.int .i64 ax, .int .i64 ay] 43)).alloc (.cells #[.int .i64 bx, .int .i64 by'] 43)).alloc (.cells #[.int .i64 cx, .int .i64 cy] 43)) w1) := hb1
  clear hb1
  have z1 : w.heap.size + 1 + 1 < w1.heap.size := by have := HB1.out.size; simp at this; omega
  have z1a : w.heap.size + 1 < w1.heap.size := by omega
  have z1b : w.heap.size < w1.heap.size := by omega
  have x10 : w1.cell? ⟨w.heap.size, 0, none⟩ = some (.int .i64 ax) := by rw [HB1.out.cell (p := ⟨_, _, none⟩) (by simp <;> omega)]; simp [go_sem]
  have x11 : w1.cell? ⟨w.heap.size, 1, none⟩ = some (.int .i64 ay) := by rw [HB1.out.cell (p := ⟨_, _, none⟩) (by simp <;> omega)]; simp [go_sem]
  have x12 : w1.cell? ⟨w.heap.size + 1, 0, none⟩ = some (.int .i64 bx) := by rw [HB1.out.cell (p := ⟨_, _, none⟩) (by simp <;> omega)]; simp [go_sem]
  have x13 : w1.cell? ⟨w.heap.size + 1, 1, none⟩ = some (.int .i64 by') := by rw [HB1.out.cell (p := ⟨_, _, none⟩) (by simp <;> omega)]; simp [go_sem]
  have x14 : w1.cell? ⟨w.heap.size + 1 + 1, 0, none⟩ = some (.int .i64 cx) := by rw [HB1.out.cell (p := ⟨_, _, none⟩) (by simp <;> omega)]; simp [go_sem]
  have x15 : w1.cell? ⟨w.heap.size + 1 + 1, 1, none⟩ = some (.int .i64 cy) := by rw [HB1.out.cell (p := ⟨_, _, none⟩) (by simp <;> omega)]; simp [go_sem]
  go_wp2_with fail
  (go_at_call 56; refine (inside_yes bx by' _ (by assumption)).mono ?_; rintro e w2 ⟨rfl, hb1⟩)
  have HB2 : Hid (Below (((w.alloc (.cells #[.int .i64 ax, .int .i64 ay] 43)).alloc (.cells #[.int .i64 bx, .int .i64 by'] 43)).alloc (.cells #[.int .i64 cx, .int .i64 cy] 43)).heap.size (((w.alloc (.cells #[.int .i64 ax, .int .i64 ay] 43)).alloc (.cells #[.int .i64 bx, .int .i64 by'] 43)).alloc (.cells #[.int .i64 cx, .int .i64 cy] 43)) w2) := HB1.out.trans (hb1.mono HB1.out.size)
  clear hb1
  have z2 : w.heap.size + 1 + 1 < w2.heap.size := by have := HB2.out.size; simp at this; omega
  have z2a : w.heap.size + 1 < w2.heap.size := by omega
  have z2b : w.heap.size < w2.heap.size := by omega
  have x20 : w2.cell? ⟨w.heap.size, 0, none⟩ = some (.int .i64 ax) := by rw [HB2.out.cell (p := ⟨_, _, none⟩) (by simp <;> omega)]; simp [go_sem]
  have x21 : w2.cell? ⟨w.heap.size, 1, none⟩ = some (.int .i64 ay) := by rw [HB2.out.cell (p := ⟨_, _, none⟩) (by simp <;> omega)]; simp [go_sem]
  have x22 : w2.cell? ⟨w.heap.size + 1, 0, none⟩ = some (.int .i64 bx) := by rw [HB2.out.cell (p := ⟨_, _, none⟩) (by simp <;> omega)]; simp [go_sem]
  have x23 : w2.cell? ⟨w.heap.size + 1, 1, none⟩ = some (.int .i64 by') := by rw [HB2.out.cell (p := ⟨_, _, none⟩) (by simp <;> omega)]; simp [go_sem]
  have x24 : w2.cell? ⟨w.heap.size + 1 + 1, 0, none⟩ = some (.int .i64 cx) := by rw [HB2.out.cell (p := ⟨_, _, none⟩) (by simp <;> omega)]; simp [go_sem]
  have x25 : w2.cell? ⟨w.heap.size + 1 + 1, 1, none⟩ = some (.int .i64 cy) := by rw [HB2.out.cell (p := ⟨_, _, none⟩) (by simp <;> omega)]; simp [go_sem]
  go_wp2_with fail
  (go_at_call 56; refine (inside_yes cx cy _ (by assumption)).mono ?_; rintro e w3 ⟨rfl, hb1⟩)
  have HB3 : Hid (Below (((w.alloc (.cells #[.int .i64 ax, .int .i64 ay] 43)).alloc (.cells #[.int .i64 bx, .int .i64 by'] 43)).alloc (.cells #[.int .i64 cx, .int .i64 cy] 43)).heap.size (((w.alloc (.cells #[.int .i64 ax, .int .i64 ay] 43)).alloc (.cells #[.int .i64 bx, .int .i64 by'] 43)).alloc (.cells #[.int .i64 cx, .int .i64 cy] 43)) w3) := HB2.out.trans (hb1.mono HB2.out.size)
  clear hb1
  have z3 : w.heap.size + 1 + 1 < w3.heap.size := by have := HB3.out.size; simp at this; omega
  have z3a : w.heap.size + 1 < w3.heap.size := by omega
  have z3b : w.heap.size < w3.heap.size := by omega
  have x30 : w3.cell? ⟨w.heap.size, 0, none⟩ = some (.int .i64 ax) := by rw [HB3.out.cell (p := ⟨_, _, none⟩) (by simp <;> omega)]; simp [go_sem]
  have x31 : w3.cell? ⟨w.heap.size, 1, none⟩ = some (.int .i64 ay) := by rw [HB3.out.cell (p := ⟨_, _, none⟩) (by simp <;> omega)]; simp [go_sem]
  have x32 : w3.cell? ⟨w.heap.size + 1, 0, none⟩ = some (.int .i64 bx) := by rw [HB3.out.cell (p := ⟨_, _, none⟩) (by simp <;> omega)]; simp [go_sem]
  have x33 : w3.cell? ⟨w.heap.size + 1, 1, none⟩ = some (.int .i64 by') := by rw [HB3.out.cell (p := ⟨_, _, none⟩) (by simp <;> omega)]; simp [go_sem]
  have x34 : w3.cell? ⟨w.heap.size + 1 + 1, 0, none⟩ = some (.int .i64 cx) := by rw [HB3.out.cell (p := ⟨_, _, none⟩) (by simp <;> omega)]; simp [go_sem]
  have x35 : w3.cell? ⟨w.heap.size + 1 + 1, 1, none⟩ = some (.int .i64 cy) := by rw [HB3.out.cell (p := ⟨_, _, none⟩) (by simp <;> omega)]; simp [go_sem]
  go_wp2
  go_returns
  exact ⟨rfl, below_step (w := w) (by go_grown) HB3.out⟩
set_option maxRecDepth 20000 in
set_option maxHeartbeats 4000000 in
theorem share_s2e (mass ax ay bx by' cx cy : Int) (w : World) (hm0 : 0 ≤ mass) (hm1 : mass ≤ 1099511627776) (ha : InP ax ay) (hb : InP bx by') (hc : InP cx cy) (g0 : mn ax bx ≤ cx) (g1 : cx ≤ mx ax bx) (g2 : cy < mn ay by') (heq : decide ((ax, ay) = (bx, by')) = true) : Calls Tryd.prog 41 #[.int .i64 mass, .agg #[.int .i64 ax, .int .i64 ay], .agg #[.int .i64 bx, .int .i64 by'], .agg #[.int .i64 cx, .int .i64 cy]] w fun e w' => e = .returned (.tuple #[.int .i64 0, .int .i64 0, .int .i64 17]) ∧ Below w.heap.size w w' := by
  have HA := ha
  have HBB := hb
  have HCC := hc
  obtain ⟨a0, a1, a2, a3⟩ := HA
  obtain ⟨b0, b1, b2, b3⟩ := HBB
  obtain ⟨c0, c1, c2, c3⟩ := HCC
  obtain ⟨m0, m1⟩ := mul_in (x := bx - ax) (y := cy - ay) (B := 2097152) (C := 2097152) ⟨by omega, by omega⟩ ⟨by omega, by omega⟩
  obtain ⟨m2, m3⟩ := mul_in (x := by' - ay) (y := cx - ax) (B := 2097152) (C := 2097152) ⟨by omega, by omega⟩ ⟨by omega, by omega⟩
  simp only [Int.reduceMul, Int.reduceNeg] at m0 m1 m2 m3
  have hmx := run_mx
  have hmn := run_mn
  have hpt := fun W => eql_point ax ay bx by' W
  rw [heq] at hpt
  have kk : decide (mn ay by' ≤ cy) = false := decide_eq_false (by omega)
  go_enter Tryd.func41, Tryd.ntmps41
  go_wp2_with fail
  (go_at_call 56; refine (inside_yes ax ay _ (by assumption)).mono ?_; rintro e w1 ⟨rfl, hb1⟩)
  have HB1 : Hid (Below (((w.alloc (.cells #[.int .i64 ax, .int .i64 ay] 43)).alloc (.cells #[.int .i64 bx, .int .i64 by'] 43)).alloc (.cells #[.int .i64 cx, .int .i64 cy] 43)).heap.size (((w.alloc (.cells #[.int .i64 ax, .int .i64 ay] 43)).alloc (.cells #[.int .i64 bx, .int .i64 by'] 43)).alloc (.cells #[.int .i64 cx, .int .i64 cy] 43)) w1) := hb1
  clear hb1
  have z1 : w.heap.size + 1 + 1 < w1.heap.size := by have := HB1.out.size; simp at this; omega
  have z1a : w.heap.size + 1 < w1.heap.size := by omega
  have z1b : w.heap.size < w1.heap.size := by omega
  have x10 : w1.cell? ⟨w.heap.size, 0, none⟩ = some (.int .i64 ax) := by rw [HB1.out.cell (p := ⟨_, _, none⟩) (by simp <;> omega)]; simp [go_sem]
  have x11 : w1.cell? ⟨w.heap.size, 1, none⟩ = some (.int .i64 ay) := by rw [HB1.out.cell (p := ⟨_, _, none⟩) (by simp <;> omega)]; simp [go_sem]
  have x12 : w1.cell? ⟨w.heap.size + 1, 0, none⟩ = some (.int .i64 bx) := by rw [HB1.out.cell (p := ⟨_, _, none⟩) (by simp <;> omega)]; simp [go_sem]
  have x13 : w1.cell? ⟨w.heap.size + 1, 1, none⟩ = some (.int .i64 by') := by rw [HB1.out.cell (p := ⟨_, _, none⟩) (by simp <;> omega)]; simp [go_sem]
  have x14 : w1.cell? ⟨w.heap.size + 1 + 1, 0, none⟩ = some (.int .i64 cx) := by rw [HB1.out.cell (p := ⟨_, _, none⟩) (by simp <;> omega)]; simp [go_sem]
  have x15 : w1.cell? ⟨w.heap.size + 1 + 1, 1, none⟩ = some (.int .i64 cy) := by rw [HB1.out.cell (p := ⟨_, _, none⟩) (by simp <;> omega)]; simp [go_sem]
  go_wp2_with fail
  (go_at_call 56; refine (inside_yes bx by' _ (by assumption)).mono ?_; rintro e w2 ⟨rfl, hb1⟩)
  have HB2 : Hid (Below (((w.alloc (.cells #[.int .i64 ax, .int .i64 ay] 43)).alloc (.cells #[.int .i64 bx, .int .i64 by'] 43)).alloc (.cells #[.int .i64 cx, .int .i64 cy] 43)).heap.size (((w.alloc (.cells #[.int .i64 ax, .int .i64 ay] 43)).alloc (.cells #[.int .i64 bx, .int .i64 by'] 43)).alloc (.cells #[.int .i64 cx, .int .i64 cy] 43)) w2) := HB1.out.trans (hb1.mono HB1.out.size)
  clear hb1
  have z2 : w.heap.size + 1 + 1 < w2.heap.size := by have := HB2.out.size; simp at this; omega
  have z2a : w.heap.size + 1 < w2.heap.size := by omega
  have z2b : w.heap.size < w2.heap.size := by omega
  have x20 : w2.cell? ⟨w.heap.size, 0, none⟩ = some (.int .i64 ax) := by rw [HB2.out.cell (p := ⟨_, _, none⟩) (by simp <;> omega)]; simp [go_sem]
  have x21 : w2.cell? ⟨w.heap.size, 1, none⟩ = some (.int .i64 ay) := by rw [HB2.out.cell (p := ⟨_, _, none⟩) (by simp <;> omega)]; simp [go_sem]
  have x22 : w2.cell? ⟨w.heap.size + 1, 0, none⟩ = some (.int .i64 bx) := by rw [HB2.out.cell (p := ⟨_, _, none⟩) (by simp <;> omega)]; simp [go_sem]
  have x23 : w2.cell? ⟨w.heap.size + 1, 1, none⟩ = some (.int .i64 by') := by rw [HB2.out.cell (p := ⟨_, _, none⟩) (by simp <;> omega)]; simp [go_sem]
  have x24 : w2.cell? ⟨w.heap.size + 1 + 1, 0, none⟩ = some (.int .i64 cx) := by rw [HB2.out.cell (p := ⟨_, _, none⟩) (by simp <;> omega)]; simp [go_sem]
  have x25 : w2.cell? ⟨w.heap.size + 1 + 1, 1, none⟩ = some (.int .i64 cy) := by rw [HB2.out.cell (p := ⟨_, _, none⟩) (by simp <;> omega)]; simp [go_sem]
  go_wp2_with fail
  (go_at_call 56; refine (inside_yes cx cy _ (by assumption)).mono ?_; rintro e w3 ⟨rfl, hb1⟩)
  have HB3 : Hid (Below (((w.alloc (.cells #[.int .i64 ax, .int .i64 ay] 43)).alloc (.cells #[.int .i64 bx, .int .i64 by'] 43)).alloc (.cells #[.int .i64 cx, .int .i64 cy] 43)).heap.size (((w.alloc (.cells #[.int .i64 ax, .int .i64 ay] 43)).alloc (.cells #[.int .i64 bx, .int .i64 by'] 43)).alloc (.cells #[.int .i64 cx, .int .i64 cy] 43)) w3) := HB2.out.trans (hb1.mono HB2.out.size)
  clear hb1
  have z3 : w.heap.size + 1 + 1 < w3.heap.size := by have := HB3.out.size; simp at this; omega
  have z3a : w.heap.size + 1 < w3.heap.size := by omega
  have z3b : w.heap.size < w3.heap.size := by omega
  have x30 : w3.cell? ⟨w.heap.size, 0, none⟩ = some (.int .i64 ax) := by rw [HB3.out.cell (p := ⟨_, _, none⟩) (by simp <;> omega)]; simp [go_sem]
  have x31 : w3.cell? ⟨w.heap.size, 1, none⟩ = some (.int .i64 ay) := by rw [HB3.out.cell (p := ⟨_, _, none⟩) (by simp <;> omega)]; simp [go_sem]
  have x32 : w3.cell? ⟨w.heap.size + 1, 0, none⟩ = some (.int .i64 bx) := by rw [HB3.out.cell (p := ⟨_, _, none⟩) (by simp <;> omega)]; simp [go_sem]
  have x33 : w3.cell? ⟨w.heap.size + 1, 1, none⟩ = some (.int .i64 by') := by rw [HB3.out.cell (p := ⟨_, _, none⟩) (by simp <;> omega)]; simp [go_sem]
  have x34 : w3.cell? ⟨w.heap.size + 1 + 1, 0, none⟩ = some (.int .i64 cx) := by rw [HB3.out.cell (p := ⟨_, _, none⟩) (by simp <;> omega)]; simp [go_sem]
  have x35 : w3.cell? ⟨w.heap.size + 1 + 1, 1, none⟩ = some (.int .i64 cy) := by rw [HB3.out.cell (p := ⟨_, _, none⟩) (by simp <;> omega)]; simp [go_sem]
  go_wp2
  go_returns
  exact ⟨rfl, below_step (w := w) (by go_grown) HB3.out⟩
set_option maxRecDepth 20000 in
set_option maxHeartbeats 4000000 in
theorem share_s2n (mass ax ay bx by' cx cy : Int) (w : World) (hm0 : 0 ≤ mass) (hm1 : mass ≤ 1099511627776) (ha : InP ax ay) (hb : InP bx by') (hc : InP cx cy) (g0 : mn ax bx ≤ cx) (g1 : cx ≤ mx ax bx) (g2 : cy < mn ay by') (heq : decide ((ax, ay) = (bx, by')) = false) : Calls Tryd.prog 41 #[.int .i64 mass, .agg #[.int .i64 ax, .int .i64 ay], .agg #[.int .i64 bx, .int .i64 by'], .agg #[.int .i64 cx, .int .i64 cy]] w fun e w' => e = .returned (.tuple #[.int .i64 0, .int .i64 0, .int .i64 17]) ∧ Below w.heap.size w w' := by
  have HA := ha
  have HBB := hb
  have HCC := hc
  obtain ⟨a0, a1, a2, a3⟩ := HA
  obtain ⟨b0, b1, b2, b3⟩ := HBB
  obtain ⟨c0, c1, c2, c3⟩ := HCC
  obtain ⟨m0, m1⟩ := mul_in (x := bx - ax) (y := cy - ay) (B := 2097152) (C := 2097152) ⟨by omega, by omega⟩ ⟨by omega, by omega⟩
  obtain ⟨m2, m3⟩ := mul_in (x := by' - ay) (y := cx - ax) (B := 2097152) (C := 2097152) ⟨by omega, by omega⟩ ⟨by omega, by omega⟩
  simp only [Int.reduceMul, Int.reduceNeg] at m0 m1 m2 m3
  have hmx := run_mx
  have hmn := run_mn
  have hpt := fun W => eql_point ax ay bx by' W
  rw [heq] at hpt
  have kk : decide (mn ay by' ≤ cy) = false := decide_eq_false (by omega)
  go_enter Tryd.func41, Tryd.ntmps41
  go_wp2_with fail
  (go_at_call 56; refine (inside_yes ax ay _ (by assumption)).mono ?_; rintro e w1 ⟨rfl, hb1⟩)
  have HB1 : Hid (Below (((w.alloc (.cells #[.int .i64 ax, .int .i64 ay] 43)).alloc (.cells #[.int .i64 bx, .int .i64 by'] 43)).alloc (.cells #[.int .i64 cx, .int .i64 cy] 43)).heap.size (((w.alloc (.cells #[.int .i64 ax, .int .i64 ay] 43)).alloc (.cells #[.int .i64 bx, .int .i64 by'] 43)).alloc (.cells #[.int .i64 cx, .int .i64 cy] 43)) w1) := hb1
  clear hb1
  have z1 : w.heap.size + 1 + 1 < w1.heap.size := by have := HB1.out.size; simp at this; omega
  have z1a : w.heap.size + 1 < w1.heap.size := by omega
  have z1b : w.heap.size < w1.heap.size := by omega
  have x10 : w1.cell? ⟨w.heap.size, 0, none⟩ = some (.int .i64 ax) := by rw [HB1.out.cell (p := ⟨_, _, none⟩) (by simp <;> omega)]; simp [go_sem]
  have x11 : w1.cell? ⟨w.heap.size, 1, none⟩ = some (.int .i64 ay) := by rw [HB1.out.cell (p := ⟨_, _, none⟩) (by simp <;> omega)]; simp [go_sem]
  have x12 : w1.cell? ⟨w.heap.size + 1, 0, none⟩ = some (.int .i64 bx) := by rw [HB1.out.cell (p := ⟨_, _, none⟩) (by simp <;> omega)]; simp [go_sem]
  have x13 : w1.cell? ⟨w.heap.size + 1, 1, none⟩ = some (.int .i64 by') := by rw [HB1.out.cell (p := ⟨_, _, none⟩) (by simp <;> omega)]; simp [go_sem]
  have x14 : w1.cell? ⟨w.heap.size + 1 + 1, 0, none⟩ = some (.int .i64 cx) := by rw [HB1.out.cell (p := ⟨_, _, none⟩) (by simp <;> omega)]; simp [go_sem]
  have x15 : w1.cell? ⟨w.heap.size + 1 + 1, 1, none⟩ = some (.int .i64 cy) := by rw [HB1.out.cell (p := ⟨_, _, none⟩) (by simp <;> omega)]; simp [go_sem]
  go_wp2_with fail
  (go_at_call 56; refine (inside_yes bx by' _ (by assumption)).mono ?_; rintro e w2 ⟨rfl, hb1⟩)
  have HB2 : Hid (Below (((w.alloc (.cells #[.int .i64 ax, .int .i64 ay] 43)).alloc (.cells #[.int .i64 bx, .int .i64 by'] 43)).alloc (.cells #[.int .i64 cx, .int .i64 cy] 43)).heap.size (((w.alloc (.cells #[.int .i64 ax, .int .i64 ay] 43)).alloc (.cells #[.int .i64 bx, .int .i64 by'] 43)).alloc (.cells #[.int .i64 cx, .int .i64 cy] 43)) w2) := HB1.out.trans (hb1.mono HB1.out.size)
  clear hb1
  have z2 : w.heap.size + 1 + 1 < w2.heap.size := by have := HB2.out.size; simp at this; omega
  have z2a : w.heap.size + 1 < w2.heap.size := by omega
  have z2b : w.heap.size < w2.heap.size := by omega
  have x20 : w2.cell? ⟨w.heap.size, 0, none⟩ = some (.int .i64 ax) := by rw [HB2.out.cell (p := ⟨_, _, none⟩) (by simp <;> omega)]; simp [go_sem]
  have x21 : w2.cell? ⟨w.heap.size, 1, none⟩ = some (.int .i64 ay) := by rw [HB2.out.cell (p := ⟨_, _, none⟩) (by simp <;> omega)]; simp [go_sem]
  have x22 : w2.cell? ⟨w.heap.size + 1, 0, none⟩ = some (.int .i64 bx) := by rw [HB2.out.cell (p := ⟨_, _, none⟩) (by simp <;> omega)]; simp [go_sem]
  have x23 : w2.cell? ⟨w.heap.size + 1, 1, none⟩ = some (.int .i64 by') := by rw [HB2.out.cell (p := ⟨_, _, none⟩) (by simp <;> omega)]; simp [go_sem]
  have x24 : w2.cell? ⟨w.heap.size + 1 + 1, 0, none⟩ = some (.int .i64 cx) := by rw [HB2.out.cell (p := ⟨_, _, none⟩) (by simp <;> omega)]; simp [go_sem]
  have x25 : w2.cell? ⟨w.heap.size + 1 + 1, 1, none⟩ = some (.int .i64 cy) := by rw [HB2.out.cell (p := ⟨_, _, none⟩) (by simp <;> omega)]; simp [go_sem]
  go_wp2_with fail
  (go_at_call 56; refine (inside_yes cx cy _ (by assumption)).mono ?_; rintro e w3 ⟨rfl, hb1⟩)
  have HB3 : Hid (Below (((w.alloc (.cells #[.int .i64 ax, .int .i64 ay] 43)).alloc (.cells #[.int .i64 bx, .int .i64 by'] 43)).alloc (.cells #[.int .i64 cx, .int .i64 cy] 43)).heap.size (((w.alloc (.cells #[.int .i64 ax, .int .i64 ay] 43)).alloc (.cells #[.int .i64 bx, .int .i64 by'] 43)).alloc (.cells #[.int .i64 cx, .int .i64 cy] 43)) w3) := HB2.out.trans (hb1.mono HB2.out.size)
  clear hb1
  have z3 : w.heap.size + 1 + 1 < w3.heap.size := by have := HB3.out.size; simp at this; omega
  have z3a : w.heap.size + 1 < w3.heap.size := by omega
  have z3b : w.heap.size < w3.heap.size := by omega
  have x30 : w3.cell? ⟨w.heap.size, 0, none⟩ = some (.int .i64 ax) := by rw [HB3.out.cell (p := ⟨_, _, none⟩) (by simp <;> omega)]; simp [go_sem]
  have x31 : w3.cell? ⟨w.heap.size, 1, none⟩ = some (.int .i64 ay) := by rw [HB3.out.cell (p := ⟨_, _, none⟩) (by simp <;> omega)]; simp [go_sem]
  have x32 : w3.cell? ⟨w.heap.size + 1, 0, none⟩ = some (.int .i64 bx) := by rw [HB3.out.cell (p := ⟨_, _, none⟩) (by simp <;> omega)]; simp [go_sem]
  have x33 : w3.cell? ⟨w.heap.size + 1, 1, none⟩ = some (.int .i64 by') := by rw [HB3.out.cell (p := ⟨_, _, none⟩) (by simp <;> omega)]; simp [go_sem]
  have x34 : w3.cell? ⟨w.heap.size + 1 + 1, 0, none⟩ = some (.int .i64 cx) := by rw [HB3.out.cell (p := ⟨_, _, none⟩) (by simp <;> omega)]; simp [go_sem]
  have x35 : w3.cell? ⟨w.heap.size + 1 + 1, 1, none⟩ = some (.int .i64 cy) := by rw [HB3.out.cell (p := ⟨_, _, none⟩) (by simp <;> omega)]; simp [go_sem]
  go_wp2
  go_returns
  exact ⟨rfl, below_step (w := w) (by go_grown) HB3.out⟩
set_option maxRecDepth 20000 in
set_option maxHeartbeats 4000000 in
theorem share_s3e (mass ax ay bx by' cx cy : Int) (w : World) (hm0 : 0 ≤ mass) (hm1 : mass ≤ 1099511627776) (ha : InP ax ay) (hb : InP bx by') (hc : InP cx cy) (g0 : mn ax bx ≤ cx) (g1 : cx ≤ mx ax bx) (g2 : mn ay by' ≤ cy) (g3 : mx ay by' < cy) (heq : decide ((ax, ay) = (bx, by')) = true) : Calls Tryd.prog 41 #[.int .i64 mass, .agg #[.int .i64 ax, .int .i64 ay], .agg #[.int .i64 bx, .int .i64 by'], .agg #[.int .i64 cx, .int .i64 cy]] w fun e w' => e = .returned (.tuple #[.int .i64 0, .int .i64 0, .int .i64 17]) ∧ Below w.heap.size w w' := by
  have HA := ha
  have HBB := hb
  have HCC := hc
  obtain ⟨a0, a1, a2, a3⟩ := HA
  obtain ⟨b0, b1, b2, b3⟩ := HBB
  obtain ⟨c0, c1, c2, c3⟩ := HCC
  obtain ⟨m0, m1⟩ := mul_in (x := bx - ax) (y := cy - ay) (B := 2097152) (C := 2097152) ⟨by omega, by omega⟩ ⟨by omega, by omega⟩
  obtain ⟨m2, m3⟩ := mul_in (x := by' - ay) (y := cx - ax) (B := 2097152) (C := 2097152) ⟨by omega, by omega⟩ ⟨by omega, by omega⟩
  simp only [Int.reduceMul, Int.reduceNeg] at m0 m1 m2 m3
  have hmx := run_mx
  have hmn := run_mn
  have hpt := fun W => eql_point ax ay bx by' W
  rw [heq] at hpt
  have kk : decide (cy ≤ mx ay by') = false := decide_eq_false (by omega)
  go_enter Tryd.func41, Tryd.ntmps41
  go_wp2_with fail
  (go_at_call 56; refine (inside_yes ax ay _ (by assumption)).mono ?_; rintro e w1 ⟨rfl, hb1⟩)
  have HB1 : Hid (Below (((w.alloc (.cells #[.int .i64 ax, .int .i64 ay] 43)).alloc (.cells #[.int .i64 bx, .int .i64 by'] 43)).alloc (.cells #[.int .i64 cx, .int .i64 cy] 43)).heap.size (((w.alloc (.cells #[.int .i64 ax, .int .i64 ay] 43)).alloc (.cells #[.int .i64 bx, .int .i64 by'] 43)).alloc (.cells #[.int .i64 cx, .int .i64 cy] 43)) w1) := hb1
  clear hb1
  have z1 : w.heap.size + 1 + 1 < w1.heap.size := by have := HB1.out.size; simp at this; omega
  have z1a : w.heap.size + 1 < w1.heap.size := by omega
  have z1b : w.heap.size < w1.heap.size := by omega
  have x10 : w1.cell? ⟨w.heap.size, 0, none⟩ = some (.int .i64 ax) := by rw [HB1.out.cell (p := ⟨_, _, none⟩) (by simp <;> omega)]; simp [go_sem]
  have x11 : w1.cell? ⟨w.heap.size, 1, none⟩ = some (.int .i64 ay) := by rw [HB1.out.cell (p := ⟨_, _, none⟩) (by simp <;> omega)]; simp [go_sem]
  have x12 : w1.cell? ⟨w.heap.size + 1, 0, none⟩ = some (.int .i64 bx) := by rw [HB1.out.cell (p := ⟨_, _, none⟩) (by simp <;> omega)]; simp [go_sem]
  have x13 : w1.cell? ⟨w.heap.size + 1, 1, none⟩ = some (.int .i64 by') := by rw [HB1.out.cell (p := ⟨_, _, none⟩) (by simp <;> omega)]; simp [go_sem]
  have x14 : w1.cell? ⟨w.heap.size + 1 + 1, 0, none⟩ = some (.int .i64 cx) := by rw [HB1.out.cell (p := ⟨_, _, none⟩) (by simp <;> omega)]; simp [go_sem]
  have x15 : w1.cell? ⟨w.heap.size + 1 + 1, 1, none⟩ = some (.int .i64 cy) := by rw [HB1.out.cell (p := ⟨_, _, none⟩) (by simp <;> omega)]; simp [go_sem]
  go_wp2_with fail
  (go_at_call 56; refine (inside_yes bx by' _ (by assumption)).mono ?_; rintro e w2 ⟨rfl, hb1⟩)
  have HB2 : Hid (Below (((w.alloc (.cells #[.int .i64 ax, .int .i64 ay] 43)).alloc (.cells #[.int .i64 bx, .int .i64 by'] 43)).alloc (.cells #[.int .i64 cx, .int .i64 cy] 43)).heap.size (((w.alloc (.cells #[.int .i64 ax, .int .i64 ay] 43)).alloc (.cells #[.int .i64 bx, .int .i64 by'] 43)).alloc (.cells #[.int .i64 cx, .int .i64 cy] 43)) w2) := HB1.out.trans (hb1.mono HB1.out.size)
  clear hb1
  have z2 : w.heap.size + 1 + 1 < w2.heap.size := by have := HB2.out.size; simp at this; omega
  have z2a : w.heap.size + 1 < w2.heap.size := by omega
  have z2b : w.heap.size < w2.heap.size := by omega
  have x20 : w2.cell? ⟨w.heap.size, 0, none⟩ = some (.int .i64 ax) := by rw [HB2.out.cell (p := ⟨_, _, none⟩) (by simp <;> omega)]; simp [go_sem]
  have x21 : w2.cell? ⟨w.heap.size, 1, none⟩ = some (.int .i64 ay) := by rw [HB2.out.cell (p := ⟨_, _, none⟩) (by simp <;> omega)]; simp [go_sem]
  have x22 : w2.cell? ⟨w.heap.size + 1, 0, none⟩ = some (.int .i64 bx) := by rw [HB2.out.cell (p := ⟨_, _, none⟩) (by simp <;> omega)]; simp [go_sem]
  have x23 : w2.cell? ⟨w.heap.size + 1, 1, none⟩ = some (.int .i64 by') := by rw [HB2.out.cell (p := ⟨_, _, none⟩) (by simp <;> omega)]; simp [go_sem]
  have x24 : w2.cell? ⟨w.heap.size + 1 + 1, 0, none⟩ = some (.int .i64 cx) := by rw [HB2.out.cell (p := ⟨_, _, none⟩) (by simp <;> omega)]; simp [go_sem]
  have x25 : w2.cell? ⟨w.heap.size + 1 + 1, 1, none⟩ = some (.int .i64 cy) := by rw [HB2.out.cell (p := ⟨_, _, none⟩) (by simp <;> omega)]; simp [go_sem]
  go_wp2_with fail
  (go_at_call 56; refine (inside_yes cx cy _ (by assumption)).mono ?_; rintro e w3 ⟨rfl, hb1⟩)
  have HB3 : Hid (Below (((w.alloc (.cells #[.int .i64 ax, .int .i64 ay] 43)).alloc (.cells #[.int .i64 bx, .int .i64 by'] 43)).alloc (.cells #[.int .i64 cx, .int .i64 cy] 43)).heap.size (((w.alloc (.cells #[.int .i64 ax, .int .i64 ay] 43)).alloc (.cells #[.int .i64 bx, .int .i64 by'] 43)).alloc (.cells #[.int .i64 cx, .int .i64 cy] 43)) w3) := HB2.out.trans (hb1.mono HB2.out.size)
  clear hb1
  have z3 : w.heap.size + 1 + 1 < w3.heap.size := by have := HB3.out.size; simp at this; omega
  have z3a : w.heap.size + 1 < w3.heap.size := by omega
  have z3b : w.heap.size < w3.heap.size := by omega
  have x30 : w3.cell? ⟨w.heap.size, 0, none⟩ = some (.int .i64 ax) := by rw [HB3.out.cell (p := ⟨_, _, none⟩) (by simp <;> omega)]; simp [go_sem]
  have x31 : w3.cell? ⟨w.heap.size, 1, none⟩ = some (.int .i64 ay) := by rw [HB3.out.cell (p := ⟨_, _, none⟩) (by simp <;> omega)]; simp [go_sem]
  have x32 : w3.cell? ⟨w.heap.size + 1, 0, none⟩ = some (.int .i64 bx) := by rw [HB3.out.cell (p := ⟨_, _, none⟩) (by simp <;> omega)]; simp [go_sem]
  have x33 : w3.cell? ⟨w.heap.size + 1, 1, none⟩ = some (.int .i64 by') := by rw [HB3.out.cell (p := ⟨_, _, none⟩) (by simp <;> omega)]; simp [go_sem]
  have x34 : w3.cell? ⟨w.heap.size + 1 + 1, 0, none⟩ = some (.int .i64 cx) := by rw [HB3.out.cell (p := ⟨_, _, none⟩) (by simp <;> omega)]; simp [go_sem]
  have x35 : w3.cell? ⟨w.heap.size + 1 + 1, 1, none⟩ = some (.int .i64 cy) := by rw [HB3.out.cell (p := ⟨_, _, none⟩) (by simp <;> omega)]; simp [go_sem]
  go_wp2
  go_returns
  exact ⟨rfl, below_step (w := w) (by go_grown) HB3.out⟩
set_option maxRecDepth 20000 in
set_option maxHeartbeats 4000000 in
theorem share_s3n (mass ax ay bx by' cx cy : Int) (w : World) (hm0 : 0 ≤ mass) (hm1 : mass ≤ 1099511627776) (ha : InP ax ay) (hb : InP bx by') (hc : InP cx cy) (g0 : mn ax bx ≤ cx) (g1 : cx ≤ mx ax bx) (g2 : mn ay by' ≤ cy) (g3 : mx ay by' < cy) (heq : decide ((ax, ay) = (bx, by')) = false) : Calls Tryd.prog 41 #[.int .i64 mass, .agg #[.int .i64 ax, .int .i64 ay], .agg #[.int .i64 bx, .int .i64 by'], .agg #[.int .i64 cx, .int .i64 cy]] w fun e w' => e = .returned (.tuple #[.int .i64 0, .int .i64 0, .int .i64 17]) ∧ Below w.heap.size w w' := by
  have HA := ha
  have HBB := hb
  have HCC := hc
  obtain ⟨a0, a1, a2, a3⟩ := HA
  obtain ⟨b0, b1, b2, b3⟩ := HBB
  obtain ⟨c0, c1, c2, c3⟩ := HCC
  obtain ⟨m0, m1⟩ := mul_in (x := bx - ax) (y := cy - ay) (B := 2097152) (C := 2097152) ⟨by omega, by omega⟩ ⟨by omega, by omega⟩
  obtain ⟨m2, m3⟩ := mul_in (x := by' - ay) (y := cx - ax) (B := 2097152) (C := 2097152) ⟨by omega, by omega⟩ ⟨by omega, by omega⟩
  simp only [Int.reduceMul, Int.reduceNeg] at m0 m1 m2 m3
  have hmx := run_mx
  have hmn := run_mn
  have hpt := fun W => eql_point ax ay bx by' W
  rw [heq] at hpt
  have kk : decide (cy ≤ mx ay by') = false := decide_eq_false (by omega)
  go_enter Tryd.func41, Tryd.ntmps41
  go_wp2_with fail
  (go_at_call 56; refine (inside_yes ax ay _ (by assumption)).mono ?_; rintro e w1 ⟨rfl, hb1⟩)
  have HB1 : Hid (Below (((w.alloc (.cells #[.int .i64 ax, .int .i64 ay] 43)).alloc (.cells #[.int .i64 bx, .int .i64 by'] 43)).alloc (.cells #[.int .i64 cx, .int .i64 cy] 43)).heap.size (((w.alloc (.cells #[.int .i64 ax, .int .i64 ay] 43)).alloc (.cells #[.int .i64 bx, .int .i64 by'] 43)).alloc (.cells #[.int .i64 cx, .int .i64 cy] 43)) w1) := hb1
  clear hb1
  have z1 : w.heap.size + 1 + 1 < w1.heap.size := by have := HB1.out.size; simp at this; omega
  have z1a : w.heap.size + 1 < w1.heap.size := by omega
  have z1b : w.heap.size < w1.heap.size := by omega
  have x10 : w1.cell? ⟨w.heap.size, 0, none⟩ = some (.int .i64 ax) := by rw [HB1.out.cell (p := ⟨_, _, none⟩) (by simp <;> omega)]; simp [go_sem]
  have x11 : w1.cell? ⟨w.heap.size, 1, none⟩ = some (.int .i64 ay) := by rw [HB1.out.cell (p := ⟨_, _, none⟩) (by simp <;> omega)]; simp [go_sem]
  have x12 : w1.cell? ⟨w.heap.size + 1, 0, none⟩ = some (.int .i64 bx) := by rw [HB1.out.cell (p := ⟨_, _, none⟩) (by simp <;> omega)]; simp [go_sem]
  have x13 : w1.cell? ⟨w.heap.size + 1, 1, none⟩ = some (.int .i64 by') := by rw [HB1.out.cell (p := ⟨_, _, none⟩) (by simp <;> omega)]; simp [go_sem]
  have x14 : w1.cell? ⟨w.heap.size + 1 + 1, 0, none⟩ = some (.int .i64 cx) := by rw [HB1.out.cell (p := ⟨_, _, none⟩) (by simp <;> omega)]; simp [go_sem]
  have x15 : w1.cell? ⟨w.heap.size + 1 + 1, 1, none⟩ = some (.int .i64 cy) := by rw [HB1.out.cell (p := ⟨_, _, none⟩) (by simp <;> omega)]; simp [go_sem]
  go_wp2_with fail
  (go_at_call 56; refine (inside_yes bx by' _ (by assumption)).mono ?_; rintro e w2 ⟨rfl, hb1⟩)
  have HB2 : Hid (Below (((w.alloc (.cells #[.int .i64 ax, .int .i64 ay] 43)).alloc (.cells #[.int .i64 bx, .int .i64 by'] 43)).alloc (.cells #[.int .i64 cx, .int .i64 cy] 43)).heap.size (((w.alloc (.cells #[.int .i64 ax, .int .i64 ay] 43)).alloc (.cells #[.int .i64 bx, .int .i64 by'] 43)).alloc (.cells #[.int .i64 cx, .int .i64 cy] 43)) w2) := HB1.out.trans (hb1.mono HB1.out.size)
  clear hb1
  have z2 : w.heap.size + 1 + 1 < w2.heap.size := by have := HB2.out.size; simp at this; omega
  have z2a : w.heap.size + 1 < w2.heap.size := by omega
  have z2b : w.heap.size < w2.heap.size := by omega
  have x20 : w2.cell? ⟨w.heap.size, 0, none⟩ = some (.int .i64 ax) := by rw [HB2.out.cell (p := ⟨_, _, none⟩) (by simp <;> omega)]; simp [go_sem]
  have x21 : w2.cell? ⟨w.heap.size, 1, none⟩ = some (.int .i64 ay) := by rw [HB2.out.cell (p := ⟨_, _, none⟩) (by simp <;> omega)]; simp [go_sem]
  have x22 : w2.cell? ⟨w.heap.size + 1, 0, none⟩ = some (.int .i64 bx) := by rw [HB2.out.cell (p := ⟨_, _, none⟩) (by simp <;> omega)]; simp [go_sem]
  have x23 : w2.cell? ⟨w.heap.size + 1, 1, none⟩ = some (.int .i64 by') := by rw [HB2.out.cell (p := ⟨_, _, none⟩) (by simp <;> omega)]; simp [go_sem]
  have x24 : w2.cell? ⟨w.heap.size + 1 + 1, 0, none⟩ = some (.int .i64 cx) := by rw [HB2.out.cell (p := ⟨_, _, none⟩) (by simp <;> omega)]; simp [go_sem]
  have x25 : w2.cell? ⟨w.heap.size + 1 + 1, 1, none⟩ = some (.int .i64 cy) := by rw [HB2.out.cell (p := ⟨_, _, none⟩) (by simp <;> omega)]; simp [go_sem]
  go_wp2_with fail
  (go_at_call 56; refine (inside_yes cx cy _ (by assumption)).mono ?_; rintro e w3 ⟨rfl, hb1⟩)
  have HB3 : Hid (Below (((w.alloc (.cells #[.int .i64 ax, .int .i64 ay] 43)).alloc (.cells #[.int .i64 bx, .int .i64 by'] 43)).alloc (.cells #[.int .i64 cx, .int .i64 cy] 43)).heap.size (((w.alloc (.cells #[.int .i64 ax, .int .i64 ay] 43)).alloc (.cells #[.int .i64 bx, .int .i64 by'] 43)).alloc (.cells #[.int .i64 cx, .int .i64 cy] 43)) w3) := HB2.out.trans (hb1.mono HB2.out.size)
  clear hb1
  have z3 : w.heap.size + 1 + 1 < w3.heap.size := by have := HB3.out.size; simp at this; omega
  have z3a : w.heap.size + 1 < w3.heap.size := by omega
  have z3b : w.heap.size < w3.heap.size := by omega
  have x30 : w3.cell? ⟨w.heap.size, 0, none⟩ = some (.int .i64 ax) := by rw [HB3.out.cell (p := ⟨_, _, none⟩) (by simp <;> omega)]; simp [go_sem]
  have x31 : w3.cell? ⟨w.heap.size, 1, none⟩ = some (.int .i64 ay) := by rw [HB3.out.cell (p := ⟨_, _, none⟩) (by simp <;> omega)]; simp [go_sem]
  have x32 : w3.cell? ⟨w.heap.size + 1, 0, none⟩ = some (.int .i64 bx) := by rw [HB3.out.cell (p := ⟨_, _, none⟩) (by simp <;> omega)]; simp [go_sem]
  have x33 : w3.cell? ⟨w.heap.size + 1, 1, none⟩ = some (.int .i64 by') := by rw [HB3.out.cell (p := ⟨_, _, none⟩) (by simp <;> omega)]; simp [go_sem]
  have x34 : w3.cell? ⟨w.heap.size + 1 + 1, 0, none⟩ = some (.int .i64 cx) := by rw [HB3.out.cell (p := ⟨_, _, none⟩) (by simp <;> omega)]; simp [go_sem]
  have x35 : w3.cell? ⟨w.heap.size + 1 + 1, 1, none⟩ = some (.int .i64 cy) := by rw [HB3.out.cell (p := ⟨_, _, none⟩) (by simp <;> omega)]; simp [go_sem]
  go_wp2
  go_returns
  exact ⟨rfl, below_step (w := w) (by go_grown) HB3.out⟩
set_option maxRecDepth 20000 in
set_option maxHeartbeats 4000000 in
theorem share_sye (mass ax ay bx by' cx cy : Int) (w : World) (hm0 : 0 ≤ mass) (hm1 : mass ≤ 1099511627776) (ha : InP ax ay) (hb : InP bx by') (hc : InP cx cy) (g0 : mn ax bx ≤ cx) (g1 : cx ≤ mx ax bx) (g2 : mn ay by' ≤ cy) (g3 : cy ≤ mx ay by') (heq : decide ((ax, ay) = (bx, by')) = true) : Calls Tryd.prog 41 #[.int .i64 mass, .agg #[.int .i64 ax, .int .i64 ay], .agg #[.int .i64 bx, .int .i64 by'], .agg #[.int .i64 cx, .int .i64 cy]] w fun e w' => e = .returned (.tuple #[.int .i64 0, .int .i64 0, .int .i64 17]) ∧ Below w.heap.size w w' := by
  have HA := ha
  have HBB := hb
  have HCC := hc
  obtain ⟨a0, a1, a2, a3⟩ := HA
  obtain ⟨b0, b1, b2, b3⟩ := HBB
  obtain ⟨c0, c1, c2, c3⟩ := HCC
  obtain ⟨m0, m1⟩ := mul_in (x := bx - ax) (y := cy - ay) (B := 2097152) (C := 2097152) ⟨by omega, by omega⟩ ⟨by omega, by omega⟩
  obtain ⟨m2, m3⟩ := mul_in (x := by' - ay) (y := cx - ax) (B := 2097152) (C := 2097152) ⟨by omega, by omega⟩ ⟨by omega, by omega⟩
  simp only [Int.reduceMul, Int.reduceNeg] at m0 m1 m2 m3
  have hmx := run_mx
  have hmn := run_mn
  have hpt := fun W => eql_point ax ay bx by' W
  rw [heq] at hpt
  go_enter Tryd.func41, Tryd.ntmps41
  go_wp2_with fail
  (go_at_call 56; refine (inside_yes ax ay _ (by assumption)).mono ?_; rintro e w1 ⟨rfl, hb1⟩)
  have HB1 : Hid (Below (((w.alloc (.cells #[.int .i64 ax, .int .i64 ay] 43)).alloc (.cells #[.int .i64 bx, .int .i64 by'] 43)).alloc (.cells #[.int .i64 cx, .int .i64 cy] 43)).heap.size (((w.alloc (.cells #[.int .i64 ax, .int .i64 ay] 43)).alloc (.cells #[.int .i64 bx, .int .i64 by'] 43)).alloc (.cells #[.int .i64 cx, .int .i64 cy] 43)) w1) := hb1
  clear hb1
  have z1 : w.heap.size + 1 + 1 < w1.heap.size := by have := HB1.out.size; simp at this; omega
  have z1a : w.heap.size + 1 < w1.heap.size := by omega
  have z1b : w.heap.size < w1.heap.size := by omega
  have x10 : w1.cell? ⟨w.heap.size, 0, none⟩ = some (.int .i64 ax) := by rw [HB1.out.cell (p := ⟨_, _, none⟩) (by simp <;> omega)]; simp [go_sem]
  have x11 : w1.cell? ⟨w.heap.size, 1, none⟩ = some (.int .i64 ay) := by rw [HB1.out.cell (p := ⟨_, _, none⟩) (by simp <;> omega)]; simp [go_sem]
  have x12 : w1.cell? ⟨w.heap.size + 1, 0, none⟩ = some (.int .i64 bx) := by rw [HB1.out.cell (p := ⟨_, _, none⟩) (by simp <;> omega)]; simp [go_sem]
  have x13 : w1.cell? ⟨w.heap.size + 1, 1, none⟩ = some (.int .i64 by') := by rw [HB1.out.cell (p := ⟨_, _, none⟩) (by simp <;> omega)]; simp [go_sem]
  have x14 : w1.cell? ⟨w.heap.size + 1 + 1, 0, none⟩ = some (.int .i64 cx) := by rw [HB1.out.cell (p := ⟨_, _, none⟩) (by simp <;> omega)]; simp [go_sem]
  have x15 : w1.cell? ⟨w.heap.size + 1 + 1, 1, none⟩ = some (.int .i64 cy) := by rw [HB1.out.cell (p := ⟨_, _, none⟩) (by simp <;> omega)]; simp [go_sem]
  go_wp2_with fail
  (go_at_call 56; refine (inside_yes bx by' _ (by assumption)).mono ?_; rintro e w2 ⟨rfl, hb1⟩)
  have HB2 : Hid (Below (((w.alloc (.cells #[.int .i64 ax, .int .i64 ay] 43)).alloc (.cells #[.int .i64 bx, .int .i64 by'] 43)).alloc (.cells #[.int .i64 cx, .int .i64 cy] 43)).heap.size (((w.alloc (.cells #[.int .i64 ax, .int .i64 ay] 43)).alloc (.cells #[.int .i64 bx, .int .i64 by'] 43)).alloc (.cells #[.int .i64 cx, .int .i64 cy] 43)) w2) := HB1.out.trans (hb1.mono HB1.out.size)
  clear hb1
  have z2 : w.heap.size + 1 + 1 < w2.heap.size := by have := HB2.out.size; simp at this; omega
  have z2a : w.heap.size + 1 < w2.heap.size := by omega
  have z2b : w.heap.size < w2.heap.size := by omega
  have x20 : w2.cell? ⟨w.heap.size, 0, none⟩ = some (.int .i64 ax) := by rw [HB2.out.cell (p := ⟨_, _, none⟩) (by simp <;> omega)]; simp [go_sem]
  have x21 : w2.cell? ⟨w.heap.size, 1, none⟩ = some (.int .i64 ay) := by rw [HB2.out.cell (p := ⟨_, _, none⟩) (by simp <;> omega)]; simp [go_sem]
  have x22 : w2.cell? ⟨w.heap.size + 1, 0, none⟩ = some (.int .i64 bx) := by rw [HB2.out.cell (p := ⟨_, _, none⟩) (by simp <;> omega)]; simp [go_sem]
  have x23 : w2.cell? ⟨w.heap.size + 1, 1, none⟩ = some (.int .i64 by') := by rw [HB2.out.cell (p := ⟨_, _, none⟩) (by simp <;> omega)]; simp [go_sem]
  have x24 : w2.cell? ⟨w.heap.size + 1 + 1, 0, none⟩ = some (.int .i64 cx) := by rw [HB2.out.cell (p := ⟨_, _, none⟩) (by simp <;> omega)]; simp [go_sem]
  have x25 : w2.cell? ⟨w.heap.size + 1 + 1, 1, none⟩ = some (.int .i64 cy) := by rw [HB2.out.cell (p := ⟨_, _, none⟩) (by simp <;> omega)]; simp [go_sem]
  go_wp2_with fail
  (go_at_call 56; refine (inside_yes cx cy _ (by assumption)).mono ?_; rintro e w3 ⟨rfl, hb1⟩)
  have HB3 : Hid (Below (((w.alloc (.cells #[.int .i64 ax, .int .i64 ay] 43)).alloc (.cells #[.int .i64 bx, .int .i64 by'] 43)).alloc (.cells #[.int .i64 cx, .int .i64 cy] 43)).heap.size (((w.alloc (.cells #[.int .i64 ax, .int .i64 ay] 43)).alloc (.cells #[.int .i64 bx, .int .i64 by'] 43)).alloc (.cells #[.int .i64 cx, .int .i64 cy] 43)) w3) := HB2.out.trans (hb1.mono HB2.out.size)
  clear hb1
  have z3 : w.heap.size + 1 + 1 < w3.heap.size := by have := HB3.out.size; simp at this; omega
  have z3a : w.heap.size + 1 < w3.heap.size := by omega
  have z3b : w.heap.size < w3.heap.size := by omega
  have x30 : w3.cell? ⟨w.heap.size, 0, none⟩ = some (.int .i64 ax) := by rw [HB3.out.cell (p := ⟨_, _, none⟩) (by simp <;> omega)]; simp [go_sem]
  have x31 : w3.cell? ⟨w.heap.size, 1, none⟩ = some (.int .i64 ay) := by rw [HB3.out.cell (p := ⟨_, _, none⟩) (by simp <;> omega)]; simp [go_sem]
  have x32 : w3.cell? ⟨w.heap.size + 1, 0, none⟩ = some (.int .i64 bx) := by rw [HB3.out.cell (p := ⟨_, _, none⟩) (by simp <;> omega)]; simp [go_sem]
  have x33 : w3.cell? ⟨w.heap.size + 1, 1, none⟩ = some (.int .i64 by') := by rw [HB3.out.cell (p := ⟨_, _, none⟩) (by simp <;> omega)]; simp [go_sem]
  have x34 : w3.cell? ⟨w.heap.size + 1 + 1, 0, none⟩ = some (.int .i64 cx) := by rw [HB3.out.cell (p := ⟨_, _, none⟩) (by simp <;> omega)]; simp [go_sem]
  have x35 : w3.cell? ⟨w.heap.size + 1 + 1, 1, none⟩ = some (.int .i64 cy) := by rw [HB3.out.cell (p := ⟨_, _, none⟩) (by simp <;> omega)]; simp [go_sem]
  go_wp2
  go_returns
  exact ⟨rfl, below_step (w := w) (by go_grown) HB3.out⟩
set_option maxRecDepth 20000 in
set_option maxHeartbeats 4000000 in
theorem share_sx (mass ax ay bx by' cx cy : Int) (w : World) (hm0 : 0 ≤ mass) (hm1 : mass ≤ 1099511627776) (ha : InP ax ay) (hb : InP bx by') (hc : InP cx cy) (g0 : mn ax bx ≤ cx) (g1 : cx ≤ mx ax bx) (g2 : mn ay by' ≤ cy) (g3 : cy ≤ mx ay by') (heq : decide ((ax, ay) = (bx, by')) = false) (hx : (bx - ax) * (cy - ay) ≠ (by' - ay) * (cx - ax)) : Calls Tryd.prog 41 #[.int .i64 mass, .agg #[.int .i64 ax, .int .i64 ay], .agg #[.int .i64 bx, .int .i64 by'], .agg #[.int .i64 cx, .int .i64 cy]] w fun e w' => e = .returned (.tuple #[.int .i64 0, .int .i64 0, .int .i64 17]) ∧ Below w.heap.size w w' := by
  have HA := ha
  have HBB := hb
  have HCC := hc
  obtain ⟨a0, a1, a2, a3⟩ := HA
  obtain ⟨b0, b1, b2, b3⟩ := HBB
  obtain ⟨c0, c1, c2, c3⟩ := HCC
  obtain ⟨m0, m1⟩ := mul_in (x := bx - ax) (y := cy - ay) (B := 2097152) (C := 2097152) ⟨by omega, by omega⟩ ⟨by omega, by omega⟩
  obtain ⟨m2, m3⟩ := mul_in (x := by' - ay) (y := cx - ax) (B := 2097152) (C := 2097152) ⟨by omega, by omega⟩ ⟨by omega, by omega⟩
  simp only [Int.reduceMul, Int.reduceNeg] at m0 m1 m2 m3
  have hmx := run_mx
  have hmn := run_mn
  have hpt := fun W => eql_point ax ay bx by' W
  rw [heq] at hpt
  have k : ((bx - ax) * (cy - ay) != (by' - ay) * (cx - ax)) = true := by simpa using hx
  clear hx
  go_enter Tryd.func41, Tryd.ntmps41
  go_wp2_with fail
  (go_at_call 56; refine (inside_yes ax ay _ (by assumption)).mono ?_; rintro e w1 ⟨rfl, hb1⟩)
  have HB1 : Hid (Below (((w.alloc (.cells #[.int .i64 ax, .int .i64 ay] 43)).alloc (.cells #[.int .i64 bx, .int .i64 by'] 43)).alloc (.cells #[.int .i64 cx, .int .i64 cy] 43)).heap.size (((w.alloc (.cells #[.int .i64 ax, .int .i64 ay] 43)).alloc (.cells #[.int .i64 bx, .int .i64 by'] 43)).alloc (.cells #[.int .i64 cx, .int .i64 cy] 43)) w1) := hb1
  clear hb1
  have z1 : w.heap.size + 1 + 1 < w1.heap.size := by have := HB1.out.size; simp at this; omega
  have z1a : w.heap.size + 1 < w1.heap.size := by omega
  have z1b : w.heap.size < w1.heap.size := by omega
  have x10 : w1.cell? ⟨w.heap.size, 0, none⟩ = some (.int .i64 ax) := by rw [HB1.out.cell (p := ⟨_, _, none⟩) (by simp <;> omega)]; simp [go_sem]
  have x11 : w1.cell? ⟨w.heap.size, 1, none⟩ = some (.int .i64 ay) := by rw [HB1.out.cell (p := ⟨_, _, none⟩) (by simp <;> omega)]; simp [go_sem]
  have x12 : w1.cell? ⟨w.heap.size + 1, 0, none⟩ = some (.int .i64 bx) := by rw [HB1.out.cell (p := ⟨_, _, none⟩) (by simp <;> omega)]; simp [go_sem]
  have x13 : w1.cell? ⟨w.heap.size + 1, 1, none⟩ = some (.int .i64 by') := by rw [HB1.out.cell (p := ⟨_, _, none⟩) (by simp <;> omega)]; simp [go_sem]
  have x14 : w1.cell? ⟨w.heap.size + 1 + 1, 0, none⟩ = some (.int .i64 cx) := by rw [HB1.out.cell (p := ⟨_, _, none⟩) (by simp <;> omega)]; simp [go_sem]
  have x15 : w1.cell? ⟨w.heap.size + 1 + 1, 1, none⟩ = some (.int .i64 cy) := by rw [HB1.out.cell (p := ⟨_, _, none⟩) (by simp <;> omega)]; simp [go_sem]
  go_wp2_with fail
  (go_at_call 56; refine (inside_yes bx by' _ (by assumption)).mono ?_; rintro e w2 ⟨rfl, hb1⟩)
  have HB2 : Hid (Below (((w.alloc (.cells #[.int .i64 ax, .int .i64 ay] 43)).alloc (.cells #[.int .i64 bx, .int .i64 by'] 43)).alloc (.cells #[.int .i64 cx, .int .i64 cy] 43)).heap.size (((w.alloc (.cells #[.int .i64 ax, .int .i64 ay] 43)).alloc (.cells #[.int .i64 bx, .int .i64 by'] 43)).alloc (.cells #[.int .i64 cx, .int .i64 cy] 43)) w2) := HB1.out.trans (hb1.mono HB1.out.size)
  clear hb1
  have z2 : w.heap.size + 1 + 1 < w2.heap.size := by have := HB2.out.size; simp at this; omega
  have z2a : w.heap.size + 1 < w2.heap.size := by omega
  have z2b : w.heap.size < w2.heap.size := by omega
  have x20 : w2.cell? ⟨w.heap.size, 0, none⟩ = some (.int .i64 ax) := by rw [HB2.out.cell (p := ⟨_, _, none⟩) (by simp <;> omega)]; simp [go_sem]
  have x21 : w2.cell? ⟨w.heap.size, 1, none⟩ = some (.int .i64 ay) := by rw [HB2.out.cell (p := ⟨_, _, none⟩) (by simp <;> omega)]; simp [go_sem]
  have x22 : w2.cell? ⟨w.heap.size + 1, 0, none⟩ = some (.int .i64 bx) := by rw [HB2.out.cell (p := ⟨_, _, none⟩) (by simp <;> omega)]; simp [go_sem]
  have x23 : w2.cell? ⟨w.heap.size + 1, 1, none⟩ = some (.int .i64 by') := by rw [HB2.out.cell (p := ⟨_, _, none⟩) (by simp <;> omega)]; simp [go_sem]
  have x24 : w2.cell? ⟨w.heap.size + 1 + 1, 0, none⟩ = some (.int .i64 cx) := by rw [HB2.out.cell (p := ⟨_, _, none⟩) (by simp <;> omega)]; simp [go_sem]
  have x25 : w2.cell? ⟨w.heap.size + 1 + 1, 1, none⟩ = some (.int .i64 cy) := by rw [HB2.out.cell (p := ⟨_, _, none⟩) (by simp <;> omega)]; simp [go_sem]
  go_wp2_with fail
  (go_at_call 56; refine (inside_yes cx cy _ (by assumption)).mono ?_; rintro e w3 ⟨rfl, hb1⟩)
  have HB3 : Hid (Below (((w.alloc (.cells #[.int .i64 ax, .int .i64 ay] 43)).alloc (.cells #[.int .i64 bx, .int .i64 by'] 43)).alloc (.cells #[.int .i64 cx, .int .i64 cy] 43)).heap.size (((w.alloc (.cells #[.int .i64 ax, .int .i64 ay] 43)).alloc (.cells #[.int .i64 bx, .int .i64 by'] 43)).alloc (.cells #[.int .i64 cx, .int .i64 cy] 43)) w3) := HB2.out.trans (hb1.mono HB2.out.size)
  clear hb1
  have z3 : w.heap.size + 1 + 1 < w3.heap.size := by have := HB3.out.size; simp at this; omega
  have z3a : w.heap.size + 1 < w3.heap.size := by omega
  have z3b : w.heap.size < w3.heap.size := by omega
  have x30 : w3.cell? ⟨w.heap.size, 0, none⟩ = some (.int .i64 ax) := by rw [HB3.out.cell (p := ⟨_, _, none⟩) (by simp <;> omega)]; simp [go_sem]
  have x31 : w3.cell? ⟨w.heap.size, 1, none⟩ = some (.int .i64 ay) := by rw [HB3.out.cell (p := ⟨_, _, none⟩) (by simp <;> omega)]; simp [go_sem]
  have x32 : w3.cell? ⟨w.heap.size + 1, 0, none⟩ = some (.int .i64 bx) := by rw [HB3.out.cell (p := ⟨_, _, none⟩) (by simp <;> omega)]; simp [go_sem]
  have x33 : w3.cell? ⟨w.heap.size + 1, 1, none⟩ = some (.int .i64 by') := by rw [HB3.out.cell (p := ⟨_, _, none⟩) (by simp <;> omega)]; simp [go_sem]
  have x34 : w3.cell? ⟨w.heap.size + 1 + 1, 0, none⟩ = some (.int .i64 cx) := by rw [HB3.out.cell (p := ⟨_, _, none⟩) (by simp <;> omega)]; simp [go_sem]
  have x35 : w3.cell? ⟨w.heap.size + 1 + 1, 1, none⟩ = some (.int .i64 cy) := by rw [HB3.out.cell (p := ⟨_, _, none⟩) (by simp <;> omega)]; simp [go_sem]
  go_wp2
  go_returns
  exact ⟨rfl, below_step (w := w) (by go_grown) HB3.out⟩
end Go.Proofs.YtbfbifogamlepaaDoor
