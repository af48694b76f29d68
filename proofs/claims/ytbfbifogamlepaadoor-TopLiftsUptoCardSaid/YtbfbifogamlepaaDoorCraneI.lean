/-
  What Share returns where it does not err, by walks. Conditions: none. By an AI agent.
-/
import Derived.Test.YtbfbifogamlepaaDoorCraneG
import Derived.Test.YtbfbifogamlepaaDoorNum
namespace Go.Proofs.YtbfbifogamlepaaDoor
open Go.RowKit
set_option linter.unusedSimpArgs false
set_option linter.unusedVariables false

set_option maxRecDepth 20000 in
set_option maxHeartbeats 4000000 in
theorem share_gx (mass ax ay bx by' cx cy : Int) (w : World) (hm0 : 0 ≤ mass) (hm1 : mass ≤ 1099511627776) (ha : InP ax ay) (hb : InP bx by') (hc : InP cx cy) (g0 : mn ax bx ≤ cx) (g1 : cx ≤ mx ax bx) (g2 : mn ay by' ≤ cy) (g3 : cy ≤ mx ay by') (heq : decide ((ax, ay) = (bx, by')) = false) (hx : (bx - ax) * (cy - ay) = (by' - ay) * (cx - ax)) (u1 u2 u3 v1 v2 v3 : Int) (hu1 : ab (bx - ax) = u1) (hu2 : ab (cx - ax) = u2) (hu3 : ab (bx - cx) = u3) (hv1 : ab (by' - ay) = v1) (hv2 : ab (cy - ay) = v2) (hv3 : ab (by' - cy) = v3) (hd : v1 ≤ u1) (hpos : 0 < u1) : Calls Tryd.prog 41 #[.int .i64 mass, .agg #[.int .i64 ax, .int .i64 ay], .agg #[.int .i64 bx, .int .i64 by'], .agg #[.int .i64 cx, .int .i64 cy]] w fun e w' => e = .returned (.tuple #[.int .i64 (ceilF (mass * u3) u1), .int .i64 (ceilF (mass * u2) u1), .int .i64 0]) ∧ Below w.heap.size w w' := by
  have HA := ha
  have HBB := hb
  have HCC := hc
  obtain ⟨a0, a1, a2, a3⟩ := HA
  obtain ⟨b0, b1, b2, b3⟩ := HBB
  obtain ⟨c0, c1, c2, c3⟩ := HCC
  obtain ⟨m0, m1⟩ := mul_in (x := bx - ax) (y := cy - ay) (B := 2097152) (C := 2097152) ⟨by omega, by omega⟩ ⟨by omega, by omega⟩
  obtain ⟨m2, m3⟩ := mul_in (x := by' - ay) (y := cx - ax) (B := 2097152) (C := 2097152) ⟨by omega, by omega⟩ ⟨by omega, by omega⟩
  simp only [Int.reduceMul, Int.reduceNeg] at m0 m1 m2 m3
  have hmx := run_mx
  have hmn := run_mn
  have hpt := fun W => eql_point ax ay bx by' W
  rw [heq] at hpt
  have k : ((bx - ax) * (cy - ay) != (by' - ay) * (cx - ax)) = false := by simpa using hx
  clear hx
  obtain ⟨u1a, u1b⟩ := ab_in (n := bx - ax) (B := 2097152) ⟨by omega, by omega⟩
  obtain ⟨u2a, u2b⟩ := ab_in (n := cx - ax) (B := 2097152) ⟨by omega, by omega⟩
  obtain ⟨u3a, u3b⟩ := ab_in (n := bx - cx) (B := 2097152) ⟨by omega, by omega⟩
  obtain ⟨v1a, v1b⟩ := ab_in (n := by' - ay) (B := 2097152) ⟨by omega, by omega⟩
  obtain ⟨v2a, v2b⟩ := ab_in (n := cy - ay) (B := 2097152) ⟨by omega, by omega⟩
  obtain ⟨v3a, v3b⟩ := ab_in (n := by' - cy) (B := 2097152) ⟨by omega, by omega⟩
  rw [hu1] at u1a u1b
  rw [hu2] at u2a u2b
  rw [hu3] at u3a u3b
  rw [hv1] at v1a v1b
  rw [hv2] at v2a v2b
  rw [hv3] at v3a v3b
  have p0 : 0 ≤ mass * u3 := Int.mul_nonneg hm0 (by omega)
  have p1 : mass * u3 ≤ 1099511627776 * 2097152 := (mul_in (B := 1099511627776) (C := 2097152) ⟨by omega, by omega⟩ ⟨by omega, by omega⟩).2
  have p2 : 0 ≤ mass * u2 := Int.mul_nonneg hm0 (by omega)
  have p3 : mass * u2 ≤ 1099511627776 * 2097152 := (mul_in (B := 1099511627776) (C := 2097152) ⟨by omega, by omega⟩ ⟨by omega, by omega⟩).2
  simp only [Int.reduceMul] at p1 p3
  have hpc := past_cell
  go_enter Tryd.func41, Tryd.ntmps41
  go_wp2_with fail
  (go_at_call 56; refine (inside_yes ax ay _ (by assumption)).mono ?_; rintro e w1 ⟨rfl, hb1⟩)
  have HB1 : Hid (Below (((w.alloc (.cells #[.int .i64 ax, .int .i64 ay] 43)).alloc (.cells #[.int .i64 bx, .int .i64 by'] 43)).alloc (.cells #[.int .i64 cx, .int .i64 cy] 43)).heap.size (((w.alloc (.cells #[.int .i64 ax, .int .i64 ay] 43)).alloc (.cells #[.int .i64 bx, .int .i64 by'] 43)).alloc (.cells #[.int .i64 cx, .int .i64 cy] 43)) w1) := hb1
  clear hb1
  have z1 : w.heap.size + 1 + 1 < w1.heap.size := by have := HB1.out.size; simp at this; omega
  have z1a : w.heap.size + 1 < w1.heap.size := by omega
  have z1b : w.heap.size < w1.heap.size := by omega
  have x10 : w1.cell? ⟨w.heap.size, 0, none⟩ = some (.int .i64 ax) := by rw [HB1.out.cell (p := ⟨_, _, none⟩) (by simp <;> omega)]; simp [go_sem]
  have x11 : w1.cell? ⟨w.heap.size, 1, none⟩ = some (.int .i64 ay) := by rw [HB1.out.cell (p := ⟨_, _, none⟩) (by simp <;> omega)]; simp [go_sem]
  have x12 : w1.cell? ⟨w.heap.size + 1, 0, none⟩ = some (.int .i64 bx) := by rw [HB1.out.cell (p := ⟨_, _, none⟩) (by simp <;> omega)]; simp [go_sem]
  have x13 : w1.cell? ⟨w.heap.size + 1, 1, none⟩ = some (.int .i64 by') := by rw [HB1.out.cell (p := ⟨_, _, none⟩) (by simp <;> omega)]; simp [go_sem]
  have x14 : w1.cell? ⟨w.heap.size + 1 + 1, 0, none⟩ = some (.int .i64 cx) := by rw [HB1.out.cell (p := ⟨_, _, none⟩) (by simp <;> omega)]; simp [go_sem]
  have x15 : w1.cell? ⟨w.heap.size + 1 + 1, 1, none⟩ = some (.int .i64 cy) := by rw [HB1.out.cell (p := ⟨_, _, none⟩) (by simp <;> omega)]; simp [go_sem]
  go_wp2_with fail
  (go_at_call 56; refine (inside_yes bx by' _ (by assumption)).mono ?_; rintro e w2 ⟨rfl, hb1⟩)
  have HB2 : Hid (Below (((w.alloc (.cells #[.int .i64 ax, .int .i64 ay] 43)).alloc (.cells #[.int .i64 bx, .int .i64 by'] 43)).alloc (.cells #[.int .i64 cx, .int .i64 cy] 43)).heap.size (((w.alloc (.cells #[.int .i64 ax, .int .i64 ay] 43)).alloc (.cells #[.int .i64 bx, .int .i64 by'] 43)).alloc (.cells #[.int .i64 cx, .int .i64 cy] 43)) w2) := HB1.out.trans (hb1.mono HB1.out.size)
  clear hb1
  have z2 : w.heap.size + 1 + 1 < w2.heap.size := by have := HB2.out.size; simp at this; omega
  have z2a : w.heap.size + 1 < w2.heap.size := by omega
  have z2b : w.heap.size < w2.heap.size := by omega
  have x20 : w2.cell? ⟨w.heap.size, 0, none⟩ = some (.int .i64 ax) := by rw [HB2.out.cell (p := ⟨_, _, none⟩) (by simp <;> omega)]; simp [go_sem]
  have x21 : w2.cell? ⟨w.heap.size, 1, none⟩ = some (.int .i64 ay) := by rw [HB2.out.cell (p := ⟨_, _, none⟩) (by simp <;> omega)]; simp [go_sem]
  have x22 : w2.cell? ⟨w.heap.size + 1, 0, none⟩ = some (.int .i64 bx) := by rw [HB2.out.cell (p := ⟨_, _, none⟩) (by simp <;> omega)]; simp [go_sem]
  have x23 : w2.cell? ⟨w.heap.size + 1, 1, none⟩ = some (.int .i64 by') := by rw [HB2.out.cell (p := ⟨_, _, none⟩) (by simp <;> omega)]; simp [go_sem]
  have x24 : w2.cell? ⟨w.heap.size + 1 + 1, 0, none⟩ = some (.int .i64 cx) := by rw [HB2.out.cell (p := ⟨_, _, none⟩) (by simp <;> omega)]; simp [go_sem]
  have x25 : w2.cell? ⟨w.heap.size + 1 + 1, 1, none⟩ = some (.int .i64 cy) := by rw [HB2.out.cell (p := ⟨_, _, none⟩) (by simp <;> omega)]; simp [go_sem]
  go_wp2_with fail
  (go_at_call 56; refine (inside_yes cx cy _ (by assumption)).mono ?_; rintro e w3 ⟨rfl, hb1⟩)
  have HB3 : Hid (Below (((w.alloc (.cells #[.int .i64 ax, .int .i64 ay] 43)).alloc (.cells #[.int .i64 bx, .int .i64 by'] 43)).alloc (.cells #[.int .i64 cx, .int .i64 cy] 43)).heap.size (((w.alloc (.cells #[.int .i64 ax, .int .i64 ay] 43)).alloc (.cells #[.int .i64 bx, .int .i64 by'] 43)).alloc (.cells #[.int .i64 cx, .int .i64 cy] 43)) w3) := HB2.out.trans (hb1.mono HB2.out.size)
  clear hb1
  have z3 : w.heap.size + 1 + 1 < w3.heap.size := by have := HB3.out.size; simp at this; omega
  have z3a : w.heap.size + 1 < w3.heap.size := by omega
  have z3b : w.heap.size < w3.heap.size := by omega
  have x30 : w3.cell? ⟨w.heap.size, 0, none⟩ = some (.int .i64 ax) := by rw [HB3.out.cell (p := ⟨_, _, none⟩) (by simp <;> omega)]; simp [go_sem]
  have x31 : w3.cell? ⟨w.heap.size, 1, none⟩ = some (.int .i64 ay) := by rw [HB3.out.cell (p := ⟨_, _, none⟩) (by simp <;> omega)]; simp [go_sem]
  have x32 : w3.cell? ⟨w.heap.size + 1, 0, none⟩ = some (.int .i64 bx) := by rw [HB3.out.cell (p := ⟨_, _, none⟩) (by simp <;> omega)]; simp [go_sem]
  have x33 : w3.cell? ⟨w.heap.size + 1, 1, none⟩ = some (.int .i64 by') := by rw [HB3.out.cell (p := ⟨_, _, none⟩) (by simp <;> omega)]; simp [go_sem]
  have x34 : w3.cell? ⟨w.heap.size + 1 + 1, 0, none⟩ = some (.int .i64 cx) := by rw [HB3.out.cell (p := ⟨_, _, none⟩) (by simp <;> omega)]; simp [go_sem]
  have x35 : w3.cell? ⟨w.heap.size + 1 + 1, 1, none⟩ = some (.int .i64 cy) := by rw [HB3.out.cell (p := ⟨_, _, none⟩) (by simp <;> omega)]; simp [go_sem]
  go_wp2_with fail
  refine wp_region_past (by kernel_rfl) (by kernel_rfl) ?_
  iterate 5 go_big_quiet_step (fail)
  go_big_quiet_step ((go_at_call 57; exact past_of (length_in _ _ _ ⟨by omega, by omega⟩ hu1)))
  iterate 5 go_big_quiet_step (fail)
  go_big_quiet_step ((go_at_call 57; exact past_of (length_in _ _ _ ⟨by omega, by omega⟩ hu2)))
  iterate 5 go_big_quiet_step (fail)
  go_big_quiet_step ((go_at_call 57; exact past_of (length_in _ _ _ ⟨by omega, by omega⟩ hu3)))
  iterate 3 go_big_quiet_step (fail)
  refine wpQuiet_nil ?_
  intro w4 hw'
  have hb1 := past_out hw'
  clear hw'
  have HB4 : Hid (Below (((w.alloc (.cells #[.int .i64 ax, .int .i64 ay] 43)).alloc (.cells #[.int .i64 bx, .int .i64 by'] 43)).alloc (.cells #[.int .i64 cx, .int .i64 cy] 43)).heap.size (((w.alloc (.cells #[.int .i64 ax, .int .i64 ay] 43)).alloc (.cells #[.int .i64 bx, .int .i64 by'] 43)).alloc (.cells #[.int .i64 cx, .int .i64 cy] 43)) w4) := HB3.out.trans (hb1.mono HB3.out.size)
  clear hb1
  have z4 : w.heap.size + 1 + 1 < w4.heap.size := by have := HB4.out.size; simp at this; omega
  have z4a : w.heap.size + 1 < w4.heap.size := by omega
  have z4b : w.heap.size < w4.heap.size := by omega
  have x40 : w4.cell? ⟨w.heap.size, 0, none⟩ = some (.int .i64 ax) := by rw [HB4.out.cell (p := ⟨_, _, none⟩) (by simp <;> omega)]; simp [go_sem]
  have x41 : w4.cell? ⟨w.heap.size, 1, none⟩ = some (.int .i64 ay) := by rw [HB4.out.cell (p := ⟨_, _, none⟩) (by simp <;> omega)]; simp [go_sem]
  have x42 : w4.cell? ⟨w.heap.size + 1, 0, none⟩ = some (.int .i64 bx) := by rw [HB4.out.cell (p := ⟨_, _, none⟩) (by simp <;> omega)]; simp [go_sem]
  have x43 : w4.cell? ⟨w.heap.size + 1, 1, none⟩ = some (.int .i64 by') := by rw [HB4.out.cell (p := ⟨_, _, none⟩) (by simp <;> omega)]; simp [go_sem]
  have x44 : w4.cell? ⟨w.heap.size + 1 + 1, 0, none⟩ = some (.int .i64 cx) := by rw [HB4.out.cell (p := ⟨_, _, none⟩) (by simp <;> omega)]; simp [go_sem]
  have x45 : w4.cell? ⟨w.heap.size + 1 + 1, 1, none⟩ = some (.int .i64 cy) := by rw [HB4.out.cell (p := ⟨_, _, none⟩) (by simp <;> omega)]; simp [go_sem]
  go_wp2_with fail
  (go_at_call 57; refine (length_in _ _ _ ⟨by omega, by omega⟩ hv1).mono ?_; rintro e w5 ⟨rfl, hb1⟩)
  have HB5 : Hid (Below (((w.alloc (.cells #[.int .i64 ax, .int .i64 ay] 43)).alloc (.cells #[.int .i64 bx, .int .i64 by'] 43)).alloc (.cells #[.int .i64 cx, .int .i64 cy] 43)).heap.size (((w.alloc (.cells #[.int .i64 ax, .int .i64 ay] 43)).alloc (.cells #[.int .i64 bx, .int .i64 by'] 43)).alloc (.cells #[.int .i64 cx, .int .i64 cy] 43)) w5) := HB4.out.trans (hb1.mono HB4.out.size)
  clear hb1
  have z5 : w.heap.size + 1 + 1 < w5.heap.size := by have := HB5.out.size; simp at this; omega
  have z5a : w.heap.size + 1 < w5.heap.size := by omega
  have z5b : w.heap.size < w5.heap.size := by omega
  have x50 : w5.cell? ⟨w.heap.size, 0, none⟩ = some (.int .i64 ax) := by rw [HB5.out.cell (p := ⟨_, _, none⟩) (by simp <;> omega)]; simp [go_sem]
  have x51 : w5.cell? ⟨w.heap.size, 1, none⟩ = some (.int .i64 ay) := by rw [HB5.out.cell (p := ⟨_, _, none⟩) (by simp <;> omega)]; simp [go_sem]
  have x52 : w5.cell? ⟨w.heap.size + 1, 0, none⟩ = some (.int .i64 bx) := by rw [HB5.out.cell (p := ⟨_, _, none⟩) (by simp <;> omega)]; simp [go_sem]
  have x53 : w5.cell? ⟨w.heap.size + 1, 1, none⟩ = some (.int .i64 by') := by rw [HB5.out.cell (p := ⟨_, _, none⟩) (by simp <;> omega)]; simp [go_sem]
  have x54 : w5.cell? ⟨w.heap.size + 1 + 1, 0, none⟩ = some (.int .i64 cx) := by rw [HB5.out.cell (p := ⟨_, _, none⟩) (by simp <;> omega)]; simp [go_sem]
  have x55 : w5.cell? ⟨w.heap.size + 1 + 1, 1, none⟩ = some (.int .i64 cy) := by rw [HB5.out.cell (p := ⟨_, _, none⟩) (by simp <;> omega)]; simp [go_sem]
  go_wp2_with fail
  (go_at_call 24; refine (ceil_in _ _ _ ⟨by omega, by omega⟩ ⟨by omega, by omega⟩).mono ?_; rintro e w6 ⟨rfl, hb1⟩)
  have HB6 : Hid (Below (((w.alloc (.cells #[.int .i64 ax, .int .i64 ay] 43)).alloc (.cells #[.int .i64 bx, .int .i64 by'] 43)).alloc (.cells #[.int .i64 cx, .int .i64 cy] 43)).heap.size (((w.alloc (.cells #[.int .i64 ax, .int .i64 ay] 43)).alloc (.cells #[.int .i64 bx, .int .i64 by'] 43)).alloc (.cells #[.int .i64 cx, .int .i64 cy] 43)) w6) := HB5.out.trans (hb1.mono HB5.out.size)
  clear hb1
  have z6 : w.heap.size + 1 + 1 < w6.heap.size := by have := HB6.out.size; simp at this; omega
  have z6a : w.heap.size + 1 < w6.heap.size := by omega
  have z6b : w.heap.size < w6.heap.size := by omega
  have x60 : w6.cell? ⟨w.heap.size, 0, none⟩ = some (.int .i64 ax) := by rw [HB6.out.cell (p := ⟨_, _, none⟩) (by simp <;> omega)]; simp [go_sem]
  have x61 : w6.cell? ⟨w.heap.size, 1, none⟩ = some (.int .i64 ay) := by rw [HB6.out.cell (p := ⟨_, _, none⟩) (by simp <;> omega)]; simp [go_sem]
  have x62 : w6.cell? ⟨w.heap.size + 1, 0, none⟩ = some (.int .i64 bx) := by rw [HB6.out.cell (p := ⟨_, _, none⟩) (by simp <;> omega)]; simp [go_sem]
  have x63 : w6.cell? ⟨w.heap.size + 1, 1, none⟩ = some (.int .i64 by') := by rw [HB6.out.cell (p := ⟨_, _, none⟩) (by simp <;> omega)]; simp [go_sem]
  have x64 : w6.cell? ⟨w.heap.size + 1 + 1, 0, none⟩ = some (.int .i64 cx) := by rw [HB6.out.cell (p := ⟨_, _, none⟩) (by simp <;> omega)]; simp [go_sem]
  have x65 : w6.cell? ⟨w.heap.size + 1 + 1, 1, none⟩ = some (.int .i64 cy) := by rw [HB6.out.cell (p := ⟨_, _, none⟩) (by simp <;> omega)]; simp [go_sem]
  go_wp2_with fail
  (go_at_call 24; refine (ceil_in _ _ _ ⟨by omega, by omega⟩ ⟨by omega, by omega⟩).mono ?_; rintro e w7 ⟨rfl, hb1⟩)
  have HB7 : Hid (Below (((w.alloc (.cells #[.int .i64 ax, .int .i64 ay] 43)).alloc (.cells #[.int .i64 bx, .int .i64 by'] 43)).alloc (.cells #[.int .i64 cx, .int .i64 cy] 43)).heap.size (((w.alloc (.cells #[.int .i64 ax, .int .i64 ay] 43)).alloc (.cells #[.int .i64 bx, .int .i64 by'] 43)).alloc (.cells #[.int .i64 cx, .int .i64 cy] 43)) w7) := HB6.out.trans (hb1.mono HB6.out.size)
  clear hb1
  have z7 : w.heap.size + 1 + 1 < w7.heap.size := by have := HB7.out.size; simp at this; omega
  have z7a : w.heap.size + 1 < w7.heap.size := by omega
  have z7b : w.heap.size < w7.heap.size := by omega
  have x70 : w7.cell? ⟨w.heap.size, 0, none⟩ = some (.int .i64 ax) := by rw [HB7.out.cell (p := ⟨_, _, none⟩) (by simp <;> omega)]; simp [go_sem]
  have x71 : w7.cell? ⟨w.heap.size, 1, none⟩ = some (.int .i64 ay) := by rw [HB7.out.cell (p := ⟨_, _, none⟩) (by simp <;> omega)]; simp [go_sem]
  have x72 : w7.cell? ⟨w.heap.size + 1, 0, none⟩ = some (.int .i64 bx) := by rw [HB7.out.cell (p := ⟨_, _, none⟩) (by simp <;> omega)]; simp [go_sem]
  have x73 : w7.cell? ⟨w.heap.size + 1, 1, none⟩ = some (.int .i64 by') := by rw [HB7.out.cell (p := ⟨_, _, none⟩) (by simp <;> omega)]; simp [go_sem]
  have x74 : w7.cell? ⟨w.heap.size + 1 + 1, 0, none⟩ = some (.int .i64 cx) := by rw [HB7.out.cell (p := ⟨_, _, none⟩) (by simp <;> omega)]; simp [go_sem]
  have x75 : w7.cell? ⟨w.heap.size + 1 + 1, 1, none⟩ = some (.int .i64 cy) := by rw [HB7.out.cell (p := ⟨_, _, none⟩) (by simp <;> omega)]; simp [go_sem]
  go_wp2
  go_returns
  exact ⟨rfl, below_step (w := w) (by go_grown) HB7.out⟩
set_option maxRecDepth 20000 in
set_option maxHeartbeats 4000000 in
theorem share_gy (mass ax ay bx by' cx cy : Int) (w : World) (hm0 : 0 ≤ mass) (hm1 : mass ≤ 1099511627776) (ha : InP ax ay) (hb : InP bx by') (hc : InP cx cy) (g0 : mn ax bx ≤ cx) (g1 : cx ≤ mx ax bx) (g2 : mn ay by' ≤ cy) (g3 : cy ≤ mx ay by') (heq : decide ((ax, ay) = (bx, by')) = false) (hx : (bx - ax) * (cy - ay) = (by' - ay) * (cx - ax)) (u1 u2 u3 v1 v2 v3 : Int) (hu1 : ab (bx - ax) = u1) (hu2 : ab (cx - ax) = u2) (hu3 : ab (bx - cx) = u3) (hv1 : ab (by' - ay) = v1) (hv2 : ab (cy - ay) = v2) (hv3 : ab (by' - cy) = v3) (hd : u1 < v1) : Calls Tryd.prog 41 #[.int .i64 mass, .agg #[.int .i64 ax, .int .i64 ay], .agg #[.int .i64 bx, .int .i64 by'], .agg #[.int .i64 cx, .int .i64 cy]] w fun e w' => e = .returned (.tuple #[.int .i64 (ceilF (mass * v3) v1), .int .i64 (ceilF (mass * v2) v1), .int .i64 0]) ∧ Below w.heap.size w w' := by
  have HA := ha
  have HBB := hb
  have HCC := hc
  obtain ⟨a0, a1, a2, a3⟩ := HA
  obtain ⟨b0, b1, b2, b3⟩ := HBB
  obtain ⟨c0, c1, c2, c3⟩ := HCC
  obtain ⟨m0, m1⟩ := mul_in (x := bx - ax) (y := cy - ay) (B := 2097152) (C := 2097152) ⟨by omega, by omega⟩ ⟨by omega, by omega⟩
  obtain ⟨m2, m3⟩ := mul_in (x := by' - ay) (y := cx - ax) (B := 2097152) (C := 2097152) ⟨by omega, by omega⟩ ⟨by omega, by omega⟩
  simp only [Int.reduceMul, Int.reduceNeg] at m0 m1 m2 m3
  have hmx := run_mx
  have hmn := run_mn
  have hpt := fun W => eql_point ax ay bx by' W
  rw [heq] at hpt
  have k : ((bx - ax) * (cy - ay) != (by' - ay) * (cx - ax)) = false := by simpa using hx
  clear hx
  obtain ⟨u1a, u1b⟩ := ab_in (n := bx - ax) (B := 2097152) ⟨by omega, by omega⟩
  obtain ⟨u2a, u2b⟩ := ab_in (n := cx - ax) (B := 2097152) ⟨by omega, by omega⟩
  obtain ⟨u3a, u3b⟩ := ab_in (n := bx - cx) (B := 2097152) ⟨by omega, by omega⟩
  obtain ⟨v1a, v1b⟩ := ab_in (n := by' - ay) (B := 2097152) ⟨by omega, by omega⟩
  obtain ⟨v2a, v2b⟩ := ab_in (n := cy - ay) (B := 2097152) ⟨by omega, by omega⟩
  obtain ⟨v3a, v3b⟩ := ab_in (n := by' - cy) (B := 2097152) ⟨by omega, by omega⟩
  rw [hu1] at u1a u1b
  rw [hu2] at u2a u2b
  rw [hu3] at u3a u3b
  rw [hv1] at v1a v1b
  rw [hv2] at v2a v2b
  rw [hv3] at v3a v3b
  have p0 : 0 ≤ mass * v3 := Int.mul_nonneg hm0 (by omega)
  have p1 : mass * v3 ≤ 1099511627776 * 2097152 := (mul_in (B := 1099511627776) (C := 2097152) ⟨by omega, by omega⟩ ⟨by omega, by omega⟩).2
  have p2 : 0 ≤ mass * v2 := Int.mul_nonneg hm0 (by omega)
  have p3 : mass * v2 ≤ 1099511627776 * 2097152 := (mul_in (B := 1099511627776) (C := 2097152) ⟨by omega, by omega⟩ ⟨by omega, by omega⟩).2
  simp only [Int.reduceMul] at p1 p3
  have hpc := past_cell
  go_enter Tryd.func41, Tryd.ntmps41
  go_wp2_with fail
  (go_at_call 56; refine (inside_yes ax ay _ (by assumption)).mono ?_; rintro e w1 ⟨rfl, hb1⟩)
  have HB1 : Hid (Below (((w.alloc (.cells #[.int .i64 ax, .int .i64 ay] 43)).alloc (.cells #[.int .i64 bx, .int .i64 by'] 43)).alloc (.cells #[.int .i64 cx, .int .i64 cy] 43)).heap.size (((w.alloc (.cells #[.int .i64 ax, .int .i64 ay] 43)).alloc (.cells #[.int .i64 bx, .int .i64 by'] 43)).alloc (.cells #[.int .i64 cx, .int .i64 cy] 43)) w1) := hb1
  clear hb1
  have z1 : w.heap.size + 1 + 1 < w1.heap.size := by have := HB1.out.size; simp at this; omega
  have z1a : w.heap.size + 1 < w1.heap.size := by omega
  have z1b : w.heap.size < w1.heap.size := by omega
  have x10 : w1.cell? ⟨w.heap.size, 0, none⟩ = some (.int .i64 ax) := by rw [HB1.out.cell (p := ⟨_, _, none⟩) (by simp <;> omega)]; simp [go_sem]
  have x11 : w1.cell? ⟨w.heap.size, 1, none⟩ = some (.int .i64 ay) := by rw [HB1.out.cell (p := ⟨_, _, none⟩) (by simp <;> omega)]; simp [go_sem]
  have x12 : w1.cell? ⟨w.heap.size + 1, 0, none⟩ = some (.int .i64 bx) := by rw [HB1.out.cell (p := ⟨_, _, none⟩) (by simp <;> omega)]; simp [go_sem]
  have x13 : w1.cell? ⟨w.heap.size + 1, 1, none⟩ = some (.int .i64 by') := by rw [HB1.out.cell (p := ⟨_, _, none⟩) (by simp <;> omega)]; simp [go_sem]
  have x14 : w1.cell? ⟨w.heap.size + 1 + 1, 0, none⟩ = some (.int .i64 cx) := by rw [HB1.out.cell (p := ⟨_, _, none⟩) (by simp <;> omega)]; simp [go_sem]
  have x15 : w1.cell? ⟨w.heap.size + 1 + 1, 1, none⟩ = some (.int .i64 cy) := by rw [HB1.out.cell (p := ⟨_, _, none⟩) (by simp <;> omega)]; simp [go_sem]
  go_wp2_with fail
  (go_at_call 56; refine (inside_yes bx by' _ (by assumption)).mono ?_; rintro e w2 ⟨rfl, hb1⟩)
  have HB2 : Hid (Below (((w.alloc (.cells #[.int .i64 ax, .int .i64 ay] 43)).alloc (.cells #[.int .i64 bx, .int .i64 by'] 43)).alloc (.cells #[.int .i64 cx, .int .i64 cy] 43)).heap.size (((w.alloc (.cells #[.int .i64 ax, .int .i64 ay] 43)).alloc (.cells #[.int .i64 bx, .int .i64 by'] 43)).alloc (.cells #[.int .i64 cx, .int .i64 cy] 43)) w2) := HB1.out.trans (hb1.mono HB1.out.size)
  clear hb1
  have z2 : w.heap.size + 1 + 1 < w2.heap.size := by have := HB2.out.size; simp at this; omega
  have z2a : w.heap.size + 1 < w2.heap.size := by omega
  have z2b : w.heap.size < w2.heap.size := by omega
  have x20 : w2.cell? ⟨w.heap.size, 0, none⟩ = some (.int .i64 ax) := by rw [HB2.out.cell (p := ⟨_, _, none⟩) (by simp <;> omega)]; simp [go_sem]
  have x21 : w2.cell? ⟨w.heap.size, 1, none⟩ = some (.int .i64 ay) := by rw [HB2.out.cell (p := ⟨_, _, none⟩) (by simp <;> omega)]; simp [go_sem]
  have x22 : w2.cell? ⟨w.heap.size + 1, 0, none⟩ = some (.int .i64 bx) := by rw [HB2.out.cell (p := ⟨_, _, none⟩) (by simp <;> omega)]; simp [go_sem]
  have x23 : w2.cell? ⟨w.heap.size + 1, 1, none⟩ = some (.int .i64 by') := by rw [HB2.out.cell (p := ⟨_, _, none⟩) (by simp <;> omega)]; simp [go_sem]
  have x24 : w2.cell? ⟨w.heap.size + 1 + 1, 0, none⟩ = some (.int .i64 cx) := by rw [HB2.out.cell (p := ⟨_, _, none⟩) (by simp <;> omega)]; simp [go_sem]
  have x25 : w2.cell? ⟨w.heap.size + 1 + 1, 1, none⟩ = some (.int .i64 cy) := by rw [HB2.out.cell (p := ⟨_, _, none⟩) (by simp <;> omega)]; simp [go_sem]
  go_wp2_with fail
  (go_at_call 56; refine (inside_yes cx cy _ (by assumption)).mono ?_; rintro e w3 ⟨rfl, hb1⟩)
  have HB3 : Hid (Below (((w.alloc (.cells #[.int .i64 ax, .int .i64 ay] 43)).alloc (.cells #[.int .i64 bx, .int .i64 by'] 43)).alloc (.cells #[.int .i64 cx, .int .i64 cy] 43)).heap.size (((w.alloc (.cells #[.int .i64 ax, .int .i64 ay] 43)).alloc (.cells #[.int .i64 bx, .int .i64 by'] 43)).alloc (.cells #[.int .i64 cx, .int .i64 cy] 43)) w3) := HB2.out.trans (hb1.mono HB2.out.size)
  clear hb1
  have z3 : w.heap.size + 1 + 1 < w3.heap.size := by have := HB3.out.size; simp at this; omega
  have z3a : w.heap.size + 1 < w3.heap.size := by omega
  have z3b : w.heap.size < w3.heap.size := by omega
  have x30 : w3.cell? ⟨w.heap.size, 0, none⟩ = some (.int .i64 ax) := by rw [HB3.out.cell (p := ⟨_, _, none⟩) (by simp <;> omega)]; simp [go_sem]
  have x31 : w3.cell? ⟨w.heap.size, 1, none⟩ = some (.int .i64 ay) := by rw [HB3.out.cell (p := ⟨_, _, none⟩) (by simp <;> omega)]; simp [go_sem]
  have x32 : w3.cell? ⟨w.heap.size + 1, 0, none⟩ = some (.int .i64 bx) := by rw [HB3.out.cell (p := ⟨_, _, none⟩) (by simp <;> omega)]; simp [go_sem]
  have x33 : w3.cell? ⟨w.heap.size + 1, 1, none⟩ = some (.int .i64 by') := by rw [HB3.out.cell (p := ⟨_, _, none⟩) (by simp <;> omega)]; simp [go_sem]
  have x34 : w3.cell? ⟨w.heap.size + 1 + 1, 0, none⟩ = some (.int .i64 cx) := by rw [HB3.out.cell (p := ⟨_, _, none⟩) (by simp <;> omega)]; simp [go_sem]
  have x35 : w3.cell? ⟨w.heap.size + 1 + 1, 1, none⟩ = some (.int .i64 cy) := by rw [HB3.out.cell (p := ⟨_, _, none⟩) (by simp <;> omega)]; simp [go_sem]
  go_wp2_with fail
  refine wp_region_past (by kernel_rfl) (by kernel_rfl) ?_
  iterate 5 go_big_quiet_step (fail)
  go_big_quiet_step ((go_at_call 57; exact past_of (length_in _ _ _ ⟨by omega, by omega⟩ hu1)))
  iterate 5 go_big_quiet_step (fail)
  go_big_quiet_step ((go_at_call 57; exact past_of (length_in _ _ _ ⟨by omega, by omega⟩ hu2)))
  iterate 5 go_big_quiet_step (fail)
  go_big_quiet_step ((go_at_call 57; exact past_of (length_in _ _ _ ⟨by omega, by omega⟩ hu3)))
  iterate 3 go_big_quiet_step (fail)
  refine wpQuiet_nil ?_
  intro w4 hw'
  have hb1 := past_out hw'
  clear hw'
  have HB4 : Hid (Below (((w.alloc (.cells #[.int .i64 ax, .int .i64 ay] 43)).alloc (.cells #[.int .i64 bx, .int .i64 by'] 43)).alloc (.cells #[.int .i64 cx, .int .i64 cy] 43)).heap.size (((w.alloc (.cells #[.int .i64 ax, .int .i64 ay] 43)).alloc (.cells #[.int .i64 bx, .int .i64 by'] 43)).alloc (.cells #[.int .i64 cx, .int .i64 cy] 43)) w4) := HB3.out.trans (hb1.mono HB3.out.size)
  clear hb1
  have z4 : w.heap.size + 1 + 1 < w4.heap.size := by have := HB4.out.size; simp at this; omega
  have z4a : w.heap.size + 1 < w4.heap.size := by omega
  have z4b : w.heap.size < w4.heap.size := by omega
  have x40 : w4.cell? ⟨w.heap.size, 0, none⟩ = some (.int .i64 ax) := by rw [HB4.out.cell (p := ⟨_, _, none⟩) (by simp <;> omega)]; simp [go_sem]
  have x41 : w4.cell? ⟨w.heap.size, 1, none⟩ = some (.int .i64 ay) := by rw [HB4.out.cell (p := ⟨_, _, none⟩) (by simp <;> omega)]; simp [go_sem]
  have x42 : w4.cell? ⟨w.heap.size + 1, 0, none⟩ = some (.int .i64 bx) := by rw [HB4.out.cell (p := ⟨_, _, none⟩) (by simp <;> omega)]; simp [go_sem]
  have x43 : w4.cell? ⟨w.heap.size + 1, 1, none⟩ = some (.int .i64 by') := by rw [HB4.out.cell (p := ⟨_, _, none⟩) (by simp <;> omega)]; simp [go_sem]
  have x44 : w4.cell? ⟨w.heap.size + 1 + 1, 0, none⟩ = some (.int .i64 cx) := by rw [HB4.out.cell (p := ⟨_, _, none⟩) (by simp <;> omega)]; simp [go_sem]
  have x45 : w4.cell? ⟨w.heap.size + 1 + 1, 1, none⟩ = some (.int .i64 cy) := by rw [HB4.out.cell (p := ⟨_, _, none⟩) (by simp <;> omega)]; simp [go_sem]
  go_wp2_with fail
  (go_at_call 57; refine (length_in _ _ _ ⟨by omega, by omega⟩ hv1).mono ?_; rintro e w5 ⟨rfl, hb1⟩)
  have HB5 : Hid (Below (((w.alloc (.cells #[.int .i64 ax, .int .i64 ay] 43)).alloc (.cells #[.int .i64 bx, .int .i64 by'] 43)).alloc (.cells #[.int .i64 cx, .int .i64 cy] 43)).heap.size (((w.alloc (.cells #[.int .i64 ax, .int .i64 ay] 43)).alloc (.cells #[.int .i64 bx, .int .i64 by'] 43)).alloc (.cells #[.int .i64 cx, .int .i64 cy] 43)) w5) := HB4.out.trans (hb1.mono HB4.out.size)
  clear hb1
  have z5 : w.heap.size + 1 + 1 < w5.heap.size := by have := HB5.out.size; simp at this; omega
  have z5a : w.heap.size + 1 < w5.heap.size := by omega
  have z5b : w.heap.size < w5.heap.size := by omega
  have x50 : w5.cell? ⟨w.heap.size, 0, none⟩ = some (.int .i64 ax) := by rw [HB5.out.cell (p := ⟨_, _, none⟩) (by simp <;> omega)]; simp [go_sem]
  have x51 : w5.cell? ⟨w.heap.size, 1, none⟩ = some (.int .i64 ay) := by rw [HB5.out.cell (p := ⟨_, _, none⟩) (by simp <;> omega)]; simp [go_sem]
  have x52 : w5.cell? ⟨w.heap.size + 1, 0, none⟩ = some (.int .i64 bx) := by rw [HB5.out.cell (p := ⟨_, _, none⟩) (by simp <;> omega)]; simp [go_sem]
  have x53 : w5.cell? ⟨w.heap.size + 1, 1, none⟩ = some (.int .i64 by') := by rw [HB5.out.cell (p := ⟨_, _, none⟩) (by simp <;> omega)]; simp [go_sem]
  have x54 : w5.cell? ⟨w.heap.size + 1 + 1, 0, none⟩ = some (.int .i64 cx) := by rw [HB5.out.cell (p := ⟨_, _, none⟩) (by simp <;> omega)]; simp [go_sem]
  have x55 : w5.cell? ⟨w.heap.size + 1 + 1, 1, none⟩ = some (.int .i64 cy) := by rw [HB5.out.cell (p := ⟨_, _, none⟩) (by simp <;> omega)]; simp [go_sem]
  go_wp2_with fail
  refine wp_region_past (by kernel_rfl) (by kernel_rfl) ?_
  iterate 5 go_big_quiet_step (fail)
  go_big_quiet_step ((go_at_call 57; exact past_of (length_in _ _ _ ⟨by omega, by omega⟩ hv1)))
  iterate 5 go_big_quiet_step (fail)
  go_big_quiet_step ((go_at_call 57; exact past_of (length_in _ _ _ ⟨by omega, by omega⟩ hv2)))
  iterate 5 go_big_quiet_step (fail)
  go_big_quiet_step ((go_at_call 57; exact past_of (length_in _ _ _ ⟨by omega, by omega⟩ hv3)))
  iterate 3 go_big_quiet_step (fail)
  refine wpQuiet_nil ?_
  intro w6 hw'
  have hb1 := past_out hw'
  clear hw'
  have HB6 : Hid (Below (((w.alloc (.cells #[.int .i64 ax, .int .i64 ay] 43)).alloc (.cells #[.int .i64 bx, .int .i64 by'] 43)).alloc (.cells #[.int .i64 cx, .int .i64 cy] 43)).heap.size (((w.alloc (.cells #[.int .i64 ax, .int .i64 ay] 43)).alloc (.cells #[.int .i64 bx, .int .i64 by'] 43)).alloc (.cells #[.int .i64 cx, .int .i64 cy] 43)) w6) := HB5.out.trans (hb1.mono HB5.out.size)
  clear hb1
  have z6 : w.heap.size + 1 + 1 < w6.heap.size := by have := HB6.out.size; simp at this; omega
  have z6a : w.heap.size + 1 < w6.heap.size := by omega
  have z6b : w.heap.size < w6.heap.size := by omega
  have x60 : w6.cell? ⟨w.heap.size, 0, none⟩ = some (.int .i64 ax) := by rw [HB6.out.cell (p := ⟨_, _, none⟩) (by simp <;> omega)]; simp [go_sem]
  have x61 : w6.cell? ⟨w.heap.size, 1, none⟩ = some (.int .i64 ay) := by rw [HB6.out.cell (p := ⟨_, _, none⟩) (by simp <;> omega)]; simp [go_sem]
  have x62 : w6.cell? ⟨w.heap.size + 1, 0, none⟩ = some (.int .i64 bx) := by rw [HB6.out.cell (p := ⟨_, _, none⟩) (by simp <;> omega)]; simp [go_sem]
  have x63 : w6.cell? ⟨w.heap.size + 1, 1, none⟩ = some (.int .i64 by') := by rw [HB6.out.cell (p := ⟨_, _, none⟩) (by simp <;> omega)]; simp [go_sem]
  have x64 : w6.cell? ⟨w.heap.size + 1 + 1, 0, none⟩ = some (.int .i64 cx) := by rw [HB6.out.cell (p := ⟨_, _, none⟩) (by simp <;> omega)]; simp [go_sem]
  have x65 : w6.cell? ⟨w.heap.size + 1 + 1, 1, none⟩ = some (.int .i64 cy) := by rw [HB6.out.cell (p := ⟨_, _, none⟩) (by simp <;> omega)]; simp [go_sem]
  go_wp2_with fail
  (go_at_call 24; refine (ceil_in _ _ _ ⟨by omega, by omega⟩ ⟨by omega, by omega⟩).mono ?_; rintro e w7 ⟨rfl, hb1⟩)
  have HB7 : Hid (Below (((w.alloc (.cells #[.int .i64 ax, .int .i64 ay] 43)).alloc (.cells #[.int .i64 bx, .int .i64 by'] 43)).alloc (.cells #[.int .i64 cx, .int .i64 cy] 43)).heap.size (((w.alloc (.cells #[.int .i64 ax, .int .i64 ay] 43)).alloc (.cells #[.int .i64 bx, .int .i64 by'] 43)).alloc (.cells #[.int .i64 cx, .int .i64 cy] 43)) w7) := HB6.out.trans (hb1.mono HB6.out.size)
  clear hb1
  have z7 : w.heap.size + 1 + 1 < w7.heap.size := by have := HB7.out.size; simp at this; omega
  have z7a : w.heap.size + 1 < w7.heap.size := by omega
  have z7b : w.heap.size < w7.heap.size := by omega
  have x70 : w7.cell? ⟨w.heap.size, 0, none⟩ = some (.int .i64 ax) := by rw [HB7.out.cell (p := ⟨_, _, none⟩) (by simp <;> omega)]; simp [go_sem]
  have x71 : w7.cell? ⟨w.heap.size, 1, none⟩ = some (.int .i64 ay) := by rw [HB7.out.cell (p := ⟨_, _, none⟩) (by simp <;> omega)]; simp [go_sem]
  have x72 : w7.cell? ⟨w.heap.size + 1, 0, none⟩ = some (.int .i64 bx) := by rw [HB7.out.cell (p := ⟨_, _, none⟩) (by simp <;> omega)]; simp [go_sem]
  have x73 : w7.cell? ⟨w.heap.size + 1, 1, none⟩ = some (.int .i64 by') := by rw [HB7.out.cell (p := ⟨_, _, none⟩) (by simp <;> omega)]; simp [go_sem]
  have x74 : w7.cell? ⟨w.heap.size + 1 + 1, 0, none⟩ = some (.int .i64 cx) := by rw [HB7.out.cell (p := ⟨_, _, none⟩) (by simp <;> omega)]; simp [go_sem]
  have x75 : w7.cell? ⟨w.heap.size + 1 + 1, 1, none⟩ = some (.int .i64 cy) := by rw [HB7.out.cell (p := ⟨_, _, none⟩) (by simp <;> omega)]; simp [go_sem]
  go_wp2_with fail
  (go_at_call 24; refine (ceil_in _ _ _ ⟨by omega, by omega⟩ ⟨by omega, by omega⟩).mono ?_; rintro e w8 ⟨rfl, hb1⟩)
  have HB8 : Hid (Below (((w.alloc (.cells #[.int .i64 ax, .int .i64 ay] 43)).alloc (.cells #[.int .i64 bx, .int .i64 by'] 43)).alloc (.cells #[.int .i64 cx, .int .i64 cy] 43)).heap.size (((w.alloc (.cells #[.int .i64 ax, .int .i64 ay] 43)).alloc (.cells #[.int .i64 bx, .int .i64 by'] 43)).alloc (.cells #[.int .i64 cx, .int .i64 cy] 43)) w8) := HB7.out.trans (hb1.mono HB7.out.size)
  clear hb1
  have z8 : w.heap.size + 1 + 1 < w8.heap.size := by have := HB8.out.size; simp at this; omega
  have z8a : w.heap.size + 1 < w8.heap.size := by omega
  have z8b : w.heap.size < w8.heap.size := by omega
  have x80 : w8.cell? ⟨w.heap.size, 0, none⟩ = some (.int .i64 ax) := by rw [HB8.out.cell (p := ⟨_, _, none⟩) (by simp <;> omega)]; simp [go_sem]
  have x81 : w8.cell? ⟨w.heap.size, 1, none⟩ = some (.int .i64 ay) := by rw [HB8.out.cell (p := ⟨_, _, none⟩) (by simp <;> omega)]; simp [go_sem]
  have x82 : w8.cell? ⟨w.heap.size + 1, 0, none⟩ = some (.int .i64 bx) := by rw [HB8.out.cell (p := ⟨_, _, none⟩) (by simp <;> omega)]; simp [go_sem]
  have x83 : w8.cell? ⟨w.heap.size + 1, 1, none⟩ = some (.int .i64 by') := by rw [HB8.out.cell (p := ⟨_, _, none⟩) (by simp <;> omega)]; simp [go_sem]
  have x84 : w8.cell? ⟨w.heap.size + 1 + 1, 0, none⟩ = some (.int .i64 cx) := by rw [HB8.out.cell (p := ⟨_, _, none⟩) (by simp <;> omega)]; simp [go_sem]
  have x85 : w8.cell? ⟨w.heap.size + 1 + 1, 1, none⟩ = some (.int .i64 cy) := by rw [HB8.out.cell (p := ⟨_, _, none⟩) (by simp <;> omega)]; simp [go_sem]
  go_wp2
  go_returns
  exact ⟨rfl, below_step (w := w) (by go_grown) HB8.out⟩
end Go.Proofs.YtbfbifogamlepaaDoor
