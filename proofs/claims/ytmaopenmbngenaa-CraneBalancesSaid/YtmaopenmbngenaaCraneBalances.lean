/-
  The law CraneBalances. Conditions: none. By an AI agent.
-/
import Derived.Test.YtmaopenmbngenaaCraneM
import Derived.Test.YtmaopenmbngenaaRows
namespace Go.Proofs.Ytmaopenmbngenaa
open Go Go.ChangeShapes Go.WideShapes Go.RowKit Go.ChangeAt
set_option linter.unusedSimpArgs false
set_option linter.unusedVariables false

theorem ceil_low (x W : Int) (hW : 0 < W) (hx : 0 ≤ x) : 0 ≤ ceilF x W ∧ x ≤ W * ceilF x W ∧ W * ceilF x W ≤ x + W - 1 := by
  have h1 := Int.mul_ediv_add_emod x W
  have h2 := Int.emod_nonneg x (show W ≠ 0 by omega)
  have h3 := Int.emod_lt_of_pos x hW
  have h4 : 0 ≤ x / W := Int.ediv_nonneg hx (by omega)
  unfold ceilF
  split
  · exact ⟨h4, by omega, by omega⟩
  · rw [Int.mul_add, Int.mul_one]
    exact ⟨by omega, by omega, by omega⟩
theorem balance (m W l r : Int) (hm : 0 ≤ m) (hW : 0 < W) (hl : 0 ≤ l) (hr : 0 ≤ r) (hs : l + r = W) :
    0 ≤ ceilF (m * r) W ∧ 0 ≤ ceilF (m * l) W ∧ ceilF (m * r) W ≤ m ∧ ceilF (m * l) W ≤ m ∧ (ceilF (m * r) W + ceilF (m * l) W = m ∨ ceilF (m * r) W + ceilF (m * l) W = m + 1) := by
  have hmr := Int.mul_nonneg hm hr
  have hml := Int.mul_nonneg hm hl
  obtain ⟨a0, a1, a2⟩ := ceil_low (m * r) W hW hmr
  obtain ⟨b0, b1, b2⟩ := ceil_low (m * l) W hW hml
  have e : m * r + m * l = W * m := by rw [← Int.mul_add, show r + l = W by omega, Int.mul_comm]
  generalize ceilF (m * r) W = a at *
  generalize ceilF (m * l) W = b at *
  have c1 : a < m + 1 := Int.lt_of_mul_lt_mul_left (a := W) (by rw [Int.mul_add, Int.mul_one]; omega) (by omega)
  have c2 : b < m + 1 := Int.lt_of_mul_lt_mul_left (a := W) (by rw [Int.mul_add, Int.mul_one]; omega) (by omega)
  have c3 : m ≤ a + b := Int.le_of_mul_le_mul_left (a := W) (by rw [Int.mul_add]; omega) hW
  have c4 : a + b < m + 2 := Int.lt_of_mul_lt_mul_left (a := W) (by rw [Int.mul_add, Int.mul_add]; omega) (by omega)
  exact ⟨a0, b0, by omega, by omega, by omega⟩
theorem ab_nat (n : Int) : ab n = (n.natAbs : Int) := by unfold ab mx; split <;> omega
theorem seg_sum {a b c : Int} (h1 : mn a b ≤ c) (h2 : c ≤ mx a b) : ab (c - a) + ab (b - c) = ab (b - a) := by
  rw [ab_nat, ab_nat, ab_nat]
  unfold mn at h1
  unfold mx at h2
  split at h1 <;> split at h2 <;> omega
theorem mn_comm (a b : Int) : mn a b = mn b a := by unfold mn; split <;> split <;> omega
theorem mx_comm (a b : Int) : mx a b = mx b a := by unfold mx; split <;> split <;> omega
theorem onSeg_swap {ax ay bx by' cx cy : Int} (h : OnSeg ax ay bx by' cx cy) : OnSeg bx by' ax ay cx cy := by
  obtain ⟨h0, h1, h2, h3, h4⟩ := h
  refine ⟨?_, by rw [mn_comm]; exact h1, by rw [mx_comm]; exact h2, by rw [mn_comm]; exact h3, by rw [mx_comm]; exact h4⟩
  rw [show ax - bx = -(bx - ax) by omega, show cy - by' = -(by' - cy) by omega, Int.neg_mul_neg, show ay - by' = -(by' - ay) by omega, show cx - bx = -(bx - cx) by omega, Int.neg_mul_neg,
    show by' - cy = (by' - ay) - (cy - ay) by omega, show bx - cx = (bx - ax) - (cx - ax) by omega, Int.mul_sub (bx - ax) (by' - ay) (cy - ay), Int.mul_sub (by' - ay) (bx - ax) (cx - ax), h0, Int.mul_comm (bx - ax) (by' - ay)]
theorem share_swap (mass ax ay bx by' cx cy : Int) : shareF mass bx by' ax ay cx cy = ((shareF mass ax ay bx by' cx cy).2.1, (shareF mass ax ay bx by' cx cy).1, (shareF mass ax ay bx by' cx cy).2.2) := by
  have hin : ShareIn mass bx by' ax ay cx cy ↔ ShareIn mass ax ay bx by' cx cy := ⟨fun h => ⟨h.1, h.2.1, h.2.2.2.1, h.2.2.1, h.2.2.2.2⟩, fun h => ⟨h.1, h.2.1, h.2.2.2.1, h.2.2.1, h.2.2.2.2⟩⟩
  have hon : ShareOn bx by' ax ay cx cy ↔ ShareOn ax ay bx by' cx cy := ⟨fun h => ⟨fun e => h.1 e.symm, onSeg_swap h.2⟩, fun h => ⟨fun e => h.1 e.symm, onSeg_swap h.2⟩⟩
  unfold shareF
  rw [ab_sub ax bx, ab_sub ay by', ab_sub ay cy, ab_sub cy by', ab_sub ax cx, ab_sub cx bx]
  by_cases h1 : ShareIn mass ax ay bx by' cx cy
  · rw [if_pos h1, if_pos (hin.2 h1)]
    by_cases h2 : ShareOn ax ay bx by' cx cy
    · rw [if_pos h2, if_pos (hon.2 h2)]
      split <;> rfl
    · rw [if_neg h2, if_neg (fun h => h2 (hon.1 h))]
  · rw [if_neg h1, if_neg (fun h => h1 (hin.1 h))]
theorem ceil_whole {m W : Int} (hW : 0 < W) : ceilF (m * W) W = m := by
  unfold ceilF
  rw [if_pos (Int.mul_emod_left _ _), Int.mul_ediv_cancel _ (by omega)]
theorem ceil_none (m W : Int) : ceilF (m * 0) W = 0 := by
  unfold ceilF
  rw [Int.mul_zero, Int.zero_emod, if_pos rfl, Int.zero_ediv]
theorem ab_none (x : Int) : ab (x - x) = 0 := by rw [Int.sub_self]; rfl
/-- what the law asks of three loads -/
theorem share_facts {mass ax ay bx by' cx cy : Int} (h1 : ShareIn mass ax ay bx by' cx cy) (h2 : ShareOn ax ay bx by' cx cy) :
    shareF mass ax ay bx by' ax ay = (mass, 0, 0) ∧ ∃ a b, shareF mass ax ay bx by' cx cy = (a, b, 0) ∧ 0 ≤ a ∧ 0 ≤ b ∧ a ≤ mass ∧ b ≤ mass ∧ (a + b = mass ∨ a + b = mass + 1) := by
  have h3 : ShareIn mass ax ay bx by' ax ay := ⟨h1.1, h1.2.1, h1.2.2.1, h1.2.2.2.1, h1.2.2.1⟩
  have h4 : ShareOn ax ay bx by' ax ay := ⟨h2.1, by rw [Int.sub_self, Int.sub_self, Int.mul_zero, Int.mul_zero], by unfold mn; split <;> omega, by unfold mx; split <;> omega, by unfold mn; split <;> omega, by unfold mx; split <;> omega⟩
  obtain ⟨-, g0, g1, g2, g3⟩ := h2.2
  by_cases hd : ab (bx - ax) < ab (by' - ay)
  · have hW : 0 < ab (by' - ay) := by have := ab_nat (bx - ax); omega
    constructor
    · unfold shareF
      rw [if_pos h3, if_pos h4, if_pos hd, ceil_whole hW, ab_none, ceil_none]
    · refine ⟨_, _, by unfold shareF; rw [if_pos h1, if_pos h2, if_pos hd], ?_⟩
      exact balance mass _ _ _ h1.1 hW (by rw [ab_nat]; omega) (by rw [ab_nat]; omega) (seg_sum g2 g3)
  · have hW : 0 < ab (bx - ax) := by
      apply Classical.byContradiction
      intro hn
      have e1 := ab_zero (n := bx - ax) (by omega)
      have e2 := ab_zero (n := by' - ay) (by omega)
      exact h2.1 (by rw [show ax = bx by omega, show ay = by' by omega])
    constructor
    · unfold shareF
      rw [if_pos h3, if_pos h4, if_neg hd, ceil_whole hW, ab_none, ceil_none]
    · refine ⟨_, _, by unfold shareF; rw [if_pos h1, if_pos h2, if_neg hd], ?_⟩
      exact balance mass _ _ _ h1.1 hW (by rw [ab_nat]; omega) (by rw [ab_nat]; omega) (seg_sum g0 g1)
set_option maxRecDepth 20000 in
set_option maxHeartbeats 4000000 in
theorem balances_e9 (mass ax ay bx by' cx cy : Int) (w : World) (h1 : shareF mass ax ay bx by' cx cy = (0, 0, 9)) (h2 : shareF mass bx by' ax ay cx cy = (0, 0, 9)) : Calls Try.prog 8 #[.int .i64 mass, .agg #[.int .i64 ax, .int .i64 ay, .int .i64 bx, .int .i64 by', .int .i64 cx, .int .i64 cy]] w fun e w' => e = .returned (.bool true) ∧ Below w.heap.size w w' := by
  have S1 := fun w => share_any mass ax ay bx by' cx cy w
  rw [h1, show shareV (0, 0, 9) = .tuple #[.int .i64 0, .int .i64 0, .int .i64 9] from rfl] at S1
  have SS1 := Lib.hid S1
  clear S1 h1
  have S2 := fun w => share_any mass bx by' ax ay cx cy w
  rw [h2, show shareV (0, 0, 9) = .tuple #[.int .i64 0, .int .i64 0, .int .i64 9] from rfl] at S2
  have SS2 := Lib.hid S2
  clear S2 h2
  go_enter Try.func8, Try.ntmps8
  go_wp2_with fail
  (go_at_call 22; refine (SS1.out _).mono ?_; rintro e w1 ⟨rfl, hb1⟩)
  have HB1 : Hid (Below (w.alloc (.cells #[.int .i64 ax, .int .i64 ay, .int .i64 bx, .int .i64 by', .int .i64 cx, .int .i64 cy] 41)).heap.size (w.alloc (.cells #[.int .i64 ax, .int .i64 ay, .int .i64 bx, .int .i64 by', .int .i64 cx, .int .i64 cy] 41)) w1) := hb1
  clear hb1
  have z1 : w.heap.size < w1.heap.size := by have := HB1.out.size; simp at this; omega
  have x10 : w1.cell? ⟨w.heap.size, 0, none⟩ = some (.int .i64 ax) := by rw [HB1.out.cell (p := ⟨_, _, none⟩) (by simp)]; simp [go_sem]
  have x11 : w1.cell? ⟨w.heap.size, 1, none⟩ = some (.int .i64 ay) := by rw [HB1.out.cell (p := ⟨_, _, none⟩) (by simp)]; simp [go_sem]
  have x12 : w1.cell? ⟨w.heap.size, 2, none⟩ = some (.int .i64 bx) := by rw [HB1.out.cell (p := ⟨_, _, none⟩) (by simp)]; simp [go_sem]
  have x13 : w1.cell? ⟨w.heap.size, 3, none⟩ = some (.int .i64 by') := by rw [HB1.out.cell (p := ⟨_, _, none⟩) (by simp)]; simp [go_sem]
  have x14 : w1.cell? ⟨w.heap.size, 4, none⟩ = some (.int .i64 cx) := by rw [HB1.out.cell (p := ⟨_, _, none⟩) (by simp)]; simp [go_sem]
  have x15 : w1.cell? ⟨w.heap.size, 5, none⟩ = some (.int .i64 cy) := by rw [HB1.out.cell (p := ⟨_, _, none⟩) (by simp)]; simp [go_sem]
  go_wp2_with fail
  (go_at_call 22; refine (SS2.out _).mono ?_; rintro e w2 ⟨rfl, hb1⟩)
  have HB2 : Hid (Below (w.alloc (.cells #[.int .i64 ax, .int .i64 ay, .int .i64 bx, .int .i64 by', .int .i64 cx, .int .i64 cy] 41)).heap.size (w.alloc (.cells #[.int .i64 ax, .int .i64 ay, .int .i64 bx, .int .i64 by', .int .i64 cx, .int .i64 cy] 41)) w2) := HB1.out.trans (hb1.mono HB1.out.size)
  clear hb1
  have z2 : w.heap.size < w2.heap.size := by have := HB2.out.size; simp at this; omega
  have x20 : w2.cell? ⟨w.heap.size, 0, none⟩ = some (.int .i64 ax) := by rw [HB2.out.cell (p := ⟨_, _, none⟩) (by simp)]; simp [go_sem]
  have x21 : w2.cell? ⟨w.heap.size, 1, none⟩ = some (.int .i64 ay) := by rw [HB2.out.cell (p := ⟨_, _, none⟩) (by simp)]; simp [go_sem]
  have x22 : w2.cell? ⟨w.heap.size, 2, none⟩ = some (.int .i64 bx) := by rw [HB2.out.cell (p := ⟨_, _, none⟩) (by simp)]; simp [go_sem]
  have x23 : w2.cell? ⟨w.heap.size, 3, none⟩ = some (.int .i64 by') := by rw [HB2.out.cell (p := ⟨_, _, none⟩) (by simp)]; simp [go_sem]
  have x24 : w2.cell? ⟨w.heap.size, 4, none⟩ = some (.int .i64 cx) := by rw [HB2.out.cell (p := ⟨_, _, none⟩) (by simp)]; simp [go_sem]
  have x25 : w2.cell? ⟨w.heap.size, 5, none⟩ = some (.int .i64 cy) := by rw [HB2.out.cell (p := ⟨_, _, none⟩) (by simp)]; simp [go_sem]
  go_wp2_with fail
  (go_at_call 12; refine (alive_any _).mono ?_; rintro e w3 ⟨rfl, hb1⟩)
  have HB3 : Hid (Below (w.alloc (.cells #[.int .i64 ax, .int .i64 ay, .int .i64 bx, .int .i64 by', .int .i64 cx, .int .i64 cy] 41)).heap.size (w.alloc (.cells #[.int .i64 ax, .int .i64 ay, .int .i64 bx, .int .i64 by', .int .i64 cx, .int .i64 cy] 41)) w3) := HB2.out.trans (hb1.mono HB2.out.size)
  clear hb1
  have z3 : w.heap.size < w3.heap.size := by have := HB3.out.size; simp at this; omega
  have x30 : w3.cell? ⟨w.heap.size, 0, none⟩ = some (.int .i64 ax) := by rw [HB3.out.cell (p := ⟨_, _, none⟩) (by simp)]; simp [go_sem]
  have x31 : w3.cell? ⟨w.heap.size, 1, none⟩ = some (.int .i64 ay) := by rw [HB3.out.cell (p := ⟨_, _, none⟩) (by simp)]; simp [go_sem]
  have x32 : w3.cell? ⟨w.heap.size, 2, none⟩ = some (.int .i64 bx) := by rw [HB3.out.cell (p := ⟨_, _, none⟩) (by simp)]; simp [go_sem]
  have x33 : w3.cell? ⟨w.heap.size, 3, none⟩ = some (.int .i64 by') := by rw [HB3.out.cell (p := ⟨_, _, none⟩) (by simp)]; simp [go_sem]
  have x34 : w3.cell? ⟨w.heap.size, 4, none⟩ = some (.int .i64 cx) := by rw [HB3.out.cell (p := ⟨_, _, none⟩) (by simp)]; simp [go_sem]
  have x35 : w3.cell? ⟨w.heap.size, 5, none⟩ = some (.int .i64 cy) := by rw [HB3.out.cell (p := ⟨_, _, none⟩) (by simp)]; simp [go_sem]
  go_wp2
  go_returns
  exact ⟨rfl, below_step (w := w) (by go_grown) HB3.out⟩
set_option maxRecDepth 20000 in
set_option maxHeartbeats 4000000 in
theorem balances_e17 (mass ax ay bx by' cx cy : Int) (w : World) (h1 : shareF mass ax ay bx by' cx cy = (0, 0, 17)) (h2 : shareF mass bx by' ax ay cx cy = (0, 0, 17)) : Calls Try.prog 8 #[.int .i64 mass, .agg #[.int .i64 ax, .int .i64 ay, .int .i64 bx, .int .i64 by', .int .i64 cx, .int .i64 cy]] w fun e w' => e = .returned (.bool true) ∧ Below w.heap.size w w' := by
  have S1 := fun w => share_any mass ax ay bx by' cx cy w
  rw [h1, show shareV (0, 0, 17) = .tuple #[.int .i64 0, .int .i64 0, .int .i64 17] from rfl] at S1
  have SS1 := Lib.hid S1
  clear S1 h1
  have S2 := fun w => share_any mass bx by' ax ay cx cy w
  rw [h2, show shareV (0, 0, 17) = .tuple #[.int .i64 0, .int .i64 0, .int .i64 17] from rfl] at S2
  have SS2 := Lib.hid S2
  clear S2 h2
  go_enter Try.func8, Try.ntmps8
  go_wp2_with fail
  (go_at_call 22; refine (SS1.out _).mono ?_; rintro e w1 ⟨rfl, hb1⟩)
  have HB1 : Hid (Below (w.alloc (.cells #[.int .i64 ax, .int .i64 ay, .int .i64 bx, .int .i64 by', .int .i64 cx, .int .i64 cy] 41)).heap.size (w.alloc (.cells #[.int .i64 ax, .int .i64 ay, .int .i64 bx, .int .i64 by', .int .i64 cx, .int .i64 cy] 41)) w1) := hb1
  clear hb1
  have z1 : w.heap.size < w1.heap.size := by have := HB1.out.size; simp at this; omega
  have x10 : w1.cell? ⟨w.heap.size, 0, none⟩ = some (.int .i64 ax) := by rw [HB1.out.cell (p := ⟨_, _, none⟩) (by simp)]; simp [go_sem]
  have x11 : w1.cell? ⟨w.heap.size, 1, none⟩ = some (.int .i64 ay) := by rw [HB1.out.cell (p := ⟨_, _, none⟩) (by simp)]; simp [go_sem]
  have x12 : w1.cell? ⟨w.heap.size, 2, none⟩ = some (.int .i64 bx) := by rw [HB1.out.cell (p := ⟨_, _, none⟩) (by simp)]; simp [go_sem]
  have x13 : w1.cell? ⟨w.heap.size, 3, none⟩ = some (.int .i64 by') := by rw [HB1.out.cell (p := ⟨_, _, none⟩) (by simp)]; simp [go_sem]
  have x14 : w1.cell? ⟨w.heap.size, 4, none⟩ = some (.int .i64 cx) := by rw [HB1.out.cell (p := ⟨_, _, none⟩) (by simp)]; simp [go_sem]
  have x15 : w1.cell? ⟨w.heap.size, 5, none⟩ = some (.int .i64 cy) := by rw [HB1.out.cell (p := ⟨_, _, none⟩) (by simp)]; simp [go_sem]
  go_wp2_with fail
  (go_at_call 22; refine (SS2.out _).mono ?_; rintro e w2 ⟨rfl, hb1⟩)
  have HB2 : Hid (Below (w.alloc (.cells #[.int .i64 ax, .int .i64 ay, .int .i64 bx, .int .i64 by', .int .i64 cx, .int .i64 cy] 41)).heap.size (w.alloc (.cells #[.int .i64 ax, .int .i64 ay, .int .i64 bx, .int .i64 by', .int .i64 cx, .int .i64 cy] 41)) w2) := HB1.out.trans (hb1.mono HB1.out.size)
  clear hb1
  have z2 : w.heap.size < w2.heap.size := by have := HB2.out.size; simp at this; omega
  have x20 : w2.cell? ⟨w.heap.size, 0, none⟩ = some (.int .i64 ax) := by rw [HB2.out.cell (p := ⟨_, _, none⟩) (by simp)]; simp [go_sem]
  have x21 : w2.cell? ⟨w.heap.size, 1, none⟩ = some (.int .i64 ay) := by rw [HB2.out.cell (p := ⟨_, _, none⟩) (by simp)]; simp [go_sem]
  have x22 : w2.cell? ⟨w.heap.size, 2, none⟩ = some (.int .i64 bx) := by rw [HB2.out.cell (p := ⟨_, _, none⟩) (by simp)]; simp [go_sem]
  have x23 : w2.cell? ⟨w.heap.size, 3, none⟩ = some (.int .i64 by') := by rw [HB2.out.cell (p := ⟨_, _, none⟩) (by simp)]; simp [go_sem]
  have x24 : w2.cell? ⟨w.heap.size, 4, none⟩ = some (.int .i64 cx) := by rw [HB2.out.cell (p := ⟨_, _, none⟩) (by simp)]; simp [go_sem]
  have x25 : w2.cell? ⟨w.heap.size, 5, none⟩ = some (.int .i64 cy) := by rw [HB2.out.cell (p := ⟨_, _, none⟩) (by simp)]; simp [go_sem]
  go_wp2_with fail
  (go_at_call 12; refine (alive_any _).mono ?_; rintro e w3 ⟨rfl, hb1⟩)
  have HB3 : Hid (Below (w.alloc (.cells #[.int .i64 ax, .int .i64 ay, .int .i64 bx, .int .i64 by', .int .i64 cx, .int .i64 cy] 41)).heap.size (w.alloc (.cells #[.int .i64 ax, .int .i64 ay, .int .i64 bx, .int .i64 by', .int .i64 cx, .int .i64 cy] 41)) w3) := HB2.out.trans (hb1.mono HB2.out.size)
  clear hb1
  have z3 : w.heap.size < w3.heap.size := by have := HB3.out.size; simp at this; omega
  have x30 : w3.cell? ⟨w.heap.size, 0, none⟩ = some (.int .i64 ax) := by rw [HB3.out.cell (p := ⟨_, _, none⟩) (by simp)]; simp [go_sem]
  have x31 : w3.cell? ⟨w.heap.size, 1, none⟩ = some (.int .i64 ay) := by rw [HB3.out.cell (p := ⟨_, _, none⟩) (by simp)]; simp [go_sem]
  have x32 : w3.cell? ⟨w.heap.size, 2, none⟩ = some (.int .i64 bx) := by rw [HB3.out.cell (p := ⟨_, _, none⟩) (by simp)]; simp [go_sem]
  have x33 : w3.cell? ⟨w.heap.size, 3, none⟩ = some (.int .i64 by') := by rw [HB3.out.cell (p := ⟨_, _, none⟩) (by simp)]; simp [go_sem]
  have x34 : w3.cell? ⟨w.heap.size, 4, none⟩ = some (.int .i64 cx) := by rw [HB3.out.cell (p := ⟨_, _, none⟩) (by simp)]; simp [go_sem]
  have x35 : w3.cell? ⟨w.heap.size, 5, none⟩ = some (.int .i64 cy) := by rw [HB3.out.cell (p := ⟨_, _, none⟩) (by simp)]; simp [go_sem]
  go_wp2
  go_returns
  exact ⟨rfl, below_step (w := w) (by go_grown) HB3.out⟩
set_option maxRecDepth 20000 in
set_option maxHeartbeats 4000000 in
theorem balances_ok0 (mass ax ay bx by' cx cy : Int) (w : World) (a b : Int) (h1 : shareF mass ax ay bx by' cx cy = (a, b, 0)) (h2 : shareF mass bx by' ax ay cx cy = (b, a, 0)) (h3 : shareF mass ax ay bx by' ax ay = (mass, 0, 0)) (m0 : 0 ≤ mass) (m1 : mass ≤ 1099511627776) (a0 : 0 ≤ a) (b0 : 0 ≤ b) (a1 : a ≤ mass) (b1 : b ≤ mass) (hs : a + b = mass) : Calls Try.prog 8 #[.int .i64 mass, .agg #[.int .i64 ax, .int .i64 ay, .int .i64 bx, .int .i64 by', .int .i64 cx, .int .i64 cy]] w fun e w' => e = .returned (.bool true) ∧ Below w.heap.size w w' := by
  have S1 := fun w => share_any mass ax ay bx by' cx cy w
  rw [h1, show shareV (a, b, 0) = .tuple #[.int .i64 a, .int .i64 b, .int .i64 0] from rfl] at S1
  have SS1 := Lib.hid S1
  clear S1 h1
  have S2 := fun w => share_any mass bx by' ax ay cx cy w
  rw [h2, show shareV (b, a, 0) = .tuple #[.int .i64 b, .int .i64 a, .int .i64 0] from rfl] at S2
  have SS2 := Lib.hid S2
  clear S2 h2
  have S3 := fun w => share_any mass ax ay bx by' ax ay w
  rw [h3, show shareV (mass, 0, 0) = .tuple #[.int .i64 mass, .int .i64 0, .int .i64 0] from rfl] at S3
  have SS3 := Lib.hid S3
  clear S3 h3
  have k1 : (a + b != mass) = false := by simpa using hs
  clear hs
  go_enter Try.func8, Try.ntmps8
  go_wp2_with fail
  (go_at_call 22; refine (SS1.out _).mono ?_; rintro e w1 ⟨rfl, hb1⟩)
  have HB1 : Hid (Below (w.alloc (.cells #[.int .i64 ax, .int .i64 ay, .int .i64 bx, .int .i64 by', .int .i64 cx, .int .i64 cy] 41)).heap.size (w.alloc (.cells #[.int .i64 ax, .int .i64 ay, .int .i64 bx, .int .i64 by', .int .i64 cx, .int .i64 cy] 41)) w1) := hb1
  clear hb1
  have z1 : w.heap.size < w1.heap.size := by have := HB1.out.size; simp at this; omega
  have x10 : w1.cell? ⟨w.heap.size, 0, none⟩ = some (.int .i64 ax) := by rw [HB1.out.cell (p := ⟨_, _, none⟩) (by simp)]; simp [go_sem]
  have x11 : w1.cell? ⟨w.heap.size, 1, none⟩ = some (.int .i64 ay) := by rw [HB1.out.cell (p := ⟨_, _, none⟩) (by simp)]; simp [go_sem]
  have x12 : w1.cell? ⟨w.heap.size, 2, none⟩ = some (.int .i64 bx) := by rw [HB1.out.cell (p := ⟨_, _, none⟩) (by simp)]; simp [go_sem]
  have x13 : w1.cell? ⟨w.heap.size, 3, none⟩ = some (.int .i64 by') := by rw [HB1.out.cell (p := ⟨_, _, none⟩) (by simp)]; simp [go_sem]
  have x14 : w1.cell? ⟨w.heap.size, 4, none⟩ = some (.int .i64 cx) := by rw [HB1.out.cell (p := ⟨_, _, none⟩) (by simp)]; simp [go_sem]
  have x15 : w1.cell? ⟨w.heap.size, 5, none⟩ = some (.int .i64 cy) := by rw [HB1.out.cell (p := ⟨_, _, none⟩) (by simp)]; simp [go_sem]
  go_wp2_with fail
  (go_at_call 22; refine (SS2.out _).mono ?_; rintro e w2 ⟨rfl, hb1⟩)
  have HB2 : Hid (Below (w.alloc (.cells #[.int .i64 ax, .int .i64 ay, .int .i64 bx, .int .i64 by', .int .i64 cx, .int .i64 cy] 41)).heap.size (w.alloc (.cells #[.int .i64 ax, .int .i64 ay, .int .i64 bx, .int .i64 by', .int .i64 cx, .int .i64 cy] 41)) w2) := HB1.out.trans (hb1.mono HB1.out.size)
  clear hb1
  have z2 : w.heap.size < w2.heap.size := by have := HB2.out.size; simp at this; omega
  have x20 : w2.cell? ⟨w.heap.size, 0, none⟩ = some (.int .i64 ax) := by rw [HB2.out.cell (p := ⟨_, _, none⟩) (by simp)]; simp [go_sem]
  have x21 : w2.cell? ⟨w.heap.size, 1, none⟩ = some (.int .i64 ay) := by rw [HB2.out.cell (p := ⟨_, _, none⟩) (by simp)]; simp [go_sem]
  have x22 : w2.cell? ⟨w.heap.size, 2, none⟩ = some (.int .i64 bx) := by rw [HB2.out.cell (p := ⟨_, _, none⟩) (by simp)]; simp [go_sem]
  have x23 : w2.cell? ⟨w.heap.size, 3, none⟩ = some (.int .i64 by') := by rw [HB2.out.cell (p := ⟨_, _, none⟩) (by simp)]; simp [go_sem]
  have x24 : w2.cell? ⟨w.heap.size, 4, none⟩ = some (.int .i64 cx) := by rw [HB2.out.cell (p := ⟨_, _, none⟩) (by simp)]; simp [go_sem]
  have x25 : w2.cell? ⟨w.heap.size, 5, none⟩ = some (.int .i64 cy) := by rw [HB2.out.cell (p := ⟨_, _, none⟩) (by simp)]; simp [go_sem]
  go_wp2_with fail
  (go_at_call 22; refine (SS3.out _).mono ?_; rintro e w3 ⟨rfl, hb1⟩)
  have HB3 : Hid (Below (w.alloc (.cells #[.int .i64 ax, .int .i64 ay, .int .i64 bx, .int .i64 by', .int .i64 cx, .int .i64 cy] 41)).heap.size (w.alloc (.cells #[.int .i64 ax, .int .i64 ay, .int .i64 bx, .int .i64 by', .int .i64 cx, .int .i64 cy] 41)) w3) := HB2.out.trans (hb1.mono HB2.out.size)
  clear hb1
  have z3 : w.heap.size < w3.heap.size := by have := HB3.out.size; simp at this; omega
  have x30 : w3.cell? ⟨w.heap.size, 0, none⟩ = some (.int .i64 ax) := by rw [HB3.out.cell (p := ⟨_, _, none⟩) (by simp)]; simp [go_sem]
  have x31 : w3.cell? ⟨w.heap.size, 1, none⟩ = some (.int .i64 ay) := by rw [HB3.out.cell (p := ⟨_, _, none⟩) (by simp)]; simp [go_sem]
  have x32 : w3.cell? ⟨w.heap.size, 2, none⟩ = some (.int .i64 bx) := by rw [HB3.out.cell (p := ⟨_, _, none⟩) (by simp)]; simp [go_sem]
  have x33 : w3.cell? ⟨w.heap.size, 3, none⟩ = some (.int .i64 by') := by rw [HB3.out.cell (p := ⟨_, _, none⟩) (by simp)]; simp [go_sem]
  have x34 : w3.cell? ⟨w.heap.size, 4, none⟩ = some (.int .i64 cx) := by rw [HB3.out.cell (p := ⟨_, _, none⟩) (by simp)]; simp [go_sem]
  have x35 : w3.cell? ⟨w.heap.size, 5, none⟩ = some (.int .i64 cy) := by rw [HB3.out.cell (p := ⟨_, _, none⟩) (by simp)]; simp [go_sem]
  go_wp2_with fail
  (go_at_call 12; refine (alive_any _).mono ?_; rintro e w4 ⟨rfl, hb1⟩)
  have HB4 : Hid (Below (w.alloc (.cells #[.int .i64 ax, .int .i64 ay, .int .i64 bx, .int .i64 by', .int .i64 cx, .int .i64 cy] 41)).heap.size (w.alloc (.cells #[.int .i64 ax, .int .i64 ay, .int .i64 bx, .int .i64 by', .int .i64 cx, .int .i64 cy] 41)) w4) := HB3.out.trans (hb1.mono HB3.out.size)
  clear hb1
  have z4 : w.heap.size < w4.heap.size := by have := HB4.out.size; simp at this; omega
  have x40 : w4.cell? ⟨w.heap.size, 0, none⟩ = some (.int .i64 ax) := by rw [HB4.out.cell (p := ⟨_, _, none⟩) (by simp)]; simp [go_sem]
  have x41 : w4.cell? ⟨w.heap.size, 1, none⟩ = some (.int .i64 ay) := by rw [HB4.out.cell (p := ⟨_, _, none⟩) (by simp)]; simp [go_sem]
  have x42 : w4.cell? ⟨w.heap.size, 2, none⟩ = some (.int .i64 bx) := by rw [HB4.out.cell (p := ⟨_, _, none⟩) (by simp)]; simp [go_sem]
  have x43 : w4.cell? ⟨w.heap.size, 3, none⟩ = some (.int .i64 by') := by rw [HB4.out.cell (p := ⟨_, _, none⟩) (by simp)]; simp [go_sem]
  have x44 : w4.cell? ⟨w.heap.size, 4, none⟩ = some (.int .i64 cx) := by rw [HB4.out.cell (p := ⟨_, _, none⟩) (by simp)]; simp [go_sem]
  have x45 : w4.cell? ⟨w.heap.size, 5, none⟩ = some (.int .i64 cy) := by rw [HB4.out.cell (p := ⟨_, _, none⟩) (by simp)]; simp [go_sem]
  go_wp2
  go_returns
  exact ⟨rfl, below_step (w := w) (by go_grown) HB4.out⟩
set_option maxRecDepth 20000 in
set_option maxHeartbeats 4000000 in
theorem balances_ok1 (mass ax ay bx by' cx cy : Int) (w : World) (a b : Int) (h1 : shareF mass ax ay bx by' cx cy = (a, b, 0)) (h2 : shareF mass bx by' ax ay cx cy = (b, a, 0)) (h3 : shareF mass ax ay bx by' ax ay = (mass, 0, 0)) (m0 : 0 ≤ mass) (m1 : mass ≤ 1099511627776) (a0 : 0 ≤ a) (b0 : 0 ≤ b) (a1 : a ≤ mass) (b1 : b ≤ mass) (hs : a + b = mass + 1) : Calls Try.prog 8 #[.int .i64 mass, .agg #[.int .i64 ax, .int .i64 ay, .int .i64 bx, .int .i64 by', .int .i64 cx, .int .i64 cy]] w fun e w' => e = .returned (.bool true) ∧ Below w.heap.size w w' := by
  have S1 := fun w => share_any mass ax ay bx by' cx cy w
  rw [h1, show shareV (a, b, 0) = .tuple #[.int .i64 a, .int .i64 b, .int .i64 0] from rfl] at S1
  have SS1 := Lib.hid S1
  clear S1 h1
  have S2 := fun w => share_any mass bx by' ax ay cx cy w
  rw [h2, show shareV (b, a, 0) = .tuple #[.int .i64 b, .int .i64 a, .int .i64 0] from rfl] at S2
  have SS2 := Lib.hid S2
  clear S2 h2
  have S3 := fun w => share_any mass ax ay bx by' ax ay w
  rw [h3, show shareV (mass, 0, 0) = .tuple #[.int .i64 mass, .int .i64 0, .int .i64 0] from rfl] at S3
  have SS3 := Lib.hid S3
  clear S3 h3
  have k1 : (a + b != mass) = true := by simp; omega
  have k2 : (a + b != mass + 1) = false := by simpa using hs
  clear hs
  go_enter Try.func8, Try.ntmps8
  go_wp2_with fail
  (go_at_call 22; refine (SS1.out _).mono ?_; rintro e w1 ⟨rfl, hb1⟩)
  have HB1 : Hid (Below (w.alloc (.cells #[.int .i64 ax, .int .i64 ay, .int .i64 bx, .int .i64 by', .int .i64 cx, .int .i64 cy] 41)).heap.size (w.alloc (.cells #[.int .i64 ax, .int .i64 ay, .int .i64 bx, .int .i64 by', .int .i64 cx, .int .i64 cy] 41)) w1) := hb1
  clear hb1
  have z1 : w.heap.size < w1.heap.size := by have := HB1.out.size; simp at this; omega
  have x10 : w1.cell? ⟨w.heap.size, 0, none⟩ = some (.int .i64 ax) := by rw [HB1.out.cell (p := ⟨_, _, none⟩) (by simp)]; simp [go_sem]
  have x11 : w1.cell? ⟨w.heap.size, 1, none⟩ = some (.int .i64 ay) := by rw [HB1.out.cell (p := ⟨_, _, none⟩) (by simp)]; simp [go_sem]
  have x12 : w1.cell? ⟨w.heap.size, 2, none⟩ = some (.int .i64 bx) := by rw [HB1.out.cell (p := ⟨_, _, none⟩) (by simp)]; simp [go_sem]
  have x13 : w1.cell? ⟨w.heap.size, 3, none⟩ = some (.int .i64 by') := by rw [HB1.out.cell (p := ⟨_, _, none⟩) (by simp)]; simp [go_sem]
  have x14 : w1.cell? ⟨w.heap.size, 4, none⟩ = some (.int .i64 cx) := by rw [HB1.out.cell (p := ⟨_, _, none⟩) (by simp)]; simp [go_sem]
  have x15 : w1.cell? ⟨w.heap.size, 5, none⟩ = some (.int .i64 cy) := by rw [HB1.out.cell (p := ⟨_, _, none⟩) (by simp)]; simp [go_sem]
  go_wp2_with fail
  (go_at_call 22; refine (SS2.out _).mono ?_; rintro e w2 ⟨rfl, hb1⟩)
  have HB2 : Hid (Below (w.alloc (.cells #[.int .i64 ax, .int .i64 ay, .int .i64 bx, .int .i64 by', .int .i64 cx, .int .i64 cy] 41)).heap.size (w.alloc (.cells #[.int .i64 ax, .int .i64 ay, .int .i64 bx, .int .i64 by', .int .i64 cx, .int .i64 cy] 41)) w2) := HB1.out.trans (hb1.mono HB1.out.size)
  clear hb1
  have z2 : w.heap.size < w2.heap.size := by have := HB2.out.size; simp at this; omega
  have x20 : w2.cell? ⟨w.heap.size, 0, none⟩ = some (.int .i64 ax) := by rw [HB2.out.cell (p := ⟨_, _, none⟩) (by simp)]; simp [go_sem]
  have x21 : w2.cell? ⟨w.heap.size, 1, none⟩ = some (.int .i64 ay) := by rw [HB2.out.cell (p := ⟨_, _, none⟩) (by simp)]; simp [go_sem]
  have x22 : w2.cell? ⟨w.heap.size, 2, none⟩ = some (.int .i64 bx) := by rw [HB2.out.cell (p := ⟨_, _, none⟩) (by simp)]; simp [go_sem]
  have x23 : w2.cell? ⟨w.heap.size, 3, none⟩ = some (.int .i64 by') := by rw [HB2.out.cell (p := ⟨_, _, none⟩) (by simp)]; simp [go_sem]
  have x24 : w2.cell? ⟨w.heap.size, 4, none⟩ = some (.int .i64 cx) := by rw [HB2.out.cell (p := ⟨_, _, none⟩) (by simp)]; simp [go_sem]
  have x25 : w2.cell? ⟨w.heap.size, 5, none⟩ = some (.int .i64 cy) := by rw [HB2.out.cell (p := ⟨_, _, none⟩) (by simp)]; simp [go_sem]
  go_wp2_with fail
  (go_at_call 22; refine (SS3.out _).mono ?_; rintro e w3 ⟨rfl, hb1⟩)
  have HB3 : Hid (Below (w.alloc (.cells #[.int .i64 ax, .int .i64 ay, .int .i64 bx, .int .i64 by', .int .i64 cx, .int .i64 cy] 41)).heap.size (w.alloc (.cells #[.int .i64 ax, .int .i64 ay, .int .i64 bx, .int .i64 by', .int .i64 cx, .int .i64 cy] 41)) w3) := HB2.out.trans (hb1.mono HB2.out.size)
  clear hb1
  have z3 : w.heap.size < w3.heap.size := by have := HB3.out.size; simp at this; omega
  have x30 : w3.cell? ⟨w.heap.size, 0, none⟩ = some (.int .i64 ax) := by rw [HB3.out.cell (p := ⟨_, _, none⟩) (by simp)]; simp [go_sem]
  have x31 : w3.cell? ⟨w.heap.size, 1, none⟩ = some (.int .i64 ay) := by rw [HB3.out.cell (p := ⟨_, _, none⟩) (by simp)]; simp [go_sem]
  have x32 : w3.cell? ⟨w.heap.size, 2, none⟩ = some (.int .i64 bx) := by rw [HB3.out.cell (p := ⟨_, _, none⟩) (by simp)]; simp [go_sem]
  have x33 : w3.cell? ⟨w.heap.size, 3, none⟩ = some (.int .i64 by') := by rw [HB3.out.cell (p := ⟨_, _, none⟩) (by simp)]; simp [go_sem]
  have x34 : w3.cell? ⟨w.heap.size, 4, none⟩ = some (.int .i64 cx) := by rw [HB3.out.cell (p := ⟨_, _, none⟩) (by simp)]; simp [go_sem]
  have x35 : w3.cell? ⟨w.heap.size, 5, none⟩ = some (.int .i64 cy) := by rw [HB3.out.cell (p := ⟨_, _, none⟩) (by simp)]; simp [go_sem]
  go_wp2_with fail
  (go_at_call 12; refine (alive_any _).mono ?_; rintro e w4 ⟨rfl, hb1⟩)
  have HB4 : Hid (Below (w.alloc (.cells #[.int .i64 ax, .int .i64 ay, .int .i64 bx, .int .i64 by', .int .i64 cx, .int .i64 cy] 41)).heap.size (w.alloc (.cells #[.int .i64 ax, .int .i64 ay, .int .i64 bx, .int .i64 by', .int .i64 cx, .int .i64 cy] 41)) w4) := HB3.out.trans (hb1.mono HB3.out.size)
  clear hb1
  have z4 : w.heap.size < w4.heap.size := by have := HB4.out.size; simp at this; omega
  have x40 : w4.cell? ⟨w.heap.size, 0, none⟩ = some (.int .i64 ax) := by rw [HB4.out.cell (p := ⟨_, _, none⟩) (by simp)]; simp [go_sem]
  have x41 : w4.cell? ⟨w.heap.size, 1, none⟩ = some (.int .i64 ay) := by rw [HB4.out.cell (p := ⟨_, _, none⟩) (by simp)]; simp [go_sem]
  have x42 : w4.cell? ⟨w.heap.size, 2, none⟩ = some (.int .i64 bx) := by rw [HB4.out.cell (p := ⟨_, _, none⟩) (by simp)]; simp [go_sem]
  have x43 : w4.cell? ⟨w.heap.size, 3, none⟩ = some (.int .i64 by') := by rw [HB4.out.cell (p := ⟨_, _, none⟩) (by simp)]; simp [go_sem]
  have x44 : w4.cell? ⟨w.heap.size, 4, none⟩ = some (.int .i64 cx) := by rw [HB4.out.cell (p := ⟨_, _, none⟩) (by simp)]; simp [go_sem]
  have x45 : w4.cell? ⟨w.heap.size, 5, none⟩ = some (.int .i64 cy) := by rw [HB4.out.cell (p := ⟨_, _, none⟩) (by simp)]; simp [go_sem]
  go_wp2
  go_returns
  exact ⟨rfl, below_step (w := w) (by go_grown) HB4.out⟩
theorem craneBalances_walk (mass ax ay bx by' cx cy : Int) (w : World) : Calls Try.prog 8 #[.int .i64 mass, .agg #[.int .i64 ax, .int .i64 ay, .int .i64 bx, .int .i64 by', .int .i64 cx, .int .i64 cy]] w fun e w' => e = .returned (.bool true) ∧ Below w.heap.size w w' := by
  have hsw := share_swap mass ax ay bx by' cx cy
  by_cases h1 : ShareIn mass ax ay bx by' cx cy
  · by_cases h2 : ShareOn ax ay bx by' cx cy
    · obtain ⟨e3, a, b, e1, a0, b0, a1, b1, hs⟩ := share_facts h1 h2
      rw [e1] at hsw
      rcases hs with hs | hs
      · exact balances_ok0 mass ax ay bx by' cx cy w a b e1 hsw e3 h1.1 h1.2.1 a0 b0 a1 b1 hs
      · exact balances_ok1 mass ax ay bx by' cx cy w a b e1 hsw e3 h1.1 h1.2.1 a0 b0 a1 b1 hs
    · have e1 : shareF mass ax ay bx by' cx cy = (0, 0, 17) := by unfold shareF; rw [if_pos h1, if_neg h2]
      rw [e1] at hsw
      exact balances_e17 mass ax ay bx by' cx cy w e1 hsw
  · have e1 : shareF mass ax ay bx by' cx cy = (0, 0, 9) := by unfold shareF; rw [if_neg h1]
    rw [e1] at hsw
    exact balances_e9 mass ax ay bx by' cx cy w e1 hsw

set_option maxRecDepth 100000 in
theorem craneBalances_contract (H : Type) (enc : TypeId × Value → H) (W : World) (base : Nat) (args : Array Value) (ds gs : List (DataW H)) (before : List MemPlace)
    (hval : ∀ (j : Nat) t v, Try.f8.params[j]? = some t → args[j]? = some v → Value.okWide Try.prog W .any base t v)
    (hW : DataW.Whole enc Try.prog Try.f8.params.toList Rows.craneBalancesSpec.vars false W args.toList ds gs before) (hL : laidMetH Try.prog Rows.craneBalancesRow.laid W) :
    Calls Try.prog 8 args W fun e W' => ∃ v, e = .returned v ∧ Rows.craneBalancesSpec.post enc Try.prog Try.f8 false true false false W args v W' := by
  have hW' := hW
  obtain ⟨p, q, hA0, hV, rfl, hfz, hnd⟩ := hW
  have hA : DataW.TrodAll enc Try.prog W 0 (fun _ => true) true Try.f8.params.toList args.toList ds p := hA0
  rw [Try.params8] at hA hval
  obtain ⟨v0, vs0, d0, ds0, p0, q0, hargs, rfl, rfl, h0, r0⟩ := trodAll_cons hA
  obtain ⟨v1, vs1, d1, ds1, p1, q1, rfl, rfl, rfl, h1, r1⟩ := trodAll_cons r0
  obtain ⟨rfl, rfl, rfl⟩ := trodAll_nil r1
  obtain rfl : args = #[v0, v1] := by cases args; simp_all
  obtain ⟨mass, rfl, rfl, rfl, _w0⟩ := open_int Try.underlying3 (hval 0 3 v0 rfl rfl) h0
  obtain ⟨zs1, rfl, hl1, hb1⟩ := flat_open_array (n := 8) (m := 3) (e := 40) (by kernel_rfl) (by kernel_rfl) (by kernel_rfl) (hval 1 41 v1 rfl rfl) h1
  obtain ⟨ax, ay, bx, by', cx, cy, rfl⟩ := list6 hl1
  refine (craneBalances_walk mass ax ay bx by' cx cy W).mono fun e W' ⟨he, hb⟩ => ?_
  subst he
  exact ⟨_, rfl, law_post laidOut (by kernel_rfl) (by kernel_rfl) Try.underlying4 rfl hW' (fun _ => rfl) hb⟩
theorem craneBalances_reads (os : Os) {H : Type} (enc : TypeId × Value → H) : ∃ places, DataW.whole enc Try.prog ((World.settled Try.prog os).forCall (fun _ _ => 0) ⟨#[], #[.int .i64 0, .agg #[.int .i64 0, .int .i64 0, .int .i64 0, .int .i64 0, .int .i64 0, .int .i64 0]], []⟩).memory Try.f8.params.toList Rows.craneBalancesSpec.vars false (#[.int .i64 0, .agg #[.int .i64 0, .int .i64 0, .int .i64 0, .int .i64 0, .int .i64 0, .int .i64 0]] : Array Value).toList 8 = some ([.lit (.int .i64 0), .agg [.agg [.lit (.int .i64 0), .lit (.int .i64 0)], .agg [.lit (.int .i64 0), .lit (.int .i64 0)], .agg [.lit (.int .i64 0), .lit (.int .i64 0)]]], [], places) := ⟨[], by kernel_rfl⟩
set_option maxRecDepth 100000 in
theorem craneBalances_lifted (os : Os) (started : os.Started) (H : Type) (enc : TypeId × Value → H) (F : Stop.Interp) :
    ReturnsInHanded {} Try.checked os 8 .any ((OpenSpec.ofChange Rows.craneBalancesSpec).preRow enc Try.prog Try.f8 Rows.craneBalancesRow.domain false Rows.craneBalancesRow.laid) (((OpenSpec.ofChange Rows.craneBalancesSpec).at F).post enc Try.prog Try.f8 false true false false) := by
  obtain ⟨places, hx⟩ := craneBalances_reads os enc
  refine returnsInHanded_of_row (C := Try.checked) (s := OpenSpec.ofChange Rows.craneBalancesSpec) own started (by kernel_rfl) Try.func8
    (witness_row_at (enc := enc) (C := Try.checked) false (World.settled Try.prog os) #[.int .i64 0, .agg #[.int .i64 0, .int .i64 0, .int .i64 0, .int .i64 0, .int .i64 0, .int .i64 0]] rfl (by kernel_rfl) (by kernel_rfl) (by kernel_rfl)
      (OpenSpec.preRow_of_cond 8 hx (by kernel_rfl) (fun k hk => by cases hk) (by kernel_rfl) (laidMet_nil _ _))) ?_
  intro W base args ds gs before hval hW _ _ _ hL _ _
  exact craneBalances_contract H enc W base args ds gs before hval hW hL
theorem craneBalances_said : Rows.CraneBalancesSaid :=
  OpenClaim.holds_of_cond 8 Try.f8 rfl rfl rfl rfl rfl rfl rfl ⟨rfl, rfl, rfl, rfl, rfl⟩ rfl rfl rfl rfl rfl (by kernel_rfl) Try.func8 (by kernel_rfl)
    (of_decide_eq_true (by kernel_rfl)) (by unfold Func.isWrapper; rw [if_neg (of_decide_eq_false (by kernel_rfl))]; exact ⟨rfl, rfl⟩)
    (fun os started H enc _ F => by rw [OpenClaim.pre_eq_preRow]; exact craneBalances_lifted os started H enc F)
#print axioms craneBalances_said
end Go.Proofs.Ytmaopenmbngenaa
