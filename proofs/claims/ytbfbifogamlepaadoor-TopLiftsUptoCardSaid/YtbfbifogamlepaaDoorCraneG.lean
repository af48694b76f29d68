/-
  What Share's helpers return, the program's and the reference's, by walks. Conditions: none. By an AI agent.
-/
import Derived.Test.YtbfbifogamlepaaDoorCraneE
namespace Go.Proofs.YtbfbifogamlepaaDoor
open Go.RowKit
set_option linter.unusedSimpArgs false

def InP (x y : Int) : Prop := -1048576 ≤ x ∧ x ≤ 1048576 ∧ -1048576 ≤ y ∧ y ≤ 1048576
instance inP_dec (x y : Int) : Decidable (InP x y) := by unfold InP; exact inferInstance
def ab (n : Int) : Int := mx n (-n)
theorem ab_in {n B : Int} (h : -B ≤ n ∧ n ≤ B) : 0 ≤ ab n ∧ ab n ≤ B := by unfold ab mx; split <;> omega
theorem ab_apart (x y : Int) : mx (x - y) (y - x) = ab (x - y) := by unfold ab; rw [show -(x - y) = y - x by omega]
theorem mul_in {x y B C : Int} (hx : -B ≤ x ∧ x ≤ B) (hy : -C ≤ y ∧ y ≤ C) : -(B * C) ≤ x * y ∧ x * y ≤ B * C := by
  have hB : 0 ≤ B := by omega
  have hC : 0 ≤ C := by omega
  have h1 : (x * y).natAbs ≤ (B * C).natAbs := by
    rw [Int.natAbs_mul, Int.natAbs_mul]
    exact Nat.mul_le_mul (by omega) (by omega)
  have h2 : 0 ≤ B * C := Int.mul_nonneg hB hC
  omega
theorem eql_point (a b x y : Int) (W : World) : (binOp .eql 43 (.agg #[.int .i64 a, .int .i64 b]) (.agg #[.int .i64 x, .int .i64 y])).run Tryd.prog W = .ok (.bool (decide ((a, b) = (x, y)))) W := by
  simp [go_sem]
  split
  · split <;> simp [*]
  · simp [*]
theorem inside_yes (x y : Int) (w : World) (h : InP x y) : Calls Tryd.prog 56 #[.agg #[.int .i64 x, .int .i64 y]] w fun e w' => e = .returned (.bool true) ∧ Below w.heap.size w w' := by
  obtain ⟨h0, h1, h2, h3⟩ := h
  go_enter Tryd.func56, Tryd.ntmps56
  go_wp2
  all_goals go_returns
  all_goals refine ⟨?_, by go_grown⟩
  all_goals (first | rfl | (exfalso; omega) | (simp; omega))
theorem inside_no (x y : Int) (w : World) (h : ¬ InP x y) : Calls Tryd.prog 56 #[.agg #[.int .i64 x, .int .i64 y]] w fun e w' => e = .returned (.bool false) ∧ Below w.heap.size w w' := by
  have H := Lib.hid h
  clear h
  go_enter Tryd.func56, Tryd.ntmps56
  go_wp2
  all_goals go_returns
  all_goals refine ⟨?_, by go_grown⟩
  all_goals (first | rfl | (exfalso; exact H.out ⟨by omega, by omega, by omega, by omega⟩) | (have := H.out; unfold InP at this; simp; omega))
theorem far_yes (x y : Int) (w : World) (h : InP x y) : Calls Tryd.prog 50 #[.agg #[.int .i64 x, .int .i64 y]] w fun e w' => e = .returned (.bool false) ∧ Below w.heap.size w w' := by
  obtain ⟨h0, h1, h2, h3⟩ := h
  go_enter Tryd.func50, Tryd.ntmps50
  go_wp2
  all_goals go_returns
  all_goals refine ⟨?_, by go_grown⟩
  all_goals (first | rfl | (exfalso; omega) | (simp; omega))
theorem far_no (x y : Int) (w : World) (h : ¬ InP x y) : Calls Tryd.prog 50 #[.agg #[.int .i64 x, .int .i64 y]] w fun e w' => e = .returned (.bool true) ∧ Below w.heap.size w w' := by
  have H := Lib.hid h
  clear h
  go_enter Tryd.func50, Tryd.ntmps50
  go_wp2
  all_goals go_returns
  all_goals refine ⟨?_, by go_grown⟩
  all_goals (first | rfl | (exfalso; exact H.out ⟨by omega, by omega, by omega, by omega⟩) | (have := H.out; unfold InP at this; simp; omega))
theorem length_in (n L : Int) (w : World) (hn : -9007199254740992 ≤ n ∧ n ≤ 9007199254740992) (h : ab n = L) : Calls Tryd.prog 57 #[.int .i64 n] w fun e w' => e = .returned (.int .i64 L) ∧ Below w.heap.size w w' := by
  have hmx := run_mx
  obtain ⟨h0, h1⟩ := hn
  have h2 : Hid (mx n (-n) = L) := h
  clear h
  go_enter Tryd.func57, Tryd.ntmps57
  go_wp2
  go_returns
  rw [h2.out]
  exact ⟨rfl, by go_grown⟩
theorem apart_in (x y L : Int) (w : World) (hx : -9007199254740992 ≤ x ∧ x ≤ 9007199254740992) (hy : -9007199254740992 ≤ y ∧ y ≤ 9007199254740992) (h : ab (x - y) = L) : Calls Tryd.prog 52 #[.int .i64 x, .int .i64 y] w fun e w' => e = .returned (.int .i64 L) ∧ Below w.heap.size w w' := by
  have hmx := run_mx
  obtain ⟨h0, h1⟩ := hx
  obtain ⟨h3, h4⟩ := hy
  have h2 : Hid (mx (x - y) (y - x) = L) := (ab_apart x y).trans h
  clear h
  go_enter Tryd.func52, Tryd.ntmps52
  go_wp2
  go_returns
  rw [h2.out]
  exact ⟨rfl, by go_grown⟩
def OnSeg (ax ay bx by' cx cy : Int) : Prop := (bx - ax) * (cy - ay) = (by' - ay) * (cx - ax) ∧ mn ax bx ≤ cx ∧ cx ≤ mx ax bx ∧ mn ay by' ≤ cy ∧ cy ≤ mx ay by'
instance onSeg_dec (ax ay bx by' cx cy : Int) : Decidable (OnSeg ax ay bx by' cx cy) := by unfold OnSeg; exact inferInstance
set_option maxHeartbeats 2000000 in
theorem on_off (ax ay bx by' cx cy : Int) (w : World) (ha : InP ax ay) (hb : InP bx by') (hc : InP cx cy) (hx : (bx - ax) * (cy - ay) ≠ (by' - ay) * (cx - ax)) : Calls Tryd.prog 51 #[.agg #[.int .i64 ax, .int .i64 ay], .agg #[.int .i64 bx, .int .i64 by'], .agg #[.int .i64 cx, .int .i64 cy]] w fun e w' => e = .returned (.bool false) ∧ Below w.heap.size w w' := by
  obtain ⟨a0, a1, a2, a3⟩ := ha
  obtain ⟨b0, b1, b2, b3⟩ := hb
  obtain ⟨c0, c1, c2, c3⟩ := hc
  obtain ⟨m0, m1⟩ := mul_in (x := bx - ax) (y := cy - ay) (B := 2097152) (C := 2097152) ⟨by omega, by omega⟩ ⟨by omega, by omega⟩
  obtain ⟨m2, m3⟩ := mul_in (x := by' - ay) (y := cx - ax) (B := 2097152) (C := 2097152) ⟨by omega, by omega⟩ ⟨by omega, by omega⟩
  simp only [Int.reduceMul, Int.reduceNeg] at m0 m1 m2 m3
  have hmx := run_mx
  have hmn := run_mn
  have k : ((bx - ax) * (cy - ay) != (by' - ay) * (cx - ax)) = true := by simpa using hx
  clear hx
  go_enter Tryd.func51, Tryd.ntmps51
  go_wp2
  go_returns
  exact ⟨rfl, by go_grown⟩
set_option maxHeartbeats 2000000 in
theorem on_no0 (ax ay bx by' cx cy : Int) (w : World) (ha : InP ax ay) (hb : InP bx by') (hc : InP cx cy) (hx : (bx - ax) * (cy - ay) = (by' - ay) * (cx - ax)) (g0 : cx < mn ax bx) : Calls Tryd.prog 51 #[.agg #[.int .i64 ax, .int .i64 ay], .agg #[.int .i64 bx, .int .i64 by'], .agg #[.int .i64 cx, .int .i64 cy]] w fun e w' => e = .returned (.bool false) ∧ Below w.heap.size w w' := by
  obtain ⟨a0, a1, a2, a3⟩ := ha
  obtain ⟨b0, b1, b2, b3⟩ := hb
  obtain ⟨c0, c1, c2, c3⟩ := hc
  obtain ⟨m0, m1⟩ := mul_in (x := bx - ax) (y := cy - ay) (B := 2097152) (C := 2097152) ⟨by omega, by omega⟩ ⟨by omega, by omega⟩
  obtain ⟨m2, m3⟩ := mul_in (x := by' - ay) (y := cx - ax) (B := 2097152) (C := 2097152) ⟨by omega, by omega⟩ ⟨by omega, by omega⟩
  simp only [Int.reduceMul, Int.reduceNeg] at m0 m1 m2 m3
  have hmx := run_mx
  have hmn := run_mn
  have k : ((bx - ax) * (cy - ay) != (by' - ay) * (cx - ax)) = false := by simpa using hx
  clear hx
  have kk : decide (mn ax bx ≤ cx) = false := decide_eq_false (by omega)
  go_enter Tryd.func51, Tryd.ntmps51
  go_wp2
  go_returns
  exact ⟨rfl, by go_grown⟩
set_option maxHeartbeats 2000000 in
theorem on_no1 (ax ay bx by' cx cy : Int) (w : World) (ha : InP ax ay) (hb : InP bx by') (hc : InP cx cy) (hx : (bx - ax) * (cy - ay) = (by' - ay) * (cx - ax)) (g0 : mn ax bx ≤ cx) (g1 : mx ax bx < cx) : Calls Tryd.prog 51 #[.agg #[.int .i64 ax, .int .i64 ay], .agg #[.int .i64 bx, .int .i64 by'], .agg #[.int .i64 cx, .int .i64 cy]] w fun e w' => e = .returned (.bool false) ∧ Below w.heap.size w w' := by
  obtain ⟨a0, a1, a2, a3⟩ := ha
  obtain ⟨b0, b1, b2, b3⟩ := hb
  obtain ⟨c0, c1, c2, c3⟩ := hc
  obtain ⟨m0, m1⟩ := mul_in (x := bx - ax) (y := cy - ay) (B := 2097152) (C := 2097152) ⟨by omega, by omega⟩ ⟨by omega, by omega⟩
  obtain ⟨m2, m3⟩ := mul_in (x := by' - ay) (y := cx - ax) (B := 2097152) (C := 2097152) ⟨by omega, by omega⟩ ⟨by omega, by omega⟩
  simp only [Int.reduceMul, Int.reduceNeg] at m0 m1 m2 m3
  have hmx := run_mx
  have hmn := run_mn
  have k : ((bx - ax) * (cy - ay) != (by' - ay) * (cx - ax)) = false := by simpa using hx
  clear hx
  have kk : decide (cx ≤ mx ax bx) = false := decide_eq_false (by omega)
  go_enter Tryd.func51, Tryd.ntmps51
  go_wp2
  go_returns
  exact ⟨rfl, by go_grown⟩
set_option maxHeartbeats 2000000 in
theorem on_no2 (ax ay bx by' cx cy : Int) (w : World) (ha : InP ax ay) (hb : InP bx by') (hc : InP cx cy) (hx : (bx - ax) * (cy - ay) = (by' - ay) * (cx - ax)) (g0 : mn ax bx ≤ cx) (g1 : cx ≤ mx ax bx) (g2 : cy < mn ay by') : Calls Tryd.prog 51 #[.agg #[.int .i64 ax, .int .i64 ay], .agg #[.int .i64 bx, .int .i64 by'], .agg #[.int .i64 cx, .int .i64 cy]] w fun e w' => e = .returned (.bool false) ∧ Below w.heap.size w w' := by
  obtain ⟨a0, a1, a2, a3⟩ := ha
  obtain ⟨b0, b1, b2, b3⟩ := hb
  obtain ⟨c0, c1, c2, c3⟩ := hc
  obtain ⟨m0, m1⟩ := mul_in (x := bx - ax) (y := cy - ay) (B := 2097152) (C := 2097152) ⟨by omega, by omega⟩ ⟨by omega, by omega⟩
  obtain ⟨m2, m3⟩ := mul_in (x := by' - ay) (y := cx - ax) (B := 2097152) (C := 2097152) ⟨by omega, by omega⟩ ⟨by omega, by omega⟩
  simp only [Int.reduceMul, Int.reduceNeg] at m0 m1 m2 m3
  have hmx := run_mx
  have hmn := run_mn
  have k : ((bx - ax) * (cy - ay) != (by' - ay) * (cx - ax)) = false := by simpa using hx
  clear hx
  have kk : decide (mn ay by' ≤ cy) = false := decide_eq_false (by omega)
  go_enter Tryd.func51, Tryd.ntmps51
  go_wp2
  go_returns
  exact ⟨rfl, by go_grown⟩
set_option maxHeartbeats 2000000 in
theorem on_no3 (ax ay bx by' cx cy : Int) (w : World) (ha : InP ax ay) (hb : InP bx by') (hc : InP cx cy) (hx : (bx - ax) * (cy - ay) = (by' - ay) * (cx - ax)) (g0 : mn ax bx ≤ cx) (g1 : cx ≤ mx ax bx) (g2 : mn ay by' ≤ cy) (g3 : mx ay by' < cy) : Calls Tryd.prog 51 #[.agg #[.int .i64 ax, .int .i64 ay], .agg #[.int .i64 bx, .int .i64 by'], .agg #[.int .i64 cx, .int .i64 cy]] w fun e w' => e = .returned (.bool false) ∧ Below w.heap.size w w' := by
  obtain ⟨a0, a1, a2, a3⟩ := ha
  obtain ⟨b0, b1, b2, b3⟩ := hb
  obtain ⟨c0, c1, c2, c3⟩ := hc
  obtain ⟨m0, m1⟩ := mul_in (x := bx - ax) (y := cy - ay) (B := 2097152) (C := 2097152) ⟨by omega, by omega⟩ ⟨by omega, by omega⟩
  obtain ⟨m2, m3⟩ := mul_in (x := by' - ay) (y := cx - ax) (B := 2097152) (C := 2097152) ⟨by omega, by omega⟩ ⟨by omega, by omega⟩
  simp only [Int.reduceMul, Int.reduceNeg] at m0 m1 m2 m3
  have hmx := run_mx
  have hmn := run_mn
  have k : ((bx - ax) * (cy - ay) != (by' - ay) * (cx - ax)) = false := by simpa using hx
  clear hx
  have kk : decide (cy ≤ mx ay by') = false := decide_eq_false (by omega)
  go_enter Tryd.func51, Tryd.ntmps51
  go_wp2
  go_returns
  exact ⟨rfl, by go_grown⟩
set_option maxHeartbeats 2000000 in
theorem on_yes (ax ay bx by' cx cy : Int) (w : World) (ha : InP ax ay) (hb : InP bx by') (hc : InP cx cy) (hx : (bx - ax) * (cy - ay) = (by' - ay) * (cx - ax)) (g0 : mn ax bx ≤ cx) (g1 : cx ≤ mx ax bx) (g2 : mn ay by' ≤ cy) (g3 : cy ≤ mx ay by') : Calls Tryd.prog 51 #[.agg #[.int .i64 ax, .int .i64 ay], .agg #[.int .i64 bx, .int .i64 by'], .agg #[.int .i64 cx, .int .i64 cy]] w fun e w' => e = .returned (.bool true) ∧ Below w.heap.size w w' := by
  obtain ⟨a0, a1, a2, a3⟩ := ha
  obtain ⟨b0, b1, b2, b3⟩ := hb
  obtain ⟨c0, c1, c2, c3⟩ := hc
  obtain ⟨m0, m1⟩ := mul_in (x := bx - ax) (y := cy - ay) (B := 2097152) (C := 2097152) ⟨by omega, by omega⟩ ⟨by omega, by omega⟩
  obtain ⟨m2, m3⟩ := mul_in (x := by' - ay) (y := cx - ax) (B := 2097152) (C := 2097152) ⟨by omega, by omega⟩ ⟨by omega, by omega⟩
  simp only [Int.reduceMul, Int.reduceNeg] at m0 m1 m2 m3
  have hmx := run_mx
  have hmn := run_mn
  have k : ((bx - ax) * (cy - ay) != (by' - ay) * (cx - ax)) = false := by simpa using hx
  clear hx
  go_enter Tryd.func51, Tryd.ntmps51
  go_wp2
  go_returns
  exact ⟨rfl, by go_grown⟩
theorem on_any (ax ay bx by' cx cy : Int) (w : World) (ha : InP ax ay) (hb : InP bx by') (hc : InP cx cy) (v : Bool) (hv : decide (OnSeg ax ay bx by' cx cy) = v) : Calls Tryd.prog 51 #[.agg #[.int .i64 ax, .int .i64 ay], .agg #[.int .i64 bx, .int .i64 by'], .agg #[.int .i64 cx, .int .i64 cy]] w fun e w' => e = .returned (.bool v) ∧ Below w.heap.size w w' := by
  subst hv
  by_cases hx : (bx - ax) * (cy - ay) = (by' - ay) * (cx - ax)
  · by_cases g0 : mn ax bx ≤ cx
    · by_cases g1 : cx ≤ mx ax bx
      · by_cases g2 : mn ay by' ≤ cy
        · by_cases g3 : cy ≤ mx ay by'
          · rw [decide_eq_true (show OnSeg ax ay bx by' cx cy from ⟨hx, g0, g1, g2, g3⟩)]
            exact on_yes ax ay bx by' cx cy w ha hb hc hx g0 g1 g2 g3
          · rw [decide_eq_false (fun h => g3 h.2.2.2.2)]
            exact on_no3 ax ay bx by' cx cy w ha hb hc hx g0 g1 g2 (by omega)
        · rw [decide_eq_false (fun h => g2 h.2.2.2.1)]
          exact on_no2 ax ay bx by' cx cy w ha hb hc hx g0 g1 (by omega)
      · rw [decide_eq_false (fun h => g1 h.2.2.1)]
        exact on_no1 ax ay bx by' cx cy w ha hb hc hx g0 (by omega)
    · rw [decide_eq_false (fun h => g0 h.2.1)]
      exact on_no0 ax ay bx by' cx cy w ha hb hc hx (by omega)
  · rw [decide_eq_false (fun h => hx h.1)]
    exact on_off ax ay bx by' cx cy w ha hb hc hx
end Go.Proofs.YtbfbifogamlepaaDoor
