/-
  What the small functions of the laws' own package return, by walks. Conditions: the bounds that each theorem names. By an AI agent.
-/
import Derived.Test.YtcfohnhieajhnaaDoorAwake
namespace Go.Proofs.YtcfohnhieajhnaaDoor
open Go.RowKit
set_option linter.unusedSimpArgs false

set_option maxHeartbeats 1000000 in
theorem near_yes (a b c l : Int) (w : World) (hl : 0 ≤ l ∧ l ≤ 2199023255552) (h : InB l (a, b, c)) :
    Calls Tryd.prog 18 #[.agg #[.int .i64 a, .int .i64 b, .int .i64 c], .int .i64 l] w fun e w' => e = .returned (.bool true) ∧ Below w.heap.size w w' := by
  obtain ⟨hx0, hx1, hy0, hy1, hz0, hz1⟩ := h
  simp only at hx0 hx1 hy0 hy1 hz0 hz1
  obtain ⟨hl0, hl1⟩ := hl
  go_enter Tryd.func18, Tryd.ntmps18
  go_wp2
  go_returns
  exact ⟨rfl, by go_grown⟩
set_option maxHeartbeats 1000000 in
theorem near_no (a b c l : Int) (w : World) (hl : 0 ≤ l ∧ l ≤ 2199023255552) (h : ¬ InB l (a, b, c)) :
    Calls Tryd.prog 18 #[.agg #[.int .i64 a, .int .i64 b, .int .i64 c], .int .i64 l] w fun e w' => e = .returned (.bool false) ∧ Below w.heap.size w w' := by
  have H : Hid (¬ InB l (a, b, c)) := Lib.hid h
  clear h
  obtain ⟨hl0, hl1⟩ := hl
  go_enter Tryd.func18, Tryd.ntmps18
  go_wp2
  all_goals go_returns
  all_goals refine ⟨?_, by go_grown⟩
  all_goals (first | rfl | (exfalso; exact H.out ⟨by simp; omega, by simp; omega, by simp; omega, by simp; omega, by simp; omega, by simp; omega⟩) | (rw [decide_eq_false (fun h => H.out ⟨by simp; omega, by simp; omega, by simp; omega, by simp; omega, by simp; omega, by simp; omega⟩)]; rfl))
def InBox (a1 a2 a3 a4 a5 a6 x y z : Int) : Prop := a1 ≤ x ∧ x ≤ a4 ∧ a2 ≤ y ∧ y ≤ a5 ∧ a3 ≤ z ∧ z ≤ a6
set_option maxHeartbeats 1000000 in
theorem inside_yes (a1 a2 a3 a4 a5 a6 x y z : Int) (w : World) (h : InBox a1 a2 a3 a4 a5 a6 x y z) :
    Calls Tryd.prog 25 #[.agg #[.int .i64 a1, .int .i64 a2, .int .i64 a3, .int .i64 a4, .int .i64 a5, .int .i64 a6], .agg #[.int .i64 x, .int .i64 y, .int .i64 z]] w fun e w' => e = .returned (.bool true) ∧ Below w.heap.size w w' := by
  obtain ⟨hx0, hx1, hy0, hy1, hz0, hz1⟩ := h
  go_enter Tryd.func25, Tryd.ntmps25
  go_wp2
  go_returns
  exact ⟨rfl, by go_grown⟩
set_option maxHeartbeats 1000000 in
theorem inside_no (a1 a2 a3 a4 a5 a6 x y z : Int) (w : World) (h : ¬ InBox a1 a2 a3 a4 a5 a6 x y z) :
    Calls Tryd.prog 25 #[.agg #[.int .i64 a1, .int .i64 a2, .int .i64 a3, .int .i64 a4, .int .i64 a5, .int .i64 a6], .agg #[.int .i64 x, .int .i64 y, .int .i64 z]] w fun e w' => e = .returned (.bool false) ∧ Below w.heap.size w w' := by
  have H : Hid (¬ InBox a1 a2 a3 a4 a5 a6 x y z) := Lib.hid h
  clear h
  go_enter Tryd.func25, Tryd.ntmps25
  go_wp2
  all_goals go_returns
  all_goals refine ⟨?_, by go_grown⟩
  all_goals (first | rfl | (exfalso; exact H.out ⟨by omega, by omega, by omega, by omega, by omega, by omega⟩) | (rw [decide_eq_false (fun h => H.out ⟨by omega, by omega, by omega, by omega, by omega, by omega⟩)]; rfl))
theorem mul_in {x y B C : Int} (hx : -B ≤ x ∧ x ≤ B) (hy : -C ≤ y ∧ y ≤ C) : -(B * C) ≤ x * y ∧ x * y ≤ B * C := by
  have hB : 0 ≤ B := by omega
  have hC : 0 ≤ C := by omega
  have h1 : (x * y).natAbs ≤ (B * C).natAbs := by
    rw [Int.natAbs_mul, Int.natAbs_mul]
    exact Nat.mul_le_mul (by omega) (by omega)
  have h2 : 0 ≤ B * C := Int.mul_nonneg hB hC
  omega
set_option maxHeartbeats 1000000 in
theorem dot_in (a b c x y z : Int) (w : World) (h : InB 262144 (a, b, c)) (h2 : InB 262144 (x, y, z)) :
    Calls Tryd.prog 20 #[.agg #[.int .i64 a, .int .i64 b, .int .i64 c], .agg #[.int .i64 x, .int .i64 y, .int .i64 z]] w fun e w' => e = .returned (.int .i64 (dotV (a, b, c) (x, y, z))) ∧ Below w.heap.size w w' := by
  obtain ⟨ha0, ha1, hb0, hb1, hc0, hc1⟩ := h
  obtain ⟨hx0, hx1, hy0, hy1, hz0, hz1⟩ := h2
  simp only at ha0 ha1 hb0 hb1 hc0 hc1 hx0 hx1 hy0 hy1 hz0 hz1
  obtain ⟨m0, m1⟩ := mul_in ⟨ha0, ha1⟩ ⟨hx0, hx1⟩
  obtain ⟨m2, m3⟩ := mul_in ⟨hb0, hb1⟩ ⟨hy0, hy1⟩
  obtain ⟨m4, m5⟩ := mul_in ⟨hc0, hc1⟩ ⟨hz0, hz1⟩
  simp only [Int.reduceMul, Int.reduceNeg] at m0 m1 m2 m3 m4 m5
  go_enter Tryd.func20, Tryd.ntmps20
  go_wp2
  go_returns
  exact ⟨rfl, by go_grown⟩
set_option maxHeartbeats 2000000 in
theorem det_in (a b c x y z r s t : Int) (w : World) (h : InB 262144 (a, b, c)) (h2 : InB 262144 (x, y, z)) (h3 : InB 262144 (r, s, t)) :
    Calls Tryd.prog 21 #[.agg #[.int .i64 a, .int .i64 b, .int .i64 c], .agg #[.int .i64 x, .int .i64 y, .int .i64 z], .agg #[.int .i64 r, .int .i64 s, .int .i64 t]] w fun e w' => e = .returned (.int .i64 (detV (a, b, c) (x, y, z) (r, s, t))) ∧ Below w.heap.size w w' := by
  obtain ⟨ha0, ha1, hb0, hb1, hc0, hc1⟩ := h
  obtain ⟨hx0, hx1, hy0, hy1, hz0, hz1⟩ := h2
  obtain ⟨hr0, hr1, hs0, hs1, ht0, ht1⟩ := h3
  simp only at ha0 ha1 hb0 hb1 hc0 hc1 hx0 hx1 hy0 hy1 hz0 hz1 hr0 hr1 hs0 hs1 ht0 ht1
  obtain ⟨m0, m1⟩ := mul_in ⟨hy0, hy1⟩ ⟨ht0, ht1⟩
  obtain ⟨m2, m3⟩ := mul_in ⟨hz0, hz1⟩ ⟨hs0, hs1⟩
  obtain ⟨m4, m5⟩ := mul_in ⟨hz0, hz1⟩ ⟨hr0, hr1⟩
  obtain ⟨m6, m7⟩ := mul_in ⟨hx0, hx1⟩ ⟨ht0, ht1⟩
  obtain ⟨m8, m9⟩ := mul_in ⟨hx0, hx1⟩ ⟨hs0, hs1⟩
  obtain ⟨n0, n1⟩ := mul_in ⟨hy0, hy1⟩ ⟨hr0, hr1⟩
  simp only [Int.reduceMul, Int.reduceNeg] at m0 m1 m2 m3 m4 m5 m6 m7 m8 m9 n0 n1
  obtain ⟨k0, k1⟩ := mul_in (B := 262144) (C := 137438953472) (x := a) (y := y * t - z * s) ⟨ha0, ha1⟩ ⟨by omega, by omega⟩
  obtain ⟨k2, k3⟩ := mul_in (B := 262144) (C := 137438953472) (x := b) (y := z * r - x * t) ⟨hb0, hb1⟩ ⟨by omega, by omega⟩
  obtain ⟨k4, k5⟩ := mul_in (B := 262144) (C := 137438953472) (x := c) (y := x * s - y * r) ⟨hc0, hc1⟩ ⟨by omega, by omega⟩
  simp only [Int.reduceMul, Int.reduceNeg] at k0 k1 k2 k3 k4 k5
  go_enter Tryd.func21, Tryd.ntmps21
  go_wp2
  go_returns
  exact ⟨rfl, by go_grown⟩
end Go.Proofs.YtcfohnhieajhnaaDoor
