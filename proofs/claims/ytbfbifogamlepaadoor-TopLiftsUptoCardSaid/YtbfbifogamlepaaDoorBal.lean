/-
  What the loads of two hooks are together. Conditions: none. By an AI agent.
-/
import Derived.Test.YtbfbifogamlepaaDoorCraneK
namespace Go.Proofs.YtbfbifogamlepaaDoor
open Go.RowKit
set_option linter.unusedVariables false
theorem ceil_low (x W : Int) (hW : 0 < W) (hx : 0 ≤ x) : 0 ≤ ceilF x W ∧ x ≤ W * ceilF x W ∧ W * ceilF x W ≤ x + W - 1 := by
  have h1 := Int.mul_ediv_add_emod x W
  have h2 := Int.emod_nonneg x (show W ≠ 0 by omega)
  have h3 := Int.emod_lt_of_pos x hW
  have h4 : 0 ≤ x / W := Int.ediv_nonneg hx (by omega)
  unfold ceilF
  split
  · exact ⟨h4, by omega, by omega⟩
  · rw [Int.mul_add, Int.mul_one]
    exact ⟨by omega, by omega, by omega⟩
theorem balance (m W l r : Int) (hm : 0 ≤ m) (hW : 0 < W) (hl : 0 ≤ l) (hr : 0 ≤ r) (hs : l + r = W) :
    0 ≤ ceilF (m * r) W ∧ 0 ≤ ceilF (m * l) W ∧ ceilF (m * r) W ≤ m ∧ ceilF (m * l) W ≤ m ∧ (ceilF (m * r) W + ceilF (m * l) W = m ∨ ceilF (m * r) W + ceilF (m * l) W = m + 1) := by
  have hmr := Int.mul_nonneg hm hr
  have hml := Int.mul_nonneg hm hl
  obtain ⟨a0, a1, a2⟩ := ceil_low (m * r) W hW hmr
  obtain ⟨b0, b1, b2⟩ := ceil_low (m * l) W hW hml
  have e : m * r + m * l = W * m := by rw [← Int.mul_add, show r + l = W by omega, Int.mul_comm]
  generalize ceilF (m * r) W = a at *
  generalize ceilF (m * l) W = b at *
  have c1 : a < m + 1 := Int.lt_of_mul_lt_mul_left (a := W) (by rw [Int.mul_add, Int.mul_one]; omega) (by omega)
  have c2 : b < m + 1 := Int.lt_of_mul_lt_mul_left (a := W) (by rw [Int.mul_add, Int.mul_one]; omega) (by omega)
  have c3 : m ≤ a + b := Int.le_of_mul_le_mul_left (a := W) (by rw [Int.mul_add]; omega) hW
  have c4 : a + b < m + 2 := Int.lt_of_mul_lt_mul_left (a := W) (by rw [Int.mul_add, Int.mul_add]; omega) (by omega)
  exact ⟨a0, b0, by omega, by omega, by omega⟩
theorem ab_nat (n : Int) : ab n = (n.natAbs : Int) := by unfold ab mx; split <;> omega
theorem seg_sum {a b c : Int} (h1 : mn a b ≤ c) (h2 : c ≤ mx a b) : ab (c - a) + ab (b - c) = ab (b - a) := by
  rw [ab_nat, ab_nat, ab_nat]
  unfold mn at h1
  unfold mx at h2
  split at h1 <;> split at h2 <;> omega
theorem mn_comm (a b : Int) : mn a b = mn b a := by unfold mn; split <;> split <;> omega
theorem mx_comm (a b : Int) : mx a b = mx b a := by unfold mx; split <;> split <;> omega
theorem onSeg_swap {ax ay bx by' cx cy : Int} (h : OnSeg ax ay bx by' cx cy) : OnSeg bx by' ax ay cx cy := by
  obtain ⟨h0, h1, h2, h3, h4⟩ := h
  refine ⟨?_, by rw [mn_comm]; exact h1, by rw [mx_comm]; exact h2, by rw [mn_comm]; exact h3, by rw [mx_comm]; exact h4⟩
  rw [show ax - bx = -(bx - ax) by omega, show cy - by' = -(by' - cy) by omega, Int.neg_mul_neg, show ay - by' = -(by' - ay) by omega, show cx - bx = -(bx - cx) by omega, Int.neg_mul_neg,
    show by' - cy = (by' - ay) - (cy - ay) by omega, show bx - cx = (bx - ax) - (cx - ax) by omega, Int.mul_sub (bx - ax) (by' - ay) (cy - ay), Int.mul_sub (by' - ay) (bx - ax) (cx - ax), h0, Int.mul_comm (bx - ax) (by' - ay)]
theorem share_swap (mass ax ay bx by' cx cy : Int) : shareF mass bx by' ax ay cx cy = ((shareF mass ax ay bx by' cx cy).2.1, (shareF mass ax ay bx by' cx cy).1, (shareF mass ax ay bx by' cx cy).2.2) := by
  have hin : ShareIn mass bx by' ax ay cx cy ↔ ShareIn mass ax ay bx by' cx cy := ⟨fun h => ⟨h.1, h.2.1, h.2.2.2.1, h.2.2.1, h.2.2.2.2⟩, fun h => ⟨h.1, h.2.1, h.2.2.2.1, h.2.2.1, h.2.2.2.2⟩⟩
  have hon : ShareOn bx by' ax ay cx cy ↔ ShareOn ax ay bx by' cx cy := ⟨fun h => ⟨fun e => h.1 e.symm, onSeg_swap h.2⟩, fun h => ⟨fun e => h.1 e.symm, onSeg_swap h.2⟩⟩
  unfold shareF
  rw [ab_sub ax bx, ab_sub ay by', ab_sub ay cy, ab_sub cy by', ab_sub ax cx, ab_sub cx bx]
  by_cases h1 : ShareIn mass ax ay bx by' cx cy
  · rw [if_pos h1, if_pos (hin.2 h1)]
    by_cases h2 : ShareOn ax ay bx by' cx cy
    · rw [if_pos h2, if_pos (hon.2 h2)]
      split <;> rfl
    · rw [if_neg h2, if_neg (fun h => h2 (hon.1 h))]
  · rw [if_neg h1, if_neg (fun h => h1 (hin.1 h))]
theorem ceil_whole {m W : Int} (hW : 0 < W) : ceilF (m * W) W = m := by
  unfold ceilF
  rw [if_pos (Int.mul_emod_left _ _), Int.mul_ediv_cancel _ (by omega)]
theorem ceil_none (m W : Int) : ceilF (m * 0) W = 0 := by
  unfold ceilF
  rw [Int.mul_zero, Int.zero_emod, if_pos rfl, Int.zero_ediv]
theorem ab_none (x : Int) : ab (x - x) = 0 := by rw [Int.sub_self]; rfl
/-- what the law asks of three loads -/
theorem share_facts {mass ax ay bx by' cx cy : Int} (h1 : ShareIn mass ax ay bx by' cx cy) (h2 : ShareOn ax ay bx by' cx cy) :
    shareF mass ax ay bx by' ax ay = (mass, 0, 0) ∧ ∃ a b, shareF mass ax ay bx by' cx cy = (a, b, 0) ∧ 0 ≤ a ∧ 0 ≤ b ∧ a ≤ mass ∧ b ≤ mass ∧ (a + b = mass ∨ a + b = mass + 1) := by
  have h3 : ShareIn mass ax ay bx by' ax ay := ⟨h1.1, h1.2.1, h1.2.2.1, h1.2.2.2.1, h1.2.2.1⟩
  have h4 : ShareOn ax ay bx by' ax ay := ⟨h2.1, by rw [Int.sub_self, Int.sub_self, Int.mul_zero, Int.mul_zero], by unfold mn; split <;> omega, by unfold mx; split <;> omega, by unfold mn; split <;> omega, by unfold mx; split <;> omega⟩
  obtain ⟨-, g0, g1, g2, g3⟩ := h2.2
  by_cases hd : ab (bx - ax) < ab (by' - ay)
  · have hW : 0 < ab (by' - ay) := by have := ab_nat (bx - ax); omega
    constructor
    · unfold shareF
      rw [if_pos h3, if_pos h4, if_pos hd, ceil_whole hW, ab_none, ceil_none]
    · refine ⟨_, _, by unfold shareF; rw [if_pos h1, if_pos h2, if_pos hd], ?_⟩
      exact balance mass _ _ _ h1.1 hW (by rw [ab_nat]; omega) (by rw [ab_nat]; omega) (seg_sum g2 g3)
  · have hW : 0 < ab (bx - ax) := by
      apply Classical.byContradiction
      intro hn
      have e1 := ab_zero (n := bx - ax) (by omega)
      have e2 := ab_zero (n := by' - ay) (by omega)
      exact h2.1 (by rw [show ax = bx by omega, show ay = by' by omega])
    constructor
    · unfold shareF
      rw [if_pos h3, if_pos h4, if_neg hd, ceil_whole hW, ab_none, ceil_none]
    · refine ⟨_, _, by unfold shareF; rw [if_pos h1, if_pos h2, if_neg hd], ?_⟩
      exact balance mass _ _ _ h1.1 hW (by rw [ab_nat]; omega) (by rw [ab_nat]; omega) (seg_sum g0 g1)
end Go.Proofs.YtbfbifogamlepaaDoor
