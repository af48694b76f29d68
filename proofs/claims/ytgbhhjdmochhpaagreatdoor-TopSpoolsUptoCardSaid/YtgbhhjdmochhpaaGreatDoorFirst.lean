/-
  The first index at which something holds. Conditions: none. By an AI agent.
-/
import Derived.Test.YtgbhhjdmochhpaaGreatDoorBase
namespace Go.Proofs.YtgbhhjdmochhpaaGreatDoor
open Go.RowKit
/-- the first index at which p says true; m more to look at -/
def firstFrom (p : Nat → Bool) : Nat → Nat → Nat
  | 0, j => j
  | m + 1, j => if p j = true then j else firstFrom p m (j + 1)
theorem firstFrom_spec (p : Nat → Bool) : ∀ m j, j ≤ firstFrom p m j ∧ firstFrom p m j ≤ j + m ∧ (firstFrom p m j < j + m → p (firstFrom p m j) = true) ∧ ∀ i, j ≤ i → i < firstFrom p m j → p i = false
  | 0, j => ⟨Nat.le_refl _, Nat.le_refl _, fun h => absurd h (by simp [firstFrom]), fun i h1 h2 => by simp [firstFrom] at h2; omega⟩
  | m + 1, j => by
    unfold firstFrom
    split
    · rename_i h; exact ⟨Nat.le_refl _, by omega, fun _ => h, fun i h1 h2 => by omega⟩
    · rename_i h
      obtain ⟨h1, h2, h3, h4⟩ := firstFrom_spec p m (j + 1)
      refine ⟨by omega, by omega, fun hl => h3 (by omega), fun i hi hl => ?_⟩
      by_cases hij : i = j
      · subst hij; simpa using h
      · exact h4 i (by omega) hl
theorem firstFrom_hit {p : Nat → Bool} {n j : Nat} (hl : j < n) (h : p j = true) : firstFrom p (n - j) j = j := by
  rw [show n - j = (n - j - 1) + 1 by omega, firstFrom, if_pos h]
theorem firstFrom_miss {p : Nat → Bool} {n j : Nat} (hl : j < n) (h : p j = false) : firstFrom p (n - j) j = firstFrom p (n - (j + 1)) (j + 1) := by
  rw [show n - j = (n - (j + 1)) + 1 by omega, firstFrom, if_neg (by rw [h]; decide)]
theorem firstFrom_end {p : Nat → Bool} {n j : Nat} (hj : j ≤ n) (hl : ¬ j < n) : firstFrom p (n - j) j = n := by
  rw [show n - j = 0 by omega, firstFrom]; omega
/-- the only index of which the specification speaks -/
theorem firstFrom_is {p : Nat → Bool} {n i : Nat} (h0 : i ≤ n) (h1 : ∀ k, k < i → p k = false) (h2 : i < n → p i = true) : firstFrom p n 0 = i := by
  obtain ⟨a, b, c, d⟩ := firstFrom_spec p n 0
  rcases Nat.lt_trichotomy (firstFrom p n 0) i with h | h | h
  · have := h1 _ h; rw [c (by omega)] at this; cases this
  · exact h
  · have := d i (by omega) h; rw [h2 (by omega)] at this; cases this
end Go.Proofs.YtgbhhjdmochhpaaGreatDoor
