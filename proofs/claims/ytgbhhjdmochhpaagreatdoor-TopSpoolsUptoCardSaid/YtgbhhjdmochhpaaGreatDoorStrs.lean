/-
  The order of strings is a strict order of all of them. Conditions: none. By an AI agent.
-/
import Derived.Test.YtgbhhjdmochhpaaGreatDoorBase
namespace Go.Proofs.YtgbhhjdmochhpaaGreatDoor
open Go Go.RowKit
set_option linter.unusedVariables false

theorem bl_cons (a b : UInt8) (x y : List UInt8) : Op.bytesLess (a :: x) (b :: y) = (decide (a < b) || (a == b && Op.bytesLess x y)) := rfl
theorem bl_irrefl : ∀ x : List UInt8, Op.bytesLess x x = false
  | [] => rfl
  | a :: x => by
    rw [bl_cons, bl_irrefl x, Bool.and_false, Bool.or_false]
    exact decide_eq_false (by simp)
theorem bl_trans : ∀ x y z : List UInt8, Op.bytesLess x y = true → Op.bytesLess y z = true → Op.bytesLess x z = true
  | [], [], _, h, _ => by cases h
  | [], _ :: _, [], _, h => by cases h
  | [], _ :: _, _ :: _, _, _ => rfl
  | _ :: _, [], _, h, _ => by cases h
  | _ :: _, _ :: _, [], _, h => by cases h
  | a :: x, b :: y, c :: z, h1, h2 => by
    rw [bl_cons] at h1 h2 ⊢
    simp only [Bool.or_eq_true, decide_eq_true_eq, Bool.and_eq_true, beq_iff_eq] at h1 h2 ⊢
    rcases h1 with h1 | ⟨rfl, h1⟩
    · rcases h2 with h2 | ⟨rfl, h2⟩
      · exact .inl (UInt8.lt_trans h1 h2)
      · exact .inl h1
    · rcases h2 with h2 | ⟨rfl, h2⟩
      · exact .inl h2
      · exact .inr ⟨rfl, bl_trans x y z h1 h2⟩
theorem bl_total : ∀ x y : List UInt8, Op.bytesLess x y = false → x ≠ y → Op.bytesLess y x = true
  | [], [], _, h => absurd rfl h
  | [], _ :: _, h, _ => by cases h
  | _ :: _, [], _, _ => rfl
  | a :: x, b :: y, h1, h2 => by
    rw [bl_cons] at h1 ⊢
    simp only [Bool.or_eq_false_iff, decide_eq_false_iff_not, Bool.and_eq_false_iff, beq_eq_false_iff_ne] at h1
    simp only [Bool.or_eq_true, decide_eq_true_eq, Bool.and_eq_true, beq_iff_eq]
    by_cases e : a = b
    · subst e
      have h3 : Op.bytesLess x y = false := by
        rcases h1.2 with h | h
        · exact absurd rfl h
        · exact h
      exact .inr ⟨rfl, bl_total x y h3 (fun e => h2 (by rw [e]))⟩
    · refine .inl ?_
      have h4 : ¬ a.toNat < b.toNat := fun h => h1.1 (UInt8.lt_iff_toNat_lt.2 h)
      have h5 : a.toNat ≠ b.toNat := fun h => e (UInt8.toNat_inj.1 h)
      exact UInt8.lt_iff_toNat_lt.2 (by omega)
theorem bl_ne {x y : List UInt8} (h : Op.bytesLess x y = true) : x ≠ y := fun e => by rw [e, bl_irrefl] at h; cases h
theorem bl_asymm {x y : List UInt8} (h : Op.bytesLess x y = true) : Op.bytesLess y x = false := by
  cases e : Op.bytesLess y x with
  | false => rfl
  | true => have := bl_trans _ _ _ h e; rw [bl_irrefl] at this; cases this
/-- ascending, step by step: ascending all along -/
theorem asc_far {f : Nat → List UInt8} {n : Nat} (h : ∀ j, 0 < j → j < n → Op.bytesLess (f (j - 1)) (f j) = true) : ∀ d i, i + (d + 1) < n → Op.bytesLess (f i) (f (i + (d + 1))) = true
  | 0, i, hi => h (i + 1) (by omega) hi
  | d + 1, i, hi => bl_trans _ _ _ (asc_far h d i (by omega)) (h (i + (d + 1 + 1)) (by omega) hi)
theorem asc_lt {f : Nat → List UInt8} {n : Nat} (h : ∀ j, 0 < j → j < n → Op.bytesLess (f (j - 1)) (f j) = true) {i j : Nat} (hij : i < j) (hj : j < n) : Op.bytesLess (f i) (f j) = true := by
  have := asc_far h (j - i - 1) i (by omega)
  rwa [show i + (j - i - 1 + 1) = j by omega] at this
theorem asc_ne {f : Nat → List UInt8} {n : Nat} (h : ∀ j, 0 < j → j < n → Op.bytesLess (f (j - 1)) (f j) = true) {i j : Nat} (hi : i < n) (hj : j < n) (hij : i ≠ j) : f i ≠ f j := by
  rcases Nat.lt_or_gt_of_ne hij with h1 | h1
  · exact bl_ne (asc_lt h h1 hj)
  · exact (bl_ne (asc_lt h h1 hi)).symm
theorem toList_inj {a b : ByteArray} (h : a.toList = b.toList) : a = b := by
  rw [ByteArray.toList_eq, ByteArray.toList_eq] at h
  have e2 := Array.ext' h
  cases a; cases b
  simp only at e2
  rw [e2]
end Go.Proofs.YtgbhhjdmochhpaaGreatDoor
