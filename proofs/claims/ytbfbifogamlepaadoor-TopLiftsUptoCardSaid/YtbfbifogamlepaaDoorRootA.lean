/-
  The integer square root: plain law. Conditions: none. By an AI agent.
-/
import Derived.Test.YtbfbifogamlepaaDoorWeightA
namespace Go.Proofs.YtbfbifogamlepaaDoor
open Go Go.ChangeShapes Go.WideShapes Go.RowKit Go.ChangeAt
set_option linter.unusedSimpArgs false
set_option linter.unusedVariables false
theorem or_pow (q k : Nat) (h : q * 2 ^ (k + 1) + 2 ^ k < 4294967296) : bits BinOp.or IntKind.i64 ((q * 2 ^ (k + 1) : Nat) : Int) ((2 ^ k : Nat) : Int) = ((q * 2 ^ (k + 1) + 2 ^ k : Nat) : Int) := by
  have e : (q * 2 ^ (k + 1) ||| 2 ^ k) = q * 2 ^ (k + 1) + 2 ^ k := by rw [Nat.mul_comm q]; exact (Nat.two_pow_add_eq_or_of_lt (Nat.pow_lt_pow_right (by decide) (by omega)) q).symm
  generalize q * 2 ^ (k + 1) = A at *
  generalize 2 ^ k = B at *
  have hw : IntKind.i64.wrap ((A + B : Nat) : Int) = ((A + B : Nat) : Int) := IntWalk.i64_in _ (by omega)
  show IntKind.i64.wrap (((BitVec.ofInt 64 (A : Int)) ||| (BitVec.ofInt 64 (B : Int))).toNat : Int) = _
  rw [BitVec.toNat_or]
  simp only [BitVec.ofInt_natCast, BitVec.toNat_ofNat]
  rw [Nat.mod_eq_of_lt (by omega), Nat.mod_eq_of_lt (by omega), e, hw]
def rootS (N : Nat) : Nat → Nat → Nat
  | 0, r => r
  | k + 1, r => if (r + 2 ^ k) * (r + 2 ^ k) ≤ N then rootS N k (r + 2 ^ k) else rootS N k r
/-- the integer square root -/
def rootF (n : Int) : Int := if n < 0 then 0 else (rootS n.toNat 32 0 : Nat)
/-- what a step keeps -/
structure RootAt (N k r : Nat) : Prop where
  form : ∃ q, r = q * 2 ^ k
  lt : r + 2 ^ k ≤ 4294967296
  same : rootS N k r = rootS N 32 0
theorem RootAt.start (N : Nat) : RootAt N 32 0 := ⟨⟨0, by simp⟩, by decide, rfl⟩
theorem pow_succ2 (k : Nat) : 2 ^ (k + 1) = 2 * 2 ^ k := by rw [Nat.pow_succ, Nat.mul_comm]
theorem RootAt.yes {N k r : Nat} (h : RootAt N (k + 1) r) (hc : (r + 2 ^ k) * (r + 2 ^ k) ≤ N) : RootAt N k (r + 2 ^ k) := by
  obtain ⟨q, hq⟩ := h.form
  refine ⟨⟨2 * q + 1, by rw [hq, pow_succ2, Nat.add_mul, Nat.one_mul, Nat.mul_assoc, Nat.mul_left_comm]⟩, by have := h.lt; rw [pow_succ2] at this; omega, ?_⟩
  have := h.same
  unfold rootS at this
  rw [if_pos hc] at this
  rw [this]; rfl
theorem RootAt.no {N k r : Nat} (h : RootAt N (k + 1) r) (hc : ¬ (r + 2 ^ k) * (r + 2 ^ k) ≤ N) : RootAt N k r := by
  obtain ⟨q, hq⟩ := h.form
  refine ⟨⟨2 * q, by rw [hq, pow_succ2, Nat.mul_assoc, Nat.mul_left_comm]⟩, by have := h.lt; rw [pow_succ2] at this; omega, ?_⟩
  have := h.same
  unfold rootS at this
  rw [if_neg hc] at this
  rw [this]; rfl
theorem RootAt.or {N k r : Nat} (h : RootAt N (k + 1) r) : bits BinOp.or IntKind.i64 (r : Int) ((2 ^ k : Nat) : Int) = ((r + 2 ^ k : Nat) : Int) := by
  obtain ⟨q, rfl⟩ := h.form
  have := h.lt
  rw [pow_succ2] at this
  refine or_pow q k ?_
  rw [pow_succ2] at *
  have : 0 < 2 ^ k := Nat.pow_pos (by decide)
  omega
theorem quo_sq {t n : Int} (ht : 0 < t) (hn : 0 ≤ n) : (t ≤ n.tdiv t) ↔ t * t ≤ n := by
  rw [Int.tdiv_eq_ediv_of_nonneg hn, Int.le_ediv_iff_mul_le ht]
end Go.Proofs.YtbfbifogamlepaaDoor
