/-
  The plain laws behind VecGroup, VecChains, VecBoxes: no program in sight. Conditions: the bounds that each theorem names. By an AI agent.
-/
import Derived.Test.YtcfohnhieajhnaaDoorLaws
namespace Go.Proofs.YtcfohnhieajhnaaDoor
open Go.RowKit

theorem neq_vec (a b c x y z : Int) (W : World) : (binOp .neq 27 (.agg #[.int .i64 a, .int .i64 b, .int .i64 c]) (.agg #[.int .i64 x, .int .i64 y, .int .i64 z])).run Tryd.prog W = .ok (.bool (!decide ((a, b, c) = (x, y, z)))) W := by
  simp only [binOp]
  simp [go_sem, Op.equal, Op.maxDepth]
  split
  · split
    · split <;> simp [*]
    · simp [*]
  · simp [*]
theorem eql_place (a b c k x y z m : Int) (W : World) : (binOp .eql 44 (.agg #[.int .i64 a, .int .i64 b, .int .i64 c, .int .i64 k]) (.agg #[.int .i64 x, .int .i64 y, .int .i64 z, .int .i64 m])).run Tryd.prog W = .ok (.bool (decide (((a, b, c), k) = ((x, y, z), m)))) W := by
  simp [go_sem]
  split
  · split
    · split
      · split <;> simp [*]
      · simp [*]
    · simp [*]
  · simp [*]

theorem turnF_in {v : V} {k : Int} (h : InB 1099511627776 v) : turnF v k = turnV v k := if_pos h
theorem group_turn {v : V} (a b : Int) (h : InB 1099511627776 v) : turnF (turnF v a) b = turnF v (composeV a b) := by
  rw [turnF_in h, turnF_in (turn_bd a h), turnF_in h, turn_turn]
theorem group_back {v : V} (a : Int) (h : InB 1099511627776 v) : turnF (turnF v a) (backV a) = v := by
  rw [turnF_in h, turnF_in (turn_bd a h), turn_back]

theorem inB_to {B B' : Int} {v : V} (h : InB B v) (hB : B ≤ B') : InB B' v := inB_mono h hB
theorem add_bd {B C D : Int} {u v : V} (h : InB B u) (h2 : InB C v) (hD : B + C ≤ D) : InB D (addV u v) := by unfold InB addV at *; simp; omega
theorem applyF_in {p v : V} {k : Int} (hp : InB 1099511627776 p) (hv : InB 1099511627776 v) : applyF p k v = addV (turnV v k) p := if_pos ⟨hp, hv⟩
theorem thenF_in {p q : V} {k m : Int} (hp : InB 1099511627776 p) (hq : InB 1099511627776 q) : thenF p k q m = (applyF q m p, composeV k m) := if_pos ⟨hp, hq⟩
theorem inverseF_in {p : V} {k : Int} (hp : InB 1099511627776 p) : inverseF p k = (turnV (negV p) (backV k), backV k) := if_pos hp
theorem addV_assoc (a b c : V) : addV (addV a b) c = addV a (addV b c) := by
  unfold addV; simp only [Prod.mk.injEq]; refine ⟨?_, ?_, ?_⟩ <;> omega
theorem add_neg (a b : V) : addV (addV a b) (negV b) = a := by
  unfold addV negV; simp only [Int.add_neg_cancel_right]
theorem neg_neg (a : V) : negV (negV a) = a := by
  unfold negV; simp

theorem chain_then {p q v : V} (k m : Int) (hp : InB 274877906944 p) (hq : InB 274877906944 q) (hv : InB 274877906944 v) :
    applyF (thenF p k q m).1 (thenF p k q m).2 v = applyF q m (applyF p k v) := by
  have sp := inB_to (B' := 1099511627776) hp (by decide)
  have sq := inB_to (B' := 1099511627776) hq (by decide)
  have sv := inB_to (B' := 1099511627776) hv (by decide)
  have s1 : InB 1099511627776 (addV (turnV p m) q) := add_bd (turn_bd m hp) hq (by decide)
  have s2 : InB 1099511627776 (addV (turnV v k) p) := add_bd (turn_bd k hv) hp (by decide)
  rw [thenF_in sp sq]
  show applyF (applyF q m p) (composeV k m) v = _
  rw [applyF_in sq sp, applyF_in sp sv, applyF_in s1 sv, applyF_in sq s2, turn_add, turn_turn, addV_assoc]
theorem chain_back {p v : V} (k : Int) (hp : InB 274877906944 p) (hv : InB 274877906944 v) :
    applyF (inverseF p k).1 (inverseF p k).2 (applyF p k v) = v := by
  have sp := inB_to (B' := 1099511627776) hp (by decide)
  have sv := inB_to (B' := 1099511627776) hv (by decide)
  have s2 : InB 1099511627776 (addV (turnV v k) p) := add_bd (turn_bd k hv) hp (by decide)
  have s3 : InB 1099511627776 (turnV (negV p) (backV k)) := turn_bd _ (neg_bd sp)
  rw [inverseF_in sp]
  show applyF (turnV (negV p) (backV k)) (backV k) (applyF p k v) = v
  rw [applyF_in sp sv, applyF_in s3 s2, turn_add, turn_back, turn_neg, add_neg]
theorem chain_inverse {p : V} (k : Int) (hp : InB 274877906944 p) :
    inverseF (inverseF p k).1 (inverseF p k).2 = (p, composeV 0 k) := by
  have sp := inB_to (B' := 1099511627776) hp (by decide)
  have s3 : InB 1099511627776 (turnV (negV p) (backV k)) := turn_bd _ (neg_bd sp)
  rw [inverseF_in sp]
  show inverseF (turnV (negV p) (backV k)) (backV k) = _
  rw [inverseF_in s3, back_back, compose_zero, ← turn_neg, neg_neg, turn_num, back_turn]

/- boxes -/
section
variable {a1 a2 a3 a4 a5 a6 b1 b2 b3 b4 b5 b6 x y z : Int}
theorem mx_le {p q r : Int} : mx p q ≤ r ↔ p ≤ r ∧ q ≤ r := by unfold mx; split <;> omega
theorem le_mn {p q r : Int} : r ≤ mn p q ↔ r ≤ p ∧ r ≤ q := by unfold mn; split <;> omega
theorem box_both : InBox (mx a1 b1) (mx a2 b2) (mx a3 b3) (mn a4 b4) (mn a5 b5) (mn a6 b6) x y z ↔ InBox a1 a2 a3 a4 a5 a6 x y z ∧ InBox b1 b2 b3 b4 b5 b6 x y z := by
  unfold InBox
  simp only [mx_le, le_mn]
  omega
theorem box_meets (ha : InBox a1 a2 a3 a4 a5 a6 x y z) (hb : InBox b1 b2 b3 b4 b5 b6 x y z) : mx a1 b1 ≤ mn a4 b4 ∧ mx a2 b2 ≤ mn a5 b5 ∧ mx a3 b3 ≤ mn a6 b6 := by
  unfold InBox at *
  simp only [mx_le, le_mn]
  omega
end
end Go.Proofs.YtcfohnhieajhnaaDoor
