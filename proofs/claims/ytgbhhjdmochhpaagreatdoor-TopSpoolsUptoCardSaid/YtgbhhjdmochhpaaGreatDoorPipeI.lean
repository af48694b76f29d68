/-
  The plain part. Conditions: none. By an AI agent.
-/
import Derived.Test.YtgbhhjdmochhpaaGreatDoorPipeH
import Derived.Test.YtgbhhjdmochhpaaGreatDoorStore
namespace Go.Proofs.YtgbhhjdmochhpaaGreatDoor
open Go Go.ChangeShapes Go.WideShapes Go.RowKit Go.ChangeAt
set_option linter.unusedSimpArgs false
set_option linter.unusedVariables false

theorem neq_vec (a b c x y z : Int) (W : World) : (binOp .neq 39 (.agg #[.int .i64 a, .int .i64 b, .int .i64 c]) (.agg #[.int .i64 x, .int .i64 y, .int .i64 z])).run Tryz.prog W = .ok (.bool (!decide ((a, b, c) = (x, y, z)))) W := by
  simp only [binOp]
  simp [go_sem, Op.equal, Op.maxDepth]
  split
  · split
    · split <;> simp [*]
    · simp [*]
  · simp [*]
theorem Turn_val {a b c k p q r : Int} (w : World) (h : InB 1099511627776 (a, b, c)) (he : turnV (a, b, c) k = (p, q, r)) :
    Calls Tryz.prog 17 #[.agg #[.int .i64 a, .int .i64 b, .int .i64 c], .int .i64 k] w fun e w' => e = .returned (.agg #[.int .i64 p, .int .i64 q, .int .i64 r]) ∧ Below w.heap.size w w' := by
  have := Turn_yes a b c k w h
  rw [he] at this
  exact this
theorem rTurn_val {a b c k p q r : Int} (w : World) (h : InB 1099511627776 (a, b, c)) (he : turnV (a, b, c) k = (p, q, r)) :
    Calls Tryz.prog 23 #[.agg #[.int .i64 a, .int .i64 b, .int .i64 c], .int .i64 k] w fun e w' => e = .returned (.agg #[.int .i64 p, .int .i64 q, .int .i64 r]) ∧ Below w.heap.size w w' := by
  have := rTurn_any a b c k w
  rw [show turnF (a, b, c) k = turnV (a, b, c) k from if_pos h, he] at this
  exact this
theorem unit_in : InB 1099511627776 (1, 0, 0) := by unfold InB; decide
/-- the least rotation that turns X into a direction -/
def turnOf (u : V) : Int := findFrom (fun t => decide (turnV (1, 0, 0) t = u)) 24 0
def unitB (u : V) : Bool := decide (u = (1, 0, 0)) || decide (u = (-1, 0, 0)) || decide (u = (0, 1, 0)) || decide (u = (0, -1, 0)) || decide (u = (0, 0, 1)) || decide (u = (0, 0, -1))
def turnOk (u : V) : Bool := decide (turnV (1, 0, 0) (turnOf u) = u) && decide (0 ≤ turnOf u) && decide (turnOf u ≤ 23) && (List.range 24).all fun s => decide ((s : Int) < turnOf u → turnV (1, 0, 0) s ≠ u)
theorem turn_ok {u : V} (h : unitB u = true) : turnOk u = true := by
  unfold unitB at h
  simp only [Bool.or_eq_true, decide_eq_true_eq] at h
  rcases h with ((((h | h) | h) | h) | h) | h <;> subst h <;> decide +kernel
theorem turn_at {u : V} (h : unitB u = true) : turnV (1, 0, 0) (turnOf u) = u ∧ 0 ≤ turnOf u ∧ turnOf u ≤ 23 ∧ ∀ s : Nat, (s : Int) < turnOf u → turnV (1, 0, 0) s ≠ u := by
  have := turn_ok h
  unfold turnOk at this
  simp only [Bool.and_eq_true, decide_eq_true_eq] at this
  obtain ⟨⟨⟨h1, h2⟩, h3⟩, h4⟩ := this
  refine ⟨h1, h2, h3, fun s hs => ?_⟩
  have := List.all_eq_true.1 h4 s (List.mem_range.2 (by omega))
  exact (of_decide_eq_true this) hs
theorem unit_of {x y z : Int} (h : isAxis x y z = true) : unitB (sgn x, sgn y, sgn z) = true := by
  rcases isAxis_cases h with ⟨e, e1 | e1, e2, e3⟩ | ⟨e, e1 | e1, e2, e3⟩ | ⟨e, e1 | e1, e2, e3⟩ <;> rw [e1, e2, e3] <;> decide
theorem good_axis {x y z : Nat → Int} {k : Nat} (h : badB x y z k = false) : isAxis (x (k + 1) - x k) (y (k + 1) - y k) (z (k + 1) - z k) = true := by
  rw [isAxis_iff]
  unfold badB at h
  have : (axI x y z k == 0) = false := by
    cases e : (axI x y z k == 0) with
    | false => rfl
    | true => rw [e] at h; cases h
  rw [show (axisF (x (k + 1) - x k) (y (k + 1) - y k) (z (k + 1) - z k) == 0) = false from this]
  rfl
def dirV (x y z : Nat → Int) : V := (sgn (x 1 - x 0), sgn (y 1 - y 0), sgn (z 1 - z 0))
def zeroPart : Value := .agg #[.string ⟨#[]⟩, .int .i64 0, .int .i64 0, .string ⟨#[]⟩, .string ⟨#[]⟩, .int .i64 0, .slice none 0 0, .slice none 0 0, .string ⟨#[]⟩, .int .i64 0, .int .i64 0, .int .i64 0, .int .i64 0, .int .i64 0, .int .i64 0, .int .i64 0, .int .i64 0, .int .i64 0]
def partV (id node grade sec : ByteArray) (L x y z t : Int) : Value := .agg #[.string id, .int .i64 1, .int .i64 3, .string node, .string grade, .int .i64 0, .slice none 0 0, .slice none 0 0, .string sec, .int .i64 L, .int .i64 0, .int .i64 0, .int .i64 0, .int .i64 0, .int .i64 x, .int .i64 y, .int .i64 z, .int .i64 t]
/-- part and error -/
def partF (id node grade sec : ByteArray) (n : Nat) (x y z : Nat → Int) (r : Int) : Value := if checkF n x y z r = 0 ∧ lengthF n x y z r ≤ 32768 then partV id node grade sec (lengthF n x y z r) (x 0) (y 0) (z 0) (turnOf (dirV x y z)) else zeroPart
def partE (n : Nat) (x y z : Nat → Int) (r : Int) : Int := if checkF n x y z r = 0 then (if lengthF n x y z r ≤ 32768 then 0 else 9) else checkF n x y z r
theorem cells_at18 {w : World} {b : Nat} {x0 x1 x2 x3 x4 x5 x6 x7 x8 x9 x10 x11 x12 x13 x14 x15 x16 x17 : Value} {t : TypeId} (h : w.heap[b]? = some (.cells #[x0, x1, x2, x3, x4, x5, x6, x7, x8, x9, x10, x11, x12, x13, x14, x15, x16, x17] t)) :
    w.cell? ⟨b, 0, none⟩ = some x0 ∧ w.cell? ⟨b, 1, none⟩ = some x1 ∧ w.cell? ⟨b, 2, none⟩ = some x2 ∧ w.cell? ⟨b, 3, none⟩ = some x3 ∧ w.cell? ⟨b, 4, none⟩ = some x4 ∧ w.cell? ⟨b, 5, none⟩ = some x5 ∧ w.cell? ⟨b, 6, none⟩ = some x6 ∧ w.cell? ⟨b, 7, none⟩ = some x7 ∧ w.cell? ⟨b, 8, none⟩ = some x8 ∧ w.cell? ⟨b, 9, none⟩ = some x9 ∧ w.cell? ⟨b, 10, none⟩ = some x10 ∧ w.cell? ⟨b, 11, none⟩ = some x11 ∧ w.cell? ⟨b, 12, none⟩ = some x12 ∧ w.cell? ⟨b, 13, none⟩ = some x13 ∧ w.cell? ⟨b, 14, none⟩ = some x14 ∧ w.cell? ⟨b, 15, none⟩ = some x15 ∧ w.cell? ⟨b, 16, none⟩ = some x16 ∧ w.cell? ⟨b, 17, none⟩ = some x17 ∧ (∀ i, w.frozen? ⟨b, i, none⟩ = false) ∧ b < w.heap.size :=
  ⟨(cells_at h).1 0 x0 rfl, (cells_at h).1 1 x1 rfl, (cells_at h).1 2 x2 rfl, (cells_at h).1 3 x3 rfl, (cells_at h).1 4 x4 rfl, (cells_at h).1 5 x5 rfl, (cells_at h).1 6 x6 rfl, (cells_at h).1 7 x7 rfl, (cells_at h).1 8 x8 rfl, (cells_at h).1 9 x9 rfl, (cells_at h).1 10 x10 rfl, (cells_at h).1 11 x11 rfl, (cells_at h).1 12 x12 rfl, (cells_at h).1 13 x13 rfl, (cells_at h).1 14 x14 rfl, (cells_at h).1 15 x15 rfl, (cells_at h).1 16 x16 rfl, (cells_at h).1 17 x17 rfl, (cells_at h).2.1, (cells_at h).2.2⟩
theorem part_size : (Tryz.prog.info? 43).map (fun i => i.size) = some 18 := by kernel_rfl
theorem part_under : Tryz.prog.underlying 43 = some (.struct (Tryz.prog.fieldsOf 43)) := by kernel_rfl
end Go.Proofs.YtgbhhjdmochhpaaGreatDoor
