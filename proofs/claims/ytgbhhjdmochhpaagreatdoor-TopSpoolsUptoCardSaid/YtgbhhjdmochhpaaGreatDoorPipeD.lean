/-
  What Check of pipe and of its reference returns, as a plain function. Conditions: none. By an AI agent.
-/
import Derived.Test.YtgbhhjdmochhpaaGreatDoorPipeC
namespace Go.Proofs.YtgbhhjdmochhpaaGreatDoor
open Go Go.ChangeShapes Go.WideShapes Go.RowKit Go.ChangeAt
set_option linter.unusedSimpArgs false
set_option linter.unusedVariables false

theorem popposite_neg (x y z : Int) (w : World) (h : In3 x y z) :
    Calls Tryz.prog 52 #[.agg #[.int .i64 x, .int .i64 y, .int .i64 z]] w fun e w' => e = .returned (.agg #[.int .i64 (-x), .int .i64 (-y), .int .i64 (-z)]) ∧ Below w.heap.size w w' := by
  have := popposite_in x y z w h
  simp only [Int.zero_sub] at this
  exact this
def axI (x y z : Nat → Int) (i : Nat) : Int := axisF (x (i + 1) - x i) (y (i + 1) - y i) (z (i + 1) - z i)
def badB (x y z : Nat → Int) (i : Nat) : Bool := axI x y z i == 0 || (decide (0 < i) && axI x y z i == axI x y z (i - 1))
def bendsI (n i : Nat) : Int := (if 0 < i then 1 else 0) + (if i + 2 < n then 1 else 0)
def shortB (x y z : Nat → Int) (n : Nat) (r : Int) (i : Nat) : Bool := decide (legV x y z i < r * bendsI n i)
def checkF (n : Nat) (x y z : Nat → Int) (r : Int) : Int :=
  if n < 2 then 3 else if 32 < n then 4 else if allTo (inP x y z) n = false ∨ r < 1 ∨ 10000 < r then 9
  else if allTo (fun i => !badB x y z i) (n - 1) = false then 17 else if allTo (fun i => !shortB x y z n r i) (n - 1) = false then 18 else 0
/-- the direction before leg k: none before the first -/
def lastX (x : Nat → Int) (k : Nat) : Int := if k = 0 then 0 else sgn (x k - x (k - 1))
theorem last_zero (x : Nat → Int) : lastX x 0 = 0 := rfl
theorem last_succ (x : Nat → Int) (k : Nat) : lastX x (k + 1) = sgn (x (k + 1) - x k) := rfl
theorem last_bd (x : Nat → Int) (k : Nat) : -1 ≤ lastX x k ∧ lastX x k ≤ 1 := by unfold lastX; split; omega; exact sgn_bd _
theorem sq_sgn (x : Int) : (x = 0 ∧ sgn x * sgn x = 0) ∨ (x ≠ 0 ∧ sgn x * sgn x = 1) := by
  rw [sgn_def]
  split
  · exact .inr ⟨by omega, by decide⟩
  · split
    · rename_i h; exact .inl ⟨h, by decide⟩
    · rename_i h; exact .inr ⟨h, by decide⟩
theorem isAxis_iff (x y z : Int) : isAxis x y z = !(axisF x y z == 0) := by
  unfold isAxis axisF
  rcases sq_sgn x with ⟨hx, ex⟩ | ⟨hx, ex⟩ <;> rcases sq_sgn y with ⟨hy, ey⟩ | ⟨hy, ey⟩ <;> rcases sq_sgn z with ⟨hz, ez⟩ | ⟨hz, ez⟩ <;> rw [ex, ey, ez] <;> simp [hx, hy, hz]
theorem sgn_one {x : Int} (h : x ≠ 0) : sgn x = 1 ∨ sgn x = -1 := by
  rw [sgn_def]
  split
  · exact .inr rfl
  · first | exact .inl (if_neg h) | omega
theorem sgn_nil {x : Int} (h : x = 0) : sgn x = 0 := by subst h; rfl
theorem isAxis_cases {x y z : Int} (h : isAxis x y z = true) : (axisF x y z = 1 ∧ (sgn x = 1 ∨ sgn x = -1) ∧ sgn y = 0 ∧ sgn z = 0) ∨ (axisF x y z = 2 ∧ (sgn y = 1 ∨ sgn y = -1) ∧ sgn x = 0 ∧ sgn z = 0) ∨ (axisF x y z = 3 ∧ (sgn z = 1 ∨ sgn z = -1) ∧ sgn x = 0 ∧ sgn y = 0) := by
  rw [isAxis_iff] at h
  by_cases h1 : x ≠ 0 ∧ y = 0 ∧ z = 0
  · exact .inl ⟨if_pos h1, sgn_one h1.1, sgn_nil h1.2.1, sgn_nil h1.2.2⟩
  · by_cases h2 : x = 0 ∧ y ≠ 0 ∧ z = 0
    · exact .inr (.inl ⟨by unfold axisF; rw [if_neg h1, if_pos h2], sgn_one h2.2.1, sgn_nil h2.1, sgn_nil h2.2.2⟩)
    · by_cases h3 : x = 0 ∧ y = 0 ∧ z ≠ 0
      · exact .inr (.inr ⟨by unfold axisF; rw [if_neg h1, if_neg h2, if_pos h3], sgn_one h3.2.2, sgn_nil h3.1, sgn_nil h3.2.1⟩)
      · rw [show axisF x y z = 0 by unfold axisF; rw [if_neg h1, if_neg h2, if_neg h3]] at h
        exact absurd h (by decide)
theorem axis_same (x y z a b c : Int) (h : isAxis x y z = true) (h2 : isAxis a b c = true) :
    (axisF x y z == axisF a b c) = (decide ((sgn x, sgn y, sgn z) = (sgn a, sgn b, sgn c)) || decide ((sgn x, sgn y, sgn z) = (-sgn a, -sgn b, -sgn c))) := by
  rcases isAxis_cases h with ⟨e, e1 | e1, e2, e3⟩ | ⟨e, e1 | e1, e2, e3⟩ | ⟨e, e1 | e1, e2, e3⟩ <;>
  rcases isAxis_cases h2 with ⟨f, f1 | f1, f2, f3⟩ | ⟨f, f1 | f1, f2, f3⟩ | ⟨f, f1 | f1, f2, f3⟩ <;>
  (rw [e, f, e1, e2, e3, f1, f2, f3]; decide)
theorem axis_zero (x y z : Int) (h : isAxis x y z = true) : decide ((sgn x, sgn y, sgn z) = (0, 0, 0)) = false ∧ decide ((sgn x, sgn y, sgn z) = (-0, -0, -0)) = false := by
  have h1 : (sgn x, sgn y, sgn z) ≠ (0, 0, 0) := fun e => by
    simp only [Prod.mk.injEq] at e
    unfold isAxis at h
    rw [e.1, e.2.1, e.2.2] at h
    exact absurd h (by decide)
  exact ⟨decide_eq_false h1, decide_eq_false (by simpa using h1)⟩
/-- what the program asks of leg k is what the reference asks -/
theorem bad_step (x y z : Nat → Int) (k : Nat) (hp : ∀ i, i < k → badB x y z i = false) :
    badB x y z k = (!isAxis (x (k + 1) - x k) (y (k + 1) - y k) (z (k + 1) - z k) || decide ((sgn (x (k + 1) - x k), sgn (y (k + 1) - y k), sgn (z (k + 1) - z k)) = (lastX x k, lastX y k, lastX z k)) || decide ((sgn (x (k + 1) - x k), sgn (y (k + 1) - y k), sgn (z (k + 1) - z k)) = (-lastX x k, -lastX y k, -lastX z k))) := by
  cases hA : isAxis (x (k + 1) - x k) (y (k + 1) - y k) (z (k + 1) - z k) with
  | false =>
    have := isAxis_iff (x (k + 1) - x k) (y (k + 1) - y k) (z (k + 1) - z k)
    rw [hA] at this
    unfold badB axI
    have h0 : (axisF (x (k + 1) - x k) (y (k + 1) - y k) (z (k + 1) - z k) == 0) = true := by
      cases h : (axisF (x (k + 1) - x k) (y (k + 1) - y k) (z (k + 1) - z k) == 0) with
      | true => rfl
      | false => rw [h] at this; cases this
    rw [h0]
    rfl
  | true =>
    have := isAxis_iff (x (k + 1) - x k) (y (k + 1) - y k) (z (k + 1) - z k)
    rw [hA] at this
    have h0 : (axisF (x (k + 1) - x k) (y (k + 1) - y k) (z (k + 1) - z k) == 0) = false := by
      cases h : (axisF (x (k + 1) - x k) (y (k + 1) - y k) (z (k + 1) - z k) == 0) with
      | false => rfl
      | true => rw [h] at this; cases this
    unfold badB
    rw [show (axI x y z k == 0) = false from h0]
    cases k with
    | zero =>
      obtain ⟨z1, z2⟩ := axis_zero _ _ _ hA
      have z3 : decide ((sgn (x (0 + 1) - x 0), sgn (y (0 + 1) - y 0), sgn (z (0 + 1) - z 0)) = (lastX x 0, lastX y 0, lastX z 0)) = false := z1
      have z4 : decide ((sgn (x (0 + 1) - x 0), sgn (y (0 + 1) - y 0), sgn (z (0 + 1) - z 0)) = (-lastX x 0, -lastX y 0, -lastX z 0)) = false := z2
      rw [z3, z4]
      rfl
    | succ k =>
      have hb := hp k (by omega)
      have hA2 : isAxis (x (k + 1) - x k) (y (k + 1) - y k) (z (k + 1) - z k) = true := by
        rw [isAxis_iff]
        unfold badB at hb
        have : (axI x y z k == 0) = false := by
          cases h : (axI x y z k == 0) with
          | false => rfl
          | true => rw [h] at hb; cases hb
        rw [show (axisF (x (k + 1) - x k) (y (k + 1) - y k) (z (k + 1) - z k) == 0) = false from this]
        rfl
      have hs := axis_same _ _ _ _ _ _ hA hA2
      simp only [last_succ]
      rw [show decide (0 < k + 1) = true from decide_eq_true (by omega), show k + 1 - 1 = k by omega]
      simp only [Bool.false_or, Bool.true_and, Bool.not_true]
      exact hs
theorem allTo_false {f : Nat → Bool} {n i : Nat} (hi : i < n) (h : f i = true) : allTo (fun i => !f i) n = false := allTo_no hi (by simp [h])
theorem allTo_have {f : Nat → Bool} {k : Nat} (h : allTo (fun i => !f i) k = true) : ∀ i, i < k → f i = false := fun i hi => by have := allTo_iff.1 h i hi; simpa using this
theorem allTo_next {f : Nat → Bool} {k : Nat} (h : allTo (fun i => !f i) k = true) (hk : f k = false) : allTo (fun i => !f i) (k + 1) = true := allTo_snoc h (by simp [hk])
end Go.Proofs.YtgbhhjdmochhpaaGreatDoor
