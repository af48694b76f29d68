/-
  The plain law behind PipeLonger. Conditions: none. By an AI agent.
-/
import Derived.Test.YtdpppklelfmcjaaPipeL
namespace Go.Proofs.Ytdpppklelfmcjaa
open Go Go.ChangeShapes Go.WideShapes Go.RowKit Go.ChangeAt
set_option linter.unusedSimpArgs false
set_option linter.unusedVariables false

def longF (a b d : Int) : Int := if b < a then b - d else b + d
theorem longer_in (a b d : Int) (w : World) (ha : -1048576 ≤ a ∧ a ≤ 1048576) (hb : -1048576 ≤ b ∧ b ≤ 1048576) (hd : 0 ≤ d ∧ d ≤ 65535) :
    Calls Try.prog 23 #[.int .i64 a, .int .i64 b, .int .i64 d] w fun e w' => e = .returned (.int .i64 (longF a b d)) ∧ Below w.heap.size w w' := by
  obtain ⟨ha0, ha1⟩ := ha
  obtain ⟨hb0, hb1⟩ := hb
  obtain ⟨hd0, hd1⟩ := hd
  by_cases h : b < a
  · have E : Hid (longF a b d = b - d) := if_pos h
    go_enter Try.func23, Try.ntmps23
    go_wp2
    go_returns
    exact ⟨by rw [E.out]; rfl, by go_grown⟩
  · have E : Hid (longF a b d = b + d) := if_neg h
    go_enter Try.func23, Try.ntmps23
    go_wp2
    go_returns
    exact ⟨by rw [E.out]; rfl, by go_grown⟩
def updA (a b : Nat) (x : Nat → Int) (k : Nat) (v : Int) : Nat → Int := if a = b then fun i => if i = k then v else x i else x
theorem updA_ne {a b : Nat} (h : a ≠ b) (x : Nat → Int) (k : Nat) (v : Int) : updA a b x k v = x := if_neg h
theorem updA_at (a : Nat) (x : Nat → Int) (k : Nat) (v : Int) : updA a a x k v k = v := by unfold updA; rw [if_pos rfl]; simp
theorem updA_lt {a b : Nat} {x : Nat → Int} {k i : Nat} {v : Int} (h : i ≠ k) : updA a b x k v i = x i := by unfold updA; split; simp [h]; rfl
def cellP (x y z : Nat → Int) (q : Nat) : Value := match q % 3 with
  | 0 => .int .i64 (x (q / 3))
  | 1 => .int .i64 (y (q / 3))
  | _ => .int .i64 (z (q / 3))
theorem cellP_at (x y z : Nat → Int) (i j : Nat) (hj : j < 3) : cellP x y z (i * 3 + j) = (match j with | 0 => .int .i64 (x i) | 1 => .int .i64 (y i) | _ => .int .i64 (z i)) := by
  unfold cellP
  rw [show (i * 3 + j) / 3 = i by omega, show (i * 3 + j) % 3 = j by omega]
  rcases (by omega : j = 0 ∨ j = 1 ∨ j = 2) with rfl | rfl | rfl <;> rfl
theorem vecs_store {w : World} {g cap n k a : Nat} {cur : Array Value} {t : TypeId} {x y z : Nat → Int} {v : Int} (hg : w.heap[g]? = some (.cells cur t)) (ht : cur.toList.take (n * 3) = listOf (cellP x y z) (n * 3)) (hn : n ≤ cap) (hc : cap ≤ maxLen) (hk : k < n) (ha : a < 3) :
    VecsAt (w.setCell ⟨g, k * 3 + a, none⟩ (.int .i64 v)) (.slice (some ⟨g, 0, none⟩) n cap) n (updA 0 a x k v) (updA 1 a y k v) (updA 2 a z k v) := by
  have hs := heap_setCell_same w g (k * 3 + a) cur t (.int .i64 v) hg
  have hlen : n * 3 ≤ cur.size := by
    have := congrArg List.length ht
    rw [listOf_len, List.length_take] at this
    simp at this
    omega
  refine ⟨_, cap, rfl, hn, by simpa [maxLen] using hc, fun _ => ⟨g, 0, rfl, (Array.getElem?_eq_some_iff.1 hs).1, fun i j hi hj => ?_⟩⟩
  rw [cell_of_row _ _ _ _ t (0, 0) hs, Nat.zero_add]
  have hold : cur[i * 3 + j]? = some (cellP x y z (i * 3 + j)) := by
    have h1 : (cur.toList.take (n * 3))[i * 3 + j]? = some (cellP x y z (i * 3 + j)) := by rw [ht]; exact listOf_at _ _ _ (by omega)
    rw [List.getElem?_take_of_lt (by omega)] at h1
    simpa using h1
  rw [Array.getElem?_setIfInBounds]
  by_cases e : k * 3 + a = i * 3 + j
  · have h1 : k = i := by omega
    have h2 : a = j := by omega
    subst h1 h2
    rw [if_pos rfl, if_pos (by omega)]
    rcases (by omega : a = 0 ∨ a = 1 ∨ a = 2) with rfl | rfl | rfl <;> simp only [updA_at]
  · rw [if_neg e, hold, cellP_at _ _ _ _ _ hj]
    have h0 : i ≠ k ∨ j ≠ a := by omega
    rcases (by omega : j = 0 ∨ j = 1 ∨ j = 2) with rfl | rfl | rfl
    · simp only
      rcases h0 with h0 | h0
      · rw [updA_lt h0]
      · rw [updA_ne h0]
    · simp only
      rcases h0 with h0 | h0
      · rw [updA_lt h0]
      · rw [updA_ne h0]
    · simp only
      rcases h0 with h0 | h0
      · rw [updA_lt h0]
      · rw [updA_ne h0]
/-- P43.7, whatever the axis -/
theorem longer_law {m : Nat} {x y z X Y Z : Nat → Int} {r d : Int} (hm : 1 ≤ m) (h0 : checkF (m + 1) x y z r = 0) (hlt : ∀ i, i < m → X i = x i ∧ Y i = y i ∧ Z i = z i) (hax : axI X Y Z (m - 1) = axI x y z (m - 1)) (hleg : legV X Y Z (m - 1) = legV x y z (m - 1) + d) (hd : 0 ≤ d) (hin : In3 (X m) (Y m) (Z m)) :
    checkF (m + 1) X Y Z r = 0 ∧ lengthF (m + 1) X Y Z r = lengthF (m + 1) x y z r + d := by
  obtain ⟨m2, m32, hA, r1, r2, hG, hS⟩ := check_zero h0
  simp only [Nat.add_sub_cancel] at hG hS
  have hA2 : allTo (inP X Y Z) (m + 1) = true := allTo_iff.2 fun i hi => by
    by_cases e : i = m
    · subst e; exact decide_eq_true hin
    · have := allTo_iff.1 hA i hi
      obtain ⟨e1, e2, e3⟩ := hlt i (by omega)
      unfold inP at *
      rw [e1, e2, e3]; exact this
  have hleg2 : ∀ i, i < m - 1 → legV X Y Z i = legV x y z i := fun i hi => by
    obtain ⟨e1, e2, e3⟩ := hlt i (by omega)
    obtain ⟨f1, f2, f3⟩ := hlt (i + 1) (by omega)
    unfold legV
    rw [e1, e2, e3, f1, f2, f3]
  have hax2 : ∀ i, i < m → axI X Y Z i = axI x y z i := fun i hi => by
    by_cases e : i = m - 1
    · subst e; exact hax
    · obtain ⟨e1, e2, e3⟩ := hlt i (by omega)
      obtain ⟨f1, f2, f3⟩ := hlt (i + 1) (by omega)
      unfold axI
      rw [e1, e2, e3, f1, f2, f3]
  have hG2 : allTo (fun i => !badB X Y Z i) m = true := by
    rw [← hG]
    refine allTo_congr fun i hi => ?_
    unfold badB
    rw [hax2 i hi, hax2 (i - 1) (by omega)]
  have hS2 : allTo (fun i => !shortB X Y Z (m + 1) r i) m = true := allTo_iff.2 fun i hi => by
    have h1 := allTo_have hS i hi
    have h2 : shortB X Y Z (m + 1) r i = false := by
      unfold shortB at *
      have h3 : ¬ legV x y z i < r * bendsI (m + 1) i := by simpa using h1
      refine decide_eq_false ?_
      by_cases e : i = m - 1
      · subst e; rw [hleg]; omega
      · rw [hleg2 i (by omega)]; exact h3
    simp [h2]
  have hc : checkF (m + 1) X Y Z r = 0 := by
    unfold checkF
    rw [if_neg (by omega), if_neg (by omega), if_neg (by rw [hA2]; simp; omega)]
    simp only [Nat.add_sub_cancel]
    rw [if_neg (by rw [hG2]; simp), if_neg (by rw [hS2]; simp)]
  refine ⟨hc, ?_⟩
  unfold lengthF
  rw [if_pos hc, if_pos h0]
  simp only [Nat.add_sub_cancel]
  obtain ⟨q, hq⟩ : ∃ q, m = q + 1 := ⟨m - 1, by omega⟩
  subst hq
  simp only [Nat.add_sub_cancel] at hleg hleg2
  have hsum : ∀ k, k ≤ q → sumTo (legV X Y Z) k = sumTo (legV x y z) k := by
    intro k
    induction k with
    | zero => intro _; rfl
    | succ k ih => intro hk; unfold sumTo; rw [ih (by omega), hleg2 k (by omega)]
  rw [show sumTo (legV X Y Z) (q + 1) = sumTo (legV X Y Z) q + legV X Y Z q from rfl, show sumTo (legV x y z) (q + 1) = sumTo (legV x y z) q + legV x y z q from rfl, hsum q (Nat.le_refl _), hleg]
  omega
theorem axis_only {a b c : Int} (h : axisF a b c ≠ 0) : (a ≠ 0 ∧ b = 0 ∧ c = 0) ∨ (a = 0 ∧ b ≠ 0 ∧ c = 0) ∨ (a = 0 ∧ b = 0 ∧ c ≠ 0) := by
  unfold axisF at h
  split at h
  · rename_i h1; exact .inl h1
  · split at h
    · rename_i h2; exact .inr (.inl h2)
    · split at h
      · rename_i h3; exact .inr (.inr h3)
      · exact absurd rfl h
theorem bad_no' {x y z : Nat → Int} {i : Nat} : badB x y z i = false → axI x y z i ≠ 0 := by
  unfold badB
  simp only [Bool.or_eq_false_iff, Bool.and_eq_false_iff, beq_eq_false_iff_ne, decide_eq_false_iff_not]
  exact fun h => h.1
/-- the last leg along axis 1 -/
theorem longer_x {k : Nat} {x y z : Nat → Int} {r d : Int} (h0 : checkF (k + 1 + 1) x y z r = 0) (hne : x (k + 1) ≠ x k) (hd : 0 ≤ d) (hin : In3 ((updA 0 0 x (k + 1) (longF (x k) (x (k + 1)) d)) (k + 1)) ((updA 1 0 y (k + 1) (longF (x k) (x (k + 1)) d)) (k + 1)) ((updA 2 0 z (k + 1) (longF (x k) (x (k + 1)) d)) (k + 1))) :
    checkF (k + 1 + 1) (updA 0 0 x (k + 1) (longF (x k) (x (k + 1)) d)) (updA 1 0 y (k + 1) (longF (x k) (x (k + 1)) d)) (updA 2 0 z (k + 1) (longF (x k) (x (k + 1)) d)) r = 0 ∧ lengthF (k + 1 + 1) (updA 0 0 x (k + 1) (longF (x k) (x (k + 1)) d)) (updA 1 0 y (k + 1) (longF (x k) (x (k + 1)) d)) (updA 2 0 z (k + 1) (longF (x k) (x (k + 1)) d)) r = lengthF (k + 1 + 1) x y z r + d := by
  have hg := (check_zero h0).2.2.2.2.2.1
  simp only [Nat.add_sub_cancel] at hg
  have ha := (bad_no' (allTo_have hg k (by omega)))
  have hx := axis_only (a := x (k + 1) - x k) (b := y (k + 1) - y k) (c := z (k + 1) - z k) ha
  have hv : longF (x k) (x (k + 1)) d - x k = if x (k + 1) < x k then x (k + 1) - x k - d else x (k + 1) - x k + d := by unfold longF; split <;> omega
  refine longer_law (by omega) h0 (fun i hi => ⟨updA_lt (by omega), updA_lt (by omega), updA_lt (by omega)⟩) ?_ ?_ hd hin
  · unfold axI
    simp only [Nat.add_sub_cancel]
    rw [updA_lt (show k ≠ k + 1 by omega), updA_lt (show k ≠ k + 1 by omega), updA_lt (show k ≠ k + 1 by omega)]
    rw [updA_at, updA_ne (show 1 ≠ 0 by decide), updA_ne (show 2 ≠ 0 by decide), hv]
    rcases hx with ⟨h1, h2, h3⟩ | ⟨h1, h2, h3⟩ | ⟨h1, h2, h3⟩
    all_goals (first | (exfalso; omega) | skip)
    unfold axisF
    split <;> (repeat' split) <;> (first | rfl | (exfalso; simp_all; omega) | (exfalso; omega))
  · unfold legV
    simp only [Nat.add_sub_cancel]
    rw [updA_lt (show k ≠ k + 1 by omega), updA_lt (show k ≠ k + 1 by omega), updA_lt (show k ≠ k + 1 by omega)]
    rw [updA_at, updA_ne (show 1 ≠ 0 by decide), updA_ne (show 2 ≠ 0 by decide), hv]
    unfold mx
    (repeat' split) <;> omega
/-- the last leg along axis 2 -/
theorem longer_y {k : Nat} {x y z : Nat → Int} {r d : Int} (h0 : checkF (k + 1 + 1) x y z r = 0) (hne : y (k + 1) ≠ y k) (hd : 0 ≤ d) (hin : In3 ((updA 0 1 x (k + 1) (longF (y k) (y (k + 1)) d)) (k + 1)) ((updA 1 1 y (k + 1) (longF (y k) (y (k + 1)) d)) (k + 1)) ((updA 2 1 z (k + 1) (longF (y k) (y (k + 1)) d)) (k + 1))) :
    checkF (k + 1 + 1) (updA 0 1 x (k + 1) (longF (y k) (y (k + 1)) d)) (updA 1 1 y (k + 1) (longF (y k) (y (k + 1)) d)) (updA 2 1 z (k + 1) (longF (y k) (y (k + 1)) d)) r = 0 ∧ lengthF (k + 1 + 1) (updA 0 1 x (k + 1) (longF (y k) (y (k + 1)) d)) (updA 1 1 y (k + 1) (longF (y k) (y (k + 1)) d)) (updA 2 1 z (k + 1) (longF (y k) (y (k + 1)) d)) r = lengthF (k + 1 + 1) x y z r + d := by
  have hg := (check_zero h0).2.2.2.2.2.1
  simp only [Nat.add_sub_cancel] at hg
  have ha := (bad_no' (allTo_have hg k (by omega)))
  have hx := axis_only (a := x (k + 1) - x k) (b := y (k + 1) - y k) (c := z (k + 1) - z k) ha
  have hv : longF (y k) (y (k + 1)) d - y k = if y (k + 1) < y k then y (k + 1) - y k - d else y (k + 1) - y k + d := by unfold longF; split <;> omega
  refine longer_law (by omega) h0 (fun i hi => ⟨updA_lt (by omega), updA_lt (by omega), updA_lt (by omega)⟩) ?_ ?_ hd hin
  · unfold axI
    simp only [Nat.add_sub_cancel]
    rw [updA_lt (show k ≠ k + 1 by omega), updA_lt (show k ≠ k + 1 by omega), updA_lt (show k ≠ k + 1 by omega)]
    rw [updA_at, updA_ne (show 0 ≠ 1 by decide), updA_ne (show 2 ≠ 1 by decide), hv]
    rcases hx with ⟨h1, h2, h3⟩ | ⟨h1, h2, h3⟩ | ⟨h1, h2, h3⟩
    all_goals (first | (exfalso; omega) | skip)
    unfold axisF
    split <;> (repeat' split) <;> (first | rfl | (exfalso; simp_all; omega) | (exfalso; omega))
  · unfold legV
    simp only [Nat.add_sub_cancel]
    rw [updA_lt (show k ≠ k + 1 by omega), updA_lt (show k ≠ k + 1 by omega), updA_lt (show k ≠ k + 1 by omega)]
    rw [updA_at, updA_ne (show 0 ≠ 1 by decide), updA_ne (show 2 ≠ 1 by decide), hv]
    unfold mx
    (repeat' split) <;> omega
/-- the last leg along axis 3 -/
theorem longer_z {k : Nat} {x y z : Nat → Int} {r d : Int} (h0 : checkF (k + 1 + 1) x y z r = 0) (hne : z (k + 1) ≠ z k) (hd : 0 ≤ d) (hin : In3 ((updA 0 2 x (k + 1) (longF (z k) (z (k + 1)) d)) (k + 1)) ((updA 1 2 y (k + 1) (longF (z k) (z (k + 1)) d)) (k + 1)) ((updA 2 2 z (k + 1) (longF (z k) (z (k + 1)) d)) (k + 1))) :
    checkF (k + 1 + 1) (updA 0 2 x (k + 1) (longF (z k) (z (k + 1)) d)) (updA 1 2 y (k + 1) (longF (z k) (z (k + 1)) d)) (updA 2 2 z (k + 1) (longF (z k) (z (k + 1)) d)) r = 0 ∧ lengthF (k + 1 + 1) (updA 0 2 x (k + 1) (longF (z k) (z (k + 1)) d)) (updA 1 2 y (k + 1) (longF (z k) (z (k + 1)) d)) (updA 2 2 z (k + 1) (longF (z k) (z (k + 1)) d)) r = lengthF (k + 1 + 1) x y z r + d := by
  have hg := (check_zero h0).2.2.2.2.2.1
  simp only [Nat.add_sub_cancel] at hg
  have ha := (bad_no' (allTo_have hg k (by omega)))
  have hx := axis_only (a := x (k + 1) - x k) (b := y (k + 1) - y k) (c := z (k + 1) - z k) ha
  have hv : longF (z k) (z (k + 1)) d - z k = if z (k + 1) < z k then z (k + 1) - z k - d else z (k + 1) - z k + d := by unfold longF; split <;> omega
  refine longer_law (by omega) h0 (fun i hi => ⟨updA_lt (by omega), updA_lt (by omega), updA_lt (by omega)⟩) ?_ ?_ hd hin
  · unfold axI
    simp only [Nat.add_sub_cancel]
    rw [updA_lt (show k ≠ k + 1 by omega), updA_lt (show k ≠ k + 1 by omega), updA_lt (show k ≠ k + 1 by omega)]
    rw [updA_at, updA_ne (show 0 ≠ 2 by decide), updA_ne (show 1 ≠ 2 by decide), hv]
    rcases hx with ⟨h1, h2, h3⟩ | ⟨h1, h2, h3⟩ | ⟨h1, h2, h3⟩
    all_goals (first | (exfalso; omega) | skip)
    unfold axisF
    split <;> (repeat' split) <;> (first | rfl | (exfalso; simp_all; omega) | (exfalso; omega))
  · unfold legV
    simp only [Nat.add_sub_cancel]
    rw [updA_lt (show k ≠ k + 1 by omega), updA_lt (show k ≠ k + 1 by omega), updA_lt (show k ≠ k + 1 by omega)]
    rw [updA_at, updA_ne (show 0 ≠ 2 by decide), updA_ne (show 1 ≠ 2 by decide), hv]
    unfold mx
    (repeat' split) <;> omega
end Go.Proofs.Ytdpppklelfmcjaa
