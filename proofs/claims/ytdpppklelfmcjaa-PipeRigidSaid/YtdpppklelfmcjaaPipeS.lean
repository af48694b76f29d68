/-
  The plain law behind PipeRigid. Conditions: none. By an AI agent.
-/
import Derived.Test.YtdpppklelfmcjaaPipeQ
namespace Go.Proofs.Ytdpppklelfmcjaa
open Go Go.ChangeShapes Go.WideShapes Go.RowKit Go.ChangeAt
set_option linter.unusedSimpArgs false
set_option linter.unusedVariables false

/- ROTATIONS OF DIFFERENCES: the sum of magnitudes stays; axes are exchanged. -/
def norm1 (v : V) : Int := mx v.1 (-v.1) + mx v.2.1 (-v.2.1) + mx v.2.2 (-v.2.2)
theorem mx_neg' (d : Int) : mx (-d) (- -d) = mx d (-d) := by unfold mx; split <;> split <;> omega
theorem norm_qt (v : V) : norm1 (qt v) = norm1 v := by unfold norm1 qt; simp only [mx_neg']; omega
theorem norm_qn (v : V) : ∀ n, norm1 (qn n v) = norm1 v
  | 0 => rfl
  | n + 1 => by unfold qn; rw [norm_qt, norm_qn v n]
theorem norm_tilt (n : Int) (v : V) : norm1 (tiltV n v) = norm1 v := by
  unfold tiltV
  repeat' split
  all_goals (unfold norm1; simp only [mx_neg']; try omega)
theorem norm_turn (v : V) (k : Int) : norm1 (turnV v k) = norm1 v := by unfold turnV; rw [norm_tilt, norm_qn]
def axisV (v : V) : Int := axisF v.1 v.2.1 v.2.2
/-- a permutation of the axes -/
structure Perm (f : Int → Int) : Prop where
  zero : f 0 = 0
  inj : ∀ a b, 0 ≤ a → a ≤ 3 → 0 ≤ b → b ≤ 3 → f a = f b → a = b
  bd : ∀ a, 0 ≤ a → a ≤ 3 → 0 ≤ f a ∧ f a ≤ 3
def swp (p q a : Int) : Int := if a = p then q else if a = q then p else a
theorem swp_perm {p q : Int} (hp : 1 ≤ p ∧ p ≤ 3) (hq : 1 ≤ q ∧ q ≤ 3) : Perm (swp p q) :=
  ⟨by unfold swp; rw [if_neg (by omega), if_neg (by omega)], fun a b h1 h2 h3 h4 h => by unfold swp at h; (repeat' split at h) <;> omega, fun a h1 h2 => by unfold swp; (repeat' split) <;> omega⟩
theorem perm_id : Perm id := ⟨rfl, fun _ _ _ _ _ _ h => h, fun _ h1 h2 => ⟨h1, h2⟩⟩
theorem Perm.comp {f g : Int → Int} (hf : Perm f) (hg : Perm g) : Perm (fun a => f (g a)) :=
  ⟨by show f (g 0) = 0; rw [hg.zero, hf.zero], fun a b h1 h2 h3 h4 h => hg.inj a b h1 h2 h3 h4 (hf.inj _ _ (hg.bd a h1 h2).1 (hg.bd a h1 h2).2 (hg.bd b h3 h4).1 (hg.bd b h3 h4).2 h), fun a h1 h2 => hf.bd _ (hg.bd a h1 h2).1 (hg.bd a h1 h2).2⟩
theorem neg_zero' (d : Int) : (-d = 0) = (d = 0) := propext ⟨fun h => by omega, fun h => by omega⟩
theorem axis_bd (v : V) : 0 ≤ axisV v ∧ axisV v ≤ 3 := by unfold axisV axisF; (repeat' split) <;> omega
theorem axis_qt (v : V) : axisV (qt v) = swp 1 2 (axisV v) := by
  unfold axisV qt axisF swp
  simp only [ne_eq, neg_zero']
  by_cases h1 : v.1 = 0 <;> by_cases h2 : v.2.1 = 0 <;> by_cases h3 : v.2.2 = 0 <;> simp [h1, h2, h3]
theorem axis_qn : ∀ n, ∃ f, Perm f ∧ ∀ v, axisV (qn n v) = f (axisV v)
  | 0 => ⟨id, perm_id, fun _ => rfl⟩
  | n + 1 => by
    obtain ⟨f, hf, h⟩ := axis_qn n
    exact ⟨_, (swp_perm (p := 1) (q := 2) (by omega) (by omega)).comp hf, fun v => by show axisV (qt (qn n v)) = _; rw [axis_qt, h]⟩
theorem axis_tilt (n : Int) : ∃ f, Perm f ∧ ∀ v, axisV (tiltV n v) = f (axisV v) := by
  have s23 : ∀ v : V, axisV (v.1, -v.2.2, v.2.1) = swp 2 3 (axisV v) := fun v => by
    unfold axisV axisF swp
    simp only [ne_eq, neg_zero']
    by_cases h1 : v.1 = 0 <;> by_cases h2 : v.2.1 = 0 <;> by_cases h3 : v.2.2 = 0 <;> simp [h1, h2, h3]
  have s23' : ∀ v : V, axisV (v.1, v.2.2, -v.2.1) = swp 2 3 (axisV v) := fun v => by
    unfold axisV axisF swp
    simp only [ne_eq, neg_zero']
    by_cases h1 : v.1 = 0 <;> by_cases h2 : v.2.1 = 0 <;> by_cases h3 : v.2.2 = 0 <;> simp [h1, h2, h3]
  have s0 : ∀ v : V, axisV (v.1, -v.2.1, -v.2.2) = axisV v := fun v => by
    unfold axisV axisF
    simp only [ne_eq, neg_zero']
  have s13 : ∀ v : V, axisV (v.2.2, v.2.1, -v.1) = swp 1 3 (axisV v) := fun v => by
    unfold axisV axisF swp
    simp only [ne_eq, neg_zero']
    by_cases h1 : v.1 = 0 <;> by_cases h2 : v.2.1 = 0 <;> by_cases h3 : v.2.2 = 0 <;> simp [h1, h2, h3]
  have s13' : ∀ v : V, axisV (-v.2.2, v.2.1, v.1) = swp 1 3 (axisV v) := fun v => by
    unfold axisV axisF swp
    simp only [ne_eq, neg_zero']
    by_cases h1 : v.1 = 0 <;> by_cases h2 : v.2.1 = 0 <;> by_cases h3 : v.2.2 = 0 <;> simp [h1, h2, h3]
  by_cases h1 : n = 1
  · exact ⟨_, swp_perm (p := 2) (q := 3) (by omega) (by omega), fun v => by unfold tiltV; rw [if_pos h1]; exact s23 v⟩
  by_cases h2 : n = 2
  · exact ⟨id, perm_id, fun v => by unfold tiltV; rw [if_neg h1, if_pos h2]; exact s0 v⟩
  by_cases h3 : n = 3
  · exact ⟨_, swp_perm (p := 2) (q := 3) (by omega) (by omega), fun v => by unfold tiltV; rw [if_neg h1, if_neg h2, if_pos h3]; exact s23' v⟩
  by_cases h4 : n = 4
  · exact ⟨_, swp_perm (p := 1) (q := 3) (by omega) (by omega), fun v => by unfold tiltV; rw [if_neg h1, if_neg h2, if_neg h3, if_pos h4]; exact s13 v⟩
  by_cases h5 : n = 5
  · exact ⟨_, swp_perm (p := 1) (q := 3) (by omega) (by omega), fun v => by unfold tiltV; rw [if_neg h1, if_neg h2, if_neg h3, if_neg h4, if_pos h5]; exact s13' v⟩
  · exact ⟨id, perm_id, fun v => by unfold tiltV; rw [if_neg h1, if_neg h2, if_neg h3, if_neg h4, if_neg h5]; rfl⟩
theorem axis_turn (k : Int) : ∃ f, Perm f ∧ ∀ v, axisV (turnV v k) = f (axisV v) := by
  obtain ⟨f, hf, h⟩ := axis_tilt (numT k / 4)
  obtain ⟨g, hg, h2⟩ := axis_qn (numT k % 4).toNat
  exact ⟨_, hf.comp hg, fun v => by unfold turnV; rw [h, h2]⟩
/-- differences turn -/
theorem turn_sub (u v : V) (k : Int) : turnV (u.1 - v.1, u.2.1 - v.2.1, u.2.2 - v.2.2) k = ((turnV u k).1 - (turnV v k).1, (turnV u k).2.1 - (turnV v k).2.1, (turnV u k).2.2 - (turnV v k).2.2) := by
  rw [← lin_rot, ← lin_rot u, ← lin_rot v]
  unfold lin
  simp only [Int.mul_sub, Prod.mk.injEq]
  refine ⟨?_, ?_, ?_⟩ <;> omega
theorem turn_scale (L k : Int) : turnV (L, 0, 0) k = ((turnV (1, 0, 0) k).1 * L, (turnV (1, 0, 0) k).2.1 * L, (turnV (1, 0, 0) k).2.2 * L) := by
  rw [← lin_rot, ← lin_rot (1, 0, 0)]
  unfold lin
  simp
/-- placed points -/
def plX (a t : Int) (x y z : Nat → Int) (i : Nat) : Int := (turnV (x i, y i, z i) t).1 + a
def plY (b t : Int) (x y z : Nat → Int) (i : Nat) : Int := (turnV (x i, y i, z i) t).2.1 + b
def plZ (c t : Int) (x y z : Nat → Int) (i : Nat) : Int := (turnV (x i, y i, z i) t).2.2 + c
section
variable {a b c t r : Int} {x y z : Nat → Int} {n : Nat}
theorem pl_diff (i : Nat) : (plX a t x y z (i + 1) - plX a t x y z i, plY b t x y z (i + 1) - plY b t x y z i, plZ c t x y z (i + 1) - plZ c t x y z i) = turnV (x (i + 1) - x i, y (i + 1) - y i, z (i + 1) - z i) t := by
  rw [turn_sub (x (i + 1), y (i + 1), z (i + 1)) (x i, y i, z i) t]
  unfold plX plY plZ
  simp only [Prod.mk.injEq]
  refine ⟨?_, ?_, ?_⟩ <;> omega
theorem pl_leg (i : Nat) : legV (plX a t x y z) (plY b t x y z) (plZ c t x y z) i = legV x y z i := by
  have h := pl_diff (a := a) (b := b) (c := c) (t := t) (x := x) (y := y) (z := z) i
  have h2 : norm1 (plX a t x y z (i + 1) - plX a t x y z i, plY b t x y z (i + 1) - plY b t x y z i, plZ c t x y z (i + 1) - plZ c t x y z i) = norm1 (x (i + 1) - x i, y (i + 1) - y i, z (i + 1) - z i) := by rw [h, norm_turn]
  exact h2
theorem pl_axis : ∃ f, Perm f ∧ ∀ i, axI (plX a t x y z) (plY b t x y z) (plZ c t x y z) i = f (axI x y z i) := by
  obtain ⟨f, hf, h⟩ := axis_turn t
  refine ⟨f, hf, fun i => ?_⟩
  have h2 := pl_diff (a := a) (b := b) (c := c) (t := t) (x := x) (y := y) (z := z) i
  have h3 : axisV (plX a t x y z (i + 1) - plX a t x y z i, plY b t x y z (i + 1) - plY b t x y z i, plZ c t x y z (i + 1) - plZ c t x y z i) = f (axisV (x (i + 1) - x i, y (i + 1) - y i, z (i + 1) - z i)) := by rw [h2, h]
  exact h3
theorem pl_bad (i : Nat) : badB (plX a t x y z) (plY b t x y z) (plZ c t x y z) i = badB x y z i := by
  obtain ⟨f, hf, h⟩ := pl_axis (a := a) (b := b) (c := c) (t := t) (x := x) (y := y) (z := z)
  have bd : ∀ j, 0 ≤ axI x y z j ∧ axI x y z j ≤ 3 := fun j => axis_bd (x (j + 1) - x j, y (j + 1) - y j, z (j + 1) - z j)
  have e : ∀ p q : Int, 0 ≤ p → p ≤ 3 → 0 ≤ q → q ≤ 3 → (f p == f q) = (p == q) := fun p q h1 h2 h3 h4 => by
    by_cases hpq : p = q
    · subst hpq; simp
    · rw [beq_eq_false_iff_ne.2 hpq, beq_eq_false_iff_ne.2 fun hh => hpq (hf.inj p q h1 h2 h3 h4 hh)]
  have b1 := bd i
  have b2 := bd (i - 1)
  have e0 := e (axI x y z i) 0 b1.1 b1.2 (by omega) (by omega)
  rw [hf.zero] at e0
  unfold badB
  rw [h i, h (i - 1), e0, e _ _ b1.1 b1.2 b2.1 b2.2]
theorem pl_check (hA : allTo (inP x y z) n = true) (hB : allTo (inP (plX a t x y z) (plY b t x y z) (plZ c t x y z)) n = true) : checkF n (plX a t x y z) (plY b t x y z) (plZ c t x y z) r = checkF n x y z r := by
  unfold checkF
  rw [hA, hB, allTo_congr (f := fun i => !badB (plX a t x y z) (plY b t x y z) (plZ c t x y z) i) (g := fun i => !badB x y z i) (fun i _ => by rw [pl_bad]), allTo_congr (f := fun i => !shortB (plX a t x y z) (plY b t x y z) (plZ c t x y z) n r i) (g := fun i => !shortB x y z n r i) (fun i _ => by unfold shortB; rw [pl_leg])]
theorem pl_length (hA : allTo (inP x y z) n = true) (hB : allTo (inP (plX a t x y z) (plY b t x y z) (plZ c t x y z)) n = true) : lengthF n (plX a t x y z) (plY b t x y z) (plZ c t x y z) r = lengthF n x y z r := by
  unfold lengthF
  rw [pl_check hA hB]
  have : ∀ k, sumTo (legV (plX a t x y z) (plY b t x y z) (plZ c t x y z)) k = sumTo (legV x y z) k := by
    intro k
    induction k with
    | zero => rfl
    | succ k ih => unfold sumTo; rw [ih, pl_leg]
  rw [this]
end
theorem sgn_mul (d : Int) : sgn d * mx d (-d) = d := by
  rw [sgn_def]
  unfold mx
  split
  · split <;> omega
  · split
    · rename_i h; subst h; rfl
    · split <;> omega
/-- the part stands along its first leg -/
theorem part_stands {X Y Z : Nat → Int} (h : isAxis (X 1 - X 0) (Y 1 - Y 0) (Z 1 - Z 0) = true) : addV (turnV (legV X Y Z 0, 0, 0) (turnOf (dirV X Y Z))) (X 0, Y 0, Z 0) = (X 1, Y 1, Z 1) := by
  have ht := (turn_at (unit_of h)).1
  rw [turn_scale]
  have ht' : turnV (1, 0, 0) (turnOf (dirV X Y Z)) = (sgn (X 1 - X 0), sgn (Y 1 - Y 0), sgn (Z 1 - Z 0)) := ht
  rw [ht']
  have hx : axisF (X 1 - X 0) (Y 1 - Y 0) (Z 1 - Z 0) ≠ 0 := by
    rw [isAxis_iff] at h
    intro e
    rw [e] at h
    exact absurd h (by decide)
  have hm := fun d : Int => sgn_mul d
  have z0 : mx (0 : Int) (-0) = 0 := rfl
  unfold addV legV
  simp only [Prod.mk.injEq, Nat.zero_add]
  have e1 := hm (X 1 - X 0)
  have e2 := hm (Y 1 - Y 0)
  have e3 := hm (Z 1 - Z 0)
  have s0 : sgn 0 = 0 := rfl
  rcases axis_only hx with ⟨h1, h2, h3⟩ | ⟨h1, h2, h3⟩ | ⟨h1, h2, h3⟩
  · rw [h2, h3]
    rw [z0, s0, Int.add_zero, Int.add_zero, e1, Int.zero_mul]
    refine ⟨?_, ?_, ?_⟩ <;> omega
  · rw [h1, h3]
    rw [z0, s0, Int.add_zero, Int.zero_add, e2, Int.zero_mul]
    refine ⟨?_, ?_, ?_⟩ <;> omega
  · rw [h1, h2]
    rw [z0, s0, Int.add_zero, Int.zero_add, e3, Int.zero_mul]
    refine ⟨?_, ?_, ?_⟩ <;> omega
end Go.Proofs.Ytdpppklelfmcjaa
