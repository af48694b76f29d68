/-
  Lemmas of this claim, joined (PolP, Base, Slices, Rel, Seq, Ints, Relw, VecPlain, Vec, Tail, Vec2, Vec3, Ref11, Meet, PlA, PlB, PlC, Cells). Conditions: as stated. By an AI agent.
-/
import Derived.Test.YtgbhhjdmochhpaaDoorProg
import Derived.WalkKit
import Derived.WalkSpells
import Derived.WalkLawsBesides
import Derived.ProofKit
import Derived.OpenShut
import Derived.Handy
import Derived.BigQuiet
import Derived.Lib.Hide
import Derived.Deep.DeepHandedRow
import Derived.StillTailTactics
namespace Go.Proofs.YtgbhhjdmochhpaaDoor
set_option linter.unusedVariables false
set_option linter.unusedSimpArgs false

abbrev Pt := Int × Int
def crs (a b c : Pt) : Int := (b.1 - a.1) * (c.2 - a.2) - (b.2 - a.2) * (c.1 - a.1)
def bt (a b q : Int) : Prop := a ≤ q ∧ q ≤ b ∨ b ≤ q ∧ q ≤ a
def onS (a b q : Pt) : Prop := crs a b q = 0 ∧ bt a.1 b.1 q.1 ∧ bt a.2 b.2 q.2
def opp (x y : Int) : Prop := x < 0 ∧ 0 < y ∨ 0 < x ∧ y < 0
def meets (a b c d : Pt) : Prop := onS a b c ∨ onS a b d ∨ onS c d a ∨ onS c d b ∨ (opp (crs a b c) (crs a b d) ∧ opp (crs c d a) (crs c d b))
def ray (a b q : Pt) : Bool := (decide (q.2 < a.2) != decide (q.2 < b.2)) && (decide (0 < crs a b q) == decide (a.2 < b.2))
def side (u v p : Pt) : Bool := (decide (u.2 < p.2) != decide (v.2 < p.2)) && (decide (0 < crs u v p) != decide (u.2 < v.2))
instance (a b q : Int) : Decidable (bt a b q) := by unfold bt; infer_instance
instance (x y : Int) : Decidable (opp x y) := by unfold opp; infer_instance
instance (a b q : Pt) : Decidable (onS a b q) := by unfold onS; infer_instance
instance (a b c d : Pt) : Decidable (meets a b c d) := by unfold meets; infer_instance

theorem crs_diff (u v a b : Pt) : crs u v b - crs u v a = crs a b u - crs a b v := by simp only [crs]; grind
theorem crs_x (u v a b : Pt) : crs u v a * b.1 - crs u v b * a.1 + crs a b u * v.1 - crs a b v * u.1 = 0 := by simp only [crs]; grind
theorem crs_y (u v a b : Pt) : crs u v a * b.2 - crs u v b * a.2 + crs a b u * v.2 - crs a b v * u.2 = 0 := by simp only [crs]; grind
theorem crs_swap (a b q : Pt) : crs b a q = - crs a b q := by simp only [crs]; grind
theorem bt_swap {a b q : Int} : bt b a q ↔ bt a b q := or_comm
theorem onS_swap {a b q : Pt} : onS b a q ↔ onS a b q := by
  unfold onS
  rw [crs_swap, bt_swap, @bt_swap a.2]
  constructor <;> rintro ⟨h1, h2⟩ <;> exact ⟨by omega, h2⟩
theorem meets_swapL {a b c d : Pt} : meets b a c d ↔ meets a b c d := by
  unfold meets opp
  rw [@onS_swap a b c, @onS_swap a b d, crs_swap a b c, crs_swap a b d]
  generalize onS a b c = p1
  generalize onS a b d = p2
  generalize onS c d a = p3
  generalize onS c d b = p4
  have e1 : (-crs a b c < 0 ∧ 0 < -crs a b d ∨ 0 < -crs a b c ∧ -crs a b d < 0) ↔ (crs a b c < 0 ∧ 0 < crs a b d ∨ 0 < crs a b c ∧ crs a b d < 0) := by omega
  have e2 : (crs c d b < 0 ∧ 0 < crs c d a ∨ 0 < crs c d b ∧ crs c d a < 0) ↔ (crs c d a < 0 ∧ 0 < crs c d b ∨ 0 < crs c d a ∧ crs c d b < 0) := by omega
  rw [e1, e2]
  exact ⟨by grind, by grind⟩
theorem meets_comm {a b c d : Pt} : meets c d a b ↔ meets a b c d := by unfold meets; exact ⟨by grind, by grind⟩
theorem meets_swapR {a b c d : Pt} : meets a b d c ↔ meets a b c d := by rw [← meets_comm, meets_swapL, meets_comm]

theorem wavg {A B a b q : Int} (hne : A ≠ B) (hs : A ≤ 0 ∧ 0 ≤ B ∨ B ≤ 0 ∧ 0 ≤ A) (h : A * (b - q) = B * (a - q)) : bt a b q := by
  unfold bt
  apply Classical.byContradiction
  intro hc
  have h2 : (0 < b - q ∧ 0 < a - q) ∨ (0 < q - b ∧ 0 < q - a) := by omega
  have key : ∀ {C D x y : Int}, C ≤ 0 → 0 ≤ D → C ≠ D → 0 < x → 0 < y → C * x ≠ D * y := by
    intro C D x y h1 h2 h3 hx hy e
    have e1 := Int.mul_nonneg h2 (Int.le_of_lt hy)
    have e2 := Int.mul_nonneg (show 0 ≤ -C by omega) (Int.le_of_lt hx)
    rw [Int.neg_mul] at e2
    have e3 : D * y = 0 := by omega
    have e4 : C * x = 0 := by omega
    rcases Int.mul_eq_zero.1 e3 with h | h <;> rcases Int.mul_eq_zero.1 e4 with h' | h' <;> omega
  have hn : A * (q - b) = B * (q - a) := by
    rw [show q - b = -(b - q) by omega, show q - a = -(a - q) by omega, Int.mul_neg, Int.mul_neg, h]
  rcases hs with ⟨s1, s2⟩ | ⟨s1, s2⟩ <;> rcases h2 with ⟨p1, p2⟩ | ⟨p1, p2⟩
  · exact key s1 s2 hne p1 p2 h
  · exact key s1 s2 hne p1 p2 hn
  · exact key s1 s2 (Ne.symm hne) p2 p1 h.symm
  · exact key s1 s2 (Ne.symm hne) p2 p1 hn.symm

theorem meetM {u v a b : Pt} (hne : crs u v a ≠ crs u v b) (h1 : crs u v a ≤ 0 ∧ 0 ≤ crs u v b ∨ crs u v b ≤ 0 ∧ 0 ≤ crs u v a) (h2 : crs a b u ≤ 0 ∧ 0 ≤ crs a b v ∨ crs a b v ≤ 0 ∧ 0 ≤ crs a b u) : meets u v a b := by
  have hd := crs_diff u v a b
  have hx := crs_x u v a b
  have hy := crs_y u v a b
  by_cases hA : crs u v a = 0
  · refine .inl ⟨hA, ?_, ?_⟩ <;> refine wavg (A := crs a b u) (B := crs a b v) (by omega) h2 ?_ <;> grind
  by_cases hB : crs u v b = 0
  · refine .inr (.inl ⟨hB, ?_, ?_⟩) <;> refine wavg (A := crs a b u) (B := crs a b v) (by omega) h2 ?_ <;> grind
  by_cases hU : crs a b u = 0
  · refine .inr (.inr (.inl ⟨hU, ?_, ?_⟩)) <;> refine wavg (A := crs u v a) (B := crs u v b) hne h1 ?_ <;> grind
  by_cases hV : crs a b v = 0
  · refine .inr (.inr (.inr (.inl ⟨hV, ?_, ?_⟩))) <;> refine wavg (A := crs u v a) (B := crs u v b) hne h1 ?_ <;> grind
  refine .inr (.inr (.inr (.inr ⟨?_, ?_⟩))) <;> unfold opp <;> omega

/-- a point at a height of the segment, on its line, is on it -/
theorem on_lev {u v p : Pt} (h : crs u v p = 0) (hl : u.2 < p.2 ∧ p.2 ≤ v.2 ∨ u.2 ≤ p.2 ∧ p.2 < v.2) : onS u v p := by
  refine ⟨h, ?_, by unfold bt; omega⟩
  have hne : u.2 - p.2 ≠ v.2 - p.2 := by omega
  refine wavg (A := u.2 - p.2) (B := v.2 - p.2) hne (by omega) ?_
  simp only [crs] at h
  grind
theorem two {B U s t r D : Int} (hr : 0 < r) (hs : r ≤ s) (ht : r ≤ t) (h : B * s + U * t = D * r) (hB : 0 < B) (hU : 0 < U) : B < D ∧ U < D := by
  have e1 := Int.mul_le_mul_of_nonneg_left hs (Int.le_of_lt hB)
  have e2 := Int.mul_le_mul_of_nonneg_left ht (Int.le_of_lt hU)
  have e3 : (B + U) * r ≤ D * r := by rw [Int.add_mul]; omega
  have := Int.le_of_mul_le_mul_right e3 hr
  omega
theorem core {u v a b : Pt} (huv : u.2 ≤ v.2) (hab : a.2 ≤ b.2) (hm : ¬ meets u v a b) : (ray a b u != ray a b v) = (side u v a != side u v b) := by
  have hd := crs_diff u v a b
  have hy := crs_y u v a b
  have o1 : ¬ onS u v a := fun h => hm (.inl h)
  have o2 : ¬ onS u v b := fun h => hm (.inr (.inl h))
  have o3 : ¬ onS a b u := fun h => hm (.inr (.inr (.inl h)))
  have o4 : ¬ onS a b v := fun h => hm (.inr (.inr (.inr (.inl h))))
  have l1 : crs u v a = 0 → ¬ (u.2 < a.2 ∧ a.2 ≤ v.2 ∨ u.2 ≤ a.2 ∧ a.2 < v.2) := fun h hl => o1 (on_lev h hl)
  have l2 : crs u v b = 0 → ¬ (u.2 < b.2 ∧ b.2 ≤ v.2 ∨ u.2 ≤ b.2 ∧ b.2 < v.2) := fun h hl => o2 (on_lev h hl)
  have l3 : crs a b u = 0 → ¬ (a.2 < u.2 ∧ u.2 ≤ b.2 ∨ a.2 ≤ u.2 ∧ u.2 < b.2) := fun h hl => o3 (on_lev h hl)
  have l4 : crs a b v = 0 → ¬ (a.2 < v.2 ∧ v.2 ≤ b.2 ∨ a.2 ≤ v.2 ∧ v.2 < b.2) := fun h hl => o4 (on_lev h hl)
  have hM := fun h1 h2 h3 => hm (meetM (u := u) (v := v) (a := a) (b := b) h1 h2 h3)
  clear hm o1 o2 o3 o4
  have hrb : ∀ q : Pt, ray a b q = decide (a.2 ≤ q.2 ∧ q.2 < b.2 ∧ 0 < crs a b q) := fun q => by
    unfold ray
    by_cases c1 : q.2 < a.2
    · have c2 : q.2 < b.2 := by omega
      simp [c1, c2]; omega
    · by_cases c2 : q.2 < b.2
      · have c3 : a.2 < b.2 := by omega
        simp [c1, c2, c3]; omega
      · simp [c1, c2]
  have hsd : ∀ p : Pt, side u v p = decide (u.2 < p.2 ∧ p.2 ≤ v.2 ∧ crs u v p ≤ 0) := fun p => by
    unfold side
    by_cases c1 : u.2 < p.2
    · by_cases c2 : v.2 < p.2
      · simp [c1, c2]; omega
      · have c3 : u.2 < v.2 := by omega
        have c4 : p.2 ≤ v.2 := by omega
        by_cases c5 : 0 < crs u v p
        · simp [c1, c2, c3, c4, c5] <;> omega
        · simp [c1, c2, c3, c4, c5] <;> omega
    · have c2 : ¬ v.2 < p.2 := by omega
      simp [c1, c2]
  rw [hrb, hrb, hsd, hsd]
  clear hrb hsd
  generalize crs u v a = A at *
  generalize crs u v b = B at *
  generalize crs a b u = U at *
  generalize crs a b v = V at *
  generalize a.2 = aY at *
  generalize b.2 = bY at *
  generalize u.2 = uY at *
  generalize v.2 = vY at *
  by_cases ca : aY ≤ uY
  · by_cases cb : bY ≤ uY
    · -- (0,0)
      have e1 : ¬ (aY ≤ uY ∧ uY < bY ∧ 0 < U) := by omega
      have e2 : ¬ (aY ≤ vY ∧ vY < bY ∧ 0 < V) := by omega
      have e3 : ¬ (uY < aY ∧ aY ≤ vY ∧ A ≤ 0) := by omega
      have e4 : ¬ (uY < bY ∧ bY ≤ vY ∧ B ≤ 0) := by omega
      simp [e1, e2, e3, e4]
    · by_cases cb2 : bY ≤ vY
      · -- (0,1): U > 0 iff B < 0
        have hU : U ≠ 0 := fun h => l3 h (by omega)
        have hB : B ≠ 0 := fun h => l2 h (by omega)
        have e2 : ¬ (aY ≤ vY ∧ vY < bY ∧ 0 < V) := by omega
        have e3 : ¬ (uY < aY ∧ aY ≤ vY ∧ A ≤ 0) := by omega
        have hk : B * (bY - aY) + U * (vY - uY) = (B - A) * (bY - uY) := by
          have hv : V = U - (B - A) := by omega
          rw [hv] at hy
          grind
        have k : 0 < U ↔ B ≤ 0 := by
          constructor
          · intro h
            apply Classical.byContradiction
            intro hc
            have := two (by omega) (by omega) (by omega) hk (show 0 < B by omega) h
            exact hM (by omega) (by omega) (by omega)
          · intro h
            apply Classical.byContradiction
            intro hc
            have hk' : (-B) * (bY - aY) + (-U) * (vY - uY) = (-(B - A)) * (bY - uY) := by
              rw [Int.neg_mul, Int.neg_mul, Int.neg_mul]; omega
            have := two (by omega) (by omega) (by omega) hk' (show 0 < -B by omega) (show 0 < -U by omega)
            exact hM (by omega) (by omega) (by omega)
        have e1 : (aY ≤ uY ∧ uY < bY ∧ 0 < U) ↔ (uY < bY ∧ bY ≤ vY ∧ B ≤ 0) := by omega
        simp [e1, e2, e3]
      · -- (0,2): U > 0 iff V > 0
        have hU : U ≠ 0 := fun h => l3 h (by omega)
        have hV : V ≠ 0 := fun h => l4 h (by omega)
        have e3 : ¬ (uY < aY ∧ aY ≤ vY ∧ A ≤ 0) := by omega
        have e4 : ¬ (uY < bY ∧ bY ≤ vY ∧ B ≤ 0) := by omega
        have hk : B * (bY - aY) = U * (bY - vY) - V * (bY - uY) := by
          have hv : A = B - (U - V) := by omega
          rw [hv] at hy
          grind
        have hk2 : A * (bY - aY) = U * (aY - vY) - V * (aY - uY) := by
          have hv : B = A + (U - V) := by omega
          rw [hv] at hy
          grind
        have hr : 0 < bY - aY := by omega
        have k : 0 < U ↔ 0 < V := by
          constructor
          · intro h
            apply Classical.byContradiction
            intro hc
            have p1 := Int.mul_pos h (show 0 < bY - vY by omega)
            have p2 := Int.mul_pos (show 0 < -V by omega) (show 0 < bY - uY by omega)
            have p3 := Int.mul_nonneg (show 0 ≤ U by omega) (show 0 ≤ vY - aY by omega)
            have p4 := Int.mul_nonneg (show 0 ≤ -V by omega) (show 0 ≤ uY - aY by omega)
            rw [Int.neg_mul] at p2 p4
            have q1 : 0 < B * (bY - aY) := by omega
            have q2 : A * (bY - aY) ≤ 0 := by
              have z1 : U * (aY - vY) = -(U * (vY - aY)) := by rw [← Int.mul_neg]; congr 1; omega
              have z2 : V * (aY - uY) = -(V * (uY - aY)) := by rw [← Int.mul_neg]; congr 1; omega
              omega
            have hB : 0 < B := by
              apply Classical.byContradiction
              intro hc
              have := Int.mul_nonneg (show 0 ≤ -B by omega) (Int.le_of_lt hr)
              rw [Int.neg_mul] at this
              omega
            have hA : A ≤ 0 := by
              apply Classical.byContradiction
              intro hc
              have := Int.mul_pos (show 0 < A by omega) hr
              omega
            exact hM (by omega) (by omega) (by omega)
          · intro h
            apply Classical.byContradiction
            intro hc
            have p1 := Int.mul_pos (show 0 < -U by omega) (show 0 < bY - vY by omega)
            have p2 := Int.mul_pos h (show 0 < bY - uY by omega)
            have p3 := Int.mul_nonneg (show 0 ≤ -U by omega) (show 0 ≤ vY - aY by omega)
            have p4 := Int.mul_nonneg (show 0 ≤ V by omega) (show 0 ≤ uY - aY by omega)
            rw [Int.neg_mul] at p1 p3
            have q1 : B * (bY - aY) < 0 := by omega
            have q2 : 0 ≤ A * (bY - aY) := by
              have z1 : U * (aY - vY) = -(U * (vY - aY)) := by rw [← Int.mul_neg]; congr 1; omega
              have z2 : V * (aY - uY) = -(V * (uY - aY)) := by rw [← Int.mul_neg]; congr 1; omega
              omega
            have hB : B < 0 := by
              apply Classical.byContradiction
              intro hc
              have := Int.mul_nonneg (show 0 ≤ B by omega) (Int.le_of_lt hr)
              omega
            have hA : 0 ≤ A := by
              apply Classical.byContradiction
              intro hc
              have := Int.mul_pos (show 0 < -A by omega) hr
              rw [Int.neg_mul] at this
              omega
            exact hM (by omega) (by omega) (by omega)
        have e1 : (aY ≤ uY ∧ uY < bY ∧ 0 < U) ↔ (aY ≤ vY ∧ vY < bY ∧ 0 < V) := by omega
        simp [e1, e3, e4]
  · by_cases ca2 : aY ≤ vY
    · by_cases cb2 : bY ≤ vY
      · -- (1,1)
        have e1 : ¬ (aY ≤ uY ∧ uY < bY ∧ 0 < U) := by omega
        have e2 : ¬ (aY ≤ vY ∧ vY < bY ∧ 0 < V) := fun h => by omega
        have hA : A ≠ 0 := fun h => l1 h (by omega)
        have hB : B ≠ 0 := fun h => l2 h (by omega)
        have hr : 0 < vY - uY := by omega
        have hk1 : U * (vY - uY) = B * (aY - uY) - A * (bY - uY) := by
          have hv : V = U - (B - A) := by omega
          rw [hv] at hy
          grind
        have hk2 : V * (vY - uY) = B * (aY - vY) - A * (bY - vY) := by
          have hv : U = V + (B - A) := by omega
          rw [hv] at hy
          grind
        have k : A ≤ 0 ↔ B ≤ 0 := by
          constructor
          · intro h
            apply Classical.byContradiction
            intro hc
            have p1 := Int.mul_pos (show 0 < B by omega) (show 0 < aY - uY by omega)
            have p2 := Int.mul_pos (show 0 < -A by omega) (show 0 < bY - uY by omega)
            have p3 := Int.mul_nonneg (show 0 ≤ B by omega) (show 0 ≤ vY - aY by omega)
            have p4 := Int.mul_nonneg (show 0 ≤ -A by omega) (show 0 ≤ vY - bY by omega)
            rw [Int.neg_mul] at p2 p4
            have z1 : B * (aY - vY) = -(B * (vY - aY)) := by rw [← Int.mul_neg]; congr 1; omega
            have z2 : A * (bY - vY) = -(A * (vY - bY)) := by rw [← Int.mul_neg]; congr 1; omega
            have hU : 0 < U := by
              apply Classical.byContradiction
              intro hc
              have := Int.mul_nonneg (show 0 ≤ -U by omega) (Int.le_of_lt hr)
              rw [Int.neg_mul] at this
              omega
            have hV : V ≤ 0 := by
              apply Classical.byContradiction
              intro hc
              have := Int.mul_pos (show 0 < V by omega) hr
              omega
            exact hM (by omega) (by omega) (by omega)
          · intro h
            apply Classical.byContradiction
            intro hc
            have p1 := Int.mul_pos (show 0 < -B by omega) (show 0 < aY - uY by omega)
            have p2 := Int.mul_pos (show 0 < A by omega) (show 0 < bY - uY by omega)
            have p3 := Int.mul_nonneg (show 0 ≤ -B by omega) (show 0 ≤ vY - aY by omega)
            have p4 := Int.mul_nonneg (show 0 ≤ A by omega) (show 0 ≤ vY - bY by omega)
            rw [Int.neg_mul] at p1 p3
            have z1 : B * (aY - vY) = -(B * (vY - aY)) := by rw [← Int.mul_neg]; congr 1; omega
            have z2 : A * (bY - vY) = -(A * (vY - bY)) := by rw [← Int.mul_neg]; congr 1; omega
            have hU : U < 0 := by
              apply Classical.byContradiction
              intro hc
              have := Int.mul_nonneg (show 0 ≤ U by omega) (Int.le_of_lt hr)
              omega
            have hV : 0 ≤ V := by
              apply Classical.byContradiction
              intro hc
              have := Int.mul_pos (show 0 < -V by omega) hr
              rw [Int.neg_mul] at this
              omega
            exact hM (by omega) (by omega) (by omega)
        have e3 : (uY < aY ∧ aY ≤ vY ∧ A ≤ 0) ↔ (uY < bY ∧ bY ≤ vY ∧ B ≤ 0) := by omega
        simp [e1, e2, e3]
      · -- (1,2): V > 0 iff A < 0
        have e1 : ¬ (aY ≤ uY ∧ uY < bY ∧ 0 < U) := by omega
        have e4 : ¬ (uY < bY ∧ bY ≤ vY ∧ B ≤ 0) := by omega
        have hA : A ≠ 0 := fun h => l1 h (by omega)
        have hV : V ≠ 0 := fun h => l4 h (by omega)
        have hk : A * (bY - aY) + V * (vY - uY) = (A - B) * (vY - aY) := by
          have hv : U = V + (B - A) := by omega
          rw [hv] at hy
          grind
        have k : 0 < V ↔ A ≤ 0 := by
          by_cases hz : vY = aY
          · have z : (A - B) * (vY - aY) = 0 := by rw [hz, Int.sub_self, Int.mul_zero]
            rw [z] at hk
            constructor
            · intro h
              apply Classical.byContradiction
              intro hc
              have p1 := Int.mul_pos (show 0 < A by omega) (show 0 < bY - aY by omega)
              have p2 := Int.mul_nonneg (show 0 ≤ V by omega) (show 0 ≤ vY - uY by omega)
              omega
            · intro h
              apply Classical.byContradiction
              intro hc
              have p1 := Int.mul_pos (show 0 < -A by omega) (show 0 < bY - aY by omega)
              have p2 := Int.mul_nonneg (show 0 ≤ -V by omega) (show 0 ≤ vY - uY by omega)
              rw [Int.neg_mul] at p1 p2
              omega
          · constructor
            · intro h
              apply Classical.byContradiction
              intro hc
              have := two (by omega) (by omega) (by omega) hk (show 0 < A by omega) h
              exact hM (by omega) (by omega) (by omega)
            · intro h
              apply Classical.byContradiction
              intro hc
              have hk' : (-A) * (bY - aY) + (-V) * (vY - uY) = (-(A - B)) * (vY - aY) := by
                rw [Int.neg_mul, Int.neg_mul, Int.neg_mul]; omega
              have := two (by omega) (by omega) (by omega) hk' (show 0 < -A by omega) (show 0 < -V by omega)
              exact hM (by omega) (by omega) (by omega)
        have e2 : (aY ≤ vY ∧ vY < bY ∧ 0 < V) ↔ (uY < aY ∧ aY ≤ vY ∧ A ≤ 0) := by omega
        simp [e1, e2, e4]
    · have e1 : ¬ (aY ≤ uY ∧ uY < bY ∧ 0 < U) := by omega
      have e2 : ¬ (aY ≤ vY ∧ vY < bY ∧ 0 < V) := by omega
      have e3 : ¬ (uY < aY ∧ aY ≤ vY ∧ A ≤ 0) := by omega
      have e4 : ¬ (uY < bY ∧ bY ≤ vY ∧ B ≤ 0) := by omega
      simp [e1, e2, e3, e4]

theorem bxc (a b : Bool) : (a != b) = (b != a) := by cases a <;> cases b <;> rfl
theorem ray_swap {a b q : Pt} (h : ¬ onS a b q) : ray b a q = ray a b q := by
  unfold ray
  rw [crs_swap]
  by_cases c1 : q.2 < a.2 <;> by_cases c2 : q.2 < b.2
  · simp [c1, c2]
  · have c3 : b.2 < a.2 := by omega
    have c4 : ¬ a.2 < b.2 := by omega
    have hn : crs a b q ≠ 0 := fun e => h (onS_swap.1 (on_lev (by rw [crs_swap]; omega) (by omega)))
    by_cases c5 : 0 < crs a b q
    · have c6 : ¬ crs a b q < 0 := by omega
      simp [c1, c2, c3, c4, c5, c6]
    · have c6 : crs a b q < 0 := by omega
      simp [c1, c2, c3, c4, c5, c6]
  · have c3 : ¬ b.2 < a.2 := by omega
    have c4 : a.2 < b.2 := by omega
    have hn : crs a b q ≠ 0 := fun e => h (on_lev e (by omega))
    by_cases c5 : 0 < crs a b q
    · have c6 : ¬ crs a b q < 0 := by omega
      simp [c1, c2, c3, c4, c5, c6]
    · have c6 : crs a b q < 0 := by omega
      simp [c1, c2, c3, c4, c5, c6]
  · simp [c1, c2]
theorem side_swap {u v p : Pt} (h : ¬ onS u v p) : side v u p = side u v p := by
  unfold side
  rw [crs_swap]
  by_cases c1 : u.2 < p.2 <;> by_cases c2 : v.2 < p.2
  · simp [c1, c2]
  · have c3 : ¬ v.2 < u.2 := by omega
    have c4 : u.2 < v.2 := by omega
    have hn : crs u v p ≠ 0 := fun e => h (on_lev e (by omega))
    by_cases c5 : 0 < crs u v p
    · have c6 : ¬ crs u v p < 0 := by omega
      simp [c1, c2, c3, c4, c5, c6]
    · have c6 : crs u v p < 0 := by omega
      simp [c1, c2, c3, c4, c5, c6]
  · have c3 : v.2 < u.2 := by omega
    have c4 : ¬ u.2 < v.2 := by omega
    have hn : crs u v p ≠ 0 := fun e => h (onS_swap.1 (on_lev (by rw [crs_swap]; omega) (by omega)))
    by_cases c5 : 0 < crs u v p
    · have c6 : ¬ crs u v p < 0 := by omega
      simp [c1, c2, c3, c4, c5, c6]
    · have c6 : crs u v p < 0 := by omega
      simp [c1, c2, c3, c4, c5, c6]
  · simp [c1, c2]
/-- THE PARITY ALONG A SEGMENT: an edge that a segment does not meet -/
theorem seg {u v a b : Pt} (hm : ¬ meets u v a b) : (ray a b u != ray a b v) = (side u v a != side u v b) := by
  have o1 : ¬ onS u v a := fun h => hm (.inl h)
  have o2 : ¬ onS u v b := fun h => hm (.inr (.inl h))
  have o3 : ¬ onS a b u := fun h => hm (.inr (.inr (.inl h)))
  have o4 : ¬ onS a b v := fun h => hm (.inr (.inr (.inr (.inl h))))
  rcases Int.le_total u.2 v.2 with h1 | h1 <;> rcases Int.le_total a.2 b.2 with h2 | h2
  · exact core h1 h2 hm
  · have := core h1 h2 (fun h => hm (meets_swapR.1 h))
    rw [ray_swap o3, ray_swap o4] at this
    rw [this, bxc]
  · have := core h1 h2 (fun h => hm (meets_swapL.1 h))
    rw [side_swap o1, side_swap o2] at this
    rw [← this, bxc]
  · have := core h1 h2 (fun h => hm (meets_swapL.1 (meets_swapR.1 h)))
    rw [side_swap o1, side_swap o2, ray_swap o3, ray_swap o4] at this
    rw [bxc, this, bxc]

/- ROTATED, MIRRORED, MOVED. -/
def rot (p : Pt) : Pt := (-p.2, p.1)
def mir (p : Pt) : Pt := (-p.1, p.2)
def mov (t p : Pt) : Pt := (p.1 + t.1, p.2 + t.2)
theorem crs_rot (a b c : Pt) : crs (rot a) (rot b) (rot c) = crs a b c := by simp only [crs, rot]; grind
theorem crs_mir (a b c : Pt) : crs (mir a) (mir b) (mir c) = - crs a b c := by simp only [crs, mir]; grind
theorem crs_mov (t a b c : Pt) : crs (mov t a) (mov t b) (mov t c) = crs a b c := by simp only [crs, mov]; grind
theorem bt_neg {a b q : Int} : bt (-a) (-b) (-q) ↔ bt a b q := by unfold bt; exact ⟨by omega, by omega⟩
theorem bt_add {a b q t : Int} : bt (a + t) (b + t) (q + t) ↔ bt a b q := by unfold bt; exact ⟨by omega, by omega⟩
theorem onS_rot {a b q : Pt} : onS (rot a) (rot b) (rot q) ↔ onS a b q := by
  unfold onS
  rw [crs_rot]
  show _ ∧ bt (-a.2) (-b.2) (-q.2) ∧ bt a.1 b.1 q.1 ↔ _
  rw [bt_neg]
  exact ⟨fun ⟨h1, h2, h3⟩ => ⟨h1, h3, h2⟩, fun ⟨h1, h2, h3⟩ => ⟨h1, h3, h2⟩⟩
theorem onS_mir {a b q : Pt} : onS (mir a) (mir b) (mir q) ↔ onS a b q := by
  unfold onS
  rw [crs_mir]
  show _ ∧ bt (-a.1) (-b.1) (-q.1) ∧ bt a.2 b.2 q.2 ↔ _
  rw [bt_neg]
  exact ⟨fun ⟨h1, h2⟩ => ⟨by omega, h2⟩, fun ⟨h1, h2⟩ => ⟨by omega, h2⟩⟩
theorem onS_mov {t a b q : Pt} : onS (mov t a) (mov t b) (mov t q) ↔ onS a b q := by
  unfold onS
  rw [crs_mov]
  show _ ∧ bt (a.1 + t.1) (b.1 + t.1) (q.1 + t.1) ∧ bt (a.2 + t.2) (b.2 + t.2) (q.2 + t.2) ↔ _
  rw [bt_add, bt_add]
theorem meets_rot {a b c d : Pt} : meets (rot a) (rot b) (rot c) (rot d) ↔ meets a b c d := by unfold meets; rw [onS_rot, onS_rot, onS_rot, onS_rot, crs_rot, crs_rot, crs_rot, crs_rot]
theorem opp_neg {x y : Int} : opp (-x) (-y) ↔ opp x y := by unfold opp; exact ⟨by omega, by omega⟩
theorem meets_mir {a b c d : Pt} : meets (mir a) (mir b) (mir c) (mir d) ↔ meets a b c d := by unfold meets; rw [onS_mir, onS_mir, onS_mir, onS_mir, crs_mir, crs_mir, crs_mir, crs_mir, opp_neg, opp_neg]
theorem meets_mov {t a b c d : Pt} : meets (mov t a) (mov t b) (mov t c) (mov t d) ↔ meets a b c d := by unfold meets; rw [onS_mov, onS_mov, onS_mov, onS_mov, crs_mov, crs_mov, crs_mov, crs_mov]
theorem ray_mov (t a b q : Pt) : ray (mov t a) (mov t b) (mov t q) = ray a b q := by
  unfold ray
  rw [crs_mov]
  have e1 : decide ((mov t q).2 < (mov t a).2) = decide (q.2 < a.2) := by simp only [mov]; congr 1; apply propext; omega
  have e2 : decide ((mov t q).2 < (mov t b).2) = decide (q.2 < b.2) := by simp only [mov]; congr 1; apply propext; omega
  have e3 : decide ((mov t a).2 < (mov t b).2) = decide (a.2 < b.2) := by simp only [mov]; congr 1; apply propext; omega
  rw [e1, e2, e3]
def above (q p : Pt) : Bool := decide (q.2 < p.2)
theorem ray_mir {a b q : Pt} (h : ¬ onS a b q) : (ray a b q != ray (mir a) (mir b) (mir q)) = (above q a != above q b) := by
  unfold ray above
  rw [crs_mir]
  show (((decide (q.2 < a.2) != decide (q.2 < b.2)) && (decide (0 < crs a b q) == decide (a.2 < b.2))) != ((decide (q.2 < a.2) != decide (q.2 < b.2)) && (decide (0 < -crs a b q) == decide (a.2 < b.2)))) = _
  by_cases c1 : q.2 < a.2 <;> by_cases c2 : q.2 < b.2
  · simp [c1, c2]
  · have hn : crs a b q ≠ 0 := fun e => h (onS_swap.1 (on_lev (by rw [crs_swap]; omega) (by omega)))
    by_cases c5 : 0 < crs a b q
    · have c6 : ¬ crs a b q < 0 := by omega
      by_cases c3 : a.2 < b.2 <;> simp [c1, c2, c3, c5, c6]
    · have c6 : crs a b q < 0 := by omega
      by_cases c3 : a.2 < b.2 <;> simp [c1, c2, c3, c5, c6]
  · have hn : crs a b q ≠ 0 := fun e => h (on_lev e (by omega))
    by_cases c5 : 0 < crs a b q
    · have c6 : ¬ crs a b q < 0 := by omega
      by_cases c3 : a.2 < b.2 <;> simp [c1, c2, c3, c5, c6]
    · have c6 : crs a b q < 0 := by omega
      by_cases c3 : a.2 < b.2 <;> simp [c1, c2, c3, c5, c6]
  · simp [c1, c2]
def quad (q p : Pt) : Bool := decide (q.1 < p.1) && !decide (q.2 < p.2)
/-- on which side of an edge a point is that lies under it -/
theorem below_edge {a b q : Pt} (hx : a.1 ≤ q.1 ∧ q.1 < b.1) (ha : q.2 < a.2) (hb : q.2 < b.2) : crs a b q < 0 := by
  have p1 := Int.mul_pos (show 0 < b.1 - a.1 by omega) (show 0 < a.2 - q.2 by omega)
  have p2 := Int.mul_pos (show 0 < b.1 - a.1 by omega) (show 0 < b.2 - q.2 by omega)
  have p3 := Int.mul_pos (show 0 < b.1 - q.1 by omega) (show 0 < a.2 - q.2 by omega)
  have p4 := Int.mul_nonneg (show 0 ≤ q.1 - a.1 by omega) (show 0 ≤ b.2 - q.2 by omega)
  have e : crs a b q = -((b.1 - q.1) * (a.2 - q.2) + (q.1 - a.1) * (b.2 - q.2)) := by simp only [crs]; grind
  omega
theorem above_edge {a b q : Pt} (hx : a.1 ≤ q.1 ∧ q.1 < b.1) (ha : a.2 ≤ q.2) (hb : b.2 ≤ q.2) : 0 ≤ crs a b q := by
  have p3 := Int.mul_nonneg (show 0 ≤ b.1 - q.1 by omega) (show 0 ≤ q.2 - a.2 by omega)
  have p4 := Int.mul_nonneg (show 0 ≤ q.1 - a.1 by omega) (show 0 ≤ q.2 - b.2 by omega)
  have e : crs a b q = (b.1 - q.1) * (q.2 - a.2) + (q.1 - a.1) * (q.2 - b.2) := by simp only [crs]; grind
  omega
theorem right_edge {a b q : Pt} (hy : a.2 ≤ q.2 ∧ q.2 < b.2) (ha : q.1 < a.1) (hb : q.1 < b.1) : 0 < crs a b q := by
  have p3 := Int.mul_pos (show 0 < b.2 - q.2 by omega) (show 0 < a.1 - q.1 by omega)
  have p4 := Int.mul_nonneg (show 0 ≤ q.2 - a.2 by omega) (show 0 ≤ b.1 - q.1 by omega)
  have e : crs a b q = (b.2 - q.2) * (a.1 - q.1) + (q.2 - a.2) * (b.1 - q.1) := by simp only [crs]; grind
  omega
theorem left_edge {a b q : Pt} (hy : a.2 ≤ q.2 ∧ q.2 < b.2) (ha : a.1 ≤ q.1) (hb : b.1 ≤ q.1) : crs a b q ≤ 0 := by
  have p3 := Int.mul_nonneg (show 0 ≤ b.2 - q.2 by omega) (show 0 ≤ q.1 - a.1 by omega)
  have p4 := Int.mul_nonneg (show 0 ≤ q.2 - a.2 by omega) (show 0 ≤ q.1 - b.1 by omega)
  have e : crs a b q = -((b.2 - q.2) * (q.1 - a.1) + (q.2 - a.2) * (q.1 - b.1)) := by simp only [crs]; grind
  omega
theorem on_lev1 {u v p : Pt} (h : crs u v p = 0) (hl : u.1 ≤ p.1 ∧ p.1 < v.1) : onS u v p := by
  refine ⟨h, by unfold bt; omega, ?_⟩
  have hne : u.1 - p.1 ≠ v.1 - p.1 := by omega
  refine wavg (A := u.1 - p.1) (B := v.1 - p.1) hne (by omega) ?_
  simp only [crs] at h
  grind
theorem ray_rot {a b q : Pt} (h : ¬ onS a b q) : (ray a b q != ray (rot a) (rot b) (rot q)) = (quad q a != quad q b) := by
  unfold ray quad
  rw [crs_rot]
  show (((decide (q.2 < a.2) != decide (q.2 < b.2)) && (decide (0 < crs a b q) == decide (a.2 < b.2))) != ((decide (q.1 < a.1) != decide (q.1 < b.1)) && (decide (0 < crs a b q) == decide (a.1 < b.1)))) = _
  have hs : ¬ onS b a q := fun x => h (onS_swap.1 x)
  have esw := crs_swap a b q
  by_cases c1 : q.2 < a.2 <;> by_cases c2 : q.2 < b.2 <;> by_cases d1 : q.1 < a.1 <;> by_cases d2 : q.1 < b.1
  · simp [c1, c2, d1, d2]
  · have k := below_edge (a := b) (b := a) (q := q) ⟨by omega, by omega⟩ c2 c1
    have k1 : 0 < crs a b q := by omega
    have k2 : ¬ a.1 < b.1 := by omega
    simp [c1, c2, d1, d2, k1, k2]
  · have k := below_edge (a := a) (b := b) (q := q) ⟨by omega, by omega⟩ c1 c2
    have k1 : ¬ 0 < crs a b q := by omega
    have k2 : a.1 < b.1 := by omega
    simp [c1, c2, d1, d2, k1, k2]
  · simp [c1, c2, d1, d2]
  · have k := right_edge (a := b) (b := a) (q := q) ⟨by omega, by omega⟩ d2 d1
    have k1 : ¬ 0 < crs a b q := by omega
    have k2 : ¬ a.2 < b.2 := by omega
    simp [c1, c2, d1, d2, k1, k2]
  · have k2 : ¬ a.2 < b.2 := by omega
    have k3 : ¬ a.1 < b.1 := by omega
    simp [c1, c2, d1, d2, k2, k3]
  · have k2 : ¬ a.2 < b.2 := by omega
    have k3 : a.1 < b.1 := by omega
    by_cases k1 : 0 < crs a b q <;> simp [c1, c2, d1, d2, k1, k2, k3]
  · have k := left_edge (a := b) (b := a) (q := q) ⟨by omega, by omega⟩ (by omega) (by omega)
    have k0 : crs b a q ≠ 0 := fun e => hs (on_lev e (by omega))
    have k1 : 0 < crs a b q := by omega
    have k2 : ¬ a.2 < b.2 := by omega
    simp [c1, c2, d1, d2, k1, k2]
  · have k := right_edge (a := a) (b := b) (q := q) ⟨by omega, by omega⟩ d1 d2
    have k2 : a.2 < b.2 := by omega
    simp [c1, c2, d1, d2, k, k2]
  · have k2 : a.2 < b.2 := by omega
    have k3 : ¬ a.1 < b.1 := by omega
    by_cases k1 : 0 < crs a b q <;> simp [c1, c2, d1, d2, k1, k2, k3]
  · have k2 : a.2 < b.2 := by omega
    have k3 : a.1 < b.1 := by omega
    simp [c1, c2, d1, d2, k2, k3]
  · have k := left_edge (a := a) (b := b) (q := q) ⟨by omega, by omega⟩ (by omega) (by omega)
    have k0 : crs a b q ≠ 0 := fun e => h (on_lev e (by omega))
    have k1 : ¬ 0 < crs a b q := by omega
    have k2 : a.2 < b.2 := by omega
    simp [c1, c2, d1, d2, k1, k2]
  · simp [c1, c2, d1, d2]
  · have k := above_edge (a := b) (b := a) (q := q) ⟨by omega, by omega⟩ (by omega) (by omega)
    have k0 : crs b a q ≠ 0 := fun e => hs (on_lev1 e (by omega))
    have k1 : ¬ 0 < crs a b q := by omega
    have k2 : ¬ a.1 < b.1 := by omega
    simp [c1, c2, d1, d2, k1, k2]
  · have k := above_edge (a := a) (b := b) (q := q) ⟨by omega, by omega⟩ (by omega) (by omega)
    have k0 : crs a b q ≠ 0 := fun e => h (on_lev1 e (by omega))
    have k1 : 0 < crs a b q := by omega
    have k2 : a.1 < b.1 := by omega
    simp [c1, c2, d1, d2, k1, k2]
  · simp [c1, c2, d1, d2]
end Go.Proofs.YtgbhhjdmochhpaaDoor
namespace Go.Proofs.YtgbhhjdmochhpaaDoor
open Go.ChangeShapes Go.WideShapes Go.ChangeAt Go.RowKit

/- WORLDS IN WHICH NOTHING OLD HAS TURNED. -/
structure Past (W : World) where
  w : World
  h : Below W.heap.size W w
def Past.here (W : World) : Past W := ⟨W, Below.refl _ _⟩
instance past_nonempty (W : World) : Nonempty (Past W) := ⟨Past.here W⟩
theorem Past.size {W : World} (x : Past W) : W.heap.size ≤ x.w.heap.size := x.h.size
theorem Past.cell {W : World} (x : Past W) (b o : Nat) (h : b < W.heap.size) : x.w.cell? ⟨b, o, none⟩ = W.cell? ⟨b, o, none⟩ := x.h.cell (p := ⟨b, o, none⟩) h
theorem Past.frozen {W : World} (x : Past W) (b o : Nat) (h : b < W.heap.size) : x.w.frozen? ⟨b, o, none⟩ = W.frozen? ⟨b, o, none⟩ := x.h.frozen (p := ⟨b, o, none⟩) h

theorem bcell {W w1 : World} (hb : Below W.heap.size W w1) : (∀ b o, b < W.heap.size → w1.cell? ⟨b, o, none⟩ = W.cell? ⟨b, o, none⟩) ∧ (∀ b o, b < W.heap.size → w1.frozen? ⟨b, o, none⟩ = W.frozen? ⟨b, o, none⟩) :=
  ⟨fun b o h => hb.cell (p := ⟨b, o, none⟩) h, fun b o h => hb.frozen (p := ⟨b, o, none⟩) h⟩

theorem below_step {w W w1 : World} (h : Below w.heap.size w W) (hb : Below W.heap.size W w1) : Below w.heap.size w w1 := h.trans (hb.mono h.size)
theorem past_cell (W : World) (x : Past W) (b o : Nat) (h : b < W.heap.size) : x.w.cell? ⟨b, o, none⟩ = W.cell? ⟨b, o, none⟩ := x.cell b o h

theorem past_out {W w' : World} (h : ∃ x : Past W, w' = x.w) : Below W.heap.size W w' := by obtain ⟨x, rfl⟩ := h; exact x.h

/- A REGION THAT DRAWS ITS ORDER, WALKED ONCE OVER THE WORLDS 'Past w'. -/
theorem wp_region_past {P : Program} {id : Nat} {Q : Exit → Act → World → Prop} {a : Act} {w : World} {l : List Oper} (hm : P.follows .mixedOrders = true) (hB : Region.lexB .any l.toArray = true)
    (h : wpQuiet P l.toArray (fun w' => ∃ x : Past w, w' = x.w) (fun a' => ∀ w', (∃ x : Past w, w' = x.w) → Q .normal a' w') l a) : (Code.region id l.toArray true).wp P Q a w :=
  wp_region_quiet (C := fun w' => ∃ x : Past w, w' = x.w) hm hB ⟨⟨{ w with drawn := w.drawn + 1 }, ⟨rfl, rfl, rfl, Nat.le_refl _, fun _ _ => rfl⟩⟩, rfl⟩ (by simpa using h)

/- A CALLEE's CONTRACT, MET THERE. -/
theorem past_of {P : Program} {f : FuncId} {args : Array Value} {w : World} {x : Past w} {v : Value}
    (h : Calls P f args x.w fun e w' => e = .returned v ∧ Below x.w.heap.size x.w w') : Calls P f args x.w fun e w'' => e = .returned v ∧ ∃ y : Past w, w'' = y.w :=
  h.mono fun _ w' ⟨he, hb⟩ => ⟨he, ⟨w', x.h.trans (hb.mono x.size)⟩, rfl⟩

/- THE ROW'S LAST STEP WHERE OF THE LAST WORLD 'Below' ALONE IS KNOWN. -/
section
variable {H : Type} {enc : TypeId × Value → H} {P : Program}
theorem post_of_below {f : Func} {s : ChangeSpec} {apart fresh handsOn : Bool} {W W' : World} {args : Array Value} {v : Value} {ds gs : List (DataW H)} {before pa pv : List MemPlace}
    (hW : DataW.Whole enc P f.params.toList s.vars apart W args.toList ds gs before)
    (hres : ∀ (b : Nat) (sp : Nat → Bool) (hd : Bool), DataW.TrodAll enc P W' b sp hd f.resultTypes.toList (v.resultList f.resultTypes.size) (s.fn H (ds ++ gs)).results [])
    (hargs : DataW.TrodAll enc P W' 0 (fun b => decide (b < W.heap.size)) true f.params.toList args.toList (s.fn H (ds ++ gs)).args pa)
    (hvars : DataW.TrodVars enc P W' (fun b => decide (b < W.heap.size)) s.vars (s.fn H (ds ++ gs)).vars pv)
    (hb : Below W.heap.size W W') : s.post enc P f apart fresh handsOn false W args v W' :=
  ⟨ds, gs, before, [], pa, pv, hW, hres _ _ _, hargs, hvars, hb.frame _, fun h => by cases h⟩

theorem trodAll_below (hl : laidOutB P = true) {W W' : World} (hb : Below W.heap.size W W') : ∀ (ts : List TypeId) (vs : List Value) (ds : List (DataW H)) (ps : List MemPlace),
    (∀ t ∈ ts, P.readableRec t = true ∧ t < P.types.size) → DataW.TrodAll enc P W 0 (fun _ => true) true ts vs ds ps → (∀ x ∈ ps, x.block < W.heap.size) →
    DataW.TrodAll enc P W' 0 (fun b => decide (b < W.heap.size)) true ts vs ds ps
  | [], [], [], _, _, h, _ => h
  | t :: ts, v :: vs, d :: ds, ps, ht, h, hlt => by
    obtain ⟨p, q, h1, h2, rfl⟩ := h
    exact ⟨p, q, Below.trod hl (ht t (by simp)).1 (ht t (by simp)).2 h1 hb (fun x hx => hlt x (by simp [hx])), trodAll_below hl hb ts vs ds q (fun t h => ht t (by simp [h])) h2 (fun x hx => hlt x (by simp [hx])), rfl⟩
  | [], _ :: _, _, _, _, h, _ => h.elim
  | [], [], _ :: _, _, _, h, _ => h.elim
  | _ :: _, [], _, _, _, h, _ => h.elim
  | _ :: _, _ :: _, [], _, _, h, _ => h.elim

/- A LAW: IT ANSWERS true, AND ITS ARGUMENTS READ AS THEY DID. -/
theorem law_post {f : Func} {s : ChangeSpec} {apart fresh handsOn : Bool} {W W' : World} {args : Array Value} {ds gs : List (DataW H)} {before : List MemPlace}
    (hl : laidOutB P = true) (hr : (f.params.toList.all fun t => P.readableRec t && decide (t < P.types.size)) = true) (hres : f.resultTypes = #[4]) (hbool : P.underlying 4 = some .bool) (hv : s.vars = [])
    (hW : DataW.Whole enc P f.params.toList s.vars apart W args.toList ds gs before)
    (hs : gs = [] → s.fn H (ds ++ []) = { results := [.lit (.bool true)], args := ds }) (hb : Below W.heap.size W W') : s.post enc P f apart fresh handsOn false W args (.bool true) W' := by
  have hlt : ∀ p ∈ before, p.block < W.heap.size := fun p hp => hW.lt p hp
  have hW' := hW
  obtain ⟨p, q, hA, hV, rfl, _, _⟩ := hW
  rw [hv] at hV
  have hg : gs = [] ∧ q = [] := by
    cases gs with
    | nil => exact ⟨rfl, hV⟩
    | cons g r => exact absurd hV (by intro h; cases h)
  obtain ⟨rfl, rfl⟩ := hg
  refine post_of_below (pa := p) (pv := []) hW' ?_ ?_ ?_ hb
  · intro b sp hd
    rw [hs rfl, hres]
    exact trodAll_mk1 (shut_bool hbool true)
  · rw [hs rfl]
    exact trodAll_below hl hb _ _ _ _ (fun t ht => by simpa using List.all_eq_true.1 hr t ht) hA (fun x hx => hlt x (by simp [hx]))
  · rw [hv, hs rfl]
    rfl
end

/- ARGUMENTS THAT ARE STRUCTS AND ARRAYS OF INTS, NESTED AS THEY MAY BE: THEIR CELLS. -/
theorem own : ownKnob Tryd.prog.godebug = none := by kernel_rfl
theorem laidOut : laidOutB Tryd.prog = true := by kernel_rfl
end Go.Proofs.YtgbhhjdmochhpaaDoor
namespace Go.Proofs.YtgbhhjdmochhpaaDoor
open Go.RowKit

/-- v is a slice of n elements of sz cells each: cell j of element i holds f i j -/
def SliceAt (w : World) (v : Value) (n sz : Nat) (f : Nat → Nat → Value) : Prop :=
  ∃ (oa : Option Addr) (cap : Nat), v = .slice oa n cap ∧ n ≤ cap ∧ cap ≤ 9223372036854775807 ∧ (0 < n → ∃ b off, oa = some ⟨b, off, none⟩ ∧ b < w.heap.size ∧ ∀ i j, i < n → j < sz → w.cell? ⟨b, off + (i * sz + j), none⟩ = some (f i j))
theorem SliceAt.below {w w' : World} {v : Value} {n sz : Nat} {f : Nat → Nat → Value} (h : SliceAt w v n sz f) (hb : Below w.heap.size w w') : SliceAt w' v n sz f := by
  obtain ⟨oa, cap, h1, h2, h3, h4⟩ := h
  refine ⟨oa, cap, h1, h2, h3, fun hn => ?_⟩
  obtain ⟨b, off, e, hlt, hc⟩ := h4 hn
  exact ⟨b, off, e, Nat.lt_of_lt_of_le hlt hb.size, fun i j hi hj => (hb.cell (p := ⟨_, _, none⟩) hlt).trans (hc i j hi hj)⟩

/-- pairs of ints -/
def PairsAt (w : World) (v : Value) (n : Nat) (r q : Nat → Int) : Prop := SliceAt w v n 2 (fun i j => match j with | 0 => .int .i64 (r i) | _ => .int .i64 (q i))
theorem PairsAt.below {w w' : World} {v : Value} {n : Nat} {r q : Nat → Int} (h : PairsAt w v n r q) (hb : Below w.heap.size w w') : PairsAt w' v n r q := SliceAt.below h hb
theorem PairsAt.form {w : World} {v : Value} {n : Nat} {r q : Nat → Int} (h : PairsAt w v n r q) : ∃ (oa : Option Addr) (cap : Nat), v = .slice oa n cap ∧ n ≤ 9223372036854775807 ∧
    ∀ i, i < n → ∃ b off, oa = some ⟨b, off, none⟩ ∧ b < w.heap.size ∧ ∀ k, k < n → w.cell? ⟨b, off + k * 2, none⟩ = some (.int .i64 (r k)) ∧ w.cell? ⟨b, off + k * 2 + 1, none⟩ = some (.int .i64 (q k)) := by
  obtain ⟨oa, cap, h1, h2, h3, h4⟩ := h
  refine ⟨oa, cap, h1, by omega, fun i hi => ?_⟩
  obtain ⟨b, off, e, hlt, hc⟩ := h4 (by omega)
  exact ⟨b, off, e, hlt, fun k hk => ⟨hc k 0 hk (by decide), hc k 1 hk (by decide)⟩⟩
end Go.Proofs.YtgbhhjdmochhpaaDoor
namespace Go.Proofs.YtgbhhjdmochhpaaDoor
open Go Go.RowKit

section
variable {P : Program} {md : Region.Mode}

/-- what one operation yields, and the world that it leaves -/
def relUpon (P : Program) (R : Value → World → Prop) : Result Next → Prop
  | .ok (.value u) w' => R u w'
  | .ok .skip w' => R undef w'
  | .ok (.enter f args) w' => Calls P f args w' fun e w'' => ∃ u, e = .returned u ∧ R u w''
  | _ => False
def relOp (P : Program) (o : Oper) (a : Act) (w : World) (R : Value → World → Prop) : Prop := relUpon P R ((execOp a.eval o).run P w)

attribute [go_sem] relOp relUpon
theorem relOp_wp {o : Oper} {a : Act} {w : World} {R : Value → World → Prop} {K : Act → World → Prop} {Q : Exit → Act → World → Prop} (h : relOp P o a w R) (hK : ∀ u w', R u w' → K (a.put o.dst u) w') : o.wp P a w K Q := by
  unfold relOp at h
  unfold Oper.wp
  generalize (execOp a.eval o).run P w = r at *
  cases r with
  | ok n w' =>
    cases n with
    | value u => exact hK _ _ h
    | skip => exact hK _ _ h
    | enter f args => exact Calls.mono h fun e w'' ⟨u, he, hr⟩ => by subst he; exact hK _ _ hr
    | _ => exact h.elim
  | halt x w' => exact h.elim

/-- the frame in which the operations' temporaries hold u 0, u 1, .. -/
def fillL : Act → List Oper → (Nat → Value) → Nat → Act
  | a, [], _, _ => a
  | a, o :: l, u, k => fillL (a.put o.dst (u k)) l u (k + 1)

def upd (u : Nat → Value) (i : Nat) (v : Value) : Nat → Value := fun j => if j = i then v else u j

theorem put_put (a : Act) (d : Option Tmp) (u v : Value) : (a.put d u).put d v = a.put d v := by
  cases d with
  | none => rfl
  | some d => simp [Act.put]
theorem put_own (a : Act) (d : Tmp) : a.put (some d) (a.tmps.getD d undef) = a := by
  obtain ⟨t, ds⟩ := a
  simp only [Act.put, Act.mk.injEq, and_true]
  apply Array.ext_getElem?
  intro i
  rw [Array.getElem?_setIfInBounds]
  split
  · rename_i e
    subst e
    split
    · rename_i h; simp [h]
    · rename_i h; simp at h; simp [h]
  · rfl

theorem fill_base {d : Option Tmp} {v : Value} : ∀ (l : List Oper) (a : Act) (u : Nat → Value) (k : Nat), (∀ o ∈ l, ∀ t, d = some t → o.dst ≠ some t) → (fillL a l u k).put d v = fillL (a.put d v) l u k
  | [], _, _, _, _ => rfl
  | o :: l, a, u, k, h => by
    unfold fillL
    rw [fill_base l _ u (k + 1) (fun o' ho' => h o' (by simp [ho']))]
    rw [Act.put_comm a (x := o.dst) (y := d) (u k) v (fun t ht hd => h o (by simp) t hd ht)]
theorem fill_congr : ∀ (l : List Oper) (a : Act) (u u' : Nat → Value) (k : Nat), (∀ j, k ≤ j → u j = u' j) → fillL a l u k = fillL a l u' k
  | [], _, _, _, _, _ => rfl
  | o :: l, a, u, u', k, h => by
    unfold fillL
    rw [h k (Nat.le_refl _)]
    exact fill_congr l _ u u' (k + 1) (fun j hj => h j (by omega))

/-- no two of them write one temporary -/
def dstsB : List Oper → Bool
  | [] => true
  | o :: l => (match o.dst with | none => true | some d => l.all fun o' => decide (o'.dst ≠ some d)) && dstsB l

theorem fill_put {v : Value} : ∀ (l : List Oper) (a : Act) (u : Nat → Value) (k i : Nat) (o : Oper), dstsB l = true → l[i]? = some o → (fillL a l u k).put o.dst v = fillL a l (upd u (k + i) v) k
  | [], _, _, _, _, _, _, h => by simp at h
  | o' :: l, a, u, k, 0, o, hd, h => by
    obtain rfl : o' = o := by simpa using h
    simp only [dstsB, Bool.and_eq_true] at hd
    unfold fillL
    rw [fill_base l _ u (k + 1) (fun o ho t ht => by
      have h1 := hd.1
      rw [ht] at h1
      simpa using List.all_eq_true.1 h1 o ho), put_put]
    simp only [Nat.add_zero]
    rw [show upd u k v k = v by simp [upd]]
    exact fill_congr l _ _ _ (k + 1) (fun j hj => by unfold upd; rw [if_neg (by omega)])
  | o' :: l, a, u, k, i + 1, o, hd, h => by
    simp only [dstsB, Bool.and_eq_true] at hd
    unfold fillL
    rw [fill_put l _ u (k + 1) i o hd.2 (by simpa using h)]
    rw [show upd u (k + (i + 1)) v k = u k by unfold upd; rw [if_neg (by omega)]]
    rw [show k + 1 + i = k + (i + 1) by omega]

def curU (a : Act) : List Oper → Nat → Value
  | [], _ => undef
  | o :: _, 0 => match o.dst with | some d => a.tmps.getD d undef | none => undef
  | _ :: l, k + 1 => curU a l k
theorem fill_cur (a : Act) : ∀ (l : List Oper) (k : Nat) (u : Nat → Value), (∀ j, u (k + j) = curU a l j) → fillL a l u k = a
  | [], _, _, _ => rfl
  | o :: l, k, u, h => by
    unfold fillL
    have h0 := h 0
    simp only [Nat.add_zero, curU] at h0
    have e : a.put o.dst (u k) = a := by
      rw [h0]
      cases o.dst with
      | none => rfl
      | some d => exact put_own a d
    rw [e]
    exact fill_cur a l (k + 1) u (fun j => by have := h (j + 1); rw [show k + 1 + j = k + (j + 1) by omega]; exact this)

/-- what an operation waits for holds -/
def depsV (md : Region.Mode) (V : Nat → Value → World → Prop) (u : Nat → Value) (w : World) : List Edge → Prop
  | [] => True
  | e :: l => (Region.binds md e = true → V e.on (u e.on) w) ∧ depsV md V u w l

theorem depsV_of {V : Nat → Value → World → Prop} {u : Nat → Value} {w : World} : ∀ (l : List Edge), (∀ e ∈ l, Region.binds md e = true → V e.on (u e.on) w) → depsV md V u w l
  | [], _ => trivial
  | e :: l, h => ⟨h e (by simp), depsV_of l (fun e he => h e (by simp [he]))⟩

/-- each operation of the list establishes its own property -/
def relAll (P : Program) (md : Region.Mode) (ops : Array Oper) (w0 : World) (V : Nat → Value → World → Prop) (fr : (Nat → Value) → Act) : List Oper → Nat → Prop
  | [], _ => True
  | o :: l, k => (∀ (u : Nat → Value) (w : World), Below w0.heap.size w0 w → depsV md V u w o.after.toList →
      if Region.wanted o (yielded ops (fr u).tmps) = true then relOp P o (fr u) w (fun v w' => Below w.heap.size w w' ∧ V k v w') else V k undef w) ∧ relAll P md ops w0 V fr l (k + 1)
theorem relAll_at {ops : Array Oper} {w0 : World} {V : Nat → Value → World → Prop} {fr : (Nat → Value) → Act} : ∀ (l : List Oper) (k i : Nat) (o : Oper), relAll P md ops w0 V fr l k → l[i]? = some o →
    ∀ (u : Nat → Value) (w : World), Below w0.heap.size w0 w → depsV md V u w o.after.toList →
      if Region.wanted o (yielded ops (fr u).tmps) = true then relOp P o (fr u) w (fun v w' => Below w.heap.size w w' ∧ V (k + i) v w') else V (k + i) undef w
  | [], _, _, _, _, h => by simp at h
  | o' :: l, k, 0, o, hr, h => by
    obtain rfl : o' = o := by simpa using h
    exact hr.1
  | o' :: l, k, i + 1, o, hr, h => by
    have := relAll_at l (k + 1) i o hr.2 (by simpa using h)
    rw [show k + 1 + i = k + (i + 1) by omega] at this
    exact this

def unlisted (n : Nat) (listed : Array Bool) : Nat := (List.range n).countP fun j => !listed.getD j false
theorem countP_one {p q : Nat → Bool} {i : Nat} : ∀ (l : List Nat), l.Nodup → i ∈ l → p i = true → q i = false → (∀ j, j ≠ i → q j = p j) → l.countP p = l.countP q + 1
  | [], _, h, _, _, _ => by cases h
  | x :: l, hn, h, hp, hq, he => by
    rw [List.nodup_cons] at hn
    by_cases hx : x = i
    · subst hx
      have : l.countP p = l.countP q := by
        apply List.countP_congr
        intro y hy
        rw [he y (fun e => hn.1 (e ▸ hy))]
      rw [List.countP_cons_of_pos hp, List.countP_cons_of_neg (by simp [hq]), this]
    · have hi : i ∈ l := by
        rcases List.mem_cons.1 h with h | h
        · exact absurd h.symm hx
        · exact h
      have ih := countP_one l hn.2 hi hp hq he
      rw [List.countP_cons, List.countP_cons, he x hx, ih]
      omega
theorem unlisted_set {n i : Nat} {listed : Array Bool} (hi : i < n) (hs : i < listed.size) (h : listed.getD i false = false) : unlisted n listed = unlisted n (listed.setIfInBounds i true) + 1 := by
  unfold unlisted
  refine countP_one (i := i) _ List.nodup_range (List.mem_range.2 hi) (by simp [h]) (by simp [hs]) (fun j hj => ?_)
  rw [getD_set_ne false (by omega)]

def headsDone (n s : Nat) : Array Bool := (List.replicate n true ++ List.replicate (s - n) false).toArray

def backB (md : Region.Mode) (ops : Array Oper) (n : Nat) : Bool :=
  (List.range n).all fun i => match ops[i]? with | some o => o.after.toList.all fun e => !Region.binds md e || decide (e.on < i) | none => true

def relB (md : Region.Mode) (l : List Oper) (n : Nat) : Bool :=
  (decide (n = l.length) || (decide (n < l.length) && Region.sinkB md l.toArray n && Region.chainB md l.toArray n)) && backB md l.toArray n && Region.seqB md l.toArray (l.length - n) n (headsDone n l.length) && dstsB (l.take n)

theorem some_ready {ops : Array Oper} {n : Nat} {listed : Array Bool} (hb : backB md ops n = true) (hn : n ≤ ops.size) : ∀ (d i : Nat), i = d → i < n → listed.getD i false = false → i < listed.size → (∀ j, j < n → j < listed.size) → Region.ready md ops listed ≠ [] := by
  intro d
  induction d using Nat.strongRecOn with
  | _ d ih =>
    intro i hd hi hun hs hss
    subst hd
    by_cases hr : i ∈ Region.ready md ops listed
    · intro h; rw [h] at hr; cases hr
    · have hlt : i < ops.size := by omega
      have ho : ops[i]? = some ops[i] := Array.getElem?_eq_getElem hlt
      have hb1 := List.all_eq_true.1 hb i (List.mem_range.2 hi)
      simp only [ho] at hb1
      have : ∃ e ∈ ops[i].after, Region.binds md e = true ∧ listed.getD e.on false = false := by
        apply Classical.byContradiction
        intro hno
        apply hr
        rw [mem_ready]
        refine ⟨getD_in hs hun, ops[i], ho, fun e he hbd => ?_⟩
        cases hl : listed.getD e.on false with
        | true => rfl
        | false => exact absurd ⟨e, he, hbd, hl⟩ hno
      obtain ⟨e, he, hbd, hl⟩ := this
      have h2 := List.all_eq_true.1 hb1 e (by simpa using he)
      simp only [hbd, Bool.not_true, Bool.false_or, decide_eq_true_eq] at h2
      exact ih e.on h2 e.on rfl (by omega) hl (hss _ (by omega)) hss

theorem wpAny_rel {l : List Oper} {n : Nat} {a0 : Act} {w0 : World} {V : Nat → Value → World → Prop} {Q : Exit → Act → World → Prop} (hB : relB md l n = true)
    (hmono : ∀ i v w w', Below w.heap.size w w' → V i v w → V i v w')
    (hall : relAll P md l.toArray w0 V (fun u => fillL a0 (l.take n) u 0) (l.take n) 0)
    (hend : ∀ (u : Nat → Value) (w : World), Below w0.heap.size w0 w → (∀ j, j < n → V j (u j) w) → wpList P l.toArray Q (l.drop n) (fillL a0 (l.take n) u 0) w) :
    ∀ (f : Nat) (listed : Array Bool) (u : Nat → Value) (w : World), unlisted n listed = f → HeadInv md l.toArray n listed → Below w0.heap.size w0 w → (∀ j, j < n → listed.getD j false = true → V j (u j) w) →
      wpAny P md l.toArray Q (f + (l.length - n)) listed (fillL a0 (l.take n) u 0) w := by
  simp only [relB, Bool.and_eq_true, Bool.or_eq_true, decide_eq_true_eq] at hB
  obtain ⟨⟨⟨hn, hback⟩, hseq⟩, hd⟩ := hB
  have hnl : n ≤ l.length := by omega
  intro f
  induction f with
  | zero =>
    intro listed u w hf inv hb hV
    have hdone : ∀ j, j < n → listed.getD j false = true := by
      intro j hj
      have h0 : (List.range n).countP (fun j => !listed.getD j false) = 0 := hf
      rw [List.countP_eq_zero] at h0
      simpa using h0 j (List.mem_range.2 hj)
    have hlist : listed = headsDone n l.length := by
      apply Array.ext
      · simp [headsDone, inv.size]; omega
      · intro i h1 h2
        have hsz : listed.size = l.length := by rw [inv.size]; simp
        have h3 : i < (List.replicate n true ++ List.replicate (l.length - n) false).length := by simpa [headsDone] using h2
        show listed[i] = (List.replicate n true ++ List.replicate (l.length - n) false)[i]'h3
        by_cases hi : i < n
        · rw [List.getElem_append_left (by simpa using hi), List.getElem_replicate]
          have := hdone i hi
          simpa [h1] using this
        · rw [List.getElem_append_right (by simpa using hi), List.getElem_replicate]
          have := inv.tail i (by omega) (by simp; omega)
          simpa [h1] using this
    rw [Nat.zero_add]
    have := wpAny_of_seq (P := P) (ops := l.toArray) (md := md) (Q' := Q) (l.drop n) n listed (fillL a0 (l.take n) u 0) w (fun j => by simp [List.getElem?_drop])
      (by rw [List.length_drop, hlist]; exact hseq) (hend u w hb (fun j hj => hV j hj (hdone j hj)))
    rwa [List.length_drop] at this
  | succ f ih =>
    intro listed u w hf inv hb hV
    have hsz : listed.size = l.length := by rw [inv.size]; simp
    obtain ⟨i0, hi0, hun0⟩ : ∃ i, i < n ∧ listed.getD i false = false := by
      apply Classical.byContradiction
      intro hno
      have : unlisted n listed = 0 := by
        unfold unlisted
        rw [List.countP_eq_zero]
        intro j hj
        have : listed.getD j false = true := by
          cases h : listed.getD j false with
          | true => rfl
          | false => exact absurd ⟨j, List.mem_range.1 hj, h⟩ hno
        rw [this]
        decide
      omega
    rw [show f + 1 + (l.length - n) = (f + (l.length - n)) + 1 by omega]
    refine ⟨fun h => absurd h (some_ready hback (by simpa using hnl) i0 i0 rfl hi0 hun0 (by omega) (fun j hj => by omega)), fun i hi => ?_⟩
    obtain ⟨hiun, o, ho, hdeps⟩ := mem_ready.1 hi
    have hilt : i < l.length := by have := (Array.getElem?_eq_some_iff.1 ho).1; simpa using this
    have hin : i < n := by
      rcases hn with hn | ⟨⟨hn, hs⟩, hc⟩
      · omega
      · exact (Nat.lt_or_ge i n).resolve_right fun h => tail_waits hs hc (by simpa using hn) inv _ i0 rfl hi0 (getD_in (by omega) hun0) i h hi
    have hol : (l.take n)[i]? = some o := by
      rw [List.getElem?_take_of_lt hin]; simpa using ho
    have hdv : depsV md V u w o.after.toList := depsV_of _ fun e he hbd => by
      have hbk := List.all_eq_true.1 hback i (List.mem_range.2 hin)
      simp only [ho] at hbk
      have h2 := List.all_eq_true.1 hbk e he
      simp only [hbd, Bool.not_true, Bool.false_or, decide_eq_true_eq] at h2
      exact hV e.on (by omega) (hdeps e (by simpa using he) hbd)
    have hstep := relAll_at _ 0 i o hall hol u w hb hdv
    simp only [Nat.zero_add] at hstep
    have hgo : ∀ v w', Below w.heap.size w w' → V i v w' → wpAny P md l.toArray Q (f + (l.length - n)) (listed.setIfInBounds i true) ((fillL a0 (l.take n) u 0).put o.dst v) w' := by
      intro v w' hb' hv
      rw [fill_put (l.take n) a0 u 0 i o hd hol]
      refine ih _ _ _ ?_ (inv.set hi hin) (hb.trans (hb'.mono hb.size)) ?_
      · have := unlisted_set hin (by omega : i < listed.size) (getD_both hiun)
        omega
      · intro j hj hl
        unfold upd
        by_cases hji : j = 0 + i
        · rw [if_pos hji]
          have : j = i := by omega
          subst this
          exact hv
        · rw [if_neg hji]
          rw [getD_set_ne false (by omega)] at hl
          exact hmono _ _ _ _ hb' (hV j hj hl)
    unfold wpOp
    simp only [ho]
    split
    · rename_i hw
      rw [if_pos hw] at hstep
      exact .inl (relOp_wp hstep fun v w' ⟨h1, h2⟩ => hgo v w' h1 h2)
    · rename_i hw
      rw [if_neg hw] at hstep
      exact hgo _ _ (Below.refl _ _) hstep

/-- **THE THEOREM** -/
theorem wp_region_rel {id : Nat} {Q : Exit → Act → World → Prop} {a : Act} {w : World} {l : List Oper} (n : Nat) (V : Nat → Value → World → Prop) (hm : P.follows .mixedOrders = true) (hB : relB .any l n = true)
    (hmono : ∀ i v w w', Below w.heap.size w w' → V i v w → V i v w')
    (hall : relAll P .any l.toArray w V (fun u => fillL a (l.take n) u 0) (l.take n) 0)
    (hend : ∀ (u : Nat → Value) (w' : World), Below w.heap.size w w' → (∀ j, j < n → V j (u j) w') → wpList P l.toArray Q (l.drop n) (fillL a (l.take n) u 0) w') : (Code.region id l.toArray true).wp P Q a w := by
  refine wp_region_any hm ?_
  have inv0 : HeadInv .any l.toArray n (Array.replicate l.toArray.size false) :=
    ⟨by simp, fun j oj _ hl => (by rw [getD_replicate_false] at hl; cases hl), fun t _ ht => getD_in (by simpa using ht) (getD_replicate_false _ _)⟩
  have hn : n ≤ l.length := by
    simp only [relB, Bool.and_eq_true, Bool.or_eq_true, decide_eq_true_eq] at hB
    omega
  have h0 : unlisted n (Array.replicate l.toArray.size false) = n := by
    unfold unlisted
    rw [List.countP_eq_length.2]
    · simp
    · intro j _
      rw [getD_replicate_false]
      rfl
  have := wpAny_rel hB hmono hall hend n _ (fun j => curU a (l.take n) j) { w with drawn := w.drawn + 1 } h0 inv0 ⟨rfl, rfl, rfl, Nat.le_refl _, fun _ _ => rfl⟩ (fun j _ hl => by rw [getD_replicate_false] at hl; cases hl)
  rw [fill_cur a (l.take n) 0 _ (fun j => by rw [Nat.zero_add]), show n + (l.length - n) = l.toArray.size by simp; omega] at this
  exact this

/-- a new block, its cells zeros -/
def NewCells (B : Nat) (cs : Array Value) (t : TypeId) (v : Value) (w : World) : Prop := ∃ b : Nat, v = .pointer (some ⟨b, 0, none⟩) ∧ B ≤ b ∧ w.heap[b]? = some (.cells cs t)
theorem NewCells.mono {B : Nat} {cs : Array Value} {t : TypeId} {v : Value} {w w' : World} (h : NewCells B cs t v w) (hb : Below w.heap.size w w') : NewCells B cs t v w' := by
  obtain ⟨b, h1, h2, h3⟩ := h
  exact ⟨b, h1, h2, by rw [hb.block b (Array.getElem?_eq_some_iff.1 h3).1]; exact h3⟩

end
end Go.Proofs.YtgbhhjdmochhpaaDoor
namespace Go.Proofs.YtgbhhjdmochhpaaDoor
open Go Go.RowKit
set_option linter.unusedVariables false

/-- a block's cells have been replaced, and nothing else -/
structure Stored (w w' : World) (b : Nat) (cs : Array Value) (t : TypeId) : Prop where
  os : w'.os = w.os
  tape : w'.tape = w.tape
  output : w'.output = w.output
  size : w'.heap.size = w.heap.size
  other : ∀ k, k ≠ b → w'.heap[k]? = w.heap[k]?
  here : w'.heap[b]? = some (.cells cs t)
theorem Stored.refl {w : World} {b : Nat} {cs : Array Value} {t : TypeId} (h : w.heap[b]? = some (.cells cs t)) : Stored w w b cs t := ⟨rfl, rfl, rfl, rfl, fun _ _ => rfl, h⟩
theorem Stored.set {w w' : World} {b : Nat} {cs : Array Value} {t : TypeId} (h : Stored w w' b cs t) (i : Nat) (v : Value) : Stored w (w'.setCell ⟨b, i, none⟩ v) b (cs.setIfInBounds i v) t :=
  ⟨h.os, h.tape, h.output, by rw [World.size_setCell]; exact h.size, fun k hk => by rw [heap_setCell_other _ _ _ _ hk]; exact h.other k hk, heap_setCell_same w' b i cs t v h.here⟩

theorem Stored.c1 {w : World} {b : Nat} {t : TypeId} {x0 : Value} (h : w.heap[b]? = some (.cells #[x0] t)) (p0 : Value) : Stored w (w.setCell ⟨b, 0, none⟩ p0) b #[p0] t := (Stored.refl h).set 0 p0
theorem Stored.c2 {w : World} {b : Nat} {t : TypeId} {x0 x1 : Value} (h : w.heap[b]? = some (.cells #[x0, x1] t)) (p0 p1 : Value) : Stored w ((w.setCell ⟨b, 0, none⟩ p0).setCell ⟨b, 1, none⟩ p1) b #[p0, p1] t := ((Stored.refl h).set 0 p0).set 1 p1
theorem Stored.c3 {w : World} {b : Nat} {t : TypeId} {x0 x1 x2 : Value} (h : w.heap[b]? = some (.cells #[x0, x1, x2] t)) (p0 p1 p2 : Value) : Stored w (((w.setCell ⟨b, 0, none⟩ p0).setCell ⟨b, 1, none⟩ p1).setCell ⟨b, 2, none⟩ p2) b #[p0, p1, p2] t := (((Stored.refl h).set 0 p0).set 1 p1).set 2 p2
theorem Stored.c4 {w : World} {b : Nat} {t : TypeId} {x0 x1 x2 x3 : Value} (h : w.heap[b]? = some (.cells #[x0, x1, x2, x3] t)) (p0 p1 p2 p3 : Value) : Stored w ((((w.setCell ⟨b, 0, none⟩ p0).setCell ⟨b, 1, none⟩ p1).setCell ⟨b, 2, none⟩ p2).setCell ⟨b, 3, none⟩ p3) b #[p0, p1, p2, p3] t := ((((Stored.refl h).set 0 p0).set 1 p1).set 2 p2).set 3 p3
theorem Stored.c6 {w : World} {b : Nat} {t : TypeId} {x0 x1 x2 x3 x4 x5 : Value} (h : w.heap[b]? = some (.cells #[x0, x1, x2, x3, x4, x5] t)) (p0 p1 p2 p3 p4 p5 : Value) : Stored w ((((((w.setCell ⟨b, 0, none⟩ p0).setCell ⟨b, 1, none⟩ p1).setCell ⟨b, 2, none⟩ p2).setCell ⟨b, 3, none⟩ p3).setCell ⟨b, 4, none⟩ p4).setCell ⟨b, 5, none⟩ p5) b #[p0, p1, p2, p3, p4, p5] t := ((((((Stored.refl h).set 0 p0).set 1 p1).set 2 p2).set 3 p3).set 4 p4).set 5 p5

/- WHOLE BLOCKS, BEHIND ALLOCS AND STORES. -/
def setObj (i : Nat) (v : Value) : Obj → Obj
  | .cells c e f => .cells (c.setIfInBounds i v) e f
  | o => o
theorem heapA_at (w : World) (o : Obj) (k : Nat) (h : k = w.heap.size) : (w.alloc o).heap[k]? = some o := by subst h; exact (MapKept.heap_alloc w o).1
theorem heapA_old (w : World) (o : Obj) (k : Nat) (h : k < w.heap.size) : (w.alloc o).heap[k]? = w.heap[k]? := ((Below.refl w.heap.size w).alloc (Nat.le_refl _) o).block k h
theorem heapS_other (w : World) (b i k : Nat) (v : Value) (h : k ≠ b) : (w.setCell ⟨b, i, none⟩ v).heap[k]? = w.heap[k]? := heap_setCell_other w ⟨b, i, none⟩ k v h
theorem heapS_same (w : World) (b i : Nat) (v : Value) : (w.setCell ⟨b, i, none⟩ v).heap[b]? = (w.heap[b]?).map (setObj i v) := by
  simp only [World.setCell, Array.getElem?_modify, if_true]
  congr 1

/-- a variable that a region makes: the operation that makes it, the one that stores to it, its cells at first, its type -/
structure VarRow where
  op : Nat
  st : Nat
  zs : Array Value
  ty : TypeId

/-- a block that is there already, and that an operation of the region stores to -/
structure PreRow where
  blk : Nat
  st : Nat
  zs : Array Value
  ty : TypeId
/-- nothing old has turned but these blocks -/
structure Kept (pre : List PreRow) (w0 w : World) : Prop where
  os : w.os = w0.os
  tape : w.tape = w0.tape
  output : w.output = w0.output
  size : w0.heap.size ≤ w.heap.size
  block : ∀ k, k < w0.heap.size → (∀ r ∈ pre, r.blk ≠ k) → w.heap[k]? = w0.heap[k]?
theorem Kept.of {pre : List PreRow} {w0 w : World} (h : Below w0.heap.size w0 w) : Kept pre w0 w := ⟨h.os, h.tape, h.output, h.size, fun k hk _ => h.block k hk⟩
theorem Kept.nil {w0 w : World} (h : Kept [] w0 w) : Below w0.heap.size w0 w := ⟨h.os, h.tape, h.output, h.size, fun k hk => h.block k hk (fun r hr => by cases hr)⟩
theorem Kept.on {pre : List PreRow} {w0 w w' : World} (h : Kept pre w0 w) (hb : Below w.heap.size w w') : Kept pre w0 w' :=
  ⟨hb.os.trans h.os, hb.tape.trans h.tape, hb.output.trans h.output, Nat.le_trans h.size hb.size, fun k hk hp => (hb.block k (Nat.lt_of_lt_of_le hk h.size)).trans (h.block k hk hp)⟩
theorem Kept.below {pre : List PreRow} {w0 w : World} {B : Nat} (h : Kept pre w0 w) (hB : B ≤ w0.heap.size) (hp : ∀ r ∈ pre, B ≤ r.blk) : Below B w0 w :=
  ⟨h.os, h.tape, h.output, h.size, fun k hk => h.block k (by omega) (fun r hr => by have := hp r hr; omega)⟩
theorem Kept.cell {pre : List PreRow} {w0 w : World} (h : Kept pre w0 w) (b : Nat) (hb : b < w0.heap.size) (hp : ∀ r ∈ pre, r.blk ≠ b) : (∀ o, w.cell? ⟨b, o, none⟩ = w0.cell? ⟨b, o, none⟩) ∧ (∀ o, w.frozen? ⟨b, o, none⟩ = w0.frozen? ⟨b, o, none⟩) :=
  ⟨fun o => World.cell?_of_block (h.block b hb hp), fun o => World.frozen?_of_block (h.block b hb hp)⟩

def kindOf (vs : List VarRow) (ps : List Nat) (i : Nat) : Nat := if vs.any (fun r => r.op == i) then 1 else if vs.any (fun r => r.st == i) || ps.any (fun r => r == i) then 2 else 0
def okVs (vs : List VarRow) (ps : List Nat) : Bool := decide ((vs.map VarRow.op ++ (vs.map VarRow.st ++ ps)).Nodup)

theorem okVs_op {vs : List VarRow} {ps : List Nat} (h : okVs vs ps = true) : ∀ r ∈ vs, ∀ s ∈ vs, r.op ≠ s.st := by
  intro r hr s hs e
  have h1 := (List.nodup_append.1 (of_decide_eq_true h)).2.2
  exact h1 _ (List.mem_map.2 ⟨r, hr, rfl⟩) _ (List.mem_append.2 (.inl (List.mem_map.2 ⟨s, hs, rfl⟩))) e
theorem okVs_opp {vs : List VarRow} {ps : List Nat} (h : okVs vs ps = true) : ∀ r ∈ vs, ∀ p ∈ ps, r.op ≠ p := by
  intro r hr p hp e
  have h1 := (List.nodup_append.1 (of_decide_eq_true h)).2.2
  exact h1 _ (List.mem_map.2 ⟨r, hr, rfl⟩) _ (List.mem_append.2 (.inr hp)) e
theorem okVs_stp {vs : List VarRow} {ps : List Nat} (h : okVs vs ps = true) : ∀ r ∈ vs, ∀ p ∈ ps, r.st ≠ p := by
  intro r hr p hp e
  have h1 := (List.nodup_append.1 (List.nodup_append.1 (of_decide_eq_true h)).2.1).2.2
  exact h1 _ (List.mem_map.2 ⟨r, hr, rfl⟩) _ hp e
theorem nodup_same {α : Type} {f : α → Nat} : ∀ {l : List α}, (l.map f).Nodup → ∀ r ∈ l, ∀ s ∈ l, f r = f s → r = s
  | [], _, _, h, _, _, _ => by cases h
  | x :: l, hn, r, hr, s, hs, e => by
    simp only [List.map_cons, List.nodup_cons] at hn
    obtain ⟨hn1, hn2⟩ := hn
    rcases List.mem_cons.1 hr with hr1 | hr1
    · rcases List.mem_cons.1 hs with hs1 | hs1
      · rw [hr1, hs1]
      · have h2 : f x ∈ l.map f := List.mem_map.2 ⟨s, hs1, by rw [← e, hr1]⟩
        exact absurd h2 hn1
    · rcases List.mem_cons.1 hs with hs1 | hs1
      · have h2 : f x ∈ l.map f := List.mem_map.2 ⟨r, hr1, by rw [e, hs1]⟩
        exact absurd h2 hn1
      · exact nodup_same hn2 r hr1 s hs1 e
theorem okVs_op_inj {vs : List VarRow} {ps : List Nat} (h : okVs vs ps = true) : ∀ r ∈ vs, ∀ s ∈ vs, r.op = s.op → r = s := nodup_same (List.nodup_append.1 (of_decide_eq_true h)).1
theorem okVs_st_inj {vs : List VarRow} {ps : List Nat} (h : okVs vs ps = true) : ∀ r ∈ vs, ∀ s ∈ vs, r.st = s.st → r = s := nodup_same (List.nodup_append.1 (List.nodup_append.1 (of_decide_eq_true h)).2.1).1
theorem okVs_pre {vs : List VarRow} {ps : List Nat} (h : okVs vs ps = true) : ps.Nodup := (List.nodup_append.1 (List.nodup_append.1 (of_decide_eq_true h)).2.1).2.1
theorem kind_op {vs : List VarRow} {ps : List Nat} {r : VarRow} (h : r ∈ vs) : kindOf vs ps r.op = 1 := by
  unfold kindOf; rw [if_pos (List.any_eq_true.2 ⟨r, h, by simp⟩)]
theorem kind_no {vs : List VarRow} {ps : List Nat} {i : Nat} (h : ∀ r ∈ vs, r.op ≠ i) : ¬ (vs.any (fun r => r.op == i) = true) := by
  intro h1
  obtain ⟨s, hs, e⟩ := List.any_eq_true.1 h1
  exact h s hs (by simpa using e)
theorem kind_st {vs : List VarRow} {ps : List Nat} (hok : okVs vs ps = true) {r : VarRow} (h : r ∈ vs) : kindOf vs ps r.st = 2 := by
  unfold kindOf
  rw [if_neg (kind_no (ps := ps) fun s hs => okVs_op hok s hs r h), if_pos (by rw [Bool.or_eq_true]; exact .inl (List.any_eq_true.2 ⟨r, h, by simp⟩))]
theorem kind_pre {vs : List VarRow} {ps : List Nat} (hok : okVs vs ps = true) {p : Nat} (h : p ∈ ps) : kindOf vs ps p = 2 := by
  unfold kindOf
  rw [if_neg (kind_no (ps := ps) fun s hs => okVs_opp hok s hs p h), if_pos (by rw [Bool.or_eq_true]; exact .inr (List.any_eq_true.2 ⟨p, h, by simp⟩))]
theorem kind_one {vs : List VarRow} {ps : List Nat} {i : Nat} (h : kindOf vs ps i = 1) : ∃ r ∈ vs, r.op = i := by
  unfold kindOf at h
  split at h
  · rename_i h1
    obtain ⟨r, hr, e⟩ := List.any_eq_true.1 h1
    exact ⟨r, hr, by simpa using e⟩
  · split at h <;> cases h

/-- a property of a value and the world, and the blocks that it leans on -/
structure Prp where
  R : Value → World → Prop
  F : Value → Nat → Prop
  grow : ∀ v w w', Below w.heap.size w w' → R v w → R v w'
  kept : ∀ v w w' b cs t, Stored w w' b cs t → ¬ F v b → R v w → R v w'
  lt : ∀ v w b, R v w → F v b → b < w.heap.size

def Prp.is (x : Value) : Prp := ⟨fun v _ => v = x, fun _ _ => False, fun _ _ _ _ h => h, fun _ _ _ _ _ _ _ _ h => h, fun _ _ _ _ h => h.elim⟩
def Prp.any : Prp := ⟨fun _ _ => True, fun _ _ => False, fun _ _ _ _ h => h, fun _ _ _ _ _ _ _ _ h => h, fun _ _ _ _ h => h.elim⟩

section
variable {P : Program} {md : Region.Mode}

def setB (d : Nat → Bool) (i : Nat) : Nat → Bool := fun j => if j = i then true else d j
@[simp] theorem setB_self (d : Nat → Bool) (i : Nat) : setB d i i = true := by simp [setB]
theorem setB_ne {d : Nat → Bool} {i j : Nat} (h : j ≠ i) : setB d i j = d j := by simp [setB, h]
theorem upd_ne {u : Nat → Value} {i j : Nat} {v : Value} (h : j ≠ i) : upd u i v j = u j := by simp [upd, h]
theorem upd_self {u : Nat → Value} {i : Nat} {v : Value} : upd u i v i = v := by simp [upd]

/-- the state of such a region -/
structure SI (vs : List VarRow) (pre : List PreRow) (E : Nat → Prp) (w0 : World) (d : Nat → Bool) (u : Nat → Value) (w : World) : Prop where
  below : Kept pre w0 w
  val : ∀ i, kindOf vs (pre.map PreRow.st) i ≠ 1 → d i = true → (E i).R (u i) w
  var : ∀ r ∈ vs, d r.op = true → ∃ b : Nat, u r.op = .pointer (some ⟨b, 0, none⟩) ∧ w0.heap.size ≤ b ∧ w.heap[b]? = some (.cells (if d r.st = true then (u r.st).cells else r.zs) r.ty)
  old : ∀ r ∈ pre, r.blk < w0.heap.size ∧ w.heap[r.blk]? = some (.cells (if d r.st = true then (u r.st).cells else r.zs) r.ty)
  apart : ∀ r ∈ vs, ∀ s ∈ vs, r.op ≠ s.op → d r.op = true → d s.op = true → u r.op ≠ u s.op
  free : ∀ i, kindOf vs (pre.map PreRow.st) i ≠ 1 → d i = true → ∀ r ∈ vs, d r.op = true → ∀ b : Nat, u r.op = .pointer (some ⟨b, 0, none⟩) → ¬ (E i).F (u i) b
  freep : ∀ i, kindOf vs (pre.map PreRow.st) i ≠ 1 → d i = true → ∀ r ∈ pre, ¬ (E i).F (u i) r.blk
  made : ∀ r ∈ vs, d r.st = true → d r.op = true

section
variable {vs : List VarRow} {pre : List PreRow} {E : Nat → Prp} {w0 : World} {d : Nat → Bool} {u : Nat → Value} {w w' : World}

theorem SI.step_val {i : Nat} {v : Value} (hok : okVs vs (pre.map PreRow.st) = true) (h : SI vs pre E w0 d u w) (hb : Below w.heap.size w w') (hi : kindOf vs (pre.map PreRow.st) i = 0) (hR : (E i).R v w')
    (hF : ∀ b, (E i).F v b → (b < w0.heap.size ∧ ∀ r ∈ pre, r.blk ≠ b) ∨ w.heap.size ≤ b ∨ ∃ j, kindOf vs (pre.map PreRow.st) j ≠ 1 ∧ d j = true ∧ (E j).F (u j) b) : SI vs pre E w0 (setB d i) (upd u i v) w' := by
  have hop : ∀ r ∈ vs, r.op ≠ i := fun r hr e => by have := kind_op (ps := pre.map PreRow.st) hr; rw [e, hi] at this; cases this
  have hst : ∀ r ∈ vs, r.st ≠ i := fun r hr e => by have := kind_st hok hr; rw [e, hi] at this; cases this
  have hpst : ∀ r ∈ pre, r.st ≠ i := fun r hr e => by have := kind_pre hok (List.mem_map.2 ⟨r, hr, rfl⟩); rw [e, hi] at this; cases this
  refine ⟨h.below.on hb, fun j hk hd => ?_, fun r hr hd => ?_, fun r hr => ?_, fun r hr s hs hrs hdr hds => ?_, fun j hk hd r hr hdr b hu => ?_, fun j hk hd r hr => ?_, fun r hr hd => ?_⟩
  · by_cases e : j = i
    · subst e; rw [upd_self]; exact hR
    · rw [upd_ne e]; rw [setB_ne e] at hd
      exact (E j).grow _ _ _ hb (h.val j hk hd)
  · rw [setB_ne (hop r hr)] at hd
    obtain ⟨b, h1, h2, h3⟩ := h.var r hr hd
    refine ⟨b, by rw [upd_ne (hop r hr)]; exact h1, h2, ?_⟩
    rw [setB_ne (hst r hr), upd_ne (hst r hr), hb.block b (Array.getElem?_eq_some_iff.1 h3).1]
    exact h3
  · obtain ⟨h1, h3⟩ := h.old r hr
    refine ⟨h1, ?_⟩
    rw [setB_ne (hpst r hr), upd_ne (hpst r hr), hb.block _ (Array.getElem?_eq_some_iff.1 h3).1]
    exact h3
  · rw [upd_ne (hop r hr), upd_ne (hop s hs)]
    rw [setB_ne (hop r hr)] at hdr
    rw [setB_ne (hop s hs)] at hds
    exact h.apart r hr s hs hrs hdr hds
  · rw [setB_ne (hop r hr)] at hdr
    rw [upd_ne (hop r hr)] at hu
    by_cases e : j = i
    · subst e
      rw [upd_self]
      intro hf
      obtain ⟨b', g1, g2, g3⟩ := h.var r hr hdr
      rw [hu] at g1
      obtain rfl : b = b' := by simpa using g1
      have hlt := (Array.getElem?_eq_some_iff.1 g3).1
      rcases hF b hf with h5 | h5 | ⟨k, hk1, hk2, hk3⟩
      · have := h5.1; omega
      · omega
      · exact h.free k hk1 hk2 r hr hdr b hu hk3
    · rw [upd_ne e]; rw [setB_ne e] at hd
      exact h.free j hk hd r hr hdr b hu
  · by_cases e : j = i
    · subst e
      rw [upd_self]
      intro hf
      obtain ⟨g1, g3⟩ := h.old r hr
      have hlt := (Array.getElem?_eq_some_iff.1 g3).1
      rcases hF _ hf with h5 | h5 | ⟨k, hk1, hk2, hk3⟩
      · exact h5.2 r hr rfl
      · omega
      · exact h.freep k hk1 hk2 r hr hk3
    · rw [upd_ne e]; rw [setB_ne e] at hd
      exact h.freep j hk hd r hr
  · rw [setB_ne (hst r hr)] at hd
    rw [setB_ne (hop r hr)]
    exact h.made r hr hd

theorem SI.step_var {r : VarRow} (hok : okVs vs (pre.map PreRow.st) = true) (h : SI vs pre E w0 d u w) (hr : r ∈ vs) (hd0 : d r.op = false) :
    SI vs pre E w0 (setB d r.op) (upd u r.op (.pointer (some ⟨w.heap.size, 0, none⟩))) (w.alloc (.cells r.zs r.ty)) := by
  have hb : Below w.heap.size w (w.alloc (.cells r.zs r.ty)) := (Below.refl w.heap.size w).alloc (Nat.le_refl _) _
  have hk1 := kind_op (ps := pre.map PreRow.st) hr
  have hne : ∀ j, kindOf vs (pre.map PreRow.st) j ≠ 1 → j ≠ r.op := fun j hj e => hj (by rw [e]; exact hk1)
  have hst : ∀ s ∈ vs, s.st ≠ r.op := fun s hs e => okVs_op hok r hr s hs e.symm
  have hpst : ∀ s ∈ pre, s.st ≠ r.op := fun s hs e => okVs_opp hok r hr _ (List.mem_map.2 ⟨s, hs, rfl⟩) e.symm
  have hnew : ∀ s ∈ vs, d s.op = true → u s.op ≠ .pointer (some ⟨w.heap.size, 0, none⟩) := fun s hs hd e => by
    obtain ⟨b, h1, h2, h3⟩ := h.var s hs hd
    rw [h1] at e
    simp at e
    have := (Array.getElem?_eq_some_iff.1 h3).1
    omega
  refine ⟨h.below.on hb, fun j hk hd => ?_, fun s hs hd => ?_, fun s hs => ?_, fun s hs t ht hst2 hds hdt => ?_, fun j hk hd s hs hds b hu => ?_, fun j hk hd s hs => ?_, fun s hs hd => ?_⟩
  · have e := hne j hk
    rw [upd_ne e]; rw [setB_ne e] at hd
    exact (E j).grow _ _ _ hb (h.val j hk hd)
  · by_cases e : s.op = r.op
    · obtain rfl := okVs_op_inj hok s hs r hr e
      have h0 : d s.st = false := by
        cases hq : d s.st with
        | false => rfl
        | true => rw [h.made s hs hq] at hd0; cases hd0
      refine ⟨w.heap.size, by rw [upd_self], h.below.size, ?_⟩
      rw [setB_ne (hst s hs), h0]
      exact (MapKept.heap_alloc w _).1
    · rw [setB_ne e] at hd
      obtain ⟨b, h1, h2, h3⟩ := h.var s hs hd
      refine ⟨b, by rw [upd_ne e]; exact h1, h2, ?_⟩
      rw [setB_ne (hst s hs), upd_ne (hst s hs), hb.block b (Array.getElem?_eq_some_iff.1 h3).1]
      exact h3
  · obtain ⟨h1, h3⟩ := h.old s hs
    refine ⟨h1, ?_⟩
    rw [setB_ne (hpst s hs), upd_ne (hpst s hs), hb.block _ (Array.getElem?_eq_some_iff.1 h3).1]
    exact h3
  · by_cases es : s.op = r.op
    · have et : t.op ≠ r.op := fun e => hst2 (es.trans e.symm)
      rw [es, upd_self, upd_ne et]
      rw [setB_ne et] at hdt
      exact fun e => hnew t ht hdt e.symm
    · rw [setB_ne es] at hds
      rw [upd_ne es]
      by_cases et : t.op = r.op
      · rw [et, upd_self]; exact hnew s hs hds
      · rw [setB_ne et] at hdt
        rw [upd_ne et]
        exact h.apart s hs t ht hst2 hds hdt
  · have e := hne j hk
    rw [upd_ne e]
    rw [setB_ne e] at hd
    by_cases es : s.op = r.op
    · rw [es, upd_self] at hu
      obtain rfl : w.heap.size = b := by simpa using hu
      intro hf
      have := (E j).lt _ _ _ (h.val j hk hd) hf
      omega
    · rw [upd_ne es] at hu
      rw [setB_ne es] at hds
      exact h.free j hk hd s hs hds b hu
  · have e := hne j hk
    rw [upd_ne e]
    rw [setB_ne e] at hd
    exact h.freep j hk hd s hs
  · rw [setB_ne (hst s hs)] at hd
    by_cases es : s.op = r.op
    · rw [es, setB_self]
    · rw [setB_ne es]; exact h.made s hs hd

theorem SI.step_sto {r : VarRow} {b : Nat} {x : Value} (hok : okVs vs (pre.map PreRow.st) = true) (h : SI vs pre E w0 d u w) (hr : r ∈ vs) (hd0 : d r.op = true)
    (hu : u r.op = .pointer (some ⟨b, 0, none⟩)) (hs : Stored w w' b x.cells r.ty) (hR : (E r.st).R x w')
    (hF : ∀ b, (E r.st).F x b → (b < w0.heap.size ∧ ∀ r ∈ pre, r.blk ≠ b) ∨ ∃ j, kindOf vs (pre.map PreRow.st) j ≠ 1 ∧ d j = true ∧ (E j).F (u j) b) : SI vs pre E w0 (setB d r.st) (upd u r.st x) w' := by
  obtain ⟨b', g1, g2, g3⟩ := h.var r hr hd0
  rw [hu] at g1
  obtain rfl : b = b' := by simpa using g1
  have hop : ∀ s ∈ vs, s.op ≠ r.st := fun s hs e => okVs_op hok s hs r hr e
  have hpst : ∀ s ∈ pre, s.st ≠ r.st := fun s hs e => okVs_stp hok r hr _ (List.mem_map.2 ⟨s, hs, rfl⟩) e.symm
  refine ⟨⟨by rw [hs.os]; exact h.below.os, by rw [hs.tape]; exact h.below.tape, by rw [hs.output]; exact h.below.output, by rw [hs.size]; exact h.below.size, fun k hkb hkp => ?_⟩, fun j hk hd => ?_, fun s hsv hd => ?_, fun s hsv => ?_, fun s hsv t ht hst2 hds hdt => ?_, fun j hk hd s hsv hds c hc => ?_, fun j hk hd s hsv => ?_, fun s hsv hd => ?_⟩
  · rw [hs.other k (by omega)]; exact h.below.block k hkb hkp
  · by_cases e : j = r.st
    · subst e; rw [upd_self]; exact hR
    · rw [upd_ne e]; rw [setB_ne e] at hd
      exact (E j).kept _ _ _ _ _ _ hs (h.free j hk hd r hr hd0 b hu) (h.val j hk hd)
  · rw [setB_ne (hop s hsv)] at hd
    obtain ⟨c, k1, k2, k3⟩ := h.var s hsv hd
    refine ⟨c, by rw [upd_ne (hop s hsv)]; exact k1, k2, ?_⟩
    by_cases e : s.st = r.st
    · obtain rfl := okVs_st_inj hok s hsv r hr e
      rw [hu] at k1
      obtain rfl : b = c := by simpa using k1
      rw [setB_self, upd_self]
      simp only [if_true]
      exact hs.here
    · have hcb : c ≠ b := fun e' => by
        subst e'
        have hop2 : s.op ≠ r.op := fun e'' => e (by rw [okVs_op_inj hok s hsv r hr e''])
        exact h.apart s hsv r hr hop2 hd hd0 (k1.trans hu.symm)
      rw [setB_ne e, upd_ne e, hs.other c hcb]
      exact k3
  · obtain ⟨k1, k3⟩ := h.old s hsv
    refine ⟨k1, ?_⟩
    rw [setB_ne (hpst s hsv), upd_ne (hpst s hsv), hs.other _ (by omega)]
    exact k3
  · rw [upd_ne (hop s hsv), upd_ne (hop t ht)]
    rw [setB_ne (hop s hsv)] at hds
    rw [setB_ne (hop t ht)] at hdt
    exact h.apart s hsv t ht hst2 hds hdt
  · rw [setB_ne (hop s hsv)] at hds
    rw [upd_ne (hop s hsv)] at hc
    by_cases e : j = r.st
    · subst e
      rw [upd_self]
      intro hf
      obtain ⟨c', k1, k2, k3⟩ := h.var s hsv hds
      rw [hc] at k1
      obtain rfl : c = c' := by simpa using k1
      rcases hF c hf with h5 | ⟨k, h6, h7, h8⟩
      · have := h5.1; omega
      · exact h.free k h6 h7 s hsv hds c hc h8
    · rw [upd_ne e]; rw [setB_ne e] at hd
      exact h.free j hk hd s hsv hds c hc
  · by_cases e : j = r.st
    · subst e
      rw [upd_self]
      intro hf
      rcases hF _ hf with h5 | ⟨k, h6, h7, h8⟩
      · exact h5.2 s hsv rfl
      · exact h.freep k h6 h7 s hsv h8
    · rw [upd_ne e]; rw [setB_ne e] at hd
      exact h.freep j hk hd s hsv
  · rw [setB_ne (hop s hsv)]
    by_cases e : s.st = r.st
    · obtain rfl := okVs_st_inj hok s hsv r hr e
      exact hd0
    · rw [setB_ne e] at hd
      exact h.made s hsv hd

theorem SI.step_pre {r : PreRow} {x : Value} (hok : okVs vs (pre.map PreRow.st) = true) (hpb : ∀ r ∈ pre, ∀ s ∈ pre, r.st ≠ s.st → r.blk ≠ s.blk) (h : SI vs pre E w0 d u w) (hr : r ∈ pre)
    (hs : Stored w w' r.blk x.cells r.ty) (hR : (E r.st).R x w')
    (hF : ∀ b, (E r.st).F x b → (b < w0.heap.size ∧ ∀ r ∈ pre, r.blk ≠ b) ∨ ∃ j, kindOf vs (pre.map PreRow.st) j ≠ 1 ∧ d j = true ∧ (E j).F (u j) b) : SI vs pre E w0 (setB d r.st) (upd u r.st x) w' := by
  obtain ⟨g1, g3⟩ := h.old r hr
  have hop : ∀ s ∈ vs, s.op ≠ r.st := fun s hs => okVs_opp hok s hs _ (List.mem_map.2 ⟨r, hr, rfl⟩)
  have hst : ∀ s ∈ vs, s.st ≠ r.st := fun s hs => okVs_stp hok s hs _ (List.mem_map.2 ⟨r, hr, rfl⟩)
  refine ⟨⟨by rw [hs.os]; exact h.below.os, by rw [hs.tape]; exact h.below.tape, by rw [hs.output]; exact h.below.output, by rw [hs.size]; exact h.below.size, fun k hkb hkp => ?_⟩, fun j hk hd => ?_, fun s hsv hd => ?_, fun s hsv => ?_, fun s hsv t ht hst2 hds hdt => ?_, fun j hk hd s hsv hds c hc => ?_, fun j hk hd s hsv => ?_, fun s hsv hd => ?_⟩
  · rw [hs.other k (fun e => hkp r hr e.symm)]; exact h.below.block k hkb hkp
  · by_cases e : j = r.st
    · subst e; rw [upd_self]; exact hR
    · rw [upd_ne e]; rw [setB_ne e] at hd
      exact (E j).kept _ _ _ _ _ _ hs (h.freep j hk hd r hr) (h.val j hk hd)
  · rw [setB_ne (hop s hsv)] at hd
    obtain ⟨c, k1, k2, k3⟩ := h.var s hsv hd
    refine ⟨c, by rw [upd_ne (hop s hsv)]; exact k1, k2, ?_⟩
    rw [setB_ne (hst s hsv), upd_ne (hst s hsv), hs.other c (by omega)]
    exact k3
  · obtain ⟨k1, k3⟩ := h.old s hsv
    refine ⟨k1, ?_⟩
    by_cases e : s.st = r.st
    · have : s = r := nodup_same (okVs_pre hok) s hsv r hr e
      subst this
      rw [setB_self, upd_self]
      simp only [if_true]
      exact hs.here
    · rw [setB_ne e, upd_ne e, hs.other _ (hpb s hsv r hr e)]
      exact k3
  · rw [upd_ne (hop s hsv), upd_ne (hop t ht)]
    rw [setB_ne (hop s hsv)] at hds
    rw [setB_ne (hop t ht)] at hdt
    exact h.apart s hsv t ht hst2 hds hdt
  · rw [setB_ne (hop s hsv)] at hds
    rw [upd_ne (hop s hsv)] at hc
    by_cases e : j = r.st
    · subst e
      rw [upd_self]
      intro hf
      obtain ⟨c', k1, k2, k3⟩ := h.var s hsv hds
      rw [hc] at k1
      obtain rfl : c = c' := by simpa using k1
      rcases hF c hf with h5 | ⟨k, h6, h7, h8⟩
      · have := h5.1; omega
      · exact h.free k h6 h7 s hsv hds c hc h8
    · rw [upd_ne e]; rw [setB_ne e] at hd
      exact h.free j hk hd s hsv hds c hc
  · by_cases e : j = r.st
    · subst e
      rw [upd_self]
      intro hf
      rcases hF _ hf with h5 | ⟨k, h6, h7, h8⟩
      · exact h5.2 s hsv rfl
      · exact h.freep k h6 h7 s hsv h8
    · rw [upd_ne e]; rw [setB_ne e] at hd
      exact h.freep j hk hd s hsv
  · rw [setB_ne (hop s hsv)]
    rw [setB_ne (hst s hsv)] at hd
    exact h.made s hsv hd
end

/-- what is known where an operation begins -/
def depsE (md : Region.Mode) (vs : List VarRow) (ps : List Nat) (E : Nat → Prp) (w0 : World) (u : Nat → Value) (w : World) : List Edge → Prop
  | [] => True
  | e :: l => (Region.binds md e = true → if kindOf vs ps e.on = 1 then ∃ b : Nat, u e.on = .pointer (some ⟨b, 0, none⟩) ∧ w0.heap.size ≤ b ∧ b < w.heap.size else (E e.on).R (u e.on) w) ∧ depsE md vs ps E w0 u w l
def updE (E : Nat → Prp) (k : Nat) (p : Prp) : Nat → Prp := fun j => if j = k then p else E j

/-- one operation waits for another -/
def waitsB (md : Region.Mode) (o : Oper) (j : Nat) : Bool := o.after.toList.any fun e => decide (e.on = j) && Region.binds md e
/-- the blocks of a new value: old ones, new ones, or those of a value that it waits for -/
def fromB (md : Region.Mode) (vs : List VarRow) (ps : List Nat) (E : Nat → Prp) (u : Nat → Value) (o : Oper) (b : Nat) : Prop := ∃ j, kindOf vs ps j ≠ 1 ∧ waitsB md o j = true ∧ (E j).F (u j) b

/-- the walk -/
def seqWalk (P : Program) (md : Region.Mode) (ops : Array Oper) (w0 : World) (vs : List VarRow) (pre : List PreRow) (fr : (Nat → Value) → Act) (fin : (Nat → Prp) → Prop) : List Oper → Nat → (Nat → Prp) → Prop
  | [], _, E => fin E
  | o :: l, k, E => ∃ p : Prp, (∀ (u : Nat → Value) (w : World), Kept pre w0 w → depsE md vs (pre.map PreRow.st) E w0 u w o.after.toList →
      match kindOf vs (pre.map PreRow.st) k with
      | 0 => if Region.wanted o (yielded ops (fr u).tmps) = true then relOp P o (fr u) w (fun v w' => Below w.heap.size w w' ∧ p.R v w' ∧ ∀ b, p.F v b → (b < w0.heap.size ∧ ∀ r ∈ pre, r.blk ≠ b) ∨ w.heap.size ≤ b ∨ fromB md vs (pre.map PreRow.st) E u o b) else p.R undef w ∧ ∀ b, ¬ p.F undef b
      | 1 => Region.wanted o (yielded ops (fr u).tmps) = true ∧ ∃ r ∈ vs, r.op = k ∧ relOp P o (fr u) w (fun v w' => v = .pointer (some ⟨w.heap.size, 0, none⟩) ∧ w' = w.alloc (.cells r.zs r.ty))
      | _ => o.dst = none ∧ Region.wanted o (yielded ops (fr u).tmps) = true ∧ ((∃ r ∈ vs, r.st = k ∧ waitsB md o r.op = true ∧ ∀ b : Nat, u r.op = .pointer (some ⟨b, 0, none⟩) → w0.heap.size ≤ b → w.heap[b]? = some (.cells r.zs r.ty) →
          relOp P o (fr u) w (fun _ w' => ∃ x : Value, Stored w w' b x.cells r.ty ∧ p.R x w' ∧ ∀ b, p.F x b → (b < w0.heap.size ∧ ∀ r ∈ pre, r.blk ≠ b) ∨ fromB md vs (pre.map PreRow.st) E u o b)) ∨
        (∃ r ∈ pre, r.st = k ∧ (w.heap[r.blk]? = some (.cells r.zs r.ty) →
          relOp P o (fr u) w (fun _ w' => ∃ x : Value, Stored w w' r.blk x.cells r.ty ∧ p.R x w' ∧ ∀ b, p.F x b → (b < w0.heap.size ∧ ∀ r ∈ pre, r.blk ≠ b) ∨ fromB md vs (pre.map PreRow.st) E u o b))))) ∧
    seqWalk P md ops w0 vs pre fr fin l (k + 1) (updE E k p)

/-- the same, all properties given -/
def seqAll (P : Program) (md : Region.Mode) (ops : Array Oper) (w0 : World) (vs : List VarRow) (pre : List PreRow) (fr : (Nat → Value) → Act) (E : Nat → Prp) : List Oper → Nat → Prop
  | [], _ => True
  | o :: l, k => (∀ (u : Nat → Value) (w : World), Kept pre w0 w → depsE md vs (pre.map PreRow.st) E w0 u w o.after.toList →
      match kindOf vs (pre.map PreRow.st) k with
      | 0 => if Region.wanted o (yielded ops (fr u).tmps) = true then relOp P o (fr u) w (fun v w' => Below w.heap.size w w' ∧ (E k).R v w' ∧ ∀ b, (E k).F v b → (b < w0.heap.size ∧ ∀ r ∈ pre, r.blk ≠ b) ∨ w.heap.size ≤ b ∨ fromB md vs (pre.map PreRow.st) E u o b) else (E k).R undef w ∧ ∀ b, ¬ (E k).F undef b
      | 1 => Region.wanted o (yielded ops (fr u).tmps) = true ∧ ∃ r ∈ vs, r.op = k ∧ relOp P o (fr u) w (fun v w' => v = .pointer (some ⟨w.heap.size, 0, none⟩) ∧ w' = w.alloc (.cells r.zs r.ty))
      | _ => o.dst = none ∧ Region.wanted o (yielded ops (fr u).tmps) = true ∧ ((∃ r ∈ vs, r.st = k ∧ waitsB md o r.op = true ∧ ∀ b : Nat, u r.op = .pointer (some ⟨b, 0, none⟩) → w0.heap.size ≤ b → w.heap[b]? = some (.cells r.zs r.ty) →
          relOp P o (fr u) w (fun _ w' => ∃ x : Value, Stored w w' b x.cells r.ty ∧ (E k).R x w' ∧ ∀ b, (E k).F x b → (b < w0.heap.size ∧ ∀ r ∈ pre, r.blk ≠ b) ∨ fromB md vs (pre.map PreRow.st) E u o b)) ∨
        (∃ r ∈ pre, r.st = k ∧ (w.heap[r.blk]? = some (.cells r.zs r.ty) →
          relOp P o (fr u) w (fun _ w' => ∃ x : Value, Stored w w' r.blk x.cells r.ty ∧ (E k).R x w' ∧ ∀ b, (E k).F x b → (b < w0.heap.size ∧ ∀ r ∈ pre, r.blk ≠ b) ∨ fromB md vs (pre.map PreRow.st) E u o b))))) ∧
    seqAll P md ops w0 vs pre fr E l (k + 1)

theorem relOp_mono {o : Oper} {a : Act} {w : World} {R R' : Value → World → Prop} (h : relOp P o a w R) (hR : ∀ v w', R v w' → R' v w') : relOp P o a w R' := by
  unfold relOp at *
  generalize (execOp a.eval o).run P w = r at *
  cases r with
  | ok n w' =>
    cases n with
    | value u => exact hR _ _ h
    | skip => exact hR _ _ h
    | enter f args => exact Calls.mono h fun e w'' ⟨u, he, hr⟩ => ⟨u, he, hR _ _ hr⟩
    | _ => exact h.elim
  | halt x w' => exact h.elim

/-- what an operation waits for stands before it -/
def backL (md : Region.Mode) : List Oper → Nat → Bool
  | [], _ => true
  | o :: l, k => (o.after.toList.all fun e => !Region.binds md e || decide (e.on < k)) && backL md l (k + 1)

theorem depsE_congr {vs : List VarRow} {ps : List Nat} {E E' : Nat → Prp} {w0 : World} {u : Nat → Value} {w : World} {k : Nat} : ∀ l : List Edge, (l.all fun e => !Region.binds md e || decide (e.on < k)) = true → (∀ j, j < k → E j = E' j) → depsE md vs ps E w0 u w l → depsE md vs ps E' w0 u w l
  | [], _, _, _ => trivial
  | e :: l, hb, he, h => by
    simp only [List.all_cons, Bool.and_eq_true] at hb
    refine ⟨fun hbd => ?_, depsE_congr l hb.2 he h.2⟩
    have h1 := h.1 hbd
    have h2 : e.on < k := by simpa [hbd] using hb.1
    rw [← he _ h2]
    exact h1
theorem fromB_congr {vs : List VarRow} {ps : List Nat} {E E' : Nat → Prp} {u : Nat → Value} {o : Oper} {b k : Nat} (hb : (o.after.toList.all fun e => !Region.binds md e || decide (e.on < k)) = true) (he : ∀ j, j < k → E j = E' j) (h : fromB md vs ps E u o b) : fromB md vs ps E' u o b := by
  obtain ⟨j, h1, h2, h3⟩ := h
  refine ⟨j, h1, h2, ?_⟩
  obtain ⟨e, hm, h4⟩ := List.any_eq_true.1 h2
  simp only [Bool.and_eq_true, decide_eq_true_eq] at h4
  have h5 := List.all_eq_true.1 hb e hm
  rw [h4.2] at h5
  have h6 : e.on < k := by simpa using h5
  rw [← he j (by omega)]
  exact h3

theorem seqAll_of {ops : Array Oper} {w0 : World} {vs : List VarRow} {pre : List PreRow} {fr : (Nat → Value) → Act} {fin : (Nat → Prp) → Prop} : ∀ (l : List Oper) (k : Nat) (E : Nat → Prp), backL md l k = true → seqWalk P md ops w0 vs pre fr fin l k E →
    ∃ E', (∀ j, j < k → E j = E' j) ∧ seqAll P md ops w0 vs pre fr E' l k ∧ fin E'
  | [], _, E, _, h => ⟨E, fun _ _ => rfl, trivial, h⟩
  | o :: l, k, E, hb, h => by
    obtain ⟨p, h1, h2⟩ := h
    simp only [backL, Bool.and_eq_true] at hb
    obtain ⟨E', he, ha, hf⟩ := seqAll_of l (k + 1) _ hb.2 h2
    have hE : ∀ j, j < k → E j = E' j := fun j hj => by rw [← he j (by omega)]; unfold updE; rw [if_neg (by omega)]
    have hp : E' k = p := by rw [← he k (by omega)]; unfold updE; rw [if_pos rfl]
    refine ⟨E', hE, ⟨fun u w hbl hd => ?_, ha⟩, hf⟩
    have h3 := h1 u w hbl (depsE_congr _ hb.1 (fun j hj => (hE j hj).symm) hd)
    rw [hp]
    split at h3
    · split at h3
      · rename_i hw
        rw [if_pos hw]
        exact relOp_mono h3 fun v w' ⟨g1, g2, g3⟩ => ⟨g1, g2, fun b hb' => (g3 b hb').imp id fun h => h.imp id (fromB_congr hb.1 hE)⟩
      · rename_i hw
        rw [if_neg hw]
        exact h3
    · exact h3
    · obtain ⟨hdst, hw, h4⟩ := h3
      refine ⟨hdst, hw, ?_⟩
      rcases h4 with ⟨r, hr, g1, g2, g4⟩ | ⟨r, hr, g1, g4⟩
      · exact .inl ⟨r, hr, g1, g2, fun b q1 q2 q3 => relOp_mono (g4 b q1 q2 q3) fun v w' ⟨x, k1, k2, k3⟩ => ⟨x, k1, k2, fun b hb' => (k3 b hb').imp id (fromB_congr hb.1 hE)⟩⟩
      · exact .inr ⟨r, hr, g1, fun q3 => relOp_mono (g4 q3) fun v w' ⟨x, k1, k2, k3⟩ => ⟨x, k1, k2, fun b hb' => (k3 b hb').imp id (fromB_congr hb.1 hE)⟩⟩

theorem depsE_of {vs : List VarRow} {pre : List PreRow} {E : Nat → Prp} {w0 : World} {d : Nat → Bool} {u : Nat → Value} {w : World} (h : SI vs pre E w0 d u w) : ∀ l : List Edge, (∀ e ∈ l, Region.binds md e = true → d e.on = true) → depsE md vs (pre.map PreRow.st) E w0 u w l
  | [], _ => trivial
  | e :: l, hl => ⟨fun hb => by
      have hde := hl e (by simp) hb
      split
      · rename_i hk
        obtain ⟨r, hr, e1⟩ := kind_one hk
        rw [← e1] at hde ⊢
        obtain ⟨b, h1, h2, h3⟩ := h.var r hr hde
        exact ⟨b, h1, h2, (Array.getElem?_eq_some_iff.1 h3).1⟩
      · rename_i hk
        exact h.val _ hk hde, depsE_of h l (fun e he => hl e (by simp [he]))⟩

theorem seqAll_at {ops : Array Oper} {w0 : World} {vs : List VarRow} {pre : List PreRow} {fr : (Nat → Value) → Act} {E : Nat → Prp} (hok : okVs vs (pre.map PreRow.st) = true) (hpb : ∀ r ∈ pre, ∀ s ∈ pre, r.st ≠ s.st → r.blk ≠ s.blk) : ∀ (l : List Oper) (k i : Nat) (o : Oper), seqAll P md ops w0 vs pre fr E l k → l[i]? = some o →
    ∀ (d : Nat → Bool) (u : Nat → Value) (w : World), d (k + i) = false → (∀ e ∈ o.after.toList, Region.binds md e = true → d e.on = true) → SI vs pre E w0 d u w →
      if Region.wanted o (yielded ops (fr u).tmps) = true then relOp P o (fr u) w (fun v w' => ∃ v', (o.dst = none ∨ v' = v) ∧ SI vs pre E w0 (setB d (k + i)) (upd u (k + i) v') w') else SI vs pre E w0 (setB d (k + i)) (upd u (k + i) undef) w
  | [], _, _, _, _, h => by simp at h
  | o' :: l, k, i + 1, o, hr, h => by
    have := seqAll_at hok hpb l (k + 1) i o hr.2 (by simpa using h)
    rw [show k + 1 + i = k + (i + 1) by omega] at this
    exact this
  | o' :: l, k, 0, o, hr, h => by
    obtain rfl : o' = o := by simpa using h
    intro d u w hk hd hI
    simp only [Nat.add_zero] at hk ⊢
    have hwt : ∀ j, waitsB md o' j = true → d j = true := fun j hj => by
      obtain ⟨e, hm, h4⟩ := List.any_eq_true.1 hj
      simp only [Bool.and_eq_true, decide_eq_true_eq] at h4
      rw [← h4.1]
      exact hd e hm h4.2
    have h3 := hr.1 u w hI.below (depsE_of hI _ hd)
    split at h3
    · rename_i hk0
      split at h3
      · rename_i hw
        rw [if_pos hw]
        exact relOp_mono h3 fun v w' ⟨g1, g2, g3⟩ => ⟨v, .inr rfl, hI.step_val hok g1 hk0 g2 fun b hb => (g3 b hb).imp id fun h => h.imp id fun ⟨j, j1, j2, j3⟩ => ⟨j, j1, hwt j j2, j3⟩⟩
      · rename_i hw
        rw [if_neg hw]
        exact hI.step_val hok (Below.refl _ _) hk0 h3.1 fun b hb => absurd hb (h3.2 b)
    · obtain ⟨hw, r, hr1, rfl, hg⟩ := h3
      rw [if_pos hw]
      exact relOp_mono hg fun v w' ⟨h1, h2⟩ => by subst h1 h2; exact ⟨_, .inr rfl, hI.step_var hok hr1 hk⟩
    · obtain ⟨hdst, hw, h4⟩ := h3
      rw [if_pos hw]
      rcases h4 with ⟨r, hr1, rfl, g2, g4⟩ | ⟨r, hr1, rfl, g4⟩
      · obtain ⟨b, q1, q2, q3⟩ := hI.var r hr1 (hwt _ g2)
        rw [hk] at q3
        simp only [Bool.false_eq_true, if_false] at q3
        exact relOp_mono (g4 b q1 q2 q3) fun v w' ⟨x, k1, k2, k3⟩ => ⟨x, .inl hdst, hI.step_sto hok hr1 (hwt _ g2) q1 k1 k2 fun b hb => (k3 b hb).imp id fun ⟨j, j1, j2, j3⟩ => ⟨j, j1, hwt j j2, j3⟩⟩
      · obtain ⟨q1, q3⟩ := hI.old r hr1
        rw [hk] at q3
        simp only [Bool.false_eq_true, if_false] at q3
        exact relOp_mono (g4 q3) fun v w' ⟨x, k1, k2, k3⟩ => ⟨x, .inl hdst, hI.step_pre hok hpb hr1 k1 k2 fun b hb => (k3 b hb).imp id fun ⟨j, j1, j2, j3⟩ => ⟨j, j1, hwt j j2, j3⟩⟩

theorem wpAny_seq {l : List Oper} {n : Nat} {a0 : Act} {w0 : World} {vs : List VarRow} {pre : List PreRow} {E : Nat → Prp} {Q : Exit → Act → World → Prop} (hok : okVs vs (pre.map PreRow.st) = true) (hpb : ∀ r ∈ pre, ∀ s ∈ pre, r.st ≠ s.st → r.blk ≠ s.blk) (hB : relB md l n = true)
    (hall : seqAll P md l.toArray w0 vs pre (fun u => fillL a0 (l.take n) u 0) E (l.take n) 0)
    (hend : ∀ (d : Nat → Bool) (u : Nat → Value) (w : World), (∀ j, j < n → d j = true) → SI vs pre E w0 d u w → wpList P l.toArray Q (l.drop n) (fillL a0 (l.take n) u 0) w) :
    ∀ (f : Nat) (listed : Array Bool) (u : Nat → Value) (w : World), unlisted n listed = f → HeadInv md l.toArray n listed → SI vs pre E w0 (fun j => listed.getD j false) u w →
      wpAny P md l.toArray Q (f + (l.length - n)) listed (fillL a0 (l.take n) u 0) w := by
  simp only [relB, Bool.and_eq_true, Bool.or_eq_true, decide_eq_true_eq] at hB
  obtain ⟨⟨⟨hn, hback⟩, hseq⟩, hd⟩ := hB
  have hnl : n ≤ l.length := by omega
  intro f
  induction f with
  | zero =>
    intro listed u w hf inv hV
    have hdone : ∀ j, j < n → listed.getD j false = true := by
      intro j hj
      have h0 : (List.range n).countP (fun j => !listed.getD j false) = 0 := hf
      rw [List.countP_eq_zero] at h0
      simpa using h0 j (List.mem_range.2 hj)
    have hlist : listed = headsDone n l.length := by
      apply Array.ext
      · simp [headsDone, inv.size]; omega
      · intro i h1 h2
        have hsz : listed.size = l.length := by rw [inv.size]; simp
        have h3 : i < (List.replicate n true ++ List.replicate (l.length - n) false).length := by simpa [headsDone] using h2
        show listed[i] = (List.replicate n true ++ List.replicate (l.length - n) false)[i]'h3
        by_cases hi : i < n
        · rw [List.getElem_append_left (by simpa using hi), List.getElem_replicate]
          have := hdone i hi
          simpa [h1] using this
        · rw [List.getElem_append_right (by simpa using hi), List.getElem_replicate]
          have := inv.tail i (by omega) (by simp; omega)
          simpa [h1] using this
    rw [Nat.zero_add]
    have := wpAny_of_seq (P := P) (ops := l.toArray) (md := md) (Q' := Q) (l.drop n) n listed (fillL a0 (l.take n) u 0) w (fun j => by simp [List.getElem?_drop])
      (by rw [List.length_drop, hlist]; exact hseq) (hend _ u w hdone hV)
    rwa [List.length_drop] at this
  | succ f ih =>
    intro listed u w hf inv hV
    have hsz : listed.size = l.length := by rw [inv.size]; simp
    obtain ⟨i0, hi0, hun0⟩ : ∃ i, i < n ∧ listed.getD i false = false := by
      apply Classical.byContradiction
      intro hno
      have : unlisted n listed = 0 := by
        unfold unlisted
        rw [List.countP_eq_zero]
        intro j hj
        have : listed.getD j false = true := by
          cases h : listed.getD j false with
          | true => rfl
          | false => exact absurd ⟨j, List.mem_range.1 hj, h⟩ hno
        rw [this]
        decide
      omega
    rw [show f + 1 + (l.length - n) = (f + (l.length - n)) + 1 by omega]
    refine ⟨fun h => absurd h (some_ready hback (by simpa using hnl) i0 i0 rfl hi0 hun0 (by omega) (fun j hj => by omega)), fun i hi => ?_⟩
    obtain ⟨hiun, o, ho, hdeps⟩ := mem_ready.1 hi
    have hilt : i < l.length := by have := (Array.getElem?_eq_some_iff.1 ho).1; simpa using this
    have hin : i < n := by
      rcases hn with hn | ⟨⟨hn, hs⟩, hc⟩
      · omega
      · exact (Nat.lt_or_ge i n).resolve_right fun h => tail_waits hs hc (by simpa using hn) inv _ i0 rfl hi0 (getD_in (by omega) hun0) i h hi
    have hol : (l.take n)[i]? = some o := by
      rw [List.getElem?_take_of_lt hin]; simpa using ho
    have hstep := seqAll_at hok hpb _ 0 i o hall hol (fun j => listed.getD j false) u w (by rw [Nat.zero_add]; exact getD_both hiun) (fun e he hbd => hdeps e (by simpa using he) hbd) hV
    simp only [Nat.zero_add] at hstep
    have hset : (fun j => (listed.setIfInBounds i true).getD j false) = setB (fun j => listed.getD j false) i := by
      funext j
      unfold setB
      split
      · rename_i e; subst e
        simp [show j < listed.size by omega]
      · rename_i e
        rw [getD_set_ne false (by omega)]
    have hgo : ∀ v w', (∃ v', (o.dst = none ∨ v' = v) ∧ SI vs pre E w0 (setB (fun j => listed.getD j false) i) (upd u i v') w') → wpAny P md l.toArray Q (f + (l.length - n)) (listed.setIfInBounds i true) ((fillL a0 (l.take n) u 0).put o.dst v) w' := by
      rintro v w' ⟨v', hor, hv⟩
      have hput : (fillL a0 (l.take n) u 0).put o.dst v = (fillL a0 (l.take n) u 0).put o.dst v' := by
        rcases hor with h | h
        · rw [h]; rfl
        · rw [h]
      rw [hput, fill_put (l.take n) a0 u 0 i o hd hol, Nat.zero_add]
      refine ih _ _ _ ?_ (inv.set hi hin) (by rw [hset]; exact hv)
      have := unlisted_set hin (by omega : i < listed.size) (getD_both hiun)
      omega
    unfold wpOp
    simp only [ho]
    split
    · rename_i hw
      rw [if_pos hw] at hstep
      exact .inl (relOp_wp hstep fun v w' h1 => hgo v w' h1)
    · rename_i hw
      rw [if_neg hw] at hstep
      exact hgo _ _ ⟨_, .inr rfl, hstep⟩

/-- what is known at the end: of operations 0 to n - 1 -/
def endE (vs : List VarRow) (ps : List Nat) (E : Nat → Prp) (u : Nat → Value) (w : World) : Nat → Prop
  | 0 => True
  | k + 1 => endE vs ps E u w k ∧ if kindOf vs ps k = 1 then (∃ b : Nat, u k = .pointer (some ⟨b, 0, none⟩)) else (E k).R (u k) w
/-- of the variables -/
def endV (w0 : World) (u : Nat → Value) (w : World) (n : Nat) : List VarRow → Prop
  | [] => True
  | r :: vs => (∃ b : Nat, u r.op = .pointer (some ⟨b, 0, none⟩) ∧ w0.heap.size ≤ b ∧ w.heap[b]? = some (.cells (if r.st < n then (u r.st).cells else r.zs) r.ty)) ∧ (vs.foldr (fun s q => u r.op ≠ u s.op ∧ q) True) ∧ endV w0 u w n vs
/-- of the blocks that were there -/
def endP (u : Nat → Value) (w : World) (n : Nat) : List PreRow → Prop
  | [] => True
  | r :: l => w.heap[r.blk]? = some (.cells (if r.st < n then (u r.st).cells else r.zs) r.ty) ∧ endP u w n l

theorem endE_of {vs : List VarRow} {pre : List PreRow} {E : Nat → Prp} {w0 : World} {d : Nat → Bool} {u : Nat → Value} {w : World} (h : SI vs pre E w0 d u w) : ∀ n, (∀ j, j < n → d j = true) → endE vs (pre.map PreRow.st) E u w n
  | 0, _ => trivial
  | n + 1, hd => ⟨endE_of h n (fun j hj => hd j (by omega)), by
      split
      · rename_i hk
        obtain ⟨r, hr, e1⟩ := kind_one hk
        obtain ⟨b, h1, _⟩ := h.var r hr (by rw [e1]; exact hd n (by omega))
        exact ⟨b, by rw [← e1]; exact h1⟩
      · rename_i hk
        exact h.val _ hk (hd n (by omega))⟩
theorem endV_of {vs0 : List VarRow} {pre : List PreRow} {E : Nat → Prp} {w0 : World} {d : Nat → Bool} {u : Nat → Value} {w : World} {n : Nat} (h : SI vs0 pre E w0 d u w) (hd : ∀ j, j < n → d j = true) (hbd : ∀ r ∈ vs0, r.op < n ∧ r.st < n) : ∀ vs : List VarRow, (∀ r ∈ vs, r ∈ vs0) → (vs.map VarRow.op).Nodup → endV w0 u w n vs
  | [], _, _ => trivial
  | r :: vs, hs, hn => by
    simp only [List.map_cons, List.nodup_cons] at hn
    have hr := hs r (by simp)
    refine ⟨?_, ?_, endV_of h hd hbd vs (fun s hs' => hs s (by simp [hs'])) hn.2⟩
    · obtain ⟨b, h1, h2, h3⟩ := h.var r hr (hd _ (hbd r hr).1)
      rw [hd _ (hbd r hr).2] at h3
      exact ⟨b, h1, h2, by rw [if_pos (hbd r hr).2]; simpa using h3⟩
    · have : ∀ l : List VarRow, (∀ s ∈ l, s ∈ vs) → l.foldr (fun s q => u r.op ≠ u s.op ∧ q) True := by
        intro l
        induction l with
        | nil => intro _; trivial
        | cons s l ih =>
          intro hl
          refine ⟨h.apart r hr s (hs s (by simp [hl s (by simp)])) (fun e => hn.1 (List.mem_map.2 ⟨s, hl s (by simp), e.symm⟩)) (hd _ (hbd r hr).1) (hd _ (hbd s (hs s (by simp [hl s (by simp)]))).1), ih (fun s hs' => hl s (by simp [hs']))⟩
      exact this vs (fun s hs' => hs')
theorem endP_of {vs : List VarRow} {pre : List PreRow} {E : Nat → Prp} {w0 : World} {d : Nat → Bool} {u : Nat → Value} {w : World} {n : Nat} (h : SI vs pre E w0 d u w) (hd : ∀ j, j < n → d j = true) (hbd : ∀ r ∈ pre, r.st < n) : ∀ l : List PreRow, (∀ r ∈ l, r ∈ pre) → endP u w n l
  | [], _ => trivial
  | r :: l, hs => by
    refine ⟨?_, endP_of h hd hbd l (fun s hs' => hs s (by simp [hs']))⟩
    have hr := hs r (by simp)
    obtain ⟨_, h3⟩ := h.old r hr
    rw [hd _ (hbd r hr)] at h3
    rw [if_pos (hbd r hr)]
    simpa using h3

def varsIn (vs : List VarRow) (ps : List Nat) (n : Nat) : Bool := (vs.all fun r => decide (r.op < n) && decide (r.st < n)) && ps.all fun p => decide (p < n)

theorem endE_get {vs : List VarRow} {ps : List Nat} {E : Nat → Prp} {u : Nat → Value} {w : World} : ∀ {n : Nat}, endE vs ps E u w n → ∀ i, i < n → kindOf vs ps i ≠ 1 → (E i).R (u i) w
  | 0, _, i, hi, _ => by omega
  | n + 1, h, i, hi, hk => by
    by_cases e : i = n
    · subst e
      have := h.2
      rw [if_neg hk] at this
      exact this
    · exact endE_get h.1 i (by omega) hk

/-- **THE THEOREM** -/
theorem wp_region_seq {id : Nat} {Q : Exit → Act → World → Prop} {a : Act} {w : World} {l : List Oper} (n : Nat) (vs : List VarRow) (pre : List PreRow) (hm : P.follows .mixedOrders = true) (hB : relB .any l n = true) (hL : backL .any (l.take n) 0 = true) (hok : okVs vs (pre.map PreRow.st) = true) (hin : varsIn vs (pre.map PreRow.st) n = true)
    (hpre : ∀ r ∈ pre, r.blk < w.heap.size ∧ w.heap[r.blk]? = some (.cells r.zs r.ty)) (hpb : ∀ r ∈ pre, ∀ s ∈ pre, r.st ≠ s.st → r.blk ≠ s.blk)
    (h : seqWalk P .any l.toArray w vs pre (fun u => fillL a (l.take n) u 0)
      (fun E => ∀ (u : Nat → Value) (w' : World), Kept pre w w' → endE vs (pre.map PreRow.st) E u w' n → endV w u w' n vs → endP u w' n pre → wpList P l.toArray Q (l.drop n) (fillL a (l.take n) u 0) w') (l.take n) 0 (fun _ => Prp.any)) : (Code.region id l.toArray true).wp P Q a w := by
  obtain ⟨E, _, hall, hend⟩ := seqAll_of _ _ _ hL h
  refine wp_region_any hm ?_
  have inv0 : HeadInv .any l.toArray n (Array.replicate l.toArray.size false) :=
    ⟨by simp, fun j oj _ hl => (by rw [getD_replicate_false] at hl; cases hl), fun t _ ht => getD_in (by simpa using ht) (getD_replicate_false _ _)⟩
  have hn : n ≤ l.length := by
    simp only [relB, Bool.and_eq_true, Bool.or_eq_true, decide_eq_true_eq] at hB
    omega
  have h1 : unlisted n (Array.replicate l.toArray.size false) = n := by
    unfold unlisted
    rw [List.countP_eq_length.2]
    · simp
    · intro j _
      rw [getD_replicate_false]
      rfl
  have hd0 : (fun j => (Array.replicate l.toArray.size false).getD j false) = fun _ => false := by
    funext j; exact getD_replicate_false _ _
  have hI : SI vs pre E w (fun j => (Array.replicate l.toArray.size false).getD j false) (fun j => curU a (l.take n) j) { w with drawn := w.drawn + 1 } := by
    rw [hd0]
    exact ⟨⟨rfl, rfl, rfl, Nat.le_refl _, fun _ _ _ => rfl⟩, fun i _ h => (by cases h), fun r _ h => (by cases h), fun r hr => hpre r hr, fun r _ s _ _ h => (by cases h), fun i _ h => (by cases h), fun i _ h => (by cases h), fun r _ h => (by cases h)⟩
  simp only [varsIn, Bool.and_eq_true] at hin
  have hbd : ∀ r ∈ vs, r.op < n ∧ r.st < n := fun r hr => by
    have := List.all_eq_true.1 hin.1 r hr
    simpa using this
  have hbp : ∀ r ∈ pre, r.st < n := fun r hr => by
    have := List.all_eq_true.1 hin.2 r.st (List.mem_map.2 ⟨r, hr, rfl⟩)
    simpa using this
  have := wpAny_seq hok hpb hB hall (fun d u w' hd hI => hend u w' hI.below (endE_of hI n hd) (endV_of hI hd hbd vs (fun r hr => hr) (List.nodup_append.1 (of_decide_eq_true hok)).1) (endP_of hI hd hbp pre (fun r hr => hr))) n _ _ { w with drawn := w.drawn + 1 } h1 inv0 hI
  rw [fill_cur a (l.take n) 0 _ (fun j => by rw [Nat.zero_add]), show n + (l.length - n) = l.toArray.size by simp; omega] at this
  exact this

/- one step of the walk, by what the operation is -/
section
variable {ops : Array Oper} {w0 : World} {vs : List VarRow} {pre : List PreRow} {fr : (Nat → Value) → Act} {fin : (Nat → Prp) → Prop} {o : Oper} {l : List Oper} {k : Nat} {E : Nat → Prp}
/-- one known value -/
theorem seq_is {x : Value} (hk : kindOf vs (pre.map PreRow.st) k = 0)
    (h : ∀ (u : Nat → Value) (w : World), Kept pre w0 w → depsE md vs (pre.map PreRow.st) E w0 u w o.after.toList → if Region.wanted o (yielded ops (fr u).tmps) = true then relOp P o (fr u) w (fun v w' => Below w.heap.size w w' ∧ v = x) else undef = x)
    (hl : seqWalk P md ops w0 vs pre fr fin l (k + 1) (updE E k (Prp.is x))) : seqWalk P md ops w0 vs pre fr fin (o :: l) k E := by
  refine ⟨Prp.is x, fun u w hb hd => ?_, hl⟩
  rw [hk]
  have h1 := h u w hb hd
  show if _ then _ else _
  split at h1
  · rename_i hw
    rw [if_pos hw]
    exact relOp_mono h1 fun v w' ⟨g1, g2⟩ => ⟨g1, g2, fun b hb => hb.elim⟩
  · rename_i hw
    rw [if_neg hw]
    exact ⟨h1, fun b hb => hb⟩
/-- a variable is made -/
theorem seq_var (r : VarRow) (hr : r ∈ vs) (ho : r.op = k)
    (h : ∀ (u : Nat → Value) (w : World), Kept pre w0 w → Region.wanted o (yielded ops (fr u).tmps) = true ∧ relOp P o (fr u) w (fun v w' => v = .pointer (some ⟨w.heap.size, 0, none⟩) ∧ w' = w.alloc (.cells r.zs r.ty)))
    (hl : seqWalk P md ops w0 vs pre fr fin l (k + 1) (updE E k Prp.any)) : seqWalk P md ops w0 vs pre fr fin (o :: l) k E := by
  refine ⟨Prp.any, fun u w hb hd => ?_, hl⟩
  have hk : kindOf vs (pre.map PreRow.st) k = 1 := by rw [← ho]; exact kind_op hr
  rw [hk]
  have h1 := h u w hb
  exact ⟨h1.1, r, hr, ho, h1.2⟩
/-- a known value is stored into it -/
theorem seq_sto_agg {cs : Array Value} (r : VarRow) (hr : r ∈ vs) (ho : r.st = k) (hk : kindOf vs (pre.map PreRow.st) k = 2) (hdst : o.dst = none) (hw : waitsB md o r.op = true)
    (h : ∀ (u : Nat → Value) (w : World), Kept pre w0 w → depsE md vs (pre.map PreRow.st) E w0 u w o.after.toList → Region.wanted o (yielded ops (fr u).tmps) = true ∧ ∀ b : Nat, u r.op = .pointer (some ⟨b, 0, none⟩) → w0.heap.size ≤ b → w.heap[b]? = some (.cells r.zs r.ty) → relOp P o (fr u) w (fun _ w' => Stored w w' b cs r.ty))
    (hl : seqWalk P md ops w0 vs pre fr fin l (k + 1) (updE E k (Prp.is (.agg cs)))) : seqWalk P md ops w0 vs pre fr fin (o :: l) k E := by
  refine ⟨Prp.is (.agg cs), fun u w hb hd => ?_, hl⟩
  rw [hk]
  have h1 := h u w hb hd
  exact ⟨hdst, h1.1, .inl ⟨r, hr, ho, hw, fun b q1 q2 q3 => relOp_mono (h1.2 b q1 q2 q3) fun v w' hs => ⟨.agg cs, hs, rfl, fun b hb => hb.elim⟩⟩⟩
end
end
end Go.Proofs.YtgbhhjdmochhpaaDoor
namespace Go.Proofs.YtgbhhjdmochhpaaDoor
open Go Go.RowKit
set_option linter.unusedVariables false

def allTo (f : Nat → Bool) : Nat → Bool
  | 0 => true
  | n + 1 => allTo f n && f n
theorem allTo_iff {f : Nat → Bool} : ∀ {n : Nat}, allTo f n = true ↔ ∀ i, i < n → f i = true
  | 0 => ⟨fun _ i h => by omega, fun _ => rfl⟩
  | n + 1 => by
    unfold allTo
    rw [Bool.and_eq_true, allTo_iff (n := n)]
    constructor
    · rintro ⟨h1, h2⟩ i hi
      by_cases e : i = n
      · subst e; exact h2
      · exact h1 i (by omega)
    · intro h
      exact ⟨fun i hi => h i (by omega), h n (by omega)⟩
theorem allTo_no {f : Nat → Bool} {n i : Nat} (hi : i < n) (h : f i = false) : allTo f n = false := by
  cases e : allTo f n with
  | false => rfl
  | true => rw [allTo_iff.1 e i hi] at h; cases h
/-- ints in memory -/
def IntsAt (w : World) (v : Value) (n : Nat) (f : Nat → Int) : Prop := SliceAt w v n 1 (fun i _ => .int .i64 (f i))
theorem IntsAt.below {w w' : World} {v : Value} {n : Nat} {f : Nat → Int} (h : IntsAt w v n f) (hb : Below w.heap.size w w') : IntsAt w' v n f := SliceAt.below h hb
theorem IntsAt.form {w : World} {v : Value} {n : Nat} {f : Nat → Int} (h : IntsAt w v n f) : ∃ (oa : Option Addr) (cap : Nat), v = .slice oa n cap ∧ n ≤ 9223372036854775807 ∧
    ∀ i, i < n → ∃ b off, oa = some ⟨b, off, none⟩ ∧ b < w.heap.size ∧ ∀ k, k < n → w.cell? ⟨b, off + k, none⟩ = some (.int .i64 (f k)) := by
  obtain ⟨oa, cap, h1, h2, h3, h4⟩ := h
  refine ⟨oa, cap, h1, by omega, fun i hi => ?_⟩
  obtain ⟨b, off, e, hlt, hc⟩ := h4 (by omega)
  exact ⟨b, off, e, hlt, fun k hk => by have := hc k 0 hk (by decide); simpa using this⟩
theorem IntsAt.congr {w : World} {v : Value} {n : Nat} {f g : Nat → Int} (h : IntsAt w v n f) (e : ∀ i, i < n → f i = g i) : IntsAt w v n g := by
  obtain ⟨oa, cap, h1, h2, h3, h4⟩ := h
  refine ⟨oa, cap, h1, h2, h3, fun hn => ?_⟩
  obtain ⟨b, off, e1, hlt, hc⟩ := h4 hn
  exact ⟨b, off, e1, hlt, fun i j hi hj => by rw [hc i j hi hj]; simp only [e i hi]⟩
theorem intsAt_nil (w : World) (f : Nat → Int) : IntsAt w (.slice none 0 0) 0 f := ⟨none, 0, rfl, by omega, by omega, fun h => by omega⟩

/-- vectors in memory -/
def VecsAt (w : World) (v : Value) (n : Nat) (x y z : Nat → Int) : Prop := SliceAt w v n 3 (fun i j => match j with | 0 => .int .i64 (x i) | 1 => .int .i64 (y i) | _ => .int .i64 (z i))
theorem VecsAt.below {w w' : World} {v : Value} {n : Nat} {x y z : Nat → Int} (h : VecsAt w v n x y z) (hb : Below w.heap.size w w') : VecsAt w' v n x y z := SliceAt.below h hb
theorem VecsAt.form {w : World} {v : Value} {n : Nat} {x y z : Nat → Int} (h : VecsAt w v n x y z) : ∃ (oa : Option Addr) (cap : Nat), v = .slice oa n cap ∧ n ≤ 9223372036854775807 ∧
    ∀ i, i < n → ∃ b off, oa = some ⟨b, off, none⟩ ∧ b < w.heap.size ∧ ∀ k, k < n → w.cell? ⟨b, off + k * 3, none⟩ = some (.int .i64 (x k)) ∧ w.cell? ⟨b, off + k * 3 + 1, none⟩ = some (.int .i64 (y k)) ∧ w.cell? ⟨b, off + k * 3 + 2, none⟩ = some (.int .i64 (z k)) := by
  obtain ⟨oa, cap, h1, h2, h3, h4⟩ := h
  refine ⟨oa, cap, h1, by omega, fun i hi => ?_⟩
  obtain ⟨b, off, e, hlt, hc⟩ := h4 (by omega)
  exact ⟨b, off, e, hlt, fun k hk => ⟨hc k 0 hk (by decide), hc k 1 hk (by decide), hc k 2 hk (by decide)⟩⟩
theorem VecsAt.congr {w : World} {v : Value} {n : Nat} {x y z x' y' z' : Nat → Int} (h : VecsAt w v n x y z) (e : ∀ i, i < n → x i = x' i ∧ y i = y' i ∧ z i = z' i) : VecsAt w v n x' y' z' := by
  obtain ⟨oa, cap, h1, h2, h3, h4⟩ := h
  refine ⟨oa, cap, h1, h2, h3, fun hn => ?_⟩
  obtain ⟨b, off, e1, hlt, hc⟩ := h4 hn
  refine ⟨b, off, e1, hlt, fun i j hi hj => ?_⟩
  rw [hc i j hi hj]
  obtain ⟨ex, ey, ez⟩ := e i hi
  rcases (by omega : j = 0 ∨ j = 1 ∨ j = 2) with rfl | rfl | rfl
  · simp only [ex]
  · simp only [ey]
  · simp only [ez]

/-- the value's block is not older than B -/
def NewFrom (B : Nat) (v : Value) : Prop := ∀ b, v.ownBlock = some b → B ≤ b
theorem NewFrom.mono {B C : Nat} {v : Value} (h : NewFrom B v) (hc : C ≤ B) : NewFrom C v := fun b hb => Nat.le_trans hc (h b hb)

/- WHAT AN APPENDED SLICE OWNS. -/
theorem owns_new {w : World} {base : Nat} {e : TypeId} {size : Nat} {v : Value} {n : Nat} {xs : List Value} (h : w.ownsRow base e size v n xs) : NewFrom base v := fun b hb => (h.lt b hb).1
theorem owns_slice {w : World} {base : Nat} {e : TypeId} {size : Nat} {v : Value} {n : Nat} {xs : List Value} (h : w.ownsRow base e size v n xs) (f : Nat → Nat → Value) (hsz : 0 < size) (hf : ∀ i j, i < n → j < size → xs[i * size + j]? = some (f i j)) : SliceAt w v n size f := by
  rcases h.2 with ⟨rfl, rfl⟩ | ⟨g, cap, cur, rfl, hb, hg, hnc, hcm, hcs, htake⟩
  · exact ⟨none, 0, rfl, by omega, by omega, fun h => by omega⟩
  · refine ⟨some ⟨g, 0, none⟩, cap, rfl, hnc, by simpa [maxLen] using hcm, fun _ => ⟨g, 0, rfl, (Array.getElem?_eq_some_iff.1 hg).1, fun i j hi hj => ?_⟩⟩
    have := h.cells (g := g) rfl _ _ (hf i j hi hj)
    have hadd : (⟨g, 0, none⟩ : Addr).add (i * size + j) = ⟨g, 0 + (i * size + j), none⟩ := by unfold Addr.add; split <;> simp_all
    rw [hadd] at this
    exact this
def listOf (g : Nat → Value) (n : Nat) : List Value := (List.range n).map g
theorem listOf_len (g : Nat → Value) (n : Nat) : (listOf g n).length = n := by simp [listOf]
theorem listOf_snoc (g : Nat → Value) (n : Nat) : listOf g n ++ [g n] = listOf g (n + 1) := by simp [listOf, List.range_succ]
theorem listOf_at (g : Nat → Value) (n i : Nat) (h : i < n) : (listOf g n)[i]? = some (g i) := by simp [listOf, h]
theorem owns_ints {w : World} {base : Nat} {e : TypeId} {v : Value} {n : Nat} {f : Nat → Int} (h : w.ownsRow base e 1 v n (listOf (fun i => .int .i64 (f i)) n)) : IntsAt w v n f :=
  owns_slice h _ (by decide) fun i j hi hj => by
    have : j = 0 := by omega
    subst this
    rw [show i * 1 + 0 = i by omega, listOf_at _ _ _ hi]

/-- ints, as a property of a value -/
def Prp.ints (n : Nat) (f : Nat → Int) : Prp where
  R := fun v w => IntsAt w v n f
  F := fun v b => 0 < n ∧ v.ownBlock = some b
  grow := fun v w w' hb h => h.below hb
  kept := fun v w w' b cs t hs hn h => by
    obtain ⟨oa, cap, h1, h2, h3, h4⟩ := h
    refine ⟨oa, cap, h1, h2, h3, fun h0 => ?_⟩
    obtain ⟨b', off, e, hlt, hc⟩ := h4 h0
    refine ⟨b', off, e, by rw [hs.size]; exact hlt, fun i j hi hj => ?_⟩
    have hne : b' ≠ b := fun e' => hn ⟨h0, by subst h1 e e'; rfl⟩
    rw [World.cell?_of_block (hs.other b' hne)]
    exact hc i j hi hj
  lt := fun v w b h hf => by
    obtain ⟨oa, cap, h1, h2, h3, h4⟩ := h
    obtain ⟨b', off, e, hlt, hc⟩ := h4 hf.1
    subst h1 e
    have : b' = b := by simpa [Value.ownBlock] using hf.2
    rw [← this]; exact hlt
/-- a slice that was built of some values -/
def Prp.built (n : Nat) (xs : Array Value) (t : TypeId) : Prp where
  R := fun v w => ∃ g : Nat, v = .slice (some ⟨g, 0, none⟩) n n ∧ w.heap[g]? = some (.cells xs t)
  F := fun v b => v.ownBlock = some b
  grow := fun v w w' hb ⟨g, h1, h2⟩ => ⟨g, h1, by rw [hb.block g (Array.getElem?_eq_some_iff.1 h2).1]; exact h2⟩
  kept := fun v w w' b cs t hs hn ⟨g, h1, h2⟩ => ⟨g, h1, by rw [hs.other g (fun e => hn (by rw [h1, e]; rfl))]; exact h2⟩
  lt := fun v w b ⟨g, h1, h2⟩ hf => by
    subst h1
    have : g = b := by simpa [Value.ownBlock] using hf
    rw [← this]; exact (Array.getElem?_eq_some_iff.1 h2).1
end Go.Proofs.YtgbhhjdmochhpaaDoor
namespace Go.Proofs.YtgbhhjdmochhpaaDoor
open Go Go.RowKit
set_option linter.unusedVariables false

/-- a property of a value and the world that stays -/
structure Stay where
  p : Value → World → Prop
  grow : ∀ v w w', Below w.heap.size w w' → p v w → p v w'
def Stay.is (x : Value) : Stay := ⟨fun v _ => v = x, fun _ _ _ _ h => h⟩
def Stay.any : Stay := ⟨fun _ _ => True, fun _ _ _ _ h => h⟩
section
variable {P : Program} {md : Region.Mode}
def depsS (md : Region.Mode) (V : Nat → Stay) (u : Nat → Value) (w : World) : List Edge → Prop
  | [] => True
  | e :: l => (Region.binds md e = true → (V e.on).p (u e.on) w) ∧ depsS md V u w l
def updS (V : Nat → Stay) (k : Nat) (p : Stay) : Nat → Stay := fun j => if j = k then p else V j
def relWalk (P : Program) (md : Region.Mode) (ops : Array Oper) (w0 : World) (fr : (Nat → Value) → Act) (fin : (Nat → Stay) → Prop) : List Oper → Nat → (Nat → Stay) → Prop
  | [], _, V => fin V
  | o :: l, k, V => ∃ p : Stay, (∀ (u : Nat → Value) (w : World), Below w0.heap.size w0 w → depsS md V u w o.after.toList →
      if Region.wanted o (yielded ops (fr u).tmps) = true then relOp P o (fr u) w (fun v w' => Below w.heap.size w w' ∧ p.p v w') else p.p undef w) ∧ relWalk P md ops w0 fr fin l (k + 1) (updS V k p)
theorem depsS_congr {V V' : Nat → Stay} {u : Nat → Value} {w : World} {k : Nat} : ∀ l : List Edge, (l.all fun e => !Region.binds md e || decide (e.on < k)) = true → (∀ j, j < k → V j = V' j) → depsV md (fun i => (V i).p) u w l → depsS md V' u w l
  | [], _, _, _ => trivial
  | e :: l, hb, he, h => by
    simp only [List.all_cons, Bool.and_eq_true] at hb
    refine ⟨fun hbd => ?_, depsS_congr l hb.2 he h.2⟩
    have h1 := h.1 hbd
    have h2 : e.on < k := by simpa [hbd] using hb.1
    rw [← he _ h2]
    exact h1
theorem relAll_of {ops : Array Oper} {w0 : World} {fr : (Nat → Value) → Act} {fin : (Nat → Stay) → Prop} : ∀ (l : List Oper) (k : Nat) (V : Nat → Stay), backL md l k = true → relWalk P md ops w0 fr fin l k V →
    ∃ V' : Nat → Stay, (∀ j, j < k → V' j = V j) ∧ relAll P md ops w0 (fun i => (V' i).p) fr l k ∧ fin V'
  | [], _, V, _, h => ⟨V, fun _ _ => rfl, trivial, h⟩
  | o :: l, k, V, hb, h => by
    obtain ⟨p, h1, h2⟩ := h
    simp only [backL, Bool.and_eq_true] at hb
    obtain ⟨V', he, ha, hf⟩ := relAll_of l (k + 1) _ hb.2 h2
    have hE : ∀ j, j < k → V' j = V j := fun j hj => by rw [he j (by omega)]; unfold updS; rw [if_neg (by omega)]
    have hp : V' k = p := by rw [he k (by omega)]; unfold updS; rw [if_pos rfl]
    refine ⟨V', hE, ⟨fun u w hbl hd => ?_, ha⟩, hf⟩
    have h3 := h1 u w hbl (depsS_congr _ hb.1 hE hd)
    show if _ then relOp P o (fr u) w (fun v w' => Below w.heap.size w w' ∧ (V' k).p v w') else (V' k).p undef w
    rw [hp]
    exact h3
/-- what is known at the end -/
def endS (V : Nat → Stay) (u : Nat → Value) (w : World) : Nat → Prop
  | 0 => True
  | k + 1 => endS V u w k ∧ (V k).p (u k) w
theorem endS_get {V : Nat → Stay} {u : Nat → Value} {w : World} : ∀ {n : Nat}, endS V u w n → ∀ i, i < n → (V i).p (u i) w
  | 0, _, i, hi => by omega
  | n + 1, h, i, hi => by
    by_cases e : i = n
    · subst e; exact h.2
    · exact endS_get h.1 i (by omega)
theorem endS_of {V : Nat → Stay} {u : Nat → Value} {w : World} : ∀ n, (∀ j, j < n → (V j).p (u j) w) → endS V u w n
  | 0, _ => trivial
  | n + 1, h => ⟨endS_of n (fun j hj => h j (by omega)), h n (by omega)⟩
/-- **THE THEOREM** -/
theorem wp_region_relw {id : Nat} {Q : Exit → Act → World → Prop} {a : Act} {w : World} {l : List Oper} (n : Nat) (hm : P.follows .mixedOrders = true) (hB : relB .any l n = true) (hL : backL .any (l.take n) 0 = true)
    (h : relWalk P .any l.toArray w (fun u => fillL a (l.take n) u 0) (fun V => ∀ (u : Nat → Value) (w' : World), Below w.heap.size w w' → endS V u w' n → wpList P l.toArray Q (l.drop n) (fillL a (l.take n) u 0) w') (l.take n) 0 (fun _ => Stay.any)) :
    (Code.region id l.toArray true).wp P Q a w := by
  obtain ⟨V, _, hall, hend⟩ := relAll_of _ _ _ hL h
  exact wp_region_rel n (fun i => (V i).p) hm hB (fun i v w w' hb hv => (V i).grow v w w' hb hv) hall (fun u w' hb hv => hend u w' hb (endS_of n hv))
section
variable {ops : Array Oper} {w0 : World} {fr : (Nat → Value) → Act} {fin : (Nat → Stay) → Prop} {o : Oper} {l : List Oper} {k : Nat} {V : Nat → Stay}
/-- one known value -/
theorem rel_is {x : Value}
    (h : ∀ (u : Nat → Value) (w : World), Below w0.heap.size w0 w → depsS md V u w o.after.toList → if Region.wanted o (yielded ops (fr u).tmps) = true then relOp P o (fr u) w (fun v w' => Below w.heap.size w w' ∧ v = x) else undef = x)
    (hl : relWalk P md ops w0 fr fin l (k + 1) (updS V k (Stay.is x))) : relWalk P md ops w0 fr fin (o :: l) k V :=
  ⟨Stay.is x, h, hl⟩
end
end
end Go.Proofs.YtgbhhjdmochhpaaDoor
namespace Go.Proofs.YtgbhhjdmochhpaaDoor
open Go.RowKit

abbrev V := Int × Int × Int
def qt (v : V) : V := (-v.2.1, v.1, v.2.2)
def qn : Nat → V → V
  | 0, v => v
  | n + 1, v => qt (qn n v)
def numT (k : Int) : Int := if k < 0 then 0 else if 24 ≤ k then 0 else k
theorem num_bd (k : Int) : 0 ≤ numT k ∧ numT k ≤ 23 := by unfold numT; split <;> (try split) <;> omega
theorem num_in {k : Int} (h0 : 0 ≤ k) (h1 : k ≤ 23) : numT k = k := by unfold numT; rw [if_neg (by omega), if_neg (by omega)]
/-- within B -/
def InB (B : Int) (v : V) : Prop := -B ≤ v.1 ∧ v.1 ≤ B ∧ -B ≤ v.2.1 ∧ v.2.1 ≤ B ∧ -B ≤ v.2.2 ∧ v.2.2 ≤ B
/- The rotations as matrices: columns. -/
abbrev M := V × V × V
/- WHAT THE FUNCTIONS RETURN -/
instance inB_dec (B : Int) (v : V) : Decidable (InB B v) := by unfold InB; exact inferInstance
def validF (p : V) (k : Int) : Bool := decide (InB 524288 p) && decide (k = numT k)

/- products and determinants -/
/- vectors that are added -/
end Go.Proofs.YtgbhhjdmochhpaaDoor
namespace Go.Proofs.YtgbhhjdmochhpaaDoor
open Go.RowKit

set_option maxHeartbeats 400000 in
theorem number_any (k : Int) (w : World) :
    Calls Tryd.prog 69 #[.int .i64 k] w fun e w' => e = .returned (.int .i64 (numT k)) ∧ w = w' := by
  by_cases h0 : k < 0
  · go_enter Tryd.func69, Tryd.ntmps69
    go_wp2
    go_ret
    exact ⟨by unfold numT; rw [if_pos h0]; rfl, rfl⟩
  · by_cases h1 : 24 ≤ k
    · go_enter Tryd.func69, Tryd.ntmps69
      go_wp2
      go_ret
      exact ⟨by unfold numT; rw [if_neg (by omega), if_pos h1]; rfl, rfl⟩
    · go_enter Tryd.func69, Tryd.ntmps69
      go_wp2
      go_ret
      exact ⟨by unfold numT; rw [if_neg (by omega), if_neg (by omega)]; rfl, rfl⟩

section
variable {n x y z : Int}
end

section
variable (x0 x1 x2 : Value) (w : World)
theorem idx0 : (Instr.index 96 (.agg #[x0, x1, x2]) (.int .i64 0)).run Tryd.prog w = .ok x0 w := by kernel_rfl
theorem idx1 : (Instr.index 96 (.agg #[x0, x1, x2]) (.int .i64 1)).run Tryd.prog w = .ok x1 w := by kernel_rfl
theorem idx2 : (Instr.index 96 (.agg #[x0, x1, x2]) (.int .i64 2)).run Tryd.prog w = .ok x2 w := by kernel_rfl
end
set_option maxHeartbeats 1000000 in
theorem within_yes (a b c l : Int) (w : World) (hl : 0 ≤ l ∧ l ≤ 2199023255552) (h : InB l (a, b, c)) :
    Calls Tryd.prog 68 #[.agg #[.int .i64 a, .int .i64 b, .int .i64 c], .int .i64 l] w fun e w' => e = .returned (.bool true) ∧ Below w.heap.size w w' := by
  obtain ⟨hx0, hx1, hy0, hy1, hz0, hz1⟩ := h
  simp only at hx0 hx1 hy0 hy1 hz0 hz1
  obtain ⟨hl0, hl1⟩ := hl
  have i0 := idx0
  have i1 := idx1
  have i2 := idx2
  go_enter Tryd.func68, Tryd.ntmps68
  go_wp2
  go_rounds 4
  go_returns
  exact ⟨rfl, by go_grown⟩
set_option maxHeartbeats 1000000 in
theorem within_no (a b c l : Int) (w : World) (hl : 0 ≤ l ∧ l ≤ 2199023255552) (h : ¬ InB l (a, b, c)) :
    Calls Tryd.prog 68 #[.agg #[.int .i64 a, .int .i64 b, .int .i64 c], .int .i64 l] w fun e w' => e = .returned (.bool false) ∧ Below w.heap.size w w' := by
  have H : Hid (¬ InB l (a, b, c)) := Lib.hid h
  clear h
  obtain ⟨hl0, hl1⟩ := hl
  have i0 := idx0
  have i1 := idx1
  have i2 := idx2
  go_enter Tryd.func68, Tryd.ntmps68
  go_wp2
  go_rounds 4
  all_goals (first | (exfalso; refine H.out ⟨?_, ?_, ?_, ?_, ?_, ?_⟩ <;> simp <;> omega; done) | (go_returns; exact ⟨rfl, by go_grown⟩))
end Go.Proofs.YtgbhhjdmochhpaaDoor
namespace Go.Proofs.YtgbhhjdmochhpaaDoor
open Go Go.RowKit

section
variable {P : Program} {ops : Array Oper} {md : Region.Mode} {C : World → Prop}

end
end Go.Proofs.YtgbhhjdmochhpaaDoor
namespace Go.Proofs.YtgbhhjdmochhpaaDoor
open Go.RowKit

end Go.Proofs.YtgbhhjdmochhpaaDoor
namespace Go.Proofs.YtgbhhjdmochhpaaDoor
open Go.RowKit

theorem coord_ok : (0 : Int) ≤ 524288 ∧ (524288 : Int) ≤ 2199023255552 := by decide
set_option maxHeartbeats 1000000 in
theorem Valid_yes (a b c k : Int) (w : World) (hp : InB 524288 (a, b, c)) (hk : (k == numT k) = true) :
    Calls Tryd.prog 45 #[.agg #[.int .i64 a, .int .i64 b, .int .i64 c, .int .i64 k]] w fun e w' => e = .returned (.bool true) ∧ Below w.heap.size w w' := by
  have hpc := past_cell
  go_enter Tryd.func45, Tryd.ntmps45
  go_wp2_with fail
  refine wp_region_past (by kernel_rfl) (by kernel_rfl) ?_
  iterate 12 go_big_quiet_step (first | ((go_at_call 68; exact past_of (within_yes _ _ _ _ _ coord_ok hp))) | ((go_at_call 69; exact past_of ((number_any _ _).mono fun _ _ ⟨he, hw⟩ => ⟨he, hw ▸ Below.refl _ _⟩))))
  refine wpQuiet_nil ?_
  intro w1 hw'
  have hb := past_out hw'
  clear hw'
  have hB := below_step (w := w) (by go_grown) hb
  have hz := hb.size
  (try simp only [World.size_alloc] at hz)
  have hz0 : w.heap.size < w1.heap.size := by omega
  obtain ⟨hc, hf⟩ := bcell hb
  clear hb hz
  go_wp2
  go_returns
  exact ⟨rfl, by go_grown⟩
set_option maxHeartbeats 1000000 in
theorem Valid_no2 (a b c k : Int) (w : World) (hp : InB 524288 (a, b, c)) (hk : (k == numT k) = false) :
    Calls Tryd.prog 45 #[.agg #[.int .i64 a, .int .i64 b, .int .i64 c, .int .i64 k]] w fun e w' => e = .returned (.bool false) ∧ Below w.heap.size w w' := by
  have hpc := past_cell
  go_enter Tryd.func45, Tryd.ntmps45
  go_wp2_with fail
  refine wp_region_past (by kernel_rfl) (by kernel_rfl) ?_
  iterate 12 go_big_quiet_step (first | ((go_at_call 68; exact past_of (within_yes _ _ _ _ _ coord_ok hp))) | ((go_at_call 69; exact past_of ((number_any _ _).mono fun _ _ ⟨he, hw⟩ => ⟨he, hw ▸ Below.refl _ _⟩))))
  refine wpQuiet_nil ?_
  intro w1 hw'
  have hb := past_out hw'
  clear hw'
  have hB := below_step (w := w) (by go_grown) hb
  have hz := hb.size
  (try simp only [World.size_alloc] at hz)
  have hz0 : w.heap.size < w1.heap.size := by omega
  obtain ⟨hc, hf⟩ := bcell hb
  clear hb hz
  go_wp2
  go_returns
  exact ⟨rfl, by go_grown⟩
set_option maxHeartbeats 1000000 in
theorem Valid_no1 (a b c k : Int) (w : World) (hp : ¬ InB 524288 (a, b, c)) :
    Calls Tryd.prog 45 #[.agg #[.int .i64 a, .int .i64 b, .int .i64 c, .int .i64 k]] w fun e w' => e = .returned (.bool false) ∧ Below w.heap.size w w' := by
  have hpc := past_cell
  go_enter Tryd.func45, Tryd.ntmps45
  go_wp2_with fail
  refine wp_region_past (by kernel_rfl) (by kernel_rfl) ?_
  iterate 12 go_big_quiet_step (first | ((go_at_call 68; exact past_of (within_no _ _ _ _ _ coord_ok hp))))
  refine wpQuiet_nil ?_
  intro w1 hw'
  have hb := past_out hw'
  clear hw'
  have hB := below_step (w := w) (by go_grown) hb
  have hz := hb.size
  (try simp only [World.size_alloc] at hz)
  have hz0 : w.heap.size < w1.heap.size := by omega
  obtain ⟨hc, hf⟩ := bcell hb
  clear hb hz
  go_wp2
  go_returns
  exact ⟨rfl, by go_grown⟩
set_option maxHeartbeats 1000000 in
theorem Valid_any (a b c k : Int) (w : World)  :
    Calls Tryd.prog 45 #[.agg #[.int .i64 a, .int .i64 b, .int .i64 c, .int .i64 k]] w fun e w' => e = .returned (.bool (validF (a, b, c) k)) ∧ Below w.heap.size w w' := by
  by_cases hp : InB 524288 (a, b, c)
  · by_cases hk : k = numT k
    · rw [show validF (a, b, c) k = true by unfold validF; simp [hp, ← hk]]; exact Valid_yes a b c k w hp (by simpa using hk)
    · rw [show validF (a, b, c) k = false by unfold validF; simp [hk]]; exact Valid_no2 a b c k w hp (by simpa using hk)
  · rw [show validF (a, b, c) k = false by unfold validF; simp [hp]]; exact Valid_no1 a b c k w hp
end Go.Proofs.YtgbhhjdmochhpaaDoor
namespace Go.Proofs.YtgbhhjdmochhpaaDoor
open Go.RowKit
set_option linter.unusedSimpArgs false

set_option maxHeartbeats 1000000 in
theorem rValid_yes (a b c k : Int) (w : World) (hp : InB 524288 (a, b, c)) (hk : 0 ≤ k ∧ k ≤ 23) :
    Calls Tryd.prog 13 #[.agg #[.int .i64 a, .int .i64 b, .int .i64 c, .int .i64 k]] w fun e w' => e = .returned (.bool true) ∧ Below w.heap.size w w' := by
  obtain ⟨hx0, hx1, hy0, hy1, hz0, hz1⟩ := hp
  simp only at hx0 hx1 hy0 hy1 hz0 hz1
  obtain ⟨hk0, hk1⟩ := hk
  go_enter Tryd.func13, Tryd.ntmps13
  go_wp2
  go_returns
  exact ⟨rfl, by go_grown⟩
set_option maxHeartbeats 1000000 in
theorem rValid_no (a b c k : Int) (w : World) (hp : ¬ (InB 524288 (a, b, c) ∧ 0 ≤ k ∧ k ≤ 23)) :
    Calls Tryd.prog 13 #[.agg #[.int .i64 a, .int .i64 b, .int .i64 c, .int .i64 k]] w fun e w' => e = .returned (.bool false) ∧ Below w.heap.size w w' := by
  have H := Lib.hid hp
  clear hp
  go_enter Tryd.func13, Tryd.ntmps13
  go_wp2
  all_goals go_returns
  all_goals refine ⟨?_, by go_grown⟩
  all_goals (first | rfl | (exfalso; exact H.out ⟨⟨by simp; omega, by simp; omega, by simp; omega, by simp; omega, by simp; omega, by simp; omega⟩, by omega, by omega⟩) | (rw [decide_eq_false (fun h => H.out ⟨⟨by simp; omega, by simp; omega, by simp; omega, by simp; omega, by simp; omega, by simp; omega⟩, by omega, by omega⟩)]; rfl))
set_option maxHeartbeats 1000000 in
theorem rValid_any (a b c k : Int) (w : World)  :
    Calls Tryd.prog 13 #[.agg #[.int .i64 a, .int .i64 b, .int .i64 c, .int .i64 k]] w fun e w' => e = .returned (.bool (validF (a, b, c) k)) ∧ Below w.heap.size w w' := by
  by_cases h : InB 524288 (a, b, c) ∧ 0 ≤ k ∧ k ≤ 23
  · rw [show validF (a, b, c) k = true by unfold validF; simp [h.1, num_in h.2.1 h.2.2]]; exact rValid_yes a b c k w h.1 h.2
  · rw [show validF (a, b, c) k = false by
      unfold validF
      rw [Bool.and_eq_false_iff]
      by_cases hp : InB 524288 (a, b, c)
      · exact .inr (decide_eq_false fun hk => h ⟨hp, by have := num_bd k; omega⟩)
      · exact .inl (decide_eq_false hp)]
    exact rValid_no a b c k w h
end Go.Proofs.YtgbhhjdmochhpaaDoor
namespace Go.Proofs.YtgbhhjdmochhpaaDoor
open Go.RowKit
set_option linter.unusedSimpArgs false

def mx (x y : Int) : Int := if y > x then y else x
def mn (x y : Int) : Int := if y < x then y else x
theorem run_mx (ts : Array TypeId) (t : TypeId) (x y : Int) (w : World) : (Builtin.max_ ts t #[.int .i64 x, .int .i64 y]).run Tryd.prog w = .ok (.int .i64 (mx x y)) w := by
  simp [go_sem, mx]
theorem run_mn (ts : Array TypeId) (t : TypeId) (x y : Int) (w : World) : (Builtin.min_ ts t #[.int .i64 x, .int .i64 y]).run Tryd.prog w = .ok (.int .i64 (mn x y)) w := by
  simp [go_sem, mn]
end Go.Proofs.YtgbhhjdmochhpaaDoor
namespace Go.Proofs.YtgbhhjdmochhpaaDoor
open Go Go.ChangeShapes Go.WideShapes Go.RowKit Go.ChangeAt
set_option linter.unusedVariables false
set_option linter.unusedSimpArgs false

/-- coordinates of plates -/
def Nr (p : Pt) : Prop := (-65536 ≤ p.1 ∧ p.1 ≤ 65536) ∧ -65536 ≤ p.2 ∧ p.2 ≤ 65536
def sgI (n : Int) : Int := if n < 0 then -1 else if 0 < n then 1 else 0
theorem prod_bd {x y : Int} (hx : -131072 ≤ x ∧ x ≤ 131072) (hy : -131072 ≤ y ∧ y ≤ 131072) : -17179869184 ≤ x * y ∧ x * y ≤ 17179869184 := by
  have h1 := Int.mul_nonneg (show 0 ≤ 131072 - x by omega) (show 0 ≤ 131072 - y by omega)
  have h2 := Int.mul_nonneg (show 0 ≤ 131072 + x by omega) (show 0 ≤ 131072 + y by omega)
  have h3 := Int.mul_nonneg (show 0 ≤ 131072 - x by omega) (show 0 ≤ 131072 + y by omega)
  have h4 := Int.mul_nonneg (show 0 ≤ 131072 + x by omega) (show 0 ≤ 131072 - y by omega)
  have e1 : (131072 - x) * (131072 - y) = 17179869184 - 131072 * x - 131072 * y + x * y := by grind
  have e2 : (131072 + x) * (131072 + y) = 17179869184 + 131072 * x + 131072 * y + x * y := by grind
  have e3 : (131072 - x) * (131072 + y) = 17179869184 - 131072 * x + 131072 * y - x * y := by grind
  have e4 : (131072 + x) * (131072 - y) = 17179869184 + 131072 * x - 131072 * y - x * y := by grind
  omega
theorem crs12_any (a1 a2 b1 b2 c1 c2 : Int) (w : World) (ha : Nr (a1, a2)) (hb : Nr (b1, b2)) (hc : Nr (c1, c2)) : Calls Tryd.prog 58 #[.agg #[.int .i64 a1, .int .i64 a2], .agg #[.int .i64 b1, .int .i64 b2], .agg #[.int .i64 c1, .int .i64 c2]] w fun e w' => e = .returned (.int .i64 (crs (a1, a2) (b1, b2) (c1, c2))) ∧ Below w.heap.size w w' := by
  obtain ⟨C, hC⟩ : ∃ c, crs (a1, a2) (b1, b2) (c1, c2) = c := ⟨_, rfl⟩
  have hC2 : (b1 - a1) * (c2 - a2) - (b2 - a2) * (c1 - a1) = C := hC
  unfold Nr at ha hb hc
  dsimp only at ha hb hc
  obtain ⟨p, hp⟩ : ∃ e, b1 - a1 = e := ⟨_, rfl⟩
  obtain ⟨q, hq⟩ : ∃ e, c2 - a2 = e := ⟨_, rfl⟩
  obtain ⟨r, hr⟩ : ∃ e, b2 - a2 = e := ⟨_, rfl⟩
  obtain ⟨s, hs⟩ : ∃ e, c1 - a1 = e := ⟨_, rfl⟩
  have u1 : IntKind.i64.wrap (b1 - a1) = p := by rw [hp]; exact IntWalk.i64_in _ (by omega)
  have u2 : IntKind.i64.wrap (c2 - a2) = q := by rw [hq]; exact IntWalk.i64_in _ (by omega)
  have u3 : IntKind.i64.wrap (b2 - a2) = r := by rw [hr]; exact IntWalk.i64_in _ (by omega)
  have u4 : IntKind.i64.wrap (c1 - a1) = s := by rw [hs]; exact IntWalk.i64_in _ (by omega)
  have g1 := prod_bd (x := p) (y := q) (by omega) (by omega)
  have g2 := prod_bd (x := r) (y := s) (by omega) (by omega)
  rw [hp, hq, hr, hs] at hC2
  obtain ⟨m, hm⟩ : ∃ e, p * q = e := ⟨_, rfl⟩
  obtain ⟨o, ho⟩ : ∃ e, r * s = e := ⟨_, rfl⟩
  rw [hm] at g1 hC2
  rw [ho] at g2 hC2
  have u5 : IntKind.i64.wrap (p * q) = m := by rw [hm]; exact IntWalk.i64_in _ (by omega)
  have u6 : IntKind.i64.wrap (r * s) = o := by rw [ho]; exact IntWalk.i64_in _ (by omega)
  have u7 : IntKind.i64.wrap (m - o) = C := by rw [hC2]; exact IntWalk.i64_in _ (by omega)
  rw [hC]
  clear hC hC2 hp hq hr hs hm ho g1 g2 ha hb hc
  go_enter Tryd.func58, Tryd.ntmps58
  go_wp2
  go_returns
  exact ⟨rfl, by go_grown⟩
theorem crsP_any (a1 a2 b1 b2 c1 c2 : Int) (w : World) (ha : Nr (a1, a2)) (hb : Nr (b1, b2)) (hc : Nr (c1, c2)) : Calls Tryd.prog 73 #[.agg #[.int .i64 a1, .int .i64 a2], .agg #[.int .i64 b1, .int .i64 b2], .agg #[.int .i64 c1, .int .i64 c2]] w fun e w' => e = .returned (.int .i64 (crs (a1, a2) (b1, b2) (c1, c2))) ∧ Below w.heap.size w w' := by
  obtain ⟨C, hC⟩ : ∃ c, crs (a1, a2) (b1, b2) (c1, c2) = c := ⟨_, rfl⟩
  have hC2 : (b1 - a1) * (c2 - a2) - (b2 - a2) * (c1 - a1) = C := hC
  unfold Nr at ha hb hc
  dsimp only at ha hb hc
  obtain ⟨p, hp⟩ : ∃ e, b1 - a1 = e := ⟨_, rfl⟩
  obtain ⟨q, hq⟩ : ∃ e, c2 - a2 = e := ⟨_, rfl⟩
  obtain ⟨r, hr⟩ : ∃ e, b2 - a2 = e := ⟨_, rfl⟩
  obtain ⟨s, hs⟩ : ∃ e, c1 - a1 = e := ⟨_, rfl⟩
  have u1 : IntKind.i64.wrap (b1 - a1) = p := by rw [hp]; exact IntWalk.i64_in _ (by omega)
  have u2 : IntKind.i64.wrap (c2 - a2) = q := by rw [hq]; exact IntWalk.i64_in _ (by omega)
  have u3 : IntKind.i64.wrap (b2 - a2) = r := by rw [hr]; exact IntWalk.i64_in _ (by omega)
  have u4 : IntKind.i64.wrap (c1 - a1) = s := by rw [hs]; exact IntWalk.i64_in _ (by omega)
  have g1 := prod_bd (x := p) (y := q) (by omega) (by omega)
  have g2 := prod_bd (x := r) (y := s) (by omega) (by omega)
  rw [hp, hq, hr, hs] at hC2
  obtain ⟨m, hm⟩ : ∃ e, p * q = e := ⟨_, rfl⟩
  obtain ⟨o, ho⟩ : ∃ e, r * s = e := ⟨_, rfl⟩
  rw [hm] at g1 hC2
  rw [ho] at g2 hC2
  have u5 : IntKind.i64.wrap (p * q) = m := by rw [hm]; exact IntWalk.i64_in _ (by omega)
  have u6 : IntKind.i64.wrap (r * s) = o := by rw [ho]; exact IntWalk.i64_in _ (by omega)
  have u7 : IntKind.i64.wrap (m - o) = C := by rw [hC2]; exact IntWalk.i64_in _ (by omega)
  rw [hC]
  clear hC hC2 hp hq hr hs hm ho g1 g2 ha hb hc
  go_enter Tryd.func73, Tryd.ntmps73
  go_wp2
  go_returns
  exact ⟨rfl, by go_grown⟩
theorem crsG_any (a1 a2 b1 b2 c1 c2 : Int) (w : World) (ha : Nr (a1, a2)) (hb : Nr (b1, b2)) (hc : Nr (c1, c2)) : Calls Tryd.prog 76 #[.agg #[.int .i64 a1, .int .i64 a2], .agg #[.int .i64 b1, .int .i64 b2], .agg #[.int .i64 c1, .int .i64 c2]] w fun e w' => e = .returned (.int .i64 (crs (a1, a2) (b1, b2) (c1, c2))) ∧ Below w.heap.size w w' := by
  obtain ⟨C, hC⟩ : ∃ c, crs (a1, a2) (b1, b2) (c1, c2) = c := ⟨_, rfl⟩
  have hC2 : (b1 - a1) * (c2 - a2) - (b2 - a2) * (c1 - a1) = C := hC
  unfold Nr at ha hb hc
  dsimp only at ha hb hc
  obtain ⟨p, hp⟩ : ∃ e, b1 - a1 = e := ⟨_, rfl⟩
  obtain ⟨q, hq⟩ : ∃ e, c2 - a2 = e := ⟨_, rfl⟩
  obtain ⟨r, hr⟩ : ∃ e, b2 - a2 = e := ⟨_, rfl⟩
  obtain ⟨s, hs⟩ : ∃ e, c1 - a1 = e := ⟨_, rfl⟩
  have u1 : IntKind.i64.wrap (b1 - a1) = p := by rw [hp]; exact IntWalk.i64_in _ (by omega)
  have u2 : IntKind.i64.wrap (c2 - a2) = q := by rw [hq]; exact IntWalk.i64_in _ (by omega)
  have u3 : IntKind.i64.wrap (b2 - a2) = r := by rw [hr]; exact IntWalk.i64_in _ (by omega)
  have u4 : IntKind.i64.wrap (c1 - a1) = s := by rw [hs]; exact IntWalk.i64_in _ (by omega)
  have g1 := prod_bd (x := p) (y := q) (by omega) (by omega)
  have g2 := prod_bd (x := r) (y := s) (by omega) (by omega)
  rw [hp, hq, hr, hs] at hC2
  obtain ⟨m, hm⟩ : ∃ e, p * q = e := ⟨_, rfl⟩
  obtain ⟨o, ho⟩ : ∃ e, r * s = e := ⟨_, rfl⟩
  rw [hm] at g1 hC2
  rw [ho] at g2 hC2
  have u5 : IntKind.i64.wrap (p * q) = m := by rw [hm]; exact IntWalk.i64_in _ (by omega)
  have u6 : IntKind.i64.wrap (r * s) = o := by rw [ho]; exact IntWalk.i64_in _ (by omega)
  have u7 : IntKind.i64.wrap (m - o) = C := by rw [hC2]; exact IntWalk.i64_in _ (by omega)
  rw [hC]
  clear hC hC2 hp hq hr hs hm ho g1 g2 ha hb hc
  go_enter Tryd.func76, Tryd.ntmps76
  go_wp2
  go_returns
  exact ⟨rfl, by go_grown⟩
theorem turn13_any (a1 a2 b1 b2 c1 c2 : Int) (w : World) (ha : Nr (a1, a2)) (hb : Nr (b1, b2)) (hc : Nr (c1, c2)) : Calls Tryd.prog 72 #[.agg #[.int .i64 a1, .int .i64 a2], .agg #[.int .i64 b1, .int .i64 b2], .agg #[.int .i64 c1, .int .i64 c2]] w fun e w' => e = .returned (.int .i64 (sgI (crs (a1, a2) (b1, b2) (c1, c2)))) ∧ Below w.heap.size w w' := by
  obtain ⟨C, hC⟩ : ∃ c, crs (a1, a2) (b1, b2) (c1, c2) = c := ⟨_, rfl⟩
  have hC2 : (b1 - a1) * (c2 - a2) - (b2 - a2) * (c1 - a1) = C := hC
  unfold Nr at ha hb hc
  dsimp only at ha hb hc
  obtain ⟨p, hp⟩ : ∃ e, b1 - a1 = e := ⟨_, rfl⟩
  obtain ⟨q, hq⟩ : ∃ e, c2 - a2 = e := ⟨_, rfl⟩
  obtain ⟨r, hr⟩ : ∃ e, b2 - a2 = e := ⟨_, rfl⟩
  obtain ⟨s, hs⟩ : ∃ e, c1 - a1 = e := ⟨_, rfl⟩
  have u1 : IntKind.i64.wrap (b1 - a1) = p := by rw [hp]; exact IntWalk.i64_in _ (by omega)
  have u2 : IntKind.i64.wrap (c2 - a2) = q := by rw [hq]; exact IntWalk.i64_in _ (by omega)
  have u3 : IntKind.i64.wrap (b2 - a2) = r := by rw [hr]; exact IntWalk.i64_in _ (by omega)
  have u4 : IntKind.i64.wrap (c1 - a1) = s := by rw [hs]; exact IntWalk.i64_in _ (by omega)
  have g1 := prod_bd (x := p) (y := q) (by omega) (by omega)
  have g2 := prod_bd (x := r) (y := s) (by omega) (by omega)
  rw [hp, hq, hr, hs] at hC2
  obtain ⟨m, hm⟩ : ∃ e, p * q = e := ⟨_, rfl⟩
  obtain ⟨o, ho⟩ : ∃ e, r * s = e := ⟨_, rfl⟩
  rw [hm] at g1 hC2
  rw [ho] at g2 hC2
  have u5 : IntKind.i64.wrap (p * q) = m := by rw [hm]; exact IntWalk.i64_in _ (by omega)
  have u6 : IntKind.i64.wrap (r * s) = o := by rw [ho]; exact IntWalk.i64_in _ (by omega)
  have u7 : IntKind.i64.wrap (m - o) = C := by rw [hC2]; exact IntWalk.i64_in _ (by omega)
  rw [hC]
  clear hC hC2 hp hq hr hs hm ho g1 g2 ha hb hc
  by_cases h1 : 0 < C
  · have e : sgI C = 1 := by unfold sgI; rw [if_neg (by omega), if_pos h1]
    rw [e]
    clear e
    go_enter Tryd.func72, Tryd.ntmps72
    go_wp2
    go_returns
    exact ⟨rfl, by go_grown⟩
  · by_cases h2 : C < 0
    · have e : sgI C = -1 := by unfold sgI; rw [if_pos h2]
      rw [e]
      clear e
      go_enter Tryd.func72, Tryd.ntmps72
      go_wp2
      go_returns
      exact ⟨rfl, by go_grown⟩
    · have e : sgI C = 0 := by unfold sgI; rw [if_neg h2, if_neg h1]
      rw [e]
      clear e
      go_enter Tryd.func72, Tryd.ntmps72
      go_wp2
      go_returns
      exact ⟨rfl, by go_grown⟩
theorem sign12_any (n : Int) (w : World) : Calls Tryd.prog 82 #[.int .i64 n] w fun e w' => e = .returned (.int .i64 (sgI n)) ∧ Below w.heap.size w w' := by
  rcases (by omega : n < 0 ∨ n = 0 ∨ 0 < n) with h | h | h
  · have e : sgI n = -1 := by unfold sgI; first | rw [if_pos (by omega)] | rw [if_neg (by omega), if_pos (by omega)] | rw [if_neg (by omega), if_neg (by omega)]
    rw [e]
    clear e
    go_enter Tryd.func82, Tryd.ntmps82
    go_wp2
    all_goals (first | omega | (go_returns; exact ⟨rfl, by go_grown⟩))
  · subst h
    have e : sgI 0 = 0 := by unfold sgI; first | rw [if_pos (by omega)] | rw [if_neg (by omega), if_pos (by omega)] | rw [if_neg (by omega), if_neg (by omega)]
    rw [e]
    clear e
    go_enter Tryd.func82, Tryd.ntmps82
    go_wp2
    all_goals (first | omega | (go_returns; exact ⟨rfl, by go_grown⟩))
  · have e : sgI n = 1 := by unfold sgI; first | rw [if_pos (by omega)] | rw [if_neg (by omega), if_pos (by omega)] | rw [if_neg (by omega), if_neg (by omega)]
    rw [e]
    clear e
    go_enter Tryd.func82, Tryd.ntmps82
    go_wp2
    all_goals (first | omega | (go_returns; exact ⟨rfl, by go_grown⟩))
theorem mnx (n : Int) : mn (mx n (-1)) 1 = sgI n := by
  unfold mn mx sgI
  split <;> split <;> (try split) <;> omega
theorem signG_any (n : Int) (w : World) : Calls Tryd.prog 75 #[.int .i64 n] w fun e w' => e = .returned (.int .i64 (sgI n)) ∧ Below w.heap.size w w' := by
  have q1 := run_mx
  have q2 := run_mn
  rw [← mnx]
  go_enter Tryd.func75, Tryd.ntmps75
  go_wp2
  go_returns
  exact ⟨rfl, by go_grown⟩
end Go.Proofs.YtgbhhjdmochhpaaDoor
namespace Go.Proofs.YtgbhhjdmochhpaaDoor
open Go Go.ChangeShapes Go.WideShapes Go.RowKit Go.ChangeAt
set_option linter.unusedVariables false
set_option linter.unusedSimpArgs false

theorem mn_le {x y q : Int} : mn x y ≤ q ↔ x ≤ q ∨ y ≤ q := by unfold mn; split <;> omega
theorem le_mx {x y q : Int} : q ≤ mx x y ↔ q ≤ x ∨ q ≤ y := by unfold mx; split <;> omega
theorem bt_mm {a b q : Int} : bt a b q ↔ mn a b ≤ q ∧ q ≤ mx a b := by unfold bt; rw [mn_le, le_mx]; omega
def inB2 (a b q : Pt) : Bool := decide (mn a.1 b.1 ≤ q.1 ∧ q.1 ≤ mx a.1 b.1 ∧ mn a.2 b.2 ≤ q.2 ∧ q.2 ≤ mx a.2 b.2)
theorem onS_dec {a b q : Pt} : decide (onS a b q) = (decide (crs a b q = 0) && inB2 a b q) := by
  have e : onS a b q ↔ (crs a b q = 0 ∧ mn a.1 b.1 ≤ q.1 ∧ q.1 ≤ mx a.1 b.1 ∧ mn a.2 b.2 ≤ q.2 ∧ q.2 ≤ mx a.2 b.2) := by
    unfold onS
    rw [bt_mm, bt_mm, and_assoc]
  unfold inB2
  rw [decide_eq_decide.2 e, Bool.decide_and]
set_option maxHeartbeats 2000000 in
theorem withinP_any (a1 a2 b1 b2 q1 q2 : Int) (w : World) : Calls Tryd.prog 84 #[.agg #[.int .i64 a1, .int .i64 a2], .agg #[.int .i64 b1, .int .i64 b2], .agg #[.int .i64 q1, .int .i64 q2]] w fun e w' => e = .returned (.bool (inB2 (a1, a2) (b1, b2) (q1, q2))) ∧ Below w.heap.size w w' := by
  obtain ⟨R, hR⟩ : ∃ R, inB2 (a1, a2) (b1, b2) (q1, q2) = R := ⟨_, rfl⟩
  have hR0 := hR
  unfold inB2 at hR
  dsimp only at hR
  have qm := run_mn
  have qx := run_mx
  obtain ⟨x1, hx1⟩ : ∃ e, mn a1 b1 = e := ⟨_, rfl⟩
  obtain ⟨y1, hy1⟩ : ∃ e, mx a1 b1 = e := ⟨_, rfl⟩
  obtain ⟨x2, hx2⟩ : ∃ e, mn a2 b2 = e := ⟨_, rfl⟩
  obtain ⟨y2, hy2⟩ : ∃ e, mx a2 b2 = e := ⟨_, rfl⟩
  have r1 : ∀ ts t w, (Builtin.min_ ts t #[.int .i64 a1, .int .i64 b1]).run Tryd.prog w = .ok (.int .i64 x1) w := fun ts t w => by rw [← hx1]; exact qm ts t a1 b1 w
  have r2 : ∀ ts t w, (Builtin.max_ ts t #[.int .i64 a1, .int .i64 b1]).run Tryd.prog w = .ok (.int .i64 y1) w := fun ts t w => by rw [← hy1]; exact qx ts t a1 b1 w
  have r3 : ∀ ts t w, (Builtin.min_ ts t #[.int .i64 a2, .int .i64 b2]).run Tryd.prog w = .ok (.int .i64 x2) w := fun ts t w => by rw [← hx2]; exact qm ts t a2 b2 w
  have r4 : ∀ ts t w, (Builtin.max_ ts t #[.int .i64 a2, .int .i64 b2]).run Tryd.prog w = .ok (.int .i64 y2) w := fun ts t w => by rw [← hy2]; exact qx ts t a2 b2 w
  rw [hx1, hy1, hx2, hy2] at hR
  clear qm qx hx1 hy1 hx2 hy2
  rw [hR0]
  clear hR0
  by_cases h4 : x1 ≤ q1
  · have k4 : decide (x1 ≤ q1) = true := decide_eq_true h4
    by_cases h3 : q1 ≤ y1
    · have k3 : decide (q1 ≤ y1) = true := decide_eq_true h3
      by_cases h2 : x2 ≤ q2
      · have k2 : decide (x2 ≤ q2) = true := decide_eq_true h2
        by_cases h1 : q2 ≤ y2
        · have k1 : decide (q2 ≤ y2) = true := decide_eq_true h1
          have e : R = true := by rw [← hR]; simp [*]
          subst e
          clear hR
          go_enter Tryd.func84, Tryd.ntmps84
          go_wp2
          go_returns
          exact ⟨rfl, by go_grown⟩
        · have e : R = false := by rw [← hR]; apply decide_eq_false; omega
          subst e
          have k1 : decide (q2 ≤ y2) = false := decide_eq_false h1
          clear hR h1
          go_enter Tryd.func84, Tryd.ntmps84
          go_wp2
          go_returns
          exact ⟨rfl, by go_grown⟩
      · have e : R = false := by rw [← hR]; apply decide_eq_false; omega
        subst e
        have k2 : decide (x2 ≤ q2) = false := decide_eq_false h2
        clear hR h2
        go_enter Tryd.func84, Tryd.ntmps84
        go_wp2
        go_returns
        exact ⟨rfl, by go_grown⟩
    · have e : R = false := by rw [← hR]; apply decide_eq_false; omega
      subst e
      have k3 : decide (q1 ≤ y1) = false := decide_eq_false h3
      clear hR h3
      go_enter Tryd.func84, Tryd.ntmps84
      go_wp2
      go_returns
      exact ⟨rfl, by go_grown⟩
  · have e : R = false := by rw [← hR]; apply decide_eq_false; omega
    subst e
    have k4 : decide (x1 ≤ q1) = false := decide_eq_false h4
    clear hR h4
    go_enter Tryd.func84, Tryd.ntmps84
    go_wp2
    go_returns
    exact ⟨rfl, by go_grown⟩
set_option maxHeartbeats 2000000 in
theorem onG_any (a1 a2 b1 b2 q1 q2 : Int) (w : World) : Calls Tryd.prog 77 #[.agg #[.int .i64 a1, .int .i64 a2], .agg #[.int .i64 b1, .int .i64 b2], .agg #[.int .i64 q1, .int .i64 q2]] w fun e w' => e = .returned (.bool (inB2 (a1, a2) (b1, b2) (q1, q2))) ∧ Below w.heap.size w w' := by
  obtain ⟨R, hR⟩ : ∃ R, inB2 (a1, a2) (b1, b2) (q1, q2) = R := ⟨_, rfl⟩
  have hR0 := hR
  unfold inB2 at hR
  dsimp only at hR
  have qm := run_mn
  have qx := run_mx
  obtain ⟨x1, hx1⟩ : ∃ e, mn a1 b1 = e := ⟨_, rfl⟩
  obtain ⟨y1, hy1⟩ : ∃ e, mx a1 b1 = e := ⟨_, rfl⟩
  obtain ⟨x2, hx2⟩ : ∃ e, mn a2 b2 = e := ⟨_, rfl⟩
  obtain ⟨y2, hy2⟩ : ∃ e, mx a2 b2 = e := ⟨_, rfl⟩
  have r1 : ∀ ts t w, (Builtin.min_ ts t #[.int .i64 a1, .int .i64 b1]).run Tryd.prog w = .ok (.int .i64 x1) w := fun ts t w => by rw [← hx1]; exact qm ts t a1 b1 w
  have r2 : ∀ ts t w, (Builtin.max_ ts t #[.int .i64 a1, .int .i64 b1]).run Tryd.prog w = .ok (.int .i64 y1) w := fun ts t w => by rw [← hy1]; exact qx ts t a1 b1 w
  have r3 : ∀ ts t w, (Builtin.min_ ts t #[.int .i64 a2, .int .i64 b2]).run Tryd.prog w = .ok (.int .i64 x2) w := fun ts t w => by rw [← hx2]; exact qm ts t a2 b2 w
  have r4 : ∀ ts t w, (Builtin.max_ ts t #[.int .i64 a2, .int .i64 b2]).run Tryd.prog w = .ok (.int .i64 y2) w := fun ts t w => by rw [← hy2]; exact qx ts t a2 b2 w
  rw [hx1, hy1, hx2, hy2] at hR
  clear qm qx hx1 hy1 hx2 hy2
  rw [hR0]
  clear hR0
  by_cases h4 : x1 ≤ q1
  · have k4 : decide (x1 ≤ q1) = true := decide_eq_true h4
    by_cases h3 : q1 ≤ y1
    · have k3 : decide (q1 ≤ y1) = true := decide_eq_true h3
      by_cases h2 : x2 ≤ q2
      · have k2 : decide (x2 ≤ q2) = true := decide_eq_true h2
        by_cases h1 : q2 ≤ y2
        · have k1 : decide (q2 ≤ y2) = true := decide_eq_true h1
          have e : R = true := by rw [← hR]; simp [*]
          subst e
          clear hR
          go_enter Tryd.func77, Tryd.ntmps77
          go_wp2
          go_returns
          exact ⟨rfl, by go_grown⟩
        · have e : R = false := by rw [← hR]; apply decide_eq_false; omega
          subst e
          have k1 : decide (q2 ≤ y2) = false := decide_eq_false h1
          clear hR h1
          go_enter Tryd.func77, Tryd.ntmps77
          go_wp2
          go_returns
          exact ⟨rfl, by go_grown⟩
      · have e : R = false := by rw [← hR]; apply decide_eq_false; omega
        subst e
        have k2 : decide (x2 ≤ q2) = false := decide_eq_false h2
        clear hR h2
        go_enter Tryd.func77, Tryd.ntmps77
        go_wp2
        go_returns
        exact ⟨rfl, by go_grown⟩
    · have e : R = false := by rw [← hR]; apply decide_eq_false; omega
      subst e
      have k3 : decide (q1 ≤ y1) = false := decide_eq_false h3
      clear hR h3
      go_enter Tryd.func77, Tryd.ntmps77
      go_wp2
      go_returns
      exact ⟨rfl, by go_grown⟩
  · have e : R = false := by rw [← hR]; apply decide_eq_false; omega
    subst e
    have k4 : decide (x1 ≤ q1) = false := decide_eq_false h4
    clear hR h4
    go_enter Tryd.func77, Tryd.ntmps77
    go_wp2
    go_returns
    exact ⟨rfl, by go_grown⟩
end Go.Proofs.YtgbhhjdmochhpaaDoor
namespace Go.Proofs.YtgbhhjdmochhpaaDoor
open Go Go.ChangeShapes Go.WideShapes Go.RowKit Go.ChangeAt
set_option linter.unusedVariables false
set_option linter.unusedSimpArgs false
set_option maxHeartbeats 2000000 in
theorem onP_any (a1 a2 b1 b2 q1 q2 : Int) (w : World) (ha : Nr (a1, a2)) (hb : Nr (b1, b2)) (hq : Nr (q1, q2)) : Calls Tryd.prog 78 #[.agg #[.int .i64 a1, .int .i64 a2], .agg #[.int .i64 b1, .int .i64 b2], .agg #[.int .i64 q1, .int .i64 q2]] w fun e w' => e = .returned (.bool (decide (onS (a1, a2) (b1, b2) (q1, q2)))) ∧ Below w.heap.size w w' := by
  rw [onS_dec]
  obtain ⟨C, hC⟩ : ∃ e, crs (a1, a2) (b1, b2) (q1, q2) = e := ⟨_, rfl⟩
  have HC : ∀ W, Calls Tryd.prog 73 #[.agg #[.int .i64 a1, .int .i64 a2], .agg #[.int .i64 b1, .int .i64 b2], .agg #[.int .i64 q1, .int .i64 q2]] W (fun e w' => e = .returned (.int .i64 C) ∧ Below W.heap.size W w') := fun W => by rw [← hC]; exact crsP_any a1 a2 b1 b2 q1 q2 W ha hb hq
  rw [hC]
  clear hC ha hb hq
  replace HC := Lib.hid HC
  by_cases h0 : C = 0
  · subst h0
    rw [decide_eq_true rfl, Bool.true_and]
    obtain ⟨R, hR⟩ : ∃ R, inB2 (a1, a2) (b1, b2) (q1, q2) = R := ⟨_, rfl⟩
    have HW : ∀ W, Calls Tryd.prog 84 #[.agg #[.int .i64 a1, .int .i64 a2], .agg #[.int .i64 b1, .int .i64 b2], .agg #[.int .i64 q1, .int .i64 q2]] W (fun e w' => e = .returned (.bool R) ∧ Below W.heap.size W w') := fun W => by rw [← hR]; exact withinP_any a1 a2 b1 b2 q1 q2 W
    rw [hR]
    clear hR
    replace HW := Lib.hid HW
    go_enter Tryd.func78, Tryd.ntmps78
    go_wp2_with fail
    (go_at_call 73; refine (HC.out _).mono ?_; rintro e_ w1 ⟨rfl, hb1⟩)
    obtain ⟨hc1, hf1⟩ := bcell hb1
    have HB1 := Lib.hid (below_step (w := w) (by first | assumption | go_grown) hb1)
    go_wp2_with fail
    (go_at_call 84; refine (HW.out _).mono ?_; rintro e_ w2 ⟨rfl, hb2⟩)
    obtain ⟨hc2, hf2⟩ := bcell hb2
    have HB2 := Lib.hid (below_step (w := w) (by first | assumption | go_grown) hb2)
    go_wp2
    go_returns
    exact ⟨rfl, by first | exact HB2.out | go_grown⟩
  · have k0 : (C == 0) = false := by simp [h0]
    rw [decide_eq_false h0, Bool.false_and]
    go_enter Tryd.func78, Tryd.ntmps78
    go_wp2_with fail
    (go_at_call 73; refine (HC.out _).mono ?_; rintro e_ w1 ⟨rfl, hb1⟩)
    obtain ⟨hc1, hf1⟩ := bcell hb1
    have HB1 := Lib.hid (below_step (w := w) (by first | assumption | go_grown) hb1)
    go_wp2
    go_returns
    exact ⟨rfl, by first | exact HB1.out | go_grown⟩
set_option maxHeartbeats 2000000 in
theorem on12_any (a1 a2 b1 b2 q1 q2 : Int) (w : World) (ha : Nr (a1, a2)) (hb : Nr (b1, b2)) (hq : Nr (q1, q2)) : Calls Tryd.prog 57 #[.agg #[.int .i64 q1, .int .i64 q2], .agg #[.int .i64 a1, .int .i64 a2], .agg #[.int .i64 b1, .int .i64 b2]] w fun e w' => e = .returned (.bool (decide (onS (a1, a2) (b1, b2) (q1, q2)))) ∧ Below w.heap.size w w' := by
  rw [onS_dec]
  obtain ⟨C, hC⟩ : ∃ e, crs (a1, a2) (b1, b2) (q1, q2) = e := ⟨_, rfl⟩
  have HC : ∀ W, Calls Tryd.prog 58 #[.agg #[.int .i64 a1, .int .i64 a2], .agg #[.int .i64 b1, .int .i64 b2], .agg #[.int .i64 q1, .int .i64 q2]] W (fun e w' => e = .returned (.int .i64 C) ∧ Below W.heap.size W w') := fun W => by rw [← hC]; exact crs12_any a1 a2 b1 b2 q1 q2 W ha hb hq
  rw [hC]
  clear hC ha hb hq
  replace HC := Lib.hid HC
  by_cases h0 : C = 0
  · subst h0
    rw [decide_eq_true rfl, Bool.true_and]
    obtain ⟨R, hR⟩ : ∃ R, inB2 (a1, a2) (b1, b2) (q1, q2) = R := ⟨_, rfl⟩
    have hR0 := hR
    unfold inB2 at hR
    dsimp only at hR
    have qm := run_mn
    have qx := run_mx
    obtain ⟨x1, hx1⟩ : ∃ e, mn a1 b1 = e := ⟨_, rfl⟩
    obtain ⟨y1, hy1⟩ : ∃ e, mx a1 b1 = e := ⟨_, rfl⟩
    obtain ⟨x2, hx2⟩ : ∃ e, mn a2 b2 = e := ⟨_, rfl⟩
    obtain ⟨y2, hy2⟩ : ∃ e, mx a2 b2 = e := ⟨_, rfl⟩
    have r1 : ∀ ts t w, (Builtin.min_ ts t #[.int .i64 a1, .int .i64 b1]).run Tryd.prog w = .ok (.int .i64 x1) w := fun ts t w => by rw [← hx1]; exact qm ts t a1 b1 w
    have r2 : ∀ ts t w, (Builtin.max_ ts t #[.int .i64 a1, .int .i64 b1]).run Tryd.prog w = .ok (.int .i64 y1) w := fun ts t w => by rw [← hy1]; exact qx ts t a1 b1 w
    have r3 : ∀ ts t w, (Builtin.min_ ts t #[.int .i64 a2, .int .i64 b2]).run Tryd.prog w = .ok (.int .i64 x2) w := fun ts t w => by rw [← hx2]; exact qm ts t a2 b2 w
    have r4 : ∀ ts t w, (Builtin.max_ ts t #[.int .i64 a2, .int .i64 b2]).run Tryd.prog w = .ok (.int .i64 y2) w := fun ts t w => by rw [← hy2]; exact qx ts t a2 b2 w
    rw [hx1, hy1, hx2, hy2] at hR
    clear qm qx hx1 hy1 hx2 hy2
    rw [hR0]
    clear hR0
    by_cases h4 : x1 ≤ q1
    · have k4 : decide (x1 ≤ q1) = true := decide_eq_true h4
      by_cases h3 : q1 ≤ y1
      · have k3 : decide (q1 ≤ y1) = true := decide_eq_true h3
        by_cases h2 : x2 ≤ q2
        · have k2 : decide (x2 ≤ q2) = true := decide_eq_true h2
          by_cases h1 : q2 ≤ y2
          · have k1 : decide (q2 ≤ y2) = true := decide_eq_true h1
            have e : R = true := by rw [← hR]; simp [*]
            subst e
            clear hR
            go_enter Tryd.func57, Tryd.ntmps57
            go_wp2_with fail
            (go_at_call 58; refine (HC.out _).mono ?_; rintro e_ w1 ⟨rfl, hb1⟩)
            obtain ⟨hc1, hf1⟩ := bcell hb1
            have HB1 := Lib.hid (below_step (w := w) (by first | assumption | go_grown) hb1)
            go_wp2
            go_returns
            exact ⟨rfl, by first | exact HB1.out | go_grown⟩
          · have e : R = false := by rw [← hR]; apply decide_eq_false; omega
            subst e
            have k1 : decide (q2 ≤ y2) = false := decide_eq_false h1
            clear hR h1
            go_enter Tryd.func57, Tryd.ntmps57
            go_wp2_with fail
            (go_at_call 58; refine (HC.out _).mono ?_; rintro e_ w1 ⟨rfl, hb1⟩)
            obtain ⟨hc1, hf1⟩ := bcell hb1
            have HB1 := Lib.hid (below_step (w := w) (by first | assumption | go_grown) hb1)
            go_wp2
            go_returns
            exact ⟨rfl, by first | exact HB1.out | go_grown⟩
        · have e : R = false := by rw [← hR]; apply decide_eq_false; omega
          subst e
          have k2 : decide (x2 ≤ q2) = false := decide_eq_false h2
          clear hR h2
          go_enter Tryd.func57, Tryd.ntmps57
          go_wp2_with fail
          (go_at_call 58; refine (HC.out _).mono ?_; rintro e_ w1 ⟨rfl, hb1⟩)
          obtain ⟨hc1, hf1⟩ := bcell hb1
          have HB1 := Lib.hid (below_step (w := w) (by first | assumption | go_grown) hb1)
          go_wp2
          go_returns
          exact ⟨rfl, by first | exact HB1.out | go_grown⟩
      · have e : R = false := by rw [← hR]; apply decide_eq_false; omega
        subst e
        have k3 : decide (q1 ≤ y1) = false := decide_eq_false h3
        clear hR h3
        go_enter Tryd.func57, Tryd.ntmps57
        go_wp2_with fail
        (go_at_call 58; refine (HC.out _).mono ?_; rintro e_ w1 ⟨rfl, hb1⟩)
        obtain ⟨hc1, hf1⟩ := bcell hb1
        have HB1 := Lib.hid (below_step (w := w) (by first | assumption | go_grown) hb1)
        go_wp2
        go_returns
        exact ⟨rfl, by first | exact HB1.out | go_grown⟩
    · have e : R = false := by rw [← hR]; apply decide_eq_false; omega
      subst e
      have k4 : decide (x1 ≤ q1) = false := decide_eq_false h4
      clear hR h4
      go_enter Tryd.func57, Tryd.ntmps57
      go_wp2_with fail
      (go_at_call 58; refine (HC.out _).mono ?_; rintro e_ w1 ⟨rfl, hb1⟩)
      obtain ⟨hc1, hf1⟩ := bcell hb1
      have HB1 := Lib.hid (below_step (w := w) (by first | assumption | go_grown) hb1)
      go_wp2
      go_returns
      exact ⟨rfl, by first | exact HB1.out | go_grown⟩
  · have k0 : (C == 0) = false := by simp [h0]
    rw [decide_eq_false h0, Bool.false_and]
    go_enter Tryd.func57, Tryd.ntmps57
    go_wp2_with fail
    (go_at_call 58; refine (HC.out _).mono ?_; rintro e_ w1 ⟨rfl, hb1⟩)
    obtain ⟨hc1, hf1⟩ := bcell hb1
    have HB1 := Lib.hid (below_step (w := w) (by first | assumption | go_grown) hb1)
    go_wp2
    go_returns
    exact ⟨rfl, by first | exact HB1.out | go_grown⟩
set_option maxHeartbeats 2000000 in
theorem on13_any (a1 a2 b1 b2 q1 q2 : Int) (w : World) (ha : Nr (a1, a2)) (hb : Nr (b1, b2)) (hq : Nr (q1, q2)) : Calls Tryd.prog 71 #[.agg #[.int .i64 a1, .int .i64 a2], .agg #[.int .i64 b1, .int .i64 b2], .agg #[.int .i64 q1, .int .i64 q2]] w fun e w' => e = .returned (.bool (decide (onS (a1, a2) (b1, b2) (q1, q2)))) ∧ Below w.heap.size w w' := by
  rw [onS_dec]
  obtain ⟨C, hC⟩ : ∃ e, sgI (crs (a1, a2) (b1, b2) (q1, q2)) = e := ⟨_, rfl⟩
  have HC : ∀ W, Calls Tryd.prog 72 #[.agg #[.int .i64 a1, .int .i64 a2], .agg #[.int .i64 b1, .int .i64 b2], .agg #[.int .i64 q1, .int .i64 q2]] W (fun e w' => e = .returned (.int .i64 C) ∧ Below W.heap.size W w') := fun W => by rw [← hC]; exact turn13_any a1 a2 b1 b2 q1 q2 W ha hb hq
  have hz : crs (a1, a2) (b1, b2) (q1, q2) = 0 ↔ C = 0 := by rw [← hC]; unfold sgI; split <;> (try split) <;> omega
  have ez : decide (crs (a1, a2) (b1, b2) (q1, q2) = 0) = decide (C = 0) := decide_eq_decide.2 hz
  rw [ez]
  clear ez hz hC ha hb hq
  replace HC := Lib.hid HC
  by_cases h0 : C = 0
  · subst h0
    rw [decide_eq_true rfl, Bool.true_and]
    obtain ⟨R, hR⟩ : ∃ R, inB2 (a1, a2) (b1, b2) (q1, q2) = R := ⟨_, rfl⟩
    have hR0 := hR
    unfold inB2 at hR
    dsimp only at hR
    have qm := run_mn
    have qx := run_mx
    obtain ⟨x1, hx1⟩ : ∃ e, mn a1 b1 = e := ⟨_, rfl⟩
    obtain ⟨y1, hy1⟩ : ∃ e, mx a1 b1 = e := ⟨_, rfl⟩
    obtain ⟨x2, hx2⟩ : ∃ e, mn a2 b2 = e := ⟨_, rfl⟩
    obtain ⟨y2, hy2⟩ : ∃ e, mx a2 b2 = e := ⟨_, rfl⟩
    have r1 : ∀ ts t w, (Builtin.min_ ts t #[.int .i64 a1, .int .i64 b1]).run Tryd.prog w = .ok (.int .i64 x1) w := fun ts t w => by rw [← hx1]; exact qm ts t a1 b1 w
    have r2 : ∀ ts t w, (Builtin.max_ ts t #[.int .i64 a1, .int .i64 b1]).run Tryd.prog w = .ok (.int .i64 y1) w := fun ts t w => by rw [← hy1]; exact qx ts t a1 b1 w
    have r3 : ∀ ts t w, (Builtin.min_ ts t #[.int .i64 a2, .int .i64 b2]).run Tryd.prog w = .ok (.int .i64 x2) w := fun ts t w => by rw [← hx2]; exact qm ts t a2 b2 w
    have r4 : ∀ ts t w, (Builtin.max_ ts t #[.int .i64 a2, .int .i64 b2]).run Tryd.prog w = .ok (.int .i64 y2) w := fun ts t w => by rw [← hy2]; exact qx ts t a2 b2 w
    rw [hx1, hy1, hx2, hy2] at hR
    clear qm qx hx1 hy1 hx2 hy2
    rw [hR0]
    clear hR0
    by_cases h4 : x1 ≤ q1
    · have k4 : decide (x1 ≤ q1) = true := decide_eq_true h4
      by_cases h3 : q1 ≤ y1
      · have k3 : decide (q1 ≤ y1) = true := decide_eq_true h3
        by_cases h2 : x2 ≤ q2
        · have k2 : decide (x2 ≤ q2) = true := decide_eq_true h2
          by_cases h1 : q2 ≤ y2
          · have k1 : decide (q2 ≤ y2) = true := decide_eq_true h1
            have e : R = true := by rw [← hR]; simp [*]
            subst e
            clear hR
            go_enter Tryd.func71, Tryd.ntmps71
            go_wp2_with fail
            (go_at_call 72; refine (HC.out _).mono ?_; rintro e_ w1 ⟨rfl, hb1⟩)
            obtain ⟨hc1, hf1⟩ := bcell hb1
            have HB1 := Lib.hid (below_step (w := w) (by first | assumption | go_grown) hb1)
            go_wp2
            go_returns
            exact ⟨rfl, by first | exact HB1.out | go_grown⟩
          · have e : R = false := by rw [← hR]; apply decide_eq_false; omega
            subst e
            have k1 : decide (q2 ≤ y2) = false := decide_eq_false h1
            clear hR h1
            go_enter Tryd.func71, Tryd.ntmps71
            go_wp2_with fail
            (go_at_call 72; refine (HC.out _).mono ?_; rintro e_ w1 ⟨rfl, hb1⟩)
            obtain ⟨hc1, hf1⟩ := bcell hb1
            have HB1 := Lib.hid (below_step (w := w) (by first | assumption | go_grown) hb1)
            go_wp2
            go_returns
            exact ⟨rfl, by first | exact HB1.out | go_grown⟩
        · have e : R = false := by rw [← hR]; apply decide_eq_false; omega
          subst e
          have k2 : decide (x2 ≤ q2) = false := decide_eq_false h2
          clear hR h2
          go_enter Tryd.func71, Tryd.ntmps71
          go_wp2_with fail
          (go_at_call 72; refine (HC.out _).mono ?_; rintro e_ w1 ⟨rfl, hb1⟩)
          obtain ⟨hc1, hf1⟩ := bcell hb1
          have HB1 := Lib.hid (below_step (w := w) (by first | assumption | go_grown) hb1)
          go_wp2
          go_returns
          exact ⟨rfl, by first | exact HB1.out | go_grown⟩
      · have e : R = false := by rw [← hR]; apply decide_eq_false; omega
        subst e
        have k3 : decide (q1 ≤ y1) = false := decide_eq_false h3
        clear hR h3
        go_enter Tryd.func71, Tryd.ntmps71
        go_wp2_with fail
        (go_at_call 72; refine (HC.out _).mono ?_; rintro e_ w1 ⟨rfl, hb1⟩)
        obtain ⟨hc1, hf1⟩ := bcell hb1
        have HB1 := Lib.hid (below_step (w := w) (by first | assumption | go_grown) hb1)
        go_wp2
        go_returns
        exact ⟨rfl, by first | exact HB1.out | go_grown⟩
    · have e : R = false := by rw [← hR]; apply decide_eq_false; omega
      subst e
      have k4 : decide (x1 ≤ q1) = false := decide_eq_false h4
      clear hR h4
      go_enter Tryd.func71, Tryd.ntmps71
      go_wp2_with fail
      (go_at_call 72; refine (HC.out _).mono ?_; rintro e_ w1 ⟨rfl, hb1⟩)
      obtain ⟨hc1, hf1⟩ := bcell hb1
      have HB1 := Lib.hid (below_step (w := w) (by first | assumption | go_grown) hb1)
      go_wp2
      go_returns
      exact ⟨rfl, by first | exact HB1.out | go_grown⟩
  · have k0 : (C == 0) = false := by simp [h0]
    rw [decide_eq_false h0, Bool.false_and]
    go_enter Tryd.func71, Tryd.ntmps71
    go_wp2_with fail
    (go_at_call 72; refine (HC.out _).mono ?_; rintro e_ w1 ⟨rfl, hb1⟩)
    obtain ⟨hc1, hf1⟩ := bcell hb1
    have HB1 := Lib.hid (below_step (w := w) (by first | assumption | go_grown) hb1)
    go_wp2
    go_returns
    exact ⟨rfl, by first | exact HB1.out | go_grown⟩
end Go.Proofs.YtgbhhjdmochhpaaDoor
namespace Go.Proofs.YtgbhhjdmochhpaaDoor
open Go Go.ChangeShapes Go.WideShapes Go.RowKit Go.ChangeAt
set_option linter.unusedVariables false

theorem cells_at {w : World} {b : Nat} {cs : Array Value} {t : TypeId} (h : w.heap[b]? = some (.cells cs t)) : (∀ i v, cs[i]? = some v → w.cell? ⟨b, i, none⟩ = some v) ∧ (∀ i, w.frozen? ⟨b, i, none⟩ = false) ∧ b < w.heap.size := by
  refine ⟨fun i v hv => ?_, fun i => ?_, (Array.getElem?_eq_some_iff.1 h).1⟩
  · rw [cell_of_row w b i cs t (0, 0) h]; exact hv
  · exact frozen_of_row w b i cs t h
theorem cells_at2 {w : World} {b : Nat} {x0 x1 : Value} {t : TypeId} (h : w.heap[b]? = some (.cells #[x0, x1] t)) :
    w.cell? ⟨b, 0, none⟩ = some x0 ∧ w.cell? ⟨b, 1, none⟩ = some x1 ∧ (∀ i, w.frozen? ⟨b, i, none⟩ = false) ∧ b < w.heap.size :=
  ⟨(cells_at h).1 0 x0 rfl, (cells_at h).1 1 x1 rfl, (cells_at h).2.1, (cells_at h).2.2⟩
end Go.Proofs.YtgbhhjdmochhpaaDoor
