/-
  The 24 rotations as plain functions on triples of integers: what vec's functions compute; that they are a group and keep products and determinants. Conditions: none; no program in sight. By an AI agent.
-/
import Derived.Test.YtgbhhjdmochhpaaGreatDoorBase
namespace Go.Proofs.YtgbhhjdmochhpaaGreatDoor
open Go.RowKit

abbrev V := Int × Int × Int
def qt (v : V) : V := (-v.2.1, v.1, v.2.2)
def qn : Nat → V → V
  | 0, v => v
  | n + 1, v => qt (qn n v)
def tiltV (n : Int) (v : V) : V :=
  if n = 1 then (v.1, -v.2.2, v.2.1) else if n = 2 then (v.1, -v.2.1, -v.2.2) else if n = 3 then (v.1, v.2.2, -v.2.1)
  else if n = 4 then (v.2.2, v.2.1, -v.1) else if n = 5 then (-v.2.2, v.2.1, v.1) else v
def numT (k : Int) : Int := if k < 0 then 0 else if 24 ≤ k then 0 else k
def turnV (v : V) (k : Int) : V := tiltV (numT k / 4) (qn (numT k % 4).toNat v)
def probeV : V := (1, 2, 3)
def findFrom (p : Int → Bool) : Nat → Int → Int
  | 0, _ => 0
  | n + 1, i => if p i then i else findFrom p n (i + 1)
def likeV (v : V) : Int := findFrom (fun t => decide (turnV probeV t = v)) 24 0
def composeV (a b : Int) : Int := likeV (turnV (turnV probeV a) b)
def backV (a : Int) : Int := findFrom (fun t => decide (turnV (turnV probeV a) t = probeV)) 24 0
def backRefV (a : Int) : Int := findFrom (fun t => decide (composeV (numT a) t = 0)) 24 0

theorem num_bd (k : Int) : 0 ≤ numT k ∧ numT k ≤ 23 := by unfold numT; split <;> (try split) <;> omega
theorem num_in {k : Int} (h0 : 0 ≤ k) (h1 : k ≤ 23) : numT k = k := by unfold numT; rw [if_neg (by omega), if_neg (by omega)]
theorem num_num (k : Int) : numT (numT k) = numT k := num_in (num_bd k).1 (num_bd k).2
theorem turn_num (v : V) (k : Int) : turnV v (numT k) = turnV v k := by unfold turnV; rw [num_num]

/-- within B -/
def InB (B : Int) (v : V) : Prop := -B ≤ v.1 ∧ v.1 ≤ B ∧ -B ≤ v.2.1 ∧ v.2.1 ≤ B ∧ -B ≤ v.2.2 ∧ v.2.2 ≤ B
theorem qt_bd {B : Int} {v : V} (h : InB B v) : InB B (qt v) := by unfold InB qt at *; simp; omega
theorem qn_bd {B : Int} {v : V} (h : InB B v) : ∀ n, InB B (qn n v)
  | 0 => h
  | n + 1 => qt_bd (qn_bd h n)
theorem tilt_bd {B n : Int} {v : V} (h : InB B v) : InB B (tiltV n v) := by
  unfold tiltV
  repeat' split
  all_goals (first | exact h | (unfold InB at *; simp; omega))
theorem turn_bd {B : Int} {v : V} (k : Int) (h : InB B v) : InB B (turnV v k) := tilt_bd (qn_bd h _)

/-- a statement on the 24 numbers, by trying them -/
theorem all24 {p : Int → Prop} (h : ∀ n : Fin 24, p (n.val : Int)) (k : Int) : p (numT k) := by
  obtain ⟨h0, h1⟩ := num_bd k
  have h2 := h ⟨(numT k).toNat, by omega⟩
  have h3 : ((numT k).toNat : Int) = numT k := by omega
  rw [h3] at h2
  exact h2

/- The rotations as matrices: columns. -/
abbrev M := V × V × V
def lin (m : M) (v : V) : V :=
  (m.1.1 * v.1 + m.2.1.1 * v.2.1 + m.2.2.1 * v.2.2, m.1.2.1 * v.1 + m.2.1.2.1 * v.2.1 + m.2.2.2.1 * v.2.2, m.1.2.2 * v.1 + m.2.1.2.2 * v.2.1 + m.2.2.2.2 * v.2.2)
def mulM (m n : M) : M := (lin m n.1, lin m n.2.1, lin m n.2.2)
theorem lin_lin (m n : M) (v : V) : lin m (lin n v) = lin (mulM m n) v := by
  obtain ⟨⟨a1, a2, a3⟩, ⟨b1, b2, b3⟩, c1, c2, c3⟩ := m
  obtain ⟨⟨d1, d2, d3⟩, ⟨e1, e2, e3⟩, f1, f2, f3⟩ := n
  obtain ⟨x, y, z⟩ := v
  simp only [lin, mulM, Int.mul_add, Int.add_mul, Int.mul_assoc, Prod.mk.injEq]
  refine ⟨?_, ?_, ?_⟩ <;> omega
theorem mulM_assoc (m n k : M) : mulM (mulM m n) k = mulM m (mulM n k) := by
  show (lin (mulM m n) k.1, lin (mulM m n) k.2.1, lin (mulM m n) k.2.2) = (lin m (lin n k.1), lin m (lin n k.2.1), lin m (lin n k.2.2))
  rw [lin_lin, lin_lin, lin_lin]
def oneM : M := ((1, 0, 0), (0, 1, 0), (0, 0, 1))
def quM : M := ((0, 1, 0), (-1, 0, 0), (0, 0, 1))
def qnM : Nat → M
  | 0 => oneM
  | n + 1 => mulM quM (qnM n)
def tiltM (n : Int) : M :=
  if n = 1 then ((1, 0, 0), (0, 0, 1), (0, -1, 0)) else if n = 2 then ((1, 0, 0), (0, -1, 0), (0, 0, -1)) else if n = 3 then ((1, 0, 0), (0, 0, -1), (0, 1, 0))
  else if n = 4 then ((0, 0, -1), (0, 1, 0), (1, 0, 0)) else if n = 5 then ((0, 0, 1), (0, 1, 0), (-1, 0, 0)) else oneM
def rotM (k : Int) : M := mulM (tiltM (numT k / 4)) (qnM (numT k % 4).toNat)
theorem lin_one (v : V) : lin oneM v = v := by unfold lin oneM; simp
theorem lin_qu (v : V) : lin quM v = qt v := by unfold lin quM qt; simp
theorem lin_qn (v : V) : ∀ n, lin (qnM n) v = qn n v
  | 0 => lin_one v
  | n + 1 => by rw [qnM, ← lin_lin, lin_qn v n, lin_qu]; rfl
theorem lin_tilt (n : Int) (v : V) : lin (tiltM n) v = tiltV n v := by
  unfold tiltM tiltV
  split
  · unfold lin; simp
  split
  · unfold lin; simp
  split
  · unfold lin; simp
  split
  · unfold lin; simp
  split
  · unfold lin; simp
  exact lin_one v
theorem lin_rot (v : V) (k : Int) : lin (rotM k) v = turnV v k := by
  rw [rotM, ← lin_lin, lin_qn, lin_tilt]; rfl

theorem rot_num (k : Int) : rotM (numT k) = rotM k := by unfold rotM; rw [num_num]
theorem compose_num (a b : Int) : composeV (numT a) (numT b) = composeV a b := by unfold composeV; rw [turn_num, turn_num]
theorem back_num (a : Int) : backV (numT a) = backV a := by unfold backV; rw [turn_num]
theorem rot_compose24 : ∀ n m : Fin 24, rotM (composeV (n.val : Int) (m.val : Int)) = mulM (rotM (m.val : Int)) (rotM (n.val : Int)) := by decide +kernel
theorem rot_compose (a b : Int) : rotM (composeV a b) = mulM (rotM b) (rotM a) := by
  rw [← compose_num, ← rot_num a, ← rot_num b]
  exact all24 (p := fun x => rotM (composeV x (numT b)) = mulM (rotM (numT b)) (rotM x)) (fun n => all24 (p := fun y => rotM (composeV (n.val : Int) y) = mulM (rotM y) (rotM (n.val : Int))) (fun m => rot_compose24 n m) b) a
theorem find_bd (p : Int → Bool) : ∀ (n : Nat) (i : Int), 0 ≤ i → 0 ≤ findFrom p n i ∧ findFrom p n i ≤ i + n
  | 0, i, h => by unfold findFrom; omega
  | n + 1, i, h => by
    unfold findFrom
    split
    · omega
    · have := find_bd p n (i + 1) (by omega); omega
theorem find_lt (p : Int → Bool) : ∀ (n : Nat) (i : Int), 0 ≤ i → 1 ≤ n → findFrom p n i < i + n
  | 0, i, h, h1 => by omega
  | n + 1, i, h, _ => by
    unfold findFrom
    split
    · omega
    · cases n with
      | zero => unfold findFrom; omega
      | succ n => have := find_lt p (n + 1) (i + 1) (by omega) (by omega); omega
theorem like_bd (v : V) : 0 ≤ likeV v ∧ likeV v ≤ 23 := by
  have h := find_bd (fun t => decide (turnV probeV t = v)) 24 0 (by omega)
  have h2 := find_lt (fun t => decide (turnV probeV t = v)) 24 0 (by omega) (by omega)
  unfold likeV; omega
theorem compose_bd (a b : Int) : 0 ≤ composeV a b ∧ composeV a b ≤ 23 := like_bd _
theorem back_bd (a : Int) : 0 ≤ backV a ∧ backV a ≤ 23 := by
  have h := find_bd (fun t => decide (turnV (turnV probeV a) t = probeV)) 24 0 (by omega)
  have h2 := find_lt (fun t => decide (turnV (turnV probeV a) t = probeV)) 24 0 (by omega) (by omega)
  unfold backV; omega
theorem rot_inj24 : ∀ n m : Fin 24, rotM (n.val : Int) = rotM (m.val : Int) → n = m := by decide +kernel
theorem rot_inj {a b : Int} (ha : 0 ≤ a ∧ a ≤ 23) (hb : 0 ≤ b ∧ b ≤ 23) (h : rotM a = rotM b) : a = b := by
  have h1 : ((⟨a.toNat, by omega⟩ : Fin 24).val : Int) = a := by show ((a.toNat : Nat) : Int) = a; omega
  have h2 : ((⟨b.toNat, by omega⟩ : Fin 24).val : Int) = b := by show ((b.toNat : Nat) : Int) = b; omega
  have h3 := rot_inj24 ⟨a.toNat, by omega⟩ ⟨b.toNat, by omega⟩ (by rw [h1, h2]; exact h)
  have h4 : a.toNat = b.toNat := by simpa using h3
  omega
/-- P11.5 -/
theorem turn_turn (v : V) (a b : Int) : turnV (turnV v a) b = turnV v (composeV a b) := by
  rw [← lin_rot (turnV v a), ← lin_rot v a, lin_lin, ← rot_compose, lin_rot]
theorem compose_assoc (a b c : Int) : composeV (composeV a b) c = composeV a (composeV b c) := by
  refine rot_inj (compose_bd _ _) (compose_bd _ _) ?_
  rw [rot_compose, rot_compose, rot_compose, rot_compose, mulM_assoc]
theorem compose_back24 : ∀ n : Fin 24, composeV (n.val : Int) (backV (n.val : Int)) = 0 ∧ composeV (backV (n.val : Int)) (n.val : Int) = 0 ∧ backV (n.val : Int) = backRefV (n.val : Int) ∧ composeV 0 (n.val : Int) = (n.val : Int) ∧ backV (backV (n.val : Int)) = (n.val : Int) := by decide +kernel
theorem compose_back (a : Int) : composeV a (backV a) = 0 ∧ composeV (backV a) a = 0 := by
  have h := all24 (p := fun x => composeV x (backV x) = 0 ∧ composeV (backV x) x = 0) (fun n => ⟨(compose_back24 n).1, (compose_back24 n).2.1⟩) a
  rw [back_num] at h
  have h1 := compose_num a (backV a)
  have h2 := compose_num (backV a) a
  rw [num_in (back_bd a).1 (back_bd a).2] at h1 h2
  exact ⟨by rw [← h1]; exact h.1, by rw [← h2]; exact h.2⟩
theorem back_ref (a : Int) : backRefV a = backV a := by
  have h := all24 (p := fun x => backV x = backRefV x) (fun n => (compose_back24 n).2.2.1) a
  rw [back_num] at h
  rw [h]; unfold backRefV; rw [num_num]
theorem compose_zero (a : Int) : composeV 0 a = numT a := by
  have h := all24 (p := fun x => composeV 0 x = x) (fun n => (compose_back24 n).2.2.2.1) a
  have h2 := compose_num 0 a
  rw [show numT 0 = 0 from rfl] at h2
  rw [← h2]; exact h
theorem back_back (a : Int) : backV (backV a) = numT a := by
  have h := all24 (p := fun x => backV (backV x) = x) (fun n => (compose_back24 n).2.2.2.2) a
  rw [back_num] at h; exact h
theorem turn_zero (v : V) : turnV v 0 = v := rfl
theorem turn_back (v : V) (a : Int) : turnV (turnV v a) (backV a) = v := by rw [turn_turn, (compose_back a).1, turn_zero]
theorem back_turn (v : V) (a : Int) : turnV (turnV v (backV a)) a = v := by rw [turn_turn, (compose_back a).2, turn_zero]

/- WHAT THE FUNCTIONS RETURN -/
instance inB_dec (B : Int) (v : V) : Decidable (InB B v) := by unfold InB; exact inferInstance
def addV (a b : V) : V := (a.1 + b.1, a.2.1 + b.2.1, a.2.2 + b.2.2)
def negV (a : V) : V := (-a.1, -a.2.1, -a.2.2)
def zeroV : V := (0, 0, 0)
def turnF (v : V) (k : Int) : V := if InB 1099511627776 v then turnV v k else zeroV
def addF (a b : V) : V := if InB 1099511627776 a ∧ InB 1099511627776 b then addV a b else zeroV
def subF (a b : V) : V := if InB 1099511627776 a ∧ InB 1099511627776 b then addV a (negV b) else zeroV
def applyF (p : V) (k : Int) (v : V) : V := if InB 1099511627776 p ∧ InB 1099511627776 v then addV (turnV v k) p else zeroV
def thenF (p : V) (k : Int) (q : V) (m : Int) : V × Int := if InB 1099511627776 p ∧ InB 1099511627776 q then (applyF q m p, composeV k m) else (zeroV, 0)
def inverseF (p : V) (k : Int) : V × Int := if InB 1099511627776 p then (turnV (negV p) (backV k), backV k) else (zeroV, 0)
def validF (p : V) (k : Int) : Bool := decide (InB 524288 p) && decide (k = numT k)

/- products and determinants -/
def dotV (a b : V) : Int := a.1 * b.1 + a.2.1 * b.2.1 + a.2.2 * b.2.2
def detV (a b c : V) : Int := a.1 * (b.2.1 * c.2.2 - b.2.2 * c.2.1) + a.2.1 * (b.2.2 * c.1 - b.1 * c.2.2) + a.2.2 * (b.1 * c.2.1 - b.2.1 * c.1)
theorem dot_qt (a b : V) : dotV (qt a) (qt b) = dotV a b := by
  obtain ⟨a1, a2, a3⟩ := a; obtain ⟨b1, b2, b3⟩ := b
  simp only [dotV, qt, Int.neg_mul_neg]; omega
theorem dot_qn (a b : V) : ∀ n, dotV (qn n a) (qn n b) = dotV a b
  | 0 => rfl
  | n + 1 => by rw [qn, qn, dot_qt, dot_qn a b n]
theorem dot_tilt (n : Int) (a b : V) : dotV (tiltV n a) (tiltV n b) = dotV a b := by
  obtain ⟨a1, a2, a3⟩ := a; obtain ⟨b1, b2, b3⟩ := b
  unfold tiltV
  split
  · simp only [dotV, Int.neg_mul_neg]; omega
  split
  · simp only [dotV, Int.neg_mul_neg]
  split
  · simp only [dotV, Int.neg_mul_neg]; omega
  split
  · simp only [dotV, Int.neg_mul_neg]; omega
  split
  · simp only [dotV, Int.neg_mul_neg]; omega
  rfl
theorem dot_turn (a b : V) (k : Int) : dotV (turnV a k) (turnV b k) = dotV a b := by unfold turnV; rw [dot_tilt, dot_qn]
theorem det_qt (a b c : V) : detV (qt a) (qt b) (qt c) = detV a b c := by
  obtain ⟨a1, a2, a3⟩ := a; obtain ⟨b1, b2, b3⟩ := b; obtain ⟨c1, c2, c3⟩ := c
  simp only [detV, qt, Int.mul_sub, Int.neg_mul, Int.mul_neg]; omega
theorem det_qn (a b c : V) : ∀ n, detV (qn n a) (qn n b) (qn n c) = detV a b c
  | 0 => rfl
  | n + 1 => by rw [qn, qn, qn, det_qt, det_qn a b c n]
theorem det_tilt (n : Int) (a b c : V) : detV (tiltV n a) (tiltV n b) (tiltV n c) = detV a b c := by
  obtain ⟨a1, a2, a3⟩ := a; obtain ⟨b1, b2, b3⟩ := b; obtain ⟨c1, c2, c3⟩ := c
  unfold tiltV
  split
  · simp only [detV, Int.mul_sub, Int.neg_mul, Int.mul_neg]; omega
  split
  · simp only [detV, Int.mul_sub, Int.neg_mul, Int.mul_neg]; omega
  split
  · simp only [detV, Int.mul_sub, Int.neg_mul, Int.mul_neg]; omega
  split
  · simp only [detV, Int.mul_sub, Int.neg_mul, Int.mul_neg]; omega
  split
  · simp only [detV, Int.mul_sub, Int.neg_mul, Int.mul_neg]; omega
  rfl
theorem det_turn (a b c : V) (k : Int) : detV (turnV a k) (turnV b k) (turnV c k) = detV a b c := by unfold turnV; rw [det_tilt, det_qn]

/- vectors that are added -/
theorem lin_add (m : M) (a b : V) : lin m (addV a b) = addV (lin m a) (lin m b) := by
  obtain ⟨⟨a1, a2, a3⟩, ⟨b1, b2, b3⟩, c1, c2, c3⟩ := m
  obtain ⟨x, y, z⟩ := a
  obtain ⟨u, v, w⟩ := b
  simp only [lin, addV, Int.mul_add, Prod.mk.injEq]
  refine ⟨?_, ?_, ?_⟩ <;> omega
theorem lin_neg (m : M) (a : V) : lin m (negV a) = negV (lin m a) := by
  obtain ⟨⟨a1, a2, a3⟩, ⟨b1, b2, b3⟩, c1, c2, c3⟩ := m
  obtain ⟨x, y, z⟩ := a
  simp only [lin, negV, Int.mul_neg, Prod.mk.injEq]
  refine ⟨?_, ?_, ?_⟩ <;> omega
theorem turn_add (a b : V) (k : Int) : turnV (addV a b) k = addV (turnV a k) (turnV b k) := by rw [← lin_rot, ← lin_rot, ← lin_rot, lin_add]
theorem turn_neg (a : V) (k : Int) : turnV (negV a) k = negV (turnV a k) := by rw [← lin_rot, ← lin_rot, lin_neg]
end Go.Proofs.YtgbhhjdmochhpaaGreatDoor
