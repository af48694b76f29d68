/-
  Plain laws of ascending rows (chapter 29): the place of an element, insertion, removal. No program in sight. By an AI agent.
-/
namespace Go.Proofs.YtgbhhjdmochhpaaGreatDoor

section
variable {α : Type}

/-- the row with an element laid at a place -/
def insF (e : Nat → α) (i : Nat) (x : α) : Nat → α := fun j => if j < i then e j else if j = i then x else e (j - 1)
/-- the row without the element at a place -/
def delF (e : Nat → α) (i : Nat) : Nat → α := fun j => if j < i then e j else e (j + 1)
/-- the row ascends -/
def AscF (r : α → α → Prop) (e : Nat → α) (n : Nat) : Prop := ∀ i j, i < j → j < n → r (e i) (e j)
/-- where an element that is not there would stand -/
def PlaceF (r : α → α → Prop) (e : Nat → α) (n : Nat) (x : α) (i : Nat) : Prop :=
  i ≤ n ∧ (∀ h, h < i → r (e h) x) ∧ (∀ h, i ≤ h → h < n → r x (e h))

theorem del_ins (e : Nat → α) (i : Nat) (x : α) : delF (insF e i x) i = e := by
  funext j
  unfold delF insF
  by_cases h : j < i
  · simp [h]
  · have h1 : ¬ (j + 1 < i) := by omega
    have h2 : ¬ (j + 1 = i) := by omega
    simp [h, h1, h2]

theorem ins_comm (e : Nat → α) {i j : Nat} (x y : α) (h : j ≤ i) : insF (insF e i x) j y = insF (insF e j y) (i + 1) x := by
  funext k
  unfold insF
  by_cases h1 : k < j
  · have a1 : k < i := by omega
    have a2 : k < i + 1 := by omega
    simp [h1, a1, a2]
  · by_cases h2 : k = j
    · have a2 : k < i + 1 := by omega
      simp only [if_neg h1, if_pos h2, if_pos a2]
    · by_cases h3 : k < i + 1
      · have a1 : k - 1 < i := by omega
        simp only [if_neg h1, if_neg h2, if_pos h3, if_pos a1]
      · by_cases h4 : k = i + 1
        · have a1 : ¬ (k - 1 < i) := by omega
          have a2 : k - 1 = i := by omega
          simp only [if_neg h1, if_neg h2, if_neg h3, if_pos h4, if_neg a1, if_pos a2]
        · have a1 : ¬ (k - 1 < i) := by omega
          have a2 : ¬ (k - 1 = i) := by omega
          have a3 : ¬ (k - 1 < j) := by omega
          have a4 : ¬ (k - 1 = j) := by omega
          simp only [if_neg h1, if_neg h2, if_neg h3, if_neg h4, if_neg a1, if_neg a2, if_neg a3, if_neg a4]

variable {r : α → α → Prop} (tr : ∀ x y z, r x y → r y z → r x z) (ir : ∀ x, ¬ r x x)

theorem insF_lt (e : Nat → α) {i j : Nat} (x : α) (h : j < i) : insF e i x j = e j := by simp [insF, h]
theorem insF_eq (e : Nat → α) (i : Nat) (x : α) : insF e i x i = x := by simp [insF]
theorem insF_gt (e : Nat → α) {i j : Nat} (x : α) (h : i < j) : insF e i x j = e (j - 1) := by
  have a1 : ¬ (j < i) := by omega
  have a2 : ¬ (j = i) := by omega
  simp [insF, a1, a2]

include tr in
theorem asc_ins {e : Nat → α} {n : Nat} {x : α} {i : Nat} (ha : AscF r e n) (hp : PlaceF r e n x i) : AscF r (insF e i x) (n + 1) := by
  obtain ⟨h0, h1, h2⟩ := hp
  intro a b hab hb
  rcases Nat.lt_trichotomy b i with h | h | h
  · rw [insF_lt e x (by omega : a < i), insF_lt e x h]; exact ha a b hab (by omega)
  · subst h; rw [insF_lt e x hab, insF_eq]; exact h1 a hab
  · rw [insF_gt e x h]
    rcases Nat.lt_trichotomy a i with g | g | g
    · rw [insF_lt e x g]
      by_cases q : a < b - 1
      · exact ha a (b - 1) q (by omega)
      · exact tr _ _ _ (h1 a g) (h2 (b - 1) (by omega) (by omega))
    · subst g; rw [insF_eq]; exact h2 (b - 1) (by omega) (by omega)
    · rw [insF_gt e x g]; exact ha (a - 1) (b - 1) (by omega) (by omega)

include tr ir in
theorem place_unique {e : Nat → α} {n : Nat} {x : α} {i j : Nat} (hi : PlaceF r e n x i) (hj : PlaceF r e n x j) : i = j := by
  obtain ⟨a0, a1, a2⟩ := hi
  obtain ⟨b0, b1, b2⟩ := hj
  rcases Nat.lt_trichotomy i j with h | h | h
  · exact absurd (tr _ _ _ (b1 i h) (a2 i (Nat.le_refl _) (by omega))) (ir _)
  · exact h
  · exact absurd (tr _ _ _ (a1 j h) (b2 j (Nat.le_refl _) (by omega))) (ir _)

include tr ir in
theorem place_le {e : Nat → α} {n : Nat} {x y : α} {i j : Nat} (hx : PlaceF r e n x i) (hy : PlaceF r e n y j) (h : r y x) : j ≤ i := by
  obtain ⟨a0, a1, a2⟩ := hx
  obtain ⟨b0, b1, b2⟩ := hy
  rcases Nat.lt_or_ge i j with q | q
  · exact absurd (tr _ _ _ (tr _ _ _ (b1 i q) h) (a2 i (Nat.le_refl _) (by omega))) (ir _)
  · exact q

include tr ir in
theorem place_ins_lt {e : Nat → α} {n : Nat} {x y : α} {i j : Nat} (hx : PlaceF r e n x i) (hy : PlaceF r e n y j) (h : r y x) : PlaceF r (insF e i x) (n + 1) y j := by
  have hji := place_le tr ir hx hy h
  obtain ⟨a0, a1, a2⟩ := hx
  obtain ⟨b0, b1, b2⟩ := hy
  refine ⟨by omega, fun k hk => ?_, fun k hk hn => ?_⟩
  · rw [insF_lt e x (by omega)]; exact b1 k hk
  · rcases Nat.lt_trichotomy k i with q | q | q
    · rw [insF_lt e x q]; exact b2 k hk (by omega)
    · subst q; rw [insF_eq]; exact h
    · rw [insF_gt e x q]; exact b2 (k - 1) (by omega) (by omega)

include tr ir in
theorem place_ins_gt {e : Nat → α} {n : Nat} {x y : α} {i j : Nat} (hx : PlaceF r e n x i) (hy : PlaceF r e n y j) (h : r x y) : PlaceF r (insF e i x) (n + 1) y (j + 1) := by
  have hij := place_le tr ir hy hx h
  obtain ⟨a0, a1, a2⟩ := hx
  obtain ⟨b0, b1, b2⟩ := hy
  refine ⟨by omega, fun k hk => ?_, fun k hk hn => ?_⟩
  · rcases Nat.lt_trichotomy k i with q | q | q
    · rw [insF_lt e x q]; exact b1 k (by omega)
    · subst q; rw [insF_eq]; exact h
    · rw [insF_gt e x q]; exact b1 (k - 1) (by omega)
  · rw [insF_gt e x (by omega)]; exact b2 (k - 1) (by omega) (by omega)

/-- two elements laid in either order, when the first is the less one -/
theorem ins_both (e : Nat → α) {i j : Nat} (x y : α) (h : i ≤ j) : insF (insF e i x) (j + 1) y = insF (insF e j y) i x := (ins_comm e y x h).symm

/-- the place by search from the left -/
def firstF (p : Nat → Bool) : Nat → Nat → Nat
  | k, 0 => k
  | k, f + 1 => if p k then firstF p (k + 1) f else k

theorem firstF_is (p : Nat → Bool) (i : Nat) : ∀ (f k : Nat), k ≤ i → i ≤ k + f → (∀ h, k ≤ h → h < i → p h = true) → (i < k + f → p i = false) → firstF p k f = i
  | 0, k, h1, h2, _, _ => by unfold firstF; omega
  | f + 1, k, h1, h2, h3, h4 => by
    unfold firstF
    by_cases hk : k = i
    · subst hk; rw [h4 (by omega)]; rfl
    · rw [h3 k (Nat.le_refl _) (by omega)]
      simp only [if_true]
      exact firstF_is p i f (k + 1) (by omega) (by omega) (fun h a b => h3 h (by omega) b) (fun a => h4 (by omega))

/-- binary search ends at the first place where p fails, for a p that holds up to some place and fails from there on -/
theorem firstF_mid (p : Nat → Bool) {n i j : Nat} (hij : i = j) (hn : j ≤ n) (h1 : ∀ h, h < i → p h = true) (h2 : ∀ h, j ≤ h → h < n → p h = false) : firstF p 0 n = i :=
  firstF_is p i n 0 (by omega) (by omega) (fun h _ b => h1 h b) (fun a => h2 i (by omega) (by omega))
end
end Go.Proofs.YtgbhhjdmochhpaaGreatDoor
