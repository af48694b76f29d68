/-
  Shortest ways through trays: distances, what relaxing keeps, the rounds of the reference, the way by least trays. Conditions: none. By an AI agent.
-/
import Derived.Test.YtpkgadjglidnaaaDoorInts
namespace Go.Proofs.YtpkgadjglidnaaaDoor
set_option linter.unusedVariables false

structure Tr where
  A : Int
  B : Int
  L : Int
  S : Int
def Tr.ok (t : Tr) : Prop := 0 ≤ t.A ∧ t.A ≤ 255 ∧ 0 ≤ t.B ∧ t.B ≤ 255 ∧ 1 ≤ t.L ∧ t.L ≤ 1000000 ∧ 0 ≤ t.S ∧ t.S ≤ 1000000 ∧ t.A ≠ t.B
def Goes (t : Tr) (v w : Int) : Prop := (v = t.A ∧ w = t.B) ∨ (v = t.B ∧ w = t.A)
theorem Goes.symm {t : Tr} {v w : Int} (h : Goes t v w) : Goes t w v := by
  rcases h with ⟨h1, h2⟩ | ⟨h1, h2⟩
  · exact .inr ⟨h2, h1⟩
  · exact .inl ⟨h2, h1⟩
theorem Goes.uniq {t : Tr} {v w w' : Int} (ht : t.A ≠ t.B) (h : Goes t v w) (h' : Goes t v w') : w = w' := by
  rcases h with ⟨h1, h2⟩ | ⟨h1, h2⟩ <;> rcases h' with ⟨h3, h4⟩ | ⟨h3, h4⟩ <;> omega
theorem Goes.range {t : Tr} {v w : Int} (ht : t.ok) (h : Goes t v w) : 0 ≤ v ∧ v ≤ 255 ∧ 0 ≤ w ∧ w ≤ 255 ∧ v ≠ w := by
  unfold Tr.ok at ht
  rcases h with ⟨h1, h2⟩ | ⟨h1, h2⟩ <;> omega

/-- a walk through usable trays, with its length -/
inductive Wk (n : Nat) (T : Nat → Tr) (U : Nat → Bool) (to : Int) : Int → List Nat → Int → Prop
  | nil : Wk n T U to to [] 0
  | cons {v w : Int} {i : Nat} {p : List Nat} {l : Int} : i < n → U i = true → Goes (T i) v w → Wk n T U to w p l → Wk n T U to v (i :: p) ((T i).L + l)

section
variable {n : Nat} {T : Nat → Tr} {U : Nat → Bool} {to : Int}
theorem Wk.nonneg (hT : ∀ i, i < n → (T i).ok) {v : Int} {p : List Nat} {l : Int} (h : Wk n T U to v p l) : 0 ≤ l := by
  induction h with
  | nil => omega
  | cons hi _ _ _ ih =>
    have := (hT _ hi).2.2.2.2.1
    omega
theorem Wk.pos (hT : ∀ i, i < n → (T i).ok) {v : Int} {p : List Nat} {l : Int} (h : Wk n T U to v p l) (hv : v ≠ to) : 1 ≤ l := by
  cases h with
  | nil => exact absurd rfl hv
  | cons hi _ _ hw =>
    have := (hT _ hi).2.2.2.2.1
    have := hw.nonneg hT
    omega
theorem Wk.range (hT : ∀ i, i < n → (T i).ok) (hto : 0 ≤ to ∧ to ≤ 255) {v : Int} {p : List Nat} {l : Int} (h : Wk n T U to v p l) : 0 ≤ v ∧ v ≤ 255 := by
  cases h with
  | nil => exact hto
  | cons hi _ hg _ =>
    have := hg.range (hT _ hi)
    omega
theorem Wk.mono {U' : Nat → Bool} (hU : ∀ i, i < n → U i = true → U' i = true) {v : Int} {p : List Nat} {l : Int} (h : Wk n T U to v p l) : Wk n T U' to v p l := by
  induction h with
  | nil => exact .nil
  | cons hi hu hg _ ih => exact .cons hi (hU _ hi hu) hg ih
/-- one tray behind a walk -/
theorem Wk.snoc {to' : Int} {v : Int} {p : List Nat} {l : Int} (h : Wk n T U to v p l) {i : Nat} (hi : i < n) (hu : U i = true) (hg : Goes (T i) to to') : ∃ q, Wk n T U to' v q ((T i).L + l) := by
  induction h with
  | nil => exact ⟨[i], .cons hi hu hg .nil⟩
  | @cons v w j p l hj huj hgj hw ih =>
    obtain ⟨q, hq⟩ := ih
    refine ⟨j :: q, ?_⟩
    have := Wk.cons hj huj hgj hq
    rwa [show (T i).L + ((T j).L + l) = (T j).L + ((T i).L + l) by omega]
theorem Wk.back {v : Int} {p : List Nat} {l : Int} (h : Wk n T U to v p l) : ∃ q, Wk n T U v to q l := by
  induction h with
  | nil => exact ⟨[], .nil⟩
  | cons hi hu hg _ ih =>
    obtain ⟨q, hq⟩ := ih
    exact hq.snoc hi hu hg.symm

/-- D gives the least lengths, or -1 -/
structure DistIs (n : Nat) (T : Nat → Tr) (U : Nat → Bool) (to : Int) (D : Int → Int) : Prop where
  low : ∀ v, 0 ≤ v → v ≤ 255 → -1 ≤ D v
  walk : ∀ v, 0 ≤ v → v ≤ 255 → 0 ≤ D v → ∃ p, Wk n T U to v p (D v)
  least : ∀ v p l, Wk n T U to v p l → 0 ≤ D v ∧ D v ≤ l
theorem DistIs.uniq (hT : ∀ i, i < n → (T i).ok) {D E : Int → Int} (h : DistIs n T U to D) (h' : DistIs n T U to E) {v : Int} (hv : 0 ≤ v ∧ v ≤ 255) : D v = E v := by
  have l1 := h.low v hv.1 hv.2
  have l2 := h'.low v hv.1 hv.2
  by_cases hd : 0 ≤ D v
  · obtain ⟨p, hp⟩ := h.walk v hv.1 hv.2 hd
    obtain ⟨he, h1⟩ := h'.least _ _ _ hp
    obtain ⟨q, hq⟩ := h'.walk v hv.1 hv.2 he
    have h2 := (h.least _ _ _ hq).2
    omega
  · by_cases he : 0 ≤ E v
    · obtain ⟨q, hq⟩ := h'.walk v hv.1 hv.2 he
      have := (h.least _ _ _ hq).1
      omega
    · omega
theorem least_nat {P : Nat → Prop} (h : ∃ n, P n) : ∃ n, P n ∧ ∀ m, P m → n ≤ m := by
  apply Classical.byContradiction
  intro hc
  have key : ∀ n, ∀ m, m ≤ n → ¬ P m := by
    intro n
    induction n with
    | zero =>
      intro m hm hp
      obtain rfl : m = 0 := by omega
      exact hc ⟨0, hp, fun k _ => by omega⟩
    | succ n ih =>
      intro m hm hp
      by_cases e : m = n + 1
      · subst e
        exact hc ⟨n + 1, hp, fun k hk => by
          rcases Nat.lt_or_ge k (n + 1) with h' | h'
          · exact absurd hk (ih k (by omega))
          · exact h'⟩
      · exact ih m (by omega) hp
  obtain ⟨n, hn⟩ := h
  exact key n n (Nat.le_refl _) hn
open Classical in
noncomputable def distF (n : Nat) (T : Nat → Tr) (U : Nat → Bool) (to : Int) (v : Int) : Int :=
  if h : ∃ m : Nat, ∃ p, Wk n T U to v p (m : Int) then ((Classical.choose (least_nat h) : Nat) : Int) else -1
theorem distF_is (hT : ∀ i, i < n → (T i).ok) : DistIs n T U to (distF n T U to) where
  low := fun v _ _ => by
    unfold distF
    split <;> omega
  walk := fun v _ _ hd => by
    unfold distF at hd ⊢
    split at hd
    · rename_i h
      rw [dif_pos h]
      exact (Classical.choose_spec (least_nat h)).1
    · omega
  least := fun v p l hw => by
    have hl := hw.nonneg hT
    have h : ∃ m : Nat, ∃ p, Wk n T U to v p (m : Int) := ⟨l.toNat, p, by rw [Int.toNat_of_nonneg hl]; exact hw⟩
    unfold distF
    rw [dif_pos h]
    have := (Classical.choose_spec (least_nat h)).2 l.toNat ⟨p, by rw [Int.toNat_of_nonneg hl]; exact hw⟩
    omega
theorem DistIs.zero (hT : ∀ i, i < n → (T i).ok) {D : Int → Int} (h : DistIs n T U to D) : D to = 0 := by
  have := h.least _ _ _ .nil
  omega
theorem DistIs.iff_zero (hT : ∀ i, i < n → (T i).ok) {D : Int → Int} (h : DistIs n T U to D) {v : Int} (hv : 0 ≤ v ∧ v ≤ 255) (h0 : D v = 0) : v = to := by
  obtain ⟨p, hp⟩ := h.walk v hv.1 hv.2 (by omega)
  apply Classical.byContradiction
  intro hc
  have := hp.pos hT hc
  omega
theorem DistIs.edge (hT : ∀ i, i < n → (T i).ok) {D : Int → Int} (h : DistIs n T U to D) {v w : Int} {i : Nat} (hi : i < n) (hu : U i = true) (hg : Goes (T i) v w) (hw : 0 ≤ D w) : 0 ≤ D v ∧ D v ≤ (T i).L + D w := by
  have hr := hg.range (hT i hi)
  obtain ⟨p, hp⟩ := h.walk w hr.2.2.1 hr.2.2.2.1 hw
  exact h.least _ _ _ (.cons hi hu hg hp)
/-- the first tray of a shortest walk -/
theorem DistIs.first (hT : ∀ i, i < n → (T i).ok) {D : Int → Int} (h : DistIs n T U to D) {v : Int} (hv : 0 ≤ v ∧ v ≤ 255) (hd : 0 ≤ D v) (hne : v ≠ to) : ∃ i w, i < n ∧ U i = true ∧ Goes (T i) v w ∧ 0 ≤ D w ∧ D w + (T i).L = D v := by
  obtain ⟨p, hp⟩ := h.walk v hv.1 hv.2 hd
  generalize hl : D v = l at hp
  cases hp with
  | nil => exact absurd rfl hne
  | @cons _ w i p l' hi hu hg hw =>
    have h1 := h.least _ _ _ hw
    have h2 := h.edge hT hi hu hg h1.1
    exact ⟨i, w, hi, hu, hg, h1.1, by omega⟩

/- SUMS AND COUNTS. -/
def sumN (g : Nat → Nat) : Nat → Nat
  | 0 => 0
  | m + 1 => sumN g m + g m
theorem sumN_le {g h : Nat → Nat} : ∀ {m : Nat}, (∀ i, i < m → g i ≤ h i) → sumN g m ≤ sumN h m
  | 0, _ => Nat.le_refl _
  | m + 1, hh => by
    have := sumN_le (m := m) fun i hi => hh i (by omega)
    have := hh m (by omega)
    unfold sumN
    omega
theorem sumN_at {g h : Nat → Nat} {k : Nat} : ∀ {m : Nat}, k < m → (∀ i, i < m → i ≠ k → g i = h i) → sumN g m + h k = sumN h m + g k
  | 0, hk, _ => by omega
  | m + 1, hk, hh => by
    unfold sumN
    by_cases e : k = m
    · subst e
      have : ∀ {j : Nat}, j ≤ k → sumN g j = sumN h j := by
        intro j
        induction j with
        | zero => intro _; rfl
        | succ j ih =>
          intro hj
          unfold sumN
          rw [ih (by omega), hh j (by omega) (by omega)]
      rw [this (Nat.le_refl k)]
      omega
    · have h1 := sumN_at (g := g) (h := h) (k := k) (m := m) (by omega) fun i hi hne => hh i (by omega) hne
      have h2 := hh m (by omega) (by omega)
      omega
theorem sumN_const (c : Nat) : ∀ m, sumN (fun _ => c) m = m * c
  | 0 => by simp [sumN]
  | m + 1 => by
    unfold sumN
    rw [sumN_const c m, Nat.succ_mul]
def updN (F : Nat → Int) (k : Nat) (x : Int) : Nat → Int := fun i => if i = k then x else F i
theorem updN_same (F : Nat → Int) (k : Nat) (x : Int) : updN F k x k = x := if_pos rfl
theorem updN_other {F : Nat → Int} {k i : Nat} {x : Int} (h : i ≠ k) : updN F k x i = F i := if_neg h
def reachedN (F : Nat → Int) : Nat := sumN (fun i => if 0 ≤ F i then 1 else 0) 256
def leftN (F : Nat → Int) : Nat := sumN (fun i => if F i < 0 then 1073741824 else (F i).toNat) 256
theorem reachedN_le (F : Nat → Int) : reachedN F ≤ 256 := by
  have := sumN_le (g := fun i => if 0 ≤ F i then 1 else 0) (h := fun _ => 1) (m := 256) fun i _ => by (try dsimp only); split <;> omega
  rw [sumN_const] at this
  exact this

/- WHAT THE PROGRAM'S RELAXING KEEPS. -/
structure FarInv (n : Nat) (T : Nat → Tr) (U : Nat → Bool) (to : Int) (F : Nat → Int) : Prop where
  zero : F to.toNat = 0
  low : ∀ i, i < 256 → -1 ≤ F i
  walk : ∀ i, i < 256 → 0 ≤ F i → ∃ p, Wk n T U to (i : Int) p (F i)
  high : ∀ i, i < 256 → F i ≤ 1000000 * reachedN F
def Imp (F : Nat → Int) (e w : Nat) (L : Int) : Prop := 0 ≤ F e ∧ (F w < 0 ∨ F e + L < F w)
theorem FarInv.bound {F : Nat → Int} (h : FarInv n T U to F) {i : Nat} (hi : i < 256) : F i ≤ 256000000 := by
  have := h.high i hi
  have := reachedN_le F
  omega
theorem farInv_start (hto : 0 ≤ to ∧ to ≤ 255) : FarInv n T U to (updN (fun _ => -1) to.toNat 0) where
  zero := updN_same _ _ _
  low := fun i _ => by unfold updN; split <;> (try dsimp only) <;> omega
  walk := fun i _ h => by
    by_cases e : i = to.toNat
    · subst e
      rw [updN_same, Int.toNat_of_nonneg hto.1]
      exact ⟨[], .nil⟩
    · rw [updN_other e] at h
      omega
  high := fun i _ => by unfold updN; split <;> (try dsimp only) <;> omega
theorem FarInv.step (hT : ∀ i, i < n → (T i).ok) {F : Nat → Int} (h : FarInv n T U to F) {i : Nat} {v w : Int} (hi : i < n) (hu : U i = true) (hg : Goes (T i) v w) (him : Imp F w.toNat v.toNat (T i).L) :
    FarInv n T U to (updN F v.toNat (F w.toNat + (T i).L)) ∧ leftN (updN F v.toNat (F w.toNat + (T i).L)) < leftN F := by
  have hr := hg.range (hT i hi)
  have hok := hT i hi
  unfold Tr.ok at hok
  obtain ⟨h1, h2⟩ := him
  have hwb : w.toNat < 256 := by omega
  have hvb : v.toNat < 256 := by omega
  have hb := h.high w.toNat hwb
  have hrl := reachedN_le F
  have hne : v.toNat ≠ to.toNat := fun e => by
    rw [e] at h2
    have := h.zero
    omega
  have hcnt := sumN_at (g := fun i => if 0 ≤ F i then 1 else 0) (h := fun j => if 0 ≤ updN F v.toNat (F w.toNat + (T i).L) j then 1 else 0) hvb fun j _ hj => by (try dsimp only); rw [updN_other hj]
  have hlft := sumN_at (g := fun j => if F j < 0 then 1073741824 else (F j).toNat) (h := fun j => if updN F v.toNat (F w.toNat + (T i).L) j < 0 then 1073741824 else (updN F v.toNat (F w.toNat + (T i).L) j).toNat) hvb fun j _ hj => by (try dsimp only); rw [updN_other hj]
  rw [updN_same] at hcnt hlft
  have hc' : reachedN F + 1 = reachedN (updN F v.toNat (F w.toNat + (T i).L)) + (if 0 ≤ F v.toNat then 1 else 0) := by
    unfold reachedN
    rw [if_pos (by omega)] at hcnt
    exact hcnt
  have hl' : leftN F + (F w.toNat + (T i).L).toNat = leftN (updN F v.toNat (F w.toNat + (T i).L)) + (if F v.toNat < 0 then 1073741824 else (F v.toNat).toNat) := by
    unfold leftN
    rw [if_neg (by omega : ¬ (F w.toNat + (T i).L < 0))] at hlft
    exact hlft
  refine ⟨⟨?_, fun j hj => ?_, fun j hj h0 => ?_, fun j hj => ?_⟩, ?_⟩
  · rw [updN_other (fun e => hne e.symm)]; exact h.zero
  · by_cases e : j = v.toNat
    · subst e; rw [updN_same]; omega
    · rw [updN_other e]; exact h.low j hj
  · by_cases e : j = v.toNat
    · subst e
      obtain ⟨p, hp⟩ := h.walk w.toNat hwb h1
      rw [updN_same]
      refine ⟨i :: p, ?_⟩
      rw [Int.toNat_of_nonneg hr.1, show F w.toNat + (T i).L = (T i).L + F w.toNat by omega]
      refine .cons hi hu hg ?_
      rwa [Int.toNat_of_nonneg hr.2.2.1] at hp
    · rw [updN_other e] at h0 ⊢
      exact h.walk j hj h0
  · by_cases e : j = v.toNat
    · subst e
      rw [updN_same]
      by_cases hv : 0 ≤ F v.toNat
      · rw [if_pos hv] at hc'
        have := h.high v.toNat hvb
        omega
      · rw [if_neg hv] at hc'
        omega
    · rw [updN_other e]
      have := h.high j hj
      by_cases hv : 0 ≤ F v.toNat
      · rw [if_pos hv] at hc'
        omega
      · rw [if_neg hv] at hc'
        omega
  · by_cases hv : F v.toNat < 0
    · rw [if_pos hv] at hl'
      omega
    · rw [if_neg hv] at hl'
      omega
theorem FarInv.done (hT : ∀ i, i < n → (T i).ok) (hto : 0 ≤ to ∧ to ≤ 255) {F : Nat → Int} (h : FarInv n T U to F) (hs : ∀ i, i < n → U i = true → ∀ v w, Goes (T i) v w → ¬ Imp F w.toNat v.toNat (T i).L) : DistIs n T U to (fun v => F v.toNat) where
  low := fun v h0 h1 => h.low _ (by omega)
  walk := fun v h0 h1 hd => by
    obtain ⟨p, hp⟩ := h.walk v.toNat (by omega) hd
    rw [Int.toNat_of_nonneg h0] at hp
    exact ⟨p, hp⟩
  least := fun v p l hw => by
    induction hw with
    | nil => have := h.zero; (try dsimp only); omega
    | @cons v w i p l hi hu hg _ ih =>
      have hn := hs i hi hu v w hg
      unfold Imp at hn
      (try dsimp only at ih)
      (try dsimp only)
      omega
theorem far_is (hT : ∀ i, i < n → (T i).ok) {F : Nat → Int} (h : DistIs n T U to (fun v => F v.toNat)) {i : Nat} (hi : i < 256) : F i = distF n T U to (i : Int) := by
  have := h.uniq hT (distF_is hT) (v := (i : Int)) (by omega)
  simpa using this

/- THE REFERENCE'S ROUNDS. -/
def rankN (D : Int → Int) (v : Int) : Nat := sumN (fun j => if 0 ≤ D (j : Int) ∧ D (j : Int) < D v then 1 else 0) 256
theorem rank_lt {D : Int → Int} {v w : Int} (hw : 0 ≤ w ∧ w ≤ 255) (h0 : 0 ≤ D w) (h1 : D w < D v) : rankN D w < rankN D v := by
  unfold rankN
  have key := sumN_le (g := fun j => if j = w.toNat then 1 else if 0 ≤ D (j : Int) ∧ D (j : Int) < D w then 1 else 0) (h := fun j => if 0 ≤ D (j : Int) ∧ D (j : Int) < D v then 1 else 0) (m := 256) fun j _ => by
    (try dsimp only)
    by_cases e : j = w.toNat
    · rw [if_pos e, if_pos]
      · exact Nat.le_refl _
      · rw [e, Int.toNat_of_nonneg hw.1]; exact ⟨h0, h1⟩
    · rw [if_neg e]
      split
      · rw [if_pos (by omega)]; exact Nat.le_refl _
      · omega
  have hat := sumN_at (g := fun j => if j = w.toNat then 1 else if 0 ≤ D (j : Int) ∧ D (j : Int) < D w then 1 else 0) (h := fun j => if 0 ≤ D (j : Int) ∧ D (j : Int) < D w then 1 else 0) (k := w.toNat) (m := 256) (by omega) fun j _ hj => by
    (try dsimp only)
    rw [if_neg hj]
  rw [if_pos rfl, if_neg (by rw [Int.toNat_of_nonneg hw.1]; omega)] at hat
  omega
theorem rank_le {D : Int → Int} {v : Int} (hv : 0 ≤ v ∧ v ≤ 255) : rankN D v ≤ 255 := by
  have key := sumN_le (g := fun j => if j = v.toNat then 1 else if 0 ≤ D (j : Int) ∧ D (j : Int) < D v then 1 else 0) (h := fun j => 1) (m := 256) fun j _ => by
    (try dsimp only)
    split
    · exact Nat.le_refl _
    · split <;> omega
  rw [sumN_const] at key
  have hat := sumN_at (g := fun j => if j = v.toNat then 1 else if 0 ≤ D (j : Int) ∧ D (j : Int) < D v then 1 else 0) (h := fun j => if 0 ≤ D (j : Int) ∧ D (j : Int) < D v then 1 else 0) (k := v.toNat) (m := 256) (by omega) fun j _ hj => by
    (try dsimp only)
    rw [if_neg hj]
  rw [if_pos rfl, if_neg (by rw [Int.toNat_of_nonneg hv.1]; omega)] at hat
  unfold rankN
  omega
theorem dist_high (hT : ∀ i, i < n → (T i).ok) {D : Int → Int} (h : DistIs n T U to D) : ∀ (k : Nat) (v : Int), 0 ≤ v ∧ v ≤ 255 → 0 ≤ D v → rankN D v ≤ k → D v ≤ 1000000 * (k : Int) := by
  intro k
  induction k with
  | zero =>
    intro v hv hd hr
    by_cases hne : v = to
    · subst hne
      have := h.zero hT
      omega
    · obtain ⟨i, w, hi, hu, hg, hw, he⟩ := h.first hT hv hd hne
      have hok := hT i hi
      have hrg := hg.range hok
      unfold Tr.ok at hok
      have hlt := rank_lt (D := D) (v := v) (w := w) ⟨hrg.2.2.1, hrg.2.2.2.1⟩ hw (by omega)
      omega
  | succ k ih =>
    intro v hv hd hr
    by_cases hne : v = to
    · subst hne
      have := h.zero hT
      omega
    · obtain ⟨i, w, hi, hu, hg, hw, he⟩ := h.first hT hv hd hne
      have hok := hT i hi
      have hrg := hg.range hok
      unfold Tr.ok at hok
      have hlt := rank_lt (D := D) (v := v) (w := w) ⟨hrg.2.2.1, hrg.2.2.2.1⟩ hw (by omega)
      have := ih w ⟨hrg.2.2.1, hrg.2.2.2.1⟩ hw (by omega)
      omega
theorem dist_bound (hT : ∀ i, i < n → (T i).ok) {D : Int → Int} (h : DistIs n T U to D) {v : Int} (hv : 0 ≤ v ∧ v ≤ 255) : D v ≤ 255000000 := by
  by_cases hd : 0 ≤ D v
  · have := dist_high hT h _ v hv hd (rank_le hv)
    omega
  · omega
/-- what the reference's rounds keep: E are its numbers -/
structure RefInv (n : Nat) (T : Nat → Tr) (U : Nat → Bool) (to : Int) (E : Nat → Int) : Prop where
  zero : E to.toNat = 0
  low : ∀ i, i < 256 → 0 ≤ E i ∧ E i ≤ 1099511627776
  walk : ∀ i, i < 256 → E i < 1099511627776 → ∃ p, Wk n T U to (i : Int) p (E i)
theorem refInv_start (hto : 0 ≤ to ∧ to ≤ 255) : RefInv n T U to (updN (fun _ => 1099511627776) to.toNat 0) where
  zero := updN_same _ _ _
  low := fun i _ => by unfold updN; split <;> (try dsimp only) <;> omega
  walk := fun i _ h => by
    by_cases e : i = to.toNat
    · subst e
      rw [updN_same, Int.toNat_of_nonneg hto.1]
      exact ⟨[], .nil⟩
    · rw [updN_other e] at h
      omega
theorem RefInv.step (hT : ∀ i, i < n → (T i).ok) {E : Nat → Int} (h : RefInv n T U to E) {i : Nat} {v w : Int} (hi : i < n) (hu : U i = true) (hg : Goes (T i) v w) : RefInv n T U to (updN E v.toNat (min (E v.toNat) (E w.toNat + (T i).L))) := by
  have hr := hg.range (hT i hi)
  have hok := hT i hi
  unfold Tr.ok at hok
  have hwb : w.toNat < 256 := by omega
  have hvb : v.toNat < 256 := by omega
  have lv := h.low v.toNat hvb
  have lw := h.low w.toNat hwb
  refine ⟨?_, fun j hj => ?_, fun j hj h0 => ?_⟩
  · by_cases e : to.toNat = v.toNat
    · have hz := h.zero
      rw [e] at hz ⊢
      rw [updN_same, hz]
      omega
    · rw [updN_other e]; exact h.zero
  · by_cases e : j = v.toNat
    · subst e; rw [updN_same]; omega
    · rw [updN_other e]; exact h.low j hj
  · by_cases e : j = v.toNat
    · subst e
      rw [updN_same] at h0 ⊢
      by_cases hm : E v.toNat ≤ E w.toNat + (T i).L
      · rw [Int.min_eq_left hm] at h0 ⊢
        exact h.walk _ hvb h0
      · rw [Int.min_eq_right (by omega)] at h0 ⊢
        obtain ⟨p, hp⟩ := h.walk w.toNat hwb (by omega)
        refine ⟨i :: p, ?_⟩
        rw [Int.toNat_of_nonneg hr.1, show E w.toNat + (T i).L = (T i).L + E w.toNat by omega]
        refine .cons hi hu hg ?_
        rwa [Int.toNat_of_nonneg hr.2.2.1] at hp
    · rw [updN_other e] at h0 ⊢
      exact h.walk j hj h0
theorem updN_min_le (E : Nat → Int) (k : Nat) (x : Int) (j : Nat) : updN E k (min (E k) x) j ≤ E j := by
  by_cases e : j = k
  · subst e; rw [updN_same]; omega
  · rw [updN_other e]; exact Int.le_refl _
/-- after k rounds -/
def RefDone (D : Int → Int) (E : Nat → Int) (k : Nat) : Prop := ∀ v : Int, 0 ≤ v → v ≤ 255 → 0 ≤ D v → rankN D v ≤ k → E v.toNat ≤ D v
theorem refDone_start (hT : ∀ i, i < n → (T i).ok) (hto : 0 ≤ to ∧ to ≤ 255) {D : Int → Int} (h : DistIs n T U to D) : RefDone D (updN (fun _ => 1099511627776) to.toNat 0) 0 := fun v h0 h1 hd hr => by
  by_cases e : v = to
  · subst e
    rw [updN_same]
    exact hd
  · have hz := h.zero hT
    have : D v ≠ 0 := fun e0 => e (h.iff_zero hT ⟨h0, h1⟩ e0)
    have := rank_lt (D := D) (v := v) (w := to) hto (by omega) (by omega)
    omega
theorem refDone_round (hT : ∀ i, i < n → (T i).ok) {D : Int → Int} (h : DistIs n T U to D) {E E' : Nat → Int} {k : Nat} (hE : RefDone D E k) (hz : E' to.toNat = 0)
    (hr : ∀ i, i < n → U i = true → ∀ v w, Goes (T i) v w → E' v.toNat ≤ E w.toNat + (T i).L) : RefDone D E' (k + 1) := fun v h0 h1 hd hk => by
  by_cases e : v = to
  · subst e
    have := h.zero hT
    omega
  · obtain ⟨i, w, hi, hu, hg, hw, he⟩ := h.first hT ⟨h0, h1⟩ hd e
    have hrg := hg.range (hT i hi)
    have hok := hT i hi
    unfold Tr.ok at hok
    have hlt := rank_lt (D := D) (v := v) (w := w) ⟨hrg.2.2.1, hrg.2.2.2.1⟩ hw (by omega)
    have h3 := hE w hrg.2.2.1 hrg.2.2.2.1 hw (by omega)
    have h4 := hr i hi hu v w hg
    omega
noncomputable def refF (n : Nat) (T : Nat → Tr) (U : Nat → Bool) (to : Int) (v : Int) : Int := if distF n T U to v < 0 then 1099511627776 else distF n T U to v
theorem ref_is (hT : ∀ i, i < n → (T i).ok) {E : Nat → Int} (h : RefInv n T U to E) {k : Nat} (hk : 255 ≤ k) (hd : RefDone (distF n T U to) E k) {i : Nat} (hi : i < 256) : E i = refF n T U to (i : Int) := by
  have hD := distF_is (n := n) (T := T) (U := U) (to := to) hT
  have lo := h.low i hi
  have hb := dist_bound hT hD (v := (i : Int)) (by omega)
  unfold refF
  by_cases hlt : distF n T U to (i : Int) < 0
  · rw [if_pos hlt]
    apply Classical.byContradiction
    intro hc
    obtain ⟨p, hp⟩ := h.walk i hi (by omega)
    have := hD.least _ _ _ hp
    omega
  · rw [if_neg hlt]
    have h1 := hd (i : Int) (by omega) (by omega) (by omega) (by have := rank_le (D := distF n T U to) (v := (i : Int)) (by omega); omega)
    have e : ((i : Int)).toNat = i := by omega
    rw [e] at h1
    obtain ⟨p, hp⟩ := h.walk i hi (by omega)
    have := (hD.least _ _ _ hp).2
    omega

/- THE WAY BY LEAST TRAYS. -/
def StepOk (n : Nat) (T : Nat → Tr) (U : Nat → Bool) (D : Int → Int) (v : Int) (i : Nat) (w : Int) : Prop := i < n ∧ U i = true ∧ Goes (T i) v w ∧ 0 ≤ D w ∧ D w + (T i).L = D v
inductive Gr (n : Nat) (T : Nat → Tr) (U : Nat → Bool) (D : Int → Int) (to : Int) : Int → List Nat → Prop
  | nil : Gr n T U D to to []
  | cons {v w : Int} {i : Nat} {p : List Nat} : v ≠ to → StepOk n T U D v i w → (∀ j, j < i → ∀ w', ¬ StepOk n T U D v j w') → Gr n T U D to w p → Gr n T U D to v (i :: p)
theorem Gr.uniq (hT : ∀ i, i < n → (T i).ok) {D : Int → Int} {v : Int} {p q : List Nat} (h : Gr n T U D to v p) (h' : Gr n T U D to v q) : p = q := by
  induction h generalizing q with
  | nil =>
    cases h' with
    | nil => rfl
    | cons hne _ _ _ => exact absurd rfl hne
  | @cons v w i p hne hs hl _ ih =>
    cases h' with
    | nil => exact absurd rfl hne
    | @cons _ w' j q _ hs' hl' h2 =>
      have : i = j := by
        rcases Nat.lt_trichotomy i j with h1 | h1 | h1
        · exact absurd hs (hl' i h1 w)
        · exact h1
        · exact absurd hs' (hl j h1 w')
      subst this
      have := hs.2.2.1.uniq (hT i hs.1).2.2.2.2.2.2.2.2 hs'.2.2.1
      subst this
      rw [ih h2]
theorem gr_ex (hT : ∀ i, i < n → (T i).ok) {D : Int → Int} (h : DistIs n T U to D) : ∀ (k : Nat) (v : Int), 0 ≤ v ∧ v ≤ 255 → 0 ≤ D v → D v ≤ k → ∃ p, Gr n T U D to v p := by
  intro k
  induction k with
  | zero => exact fun v hv hd hk => ⟨[], (h.iff_zero hT hv (by omega)) ▸ .nil⟩
  | succ k ih =>
    intro v hv hd hk
    by_cases hne : v = to
    · subst hne; exact ⟨[], .nil⟩
    · obtain ⟨i, w, hs⟩ := h.first hT hv hd hne
      obtain ⟨i, ⟨w, hs⟩, hl⟩ := least_nat (P := fun i => ∃ w, StepOk n T U D v i w) ⟨i, w, hs⟩
      have hrg := hs.2.2.1.range (hT i hs.1)
      have hok := hT i hs.1
      unfold Tr.ok at hok
      have he := hs.2.2.2.2
      obtain ⟨p, hp⟩ := ih w ⟨hrg.2.2.1, hrg.2.2.2.1⟩ hs.2.2.2.1 (by omega)
      exact ⟨i :: p, .cons hne hs (fun j hj w' hs' => by have := hl j ⟨w', hs'⟩; omega) hp⟩
open Classical in
noncomputable def routeL (n : Nat) (T : Nat → Tr) (U : Nat → Bool) (to v : Int) : List Nat := if h : ∃ p, Gr n T U (distF n T U to) to v p then Classical.choose h else []
theorem routeL_gr (hT : ∀ i, i < n → (T i).ok) {v : Int} (hv : 0 ≤ v ∧ v ≤ 255) (hd : 0 ≤ distF n T U to v) : Gr n T U (distF n T U to) to v (routeL n T U to v) := by
  have h := gr_ex hT (distF_is (U := U) (to := to) hT) (distF n T U to v).toNat v hv hd (by omega)
  unfold routeL
  rw [dif_pos h]
  exact Classical.choose_spec h
theorem gr_routeL (hT : ∀ i, i < n → (T i).ok) {v : Int} {p : List Nat} (h : Gr n T U (distF n T U to) to v p) : routeL n T U to v = p := by
  have hx : ∃ p, Gr n T U (distF n T U to) to v p := ⟨p, h⟩
  unfold routeL
  rw [dif_pos hx]
  exact (Classical.choose_spec hx).uniq hT h
theorem Gr.wk (hT : ∀ i, i < n → (T i).ok) {D : Int → Int} (h0 : D to = 0) {v : Int} {p : List Nat} (h : Gr n T U D to v p) : Wk n T U to v p (D v) := by
  induction h with
  | nil => rw [h0]; exact .nil
  | @cons v w i p hne hs _ _ ih =>
    rw [show D v = (T i).L + D w by have := hs.2.2.2.2; omega]
    exact .cons hs.1 hs.2.1 hs.2.2.1 ih
theorem Gr.dist_le (hT : ∀ i, i < n → (T i).ok) {D : Int → Int} {v : Int} {p : List Nat} (h : Gr n T U D to v p) : ∀ j, j ∈ p → ∃ x y, StepOk n T U D x j y ∧ D x ≤ D v := by
  induction h with
  | nil => intro j hj; cases hj
  | @cons v w i p hne hs _ _ ih =>
    intro j hj
    have hok := hT i hs.1
    unfold Tr.ok at hok
    have := hs.2.2.2.2
    rcases List.mem_cons.1 hj with rfl | hj
    · exact ⟨v, w, hs, Int.le_refl _⟩
    · obtain ⟨x, y, h1, h2⟩ := ih j hj
      exact ⟨x, y, h1, by omega⟩
/-- no tray twice -/
theorem Gr.nodup (hT : ∀ i, i < n → (T i).ok) {D : Int → Int} {v : Int} {p : List Nat} (h : Gr n T U D to v p) : p.Nodup := by
  induction h with
  | nil => exact List.nodup_nil
  | @cons v w i p hne hs _ hp ih =>
    refine List.nodup_cons.2 ⟨fun hm => ?_, ih⟩
    have hok := hT i hs.1
    unfold Tr.ok at hok
    have := hs.2.2.2.2
    obtain ⟨x, y, h1, h2⟩ := hp.dist_le hT i hm
    have h3 := h1.2.2.2.2
    have h4 := hs.2.2.1
    have h5 := h1.2.2.1
    rcases h4 with ⟨a1, a2⟩ | ⟨a1, a2⟩ <;> rcases h5 with ⟨a3, a4⟩ | ⟨a3, a4⟩ <;> (subst a1 a2 a3 a4; omega)
/-- the way is the first one of all that are as long -/
theorem gr_first (hT : ∀ i, i < n → (T i).ok) {D : Int → Int} (hD : DistIs n T U to D) {v : Int} {p : List Nat} (h : Gr n T U D to v p) : ∀ {q : List Nat}, Wk n T U to v q (D v) → p = q ∨ ∃ k, k < p.length ∧ k < q.length ∧ p.getD k 0 < q.getD k 0 ∧ ∀ j, j < k → p.getD j 0 = q.getD j 0 := by
  induction h with
  | nil =>
    intro q hq
    have h0 := hD.zero hT
    rw [h0] at hq
    generalize hl : (0 : Int) = l at hq
    cases hq with
    | nil => exact .inl rfl
    | cons hi _ _ hw =>
      have := hw.nonneg hT
      have := (hT _ hi).2.2.2.2.1
      omega
  | @cons v w i p hne hs hl hp ih =>
    intro q hq
    generalize hlv : D v = l at hq
    cases hq with
    | nil => exact absurd rfl hne
    | @cons _ w' j q l' hj hu hg hw =>
      have h1 := hD.least _ _ _ hw
      have h2 := hD.edge hT hj hu hg h1.1
      have hs' : StepOk n T U D v j w' := ⟨hj, hu, hg, h1.1, by omega⟩
      rcases Nat.lt_trichotomy i j with hlt | heq | hgt
      · exact .inr ⟨0, by simp, by simp, by simpa using hlt, fun j hj => by omega⟩
      · subst heq
        have := hs.2.2.1.uniq (hT i hs.1).2.2.2.2.2.2.2.2 hg
        subst this
        rw [show l' = D w by have := hs.2.2.2.2; omega] at hw
        rcases ih hw with rfl | ⟨k, k1, k2, k3, k4⟩
        · exact .inl rfl
        · refine .inr ⟨k + 1, by simp; omega, by simp; omega, by simpa using k3, fun j hj => ?_⟩
          cases j with
          | zero => rfl
          | succ j => simpa using k4 j (by omega)
      · exact absurd hs' (hl j hgt w')
end
end Go.Proofs.YtpkgadjglidnaaaDoor
