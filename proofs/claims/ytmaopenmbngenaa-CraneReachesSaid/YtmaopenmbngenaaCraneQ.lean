/-
  Of the law CraneReaches: what an accepted chart answers. Conditions: none. By an AI agent.
-/
import Derived.Test.YtmaopenmbngenaaCraneN
namespace Go.Proofs.Ytmaopenmbngenaa
open Go Go.ChangeShapes Go.WideShapes Go.RowKit Go.ChangeAt
set_option linter.unusedSimpArgs false
set_option linter.unusedVariables false

/-- what an accepted chart is -/
structure ChartOk (n : Nat) (r q : Nat → Int) : Prop where
  good : ∀ i, i < n → ¬ RowBad r q i
  up : ∀ i, i < n → ¬ RowDown r q i
theorem chartFrom_ok {n : Nat} {r q : Nat → Int} : ∀ m j, j + m = n → chartFrom r q m j = 0 → ∀ i, j ≤ i → i < n → ¬ RowBad r q i ∧ ¬ RowDown r q i
  | 0, j, hn, _, i, h1, h2 => by omega
  | m + 1, j, hn, h, i, h1, h2 => by
    unfold chartFrom at h
    split at h
    · omega
    · rename_i hb
      split at h
      · omega
      · rename_i hd
        by_cases hij : i = j
        · subst hij; exact ⟨hb, hd⟩
        · exact chartFrom_ok m (j + 1) (by omega) h i (by omega) h2
theorem chart_ok {n : Nat} {r q : Nat → Int} (h : chartF n r q = 0) : ChartOk n r q := by
  unfold chartF at h
  split at h
  · omega
  · split at h
    · omega
    · exact ⟨fun i hi => (chartFrom_ok n 0 (by omega) h i (by omega) hi).1, fun i hi => (chartFrom_ok n 0 (by omega) h i (by omega) hi).2⟩
theorem check_one {s : ByteArray} {n : Nat} {r q : Nat → Int} (h : checkF 1 (fun _ => s) (fun _ => n) (fun _ => r) (fun _ => q) = 0) : ChartOk n r q := by
  unfold checkF at h
  rw [if_neg (by omega)] at h
  unfold checkFrom at h
  split at h
  · rename_i h1; exact absurd h h1
  · rename_i h1
    have h2 : CheckErr (fun _ => s) (fun _ => n) (fun _ => r) (fun _ => q) 0 = 0 := by omega
    unfold CheckErr at h2
    split at h2
    · omega
    · split at h2
      · omega
      · exact chart_ok h2
theorem down_le {n : Nat} {r q : Nat → Int} (h : ChartOk n r q) : ∀ d i, i + d < n → q (i + d) ≤ q i
  | 0, i, _ => Int.le_refl _
  | d + 1, i, hi => by
    have h1 := down_le h d i (by omega)
    have h2 := h.up (i + (d + 1)) hi
    unfold RowDown at h2
    have h3 : i + (d + 1) - 1 = i + d := by omega
    rw [h3] at h2
    omega
theorem load_le {n : Nat} {r q : Nat → Int} (h : ChartOk n r q) {x y : Int} (hx : 0 ≤ x) (hy : 1 ≤ y) : y ≤ loadF n r q x ↔ ∃ m, m < n ∧ x ≤ r m ∧ y ≤ q m := by
  unfold loadF
  rw [if_neg (by omega)]
  obtain ⟨h1, h2, h3, h4⟩ := firstFrom_spec (fun i => decide (x ≤ r i)) n 0
  constructor
  · intro hl
    by_cases hk : firstFrom (fun i => decide (x ≤ r i)) n 0 < n
    · simp only [hk, if_true] at hl
      exact ⟨_, hk, by simpa using h3 (by omega), hl⟩
    · simp only [hk, if_false] at hl
      omega
  · rintro ⟨m, hm, hxm, hym⟩
    have hkm : firstFrom (fun i => decide (x ≤ r i)) n 0 ≤ m := by
      apply Classical.byContradiction
      intro hc
      have := h4 m (by omega) (by omega)
      simp at this
      omega
    have hk : firstFrom (fun i => decide (x ≤ r i)) n 0 < n := by omega
    simp only [hk, if_true]
    have := down_le h (m - firstFrom (fun i => decide (x ≤ r i)) n 0) (firstFrom (fun i => decide (x ≤ r i)) n 0) (by omega)
    rw [show firstFrom (fun i => decide (x ≤ r i)) n 0 + (m - firstFrom (fun i => decide (x ≤ r i)) n 0) = m by omega] at this
    omega
theorem load_nonneg {n : Nat} {r q : Nat → Int} (h : ChartOk n r q) (x : Int) : 0 ≤ loadF n r q x := by
  unfold loadF
  split
  · omega
  · by_cases hk : firstFrom (fun i => decide (x ≤ r i)) n 0 < n
    · simp only [hk, if_true]
      have := h.good _ hk
      unfold RowBad at this
      omega
    · simp only [hk, if_false]; omega
theorem load_mono {n : Nat} {r q : Nat → Int} (h : ChartOk n r q) {x x' : Int} (hx : 0 ≤ x) (hl : x ≤ x') : loadF n r q x' ≤ loadF n r q x := by
  have h0 := load_nonneg h x'
  by_cases h1 : loadF n r q x' ≤ 0
  · have := load_nonneg h x; omega
  · obtain ⟨m, hm, ha, hb⟩ := (load_le h (x := x') (y := loadF n r q x') (by omega) (by omega)).1 (Int.le_refl _)
    exact (load_le h hx (by omega)).2 ⟨m, hm, by omega, hb⟩
theorem reach_le {r q : Nat → Int} {x y : Int} (hx : 0 ≤ x) : ∀ n, x ≤ reachTo r q y n ↔ ∃ m, m < n ∧ x ≤ r m ∧ y ≤ q m
  | 0 => ⟨fun h => by unfold reachTo at h; omega, fun ⟨m, hm, _⟩ => by omega⟩
  | n + 1 => by
    have ih := reach_le (r := r) (q := q) (y := y) hx n
    unfold reachTo
    split
    · rename_i hy
      constructor
      · intro h
        by_cases hc : x ≤ r n
        · exact ⟨n, by omega, hc, hy⟩
        · obtain ⟨m, hm, h2⟩ := ih.1 (by unfold mx at h; split at h <;> omega)
          exact ⟨m, by omega, h2⟩
      · rintro ⟨m, hm, h2, h3⟩
        by_cases hmn : m = n
        · subst hmn; unfold mx; split <;> omega
        · have := ih.2 ⟨m, by omega, h2, h3⟩
          unfold mx; split <;> omega
    · rename_i hy
      rw [ih]
      constructor
      · rintro ⟨m, hm, h2⟩; exact ⟨m, by omega, h2⟩
      · rintro ⟨m, hm, h2, h3⟩
        by_cases hmn : m = n
        · subst hmn; omega
        · exact ⟨m, by omega, h2, h3⟩
theorem one_slice {w : World} {s : ByteArray} {oa : Option Addr} {n cap : Nat} {r q : Nat → Int} (hs : s.size ≤ 9223372036854775807) (h : PairsAt w (.slice oa n cap) n r q) :
    CranesAt (w.alloc (.cells #[.string s, .slice oa n cap] 29)) (.slice (some ⟨w.heap.size, 0, none⟩) 1 1) 1 (fun _ => s) (fun _ => .slice oa n cap) (fun _ => n) (fun _ => r) (fun _ => q) := by
  refine ⟨⟨_, 1, rfl, by omega, by omega, fun _ => ⟨_, 0, rfl, by simp, fun i j hi hj => ?_⟩⟩, fun i hi => ⟨hs, h.below ((Below.refl w.heap.size w).alloc (Nat.le_refl _) _)⟩⟩
  rcases (by omega : i = 0) with rfl
  rcases (by omega : j = 0 ∨ j = 1) with rfl | rfl <;> simp [go_sem]
theorem load_val {v : Value} {s : ByteArray} {n : Nat} {r q : Nat → Int} {x : Int} {w : World} {l : Int} (h : PairsAt w v n r q) (hl : loadF n r q x = l) :
    Calls Try.prog 13 #[.agg #[.string s, v], .int .i64 x] w fun e w' => e = .returned (.int .i64 l) ∧ Below w.heap.size w w' := by
  subst hl; exact load_any v s n r q x w h
theorem reach_val {v : Value} {s : ByteArray} {n : Nat} {r q : Nat → Int} {x : Int} {w : World} {l : Int} (h : PairsAt w v n r q) (hl : reachTo r q x n = l) :
    Calls Try.prog 15 #[.agg #[.string s, v], .int .i64 x] w fun e w' => e = .returned (.int .i64 l) ∧ Below w.heap.size w w' := by
  subst hl; exact reach_any v s n r q x w h
end Go.Proofs.Ytmaopenmbngenaa
