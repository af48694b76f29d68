/-
  The plain laws of the loads. Conditions: none. By an AI agent.
-/
import Derived.Test.YtbfbifogamlepaaDoorBal
import Derived.Test.YtbfbifogamlepaaDoorLiftF
namespace Go.Proofs.YtbfbifogamlepaaDoor
open Go Go.ChangeShapes Go.WideShapes Go.RowKit Go.ChangeAt
set_option linter.unusedSimpArgs false
set_option linter.unusedVariables false
theorem gross_facts {m x y z v : Int} (h : (grossF m x y z v).2 = 0) : 0 ≤ (grossF m x y z v).1 ∧ (grossF m x y z v).1 ≤ 4611686018427387 ∧ 105 * m ≤ 100 * (grossF m x y z v).1 := by
  obtain ⟨hw, hm⟩ := gross_ok h
  obtain ⟨s0, s1⟩ := rootF_bd v
  have hm1 := hw.1.2
  have e : (grossF m x y z v).1 = ceilF ((m + 3000 * rootF v) * 105) 100 := by unfold grossF; rw [if_pos hw, if_neg (by omega)]
  obtain ⟨c0, c1, c2⟩ := ceil_low ((m + 3000 * rootF v) * 105) 100 (by omega) (by omega)
  rw [e]
  omega
theorem seg_facts {g px py qx qy tx ty : Int} (h : (segF g px py qx qy tx ty).2 = 0) :
    ∃ a b, (segF g px py qx qy tx ty).1 = [a, b] ∧ 0 ≤ a ∧ 0 ≤ b ∧ a ≤ g ∧ b ≤ g ∧ (a + b = g ∨ a + b = g + 1) := by
  unfold segF at h ⊢
  split at h
  · cases h
  · rename_i h1
    rw [if_neg h1]
    split at h
    · rename_i h2
      rw [if_pos h2]
      have h3 : ShareIn g px 0 qx 0 tx 0 := by
        apply Classical.byContradiction
        intro hn
        unfold shareF at h2
        rw [if_neg hn] at h2
        cases h2
      have h4 : ShareOn px 0 qx 0 tx 0 := by
        apply Classical.byContradiction
        intro hn
        unfold shareF at h2
        rw [if_pos h3, if_neg hn] at h2
        cases h2
      obtain ⟨-, a, b, e, hab⟩ := share_facts h3 h4
      exact ⟨a, b, by rw [e], hab⟩
    · rename_i h2; exact absurd h h2
theorem shared_facts {g ax ay bx by' cx cy : Int} (h : (sharedF g ax ay bx by' cx cy).2 = 0) :
    ∃ a b, (sharedF g ax ay bx by' cx cy).1 = [a, b] ∧ 0 ≤ a ∧ 0 ≤ b ∧ a ≤ g ∧ b ≤ g ∧ (a + b = g ∨ a + b = g + 1) := by
  unfold sharedF at h ⊢
  split at h
  · cases h
  · rename_i h1
    rw [if_neg h1]
    split at h
    · rename_i h2; rw [if_pos h2]; exact seg_facts h
    · rename_i h2; rw [if_neg h2]; exact seg_facts h
/-- what Loads returns where it returns loads -/
theorem loads_facts {n : Nat} {hx hy : Nat → Int} {m x y z v : Int} (h : (loadsF n hx hy m x y z v).2 = 0) :
    (grossF m x y z v).2 = 0 ∧ ((n = 1 ∧ (loadsF n hx hy m x y z v).1 = [(grossF m x y z v).1]) ∨ (n = 2 ∧ ∃ a b, (loadsF n hx hy m x y z v).1 = [a, b] ∧ 0 ≤ a ∧ 0 ≤ b ∧ a ≤ (grossF m x y z v).1 ∧ b ≤ (grossF m x y z v).1 ∧ (a + b = (grossF m x y z v).1 ∨ a + b = (grossF m x y z v).1 + 1))) := by
  unfold loadsF at h ⊢
  split at h
  · cases h
  · rename_i h0
    rw [if_neg h0]
    split at h
    · cases h
    · rename_i h2
      rw [if_neg h2]
      split at h
      · rename_i hg; exact absurd h hg
      · rename_i hg
        rw [if_neg hg]
        refine ⟨by omega, ?_⟩
        split at h
        · cases h
        · rename_i ha
          rw [if_neg ha]
          split at h
          · rename_i e1
            rw [if_pos e1]
            split at h
            · rename_i hn; rw [if_pos hn]; exact .inl ⟨e1, rfl⟩
            · cases h
          · rename_i e1
            rw [if_neg e1]
            exact .inr ⟨by omega, shared_facts h⟩
theorem seg_none {g px py qx qy tx ty : Int} (h : (segF g px py qx qy tx ty).2 ≠ 0) : (segF g px py qx qy tx ty).1 = [] := by
  unfold segF at h ⊢
  split at h
  · rename_i h1; rw [if_pos h1]
  · rename_i h1
    rw [if_neg h1]
    split at h
    · exact absurd rfl h
    · rename_i h2; rw [if_neg h2]
theorem loads_none {n : Nat} {hx hy : Nat → Int} {m x y z v : Int} (h : (loadsF n hx hy m x y z v).2 ≠ 0) : (loadsF n hx hy m x y z v).1 = [] := by
  unfold loadsF at h ⊢
  split at h
  · rename_i h0; rw [if_pos h0]
  · rename_i h0
    rw [if_neg h0]
    split at h
    · rename_i h2; rw [if_pos h2]
    · rename_i h2
      rw [if_neg h2]
      split at h
      · rename_i hg; rw [if_pos hg]
      · rename_i hg
        rw [if_neg hg]
        split at h
        · rename_i ha; rw [if_pos ha]
        · rename_i ha
          rw [if_neg ha]
          split at h
          · rename_i e1
            rw [if_pos e1]
            split at h
            · exact absurd rfl h
            · rename_i hn; rw [if_neg hn]
          · rename_i e1
            rw [if_neg e1]
            unfold sharedF at h ⊢
            split at h
            · rename_i q; rw [if_pos q]
            · rename_i q
              rw [if_neg q]
              split at h
              · rename_i q2; rw [if_pos q2]; exact seg_none h
              · rename_i q2; rw [if_neg q2]; exact seg_none h
end Go.Proofs.YtbfbifogamlepaaDoor
