/-
  What Share returns, in one. Conditions: none. By an AI agent.
-/
import Derived.Test.YtbfbifogamlepaaDoorCraneH
import Derived.Test.YtbfbifogamlepaaDoorCraneI
import Derived.Test.YtbfbifogamlepaaDoorCraneJ
namespace Go.Proofs.YtbfbifogamlepaaDoor
open Go.RowKit
set_option linter.unusedSimpArgs false

def ShareIn (mass ax ay bx by' cx cy : Int) : Prop := 0 ≤ mass ∧ mass ≤ 1099511627776 ∧ InP ax ay ∧ InP bx by' ∧ InP cx cy
instance shareIn_dec (mass ax ay bx by' cx cy : Int) : Decidable (ShareIn mass ax ay bx by' cx cy) := by unfold ShareIn; exact inferInstance
def ShareOn (ax ay bx by' cx cy : Int) : Prop := (ax, ay) ≠ (bx, by') ∧ OnSeg ax ay bx by' cx cy
instance shareOn_dec (ax ay bx by' cx cy : Int) : Decidable (ShareOn ax ay bx by' cx cy) := by unfold ShareOn; exact inferInstance
def shareF (mass ax ay bx by' cx cy : Int) : Int × Int × Int :=
  if ShareIn mass ax ay bx by' cx cy then
    if ShareOn ax ay bx by' cx cy then
      if ab (bx - ax) < ab (by' - ay) then (ceilF (mass * ab (by' - cy)) (ab (by' - ay)), ceilF (mass * ab (cy - ay)) (ab (by' - ay)), 0)
      else (ceilF (mass * ab (bx - cx)) (ab (bx - ax)), ceilF (mass * ab (cx - ax)) (ab (bx - ax)), 0)
    else (0, 0, 17)
  else (0, 0, 9)
theorem ab_sub (x y : Int) : ab (x - y) = ab (y - x) := by unfold ab mx; split <;> split <;> omega
theorem ab_zero {n : Int} (h : ab n ≤ 0) : n = 0 := by unfold ab mx at h; split at h <;> omega
def shareV (t : Int × Int × Int) : Value := .tuple #[.int .i64 t.1, .int .i64 t.2.1, .int .i64 t.2.2]
theorem share_any (mass ax ay bx by' cx cy : Int) (w : World) : Calls Tryd.prog 41 #[.int .i64 mass, .agg #[.int .i64 ax, .int .i64 ay], .agg #[.int .i64 bx, .int .i64 by'], .agg #[.int .i64 cx, .int .i64 cy]] w fun e w' => e = .returned (shareV (shareF mass ax ay bx by' cx cy)) ∧ Below w.heap.size w w' := by
  by_cases hin : ShareIn mass ax ay bx by' cx cy
  · obtain ⟨hm0, hm1, ha, hb, hc⟩ := id hin
    by_cases hon : ShareOn ax ay bx by' cx cy
    · have heq : decide ((ax, ay) = (bx, by')) = false := decide_eq_false hon.1
      obtain ⟨hx, g0, g1, g2, g3⟩ := hon.2
      by_cases hd : ab (bx - ax) < ab (by' - ay)
      · have E : shareF mass ax ay bx by' cx cy = (ceilF (mass * ab (by' - cy)) (ab (by' - ay)), ceilF (mass * ab (cy - ay)) (ab (by' - ay)), 0) := by unfold shareF; rw [if_pos hin, if_pos hon, if_pos hd]
        rw [E]
        exact share_gy mass ax ay bx by' cx cy w hm0 hm1 ha hb hc g0 g1 g2 g3 heq hx _ _ _ _ _ _ rfl rfl rfl rfl rfl rfl hd
      · have E : shareF mass ax ay bx by' cx cy = (ceilF (mass * ab (bx - cx)) (ab (bx - ax)), ceilF (mass * ab (cx - ax)) (ab (bx - ax)), 0) := by unfold shareF; rw [if_pos hin, if_pos hon, if_neg hd]
        rw [E]
        have hpos : 0 < ab (bx - ax) := by
          apply Classical.byContradiction
          intro hn
          have h1 := ab_zero (n := bx - ax) (by omega)
          have h2 := ab_zero (n := by' - ay) (by omega)
          exact hon.1 (by rw [show ax = bx by omega, show ay = by' by omega])
        exact share_gx mass ax ay bx by' cx cy w hm0 hm1 ha hb hc g0 g1 g2 g3 heq hx _ _ _ _ _ _ rfl rfl rfl rfl rfl rfl (by omega) hpos
    · have E : shareF mass ax ay bx by' cx cy = (0, 0, 17) := by unfold shareF; rw [if_pos hin, if_neg hon]
      rw [E]
      by_cases heq : (ax, ay) = (bx, by')
      · have heq := decide_eq_true heq
        by_cases g0 : mn ax bx ≤ cx
        case neg => exact share_s0e mass ax ay bx by' cx cy w hm0 hm1 ha hb hc  (by omega) heq
        by_cases g1 : cx ≤ mx ax bx
        case neg => exact share_s1e mass ax ay bx by' cx cy w hm0 hm1 ha hb hc g0 (by omega) heq
        by_cases g2 : mn ay by' ≤ cy
        case neg => exact share_s2e mass ax ay bx by' cx cy w hm0 hm1 ha hb hc g0 g1 (by omega) heq
        by_cases g3 : cy ≤ mx ay by'
        case neg => exact share_s3e mass ax ay bx by' cx cy w hm0 hm1 ha hb hc g0 g1 g2 (by omega) heq
        exact share_sye mass ax ay bx by' cx cy w hm0 hm1 ha hb hc g0 g1 g2 g3 heq
      · have hno : ¬ OnSeg ax ay bx by' cx cy := fun h => hon ⟨heq, h⟩
        have heq := decide_eq_false heq
        by_cases g0 : mn ax bx ≤ cx
        case neg => exact share_s0n mass ax ay bx by' cx cy w hm0 hm1 ha hb hc  (by omega) heq
        by_cases g1 : cx ≤ mx ax bx
        case neg => exact share_s1n mass ax ay bx by' cx cy w hm0 hm1 ha hb hc g0 (by omega) heq
        by_cases g2 : mn ay by' ≤ cy
        case neg => exact share_s2n mass ax ay bx by' cx cy w hm0 hm1 ha hb hc g0 g1 (by omega) heq
        by_cases g3 : cy ≤ mx ay by'
        case neg => exact share_s3n mass ax ay bx by' cx cy w hm0 hm1 ha hb hc g0 g1 g2 (by omega) heq
        exact share_sx mass ax ay bx by' cx cy w hm0 hm1 ha hb hc g0 g1 g2 g3 heq (fun hx => hno ⟨hx, g0, g1, g2, g3⟩)
  · have E : shareF mass ax ay bx by' cx cy = (0, 0, 9) := by unfold shareF; rw [if_neg hin]
    rw [E]
    by_cases hm : mass < 0
    · exact share_r0 mass ax ay bx by' cx cy w hm
    · by_cases hm1 : 1099511627776 < mass
      · exact share_r1 mass ax ay bx by' cx cy w (by omega) hm1
      · by_cases ha : InP ax ay
        · by_cases hb : InP bx by'
          · by_cases hc : InP cx cy
            · exact absurd ⟨by omega, by omega, ha, hb, hc⟩ hin
            · exact share_r4 mass ax ay bx by' cx cy w (by omega) (by omega) ha hb hc
          · exact share_r3 mass ax ay bx by' cx cy w (by omega) (by omega) ha hb
        · exact share_r2 mass ax ay bx by' cx cy w (by omega) (by omega) ha
theorem rshare_any (mass ax ay bx by' cx cy : Int) (w : World) : Calls Tryd.prog 36 #[.int .i64 mass, .agg #[.int .i64 ax, .int .i64 ay], .agg #[.int .i64 bx, .int .i64 by'], .agg #[.int .i64 cx, .int .i64 cy]] w fun e w' => e = .returned (shareV (shareF mass ax ay bx by' cx cy)) ∧ Below w.heap.size w w' := by
  by_cases hin : ShareIn mass ax ay bx by' cx cy
  · obtain ⟨hm0, hm1, ha, hb, hc⟩ := id hin
    by_cases hon : ShareOn ax ay bx by' cx cy
    · have heq : decide ((ax, ay) = (bx, by')) = false := decide_eq_false hon.1
      obtain ⟨hx, g0, g1, g2, g3⟩ := hon.2
      by_cases hd : ab (bx - ax) < ab (by' - ay)
      · have E : shareF mass ax ay bx by' cx cy = (ceilF (mass * ab (by' - cy)) (ab (by' - ay)), ceilF (mass * ab (cy - ay)) (ab (by' - ay)), 0) := by unfold shareF; rw [if_pos hin, if_pos hon, if_pos hd]
        rw [E]
        exact rshare_gy mass ax ay bx by' cx cy w hm0 hm1 ha hb hc heq (decide_eq_true hon.2) _ _ _ _ _ _ rfl rfl rfl (ab_sub _ _) (ab_sub _ _) rfl (by rw [ab_sub ax bx]; exact hd)
      · have E : shareF mass ax ay bx by' cx cy = (ceilF (mass * ab (bx - cx)) (ab (bx - ax)), ceilF (mass * ab (cx - ax)) (ab (bx - ax)), 0) := by unfold shareF; rw [if_pos hin, if_pos hon, if_neg hd]
        rw [E]
        have hpos : 0 < ab (bx - ax) := by
          apply Classical.byContradiction
          intro hn
          have h1 := ab_zero (n := bx - ax) (by omega)
          have h2 := ab_zero (n := by' - ay) (by omega)
          exact hon.1 (by rw [show ax = bx by omega, show ay = by' by omega])
        exact rshare_gx mass ax ay bx by' cx cy w hm0 hm1 ha hb hc heq (decide_eq_true hon.2) _ _ _ _ _ _ (ab_sub _ _) (ab_sub _ _) rfl rfl rfl rfl (by rw [ab_sub ay by']; omega) hpos
    · have E : shareF mass ax ay bx by' cx cy = (0, 0, 17) := by unfold shareF; rw [if_pos hin, if_neg hon]
      rw [E]
      by_cases heq : (ax, ay) = (bx, by')
      · have heq := decide_eq_true heq
        exact rshare_se mass ax ay bx by' cx cy w hm0 hm1 ha hb hc heq
      · have hno : ¬ OnSeg ax ay bx by' cx cy := fun h => hon ⟨heq, h⟩
        have heq := decide_eq_false heq
        exact rshare_sn mass ax ay bx by' cx cy w hm0 hm1 ha hb hc heq (decide_eq_false hno)
  · have E : shareF mass ax ay bx by' cx cy = (0, 0, 9) := by unfold shareF; rw [if_neg hin]
    rw [E]
    by_cases hm : mass < 0
    · exact rshare_r0 mass ax ay bx by' cx cy w hm
    · by_cases hm1 : 1099511627776 < mass
      · exact rshare_r1 mass ax ay bx by' cx cy w (by omega) hm1
      · by_cases ha : InP ax ay
        · by_cases hb : InP bx by'
          · by_cases hc : InP cx cy
            · exact absurd ⟨by omega, by omega, ha, hb, hc⟩ hin
            · exact rshare_r4 mass ax ay bx by' cx cy w (by omega) (by omega) ha hb hc
          · exact rshare_r3 mass ax ay bx by' cx cy w (by omega) (by omega) ha hb
        · exact rshare_r2 mass ax ay bx by' cx cy w (by omega) (by omega) ha
end Go.Proofs.YtbfbifogamlepaaDoor
