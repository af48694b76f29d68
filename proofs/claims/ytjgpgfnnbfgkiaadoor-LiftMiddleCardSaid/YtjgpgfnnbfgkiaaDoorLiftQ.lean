/-
  Plain laws: hooks in the opposite order, and at equal distances. Conditions: none. By an AI agent.
-/
import Derived.Test.YtjgpgfnnbfgkiaaDoorLiftP
import Derived.Test.YtjgpgfnnbfgkiaaDoorCells
namespace Go.Proofs.YtjgpgfnnbfgkiaaDoor
open Go Go.ChangeShapes Go.WideShapes Go.RowKit Go.ChangeAt
set_option linter.unusedSimpArgs false
set_option linter.unusedVariables false
def twoF {α : Type} (a b : α) (i : Nat) : α := match i with | 0 => a | _ => b
theorem hooks_two {w : World} {g : Nat} {s0 s1 : ByteArray} {x0 y0 r0 x1 y1 r1 : Int} {t : TypeId} (h0 : s0.size ≤ 9223372036854775807) (h1 : s1.size ≤ 9223372036854775807)
    (h : w.heap[g]? = some (.cells #[.string s0, .int .i64 x0, .int .i64 y0, .int .i64 r0, .string s1, .int .i64 x1, .int .i64 y1, .int .i64 r1] t)) :
    HooksAt w (.slice (some ⟨g, 0, none⟩) 2 2) 2 (twoF s0 s1) (twoF x0 x1) (twoF y0 y1) (twoF r0 r1) := by
  obtain ⟨k0, k1, k2, k3, k4, k5, k6, k7, -, hl⟩ := cells_at8 h
  refine ⟨⟨_, 2, rfl, by omega, by omega, fun _ => ⟨_, 0, rfl, hl, fun i j hi hj => ?_⟩⟩, fun i hi => ?_⟩
  · rcases (by omega : i = 0 ∨ i = 1) with rfl | rfl <;> rcases (by omega : j = 0 ∨ j = 1 ∨ j = 2 ∨ j = 3) with rfl | rfl | rfl | rfl
    · exact k0
    · exact k1
    · exact k2
    · exact k3
    · exact k4
    · exact k5
    · exact k6
    · exact k7
  · rcases (by omega : i = 0 ∨ i = 1) with rfl | rfl
    · exact h0
    · exact h1
theorem segBad_swap (px py qx qy tx ty : Int) : SegBad qx qy px py tx ty ↔ SegBad px py qx qy tx ty := by
  have e : ab ((px - qx) * (ty - qy) - (py - qy) * (tx - qx)) = ab ((qx - px) * (ty - py) - (qy - py) * (tx - px)) := by
    rw [show (px - qx) * (ty - qy) - (py - qy) * (tx - qx) = -((qx - px) * (ty - py) - (qy - py) * (tx - px)) by
      rw [show px - qx = -(qx - px) by omega, show py - qy = -(qy - py) by omega, show ty - qy = (ty - py) - (qy - py) by omega, show tx - qx = (tx - px) - (qx - px) by omega, Int.neg_mul, Int.neg_mul, Int.mul_sub (qx - px) (ty - py) (qy - py), Int.mul_sub (qy - py) (tx - px) (qx - px), Int.mul_comm (qx - px) (qy - py)]
      omega]
    rw [ab_nat, ab_nat, Int.natAbs_neg]
  unfold SegBad
  rw [e, mn_comm qx px, mx_comm qx px, ab_sub px qx]
theorem seg_swap (g px py qx qy tx ty : Int) : (segF g qx qy px py tx ty).2 = (segF g px py qx qy tx ty).2 ∧ ((segF g px py qx qy tx ty).2 = 0 → ∃ a b, (segF g px py qx qy tx ty).1 = [a, b] ∧ (segF g qx qy px py tx ty).1 = [b, a]) := by
  unfold segF
  rw [share_swap g px 0 qx 0 tx 0]
  by_cases h : SegBad px py qx qy tx ty
  · rw [if_pos h, if_pos ((segBad_swap ..).2 h)]
    exact ⟨rfl, fun h => by cases h⟩
  · rw [if_neg h, if_neg (fun h1 => h ((segBad_swap ..).1 h1))]
    by_cases h2 : (shareF g px 0 qx 0 tx 0).2.2 = 0
    · rw [if_pos h2, if_pos h2]
      exact ⟨rfl, fun _ => ⟨_, _, rfl, rfl⟩⟩
    · rw [if_neg h2, if_neg h2]
      exact ⟨rfl, fun h => absurd h h2⟩
theorem shared_swap (g ax ay bx by' cx cy : Int) : (sharedF g bx by' ax ay cx cy).2 = (sharedF g ax ay bx by' cx cy).2 ∧ ((sharedF g ax ay bx by' cx cy).2 = 0 → ∃ a b, (sharedF g ax ay bx by' cx cy).1 = [a, b] ∧ (sharedF g bx by' ax ay cx cy).1 = [b, a]) := by
  unfold sharedF
  rw [ab_sub bx ax, ab_sub by' ay]
  by_cases h : (ax, ay) = (bx, by')
  · rw [if_pos h, if_pos h.symm]
    exact ⟨rfl, fun h => by cases h⟩
  · rw [if_neg h, if_neg (fun h1 => h h1.symm)]
    split
    · exact seg_swap ..
    · exact seg_swap ..
theorem allTo_two {f : Nat → Bool} : allTo f 2 = (f 0 && f 1) := by simp [allTo]
theorem loads_two (hx hy : Nat → Int) (m x y z v : Int) : loadsF 2 hx hy m x y z v = if (grossF m x y z v).2 ≠ 0 then ([], (grossF m x y z v).2) else if allTo (hookIn hx hy) 2 = false then ([], 9) else sharedF (grossF m x y z v).1 (hx 0) (hy 0) (hx 1) (hy 1) (roundF x m) (roundF y m) := by
  unfold loadsF
  rw [if_neg (show ¬ (2 : Nat) = 0 by decide), if_neg (show ¬ (2 : Nat) < 2 by decide), if_neg (show ¬ (2 : Nat) = 1 by decide)]
/-- hooks in the opposite order -/
theorem loads_swap (ax ay bx by' m x y z v : Int) : (loadsF 2 (twoF bx ax) (twoF by' ay) m x y z v).2 = (loadsF 2 (twoF ax bx) (twoF ay by') m x y z v).2 ∧
    ((loadsF 2 (twoF ax bx) (twoF ay by') m x y z v).2 = 0 → ∃ a b, (loadsF 2 (twoF ax bx) (twoF ay by') m x y z v).1 = [a, b] ∧ (loadsF 2 (twoF bx ax) (twoF by' ay) m x y z v).1 = [b, a]) := by
  have hall : allTo (hookIn (twoF bx ax) (twoF by' ay)) 2 = allTo (hookIn (twoF ax bx) (twoF ay by')) 2 := by
    rw [allTo_two, allTo_two, Bool.and_comm]; rfl
  rw [loads_two, loads_two, hall]
  by_cases hg : (grossF m x y z v).2 ≠ 0
  · rw [if_pos hg, if_pos hg]
    exact ⟨rfl, fun h => absurd h hg⟩
  · rw [if_neg hg, if_neg hg]
    by_cases ha : allTo (hookIn (twoF ax bx) (twoF ay by')) 2 = false
    · rw [if_pos ha, if_pos ha]
      exact ⟨rfl, fun h => by cases h⟩
    · rw [if_neg ha, if_neg ha]
      exact shared_swap _ _ _ _ _ _ _
theorem seg_mid {g cx cy d : Int} (hc : -262144 ≤ cx ∧ cx ≤ 262144) (hy : -262144 ≤ cy ∧ cy ≤ 262144) (hd : 1 ≤ d ∧ d ≤ 65536) (hg : 0 ≤ g) : segF g (cx - d) cy (cx + d) cy cx cy = if g ≤ 1099511627776 then ([(g + 1).tdiv 2, (g + 1).tdiv 2], 0) else ([], 9) := by
  have h1 : ¬ SegBad (cx - d) cy (cx + d) cy cx cy := by
    rintro (h | h | h | h)
    · unfold mn at h; split at h <;> omega
    · unfold mx at h; split at h <;> omega
    · unfold ab mx at h; split at h <;> omega
    · rw [Int.sub_self, Int.mul_zero, Int.zero_mul, Int.sub_self, show ab 0 = 0 from rfl] at h
      have := ab_nat (cx + d - (cx - d)); omega
  unfold segF
  rw [if_neg h1]
  by_cases hm : g ≤ 1099511627776
  · have h2 : ShareIn g (cx - d) 0 (cx + d) 0 cx 0 := ⟨hg, hm, ⟨by omega, by omega, by omega, by omega⟩, ⟨by omega, by omega, by omega, by omega⟩, ⟨by omega, by omega, by omega, by omega⟩⟩
    have h3 : ShareOn (cx - d) 0 (cx + d) 0 cx 0 := ⟨by simp; omega, by rw [Int.sub_self, Int.mul_zero, Int.zero_mul], by unfold mn; split <;> omega, by unfold mx; split <;> omega, by decide, by decide⟩
    have h4 : ¬ ab (cx + d - (cx - d)) < ab (0 - 0) := by
      have := ab_nat (cx + d - (cx - d))
      rw [show ab (0 - 0) = 0 from rfl]
      omega
    have e1 : ab (cx + d - cx) = d := by rw [ab_nat]; omega
    have e2 : ab (cx - (cx - d)) = d := by rw [ab_nat]; omega
    have e3 : ab (cx + d - (cx - d)) = d * 2 := by rw [ab_nat]; omega
    have e4 : ceilF (g * d) (d * 2) = (g + 1).tdiv 2 := by
      rw [Int.tdiv_eq_ediv_of_nonneg (by omega)]
      unfold ceilF
      rw [Int.mul_comm g d, Int.mul_emod_mul_of_pos _ _ (by omega), Int.mul_ediv_mul_of_pos _ _ (by omega)]
      have h5 := Int.emod_two_eq g
      rcases h5 with h5 | h5
      · rw [h5, Int.mul_zero, if_pos rfl]; omega
      · rw [h5, Int.mul_one, if_neg (by omega)]; omega
    have e5 : shareF g (cx - d) 0 (cx + d) 0 cx 0 = ((g + 1).tdiv 2, (g + 1).tdiv 2, 0) := by
      unfold shareF
      rw [if_pos h2, if_pos h3, if_neg h4, e1, e2, e3, e4]
    rw [e5, if_pos rfl, if_pos hm]
  · have h2 : ¬ ShareIn g (cx - d) 0 (cx + d) 0 cx 0 := fun h => hm h.2.1
    have e5 : shareF g (cx - d) 0 (cx + d) 0 cx 0 = (0, 0, 9) := by unfold shareF; rw [if_neg h2]
    rw [e5, if_neg (by decide), if_neg hm]
/-- hooks at equal distances -/
theorem loads_mid {m x y z v d : Int} {along : Bool} (hg : (grossF m x y z v).2 = 0) (hc : -262144 ≤ roundF x m ∧ roundF x m ≤ 262144) (hy : -262144 ≤ roundF y m ∧ roundF y m ≤ 262144) (hd : 1 ≤ d ∧ d ≤ 65536) :
    loadsF 2 (twoF (if along then roundF x m else roundF x m - d) (if along then roundF x m else roundF x m + d)) (twoF (if along then roundF y m - d else roundF y m) (if along then roundF y m + d else roundF y m)) m x y z v =
      if (grossF m x y z v).1 ≤ 1099511627776 then ([((grossF m x y z v).1 + 1).tdiv 2, ((grossF m x y z v).1 + 1).tdiv 2], 0) else ([], 9) := by
  obtain ⟨g0, -, -⟩ := gross_facts hg
  rw [loads_two, if_neg (fun h => h hg)]
  have hall : ¬ allTo (hookIn (twoF (if along then roundF x m else roundF x m - d) (if along then roundF x m else roundF x m + d)) (twoF (if along then roundF y m - d else roundF y m) (if along then roundF y m + d else roundF y m))) 2 = false := by
    rw [allTo_two]
    cases along
    · simp [hookIn, twoF, Nr]; omega
    · simp [hookIn, twoF, Nr]; omega
  rw [if_neg hall]
  cases along
  · show sharedF _ (roundF x m - d) (roundF y m) (roundF x m + d) (roundF y m) _ _ = _
    unfold sharedF
    rw [if_neg (by simp; omega), if_neg (by rw [Int.sub_self, show ab 0 = 0 from rfl]; have := ab_nat (roundF x m - d - (roundF x m + d)); omega)]
    exact seg_mid hc hy hd g0
  · show sharedF _ (roundF x m) (roundF y m - d) (roundF x m) (roundF y m + d) _ _ = _
    unfold sharedF
    rw [if_neg (by simp; omega), if_pos (by rw [Int.sub_self, show ab 0 = 0 from rfl, ab_nat]; omega)]
    exact seg_mid hy hc hd g0
end Go.Proofs.YtjgpgfnnbfgkiaaDoor
