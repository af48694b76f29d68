/-
  The walk of Root. Conditions: none. By an AI agent.
-/
import Derived.Test.YtbfbifogamlepaaDoorRootA
namespace Go.Proofs.YtbfbifogamlepaaDoor
open Go Go.ChangeShapes Go.WideShapes Go.RowKit Go.ChangeAt
set_option linter.unusedSimpArgs false
set_option linter.unusedVariables false
set_option maxRecDepth 20000 in
set_option maxHeartbeats 4000000 in
theorem root_in (n : Int) (w : World) (h0 : 0 ≤ n) (h1 : n ≤ 4611686018427387904) :
    Calls Tryd.prog 43 #[.int .i64 n] w fun e w' => e = .returned (.int .i64 (rootF n)) ∧ Below w.heap.size w w' := by
  obtain ⟨N, rfl⟩ := Int.eq_ofNat_of_zero_le h0
  have E : Hid (rootF (N : Int) = ((rootS N 32 0 : Nat) : Int)) := by unfold rootF; rw [if_neg (by omega)]; rfl
  go_enter Tryd.func43, Tryd.ntmps43
  go_wp2
  go_loopw [3, 8] (fun r i wr => ∃ (k q : Nat) (j : Int), k ≤ 32 ∧ i = .int .i64 j ∧ r = .int .i64 (q : Int) ∧ j + k = 32 ∧ RootAt N k q ∧ Below w.heap.size w wr) (fun r i _ => 32 - (intOf i).toNat)
  case atStart => exact ⟨32, 0, 0, by omega, rfl, rfl, by omega, RootAt.start N, by go_grown⟩
  case round =>
    obtain ⟨k, q, i, hk, rfl, rfl, hi, hR, hb⟩ := hrel
    have HBr := Lib.hid hb
    clear hb
    cases k with
    | zero =>
      obtain rfl : i = 32 := by omega
      have hs : q = rootS N 32 0 := hR.same
      have E2 : Hid (rootF (N : Int) = (q : Int)) := by show _ = _; rw [E.out, ← hs]
      clear hR hs
      go_wp2
      go_returns
      exact ⟨by rw [E2.out]; rfl, HBr.out⟩
    | succ k =>
      obtain ⟨j, hj⟩ : ∃ j, j + k = 31 := ⟨31 - k, by omega⟩
      obtain rfl : i = (j : Int) := by omega
      have hsh : (31 - (j : Int)).toNat = k := by omega
      obtain ⟨P, hP⟩ : ∃ P, 2 ^ k = P := ⟨_, rfl⟩
      have hpi : (2 : Int) ^ k = (P : Int) := by rw [← hP]; simp
      have hor := hR.or
      have hlt := hR.lt
      rw [pow_succ2] at hlt
      rw [hP] at hor hlt
      have hp0 : 0 < P := by rw [← hP]; exact Nat.pow_pos (by decide)
      obtain ⟨T, hT⟩ : ∃ T, q + P = T := ⟨_, rfl⟩
      rw [hT] at hor
      have hT0 : 0 < T := by omega
      have hT1 : T < 4294967296 := by omega
      have HR := Lib.hid hR
      obtain ⟨D, hD⟩ : ∃ D, (N : Int) / (T : Int) = D := ⟨_, rfl⟩
      have hDt : (N : Int).tdiv (T : Int) = D := by rw [Int.tdiv_eq_ediv_of_nonneg (by omega), hD]
      have hD0 : 0 ≤ D := by rw [← hD]; exact Int.ediv_nonneg (by omega) (by omega)
      have hD1 : D ≤ N := by rw [← hD]; exact Int.ediv_le_self _ (by omega)
      have hcmp : (T : Int) ≤ D ↔ T * T ≤ N := by rw [← hDt, quo_sq (by omega) (by omega)]; constructor <;> intro h <;> exact_mod_cast h
      have tz : ((T : Int) == 0) = false := by simp; omega
      have tz2 : (T : Int) ≠ 0 := by omega
      have HPk := Lib.hid hP
      have HTq := Lib.hid hT
      clear hR hP hT
      by_cases hc : T * T ≤ N
      · have hcm := hcmp.2 hc
        have HN : Hid (RootAt N k T) := by
          have := HR.out.yes (by rw [HPk.out, HTq.out]; exact hc)
          rwa [HPk.out, HTq.out] at this
        clear hcmp hc
        go_wp2
        go_roundw
        case rel => exact ⟨k, T, _, by omega, rfl, rfl, by omega, HN.out, HBr.out⟩
        case measure => simp [intOf]; omega
      · have hcm := fun h => hc (hcmp.1 h)
        have HN : Hid (RootAt N k q) := HR.out.no (by rw [HPk.out, HTq.out]; exact hc)
        clear hcmp hc
        go_wp2
        go_roundw
        case rel => exact ⟨k, q, _, by omega, rfl, rfl, by omega, HN.out, HBr.out⟩
        case measure => simp [intOf]; omega
end Go.Proofs.YtbfbifogamlepaaDoor
