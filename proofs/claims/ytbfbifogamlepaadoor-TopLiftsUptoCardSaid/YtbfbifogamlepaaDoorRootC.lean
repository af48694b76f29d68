/-
  The walk of the reference's Root. Conditions: none. By an AI agent.
-/
import Derived.Test.YtbfbifogamlepaaDoorRootB
namespace Go.Proofs.YtbfbifogamlepaaDoor
open Go Go.ChangeShapes Go.WideShapes Go.RowKit Go.ChangeAt
set_option linter.unusedSimpArgs false
set_option linter.unusedVariables false
set_option maxRecDepth 20000 in
set_option maxHeartbeats 4000000 in
theorem rroot_in (n : Int) (w : World) (h0 : 0 ≤ n) (h1 : n ≤ 4611686018427387904) :
    Calls Tryd.prog 67 #[.int .i64 n] w fun e w' => e = .returned (.int .i64 (rootF n)) ∧ Below w.heap.size w w' := by
  obtain ⟨N, rfl⟩ := Int.eq_ofNat_of_zero_le h0
  have E : Hid (rootF (N : Int) = ((rootS N 32 0 : Nat) : Int)) := by unfold rootF; rw [if_neg (by omega)]; rfl
  go_enter Tryd.func67, Tryd.ntmps67
  go_wp2
  go_loopw [3, 4] (fun r i wr => ∃ k q : Nat, k ≤ 32 ∧ i = .int .u64 ((2 ^ k / 2 : Nat) : Int) ∧ r = .int .u64 (q : Int) ∧ RootAt N k q ∧ Below w.heap.size w wr) (fun r i _ => (intOf i).toNat)
  case atStart => exact ⟨32, 0, by omega, rfl, rfl, RootAt.start N, by go_grown⟩
  case round =>
    obtain ⟨k, q, hk, rfl, rfl, hR, hb⟩ := hrel
    have HBr := Lib.hid hb
    clear hb
    cases k with
    | zero =>
      have hs : q = rootS N 32 0 := hR.same
      have hlt := hR.lt
      have hq : q < 4294967296 := by rw [Nat.pow_zero] at hlt; omega
      have E2 : Hid (rootF (N : Int) = (q : Int)) := by show _ = _; rw [E.out, ← hs]
      have w4 : IntKind.i64.wrap (q : Int) = q := IntWalk.i64_in _ (by omega)
      clear hR hs hlt
      simp only [Nat.pow_zero, show (1 : Nat) / 2 = 0 from rfl]
      go_wp2
      go_returns
      exact ⟨by rw [E2.out]; rfl, HBr.out⟩
    | succ k =>
      have hlt := hR.lt
      rw [pow_succ2] at hlt
      obtain ⟨P, hP⟩ : ∃ P, 2 ^ k = P := ⟨_, rfl⟩
      rw [hP] at hlt
      have hp0 : 0 < P := by rw [← hP]; exact Nat.pow_pos (by decide)
      have hbit : 2 ^ (k + 1) / 2 = P := by rw [pow_succ2, hP]; omega
      rw [hbit]
      have hnext : 2 ^ k / 2 = P / 2 := by rw [hP]
      obtain ⟨T, hT⟩ : ∃ T, q + P = T := ⟨_, rfl⟩
      have hTi : (q : Int) + (P : Int) = (T : Int) := by omega
      have hT1 : T < 4294967296 := by omega
      obtain ⟨S, hS⟩ : ∃ S : Int, (T : Int) * (T : Int) = S := ⟨_, rfl⟩
      have hS0 : 0 ≤ S := by rw [← hS]; exact Int.mul_nonneg (by omega) (by omega)
      have hS1 : S ≤ 18446744065119617025 := by
        rw [← hS]
        exact Int.mul_le_mul (show (T : Int) ≤ 4294967295 by omega) (show (T : Int) ≤ 4294967295 by omega) (by omega) (by omega)
      have hcmp : S ≤ (N : Int) ↔ T * T ≤ N := by rw [← hS]; constructor <;> intro h <;> exact_mod_cast h
      have HR := Lib.hid hR
      have HPk := Lib.hid hP
      have HTq := Lib.hid hT
      have w1 : IntKind.u64.wrap (T : Int) = T := by simp [IntKind.wrap, IntKind.signed, IntKind.bits]; omega
      have w2 : IntKind.u64.wrap S = S := by simp [IntKind.wrap, IntKind.signed, IntKind.bits]; omega
      have w3 : IntKind.u64.wrap (N : Int) = N := by simp [IntKind.wrap, IntKind.signed, IntKind.bits]; omega
      have pz : decide ((0 : Int) < (P : Int)) = true := decide_eq_true (by omega)
      have pz2 : (0 : Int) < (P : Int) := by omega
      clear hR hP hT
      by_cases hc : T * T ≤ N
      · have hcm := hcmp.2 hc
        have HN : Hid (RootAt N k T) := by
          have := HR.out.yes (by rw [HPk.out, HTq.out]; exact hc)
          rwa [HPk.out, HTq.out] at this
        clear hcmp hc
        go_wp2
        go_roundw
        case rel => exact ⟨k, T, by omega, by rw [hnext]; rfl, rfl, HN.out, HBr.out⟩
        case measure => simp [intOf]; omega
      · have hcm := fun h => hc (hcmp.1 h)
        have HN : Hid (RootAt N k q) := HR.out.no (by rw [HPk.out, HTq.out]; exact hc)
        clear hcmp hc
        go_wp2
        go_roundw
        case rel => exact ⟨k, q, by omega, by rw [hnext]; rfl, rfl, HN.out, HBr.out⟩
        case measure => simp [intOf]; omega
end Go.Proofs.YtbfbifogamlepaaDoor
