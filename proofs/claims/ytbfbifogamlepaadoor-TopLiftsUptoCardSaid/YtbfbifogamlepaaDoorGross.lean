/-
  The gross mass. Conditions: none. By an AI agent.
-/
import Derived.Test.YtbfbifogamlepaaDoorRootC
namespace Go.Proofs.YtbfbifogamlepaaDoor
open Go Go.ChangeShapes Go.WideShapes Go.RowKit Go.ChangeAt
set_option linter.unusedSimpArgs false
set_option linter.unusedVariables false
theorem rootS_lt (N : Nat) : ∀ k r, rootS N k r < r + 2 ^ k
  | 0, r => by unfold rootS; simp
  | k + 1, r => by
    unfold rootS
    split
    · have := rootS_lt N k (r + 2 ^ k); rw [pow_succ2]; omega
    · have := rootS_lt N k r; rw [pow_succ2]; omega
theorem rootF_bd (n : Int) : 0 ≤ rootF n ∧ rootF n < 4294967296 := by
  unfold rootF
  split
  · omega
  · have := rootS_lt n.toNat 32 0
    simp only [Nat.zero_add] at this
    have h2 : (2 : Nat) ^ 32 = 4294967296 := by decide
    omega
theorem ceil_100 {a : Int} (h : 0 ≤ a) : ceilF a 100 = (a + 99).tdiv 100 := by
  rw [Int.tdiv_eq_ediv_of_nonneg (by omega)]
  unfold ceilF
  split <;> omega
set_option maxRecDepth 20000 in
set_option maxHeartbeats 4000000 in
theorem sigma_ok {m x y z v S : Int} (w : World) (h : WOk m x y z v) (hS : rootF v = S) :
    Calls Tryd.prog 26 #[.agg #[.int .i64 m, .int .i64 x, .int .i64 y, .int .i64 z, .int .i64 v]] w fun e w' => e = .returned (.int .i64 S) ∧ Below w.heap.size w w' := by
  have HO : Hid (wcF m x y z v = 0) := if_pos h
  have hv0 := h.2.1.1
  have hv1 := h.2.1.2
  have HS := Lib.hid hS
  clear hS
  go_enter Tryd.func26, Tryd.ntmps26
  go_wp2_with fail
  (go_at_call 23; refine (wcheck_any _ _ _ _ _ _).mono ?_; rintro e w1 ⟨rfl, hb⟩)
  rw [HO.out]
  have HB1 := Lib.hid (below_step (w := w) (by go_grown) hb)
  obtain ⟨hc1, hf1⟩ := bcell hb
  have hz1 : w.heap.size < w1.heap.size := by have := hb.size; (try simp only [World.size_alloc] at this); omega
  clear hb
  go_wp2_with fail
  (go_at_call 43; refine (root_in _ _ hv0 (by omega)).mono ?_; rintro e w2 ⟨rfl, hb⟩)
  rw [HS.out]
  have HB2 := Lib.hid (below_step HB1.out hb)
  obtain ⟨hc2, hf2⟩ := bcell hb
  clear hb
  go_wp2
  go_returns
  exact ⟨rfl, HB2.out⟩
set_option maxRecDepth 20000 in
set_option maxHeartbeats 4000000 in
theorem margin_ok {m x y z v S : Int} (w : World) (h : WOk m x y z v) (hS : rootF v = S) :
    Calls Tryd.prog 9 #[.agg #[.int .i64 m, .int .i64 x, .int .i64 y, .int .i64 z, .int .i64 v], .int .i64 3] w fun e w' => e = .returned (.int .i64 (m + 3000 * S)) ∧ Below w.heap.size w w' := by
  have HO : Hid (wcF m x y z v = 0) := if_pos h
  have hm0 := h.1.1
  have hm1 := h.1.2
  obtain ⟨hs0, hs1⟩ := rootF_bd v
  rw [hS] at hs0 hs1
  have HS := Lib.hid hS
  have HW := Lib.hid h
  clear hS h
  go_enter Tryd.func9, Tryd.ntmps9
  go_wp2_with fail
  (go_at_call 23; refine (wcheck_any _ _ _ _ _ _).mono ?_; rintro e w1 ⟨rfl, hb⟩)
  rw [HO.out]
  have HB1 := Lib.hid (below_step (w := w) (by go_grown) hb)
  obtain ⟨hc1, hf1⟩ := bcell hb
  have hz1 : w.heap.size < w1.heap.size := by have := hb.size; (try simp only [World.size_alloc] at this); omega
  clear hb
  go_wp2_with fail
  (go_at_call 25; refine (between_any _ _ _ _).mono ?_; rintro e w2 ⟨rfl, hb⟩)
  rw [decide_eq_true (show Bt 0 10 3 by decide)]
  have HB2 := Lib.hid (below_step HB1.out hb)
  obtain ⟨hc2, hf2⟩ := bcell hb
  have hz2 : w.heap.size < w2.heap.size := by have := hb.size; (try simp only [World.size_alloc] at this); omega
  clear hb
  have hpc := past_cell
  go_wp2_with fail
  refine wp_region_past (by kernel_rfl) (by kernel_rfl) ?_
  iterate 5 go_big_quiet_step (fail)
  go_big_quiet_step ((go_at_call 26; exact past_of (sigma_ok _ HW.out HS.out)))
  iterate 3 go_big_quiet_step (fail)
  refine wpQuiet_nil ?_
  intro w3 hw'
  have hb1 := past_out hw'
  clear hw'
  have HB3 := Lib.hid (below_step HB2.out hb1)
  clear hb1
  go_wp2
  go_returns
  exact ⟨by rw [show m + 3000 * S = m + 1000 * 3 * S by omega]; rfl, HB3.out⟩
set_option maxRecDepth 20000 in
set_option maxHeartbeats 4000000 in
theorem rsigma_ok {m x y z v S : Int} (w : World) (h : WOk m x y z v) (hS : rootF v = S) :
    Calls Tryd.prog 61 #[.agg #[.int .i64 m, .int .i64 x, .int .i64 y, .int .i64 z, .int .i64 v]] w fun e w' => e = .returned (.int .i64 S) ∧ Below w.heap.size w w' := by
  have HO : Hid (wcF m x y z v = 0) := if_pos h
  have hv0 := h.2.1.1
  have hv1 := h.2.1.2
  have HS := Lib.hid hS
  clear hS
  go_enter Tryd.func61, Tryd.ntmps61
  go_wp2_with fail
  (go_at_call 46; refine (rwcheck_any _ _ _ _ _ _).mono ?_; rintro e w1 ⟨rfl, hb⟩)
  rw [HO.out]
  have HB1 := Lib.hid (below_step (w := w) (by go_grown) hb)
  obtain ⟨hc1, hf1⟩ := bcell hb
  have hz1 : w.heap.size < w1.heap.size := by have := hb.size; (try simp only [World.size_alloc] at this); omega
  clear hb
  go_wp2_with fail
  (go_at_call 67; refine (rroot_in _ _ hv0 (by omega)).mono ?_; rintro e w2 ⟨rfl, hb⟩)
  rw [HS.out]
  have HB2 := Lib.hid (below_step HB1.out hb)
  obtain ⟨hc2, hf2⟩ := bcell hb
  clear hb
  go_wp2
  go_returns
  exact ⟨rfl, HB2.out⟩
set_option maxRecDepth 20000 in
set_option maxHeartbeats 4000000 in
theorem rmargin_ok {m x y z v S : Int} (w : World) (h : WOk m x y z v) (hS : rootF v = S) :
    Calls Tryd.prog 47 #[.agg #[.int .i64 m, .int .i64 x, .int .i64 y, .int .i64 z, .int .i64 v], .int .i64 3] w fun e w' => e = .returned (.int .i64 (m + 3000 * S)) ∧ Below w.heap.size w w' := by
  have HO : Hid (wcF m x y z v = 0) := if_pos h
  have hm0 := h.1.1
  have hm1 := h.1.2
  obtain ⟨hs0, hs1⟩ := rootF_bd v
  rw [hS] at hs0 hs1
  have HS := Lib.hid hS
  have HW := Lib.hid h
  clear hS h
  go_enter Tryd.func47, Tryd.ntmps47
  go_wp2_with fail
  (go_at_call 46; refine (rwcheck_any _ _ _ _ _ _).mono ?_; rintro e w1 ⟨rfl, hb⟩)
  rw [HO.out]
  have HB1 := Lib.hid (below_step (w := w) (by go_grown) hb)
  obtain ⟨hc1, hf1⟩ := bcell hb
  have hz1 : w.heap.size < w1.heap.size := by have := hb.size; (try simp only [World.size_alloc] at this); omega
  clear hb
  have hpc := past_cell
  go_wp2_with fail
  refine wp_region_past (by kernel_rfl) (by kernel_rfl) ?_
  iterate 5 go_big_quiet_step (fail)
  go_big_quiet_step ((go_at_call 61; exact past_of (rsigma_ok _ HW.out HS.out)))
  iterate 3 go_big_quiet_step (fail)
  refine wpQuiet_nil ?_
  intro w2 hw'
  have hb1 := past_out hw'
  clear hw'
  have HB2 := Lib.hid (below_step HB1.out hb1)
  clear hb1
  go_wp2
  go_returns
  exact ⟨by rw [show m + 3000 * S = m + 1000 * 3 * S by omega]; rfl, HB2.out⟩
/-- the gross mass and the error -/
def grossF (m x y z v : Int) : Int × Int := if WOk m x y z v then (if m = 0 then (0, 22) else (ceilF ((m + 3000 * rootF v) * 105) 100, 0)) else (0, 9)
set_option maxRecDepth 20000 in
set_option maxHeartbeats 4000000 in
theorem gross_any (m x y z v : Int) (w : World) :
    Calls Tryd.prog 8 #[.agg #[.int .i64 m, .int .i64 x, .int .i64 y, .int .i64 z, .int .i64 v]] w fun e w' => e = .returned (.tuple #[.int .i64 (grossF m x y z v).1, .int .i64 (grossF m x y z v).2]) ∧ Below w.heap.size w w' := by
  by_cases h : WOk m x y z v
  · have HO : Hid (wcF m x y z v = 0) := if_pos h
    by_cases hz : m = 0
    · subst hz
      have E : Hid (grossF 0 x y z v = (0, 22)) := by show _ = _; unfold grossF; rw [if_pos h, if_pos rfl]
      clear h
      go_enter Tryd.func8, Tryd.ntmps8
      go_wp2_with fail
      (go_at_call 23; refine (wcheck_any _ _ _ _ _ _).mono ?_; rintro e w1 ⟨rfl, hb⟩)
      rw [HO.out]
      have HB1 := Lib.hid (below_step (w := w) (by go_grown) hb)
      obtain ⟨hc1, hf1⟩ := bcell hb
      have hz1 : w.heap.size < w1.heap.size := by have := hb.size; (try simp only [World.size_alloc] at this); omega
      clear hb
      go_wp2
      go_returns
      exact ⟨by rw [E.out]; rfl, HB1.out⟩
    · obtain ⟨S, hS⟩ : ∃ S, rootF v = S := ⟨_, rfl⟩
      obtain ⟨hs0, hs1⟩ := rootF_bd v
      rw [hS] at hs0 hs1
      have hm0 := h.1.1
      have hm1 := h.1.2
      have m0 : (m == 0) = false := by simpa using hz
      have E : Hid (grossF m x y z v = (ceilF ((m + 3000 * S) * 105) 100, 0)) := by show _ = _; unfold grossF; rw [if_pos h, if_neg hz, hS]
      have HW := Lib.hid h
      have HS := Lib.hid hS
      clear h hS hz
      go_enter Tryd.func8, Tryd.ntmps8
      go_wp2_with fail
      (go_at_call 23; refine (wcheck_any _ _ _ _ _ _).mono ?_; rintro e w1 ⟨rfl, hb⟩)
      rw [HO.out]
      have HB1 := Lib.hid (below_step (w := w) (by go_grown) hb)
      obtain ⟨hc1, hf1⟩ := bcell hb
      have hz1 : w.heap.size < w1.heap.size := by have := hb.size; (try simp only [World.size_alloc] at this); omega
      clear hb
      go_wp2_with fail
      (go_at_call 9; refine (margin_ok _ HW.out HS.out).mono ?_; rintro e w2 ⟨rfl, hb⟩)
      have HB2 := Lib.hid (below_step HB1.out hb)
      obtain ⟨hc2, hf2⟩ := bcell hb
      clear hb
      go_wp2_with fail
      (go_at_call 24; refine (ceil_in _ _ _ ⟨by omega, by omega⟩ ⟨by omega, by omega⟩).mono ?_; rintro e w3 ⟨rfl, hb⟩)
      have HB3 := Lib.hid (below_step HB2.out hb)
      obtain ⟨hc3, hf3⟩ := bcell hb
      clear hb
      go_wp2
      go_returns
      exact ⟨by rw [E.out]; rfl, HB3.out⟩
  · have HO : Hid (wcF m x y z v = 9) := if_neg h
    have E : Hid (grossF m x y z v = (0, 9)) := if_neg h
    clear h
    go_enter Tryd.func8, Tryd.ntmps8
    go_wp2_with fail
    (go_at_call 23; refine (wcheck_any _ _ _ _ _ _).mono ?_; rintro e w1 ⟨rfl, hb⟩)
    rw [HO.out]
    have HB1 := Lib.hid (below_step (w := w) (by go_grown) hb)
    obtain ⟨hc1, hf1⟩ := bcell hb
    have hz1 : w.heap.size < w1.heap.size := by have := hb.size; (try simp only [World.size_alloc] at this); omega
    clear hb
    go_wp2
    go_returns
    exact ⟨by rw [E.out]; rfl, HB1.out⟩
set_option maxRecDepth 20000 in
set_option maxHeartbeats 4000000 in
theorem rgross_any (m x y z v : Int) (w : World) :
    Calls Tryd.prog 32 #[.agg #[.int .i64 m, .int .i64 x, .int .i64 y, .int .i64 z, .int .i64 v]] w fun e w' => e = .returned (.tuple #[.int .i64 (grossF m x y z v).1, .int .i64 (grossF m x y z v).2]) ∧ Below w.heap.size w w' := by
  by_cases h : WOk m x y z v
  · have HO : Hid (wcF m x y z v = 0) := if_pos h
    by_cases hz : m = 0
    · subst hz
      have E : Hid (grossF 0 x y z v = (0, 22)) := by show _ = _; unfold grossF; rw [if_pos h, if_pos rfl]
      clear h
      go_enter Tryd.func32, Tryd.ntmps32
      go_wp2_with fail
      (go_at_call 46; refine (rwcheck_any _ _ _ _ _ _).mono ?_; rintro e w1 ⟨rfl, hb⟩)
      rw [HO.out]
      have HB1 := Lib.hid (below_step (w := w) (by go_grown) hb)
      obtain ⟨hc1, hf1⟩ := bcell hb
      have hz1 : w.heap.size < w1.heap.size := by have := hb.size; (try simp only [World.size_alloc] at this); omega
      clear hb
      go_wp2
      go_returns
      exact ⟨by rw [E.out]; rfl, HB1.out⟩
    · obtain ⟨S, hS⟩ : ∃ S, rootF v = S := ⟨_, rfl⟩
      obtain ⟨hs0, hs1⟩ := rootF_bd v
      rw [hS] at hs0 hs1
      have hm0 := h.1.1
      have hm1 := h.1.2
      have m0 : (m == 0) = false := by simpa using hz
      have E : Hid (grossF m x y z v = (ceilF ((m + 3000 * S) * 105) 100, 0)) := by show _ = _; unfold grossF; rw [if_pos h, if_neg hz, hS]
      have HW := Lib.hid h
      have HS := Lib.hid hS
      clear h hS hz
      go_enter Tryd.func32, Tryd.ntmps32
      go_wp2_with fail
      (go_at_call 46; refine (rwcheck_any _ _ _ _ _ _).mono ?_; rintro e w1 ⟨rfl, hb⟩)
      rw [HO.out]
      have HB1 := Lib.hid (below_step (w := w) (by go_grown) hb)
      obtain ⟨hc1, hf1⟩ := bcell hb
      have hz1 : w.heap.size < w1.heap.size := by have := hb.size; (try simp only [World.size_alloc] at this); omega
      clear hb
      go_wp2_with fail
      (go_at_call 47; refine (rmargin_ok _ HW.out HS.out).mono ?_; rintro e w2 ⟨rfl, hb⟩)
      have HB2 := Lib.hid (below_step HB1.out hb)
      obtain ⟨hc2, hf2⟩ := bcell hb
      clear hb
      have cq := ceil_100 (a := (m + 3000 * S) * 105) (by omega)
      obtain ⟨Q, hQ⟩ : ∃ Q, ceilF ((m + 3000 * S) * 105) 100 = Q := ⟨_, rfl⟩
      rw [hQ] at cq
      rw [hQ] at E
      have cq2 : ((m + 3000 * S) * 105 + 99) / 100 = Q := by rw [cq, Int.tdiv_eq_ediv_of_nonneg (by omega)]
      have q0 : 0 ≤ Q := by rw [← cq2]; omega
      have q1 : Q ≤ 4611686018427387904 := by rw [← cq2]; omega
      have cq3 := cq.symm
      clear cq
      go_wp2
      go_returns
      exact ⟨by rw [E.out]; rfl, HB2.out⟩
  · have HO : Hid (wcF m x y z v = 9) := if_neg h
    have E : Hid (grossF m x y z v = (0, 9)) := if_neg h
    clear h
    go_enter Tryd.func32, Tryd.ntmps32
    go_wp2_with fail
    (go_at_call 46; refine (rwcheck_any _ _ _ _ _ _).mono ?_; rintro e w1 ⟨rfl, hb⟩)
    rw [HO.out]
    have HB1 := Lib.hid (below_step (w := w) (by go_grown) hb)
    obtain ⟨hc1, hf1⟩ := bcell hb
    have hz1 : w.heap.size < w1.heap.size := by have := hb.size; (try simp only [World.size_alloc] at this); omega
    clear hb
    go_wp2
    go_returns
    exact ⟨by rw [E.out]; rfl, HB1.out⟩
end Go.Proofs.YtbfbifogamlepaaDoor
