/-
  The law MeshVolumes. Conditions: none. By an AI agent.
-/
import Derived.Test.YtpjdmjmgkdgfnaaMeshV
namespace Go.Proofs.Ytpjdmjmgkdgfnaa
open Go Go.ChangeShapes Go.WideShapes Go.RowKit Go.ChangeAt
set_option linter.unusedVariables false
set_option linter.unusedSimpArgs false
set_option maxRecDepth 100000

set_option maxHeartbeats 4000000 in
theorem meshVolumes_walk (v : Value) (np nf : Nat) (P F : Nat → V) (w : World) (h : MAt w v np P nf F) : Calls Try.prog 4 #[v] w fun e w' => e = .returned (.bool true) ∧ Below w.heap.size w w' := by
  have HM := Lib.hid h
  obtain ⟨op, cp, of', cf, he⟩ := h.slices
  cases he
  obtain ⟨x, hx⟩ : ∃ x, (.slice op np cp : Value) = x := ⟨_, rfl⟩
  obtain ⟨y, hy⟩ : ∃ y, (.slice of' nf cf : Value) = y := ⟨_, rfl⟩
  rw [hx, hy] at HM ⊢
  obtain ⟨LB, hLB⟩ : ∃ b, decide (np ≤ 1100 ∧ nf ≤ 300) = b := ⟨_, rfl⟩
  have HLB := Lib.hid hLB
  obtain ⟨E, hE⟩ : ∃ E, checkM np P nf F = E := ⟨_, rfl⟩
  obtain ⟨s, hs⟩ : ∃ b, decide (vol6 np P nf F < 0) = b := ⟨_, rfl⟩
  obtain ⟨X, hX⟩ : ∃ X, wdF (vol6 np P nf F) = X := ⟨_, rfl⟩
  obtain ⟨s0, hs0⟩ : ∃ b, decide (mom24 np P nf F 0 < 0) = b := ⟨_, rfl⟩
  obtain ⟨X0, hX0⟩ : ∃ X, wdF (mom24 np P nf F 0) = X := ⟨_, rfl⟩
  obtain ⟨s1, hs1⟩ : ∃ b, decide (mom24 np P nf F 1 < 0) = b := ⟨_, rfl⟩
  obtain ⟨X1, hX1⟩ : ∃ X, wdF (mom24 np P nf F 1) = X := ⟨_, rfl⟩
  obtain ⟨s2, hs2⟩ : ∃ b, decide (mom24 np P nf F 2 < 0) = b := ⟨_, rfl⟩
  obtain ⟨X2, hX2⟩ : ∃ X, wdF (mom24 np P nf F 2) = X := ⟨_, rfl⟩
  have hl : (.agg (lC (mom24 np P nf F) 3) : Value) = .agg #[.bool s0, .int .u64 (X0 0), .int .u64 (X0 1), .int .u64 (X0 2), .int .u64 (X0 3), .bool s1, .int .u64 (X1 0), .int .u64 (X1 1), .int .u64 (X1 2), .int .u64 (X1 3), .bool s2, .int .u64 (X2 0), .int .u64 (X2 1), .int .u64 (X2 2), .int .u64 (X2 3)] := by rw [← hs0, ← hs1, ← hs2, ← hX0, ← hX1, ← hX2]; rfl
  have HVO : Hid (∀ W, MAt W (.agg #[x, y]) np P nf F → Calls Try.prog 15 #[.agg #[x, y]] W fun e w' => e = .returned (.tuple #[.agg #[.bool s, .int .u64 (X 0), .int .u64 (X 1), .int .u64 (X 2), .int .u64 (X 3)], .int .i64 E]) ∧ Below W.heap.size W w') := fun W h => by
    have h := Volume6_any _ np nf P F W h
    rw [hs, hX, hE] at h
    exact h
  have HVR : Hid (∀ W, MAt W (.agg #[x, y]) np P nf F → Calls Try.prog 16 #[.agg #[x, y]] W fun e w' => e = .returned (.tuple #[.agg #[.bool s, .int .u64 (X 0), .int .u64 (X 1), .int .u64 (X 2), .int .u64 (X 3)], .int .i64 E]) ∧ Below W.heap.size W w') := fun W h => by
    have h := rVolume6_any _ np nf P F W h
    rw [hs, hX, hE] at h
    exact h
  have HMO : Hid (∀ W, MAt W (.agg #[x, y]) np P nf F → Calls Try.prog 17 #[.agg #[x, y]] W fun e w' => e = .returned (.tuple #[.agg #[.bool s0, .int .u64 (X0 0), .int .u64 (X0 1), .int .u64 (X0 2), .int .u64 (X0 3), .bool s1, .int .u64 (X1 0), .int .u64 (X1 1), .int .u64 (X1 2), .int .u64 (X1 3), .bool s2, .int .u64 (X2 0), .int .u64 (X2 1), .int .u64 (X2 2), .int .u64 (X2 3)], .int .i64 E]) ∧ Below W.heap.size W w') := fun W h => by
    have h := Moment24_any _ np nf P F W h
    rw [hl, hE] at h
    exact h
  have HMR : Hid (∀ W, MAt W (.agg #[x, y]) np P nf F → Calls Try.prog 18 #[.agg #[x, y]] W fun e w' => e = .returned (.tuple #[.agg #[.bool s0, .int .u64 (X0 0), .int .u64 (X0 1), .int .u64 (X0 2), .int .u64 (X0 3), .bool s1, .int .u64 (X1 0), .int .u64 (X1 1), .int .u64 (X1 2), .int .u64 (X1 3), .bool s2, .int .u64 (X2 0), .int .u64 (X2 1), .int .u64 (X2 2), .int .u64 (X2 3)], .int .i64 E]) ∧ Below W.heap.size W w') := fun W h => by
    have h := rMoment24_any _ np nf P F W h
    rw [hl, hE] at h
    exact h
  have q1 := eql_wide s (X 0) (X 1) (X 2) (X 3)
  have q2 := eql_wide3 (X0 0) (X0 1) (X0 2) (X0 3) (X1 0) (X1 1) (X1 2) (X1 3) (X2 0) (X2 1) (X2 2) (X2 3) s0 s1 s2
  clear hx hy h hLB hE hs hX hl hs0 hX0 hs1 hX1 hs2 hX2
  go_enter Try.func4, Try.ntmps4
  go_wp2_with fail
  (go_at_call 11; refine (light_any _ np nf P F _ (HM.out.below (by first | assumption | go_grown))).mono ?_; rintro e_ w1 ⟨rfl, hb⟩)
  have hsw1 := hb.size
  (try simp only [World.size_alloc, World.size_setCell] at hsw1)
  have zzw1 : w.heap.size < w1.heap.size := by omega
  have hPw1 : Below w.heap.size w w1 := below_step (w := w) (by first | exact Below.refl _ _ | go_grown) hb
  have zmw1 : w.heap.size < w1.heap.size := by omega
  have m0w1 : w1.cell? ⟨w.heap.size, 0, none⟩ = some (x) := (hb.cell (p := ⟨_, _, none⟩) (by simp <;> omega)).trans (by simp [go_sem])
  have m1w1 : w1.cell? ⟨w.heap.size, 1, none⟩ = some (y) := (hb.cell (p := ⟨_, _, none⟩) (by simp <;> omega)).trans (by simp [go_sem])
  have hBw1 : Below w.heap.size w w1 := below_step (w := w) (by first | assumption | go_grown) hb
  rw [HLB.out]
  clear hb hsw1 hPw1
  cases LB
  · go_wp2_with fail
    (go_at_call 12; refine (awake_any _).mono ?_; rintro e_ w2 ⟨rfl, hb⟩)
    have hB2 := below_step hBw1 hb
    go_wp2
    go_returns
    exact ⟨rfl, hB2⟩
  · go_wp2_with fail
    (go_at_call 15; refine (HVO.out _ (HM.out.below (by first | assumption | go_grown))).mono ?_; rintro e_ w2 ⟨rfl, hb⟩)
    have hsw2 := hb.size
    (try simp only [World.size_alloc, World.size_setCell] at hsw2)
    have zzw2 : w.heap.size < w2.heap.size := by omega
    have hPw2 : Below w1.heap.size w1 w2 := below_step (w := w1) (by first | exact Below.refl _ _ | go_grown) hb
    have zmw2 : w.heap.size < w2.heap.size := by omega
    have m0w2 : w2.cell? ⟨w.heap.size, 0, none⟩ = some (x) := (hPw2.cell (p := ⟨_, _, none⟩) zmw1).trans m0w1
    have m1w2 : w2.cell? ⟨w.heap.size, 1, none⟩ = some (y) := (hPw2.cell (p := ⟨_, _, none⟩) zmw1).trans m1w1
    have hBw2 : Below w.heap.size w w2 := below_step (w := w) (by first | assumption | go_grown) hb
    clear hb hsw2 hPw2
    clear zmw1 m0w1 m1w1
    go_wp2_with fail
    (go_at_call 16; refine (HVR.out _ (HM.out.below (by first | assumption | go_grown))).mono ?_; rintro e_ w3 ⟨rfl, hb⟩)
    have hsw3 := hb.size
    (try simp only [World.size_alloc, World.size_setCell] at hsw3)
    have zzw3 : w.heap.size < w3.heap.size := by omega
    have hPw3 : Below w2.heap.size w2 w3 := below_step (w := w2) (by first | exact Below.refl _ _ | go_grown) hb
    have zmw3 : w.heap.size < w3.heap.size := by omega
    have m0w3 : w3.cell? ⟨w.heap.size, 0, none⟩ = some (x) := (hPw3.cell (p := ⟨_, _, none⟩) zmw2).trans m0w2
    have m1w3 : w3.cell? ⟨w.heap.size, 1, none⟩ = some (y) := (hPw3.cell (p := ⟨_, _, none⟩) zmw2).trans m1w2
    have zaw3 : w2.heap.size < w3.heap.size := by omega
    have a0w3 : w3.cell? ⟨w2.heap.size, 0, none⟩ = some (.bool s) := (hb.cell (p := ⟨_, _, none⟩) (by simp <;> omega)).trans (by simp [go_sem])
    have a1w3 : w3.cell? ⟨w2.heap.size, 1, none⟩ = some (.int .u64 (X 0)) := (hb.cell (p := ⟨_, _, none⟩) (by simp <;> omega)).trans (by simp [go_sem])
    have a2w3 : w3.cell? ⟨w2.heap.size, 2, none⟩ = some (.int .u64 (X 1)) := (hb.cell (p := ⟨_, _, none⟩) (by simp <;> omega)).trans (by simp [go_sem])
    have a3w3 : w3.cell? ⟨w2.heap.size, 3, none⟩ = some (.int .u64 (X 2)) := (hb.cell (p := ⟨_, _, none⟩) (by simp <;> omega)).trans (by simp [go_sem])
    have a4w3 : w3.cell? ⟨w2.heap.size, 4, none⟩ = some (.int .u64 (X 3)) := (hb.cell (p := ⟨_, _, none⟩) (by simp <;> omega)).trans (by simp [go_sem])
    have hBw3 : Below w.heap.size w w3 := below_step (w := w) (by first | assumption | go_grown) hb
    clear hb hsw3 hPw3
    clear zmw2 m0w2 m1w2
    go_wp2_with fail
    (go_at_call 17; refine (HMO.out _ (HM.out.below (by first | assumption | go_grown))).mono ?_; rintro e_ w4 ⟨rfl, hb⟩)
    have hsw4 := hb.size
    (try simp only [World.size_alloc, World.size_setCell] at hsw4)
    have zzw4 : w.heap.size < w4.heap.size := by omega
    have hPw4 : Below w3.heap.size w3 w4 := below_step (w := w3) (by first | exact Below.refl _ _ | go_grown) hb
    have zmw4 : w.heap.size < w4.heap.size := by omega
    have m0w4 : w4.cell? ⟨w.heap.size, 0, none⟩ = some (x) := (hPw4.cell (p := ⟨_, _, none⟩) zmw3).trans m0w3
    have m1w4 : w4.cell? ⟨w.heap.size, 1, none⟩ = some (y) := (hPw4.cell (p := ⟨_, _, none⟩) zmw3).trans m1w3
    have zaw4 : w2.heap.size < w4.heap.size := by omega
    have a0w4 : w4.cell? ⟨w2.heap.size, 0, none⟩ = some (.bool s) := (hPw4.cell (p := ⟨_, _, none⟩) zaw3).trans a0w3
    have a1w4 : w4.cell? ⟨w2.heap.size, 1, none⟩ = some (.int .u64 (X 0)) := (hPw4.cell (p := ⟨_, _, none⟩) zaw3).trans a1w3
    have a2w4 : w4.cell? ⟨w2.heap.size, 2, none⟩ = some (.int .u64 (X 1)) := (hPw4.cell (p := ⟨_, _, none⟩) zaw3).trans a2w3
    have a3w4 : w4.cell? ⟨w2.heap.size, 3, none⟩ = some (.int .u64 (X 2)) := (hPw4.cell (p := ⟨_, _, none⟩) zaw3).trans a3w3
    have a4w4 : w4.cell? ⟨w2.heap.size, 4, none⟩ = some (.int .u64 (X 3)) := (hPw4.cell (p := ⟨_, _, none⟩) zaw3).trans a4w3
    have zbw4 : w3.heap.size < w4.heap.size := by omega
    have b0w4 : w4.cell? ⟨w3.heap.size, 0, none⟩ = some (.bool s) := (hb.cell (p := ⟨_, _, none⟩) (by simp <;> omega)).trans (by simp [go_sem])
    have b1w4 : w4.cell? ⟨w3.heap.size, 1, none⟩ = some (.int .u64 (X 0)) := (hb.cell (p := ⟨_, _, none⟩) (by simp <;> omega)).trans (by simp [go_sem])
    have b2w4 : w4.cell? ⟨w3.heap.size, 2, none⟩ = some (.int .u64 (X 1)) := (hb.cell (p := ⟨_, _, none⟩) (by simp <;> omega)).trans (by simp [go_sem])
    have b3w4 : w4.cell? ⟨w3.heap.size, 3, none⟩ = some (.int .u64 (X 2)) := (hb.cell (p := ⟨_, _, none⟩) (by simp <;> omega)).trans (by simp [go_sem])
    have b4w4 : w4.cell? ⟨w3.heap.size, 4, none⟩ = some (.int .u64 (X 3)) := (hb.cell (p := ⟨_, _, none⟩) (by simp <;> omega)).trans (by simp [go_sem])
    have hBw4 : Below w.heap.size w w4 := below_step (w := w) (by first | assumption | go_grown) hb
    clear hb hsw4 hPw4
    clear zmw3 zaw3 m0w3 m1w3 a0w3 a1w3 a2w3 a3w3 a4w3
    go_wp2_with fail
    (go_at_call 18; refine (HMR.out _ (HM.out.below (by first | assumption | go_grown))).mono ?_; rintro e_ w5 ⟨rfl, hb⟩)
    have hsw5 := hb.size
    (try simp only [World.size_alloc, World.size_setCell] at hsw5)
    have zzw5 : w.heap.size < w5.heap.size := by omega
    have hPw5 : Below w4.heap.size w4 w5 := below_step (w := w4) (by first | exact Below.refl _ _ | go_grown) hb
    have zmw5 : w.heap.size < w5.heap.size := by omega
    have m0w5 : w5.cell? ⟨w.heap.size, 0, none⟩ = some (x) := (hPw5.cell (p := ⟨_, _, none⟩) zmw4).trans m0w4
    have m1w5 : w5.cell? ⟨w.heap.size, 1, none⟩ = some (y) := (hPw5.cell (p := ⟨_, _, none⟩) zmw4).trans m1w4
    have zaw5 : w2.heap.size < w5.heap.size := by omega
    have a0w5 : w5.cell? ⟨w2.heap.size, 0, none⟩ = some (.bool s) := (hPw5.cell (p := ⟨_, _, none⟩) zaw4).trans a0w4
    have a1w5 : w5.cell? ⟨w2.heap.size, 1, none⟩ = some (.int .u64 (X 0)) := (hPw5.cell (p := ⟨_, _, none⟩) zaw4).trans a1w4
    have a2w5 : w5.cell? ⟨w2.heap.size, 2, none⟩ = some (.int .u64 (X 1)) := (hPw5.cell (p := ⟨_, _, none⟩) zaw4).trans a2w4
    have a3w5 : w5.cell? ⟨w2.heap.size, 3, none⟩ = some (.int .u64 (X 2)) := (hPw5.cell (p := ⟨_, _, none⟩) zaw4).trans a3w4
    have a4w5 : w5.cell? ⟨w2.heap.size, 4, none⟩ = some (.int .u64 (X 3)) := (hPw5.cell (p := ⟨_, _, none⟩) zaw4).trans a4w4
    have zbw5 : w3.heap.size < w5.heap.size := by omega
    have b0w5 : w5.cell? ⟨w3.heap.size, 0, none⟩ = some (.bool s) := (hPw5.cell (p := ⟨_, _, none⟩) zbw4).trans b0w4
    have b1w5 : w5.cell? ⟨w3.heap.size, 1, none⟩ = some (.int .u64 (X 0)) := (hPw5.cell (p := ⟨_, _, none⟩) zbw4).trans b1w4
    have b2w5 : w5.cell? ⟨w3.heap.size, 2, none⟩ = some (.int .u64 (X 1)) := (hPw5.cell (p := ⟨_, _, none⟩) zbw4).trans b2w4
    have b3w5 : w5.cell? ⟨w3.heap.size, 3, none⟩ = some (.int .u64 (X 2)) := (hPw5.cell (p := ⟨_, _, none⟩) zbw4).trans b3w4
    have b4w5 : w5.cell? ⟨w3.heap.size, 4, none⟩ = some (.int .u64 (X 3)) := (hPw5.cell (p := ⟨_, _, none⟩) zbw4).trans b4w4
    have zlw5 : w4.heap.size < w5.heap.size := by omega
    have l0w5 : w5.cell? ⟨w4.heap.size, 0, none⟩ = some (.bool s0) := (hb.cell (p := ⟨_, _, none⟩) (by simp <;> omega)).trans (by simp [go_sem])
    have l1w5 : w5.cell? ⟨w4.heap.size, 1, none⟩ = some (.int .u64 (X0 0)) := (hb.cell (p := ⟨_, _, none⟩) (by simp <;> omega)).trans (by simp [go_sem])
    have l2w5 : w5.cell? ⟨w4.heap.size, 2, none⟩ = some (.int .u64 (X0 1)) := (hb.cell (p := ⟨_, _, none⟩) (by simp <;> omega)).trans (by simp [go_sem])
    have l3w5 : w5.cell? ⟨w4.heap.size, 3, none⟩ = some (.int .u64 (X0 2)) := (hb.cell (p := ⟨_, _, none⟩) (by simp <;> omega)).trans (by simp [go_sem])
    have l4w5 : w5.cell? ⟨w4.heap.size, 4, none⟩ = some (.int .u64 (X0 3)) := (hb.cell (p := ⟨_, _, none⟩) (by simp <;> omega)).trans (by simp [go_sem])
    have l5w5 : w5.cell? ⟨w4.heap.size, 5, none⟩ = some (.bool s1) := (hb.cell (p := ⟨_, _, none⟩) (by simp <;> omega)).trans (by simp [go_sem])
    have l6w5 : w5.cell? ⟨w4.heap.size, 6, none⟩ = some (.int .u64 (X1 0)) := (hb.cell (p := ⟨_, _, none⟩) (by simp <;> omega)).trans (by simp [go_sem])
    have l7w5 : w5.cell? ⟨w4.heap.size, 7, none⟩ = some (.int .u64 (X1 1)) := (hb.cell (p := ⟨_, _, none⟩) (by simp <;> omega)).trans (by simp [go_sem])
    have l8w5 : w5.cell? ⟨w4.heap.size, 8, none⟩ = some (.int .u64 (X1 2)) := (hb.cell (p := ⟨_, _, none⟩) (by simp <;> omega)).trans (by simp [go_sem])
    have l9w5 : w5.cell? ⟨w4.heap.size, 9, none⟩ = some (.int .u64 (X1 3)) := (hb.cell (p := ⟨_, _, none⟩) (by simp <;> omega)).trans (by simp [go_sem])
    have l10w5 : w5.cell? ⟨w4.heap.size, 10, none⟩ = some (.bool s2) := (hb.cell (p := ⟨_, _, none⟩) (by simp <;> omega)).trans (by simp [go_sem])
    have l11w5 : w5.cell? ⟨w4.heap.size, 11, none⟩ = some (.int .u64 (X2 0)) := (hb.cell (p := ⟨_, _, none⟩) (by simp <;> omega)).trans (by simp [go_sem])
    have l12w5 : w5.cell? ⟨w4.heap.size, 12, none⟩ = some (.int .u64 (X2 1)) := (hb.cell (p := ⟨_, _, none⟩) (by simp <;> omega)).trans (by simp [go_sem])
    have l13w5 : w5.cell? ⟨w4.heap.size, 13, none⟩ = some (.int .u64 (X2 2)) := (hb.cell (p := ⟨_, _, none⟩) (by simp <;> omega)).trans (by simp [go_sem])
    have l14w5 : w5.cell? ⟨w4.heap.size, 14, none⟩ = some (.int .u64 (X2 3)) := (hb.cell (p := ⟨_, _, none⟩) (by simp <;> omega)).trans (by simp [go_sem])
    have hBw5 : Below w.heap.size w w5 := below_step (w := w) (by first | assumption | go_grown) hb
    clear hb hsw5 hPw5
    clear zmw4 zaw4 zbw4 m0w4 m1w4 a0w4 a1w4 a2w4 a3w4 a4w4 b0w4 b1w4 b2w4 b3w4 b4w4
    go_wp2_with fail
    (go_at_call 12; refine (awake_any _).mono ?_; rintro e_ w9 ⟨rfl, hb⟩)
    have hB9 := below_step (w := w) (by first | assumption | go_grown) hb
    go_wp2
    go_returns
    exact ⟨rfl, hB9⟩

set_option maxRecDepth 100000 in
theorem meshVolumes_contract (H : Type) (enc : TypeId × Value → H) (W : World) (base : Nat) (args : Array Value) (ds gs : List (DataW H)) (before : List MemPlace)
    (hval : ∀ (j : Nat) t v, Try.f4.params[j]? = some t → args[j]? = some v → Value.okWide Try.prog W .any base t v)
    (hW : DataW.Whole enc Try.prog Try.f4.params.toList Rows.meshVolumesSpec.vars false W args.toList ds gs before) (hL : laidMetH Try.prog Rows.meshVolumesRow.laid W) (hSh : W.ShapedOpen Try.prog) :
    Calls Try.prog 4 args W fun e W' => ∃ v, e = .returned v ∧ Rows.meshVolumesSpec.post enc Try.prog Try.f4 false true false false W args v W' := by
  have hW' := hW
  obtain ⟨p, q, hA0, hV, rfl, hfz, hnd⟩ := hW
  have hA : DataW.TrodAll enc Try.prog W 0 (fun _ => true) true Try.f4.params.toList args.toList ds p := hA0
  rw [Try.params4] at hA hval
  obtain ⟨v0, vs0, d0, ds0, p0, q0, hargs, rfl, rfl, h0, r0⟩ := trodAll_cons hA
  obtain ⟨rfl, rfl, rfl⟩ := trodAll_nil r0
  obtain rfl : args = #[v0] := by cases args; simp_all
  obtain ⟨np, P, nf, F, hm⟩ := mesh_arg (hval 0 25 v0 rfl rfl) h0
  refine (meshVolumes_walk _ np nf P F W hm).mono fun e W' ⟨he, hb⟩ => ?_
  subst he
  exact ⟨_, rfl, law_post laidOut (by kernel_rfl) (by kernel_rfl) Try.underlying4 rfl hW' (fun _ => rfl) hb⟩
theorem meshVolumes_reads (os : Os) {H : Type} (enc : TypeId × Value → H) : ∃ places, DataW.whole enc Try.prog ((World.settled Try.prog os).forCall (fun _ _ => 0) ⟨#[], #[.agg #[.slice none 0 0, .slice none 0 0]], []⟩).memory Try.f4.params.toList Rows.meshVolumesSpec.vars false (#[.agg #[.slice none 0 0, .slice none 0 0]] : Array Value).toList 8 = some ([.agg [.nil, .nil]], [], places) := ⟨[], by kernel_rfl⟩
set_option maxRecDepth 100000 in
theorem meshVolumes_lifted (os : Os) (started : os.Started) (H : Type) (enc : TypeId × Value → H) (F : Stop.Interp) :
    ReturnsInHanded {} Try.checked os 4 .any ((OpenSpec.ofChange Rows.meshVolumesSpec).preRow enc Try.prog Try.f4 Rows.meshVolumesRow.domain false Rows.meshVolumesRow.laid) (((OpenSpec.ofChange Rows.meshVolumesSpec).at F).post enc Try.prog Try.f4 false true false false) := by
  obtain ⟨places, hx⟩ := meshVolumes_reads os enc
  refine returnsInHanded_of_row (C := Try.checked) (s := OpenSpec.ofChange Rows.meshVolumesSpec) own started (by kernel_rfl) Try.func4
    (witness_row_at (enc := enc) (C := Try.checked) false (World.settled Try.prog os) #[.agg #[.slice none 0 0, .slice none 0 0]] rfl (by kernel_rfl) (by kernel_rfl) (by kernel_rfl)
      (OpenSpec.preRow_of_cond 8 hx (by kernel_rfl) (fun k hk => by cases hk) (by kernel_rfl) (laidMet_nil _ _))) ?_
  intro W base args ds gs before hval hW _ _ _ hL hSh _
  exact meshVolumes_contract H enc W base args ds gs before hval hW hL hSh
theorem meshVolumes_said : Rows.MeshVolumesSaid :=
  OpenClaim.holds_of_cond 4 Try.f4 rfl rfl rfl rfl rfl rfl rfl ⟨rfl, rfl, rfl, rfl, rfl⟩ rfl rfl rfl rfl rfl (by kernel_rfl) Try.func4 (by kernel_rfl)
    (of_decide_eq_true (by kernel_rfl)) (by unfold Func.isWrapper; rw [if_neg (of_decide_eq_false (by kernel_rfl))]; exact ⟨rfl, rfl⟩)
    (fun os started H enc _ F => by rw [OpenClaim.pre_eq_preRow]; exact meshVolumes_lifted os started H enc F)
#print axioms meshVolumes_said
end Go.Proofs.Ytpjdmjmgkdgfnaa
