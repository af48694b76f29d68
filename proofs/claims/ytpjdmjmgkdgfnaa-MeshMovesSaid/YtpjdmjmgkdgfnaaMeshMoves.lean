/-
  The law MeshMoves. Conditions: none. By an AI agent.
-/
import Derived.Test.YtpjdmjmgkdgfnaaMeshV
namespace Go.Proofs.Ytpjdmjmgkdgfnaa
open Go Go.ChangeShapes Go.WideShapes Go.RowKit Go.ChangeAt
set_option linter.unusedVariables false
set_option linter.unusedSimpArgs false
set_option maxRecDepth 100000

set_option maxHeartbeats 4000000 in
theorem meshMoves_walk (v : Value) (np nf : Nat) (P F : Nat → V) (a b c k : Int) (w : World) (h : MAt w v np P nf F) : Calls Try.prog 5 #[v, .agg #[.int .i64 a, .int .i64 b, .int .i64 c, .int .i64 k]] w fun e w' => e = .returned (.bool true) ∧ Below w.heap.size w w' := by
  have HM := Lib.hid h
  obtain ⟨op, cp, of', cf, he⟩ := h.slices
  cases he
  obtain ⟨x, hx⟩ : ∃ x, (.slice op np cp : Value) = x := ⟨_, rfl⟩
  obtain ⟨y, hy⟩ : ∃ y, (.slice of' nf cf : Value) = y := ⟨_, rfl⟩
  rw [hx, hy] at HM ⊢
  obtain ⟨LB, hLB⟩ : ∃ b, decide (np ≤ 1100 ∧ nf ≤ 300) = b := ⟨_, rfl⟩
  have HLB := Lib.hid hLB
  obtain ⟨E, hE⟩ : ∃ E, checkM np P nf F = E := ⟨_, rfl⟩
  obtain ⟨M, hM⟩ : ∃ E, moveE np P nf F a b c k = E := ⟨_, rfl⟩
  obtain ⟨PP, hPP⟩ : ∃ E, moveP a b c k P = E := ⟨_, rfl⟩
  obtain ⟨n1, hn1⟩ : ∃ n, mvN M np = n := ⟨_, rfl⟩
  obtain ⟨n2, hn2⟩ : ∃ n, mvN M nf = n := ⟨_, rfl⟩
  obtain ⟨g0, hg0⟩ : ∃ b, bndF np P nf F 0 = b := ⟨_, rfl⟩
  obtain ⟨g1, hg1⟩ : ∃ b, bndF np P nf F 1 = b := ⟨_, rfl⟩
  obtain ⟨g2, hg2⟩ : ∃ b, bndF np P nf F 2 = b := ⟨_, rfl⟩
  obtain ⟨g3, hg3⟩ : ∃ b, bndF np P nf F 3 = b := ⟨_, rfl⟩
  obtain ⟨g4, hg4⟩ : ∃ b, bndF np P nf F 4 = b := ⟨_, rfl⟩
  obtain ⟨g5, hg5⟩ : ∃ b, bndF np P nf F 5 = b := ⟨_, rfl⟩
  have HVO : Hid (∀ W, MAt W (.agg #[x, y]) np P nf F → Calls Try.prog 19 #[.agg #[x, y], .agg #[.int .i64 a, .int .i64 b, .int .i64 c, .int .i64 k]] W fun e w' => ∃ v', e = .returned (.tuple #[v', .int .i64 M]) ∧ MAt w' v' n1 PP n2 F ∧ Below W.heap.size W w') := fun W h => by
    have h := Move_any _ np nf P F a b c k W h
    rw [hM, hn1, hn2, hPP] at h
    exact h
  have HVR : Hid (∀ W, MAt W (.agg #[x, y]) np P nf F → Calls Try.prog 20 #[.agg #[x, y], .agg #[.int .i64 a, .int .i64 b, .int .i64 c, .int .i64 k]] W fun e w' => ∃ v', e = .returned (.tuple #[v', .int .i64 M]) ∧ MAt w' v' n1 PP n2 F ∧ Below W.heap.size W w') := fun W h => by
    have h := rMove_any _ np nf P F a b c k W h
    rw [hM, hn1, hn2, hPP] at h
    exact h
  have HMO : Hid (∀ W, MAt W (.agg #[x, y]) np P nf F → Calls Try.prog 21 #[.agg #[x, y]] W fun e w' => e = .returned (.tuple #[.agg #[.int .i64 g0, .int .i64 g1, .int .i64 g2, .int .i64 g3, .int .i64 g4, .int .i64 g5], .int .i64 E]) ∧ Below W.heap.size W w') := fun W h => by
    have h := Bounds_any _ np nf P F W h
    rw [hE, hg0, hg1, hg2, hg3, hg4, hg5] at h
    exact h
  have HMR : Hid (∀ W, MAt W (.agg #[x, y]) np P nf F → Calls Try.prog 22 #[.agg #[x, y]] W fun e w' => e = .returned (.tuple #[.agg #[.int .i64 g0, .int .i64 g1, .int .i64 g2, .int .i64 g3, .int .i64 g4, .int .i64 g5], .int .i64 E]) ∧ Below W.heap.size W w') := fun W h => by
    have h := rBounds_any _ np nf P F W h
    rw [hE, hg0, hg1, hg2, hg3, hg4, hg5] at h
    exact h
  have q1 := eql_box g0 g1 g2 g3 g4 g5
  clear hx hy h hLB hE hM hPP hn1 hn2 hg0 hg1 hg2 hg3 hg4 hg5
  go_enter Try.func5, Try.ntmps5
  go_wp2_with fail
  (go_at_call 11; refine (light_any _ np nf P F _ (HM.out.below (by first | assumption | go_grown))).mono ?_; rintro e_ w1 ⟨rfl, hb⟩)
  have hsw1 := hb.size
  (try simp only [World.size_alloc, World.size_setCell] at hsw1)
  have zzw1 : w.heap.size < w1.heap.size := by omega
  have hPw1 : Below w.heap.size w w1 := below_step (w := w) (by first | exact Below.refl _ _ | go_grown) hb
  have zmw1 : w.heap.size < w1.heap.size := by omega
  have m0w1 : w1.cell? ⟨w.heap.size, 0, none⟩ = some (x) := (hb.cell (p := ⟨_, _, none⟩) (by simp <;> omega)).trans (by simp [go_sem])
  have m1w1 : w1.cell? ⟨w.heap.size, 1, none⟩ = some (y) := (hb.cell (p := ⟨_, _, none⟩) (by simp <;> omega)).trans (by simp [go_sem])
  have zpw1 : w.heap.size + 1 < w1.heap.size := by omega
  have p0w1 : w1.cell? ⟨w.heap.size + 1, 0, none⟩ = some (.int .i64 a) := (hb.cell (p := ⟨_, _, none⟩) (by simp <;> omega)).trans (by simp [go_sem])
  have p1w1 : w1.cell? ⟨w.heap.size + 1, 1, none⟩ = some (.int .i64 b) := (hb.cell (p := ⟨_, _, none⟩) (by simp <;> omega)).trans (by simp [go_sem])
  have p2w1 : w1.cell? ⟨w.heap.size + 1, 2, none⟩ = some (.int .i64 c) := (hb.cell (p := ⟨_, _, none⟩) (by simp <;> omega)).trans (by simp [go_sem])
  have p3w1 : w1.cell? ⟨w.heap.size + 1, 3, none⟩ = some (.int .i64 k) := (hb.cell (p := ⟨_, _, none⟩) (by simp <;> omega)).trans (by simp [go_sem])
  have hBw1 : Below w.heap.size w w1 := below_step (w := w) (by first | assumption | go_grown) hb
  rw [HLB.out]
  clear hb hsw1 hPw1
  cases LB
  · go_wp2_with fail
    (go_at_call 12; refine (awake_any _).mono ?_; rintro e_ w2 ⟨rfl, hb⟩)
    have hB2 := below_step hBw1 hb
    go_wp2
    go_returns
    exact ⟨rfl, hB2⟩
  · go_wp2_with fail
    (go_at_call 19; refine (HVO.out _ (HM.out.below (by first | assumption | go_grown))).mono ?_; rintro e_ w2 ⟨v2, rfl, hm2, hb⟩)
    have hsw2 := hb.size
    (try simp only [World.size_alloc, World.size_setCell] at hsw2)
    have zzw2 : w.heap.size < w2.heap.size := by omega
    have hPw2 : Below w1.heap.size w1 w2 := below_step (w := w1) (by first | exact Below.refl _ _ | go_grown) hb
    have zmw2 : w.heap.size < w2.heap.size := by omega
    have m0w2 : w2.cell? ⟨w.heap.size, 0, none⟩ = some (x) := (hPw2.cell (p := ⟨_, _, none⟩) zmw1).trans m0w1
    have m1w2 : w2.cell? ⟨w.heap.size, 1, none⟩ = some (y) := (hPw2.cell (p := ⟨_, _, none⟩) zmw1).trans m1w1
    have zpw2 : w.heap.size + 1 < w2.heap.size := by omega
    have p0w2 : w2.cell? ⟨w.heap.size + 1, 0, none⟩ = some (.int .i64 a) := (hPw2.cell (p := ⟨_, _, none⟩) zpw1).trans p0w1
    have p1w2 : w2.cell? ⟨w.heap.size + 1, 1, none⟩ = some (.int .i64 b) := (hPw2.cell (p := ⟨_, _, none⟩) zpw1).trans p1w1
    have p2w2 : w2.cell? ⟨w.heap.size + 1, 2, none⟩ = some (.int .i64 c) := (hPw2.cell (p := ⟨_, _, none⟩) zpw1).trans p2w1
    have p3w2 : w2.cell? ⟨w.heap.size + 1, 3, none⟩ = some (.int .i64 k) := (hPw2.cell (p := ⟨_, _, none⟩) zpw1).trans p3w1
    have hBw2 : Below w.heap.size w w2 := below_step (w := w) (by first | assumption | go_grown) hb
    obtain ⟨o2, c2, o2', c2', rfl⟩ := hm2.slices
    have HM2 := Lib.hid hm2
    clear hm2
    clear hb hsw2 hPw2
    clear zmw1 zpw1 m0w1 m1w1 p0w1 p1w1 p2w1 p3w1
    go_wp2_with fail
    (go_at_call 20; refine (HVR.out _ (HM.out.below (by first | assumption | go_grown))).mono ?_; rintro e_ w3 ⟨v3, rfl, hm3, hb⟩)
    have hsw3 := hb.size
    (try simp only [World.size_alloc, World.size_setCell] at hsw3)
    have zzw3 : w.heap.size < w3.heap.size := by omega
    have hPw3 : Below w2.heap.size w2 w3 := below_step (w := w2) (by first | exact Below.refl _ _ | go_grown) hb
    have zmw3 : w.heap.size < w3.heap.size := by omega
    have m0w3 : w3.cell? ⟨w.heap.size, 0, none⟩ = some (x) := (hPw3.cell (p := ⟨_, _, none⟩) zmw2).trans m0w2
    have m1w3 : w3.cell? ⟨w.heap.size, 1, none⟩ = some (y) := (hPw3.cell (p := ⟨_, _, none⟩) zmw2).trans m1w2
    have zpw3 : w.heap.size + 1 < w3.heap.size := by omega
    have p0w3 : w3.cell? ⟨w.heap.size + 1, 0, none⟩ = some (.int .i64 a) := (hPw3.cell (p := ⟨_, _, none⟩) zpw2).trans p0w2
    have p1w3 : w3.cell? ⟨w.heap.size + 1, 1, none⟩ = some (.int .i64 b) := (hPw3.cell (p := ⟨_, _, none⟩) zpw2).trans p1w2
    have p2w3 : w3.cell? ⟨w.heap.size + 1, 2, none⟩ = some (.int .i64 c) := (hPw3.cell (p := ⟨_, _, none⟩) zpw2).trans p2w2
    have p3w3 : w3.cell? ⟨w.heap.size + 1, 3, none⟩ = some (.int .i64 k) := (hPw3.cell (p := ⟨_, _, none⟩) zpw2).trans p3w2
    have zaw3 : w2.heap.size < w3.heap.size := by omega
    have a0w3 : w3.cell? ⟨w2.heap.size, 0, none⟩ = some (.slice o2 n1 c2) := (hb.cell (p := ⟨_, _, none⟩) (by simp <;> omega)).trans (by simp [go_sem])
    have a1w3 : w3.cell? ⟨w2.heap.size, 1, none⟩ = some (.slice o2' n2 c2') := (hb.cell (p := ⟨_, _, none⟩) (by simp <;> omega)).trans (by simp [go_sem])
    have hBw3 : Below w.heap.size w w3 := below_step (w := w) (by first | assumption | go_grown) hb
    obtain ⟨o3, c3, o3', c3', rfl⟩ := hm3.slices
    have HM3 := Lib.hid hm3
    clear hm3
    replace HM2 := Lib.hid (HM2.out.below hPw3)
    clear hb hsw3 hPw3
    clear zmw2 zpw2 m0w2 m1w2 p0w2 p1w2 p2w2 p3w2
    go_wp2_with fail
    (go_at_call 21; refine (HMO.out _ (HM.out.below (by first | assumption | go_grown))).mono ?_; rintro e_ w4 ⟨rfl, hb⟩)
    have hsw4 := hb.size
    (try simp only [World.size_alloc, World.size_setCell] at hsw4)
    have zzw4 : w.heap.size < w4.heap.size := by omega
    have hPw4 : Below w3.heap.size w3 w4 := below_step (w := w3) (by first | exact Below.refl _ _ | go_grown) hb
    have zmw4 : w.heap.size < w4.heap.size := by omega
    have m0w4 : w4.cell? ⟨w.heap.size, 0, none⟩ = some (x) := (hPw4.cell (p := ⟨_, _, none⟩) zmw3).trans m0w3
    have m1w4 : w4.cell? ⟨w.heap.size, 1, none⟩ = some (y) := (hPw4.cell (p := ⟨_, _, none⟩) zmw3).trans m1w3
    have zpw4 : w.heap.size + 1 < w4.heap.size := by omega
    have p0w4 : w4.cell? ⟨w.heap.size + 1, 0, none⟩ = some (.int .i64 a) := (hPw4.cell (p := ⟨_, _, none⟩) zpw3).trans p0w3
    have p1w4 : w4.cell? ⟨w.heap.size + 1, 1, none⟩ = some (.int .i64 b) := (hPw4.cell (p := ⟨_, _, none⟩) zpw3).trans p1w3
    have p2w4 : w4.cell? ⟨w.heap.size + 1, 2, none⟩ = some (.int .i64 c) := (hPw4.cell (p := ⟨_, _, none⟩) zpw3).trans p2w3
    have p3w4 : w4.cell? ⟨w.heap.size + 1, 3, none⟩ = some (.int .i64 k) := (hPw4.cell (p := ⟨_, _, none⟩) zpw3).trans p3w3
    have zaw4 : w2.heap.size < w4.heap.size := by omega
    have a0w4 : w4.cell? ⟨w2.heap.size, 0, none⟩ = some (.slice o2 n1 c2) := (hPw4.cell (p := ⟨_, _, none⟩) zaw3).trans a0w3
    have a1w4 : w4.cell? ⟨w2.heap.size, 1, none⟩ = some (.slice o2' n2 c2') := (hPw4.cell (p := ⟨_, _, none⟩) zaw3).trans a1w3
    have zbw4 : w3.heap.size < w4.heap.size := by omega
    have b0w4 : w4.cell? ⟨w3.heap.size, 0, none⟩ = some (.slice o3 n1 c3) := (hb.cell (p := ⟨_, _, none⟩) (by simp <;> omega)).trans (by simp [go_sem])
    have b1w4 : w4.cell? ⟨w3.heap.size, 1, none⟩ = some (.slice o3' n2 c3') := (hb.cell (p := ⟨_, _, none⟩) (by simp <;> omega)).trans (by simp [go_sem])
    have hBw4 : Below w.heap.size w w4 := below_step (w := w) (by first | assumption | go_grown) hb
    replace HM2 := Lib.hid (HM2.out.below hPw4)
    replace HM3 := Lib.hid (HM3.out.below hPw4)
    clear hb hsw4 hPw4
    clear zmw3 zpw3 zaw3 m0w3 m1w3 p0w3 p1w3 p2w3 p3w3 a0w3 a1w3
    go_wp2_with fail
    (go_at_call 22; refine (HMR.out _ (HM.out.below (by first | assumption | go_grown))).mono ?_; rintro e_ w5 ⟨rfl, hb⟩)
    have hsw5 := hb.size
    (try simp only [World.size_alloc, World.size_setCell] at hsw5)
    have zzw5 : w.heap.size < w5.heap.size := by omega
    have hPw5 : Below w4.heap.size w4 w5 := below_step (w := w4) (by first | exact Below.refl _ _ | go_grown) hb
    have zmw5 : w.heap.size < w5.heap.size := by omega
    have m0w5 : w5.cell? ⟨w.heap.size, 0, none⟩ = some (x) := (hPw5.cell (p := ⟨_, _, none⟩) zmw4).trans m0w4
    have m1w5 : w5.cell? ⟨w.heap.size, 1, none⟩ = some (y) := (hPw5.cell (p := ⟨_, _, none⟩) zmw4).trans m1w4
    have zpw5 : w.heap.size + 1 < w5.heap.size := by omega
    have p0w5 : w5.cell? ⟨w.heap.size + 1, 0, none⟩ = some (.int .i64 a) := (hPw5.cell (p := ⟨_, _, none⟩) zpw4).trans p0w4
    have p1w5 : w5.cell? ⟨w.heap.size + 1, 1, none⟩ = some (.int .i64 b) := (hPw5.cell (p := ⟨_, _, none⟩) zpw4).trans p1w4
    have p2w5 : w5.cell? ⟨w.heap.size + 1, 2, none⟩ = some (.int .i64 c) := (hPw5.cell (p := ⟨_, _, none⟩) zpw4).trans p2w4
    have p3w5 : w5.cell? ⟨w.heap.size + 1, 3, none⟩ = some (.int .i64 k) := (hPw5.cell (p := ⟨_, _, none⟩) zpw4).trans p3w4
    have zaw5 : w2.heap.size < w5.heap.size := by omega
    have a0w5 : w5.cell? ⟨w2.heap.size, 0, none⟩ = some (.slice o2 n1 c2) := (hPw5.cell (p := ⟨_, _, none⟩) zaw4).trans a0w4
    have a1w5 : w5.cell? ⟨w2.heap.size, 1, none⟩ = some (.slice o2' n2 c2') := (hPw5.cell (p := ⟨_, _, none⟩) zaw4).trans a1w4
    have zbw5 : w3.heap.size < w5.heap.size := by omega
    have b0w5 : w5.cell? ⟨w3.heap.size, 0, none⟩ = some (.slice o3 n1 c3) := (hPw5.cell (p := ⟨_, _, none⟩) zbw4).trans b0w4
    have b1w5 : w5.cell? ⟨w3.heap.size, 1, none⟩ = some (.slice o3' n2 c3') := (hPw5.cell (p := ⟨_, _, none⟩) zbw4).trans b1w4
    have zlw5 : w4.heap.size < w5.heap.size := by omega
    have l0w5 : w5.cell? ⟨w4.heap.size, 0, none⟩ = some (.int .i64 g0) := (hb.cell (p := ⟨_, _, none⟩) (by simp <;> omega)).trans (by simp [go_sem])
    have l1w5 : w5.cell? ⟨w4.heap.size, 1, none⟩ = some (.int .i64 g1) := (hb.cell (p := ⟨_, _, none⟩) (by simp <;> omega)).trans (by simp [go_sem])
    have l2w5 : w5.cell? ⟨w4.heap.size, 2, none⟩ = some (.int .i64 g2) := (hb.cell (p := ⟨_, _, none⟩) (by simp <;> omega)).trans (by simp [go_sem])
    have l3w5 : w5.cell? ⟨w4.heap.size, 3, none⟩ = some (.int .i64 g3) := (hb.cell (p := ⟨_, _, none⟩) (by simp <;> omega)).trans (by simp [go_sem])
    have l4w5 : w5.cell? ⟨w4.heap.size, 4, none⟩ = some (.int .i64 g4) := (hb.cell (p := ⟨_, _, none⟩) (by simp <;> omega)).trans (by simp [go_sem])
    have l5w5 : w5.cell? ⟨w4.heap.size, 5, none⟩ = some (.int .i64 g5) := (hb.cell (p := ⟨_, _, none⟩) (by simp <;> omega)).trans (by simp [go_sem])
    have hBw5 : Below w.heap.size w w5 := below_step (w := w) (by first | assumption | go_grown) hb
    replace HM2 := Lib.hid (HM2.out.below hPw5)
    replace HM3 := Lib.hid (HM3.out.below hPw5)
    clear hb hsw5 hPw5
    clear zmw4 zpw4 zaw4 zbw4 m0w4 m1w4 p0w4 p1w4 p2w4 p3w4 a0w4 a1w4 b0w4 b1w4
    go_wp2_with fail
    (go_at_call 23; refine (same_yes _ _ n1 n2 PP F _ (HM2.out.below (by first | assumption | go_grown)) (HM3.out.below (by first | assumption | go_grown))).mono ?_; rintro e_ w6 ⟨rfl, hb⟩)
    have hsw6 := hb.size
    (try simp only [World.size_alloc, World.size_setCell] at hsw6)
    have zzw6 : w.heap.size < w6.heap.size := by omega
    have hPw6 : Below w5.heap.size w5 w6 := below_step (w := w5) (by first | exact Below.refl _ _ | go_grown) hb
    have zmw6 : w.heap.size < w6.heap.size := by omega
    have m0w6 : w6.cell? ⟨w.heap.size, 0, none⟩ = some (x) := (hPw6.cell (p := ⟨_, _, none⟩) zmw5).trans m0w5
    have m1w6 : w6.cell? ⟨w.heap.size, 1, none⟩ = some (y) := (hPw6.cell (p := ⟨_, _, none⟩) zmw5).trans m1w5
    have zpw6 : w.heap.size + 1 < w6.heap.size := by omega
    have p0w6 : w6.cell? ⟨w.heap.size + 1, 0, none⟩ = some (.int .i64 a) := (hPw6.cell (p := ⟨_, _, none⟩) zpw5).trans p0w5
    have p1w6 : w6.cell? ⟨w.heap.size + 1, 1, none⟩ = some (.int .i64 b) := (hPw6.cell (p := ⟨_, _, none⟩) zpw5).trans p1w5
    have p2w6 : w6.cell? ⟨w.heap.size + 1, 2, none⟩ = some (.int .i64 c) := (hPw6.cell (p := ⟨_, _, none⟩) zpw5).trans p2w5
    have p3w6 : w6.cell? ⟨w.heap.size + 1, 3, none⟩ = some (.int .i64 k) := (hPw6.cell (p := ⟨_, _, none⟩) zpw5).trans p3w5
    have zaw6 : w2.heap.size < w6.heap.size := by omega
    have a0w6 : w6.cell? ⟨w2.heap.size, 0, none⟩ = some (.slice o2 n1 c2) := (hPw6.cell (p := ⟨_, _, none⟩) zaw5).trans a0w5
    have a1w6 : w6.cell? ⟨w2.heap.size, 1, none⟩ = some (.slice o2' n2 c2') := (hPw6.cell (p := ⟨_, _, none⟩) zaw5).trans a1w5
    have zbw6 : w3.heap.size < w6.heap.size := by omega
    have b0w6 : w6.cell? ⟨w3.heap.size, 0, none⟩ = some (.slice o3 n1 c3) := (hPw6.cell (p := ⟨_, _, none⟩) zbw5).trans b0w5
    have b1w6 : w6.cell? ⟨w3.heap.size, 1, none⟩ = some (.slice o3' n2 c3') := (hPw6.cell (p := ⟨_, _, none⟩) zbw5).trans b1w5
    have zlw6 : w4.heap.size < w6.heap.size := by omega
    have l0w6 : w6.cell? ⟨w4.heap.size, 0, none⟩ = some (.int .i64 g0) := (hPw6.cell (p := ⟨_, _, none⟩) zlw5).trans l0w5
    have l1w6 : w6.cell? ⟨w4.heap.size, 1, none⟩ = some (.int .i64 g1) := (hPw6.cell (p := ⟨_, _, none⟩) zlw5).trans l1w5
    have l2w6 : w6.cell? ⟨w4.heap.size, 2, none⟩ = some (.int .i64 g2) := (hPw6.cell (p := ⟨_, _, none⟩) zlw5).trans l2w5
    have l3w6 : w6.cell? ⟨w4.heap.size, 3, none⟩ = some (.int .i64 g3) := (hPw6.cell (p := ⟨_, _, none⟩) zlw5).trans l3w5
    have l4w6 : w6.cell? ⟨w4.heap.size, 4, none⟩ = some (.int .i64 g4) := (hPw6.cell (p := ⟨_, _, none⟩) zlw5).trans l4w5
    have l5w6 : w6.cell? ⟨w4.heap.size, 5, none⟩ = some (.int .i64 g5) := (hPw6.cell (p := ⟨_, _, none⟩) zlw5).trans l5w5
    have zow6 : w5.heap.size < w6.heap.size := by omega
    have o0w6 : w6.cell? ⟨w5.heap.size, 0, none⟩ = some (.int .i64 g0) := (hb.cell (p := ⟨_, _, none⟩) (by simp <;> omega)).trans (by simp [go_sem])
    have o1w6 : w6.cell? ⟨w5.heap.size, 1, none⟩ = some (.int .i64 g1) := (hb.cell (p := ⟨_, _, none⟩) (by simp <;> omega)).trans (by simp [go_sem])
    have o2w6 : w6.cell? ⟨w5.heap.size, 2, none⟩ = some (.int .i64 g2) := (hb.cell (p := ⟨_, _, none⟩) (by simp <;> omega)).trans (by simp [go_sem])
    have o3w6 : w6.cell? ⟨w5.heap.size, 3, none⟩ = some (.int .i64 g3) := (hb.cell (p := ⟨_, _, none⟩) (by simp <;> omega)).trans (by simp [go_sem])
    have o4w6 : w6.cell? ⟨w5.heap.size, 4, none⟩ = some (.int .i64 g4) := (hb.cell (p := ⟨_, _, none⟩) (by simp <;> omega)).trans (by simp [go_sem])
    have o5w6 : w6.cell? ⟨w5.heap.size, 5, none⟩ = some (.int .i64 g5) := (hb.cell (p := ⟨_, _, none⟩) (by simp <;> omega)).trans (by simp [go_sem])
    have hBw6 : Below w.heap.size w w6 := below_step (w := w) (by first | assumption | go_grown) hb
    clear hb hsw6 hPw6
    clear zmw5 zpw5 zaw5 zbw5 zlw5 m0w5 m1w5 p0w5 p1w5 p2w5 p3w5 a0w5 a1w5 b0w5 b1w5 l0w5 l1w5 l2w5 l3w5 l4w5 l5w5
    go_wp2_with fail
    (go_at_call 12; refine (awake_any _).mono ?_; rintro e_ w9 ⟨rfl, hb⟩)
    have hB9 := below_step (w := w) (by first | assumption | go_grown) hb
    go_wp2
    go_returns
    exact ⟨rfl, hB9⟩

set_option maxRecDepth 100000 in
theorem meshMoves_contract (H : Type) (enc : TypeId × Value → H) (W : World) (base : Nat) (args : Array Value) (ds gs : List (DataW H)) (before : List MemPlace)
    (hval : ∀ (j : Nat) t v, Try.f5.params[j]? = some t → args[j]? = some v → Value.okWide Try.prog W .any base t v)
    (hW : DataW.Whole enc Try.prog Try.f5.params.toList Rows.meshMovesSpec.vars false W args.toList ds gs before) (hL : laidMetH Try.prog Rows.meshMovesRow.laid W) (hSh : W.ShapedOpen Try.prog) :
    Calls Try.prog 5 args W fun e W' => ∃ v, e = .returned v ∧ Rows.meshMovesSpec.post enc Try.prog Try.f5 false true false false W args v W' := by
  have hW' := hW
  obtain ⟨p, q, hA0, hV, rfl, hfz, hnd⟩ := hW
  have hA : DataW.TrodAll enc Try.prog W 0 (fun _ => true) true Try.f5.params.toList args.toList ds p := hA0
  rw [Try.params5] at hA hval
  obtain ⟨v0, vs0, d0, ds0, p0, q0, hargs, rfl, rfl, h0, r0⟩ := trodAll_cons hA
  obtain ⟨v1, vs1, d1, ds1, p1, q1, rfl, rfl, rfl, h1, r1⟩ := trodAll_cons r0
  obtain ⟨rfl, rfl, rfl⟩ := trodAll_nil r1
  obtain rfl : args = #[v0, v1] := by cases args; simp_all
  obtain ⟨np, P, nf, F, hm⟩ := mesh_arg (hval 0 25 v0 rfl rfl) h0
  obtain ⟨pa, pb, pc, pk, rfl, ba, bb, bc, bk⟩ := place_arg (hval 1 42 v1 rfl rfl) h1
  refine (meshMoves_walk _ np nf P F pa pb pc pk W hm).mono fun e W' ⟨he, hb⟩ => ?_
  subst he
  exact ⟨_, rfl, law_post laidOut (by kernel_rfl) (by kernel_rfl) Try.underlying4 rfl hW' (fun _ => rfl) hb⟩
theorem meshMoves_reads (os : Os) {H : Type} (enc : TypeId × Value → H) : ∃ places, DataW.whole enc Try.prog ((World.settled Try.prog os).forCall (fun _ _ => 0) ⟨#[], #[.agg #[.slice none 0 0, .slice none 0 0], .agg #[.int .i64 0, .int .i64 0, .int .i64 0, .int .i64 0]], []⟩).memory Try.f5.params.toList Rows.meshMovesSpec.vars false (#[.agg #[.slice none 0 0, .slice none 0 0], .agg #[.int .i64 0, .int .i64 0, .int .i64 0, .int .i64 0]] : Array Value).toList 8 = some ([.agg [.nil, .nil], .agg [.agg [.lit (.int .i64 0), .lit (.int .i64 0), .lit (.int .i64 0)], .lit (.int .i64 0)]], [], places) := ⟨[], by kernel_rfl⟩
set_option maxRecDepth 100000 in
theorem meshMoves_lifted (os : Os) (started : os.Started) (H : Type) (enc : TypeId × Value → H) (F : Stop.Interp) :
    ReturnsInHanded {} Try.checked os 5 .any ((OpenSpec.ofChange Rows.meshMovesSpec).preRow enc Try.prog Try.f5 Rows.meshMovesRow.domain false Rows.meshMovesRow.laid) (((OpenSpec.ofChange Rows.meshMovesSpec).at F).post enc Try.prog Try.f5 false true false false) := by
  obtain ⟨places, hx⟩ := meshMoves_reads os enc
  refine returnsInHanded_of_row (C := Try.checked) (s := OpenSpec.ofChange Rows.meshMovesSpec) own started (by kernel_rfl) Try.func5
    (witness_row_at (enc := enc) (C := Try.checked) false (World.settled Try.prog os) #[.agg #[.slice none 0 0, .slice none 0 0], .agg #[.int .i64 0, .int .i64 0, .int .i64 0, .int .i64 0]] rfl (by kernel_rfl) (by kernel_rfl) (by kernel_rfl)
      (OpenSpec.preRow_of_cond 8 hx (by kernel_rfl) (fun k hk => by cases hk) (by kernel_rfl) (laidMet_nil _ _))) ?_
  intro W base args ds gs before hval hW _ _ _ hL hSh _
  exact meshMoves_contract H enc W base args ds gs before hval hW hL hSh
theorem meshMoves_said : Rows.MeshMovesSaid :=
  OpenClaim.holds_of_cond 5 Try.f5 rfl rfl rfl rfl rfl rfl rfl ⟨rfl, rfl, rfl, rfl, rfl⟩ rfl rfl rfl rfl rfl (by kernel_rfl) Try.func5 (by kernel_rfl)
    (of_decide_eq_true (by kernel_rfl)) (by unfold Func.isWrapper; rw [if_neg (of_decide_eq_false (by kernel_rfl))]; exact ⟨rfl, rfl⟩)
    (fun os started H enc _ F => by rw [OpenClaim.pre_eq_preRow]; exact meshMoves_lifted os started H enc F)
#print axioms meshMoves_said
end Go.Proofs.Ytpjdmjmgkdgfnaa
