/-
  The law MeshRigid. Conditions: none. By an AI agent.
-/
import Derived.Test.YtpjdmjmgkdgfnaaMeshWP
namespace Go.Proofs.Ytpjdmjmgkdgfnaa
open Go Go.ChangeShapes Go.WideShapes Go.RowKit Go.ChangeAt
set_option linter.unusedVariables false
set_option linter.unusedSimpArgs false
set_option maxRecDepth 100000

set_option maxHeartbeats 4000000 in
theorem meshRigid_walk (v : Value) (np nf : Nat) (P F : Nat → V) (a b c k : Int) (w : World) (h : MAt w v np P nf F) : Calls Try.prog 6 #[v, .agg #[.int .i64 a, .int .i64 b, .int .i64 c, .int .i64 k]] w fun e w' => e = .returned (.bool true) ∧ Below w.heap.size w w' := by
  have HM := Lib.hid h
  obtain ⟨op, cp, of', cf, he⟩ := h.slices
  cases he
  obtain ⟨x, hx⟩ : ∃ x, (.slice op np cp : Value) = x := ⟨_, rfl⟩
  obtain ⟨y, hy⟩ : ∃ y, (.slice of' nf cf : Value) = y := ⟨_, rfl⟩
  rw [hx, hy] at HM ⊢
  obtain ⟨LB, hLB⟩ : ∃ b, decide (np ≤ 1100 ∧ nf ≤ 300) = b := ⟨_, rfl⟩
  have HLB := Lib.hid hLB
  obtain ⟨E, hE⟩ : ∃ E, checkM np P nf F = E := ⟨_, rfl⟩
  obtain ⟨M, hM⟩ : ∃ E, moveE np P nf F a b c k = E := ⟨_, rfl⟩
  obtain ⟨PP, hPP⟩ : ∃ E, moveP a b c k P = E := ⟨_, rfl⟩
  have HE := Lib.hid hE
  have HMM := Lib.hid hM
  have HPP := Lib.hid hPP
  obtain ⟨sv, hsv⟩ : ∃ b, decide (vol6 np P nf F < 0) = b := ⟨_, rfl⟩
  obtain ⟨V, hV⟩ : ∃ X, wdF (vol6 np P nf F) = X := ⟨_, rfl⟩
  have HVO : Hid (∀ W, MAt W (.agg #[x, y]) np P nf F → Calls Try.prog 15 #[.agg #[x, y]] W fun e w' => e = .returned (.tuple #[.agg #[.bool sv, .int .u64 (V 0), .int .u64 (V 1), .int .u64 (V 2), .int .u64 (V 3)], .int .i64 E]) ∧ Below W.heap.size W w') := fun W h => by
    have h := Volume6_any _ np nf P F W h
    rw [hsv, hV, hE] at h
    exact h
  have HV := Lib.hid (And.intro hsv hV)
  have HMV : Hid (∀ W, MAt W (.agg #[x, y]) np P nf F → Calls Try.prog 19 #[.agg #[x, y], .agg #[.int .i64 a, .int .i64 b, .int .i64 c, .int .i64 k]] W fun e w' => ∃ v', e = .returned (.tuple #[v', .int .i64 M]) ∧ MAt w' v' (mvN M np) PP (mvN M nf) F ∧ Below W.heap.size W w') := fun W h => by
    have h := Move_any _ np nf P F a b c k W h
    rw [hM, hPP] at h
    exact h
  clear hx hy h hLB hE hM hPP hsv hV
  by_cases hM0 : M = 0
  · subst hM0
    replace HMV : Hid (∀ W, MAt W (.agg #[x, y]) np P nf F → Calls Try.prog 19 #[.agg #[x, y], .agg #[.int .i64 a, .int .i64 b, .int .i64 c, .int .i64 k]] W fun e w' => ∃ v', e = .returned (.tuple #[v', .int .i64 0]) ∧ MAt w' v' np PP nf F ∧ Below W.heap.size W w') := HMV
    have hE0 : E = 0 := by rw [← HE.out]; exact check_iff.2 (move_good HMM.out).1
    subst hE0
    go_enter Try.func6, Try.ntmps6
    go_wp2_with fail
    (go_at_call 11; refine (light_any _ np nf P F _ (HM.out.below (by first | assumption | go_grown))).mono ?_; rintro e_ w1 ⟨rfl, hb⟩)
    have hsw1 := hb.size
    (try simp only [World.size_alloc, World.size_setCell] at hsw1)
    have zzw1 : w.heap.size < w1.heap.size := by omega
    have hPw1 : Below w.heap.size w w1 := below_step (w := w) (by first | exact Below.refl _ _ | go_grown) hb
    have zmw1 : w.heap.size < w1.heap.size := by omega
    have m0w1 : w1.cell? ⟨w.heap.size, 0, none⟩ = some (x) := (hb.cell (p := ⟨_, _, none⟩) (by simp <;> omega)).trans (by simp [go_sem])
    have m1w1 : w1.cell? ⟨w.heap.size, 1, none⟩ = some (y) := (hb.cell (p := ⟨_, _, none⟩) (by simp <;> omega)).trans (by simp [go_sem])
    have zpw1 : w.heap.size + 1 < w1.heap.size := by omega
    have p0w1 : w1.cell? ⟨w.heap.size + 1, 0, none⟩ = some (.int .i64 a) := (hb.cell (p := ⟨_, _, none⟩) (by simp <;> omega)).trans (by simp [go_sem])
    have p1w1 : w1.cell? ⟨w.heap.size + 1, 1, none⟩ = some (.int .i64 b) := (hb.cell (p := ⟨_, _, none⟩) (by simp <;> omega)).trans (by simp [go_sem])
    have p2w1 : w1.cell? ⟨w.heap.size + 1, 2, none⟩ = some (.int .i64 c) := (hb.cell (p := ⟨_, _, none⟩) (by simp <;> omega)).trans (by simp [go_sem])
    have p3w1 : w1.cell? ⟨w.heap.size + 1, 3, none⟩ = some (.int .i64 k) := (hb.cell (p := ⟨_, _, none⟩) (by simp <;> omega)).trans (by simp [go_sem])
    have hBw1 : Below w.heap.size w w1 := below_step (w := w) (by first | assumption | go_grown) hb
    rw [HLB.out]
    clear hb hsw1 hPw1
    cases LB
    · go_wp2_with fail
      (go_at_call 12; refine (awake_any _).mono ?_; rintro e_ w2 ⟨rfl, hb⟩)
      have hB2 := below_step hBw1 hb
      go_wp2
      go_returns
      exact ⟨rfl, hB2⟩
    · go_wp2_with fail
      (go_at_call 15; refine (HVO.out _ (HM.out.below (by first | assumption | go_grown))).mono ?_; rintro e_ w2 ⟨rfl, hb⟩)
      have hsw2 := hb.size
      (try simp only [World.size_alloc, World.size_setCell] at hsw2)
      have zzw2 : w.heap.size < w2.heap.size := by omega
      have hPw2 : Below w1.heap.size w1 w2 := below_step (w := w1) (by first | exact Below.refl _ _ | go_grown) hb
      have zmw2 : w.heap.size < w2.heap.size := by omega
      have m0w2 : w2.cell? ⟨w.heap.size, 0, none⟩ = some (x) := (hPw2.cell (p := ⟨_, _, none⟩) zmw1).trans m0w1
      have m1w2 : w2.cell? ⟨w.heap.size, 1, none⟩ = some (y) := (hPw2.cell (p := ⟨_, _, none⟩) zmw1).trans m1w1
      have zpw2 : w.heap.size + 1 < w2.heap.size := by omega
      have p0w2 : w2.cell? ⟨w.heap.size + 1, 0, none⟩ = some (.int .i64 a) := (hPw2.cell (p := ⟨_, _, none⟩) zpw1).trans p0w1
      have p1w2 : w2.cell? ⟨w.heap.size + 1, 1, none⟩ = some (.int .i64 b) := (hPw2.cell (p := ⟨_, _, none⟩) zpw1).trans p1w1
      have p2w2 : w2.cell? ⟨w.heap.size + 1, 2, none⟩ = some (.int .i64 c) := (hPw2.cell (p := ⟨_, _, none⟩) zpw1).trans p2w1
      have p3w2 : w2.cell? ⟨w.heap.size + 1, 3, none⟩ = some (.int .i64 k) := (hPw2.cell (p := ⟨_, _, none⟩) zpw1).trans p3w1
      have hBw2 : Below w.heap.size w w2 := below_step (w := w) (by first | assumption | go_grown) hb
      clear hb hsw2 hPw2
      clear zmw1 zpw1 m0w1 m1w1 p0w1 p1w1 p2w1 p3w1
      go_wp2_with fail
      (go_at_call 19; refine (HMV.out _ (HM.out.below (by first | assumption | go_grown))).mono ?_; rintro e_ w3 ⟨v3, rfl, hm3, hb⟩)
      have hsw3 := hb.size
      (try simp only [World.size_alloc, World.size_setCell] at hsw3)
      have zzw3 : w.heap.size < w3.heap.size := by omega
      have hPw3 : Below w2.heap.size w2 w3 := below_step (w := w2) (by first | exact Below.refl _ _ | go_grown) hb
      have zmw3 : w.heap.size < w3.heap.size := by omega
      have m0w3 : w3.cell? ⟨w.heap.size, 0, none⟩ = some (x) := (hPw3.cell (p := ⟨_, _, none⟩) zmw2).trans m0w2
      have m1w3 : w3.cell? ⟨w.heap.size, 1, none⟩ = some (y) := (hPw3.cell (p := ⟨_, _, none⟩) zmw2).trans m1w2
      have zpw3 : w.heap.size + 1 < w3.heap.size := by omega
      have p0w3 : w3.cell? ⟨w.heap.size + 1, 0, none⟩ = some (.int .i64 a) := (hPw3.cell (p := ⟨_, _, none⟩) zpw2).trans p0w2
      have p1w3 : w3.cell? ⟨w.heap.size + 1, 1, none⟩ = some (.int .i64 b) := (hPw3.cell (p := ⟨_, _, none⟩) zpw2).trans p1w2
      have p2w3 : w3.cell? ⟨w.heap.size + 1, 2, none⟩ = some (.int .i64 c) := (hPw3.cell (p := ⟨_, _, none⟩) zpw2).trans p2w2
      have p3w3 : w3.cell? ⟨w.heap.size + 1, 3, none⟩ = some (.int .i64 k) := (hPw3.cell (p := ⟨_, _, none⟩) zpw2).trans p3w2
      have zvw3 : w2.heap.size < w3.heap.size := by omega
      have v0w3 : w3.cell? ⟨w2.heap.size, 0, none⟩ = some (.bool sv) := (hb.cell (p := ⟨_, _, none⟩) (by simp <;> omega)).trans (by simp [go_sem])
      have v1w3 : w3.cell? ⟨w2.heap.size, 1, none⟩ = some (.int .u64 (V 0)) := (hb.cell (p := ⟨_, _, none⟩) (by simp <;> omega)).trans (by simp [go_sem])
      have v2w3 : w3.cell? ⟨w2.heap.size, 2, none⟩ = some (.int .u64 (V 1)) := (hb.cell (p := ⟨_, _, none⟩) (by simp <;> omega)).trans (by simp [go_sem])
      have v3w3 : w3.cell? ⟨w2.heap.size, 3, none⟩ = some (.int .u64 (V 2)) := (hb.cell (p := ⟨_, _, none⟩) (by simp <;> omega)).trans (by simp [go_sem])
      have v4w3 : w3.cell? ⟨w2.heap.size, 4, none⟩ = some (.int .u64 (V 3)) := (hb.cell (p := ⟨_, _, none⟩) (by simp <;> omega)).trans (by simp [go_sem])
      have hBw3 : Below w.heap.size w w3 := below_step (w := w) (by first | assumption | go_grown) hb
      obtain ⟨o3, c3, o3', c3', rfl⟩ := hm3.slices
      have HM3 := Lib.hid hm3
      clear hm3
      clear hb hsw3 hPw3
      clear zmw2 zpw2 m0w2 m1w2 p0w2 p1w2 p2w2 p3w2
      obtain ⟨hG, hG2, hvol, hmom, hin⟩ := move_good HMM.out
      have HGG := Lib.hid (And.intro hG (And.intro hG2 (And.intro hvol (And.intro hmom hin))))
      have hpr : moveP a b c k P = PP := HPP.out
      rw [hpr] at hG2 hvol hmom
      have hvb := vol_bd hG
      have hv6 : vol6 np P nf F = volF P F nf := if_pos HE.out
      have hck2 : checkM np PP nf F = 0 := check_iff.2 hG2
      have hv62 : vol6 np PP nf F = vol6 np P nf F := by unfold vol6; rw [if_pos hck2, if_pos HE.out, hvol]
      have HVT : Hid (∀ W, MAt W (.agg #[.slice o3 np c3, .slice o3' nf c3']) np PP nf F → Calls Try.prog 15 #[.agg #[.slice o3 np c3, .slice o3' nf c3']] W fun e w' => e = .returned (.tuple #[.agg #[.bool sv, .int .u64 (V 0), .int .u64 (V 1), .int .u64 (V 2), .int .u64 (V 3)], .int .i64 0]) ∧ Below W.heap.size W w') := fun W h => by
        have h := Volume6_any _ np nf PP F W h
        rw [hv62, HV.out.1, HV.out.2, hck2] at h
        exact h
      obtain ⟨s0, hs0⟩ : ∃ b, decide (mom24 np P nf F 0 < 0) = b := ⟨_, rfl⟩
      obtain ⟨X0, hX0⟩ : ∃ X, wdF (mom24 np P nf F 0) = X := ⟨_, rfl⟩
      obtain ⟨s1, hs1⟩ : ∃ b, decide (mom24 np P nf F 1 < 0) = b := ⟨_, rfl⟩
      obtain ⟨X1, hX1⟩ : ∃ X, wdF (mom24 np P nf F 1) = X := ⟨_, rfl⟩
      obtain ⟨s2, hs2⟩ : ∃ b, decide (mom24 np P nf F 2 < 0) = b := ⟨_, rfl⟩
      obtain ⟨X2, hX2⟩ : ∃ X, wdF (mom24 np P nf F 2) = X := ⟨_, rfl⟩
      obtain ⟨z0, hz0⟩ : ∃ b, decide (mom24 np PP nf F 0 < 0) = b := ⟨_, rfl⟩
      obtain ⟨Z0, hZ0⟩ : ∃ X, wdF (mom24 np PP nf F 0) = X := ⟨_, rfl⟩
      obtain ⟨z1, hz1⟩ : ∃ b, decide (mom24 np PP nf F 1 < 0) = b := ⟨_, rfl⟩
      obtain ⟨Z1, hZ1⟩ : ∃ X, wdF (mom24 np PP nf F 1) = X := ⟨_, rfl⟩
      obtain ⟨z2, hz2⟩ : ∃ b, decide (mom24 np PP nf F 2 < 0) = b := ⟨_, rfl⟩
      obtain ⟨Z2, hZ2⟩ : ∃ X, wdF (mom24 np PP nf F 2) = X := ⟨_, rfl⟩
      have hl : (.agg (lC (mom24 np P nf F) 3) : Value) = .agg #[.bool s0, .int .u64 (X0 0), .int .u64 (X0 1), .int .u64 (X0 2), .int .u64 (X0 3), .bool s1, .int .u64 (X1 0), .int .u64 (X1 1), .int .u64 (X1 2), .int .u64 (X1 3), .bool s2, .int .u64 (X2 0), .int .u64 (X2 1), .int .u64 (X2 2), .int .u64 (X2 3)] := by rw [← hs0, ← hs1, ← hs2, ← hX0, ← hX1, ← hX2]; rfl
      have hl2 : (.agg (lC (mom24 np PP nf F) 3) : Value) = .agg #[.bool z0, .int .u64 (Z0 0), .int .u64 (Z0 1), .int .u64 (Z0 2), .int .u64 (Z0 3), .bool z1, .int .u64 (Z1 0), .int .u64 (Z1 1), .int .u64 (Z1 2), .int .u64 (Z1 3), .bool z2, .int .u64 (Z2 0), .int .u64 (Z2 1), .int .u64 (Z2 2), .int .u64 (Z2 3)] := by rw [← hz0, ← hz1, ← hz2, ← hZ0, ← hZ1, ← hZ2]; rfl
      have HMO : Hid (∀ W, MAt W (.agg #[x, y]) np P nf F → Calls Try.prog 17 #[.agg #[x, y]] W fun e w' => e = .returned (.tuple #[.agg #[.bool s0, .int .u64 (X0 0), .int .u64 (X0 1), .int .u64 (X0 2), .int .u64 (X0 3), .bool s1, .int .u64 (X1 0), .int .u64 (X1 1), .int .u64 (X1 2), .int .u64 (X1 3), .bool s2, .int .u64 (X2 0), .int .u64 (X2 1), .int .u64 (X2 2), .int .u64 (X2 3)], .int .i64 0]) ∧ Below W.heap.size W w') := fun W h => by
        have h := Moment24_any _ np nf P F W h
        rw [hl, HE.out] at h
        exact h
      have HMT : Hid (∀ W, MAt W (.agg #[.slice o3 np c3, .slice o3' nf c3']) np PP nf F → Calls Try.prog 17 #[.agg #[.slice o3 np c3, .slice o3' nf c3']] W fun e w' => e = .returned (.tuple #[.agg #[.bool z0, .int .u64 (Z0 0), .int .u64 (Z0 1), .int .u64 (Z0 2), .int .u64 (Z0 3), .bool z1, .int .u64 (Z1 0), .int .u64 (Z1 1), .int .u64 (Z1 2), .int .u64 (Z1 3), .bool z2, .int .u64 (Z2 0), .int .u64 (Z2 1), .int .u64 (Z2 2), .int .u64 (Z2 3)], .int .i64 0]) ∧ Below W.heap.size W w') := fun W h => by
        have h := Moment24_any _ np nf PP F W h
        rw [hl2, hck2] at h
        exact h
      by_cases hk : k = 0
      · subst hk
        have hb2 := hin
        unfold InB at hb2
        dsimp only at hb2
        obtain ⟨u0, hu0⟩ : ∃ u, 4 * a = u := ⟨_, rfl⟩
        have wu0 : IntKind.i64.wrap (4 * a) = u0 := by rw [← hu0]; exact IntWalk.i64_in _ (by omega)
        have hm0 := mom_bd (F := F) 0 hG.ins (n := nf) hG.ix hG.n2
        have hpr0 := mul_bd (a := volF P F nf) (b := u0) (C := 14167099448608935641088) (D := 2097152) (by decide) (by decide) hvb.1 hvb.2 (by omega) (by omega)
        have hst0 : mom24 np PP nf F 0 = mom24 np P nf F 0 + vol6 np P nf F * u0 := by
          unfold mom24
          rw [if_pos hck2, if_pos HE.out, hv6, hmom rfl 0, ← hu0]
          rfl
        have HS0 : Hid (∀ W, Calls Try.prog 24 #[.agg #[.bool s0, .int .u64 (X0 0), .int .u64 (X0 1), .int .u64 (X0 2), .int .u64 (X0 3)], .agg #[.bool sv, .int .u64 (V 0), .int .u64 (V 1), .int .u64 (V 2), .int .u64 (V 3)], .int .i64 u0] W fun e w' => e = .returned (.agg #[.bool z0, .int .u64 (Z0 0), .int .u64 (Z0 1), .int .u64 (Z0 2), .int .u64 (Z0 3)]) ∧ Below W.heap.size W w') := fun W => by
          have hmq : mom24 np P nf F 0 = momF 0 P F nf := if_pos HE.out
          have h := scaled_any (mom24 np P nf F 0) (vol6 np P nf F) u0 W (by rw [hmq]; omega) (by rw [hv6]; omega) (by omega) (by rw [hv6]; omega) (by rw [hmq, hv6]; omega)
          rw [← hst0, hs0, hX0, HV.out.1, HV.out.2, hz0, hZ0] at h
          exact h
        obtain ⟨u1, hu1⟩ : ∃ u, 4 * b = u := ⟨_, rfl⟩
        have wu1 : IntKind.i64.wrap (4 * b) = u1 := by rw [← hu1]; exact IntWalk.i64_in _ (by omega)
        have hm1 := mom_bd (F := F) 1 hG.ins (n := nf) hG.ix hG.n2
        have hpr1 := mul_bd (a := volF P F nf) (b := u1) (C := 14167099448608935641088) (D := 2097152) (by decide) (by decide) hvb.1 hvb.2 (by omega) (by omega)
        have hst1 : mom24 np PP nf F 1 = mom24 np P nf F 1 + vol6 np P nf F * u1 := by
          unfold mom24
          rw [if_pos hck2, if_pos HE.out, hv6, hmom rfl 1, ← hu1]
          rfl
        have HS1 : Hid (∀ W, Calls Try.prog 24 #[.agg #[.bool s1, .int .u64 (X1 0), .int .u64 (X1 1), .int .u64 (X1 2), .int .u64 (X1 3)], .agg #[.bool sv, .int .u64 (V 0), .int .u64 (V 1), .int .u64 (V 2), .int .u64 (V 3)], .int .i64 u1] W fun e w' => e = .returned (.agg #[.bool z1, .int .u64 (Z1 0), .int .u64 (Z1 1), .int .u64 (Z1 2), .int .u64 (Z1 3)]) ∧ Below W.heap.size W w') := fun W => by
          have hmq : mom24 np P nf F 1 = momF 1 P F nf := if_pos HE.out
          have h := scaled_any (mom24 np P nf F 1) (vol6 np P nf F) u1 W (by rw [hmq]; omega) (by rw [hv6]; omega) (by omega) (by rw [hv6]; omega) (by rw [hmq, hv6]; omega)
          rw [← hst1, hs1, hX1, HV.out.1, HV.out.2, hz1, hZ1] at h
          exact h
        obtain ⟨u2, hu2⟩ : ∃ u, 4 * c = u := ⟨_, rfl⟩
        have wu2 : IntKind.i64.wrap (4 * c) = u2 := by rw [← hu2]; exact IntWalk.i64_in _ (by omega)
        have hm2 := mom_bd (F := F) 2 hG.ins (n := nf) hG.ix hG.n2
        have hpr2 := mul_bd (a := volF P F nf) (b := u2) (C := 14167099448608935641088) (D := 2097152) (by decide) (by decide) hvb.1 hvb.2 (by omega) (by omega)
        have hst2 : mom24 np PP nf F 2 = mom24 np P nf F 2 + vol6 np P nf F * u2 := by
          unfold mom24
          rw [if_pos hck2, if_pos HE.out, hv6, hmom rfl 2, ← hu2]
          rfl
        have HS2 : Hid (∀ W, Calls Try.prog 24 #[.agg #[.bool s2, .int .u64 (X2 0), .int .u64 (X2 1), .int .u64 (X2 2), .int .u64 (X2 3)], .agg #[.bool sv, .int .u64 (V 0), .int .u64 (V 1), .int .u64 (V 2), .int .u64 (V 3)], .int .i64 u2] W fun e w' => e = .returned (.agg #[.bool z2, .int .u64 (Z2 0), .int .u64 (Z2 1), .int .u64 (Z2 2), .int .u64 (Z2 3)]) ∧ Below W.heap.size W w') := fun W => by
          have hmq : mom24 np P nf F 2 = momF 2 P F nf := if_pos HE.out
          have h := scaled_any (mom24 np P nf F 2) (vol6 np P nf F) u2 W (by rw [hmq]; omega) (by rw [hv6]; omega) (by omega) (by rw [hv6]; omega) (by rw [hmq, hv6]; omega)
          rw [← hst2, hs2, hX2, HV.out.1, HV.out.2, hz2, hZ2] at h
          exact h
        clear hb2 hu0 hm0 hpr0 hst0 hu1 hm1 hpr1 hst1 hu2 hm2 hpr2 hst2
        clear hG hG2 hvol hmom hin hpr hvb hv6 hck2 hv62 hl hl2 hs0 hX0 hz0 hZ0 hs1 hX1 hz1 hZ1 hs2 hX2 hz2 hZ2
        have q1 := neq_wide sv (V 0) (V 1) (V 2) (V 3)
        have q2 := eql_wide3 (Z0 0) (Z0 1) (Z0 2) (Z0 3) (Z1 0) (Z1 1) (Z1 2) (Z1 3) (Z2 0) (Z2 1) (Z2 2) (Z2 3) z0 z1 z2
        go_wp2_with fail
        (go_at_call 15; refine (HVT.out _ (HM3.out.below (by first | assumption | go_grown))).mono ?_; rintro e_ w4 ⟨rfl, hb⟩)
        have hsw4 := hb.size
        (try simp only [World.size_alloc, World.size_setCell] at hsw4)
        have zzw4 : w.heap.size < w4.heap.size := by omega
        have hPw4 : Below w3.heap.size w3 w4 := below_step (w := w3) (by first | exact Below.refl _ _ | go_grown) hb
        have zmw4 : w.heap.size < w4.heap.size := by omega
        have m0w4 : w4.cell? ⟨w.heap.size, 0, none⟩ = some (x) := (hPw4.cell (p := ⟨_, _, none⟩) zmw3).trans m0w3
        have m1w4 : w4.cell? ⟨w.heap.size, 1, none⟩ = some (y) := (hPw4.cell (p := ⟨_, _, none⟩) zmw3).trans m1w3
        have zpw4 : w.heap.size + 1 < w4.heap.size := by omega
        have p0w4 : w4.cell? ⟨w.heap.size + 1, 0, none⟩ = some (.int .i64 a) := (hPw4.cell (p := ⟨_, _, none⟩) zpw3).trans p0w3
        have p1w4 : w4.cell? ⟨w.heap.size + 1, 1, none⟩ = some (.int .i64 b) := (hPw4.cell (p := ⟨_, _, none⟩) zpw3).trans p1w3
        have p2w4 : w4.cell? ⟨w.heap.size + 1, 2, none⟩ = some (.int .i64 c) := (hPw4.cell (p := ⟨_, _, none⟩) zpw3).trans p2w3
        have p3w4 : w4.cell? ⟨w.heap.size + 1, 3, none⟩ = some (.int .i64 0) := (hPw4.cell (p := ⟨_, _, none⟩) zpw3).trans p3w3
        have zvw4 : w2.heap.size < w4.heap.size := by omega
        have v0w4 : w4.cell? ⟨w2.heap.size, 0, none⟩ = some (.bool sv) := (hPw4.cell (p := ⟨_, _, none⟩) zvw3).trans v0w3
        have v1w4 : w4.cell? ⟨w2.heap.size, 1, none⟩ = some (.int .u64 (V 0)) := (hPw4.cell (p := ⟨_, _, none⟩) zvw3).trans v1w3
        have v2w4 : w4.cell? ⟨w2.heap.size, 2, none⟩ = some (.int .u64 (V 1)) := (hPw4.cell (p := ⟨_, _, none⟩) zvw3).trans v2w3
        have v3w4 : w4.cell? ⟨w2.heap.size, 3, none⟩ = some (.int .u64 (V 2)) := (hPw4.cell (p := ⟨_, _, none⟩) zvw3).trans v3w3
        have v4w4 : w4.cell? ⟨w2.heap.size, 4, none⟩ = some (.int .u64 (V 3)) := (hPw4.cell (p := ⟨_, _, none⟩) zvw3).trans v4w3
        have ztw4 : w3.heap.size < w4.heap.size := by omega
        have t0w4 : w4.cell? ⟨w3.heap.size, 0, none⟩ = some (.slice o3 np c3) := (hb.cell (p := ⟨_, _, none⟩) (by simp <;> omega)).trans (by simp [go_sem])
        have t1w4 : w4.cell? ⟨w3.heap.size, 1, none⟩ = some (.slice o3' nf c3') := (hb.cell (p := ⟨_, _, none⟩) (by simp <;> omega)).trans (by simp [go_sem])
        replace HM3 := Lib.hid (HM3.out.below hPw4)
        have hBw4 : Below w.heap.size w w4 := below_step (w := w) (by first | assumption | go_grown) hb
        clear hb hsw4 hPw4
        clear zmw3 zpw3 zvw3 m0w3 m1w3 p0w3 p1w3 p2w3 p3w3 v0w3 v1w3 v2w3 v3w3 v4w3
        go_wp2_with fail
        (go_at_call 17; refine (HMO.out _ (HM.out.below (by first | assumption | go_grown))).mono ?_; rintro e_ w5 ⟨rfl, hb⟩)
        have hsw5 := hb.size
        (try simp only [World.size_alloc, World.size_setCell] at hsw5)
        have zzw5 : w.heap.size < w5.heap.size := by omega
        have hPw5 : Below w4.heap.size w4 w5 := below_step (w := w4) (by first | exact Below.refl _ _ | go_grown) hb
        have zmw5 : w.heap.size < w5.heap.size := by omega
        have m0w5 : w5.cell? ⟨w.heap.size, 0, none⟩ = some (x) := (hPw5.cell (p := ⟨_, _, none⟩) zmw4).trans m0w4
        have m1w5 : w5.cell? ⟨w.heap.size, 1, none⟩ = some (y) := (hPw5.cell (p := ⟨_, _, none⟩) zmw4).trans m1w4
        have zpw5 : w.heap.size + 1 < w5.heap.size := by omega
        have p0w5 : w5.cell? ⟨w.heap.size + 1, 0, none⟩ = some (.int .i64 a) := (hPw5.cell (p := ⟨_, _, none⟩) zpw4).trans p0w4
        have p1w5 : w5.cell? ⟨w.heap.size + 1, 1, none⟩ = some (.int .i64 b) := (hPw5.cell (p := ⟨_, _, none⟩) zpw4).trans p1w4
        have p2w5 : w5.cell? ⟨w.heap.size + 1, 2, none⟩ = some (.int .i64 c) := (hPw5.cell (p := ⟨_, _, none⟩) zpw4).trans p2w4
        have p3w5 : w5.cell? ⟨w.heap.size + 1, 3, none⟩ = some (.int .i64 0) := (hPw5.cell (p := ⟨_, _, none⟩) zpw4).trans p3w4
        have zvw5 : w2.heap.size < w5.heap.size := by omega
        have v0w5 : w5.cell? ⟨w2.heap.size, 0, none⟩ = some (.bool sv) := (hPw5.cell (p := ⟨_, _, none⟩) zvw4).trans v0w4
        have v1w5 : w5.cell? ⟨w2.heap.size, 1, none⟩ = some (.int .u64 (V 0)) := (hPw5.cell (p := ⟨_, _, none⟩) zvw4).trans v1w4
        have v2w5 : w5.cell? ⟨w2.heap.size, 2, none⟩ = some (.int .u64 (V 1)) := (hPw5.cell (p := ⟨_, _, none⟩) zvw4).trans v2w4
        have v3w5 : w5.cell? ⟨w2.heap.size, 3, none⟩ = some (.int .u64 (V 2)) := (hPw5.cell (p := ⟨_, _, none⟩) zvw4).trans v3w4
        have v4w5 : w5.cell? ⟨w2.heap.size, 4, none⟩ = some (.int .u64 (V 3)) := (hPw5.cell (p := ⟨_, _, none⟩) zvw4).trans v4w4
        have ztw5 : w3.heap.size < w5.heap.size := by omega
        have t0w5 : w5.cell? ⟨w3.heap.size, 0, none⟩ = some (.slice o3 np c3) := (hPw5.cell (p := ⟨_, _, none⟩) ztw4).trans t0w4
        have t1w5 : w5.cell? ⟨w3.heap.size, 1, none⟩ = some (.slice o3' nf c3') := (hPw5.cell (p := ⟨_, _, none⟩) ztw4).trans t1w4
        have zuw5 : w4.heap.size < w5.heap.size := by omega
        have u0w5 : w5.cell? ⟨w4.heap.size, 0, none⟩ = some (.bool sv) := (hb.cell (p := ⟨_, _, none⟩) (by simp <;> omega)).trans (by simp [go_sem])
        have u1w5 : w5.cell? ⟨w4.heap.size, 1, none⟩ = some (.int .u64 (V 0)) := (hb.cell (p := ⟨_, _, none⟩) (by simp <;> omega)).trans (by simp [go_sem])
        have u2w5 : w5.cell? ⟨w4.heap.size, 2, none⟩ = some (.int .u64 (V 1)) := (hb.cell (p := ⟨_, _, none⟩) (by simp <;> omega)).trans (by simp [go_sem])
        have u3w5 : w5.cell? ⟨w4.heap.size, 3, none⟩ = some (.int .u64 (V 2)) := (hb.cell (p := ⟨_, _, none⟩) (by simp <;> omega)).trans (by simp [go_sem])
        have u4w5 : w5.cell? ⟨w4.heap.size, 4, none⟩ = some (.int .u64 (V 3)) := (hb.cell (p := ⟨_, _, none⟩) (by simp <;> omega)).trans (by simp [go_sem])
        replace HM3 := Lib.hid (HM3.out.below hPw5)
        have hBw5 : Below w.heap.size w w5 := below_step (w := w) (by first | assumption | go_grown) hb
        clear hb hsw5 hPw5
        clear zmw4 zpw4 zvw4 ztw4 m0w4 m1w4 p0w4 p1w4 p2w4 p3w4 v0w4 v1w4 v2w4 v3w4 v4w4 t0w4 t1w4
        go_wp2_with fail
        (go_at_call 17; refine (HMT.out _ (HM3.out.below (by first | assumption | go_grown))).mono ?_; rintro e_ w6 ⟨rfl, hb⟩)
        have hsw6 := hb.size
        (try simp only [World.size_alloc, World.size_setCell] at hsw6)
        have zzw6 : w.heap.size < w6.heap.size := by omega
        have hPw6 : Below w5.heap.size w5 w6 := below_step (w := w5) (by first | exact Below.refl _ _ | go_grown) hb
        have zmw6 : w.heap.size < w6.heap.size := by omega
        have m0w6 : w6.cell? ⟨w.heap.size, 0, none⟩ = some (x) := (hPw6.cell (p := ⟨_, _, none⟩) zmw5).trans m0w5
        have m1w6 : w6.cell? ⟨w.heap.size, 1, none⟩ = some (y) := (hPw6.cell (p := ⟨_, _, none⟩) zmw5).trans m1w5
        have zpw6 : w.heap.size + 1 < w6.heap.size := by omega
        have p0w6 : w6.cell? ⟨w.heap.size + 1, 0, none⟩ = some (.int .i64 a) := (hPw6.cell (p := ⟨_, _, none⟩) zpw5).trans p0w5
        have p1w6 : w6.cell? ⟨w.heap.size + 1, 1, none⟩ = some (.int .i64 b) := (hPw6.cell (p := ⟨_, _, none⟩) zpw5).trans p1w5
        have p2w6 : w6.cell? ⟨w.heap.size + 1, 2, none⟩ = some (.int .i64 c) := (hPw6.cell (p := ⟨_, _, none⟩) zpw5).trans p2w5
        have p3w6 : w6.cell? ⟨w.heap.size + 1, 3, none⟩ = some (.int .i64 0) := (hPw6.cell (p := ⟨_, _, none⟩) zpw5).trans p3w5
        have zvw6 : w2.heap.size < w6.heap.size := by omega
        have v0w6 : w6.cell? ⟨w2.heap.size, 0, none⟩ = some (.bool sv) := (hPw6.cell (p := ⟨_, _, none⟩) zvw5).trans v0w5
        have v1w6 : w6.cell? ⟨w2.heap.size, 1, none⟩ = some (.int .u64 (V 0)) := (hPw6.cell (p := ⟨_, _, none⟩) zvw5).trans v1w5
        have v2w6 : w6.cell? ⟨w2.heap.size, 2, none⟩ = some (.int .u64 (V 1)) := (hPw6.cell (p := ⟨_, _, none⟩) zvw5).trans v2w5
        have v3w6 : w6.cell? ⟨w2.heap.size, 3, none⟩ = some (.int .u64 (V 2)) := (hPw6.cell (p := ⟨_, _, none⟩) zvw5).trans v3w5
        have v4w6 : w6.cell? ⟨w2.heap.size, 4, none⟩ = some (.int .u64 (V 3)) := (hPw6.cell (p := ⟨_, _, none⟩) zvw5).trans v4w5
        have ztw6 : w3.heap.size < w6.heap.size := by omega
        have t0w6 : w6.cell? ⟨w3.heap.size, 0, none⟩ = some (.slice o3 np c3) := (hPw6.cell (p := ⟨_, _, none⟩) ztw5).trans t0w5
        have t1w6 : w6.cell? ⟨w3.heap.size, 1, none⟩ = some (.slice o3' nf c3') := (hPw6.cell (p := ⟨_, _, none⟩) ztw5).trans t1w5
        have zuw6 : w4.heap.size < w6.heap.size := by omega
        have u0w6 : w6.cell? ⟨w4.heap.size, 0, none⟩ = some (.bool sv) := (hPw6.cell (p := ⟨_, _, none⟩) zuw5).trans u0w5
        have u1w6 : w6.cell? ⟨w4.heap.size, 1, none⟩ = some (.int .u64 (V 0)) := (hPw6.cell (p := ⟨_, _, none⟩) zuw5).trans u1w5
        have u2w6 : w6.cell? ⟨w4.heap.size, 2, none⟩ = some (.int .u64 (V 1)) := (hPw6.cell (p := ⟨_, _, none⟩) zuw5).trans u2w5
        have u3w6 : w6.cell? ⟨w4.heap.size, 3, none⟩ = some (.int .u64 (V 2)) := (hPw6.cell (p := ⟨_, _, none⟩) zuw5).trans u3w5
        have u4w6 : w6.cell? ⟨w4.heap.size, 4, none⟩ = some (.int .u64 (V 3)) := (hPw6.cell (p := ⟨_, _, none⟩) zuw5).trans u4w5
        have zxw6 : w5.heap.size < w6.heap.size := by omega
        have x0w6 : w6.cell? ⟨w5.heap.size, 0, none⟩ = some (.bool s0) := (hb.cell (p := ⟨_, _, none⟩) (by simp <;> omega)).trans (by simp [go_sem])
        have x1w6 : w6.cell? ⟨w5.heap.size, 1, none⟩ = some (.int .u64 (X0 0)) := (hb.cell (p := ⟨_, _, none⟩) (by simp <;> omega)).trans (by simp [go_sem])
        have x2w6 : w6.cell? ⟨w5.heap.size, 2, none⟩ = some (.int .u64 (X0 1)) := (hb.cell (p := ⟨_, _, none⟩) (by simp <;> omega)).trans (by simp [go_sem])
        have x3w6 : w6.cell? ⟨w5.heap.size, 3, none⟩ = some (.int .u64 (X0 2)) := (hb.cell (p := ⟨_, _, none⟩) (by simp <;> omega)).trans (by simp [go_sem])
        have x4w6 : w6.cell? ⟨w5.heap.size, 4, none⟩ = some (.int .u64 (X0 3)) := (hb.cell (p := ⟨_, _, none⟩) (by simp <;> omega)).trans (by simp [go_sem])
        have x5w6 : w6.cell? ⟨w5.heap.size, 5, none⟩ = some (.bool s1) := (hb.cell (p := ⟨_, _, none⟩) (by simp <;> omega)).trans (by simp [go_sem])
        have x6w6 : w6.cell? ⟨w5.heap.size, 6, none⟩ = some (.int .u64 (X1 0)) := (hb.cell (p := ⟨_, _, none⟩) (by simp <;> omega)).trans (by simp [go_sem])
        have x7w6 : w6.cell? ⟨w5.heap.size, 7, none⟩ = some (.int .u64 (X1 1)) := (hb.cell (p := ⟨_, _, none⟩) (by simp <;> omega)).trans (by simp [go_sem])
        have x8w6 : w6.cell? ⟨w5.heap.size, 8, none⟩ = some (.int .u64 (X1 2)) := (hb.cell (p := ⟨_, _, none⟩) (by simp <;> omega)).trans (by simp [go_sem])
        have x9w6 : w6.cell? ⟨w5.heap.size, 9, none⟩ = some (.int .u64 (X1 3)) := (hb.cell (p := ⟨_, _, none⟩) (by simp <;> omega)).trans (by simp [go_sem])
        have x10w6 : w6.cell? ⟨w5.heap.size, 10, none⟩ = some (.bool s2) := (hb.cell (p := ⟨_, _, none⟩) (by simp <;> omega)).trans (by simp [go_sem])
        have x11w6 : w6.cell? ⟨w5.heap.size, 11, none⟩ = some (.int .u64 (X2 0)) := (hb.cell (p := ⟨_, _, none⟩) (by simp <;> omega)).trans (by simp [go_sem])
        have x12w6 : w6.cell? ⟨w5.heap.size, 12, none⟩ = some (.int .u64 (X2 1)) := (hb.cell (p := ⟨_, _, none⟩) (by simp <;> omega)).trans (by simp [go_sem])
        have x13w6 : w6.cell? ⟨w5.heap.size, 13, none⟩ = some (.int .u64 (X2 2)) := (hb.cell (p := ⟨_, _, none⟩) (by simp <;> omega)).trans (by simp [go_sem])
        have x14w6 : w6.cell? ⟨w5.heap.size, 14, none⟩ = some (.int .u64 (X2 3)) := (hb.cell (p := ⟨_, _, none⟩) (by simp <;> omega)).trans (by simp [go_sem])
        replace HM3 := Lib.hid (HM3.out.below hPw6)
        have hBw6 : Below w.heap.size w w6 := below_step (w := w) (by first | assumption | go_grown) hb
        clear hb hsw6 hPw6
        clear zmw5 zpw5 zvw5 ztw5 zuw5 m0w5 m1w5 p0w5 p1w5 p2w5 p3w5 v0w5 v1w5 v2w5 v3w5 v4w5 t0w5 t1w5 u0w5 u1w5 u2w5 u3w5 u4w5
        go_wp2_with fail
        refine wp_region_relw 30 (by kernel_rfl) (by kernel_rfl) (by kernel_rfl) ?_
        simp only [List.take_succ_cons, List.take_zero, fillL, Act.put, List.setIfInBounds_toArray, List.set_cons_zero, List.set_cons_succ]
        iterate 8
          apply rel_is
          · intro u wx hb hd
            have hz := hb.size
            (try simp only [World.size_alloc, World.size_setCell] at hz)
            have hz0 : w.heap.size + 1 < wx.heap.size := by omega
            have hz1 : w2.heap.size < wx.heap.size := by omega
            have hz2 : w5.heap.size < wx.heap.size := by omega
            have hz3 : w6.heap.size < wx.heap.size := by omega
            obtain ⟨hc, hf⟩ := bcell hb
            have HBX := Lib.hid hb
            clear hb hz
            simp [depsS, Region.binds, updS, Stay.is, Stay.any] at hd
            go_simp
            first | exact ⟨Below.refl _ _, rfl⟩ | rfl
        apply rel_is
        · intro u wx hb hd
          have hz := hb.size
          (try simp only [World.size_alloc, World.size_setCell] at hz)
          have hz0 : w.heap.size + 1 < wx.heap.size := by omega
          have hz1 : w2.heap.size < wx.heap.size := by omega
          have hz2 : w5.heap.size < wx.heap.size := by omega
          have hz3 : w6.heap.size < wx.heap.size := by omega
          obtain ⟨hc, hf⟩ := bcell hb
          have HBX := Lib.hid hb
          clear hb hz
          simp [depsS, Region.binds, updS, Stay.is, Stay.any] at hd
          go_simp
          first | rfl | (go_at_call 24; refine (HS0.out _).mono ?_; rintro e w1 ⟨rfl, hb1⟩; first | exact ⟨rfl, hb1⟩ | exact ⟨_, rfl, hb1, rfl⟩)
        iterate 7
          apply rel_is
          · intro u wx hb hd
            have hz := hb.size
            (try simp only [World.size_alloc, World.size_setCell] at hz)
            have hz0 : w.heap.size + 1 < wx.heap.size := by omega
            have hz1 : w2.heap.size < wx.heap.size := by omega
            have hz2 : w5.heap.size < wx.heap.size := by omega
            have hz3 : w6.heap.size < wx.heap.size := by omega
            obtain ⟨hc, hf⟩ := bcell hb
            have HBX := Lib.hid hb
            clear hb hz
            simp [depsS, Region.binds, updS, Stay.is, Stay.any] at hd
            go_simp
            first | exact ⟨Below.refl _ _, rfl⟩ | rfl
        apply rel_is
        · intro u wx hb hd
          have hz := hb.size
          (try simp only [World.size_alloc, World.size_setCell] at hz)
          have hz0 : w.heap.size + 1 < wx.heap.size := by omega
          have hz1 : w2.heap.size < wx.heap.size := by omega
          have hz2 : w5.heap.size < wx.heap.size := by omega
          have hz3 : w6.heap.size < wx.heap.size := by omega
          obtain ⟨hc, hf⟩ := bcell hb
          have HBX := Lib.hid hb
          clear hb hz
          simp [depsS, Region.binds, updS, Stay.is, Stay.any] at hd
          go_simp
          first | rfl | (go_at_call 24; refine (HS1.out _).mono ?_; rintro e w1 ⟨rfl, hb1⟩; first | exact ⟨rfl, hb1⟩ | exact ⟨_, rfl, hb1, rfl⟩)
        iterate 7
          apply rel_is
          · intro u wx hb hd
            have hz := hb.size
            (try simp only [World.size_alloc, World.size_setCell] at hz)
            have hz0 : w.heap.size + 1 < wx.heap.size := by omega
            have hz1 : w2.heap.size < wx.heap.size := by omega
            have hz2 : w5.heap.size < wx.heap.size := by omega
            have hz3 : w6.heap.size < wx.heap.size := by omega
            obtain ⟨hc, hf⟩ := bcell hb
            have HBX := Lib.hid hb
            clear hb hz
            simp [depsS, Region.binds, updS, Stay.is, Stay.any] at hd
            go_simp
            first | exact ⟨Below.refl _ _, rfl⟩ | rfl
        apply rel_is
        · intro u wx hb hd
          have hz := hb.size
          (try simp only [World.size_alloc, World.size_setCell] at hz)
          have hz0 : w.heap.size + 1 < wx.heap.size := by omega
          have hz1 : w2.heap.size < wx.heap.size := by omega
          have hz2 : w5.heap.size < wx.heap.size := by omega
          have hz3 : w6.heap.size < wx.heap.size := by omega
          obtain ⟨hc, hf⟩ := bcell hb
          have HBX := Lib.hid hb
          clear hb hz
          simp [depsS, Region.binds, updS, Stay.is, Stay.any] at hd
          go_simp
          first | rfl | (go_at_call 24; refine (HS2.out _).mono ?_; rintro e w1 ⟨rfl, hb1⟩; first | exact ⟨rfl, hb1⟩ | exact ⟨_, rfl, hb1, rfl⟩)
        iterate 3
          apply rel_is
          · intro u wx hb hd
            have hz := hb.size
            (try simp only [World.size_alloc, World.size_setCell] at hz)
            have hz0 : w.heap.size + 1 < wx.heap.size := by omega
            have hz1 : w2.heap.size < wx.heap.size := by omega
            have hz2 : w5.heap.size < wx.heap.size := by omega
            have hz3 : w6.heap.size < wx.heap.size := by omega
            obtain ⟨hc, hf⟩ := bcell hb
            have HBX := Lib.hid hb
            clear hb hz
            simp [depsS, Region.binds, updS, Stay.is, Stay.any] at hd
            go_simp
            first | exact ⟨Below.refl _ _, rfl⟩ | rfl
        apply rel_is
        · intro u wx hb hd
          have hz := hb.size
          (try simp only [World.size_alloc, World.size_setCell] at hz)
          have hz0 : w.heap.size + 1 < wx.heap.size := by omega
          have hz1 : w2.heap.size < wx.heap.size := by omega
          have hz2 : w5.heap.size < wx.heap.size := by omega
          have hz3 : w6.heap.size < wx.heap.size := by omega
          obtain ⟨hc, hf⟩ := bcell hb
          have HBX := Lib.hid hb
          clear hb hz
          simp [depsS, Region.binds, updS, Stay.is, Stay.any] at hd
          go_simp
          first | rfl | (go_at_call 12; refine (awake_any _).mono ?_; rintro e w1 ⟨rfl, hb1⟩; first | exact ⟨rfl, hb1⟩ | exact ⟨_, rfl, hb1, rfl⟩)
        apply rel_is
        · intro u wx hb hd
          have hz := hb.size
          (try simp only [World.size_alloc, World.size_setCell] at hz)
          have hz0 : w.heap.size + 1 < wx.heap.size := by omega
          have hz1 : w2.heap.size < wx.heap.size := by omega
          have hz2 : w5.heap.size < wx.heap.size := by omega
          have hz3 : w6.heap.size < wx.heap.size := by omega
          obtain ⟨hc, hf⟩ := bcell hb
          have HBX := Lib.hid hb
          clear hb hz
          simp [depsS, Region.binds, updS, Stay.is, Stay.any] at hd
          go_simp
          first | exact ⟨Below.refl _ _, rfl⟩ | rfl
        intro u w9 hb hE
        have e0 : u 0 = _ := endS_get hE 0 (by decide)
        have e1 : u 1 = _ := endS_get hE 1 (by decide)
        have e2 : u 2 = _ := endS_get hE 2 (by decide)
        have e3 : u 3 = _ := endS_get hE 3 (by decide)
        have e4 : u 4 = _ := endS_get hE 4 (by decide)
        have e5 : u 5 = _ := endS_get hE 5 (by decide)
        have e6 : u 6 = _ := endS_get hE 6 (by decide)
        have e7 : u 7 = _ := endS_get hE 7 (by decide)
        have e8 : u 8 = _ := endS_get hE 8 (by decide)
        have e9 : u 9 = _ := endS_get hE 9 (by decide)
        have e10 : u 10 = _ := endS_get hE 10 (by decide)
        have e11 : u 11 = _ := endS_get hE 11 (by decide)
        have e12 : u 12 = _ := endS_get hE 12 (by decide)
        have e13 : u 13 = _ := endS_get hE 13 (by decide)
        have e14 : u 14 = _ := endS_get hE 14 (by decide)
        have e15 : u 15 = _ := endS_get hE 15 (by decide)
        have e16 : u 16 = _ := endS_get hE 16 (by decide)
        have e17 : u 17 = _ := endS_get hE 17 (by decide)
        have e18 : u 18 = _ := endS_get hE 18 (by decide)
        have e19 : u 19 = _ := endS_get hE 19 (by decide)
        have e20 : u 20 = _ := endS_get hE 20 (by decide)
        have e21 : u 21 = _ := endS_get hE 21 (by decide)
        have e22 : u 22 = _ := endS_get hE 22 (by decide)
        have e23 : u 23 = _ := endS_get hE 23 (by decide)
        have e24 : u 24 = _ := endS_get hE 24 (by decide)
        have e25 : u 25 = _ := endS_get hE 25 (by decide)
        have e26 : u 26 = _ := endS_get hE 26 (by decide)
        have e27 : u 27 = _ := endS_get hE 27 (by decide)
        have e28 : u 28 = _ := endS_get hE 28 (by decide)
        have e29 : u 29 = _ := endS_get hE 29 (by decide)
        simp only [List.drop_succ_cons, List.drop_zero, List.take_succ_cons, List.take_zero, fillL, Act.put, List.setIfInBounds_toArray, List.set_cons_zero, List.set_cons_succ, e0, e1, e2, e3, e4, e5, e6, e7, e8, e9, e10, e11, e12, e13, e14, e15, e16, e17, e18, e19, e20, e21, e22, e23, e24, e25, e26, e27, e28, e29]
        clear e0 e1 e2 e3 e4 e5 e6 e7 e8 e9 e10 e11 e12 e13 e14 e15 e16 e17 e18 e19 e20 e21 e22 e23 e24 e25 e26 e27 e28 e29 hE
        have HBw9 := Lib.hid (below_step (w := w6) (by first | assumption | go_grown) hb)
        have HBXw9 := Lib.hid hb
        have hzw9 := hb.size
        (try simp only [World.size_alloc, World.size_setCell] at hzw9)
        have hzw90 : w.heap.size + 1 < w9.heap.size := by omega
        have hzw91 : w2.heap.size < w9.heap.size := by omega
        have hzw92 : w5.heap.size < w9.heap.size := by omega
        have hzw93 : w6.heap.size < w9.heap.size := by omega
        obtain ⟨hcw9, hfw9⟩ := bcell hb
        clear hb hzw9
        go_wp2
        go_returns
        exact ⟨rfl, below_step hBw6 HBw9.out⟩
      · have kk : (k == 0) = false := by simpa using hk
        have kk2 : (k != 0) = true := by simpa using hk
        clear hG hG2 hvol hmom hin hpr hvb hv6 hck2 hv62 hl hl2 hs0 hX0 hz0 hZ0 hs1 hX1 hz1 hZ1 hs2 hX2 hz2 hZ2
        clear hk
        have q1 := neq_wide sv (V 0) (V 1) (V 2) (V 3)
        have q2 := eql_wide3 (Z0 0) (Z0 1) (Z0 2) (Z0 3) (Z1 0) (Z1 1) (Z1 2) (Z1 3) (Z2 0) (Z2 1) (Z2 2) (Z2 3) z0 z1 z2
        go_wp2_with fail
        (go_at_call 15; refine (HVT.out _ (HM3.out.below (by first | assumption | go_grown))).mono ?_; rintro e_ w4 ⟨rfl, hb⟩)
        have hsw4 := hb.size
        (try simp only [World.size_alloc, World.size_setCell] at hsw4)
        have zzw4 : w.heap.size < w4.heap.size := by omega
        have hPw4 : Below w3.heap.size w3 w4 := below_step (w := w3) (by first | exact Below.refl _ _ | go_grown) hb
        have zmw4 : w.heap.size < w4.heap.size := by omega
        have m0w4 : w4.cell? ⟨w.heap.size, 0, none⟩ = some (x) := (hPw4.cell (p := ⟨_, _, none⟩) zmw3).trans m0w3
        have m1w4 : w4.cell? ⟨w.heap.size, 1, none⟩ = some (y) := (hPw4.cell (p := ⟨_, _, none⟩) zmw3).trans m1w3
        have zpw4 : w.heap.size + 1 < w4.heap.size := by omega
        have p0w4 : w4.cell? ⟨w.heap.size + 1, 0, none⟩ = some (.int .i64 a) := (hPw4.cell (p := ⟨_, _, none⟩) zpw3).trans p0w3
        have p1w4 : w4.cell? ⟨w.heap.size + 1, 1, none⟩ = some (.int .i64 b) := (hPw4.cell (p := ⟨_, _, none⟩) zpw3).trans p1w3
        have p2w4 : w4.cell? ⟨w.heap.size + 1, 2, none⟩ = some (.int .i64 c) := (hPw4.cell (p := ⟨_, _, none⟩) zpw3).trans p2w3
        have p3w4 : w4.cell? ⟨w.heap.size + 1, 3, none⟩ = some (.int .i64 k) := (hPw4.cell (p := ⟨_, _, none⟩) zpw3).trans p3w3
        have zvw4 : w2.heap.size < w4.heap.size := by omega
        have v0w4 : w4.cell? ⟨w2.heap.size, 0, none⟩ = some (.bool sv) := (hPw4.cell (p := ⟨_, _, none⟩) zvw3).trans v0w3
        have v1w4 : w4.cell? ⟨w2.heap.size, 1, none⟩ = some (.int .u64 (V 0)) := (hPw4.cell (p := ⟨_, _, none⟩) zvw3).trans v1w3
        have v2w4 : w4.cell? ⟨w2.heap.size, 2, none⟩ = some (.int .u64 (V 1)) := (hPw4.cell (p := ⟨_, _, none⟩) zvw3).trans v2w3
        have v3w4 : w4.cell? ⟨w2.heap.size, 3, none⟩ = some (.int .u64 (V 2)) := (hPw4.cell (p := ⟨_, _, none⟩) zvw3).trans v3w3
        have v4w4 : w4.cell? ⟨w2.heap.size, 4, none⟩ = some (.int .u64 (V 3)) := (hPw4.cell (p := ⟨_, _, none⟩) zvw3).trans v4w3
        have ztw4 : w3.heap.size < w4.heap.size := by omega
        have t0w4 : w4.cell? ⟨w3.heap.size, 0, none⟩ = some (.slice o3 np c3) := (hb.cell (p := ⟨_, _, none⟩) (by simp <;> omega)).trans (by simp [go_sem])
        have t1w4 : w4.cell? ⟨w3.heap.size, 1, none⟩ = some (.slice o3' nf c3') := (hb.cell (p := ⟨_, _, none⟩) (by simp <;> omega)).trans (by simp [go_sem])
        replace HM3 := Lib.hid (HM3.out.below hPw4)
        have hBw4 : Below w.heap.size w w4 := below_step (w := w) (by first | assumption | go_grown) hb
        clear hb hsw4 hPw4
        clear zmw3 zpw3 zvw3 m0w3 m1w3 p0w3 p1w3 p2w3 p3w3 v0w3 v1w3 v2w3 v3w3 v4w3
        go_wp2_with fail
        (go_at_call 17; refine (HMO.out _ (HM.out.below (by first | assumption | go_grown))).mono ?_; rintro e_ w5 ⟨rfl, hb⟩)
        have hsw5 := hb.size
        (try simp only [World.size_alloc, World.size_setCell] at hsw5)
        have zzw5 : w.heap.size < w5.heap.size := by omega
        have hPw5 : Below w4.heap.size w4 w5 := below_step (w := w4) (by first | exact Below.refl _ _ | go_grown) hb
        have zmw5 : w.heap.size < w5.heap.size := by omega
        have m0w5 : w5.cell? ⟨w.heap.size, 0, none⟩ = some (x) := (hPw5.cell (p := ⟨_, _, none⟩) zmw4).trans m0w4
        have m1w5 : w5.cell? ⟨w.heap.size, 1, none⟩ = some (y) := (hPw5.cell (p := ⟨_, _, none⟩) zmw4).trans m1w4
        have zpw5 : w.heap.size + 1 < w5.heap.size := by omega
        have p0w5 : w5.cell? ⟨w.heap.size + 1, 0, none⟩ = some (.int .i64 a) := (hPw5.cell (p := ⟨_, _, none⟩) zpw4).trans p0w4
        have p1w5 : w5.cell? ⟨w.heap.size + 1, 1, none⟩ = some (.int .i64 b) := (hPw5.cell (p := ⟨_, _, none⟩) zpw4).trans p1w4
        have p2w5 : w5.cell? ⟨w.heap.size + 1, 2, none⟩ = some (.int .i64 c) := (hPw5.cell (p := ⟨_, _, none⟩) zpw4).trans p2w4
        have p3w5 : w5.cell? ⟨w.heap.size + 1, 3, none⟩ = some (.int .i64 k) := (hPw5.cell (p := ⟨_, _, none⟩) zpw4).trans p3w4
        have zvw5 : w2.heap.size < w5.heap.size := by omega
        have v0w5 : w5.cell? ⟨w2.heap.size, 0, none⟩ = some (.bool sv) := (hPw5.cell (p := ⟨_, _, none⟩) zvw4).trans v0w4
        have v1w5 : w5.cell? ⟨w2.heap.size, 1, none⟩ = some (.int .u64 (V 0)) := (hPw5.cell (p := ⟨_, _, none⟩) zvw4).trans v1w4
        have v2w5 : w5.cell? ⟨w2.heap.size, 2, none⟩ = some (.int .u64 (V 1)) := (hPw5.cell (p := ⟨_, _, none⟩) zvw4).trans v2w4
        have v3w5 : w5.cell? ⟨w2.heap.size, 3, none⟩ = some (.int .u64 (V 2)) := (hPw5.cell (p := ⟨_, _, none⟩) zvw4).trans v3w4
        have v4w5 : w5.cell? ⟨w2.heap.size, 4, none⟩ = some (.int .u64 (V 3)) := (hPw5.cell (p := ⟨_, _, none⟩) zvw4).trans v4w4
        have ztw5 : w3.heap.size < w5.heap.size := by omega
        have t0w5 : w5.cell? ⟨w3.heap.size, 0, none⟩ = some (.slice o3 np c3) := (hPw5.cell (p := ⟨_, _, none⟩) ztw4).trans t0w4
        have t1w5 : w5.cell? ⟨w3.heap.size, 1, none⟩ = some (.slice o3' nf c3') := (hPw5.cell (p := ⟨_, _, none⟩) ztw4).trans t1w4
        have zuw5 : w4.heap.size < w5.heap.size := by omega
        have u0w5 : w5.cell? ⟨w4.heap.size, 0, none⟩ = some (.bool sv) := (hb.cell (p := ⟨_, _, none⟩) (by simp <;> omega)).trans (by simp [go_sem])
        have u1w5 : w5.cell? ⟨w4.heap.size, 1, none⟩ = some (.int .u64 (V 0)) := (hb.cell (p := ⟨_, _, none⟩) (by simp <;> omega)).trans (by simp [go_sem])
        have u2w5 : w5.cell? ⟨w4.heap.size, 2, none⟩ = some (.int .u64 (V 1)) := (hb.cell (p := ⟨_, _, none⟩) (by simp <;> omega)).trans (by simp [go_sem])
        have u3w5 : w5.cell? ⟨w4.heap.size, 3, none⟩ = some (.int .u64 (V 2)) := (hb.cell (p := ⟨_, _, none⟩) (by simp <;> omega)).trans (by simp [go_sem])
        have u4w5 : w5.cell? ⟨w4.heap.size, 4, none⟩ = some (.int .u64 (V 3)) := (hb.cell (p := ⟨_, _, none⟩) (by simp <;> omega)).trans (by simp [go_sem])
        replace HM3 := Lib.hid (HM3.out.below hPw5)
        have hBw5 : Below w.heap.size w w5 := below_step (w := w) (by first | assumption | go_grown) hb
        clear hb hsw5 hPw5
        clear zmw4 zpw4 zvw4 ztw4 m0w4 m1w4 p0w4 p1w4 p2w4 p3w4 v0w4 v1w4 v2w4 v3w4 v4w4 t0w4 t1w4
        go_wp2_with fail
        (go_at_call 17; refine (HMT.out _ (HM3.out.below (by first | assumption | go_grown))).mono ?_; rintro e_ w6 ⟨rfl, hb⟩)
        have hsw6 := hb.size
        (try simp only [World.size_alloc, World.size_setCell] at hsw6)
        have zzw6 : w.heap.size < w6.heap.size := by omega
        have hPw6 : Below w5.heap.size w5 w6 := below_step (w := w5) (by first | exact Below.refl _ _ | go_grown) hb
        have zmw6 : w.heap.size < w6.heap.size := by omega
        have m0w6 : w6.cell? ⟨w.heap.size, 0, none⟩ = some (x) := (hPw6.cell (p := ⟨_, _, none⟩) zmw5).trans m0w5
        have m1w6 : w6.cell? ⟨w.heap.size, 1, none⟩ = some (y) := (hPw6.cell (p := ⟨_, _, none⟩) zmw5).trans m1w5
        have zpw6 : w.heap.size + 1 < w6.heap.size := by omega
        have p0w6 : w6.cell? ⟨w.heap.size + 1, 0, none⟩ = some (.int .i64 a) := (hPw6.cell (p := ⟨_, _, none⟩) zpw5).trans p0w5
        have p1w6 : w6.cell? ⟨w.heap.size + 1, 1, none⟩ = some (.int .i64 b) := (hPw6.cell (p := ⟨_, _, none⟩) zpw5).trans p1w5
        have p2w6 : w6.cell? ⟨w.heap.size + 1, 2, none⟩ = some (.int .i64 c) := (hPw6.cell (p := ⟨_, _, none⟩) zpw5).trans p2w5
        have p3w6 : w6.cell? ⟨w.heap.size + 1, 3, none⟩ = some (.int .i64 k) := (hPw6.cell (p := ⟨_, _, none⟩) zpw5).trans p3w5
        have zvw6 : w2.heap.size < w6.heap.size := by omega
        have v0w6 : w6.cell? ⟨w2.heap.size, 0, none⟩ = some (.bool sv) := (hPw6.cell (p := ⟨_, _, none⟩) zvw5).trans v0w5
        have v1w6 : w6.cell? ⟨w2.heap.size, 1, none⟩ = some (.int .u64 (V 0)) := (hPw6.cell (p := ⟨_, _, none⟩) zvw5).trans v1w5
        have v2w6 : w6.cell? ⟨w2.heap.size, 2, none⟩ = some (.int .u64 (V 1)) := (hPw6.cell (p := ⟨_, _, none⟩) zvw5).trans v2w5
        have v3w6 : w6.cell? ⟨w2.heap.size, 3, none⟩ = some (.int .u64 (V 2)) := (hPw6.cell (p := ⟨_, _, none⟩) zvw5).trans v3w5
        have v4w6 : w6.cell? ⟨w2.heap.size, 4, none⟩ = some (.int .u64 (V 3)) := (hPw6.cell (p := ⟨_, _, none⟩) zvw5).trans v4w5
        have ztw6 : w3.heap.size < w6.heap.size := by omega
        have t0w6 : w6.cell? ⟨w3.heap.size, 0, none⟩ = some (.slice o3 np c3) := (hPw6.cell (p := ⟨_, _, none⟩) ztw5).trans t0w5
        have t1w6 : w6.cell? ⟨w3.heap.size, 1, none⟩ = some (.slice o3' nf c3') := (hPw6.cell (p := ⟨_, _, none⟩) ztw5).trans t1w5
        have zuw6 : w4.heap.size < w6.heap.size := by omega
        have u0w6 : w6.cell? ⟨w4.heap.size, 0, none⟩ = some (.bool sv) := (hPw6.cell (p := ⟨_, _, none⟩) zuw5).trans u0w5
        have u1w6 : w6.cell? ⟨w4.heap.size, 1, none⟩ = some (.int .u64 (V 0)) := (hPw6.cell (p := ⟨_, _, none⟩) zuw5).trans u1w5
        have u2w6 : w6.cell? ⟨w4.heap.size, 2, none⟩ = some (.int .u64 (V 1)) := (hPw6.cell (p := ⟨_, _, none⟩) zuw5).trans u2w5
        have u3w6 : w6.cell? ⟨w4.heap.size, 3, none⟩ = some (.int .u64 (V 2)) := (hPw6.cell (p := ⟨_, _, none⟩) zuw5).trans u3w5
        have u4w6 : w6.cell? ⟨w4.heap.size, 4, none⟩ = some (.int .u64 (V 3)) := (hPw6.cell (p := ⟨_, _, none⟩) zuw5).trans u4w5
        have zxw6 : w5.heap.size < w6.heap.size := by omega
        have x0w6 : w6.cell? ⟨w5.heap.size, 0, none⟩ = some (.bool s0) := (hb.cell (p := ⟨_, _, none⟩) (by simp <;> omega)).trans (by simp [go_sem])
        have x1w6 : w6.cell? ⟨w5.heap.size, 1, none⟩ = some (.int .u64 (X0 0)) := (hb.cell (p := ⟨_, _, none⟩) (by simp <;> omega)).trans (by simp [go_sem])
        have x2w6 : w6.cell? ⟨w5.heap.size, 2, none⟩ = some (.int .u64 (X0 1)) := (hb.cell (p := ⟨_, _, none⟩) (by simp <;> omega)).trans (by simp [go_sem])
        have x3w6 : w6.cell? ⟨w5.heap.size, 3, none⟩ = some (.int .u64 (X0 2)) := (hb.cell (p := ⟨_, _, none⟩) (by simp <;> omega)).trans (by simp [go_sem])
        have x4w6 : w6.cell? ⟨w5.heap.size, 4, none⟩ = some (.int .u64 (X0 3)) := (hb.cell (p := ⟨_, _, none⟩) (by simp <;> omega)).trans (by simp [go_sem])
        have x5w6 : w6.cell? ⟨w5.heap.size, 5, none⟩ = some (.bool s1) := (hb.cell (p := ⟨_, _, none⟩) (by simp <;> omega)).trans (by simp [go_sem])
        have x6w6 : w6.cell? ⟨w5.heap.size, 6, none⟩ = some (.int .u64 (X1 0)) := (hb.cell (p := ⟨_, _, none⟩) (by simp <;> omega)).trans (by simp [go_sem])
        have x7w6 : w6.cell? ⟨w5.heap.size, 7, none⟩ = some (.int .u64 (X1 1)) := (hb.cell (p := ⟨_, _, none⟩) (by simp <;> omega)).trans (by simp [go_sem])
        have x8w6 : w6.cell? ⟨w5.heap.size, 8, none⟩ = some (.int .u64 (X1 2)) := (hb.cell (p := ⟨_, _, none⟩) (by simp <;> omega)).trans (by simp [go_sem])
        have x9w6 : w6.cell? ⟨w5.heap.size, 9, none⟩ = some (.int .u64 (X1 3)) := (hb.cell (p := ⟨_, _, none⟩) (by simp <;> omega)).trans (by simp [go_sem])
        have x10w6 : w6.cell? ⟨w5.heap.size, 10, none⟩ = some (.bool s2) := (hb.cell (p := ⟨_, _, none⟩) (by simp <;> omega)).trans (by simp [go_sem])
        have x11w6 : w6.cell? ⟨w5.heap.size, 11, none⟩ = some (.int .u64 (X2 0)) := (hb.cell (p := ⟨_, _, none⟩) (by simp <;> omega)).trans (by simp [go_sem])
        have x12w6 : w6.cell? ⟨w5.heap.size, 12, none⟩ = some (.int .u64 (X2 1)) := (hb.cell (p := ⟨_, _, none⟩) (by simp <;> omega)).trans (by simp [go_sem])
        have x13w6 : w6.cell? ⟨w5.heap.size, 13, none⟩ = some (.int .u64 (X2 2)) := (hb.cell (p := ⟨_, _, none⟩) (by simp <;> omega)).trans (by simp [go_sem])
        have x14w6 : w6.cell? ⟨w5.heap.size, 14, none⟩ = some (.int .u64 (X2 3)) := (hb.cell (p := ⟨_, _, none⟩) (by simp <;> omega)).trans (by simp [go_sem])
        replace HM3 := Lib.hid (HM3.out.below hPw6)
        have hBw6 : Below w.heap.size w w6 := below_step (w := w) (by first | assumption | go_grown) hb
        clear hb hsw6 hPw6
        clear zmw5 zpw5 zvw5 ztw5 zuw5 m0w5 m1w5 p0w5 p1w5 p2w5 p3w5 v0w5 v1w5 v2w5 v3w5 v4w5 t0w5 t1w5 u0w5 u1w5 u2w5 u3w5 u4w5
        go_wp2_with fail
        (go_at_call 12; refine (awake_any _).mono ?_; rintro e_ w7 ⟨rfl, hb⟩)
        have hBz : Below w.heap.size w w7 := below_step (w := w) (by first | assumption | go_grown) hb
        go_wp2
        go_returns
        exact ⟨rfl, hBz⟩
  · have kM : (M == 0) = false := by simpa using hM0
    have kM2 : (M != 0) = true := by simpa using hM0
    by_cases hE0 : E = 0
    · subst hE0
      clear hM0
      go_enter Try.func6, Try.ntmps6
      go_wp2_with fail
      (go_at_call 11; refine (light_any _ np nf P F _ (HM.out.below (by first | assumption | go_grown))).mono ?_; rintro e_ w1 ⟨rfl, hb⟩)
      have hsw1 := hb.size
      (try simp only [World.size_alloc, World.size_setCell] at hsw1)
      have zzw1 : w.heap.size < w1.heap.size := by omega
      have hPw1 : Below w.heap.size w w1 := below_step (w := w) (by first | exact Below.refl _ _ | go_grown) hb
      have zmw1 : w.heap.size < w1.heap.size := by omega
      have m0w1 : w1.cell? ⟨w.heap.size, 0, none⟩ = some (x) := (hb.cell (p := ⟨_, _, none⟩) (by simp <;> omega)).trans (by simp [go_sem])
      have m1w1 : w1.cell? ⟨w.heap.size, 1, none⟩ = some (y) := (hb.cell (p := ⟨_, _, none⟩) (by simp <;> omega)).trans (by simp [go_sem])
      have zpw1 : w.heap.size + 1 < w1.heap.size := by omega
      have p0w1 : w1.cell? ⟨w.heap.size + 1, 0, none⟩ = some (.int .i64 a) := (hb.cell (p := ⟨_, _, none⟩) (by simp <;> omega)).trans (by simp [go_sem])
      have p1w1 : w1.cell? ⟨w.heap.size + 1, 1, none⟩ = some (.int .i64 b) := (hb.cell (p := ⟨_, _, none⟩) (by simp <;> omega)).trans (by simp [go_sem])
      have p2w1 : w1.cell? ⟨w.heap.size + 1, 2, none⟩ = some (.int .i64 c) := (hb.cell (p := ⟨_, _, none⟩) (by simp <;> omega)).trans (by simp [go_sem])
      have p3w1 : w1.cell? ⟨w.heap.size + 1, 3, none⟩ = some (.int .i64 k) := (hb.cell (p := ⟨_, _, none⟩) (by simp <;> omega)).trans (by simp [go_sem])
      have hBw1 : Below w.heap.size w w1 := below_step (w := w) (by first | assumption | go_grown) hb
      rw [HLB.out]
      clear hb hsw1 hPw1
      cases LB
      · go_wp2_with fail
        (go_at_call 12; refine (awake_any _).mono ?_; rintro e_ w2 ⟨rfl, hb⟩)
        have hB2 := below_step hBw1 hb
        go_wp2
        go_returns
        exact ⟨rfl, hB2⟩
      · go_wp2_with fail
        (go_at_call 15; refine (HVO.out _ (HM.out.below (by first | assumption | go_grown))).mono ?_; rintro e_ w2 ⟨rfl, hb⟩)
        have hsw2 := hb.size
        (try simp only [World.size_alloc, World.size_setCell] at hsw2)
        have zzw2 : w.heap.size < w2.heap.size := by omega
        have hPw2 : Below w1.heap.size w1 w2 := below_step (w := w1) (by first | exact Below.refl _ _ | go_grown) hb
        have zmw2 : w.heap.size < w2.heap.size := by omega
        have m0w2 : w2.cell? ⟨w.heap.size, 0, none⟩ = some (x) := (hPw2.cell (p := ⟨_, _, none⟩) zmw1).trans m0w1
        have m1w2 : w2.cell? ⟨w.heap.size, 1, none⟩ = some (y) := (hPw2.cell (p := ⟨_, _, none⟩) zmw1).trans m1w1
        have zpw2 : w.heap.size + 1 < w2.heap.size := by omega
        have p0w2 : w2.cell? ⟨w.heap.size + 1, 0, none⟩ = some (.int .i64 a) := (hPw2.cell (p := ⟨_, _, none⟩) zpw1).trans p0w1
        have p1w2 : w2.cell? ⟨w.heap.size + 1, 1, none⟩ = some (.int .i64 b) := (hPw2.cell (p := ⟨_, _, none⟩) zpw1).trans p1w1
        have p2w2 : w2.cell? ⟨w.heap.size + 1, 2, none⟩ = some (.int .i64 c) := (hPw2.cell (p := ⟨_, _, none⟩) zpw1).trans p2w1
        have p3w2 : w2.cell? ⟨w.heap.size + 1, 3, none⟩ = some (.int .i64 k) := (hPw2.cell (p := ⟨_, _, none⟩) zpw1).trans p3w1
        have hBw2 : Below w.heap.size w w2 := below_step (w := w) (by first | assumption | go_grown) hb
        clear hb hsw2 hPw2
        clear zmw1 zpw1 m0w1 m1w1 p0w1 p1w1 p2w1 p3w1
        go_wp2_with fail
        (go_at_call 19; refine (HMV.out _ (HM.out.below (by first | assumption | go_grown))).mono ?_; rintro e_ w3 ⟨v3, rfl, hm3, hb⟩)
        have hsw3 := hb.size
        (try simp only [World.size_alloc, World.size_setCell] at hsw3)
        have zzw3 : w.heap.size < w3.heap.size := by omega
        have hPw3 : Below w2.heap.size w2 w3 := below_step (w := w2) (by first | exact Below.refl _ _ | go_grown) hb
        have zmw3 : w.heap.size < w3.heap.size := by omega
        have m0w3 : w3.cell? ⟨w.heap.size, 0, none⟩ = some (x) := (hPw3.cell (p := ⟨_, _, none⟩) zmw2).trans m0w2
        have m1w3 : w3.cell? ⟨w.heap.size, 1, none⟩ = some (y) := (hPw3.cell (p := ⟨_, _, none⟩) zmw2).trans m1w2
        have zpw3 : w.heap.size + 1 < w3.heap.size := by omega
        have p0w3 : w3.cell? ⟨w.heap.size + 1, 0, none⟩ = some (.int .i64 a) := (hPw3.cell (p := ⟨_, _, none⟩) zpw2).trans p0w2
        have p1w3 : w3.cell? ⟨w.heap.size + 1, 1, none⟩ = some (.int .i64 b) := (hPw3.cell (p := ⟨_, _, none⟩) zpw2).trans p1w2
        have p2w3 : w3.cell? ⟨w.heap.size + 1, 2, none⟩ = some (.int .i64 c) := (hPw3.cell (p := ⟨_, _, none⟩) zpw2).trans p2w2
        have p3w3 : w3.cell? ⟨w.heap.size + 1, 3, none⟩ = some (.int .i64 k) := (hPw3.cell (p := ⟨_, _, none⟩) zpw2).trans p3w2
        have zvw3 : w2.heap.size < w3.heap.size := by omega
        have v0w3 : w3.cell? ⟨w2.heap.size, 0, none⟩ = some (.bool sv) := (hb.cell (p := ⟨_, _, none⟩) (by simp <;> omega)).trans (by simp [go_sem])
        have v1w3 : w3.cell? ⟨w2.heap.size, 1, none⟩ = some (.int .u64 (V 0)) := (hb.cell (p := ⟨_, _, none⟩) (by simp <;> omega)).trans (by simp [go_sem])
        have v2w3 : w3.cell? ⟨w2.heap.size, 2, none⟩ = some (.int .u64 (V 1)) := (hb.cell (p := ⟨_, _, none⟩) (by simp <;> omega)).trans (by simp [go_sem])
        have v3w3 : w3.cell? ⟨w2.heap.size, 3, none⟩ = some (.int .u64 (V 2)) := (hb.cell (p := ⟨_, _, none⟩) (by simp <;> omega)).trans (by simp [go_sem])
        have v4w3 : w3.cell? ⟨w2.heap.size, 4, none⟩ = some (.int .u64 (V 3)) := (hb.cell (p := ⟨_, _, none⟩) (by simp <;> omega)).trans (by simp [go_sem])
        have hBw3 : Below w.heap.size w w3 := below_step (w := w) (by first | assumption | go_grown) hb
        obtain ⟨o3, c3, o3', c3', rfl⟩ := hm3.slices
        have HM3 := Lib.hid hm3
        clear hm3
        clear hb hsw3 hPw3
        clear zmw2 zpw2 m0w2 m1w2 p0w2 p1w2 p2w2 p3w2
        clear kM
        go_wp2_with fail
        (go_at_call 12; refine (awake_any _).mono ?_; rintro e_ w4 ⟨rfl, hb⟩)
        have hBz : Below w.heap.size w w4 := below_step (w := w) (by first | assumption | go_grown) hb
        go_wp2
        go_returns
        exact ⟨rfl, hBz⟩
    · have hme : M = E := by rw [← HMM.out, ← HE.out]; unfold moveE; rw [if_pos (by rw [HE.out]; exact hE0)]
      subst hme
      clear hM0 hE0
      go_enter Try.func6, Try.ntmps6
      go_wp2_with fail
      (go_at_call 11; refine (light_any _ np nf P F _ (HM.out.below (by first | assumption | go_grown))).mono ?_; rintro e_ w1 ⟨rfl, hb⟩)
      have hsw1 := hb.size
      (try simp only [World.size_alloc, World.size_setCell] at hsw1)
      have zzw1 : w.heap.size < w1.heap.size := by omega
      have hPw1 : Below w.heap.size w w1 := below_step (w := w) (by first | exact Below.refl _ _ | go_grown) hb
      have zmw1 : w.heap.size < w1.heap.size := by omega
      have m0w1 : w1.cell? ⟨w.heap.size, 0, none⟩ = some (x) := (hb.cell (p := ⟨_, _, none⟩) (by simp <;> omega)).trans (by simp [go_sem])
      have m1w1 : w1.cell? ⟨w.heap.size, 1, none⟩ = some (y) := (hb.cell (p := ⟨_, _, none⟩) (by simp <;> omega)).trans (by simp [go_sem])
      have zpw1 : w.heap.size + 1 < w1.heap.size := by omega
      have p0w1 : w1.cell? ⟨w.heap.size + 1, 0, none⟩ = some (.int .i64 a) := (hb.cell (p := ⟨_, _, none⟩) (by simp <;> omega)).trans (by simp [go_sem])
      have p1w1 : w1.cell? ⟨w.heap.size + 1, 1, none⟩ = some (.int .i64 b) := (hb.cell (p := ⟨_, _, none⟩) (by simp <;> omega)).trans (by simp [go_sem])
      have p2w1 : w1.cell? ⟨w.heap.size + 1, 2, none⟩ = some (.int .i64 c) := (hb.cell (p := ⟨_, _, none⟩) (by simp <;> omega)).trans (by simp [go_sem])
      have p3w1 : w1.cell? ⟨w.heap.size + 1, 3, none⟩ = some (.int .i64 k) := (hb.cell (p := ⟨_, _, none⟩) (by simp <;> omega)).trans (by simp [go_sem])
      have hBw1 : Below w.heap.size w w1 := below_step (w := w) (by first | assumption | go_grown) hb
      rw [HLB.out]
      clear hb hsw1 hPw1
      cases LB
      · go_wp2_with fail
        (go_at_call 12; refine (awake_any _).mono ?_; rintro e_ w2 ⟨rfl, hb⟩)
        have hB2 := below_step hBw1 hb
        go_wp2
        go_returns
        exact ⟨rfl, hB2⟩
      · go_wp2_with fail
        (go_at_call 15; refine (HVO.out _ (HM.out.below (by first | assumption | go_grown))).mono ?_; rintro e_ w2 ⟨rfl, hb⟩)
        have hsw2 := hb.size
        (try simp only [World.size_alloc, World.size_setCell] at hsw2)
        have zzw2 : w.heap.size < w2.heap.size := by omega
        have hPw2 : Below w1.heap.size w1 w2 := below_step (w := w1) (by first | exact Below.refl _ _ | go_grown) hb
        have zmw2 : w.heap.size < w2.heap.size := by omega
        have m0w2 : w2.cell? ⟨w.heap.size, 0, none⟩ = some (x) := (hPw2.cell (p := ⟨_, _, none⟩) zmw1).trans m0w1
        have m1w2 : w2.cell? ⟨w.heap.size, 1, none⟩ = some (y) := (hPw2.cell (p := ⟨_, _, none⟩) zmw1).trans m1w1
        have zpw2 : w.heap.size + 1 < w2.heap.size := by omega
        have p0w2 : w2.cell? ⟨w.heap.size + 1, 0, none⟩ = some (.int .i64 a) := (hPw2.cell (p := ⟨_, _, none⟩) zpw1).trans p0w1
        have p1w2 : w2.cell? ⟨w.heap.size + 1, 1, none⟩ = some (.int .i64 b) := (hPw2.cell (p := ⟨_, _, none⟩) zpw1).trans p1w1
        have p2w2 : w2.cell? ⟨w.heap.size + 1, 2, none⟩ = some (.int .i64 c) := (hPw2.cell (p := ⟨_, _, none⟩) zpw1).trans p2w1
        have p3w2 : w2.cell? ⟨w.heap.size + 1, 3, none⟩ = some (.int .i64 k) := (hPw2.cell (p := ⟨_, _, none⟩) zpw1).trans p3w1
        have hBw2 : Below w.heap.size w w2 := below_step (w := w) (by first | assumption | go_grown) hb
        clear hb hsw2 hPw2
        clear zmw1 zpw1 m0w1 m1w1 p0w1 p1w1 p2w1 p3w1
        go_wp2_with fail
        (go_at_call 19; refine (HMV.out _ (HM.out.below (by first | assumption | go_grown))).mono ?_; rintro e_ w3 ⟨v3, rfl, hm3, hb⟩)
        have hsw3 := hb.size
        (try simp only [World.size_alloc, World.size_setCell] at hsw3)
        have zzw3 : w.heap.size < w3.heap.size := by omega
        have hPw3 : Below w2.heap.size w2 w3 := below_step (w := w2) (by first | exact Below.refl _ _ | go_grown) hb
        have zmw3 : w.heap.size < w3.heap.size := by omega
        have m0w3 : w3.cell? ⟨w.heap.size, 0, none⟩ = some (x) := (hPw3.cell (p := ⟨_, _, none⟩) zmw2).trans m0w2
        have m1w3 : w3.cell? ⟨w.heap.size, 1, none⟩ = some (y) := (hPw3.cell (p := ⟨_, _, none⟩) zmw2).trans m1w2
        have zpw3 : w.heap.size + 1 < w3.heap.size := by omega
        have p0w3 : w3.cell? ⟨w.heap.size + 1, 0, none⟩ = some (.int .i64 a) := (hPw3.cell (p := ⟨_, _, none⟩) zpw2).trans p0w2
        have p1w3 : w3.cell? ⟨w.heap.size + 1, 1, none⟩ = some (.int .i64 b) := (hPw3.cell (p := ⟨_, _, none⟩) zpw2).trans p1w2
        have p2w3 : w3.cell? ⟨w.heap.size + 1, 2, none⟩ = some (.int .i64 c) := (hPw3.cell (p := ⟨_, _, none⟩) zpw2).trans p2w2
        have p3w3 : w3.cell? ⟨w.heap.size + 1, 3, none⟩ = some (.int .i64 k) := (hPw3.cell (p := ⟨_, _, none⟩) zpw2).trans p3w2
        have zvw3 : w2.heap.size < w3.heap.size := by omega
        have v0w3 : w3.cell? ⟨w2.heap.size, 0, none⟩ = some (.bool sv) := (hb.cell (p := ⟨_, _, none⟩) (by simp <;> omega)).trans (by simp [go_sem])
        have v1w3 : w3.cell? ⟨w2.heap.size, 1, none⟩ = some (.int .u64 (V 0)) := (hb.cell (p := ⟨_, _, none⟩) (by simp <;> omega)).trans (by simp [go_sem])
        have v2w3 : w3.cell? ⟨w2.heap.size, 2, none⟩ = some (.int .u64 (V 1)) := (hb.cell (p := ⟨_, _, none⟩) (by simp <;> omega)).trans (by simp [go_sem])
        have v3w3 : w3.cell? ⟨w2.heap.size, 3, none⟩ = some (.int .u64 (V 2)) := (hb.cell (p := ⟨_, _, none⟩) (by simp <;> omega)).trans (by simp [go_sem])
        have v4w3 : w3.cell? ⟨w2.heap.size, 4, none⟩ = some (.int .u64 (V 3)) := (hb.cell (p := ⟨_, _, none⟩) (by simp <;> omega)).trans (by simp [go_sem])
        have hBw3 : Below w.heap.size w w3 := below_step (w := w) (by first | assumption | go_grown) hb
        obtain ⟨o3, c3, o3', c3', rfl⟩ := hm3.slices
        have HM3 := Lib.hid hm3
        clear hm3
        clear hb hsw3 hPw3
        clear zmw2 zpw2 m0w2 m1w2 p0w2 p1w2 p2w2 p3w2
        go_wp2_with fail
        (go_at_call 12; refine (awake_any _).mono ?_; rintro e_ w4 ⟨rfl, hb⟩)
        have hBz : Below w.heap.size w w4 := below_step (w := w) (by first | assumption | go_grown) hb
        go_wp2
        go_returns
        exact ⟨rfl, hBz⟩

set_option maxRecDepth 100000 in
theorem meshRigid_contract (H : Type) (enc : TypeId × Value → H) (W : World) (base : Nat) (args : Array Value) (ds gs : List (DataW H)) (before : List MemPlace)
    (hval : ∀ (j : Nat) t v, Try.f6.params[j]? = some t → args[j]? = some v → Value.okWide Try.prog W .any base t v)
    (hW : DataW.Whole enc Try.prog Try.f6.params.toList Rows.meshRigidSpec.vars false W args.toList ds gs before) (hL : laidMetH Try.prog Rows.meshRigidRow.laid W) (hSh : W.ShapedOpen Try.prog) :
    Calls Try.prog 6 args W fun e W' => ∃ v, e = .returned v ∧ Rows.meshRigidSpec.post enc Try.prog Try.f6 false true false false W args v W' := by
  have hW' := hW
  obtain ⟨p, q, hA0, hV, rfl, hfz, hnd⟩ := hW
  have hA : DataW.TrodAll enc Try.prog W 0 (fun _ => true) true Try.f6.params.toList args.toList ds p := hA0
  rw [Try.params6] at hA hval
  obtain ⟨v0, vs0, d0, ds0, p0, q0, hargs, rfl, rfl, h0, r0⟩ := trodAll_cons hA
  obtain ⟨v1, vs1, d1, ds1, p1, q1, rfl, rfl, rfl, h1, r1⟩ := trodAll_cons r0
  obtain ⟨rfl, rfl, rfl⟩ := trodAll_nil r1
  obtain rfl : args = #[v0, v1] := by cases args; simp_all
  obtain ⟨np, P, nf, F, hm⟩ := mesh_arg (hval 0 25 v0 rfl rfl) h0
  obtain ⟨pa, pb, pc, pk, rfl, ba, bb, bc, bk⟩ := place_arg (hval 1 42 v1 rfl rfl) h1
  refine (meshRigid_walk _ np nf P F pa pb pc pk W hm).mono fun e W' ⟨he, hb⟩ => ?_
  subst he
  exact ⟨_, rfl, law_post laidOut (by kernel_rfl) (by kernel_rfl) Try.underlying4 rfl hW' (fun _ => rfl) hb⟩
theorem meshRigid_reads (os : Os) {H : Type} (enc : TypeId × Value → H) : ∃ places, DataW.whole enc Try.prog ((World.settled Try.prog os).forCall (fun _ _ => 0) ⟨#[], #[.agg #[.slice none 0 0, .slice none 0 0], .agg #[.int .i64 0, .int .i64 0, .int .i64 0, .int .i64 0]], []⟩).memory Try.f6.params.toList Rows.meshRigidSpec.vars false (#[.agg #[.slice none 0 0, .slice none 0 0], .agg #[.int .i64 0, .int .i64 0, .int .i64 0, .int .i64 0]] : Array Value).toList 8 = some ([.agg [.nil, .nil], .agg [.agg [.lit (.int .i64 0), .lit (.int .i64 0), .lit (.int .i64 0)], .lit (.int .i64 0)]], [], places) := ⟨[], by kernel_rfl⟩
set_option maxRecDepth 100000 in
theorem meshRigid_lifted (os : Os) (started : os.Started) (H : Type) (enc : TypeId × Value → H) (F : Stop.Interp) :
    ReturnsInHanded {} Try.checked os 6 .any ((OpenSpec.ofChange Rows.meshRigidSpec).preRow enc Try.prog Try.f6 Rows.meshRigidRow.domain false Rows.meshRigidRow.laid) (((OpenSpec.ofChange Rows.meshRigidSpec).at F).post enc Try.prog Try.f6 false true false false) := by
  obtain ⟨places, hx⟩ := meshRigid_reads os enc
  refine returnsInHanded_of_row (C := Try.checked) (s := OpenSpec.ofChange Rows.meshRigidSpec) own started (by kernel_rfl) Try.func6
    (witness_row_at (enc := enc) (C := Try.checked) false (World.settled Try.prog os) #[.agg #[.slice none 0 0, .slice none 0 0], .agg #[.int .i64 0, .int .i64 0, .int .i64 0, .int .i64 0]] rfl (by kernel_rfl) (by kernel_rfl) (by kernel_rfl)
      (OpenSpec.preRow_of_cond 8 hx (by kernel_rfl) (fun k hk => by cases hk) (by kernel_rfl) (laidMet_nil _ _))) ?_
  intro W base args ds gs before hval hW _ _ _ hL hSh _
  exact meshRigid_contract H enc W base args ds gs before hval hW hL hSh
theorem meshRigid_said : Rows.MeshRigidSaid :=
  OpenClaim.holds_of_cond 6 Try.f6 rfl rfl rfl rfl rfl rfl rfl ⟨rfl, rfl, rfl, rfl, rfl⟩ rfl rfl rfl rfl rfl (by kernel_rfl) Try.func6 (by kernel_rfl)
    (of_decide_eq_true (by kernel_rfl)) (by unfold Func.isWrapper; rw [if_neg (of_decide_eq_false (by kernel_rfl))]; exact ⟨rfl, rfl⟩)
    (fun os started H enc _ F => by rw [OpenClaim.pre_eq_preRow]; exact meshRigid_lifted os started H enc F)
#print axioms meshRigid_said
end Go.Proofs.Ytpjdmjmgkdgfnaa
