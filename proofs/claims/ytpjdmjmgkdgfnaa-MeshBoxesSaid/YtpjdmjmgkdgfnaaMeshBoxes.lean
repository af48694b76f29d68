/-
  The law MeshBoxes. Conditions: none. By an AI agent.
-/
import Derived.Test.YtpjdmjmgkdgfnaaMeshZP
namespace Go.Proofs.Ytpjdmjmgkdgfnaa
open Go Go.ChangeShapes Go.WideShapes Go.RowKit Go.ChangeAt
set_option linter.unusedVariables false
set_option linter.unusedSimpArgs false
set_option maxRecDepth 100000

def Stay.newc (B : Nat) (cs : Array Value) (t : TypeId) : Stay := ⟨NewCells B cs t, fun _ _ _ hb h => h.mono hb⟩

set_option maxHeartbeats 4000000 in
theorem meshBoxes_walk (va vb vc ka kb : Int) (w : World) (hka : 0 ≤ ka ∧ ka ≤ 65535) (hkb : 0 ≤ kb ∧ kb ≤ 65535) : Calls Try.prog 7 #[.agg #[.int .i64 va, .int .i64 vb, .int .i64 vc], .int .u16 ka, .int .u16 kb] w fun e w' => e = .returned (.bool true) ∧ Below w.heap.size w w' := by
  obtain ⟨X, hX⟩ : ∃ x, va.tmod 1000 = x := ⟨_, rfl⟩
  obtain ⟨Y, hY⟩ : ∃ x, vb.tmod 1000 = x := ⟨_, rfl⟩
  obtain ⟨Z, hZ⟩ : ∃ x, vc.tmod 1000 = x := ⟨_, rfl⟩
  have bX : -999 ≤ X ∧ X ≤ 999 := by have h1 := Int.tmod_lt_of_pos va (show (0 : Int) < 1000 by decide); have h2 := Int.lt_tmod_of_pos va (show (0 : Int) < 1000 by decide); omega
  have bY : -999 ≤ Y ∧ Y ≤ 999 := by have h1 := Int.tmod_lt_of_pos vb (show (0 : Int) < 1000 by decide); have h2 := Int.lt_tmod_of_pos vb (show (0 : Int) < 1000 by decide); omega
  have bZ : -999 ≤ Z ∧ Z ≤ 999 := by have h1 := Int.tmod_lt_of_pos vc (show (0 : Int) < 1000 by decide); have h2 := Int.lt_tmod_of_pos vc (show (0 : Int) < 1000 by decide); omega
  obtain ⟨ra, hra⟩ : ∃ x, ka.tmod 1000 = x := ⟨_, rfl⟩
  obtain ⟨rb, hrb⟩ : ∃ x, kb.tmod 1000 = x := ⟨_, rfl⟩
  obtain ⟨rc, hrc⟩ : ∃ x, (ka + kb).tmod 700 = x := ⟨_, rfl⟩
  have bra : 0 ≤ ra ∧ ra ≤ 999 := by rw [Int.tmod_eq_emod_of_nonneg hka.1] at hra; omega
  have brb : 0 ≤ rb ∧ rb ≤ 999 := by rw [Int.tmod_eq_emod_of_nonneg hkb.1] at hrb; omega
  have brc : 0 ≤ rc ∧ rc ≤ 699 := by rw [Int.tmod_eq_emod_of_nonneg (by omega)] at hrc; omega
  obtain ⟨p, hp⟩ : ∃ x, 1 + ra = x := ⟨_, rfl⟩
  obtain ⟨q, hq⟩ : ∃ x, 1 + rb = x := ⟨_, rfl⟩
  obtain ⟨r, hr⟩ : ∃ x, 1 + rc = x := ⟨_, rfl⟩
  have bp : 1 ≤ p ∧ p ≤ 1000 := by omega
  have bq : 1 ≤ q ∧ q ≤ 1000 := by omega
  have br : 1 ≤ r ∧ r ≤ 1000 := by omega
  have i1 : IntKind.i64.wrap X = X := IntWalk.i64_in _ (by omega)
  have i2 : IntKind.i64.wrap Y = Y := IntWalk.i64_in _ (by omega)
  have i3 : IntKind.i64.wrap Z = Z := IntWalk.i64_in _ (by omega)
  have i4 : IntKind.i64.wrap ka = ka := IntWalk.i64_in _ (by omega)
  have i5 : IntKind.i64.wrap kb = kb := IntWalk.i64_in _ (by omega)
  have i6 : IntKind.i64.wrap ra = ra := IntWalk.i64_in _ (by omega)
  have i7 : IntKind.i64.wrap rb = rb := IntWalk.i64_in _ (by omega)
  have i8 : IntKind.i64.wrap rc = rc := IntWalk.i64_in _ (by omega)
  have i9 : IntKind.i64.wrap (ka + kb) = ka + kb := IntWalk.i64_in _ (by omega)
  have i10 : IntKind.i64.wrap (1 + ra) = p := by rw [hp]; exact IntWalk.i64_in _ (by omega)
  have i11 : IntKind.i64.wrap (1 + rb) = q := by rw [hq]; exact IntWalk.i64_in _ (by omega)
  have i12 : IntKind.i64.wrap (1 + rc) = r := by rw [hr]; exact IntWalk.i64_in _ (by omega)
  obtain ⟨pq, hpq⟩ : ∃ x, p * q = x := ⟨_, rfl⟩
  obtain ⟨N, hN⟩ : ∃ x, pq * r = x := ⟨_, rfl⟩
  have bpq : 0 ≤ pq ∧ pq ≤ 1000000 := by
    have h1 := mul_bd (a := p) (b := q) (C := 1000) (D := 1000) (by decide) (by decide) (by omega) (by omega) (by omega) (by omega)
    have h2 := Int.mul_nonneg (show 0 ≤ p by omega) (show 0 ≤ q by omega)
    rw [hpq] at h1 h2
    omega
  have bN : 0 ≤ N ∧ N ≤ 1000000000 := by
    have h1 := mul_bd (a := pq) (b := r) (C := 1000000) (D := 1000) (by decide) (by decide) (by omega) (by omega) (by omega) (by omega)
    have h2 := Int.mul_nonneg (show 0 ≤ pq by omega) (show 0 ≤ r by omega)
    rw [hN] at h1 h2
    omega
  have i13 : IntKind.i64.wrap (p * q) = pq := by rw [hpq]; exact IntWalk.i64_in _ (by omega)
  have i14 : IntKind.i64.wrap (pq * r) = N := by rw [hN]; exact IntWalk.i64_in _ (by omega)
  obtain ⟨N2, hN2⟩ : ∃ x, 12 * N = x := ⟨_, rfl⟩
  obtain ⟨N6, hN6⟩ : ∃ x, 6 * N = x := ⟨_, rfl⟩
  have i15 : IntKind.i64.wrap (12 * N) = N2 := by rw [hN2]; exact IntWalk.i64_in _ (by omega)
  have i16 : IntKind.i64.wrap (6 * N) = N6 := by rw [hN6]; exact IntWalk.i64_in _ (by omega)
  obtain ⟨d0, hd0⟩ : ∃ e, 2 * X = e := ⟨_, rfl⟩
  obtain ⟨g0, hg0⟩ : ∃ e, d0 + p = e := ⟨_, rfl⟩
  obtain ⟨m0, hm0⟩ : ∃ x, N2 * g0 = x := ⟨_, rfl⟩
  have bm0 : -36000000000000 ≤ m0 ∧ m0 ≤ 36000000000000 := by
    have h1 := mul_bd (a := N2) (b := g0) (C := 12000000000) (D := 3000) (by decide) (by decide) (by omega) (by omega) (by omega) (by omega)
    rw [hm0] at h1
    omega
  have j0 : IntKind.i64.wrap (2 * X) = d0 := by rw [hd0]; exact IntWalk.i64_in _ (by omega)
  have l0 : IntKind.i64.wrap (d0 + p) = g0 := by rw [hg0]; exact IntWalk.i64_in _ (by omega)
  have n0 : IntKind.i64.wrap (N2 * g0) = m0 := by rw [hm0]; exact IntWalk.i64_in _ (by omega)
  obtain ⟨d1, hd1⟩ : ∃ e, 2 * Y = e := ⟨_, rfl⟩
  obtain ⟨g1, hg1⟩ : ∃ e, d1 + q = e := ⟨_, rfl⟩
  obtain ⟨m1, hm1⟩ : ∃ x, N2 * g1 = x := ⟨_, rfl⟩
  have bm1 : -36000000000000 ≤ m1 ∧ m1 ≤ 36000000000000 := by
    have h1 := mul_bd (a := N2) (b := g1) (C := 12000000000) (D := 3000) (by decide) (by decide) (by omega) (by omega) (by omega) (by omega)
    rw [hm1] at h1
    omega
  have j1 : IntKind.i64.wrap (2 * Y) = d1 := by rw [hd1]; exact IntWalk.i64_in _ (by omega)
  have l1 : IntKind.i64.wrap (d1 + q) = g1 := by rw [hg1]; exact IntWalk.i64_in _ (by omega)
  have n1 : IntKind.i64.wrap (N2 * g1) = m1 := by rw [hm1]; exact IntWalk.i64_in _ (by omega)
  obtain ⟨d2, hd2⟩ : ∃ e, 2 * Z = e := ⟨_, rfl⟩
  obtain ⟨g2, hg2⟩ : ∃ e, d2 + r = e := ⟨_, rfl⟩
  obtain ⟨m2, hm2⟩ : ∃ x, N2 * g2 = x := ⟨_, rfl⟩
  have bm2 : -36000000000000 ≤ m2 ∧ m2 ≤ 36000000000000 := by
    have h1 := mul_bd (a := N2) (b := g2) (C := 12000000000) (D := 3000) (by decide) (by decide) (by omega) (by omega) (by omega) (by omega)
    rw [hm2] at h1
    omega
  have j2 : IntKind.i64.wrap (2 * Z) = d2 := by rw [hd2]; exact IntWalk.i64_in _ (by omega)
  have l2 : IntKind.i64.wrap (d2 + r) = g2 := by rw [hg2]; exact IntWalk.i64_in _ (by omega)
  have n2 : IntKind.i64.wrap (N2 * g2) = m2 := by rw [hm2]; exact IntWalk.i64_in _ (by omega)
  have hG := box_good (x := (X, Y, Z)) (s := (p, q, r)) bX bY bZ bp bq br
  have hck := check_iff.2 hG
  have HBO : Hid (∀ W, Calls Try.prog 25 #[.agg #[.int .i64 X, .int .i64 Y, .int .i64 Z], .agg #[.int .i64 p, .int .i64 q, .int .i64 r]] W fun e w' => ∃ v, e = .returned v ∧ MAt w' v 8 (boxP (X, Y, Z) (p, q, r)) 12 boxF ∧ Below W.heap.size W w') := fun W => box_any X Y Z p q r W bX bY bZ bp bq br
  have hv : vol6 8 (boxP (X, Y, Z) (p, q, r)) 12 boxF = N6 := by
    unfold vol6
    rw [if_pos hck, box_vol, ← hN6, ← hN, ← hpq]
  have hq0 : mom24 8 (boxP (X, Y, Z) (p, q, r)) 12 boxF 0 = m0 := by
    unfold mom24
    rw [if_pos hck, box_mom, ← hm0, ← hg0, ← hd0, ← hN2, ← hN, ← hpq]
    rfl
  have hq1 : mom24 8 (boxP (X, Y, Z) (p, q, r)) 12 boxF 1 = m1 := by
    unfold mom24
    rw [if_pos hck, box_mom, ← hm1, ← hg1, ← hd1, ← hN2, ← hN, ← hpq]
    rfl
  have hq2 : mom24 8 (boxP (X, Y, Z) (p, q, r)) 12 boxF 2 = m2 := by
    unfold mom24
    rw [if_pos hck, box_mom, ← hm2, ← hg2, ← hd2, ← hN2, ← hN, ← hpq]
    rfl
  obtain ⟨sv, hsv⟩ : ∃ b, decide (N6 < 0) = b := ⟨_, rfl⟩
  obtain ⟨V, hV⟩ : ∃ X, wdF (N6) = X := ⟨_, rfl⟩
  obtain ⟨z0, hz0⟩ : ∃ b, decide (m0 < 0) = b := ⟨_, rfl⟩
  obtain ⟨Z0, hZ0⟩ : ∃ X, wdF (m0) = X := ⟨_, rfl⟩
  obtain ⟨z1, hz1⟩ : ∃ b, decide (m1 < 0) = b := ⟨_, rfl⟩
  obtain ⟨Z1, hZ1⟩ : ∃ X, wdF (m1) = X := ⟨_, rfl⟩
  obtain ⟨z2, hz2⟩ : ∃ b, decide (m2 < 0) = b := ⟨_, rfl⟩
  obtain ⟨Z2, hZ2⟩ : ∃ X, wdF (m2) = X := ⟨_, rfl⟩
  generalize boxP (X, Y, Z) (p, q, r) = BP at *
  have hl : (.agg (lC (mom24 8 BP 12 boxF) 3) : Value) = .agg #[.bool z0, .int .u64 (Z0 0), .int .u64 (Z0 1), .int .u64 (Z0 2), .int .u64 (Z0 3), .bool z1, .int .u64 (Z1 0), .int .u64 (Z1 1), .int .u64 (Z1 2), .int .u64 (Z1 3), .bool z2, .int .u64 (Z2 0), .int .u64 (Z2 1), .int .u64 (Z2 2), .int .u64 (Z2 3)] := by
    rw [← hz0, ← hz1, ← hz2, ← hZ0, ← hZ1, ← hZ2, ← hq0, ← hq1, ← hq2]
    rfl
  have HVO : Hid (∀ W v, MAt W v 8 BP 12 boxF → Calls Try.prog 15 #[v] W fun e w' => e = .returned (.tuple #[.agg #[.bool sv, .int .u64 (V 0), .int .u64 (V 1), .int .u64 (V 2), .int .u64 (V 3)], .int .i64 0]) ∧ Below W.heap.size W w') := fun W v h => by
    have h := Volume6_any v 8 12 BP boxF W h
    rw [hv, hsv, hV, hck] at h
    exact h
  have HMO : Hid (∀ W v, MAt W v 8 BP 12 boxF → Calls Try.prog 17 #[v] W fun e w' => e = .returned (.tuple #[.agg #[.bool z0, .int .u64 (Z0 0), .int .u64 (Z0 1), .int .u64 (Z0 2), .int .u64 (Z0 3), .bool z1, .int .u64 (Z1 0), .int .u64 (Z1 1), .int .u64 (Z1 2), .int .u64 (Z1 3), .bool z2, .int .u64 (Z2 0), .int .u64 (Z2 1), .int .u64 (Z2 2), .int .u64 (Z2 3)], .int .i64 0]) ∧ Below W.heap.size W w') := fun W v h => by
    have h := Moment24_any v 8 12 BP boxF W h
    rw [hl, hck] at h
    exact h
  have HOF6 : Hid (∀ W, Calls Try.prog 26 #[.int .i64 N6] W fun e w' => e = .returned (.agg #[.bool sv, .int .u64 (V 0), .int .u64 (V 1), .int .u64 (V 2), .int .u64 (V 3)]) ∧ Below W.heap.size W w') := fun W => by
    have h := of_wd N6 W (by omega)
    rw [hsv, hV] at h
    exact h
  have HOF0 : Hid (∀ W, Calls Try.prog 26 #[.int .i64 m0] W fun e w' => e = .returned (.agg #[.bool z0, .int .u64 (Z0 0), .int .u64 (Z0 1), .int .u64 (Z0 2), .int .u64 (Z0 3)]) ∧ Below W.heap.size W w') := fun W => by
    have h := of_wd m0 W (by omega)
    rw [hz0, hZ0] at h
    exact h
  have HOF1 : Hid (∀ W, Calls Try.prog 26 #[.int .i64 m1] W fun e w' => e = .returned (.agg #[.bool z1, .int .u64 (Z1 0), .int .u64 (Z1 1), .int .u64 (Z1 2), .int .u64 (Z1 3)]) ∧ Below W.heap.size W w') := fun W => by
    have h := of_wd m1 W (by omega)
    rw [hz1, hZ1] at h
    exact h
  have HOF2 : Hid (∀ W, Calls Try.prog 26 #[.int .i64 m2] W fun e w' => e = .returned (.agg #[.bool z2, .int .u64 (Z2 0), .int .u64 (Z2 1), .int .u64 (Z2 2), .int .u64 (Z2 3)]) ∧ Below W.heap.size W w') := fun W => by
    have h := of_wd m2 W (by omega)
    rw [hz2, hZ2] at h
    exact h
  have q1 := eql_wide sv (V 0) (V 1) (V 2) (V 3)
  have q2 := eql_wide3 (Z0 0) (Z0 1) (Z0 2) (Z0 3) (Z1 0) (Z1 1) (Z1 2) (Z1 3) (Z2 0) (Z2 1) (Z2 2) (Z2 3) z0 z1 z2
  clear hG hck hv hl hq0 hq1 hq2 hsv hV hz0 hz1 hz2 hZ0 hZ1 hZ2 hp hq hr hpq hN hN2 hN6 bpq bN bX bY bZ bp bq br bra brb brc hka hkb hd0 hg0 hm0 bm0 hd1 hg1 hm1 bm1 hd2 hg2 hm2 bm2
  go_enter Try.func7, Try.ntmps7
  go_wp2_with fail
  (go_at_call 25; refine (HBO.out _).mono ?_; rintro e_ w1 ⟨v1, rfl, hm1, hb⟩)
  have hsw1 := hb.size
  (try simp only [World.size_alloc, World.size_setCell] at hsw1)
  have zzw1 : w.heap.size < w1.heap.size := by omega
  have hPw1 : Below w.heap.size w w1 := below_step (w := w) (by first | exact Below.refl _ _ | go_grown) hb
  have zaw1 : w.heap.size + 1 < w1.heap.size := by omega
  have a0w1 : w1.cell? ⟨w.heap.size + 1, 0, none⟩ = some (.int .i64 X) := (hb.cell (p := ⟨_, _, none⟩) (by simp <;> omega)).trans (by simp [go_sem])
  have a1w1 : w1.cell? ⟨w.heap.size + 1, 1, none⟩ = some (.int .i64 Y) := (hb.cell (p := ⟨_, _, none⟩) (by simp <;> omega)).trans (by simp [go_sem])
  have a2w1 : w1.cell? ⟨w.heap.size + 1, 2, none⟩ = some (.int .i64 Z) := (hb.cell (p := ⟨_, _, none⟩) (by simp <;> omega)).trans (by simp [go_sem])
  have zsw1 : w.heap.size + 1 + 1 < w1.heap.size := by omega
  have s0w1 : w1.cell? ⟨w.heap.size + 1 + 1, 0, none⟩ = some (.int .i64 p) := (hb.cell (p := ⟨_, _, none⟩) (by simp <;> omega)).trans (by simp [go_sem])
  have s1w1 : w1.cell? ⟨w.heap.size + 1 + 1, 1, none⟩ = some (.int .i64 q) := (hb.cell (p := ⟨_, _, none⟩) (by simp <;> omega)).trans (by simp [go_sem])
  have s2w1 : w1.cell? ⟨w.heap.size + 1 + 1, 2, none⟩ = some (.int .i64 r) := (hb.cell (p := ⟨_, _, none⟩) (by simp <;> omega)).trans (by simp [go_sem])
  have hBw1 : Below w.heap.size w w1 := below_step (w := w) (by first | assumption | go_grown) hb
  obtain ⟨o1, c1, o1', c1', rfl⟩ := hm1.slices
  have HM1 := Lib.hid hm1
  clear hm1
  clear hb hsw1 hPw1
  go_wp2_with fail
  (go_at_call 15; refine (HVO.out _ _ (HM1.out.below (by first | assumption | go_grown))).mono ?_; rintro e_ w2 ⟨rfl, hb⟩)
  have hsw2 := hb.size
  (try simp only [World.size_alloc, World.size_setCell] at hsw2)
  have zzw2 : w.heap.size < w2.heap.size := by omega
  have hPw2 : Below w1.heap.size w1 w2 := below_step (w := w1) (by first | exact Below.refl _ _ | go_grown) hb
  have zaw2 : w.heap.size + 1 < w2.heap.size := by omega
  have a0w2 : w2.cell? ⟨w.heap.size + 1, 0, none⟩ = some (.int .i64 X) := (hPw2.cell (p := ⟨_, _, none⟩) zaw1).trans a0w1
  have a1w2 : w2.cell? ⟨w.heap.size + 1, 1, none⟩ = some (.int .i64 Y) := (hPw2.cell (p := ⟨_, _, none⟩) zaw1).trans a1w1
  have a2w2 : w2.cell? ⟨w.heap.size + 1, 2, none⟩ = some (.int .i64 Z) := (hPw2.cell (p := ⟨_, _, none⟩) zaw1).trans a2w1
  have zsw2 : w.heap.size + 1 + 1 < w2.heap.size := by omega
  have s0w2 : w2.cell? ⟨w.heap.size + 1 + 1, 0, none⟩ = some (.int .i64 p) := (hPw2.cell (p := ⟨_, _, none⟩) zsw1).trans s0w1
  have s1w2 : w2.cell? ⟨w.heap.size + 1 + 1, 1, none⟩ = some (.int .i64 q) := (hPw2.cell (p := ⟨_, _, none⟩) zsw1).trans s1w1
  have s2w2 : w2.cell? ⟨w.heap.size + 1 + 1, 2, none⟩ = some (.int .i64 r) := (hPw2.cell (p := ⟨_, _, none⟩) zsw1).trans s2w1
  have zmw2 : w1.heap.size < w2.heap.size := by omega
  have m0w2 : w2.cell? ⟨w1.heap.size, 0, none⟩ = some (.slice o1 8 c1) := (hb.cell (p := ⟨_, _, none⟩) (by simp <;> omega)).trans (by simp [go_sem])
  have m1w2 : w2.cell? ⟨w1.heap.size, 1, none⟩ = some (.slice o1' 12 c1') := (hb.cell (p := ⟨_, _, none⟩) (by simp <;> omega)).trans (by simp [go_sem])
  replace HM1 := Lib.hid (HM1.out.below hPw2)
  have hBw2 : Below w.heap.size w w2 := below_step (w := w) (by first | assumption | go_grown) hb
  clear hb hsw2 hPw2
  clear zaw1 zsw1 a0w1 a1w1 a2w1 s0w1 s1w1 s2w1
  go_wp2_with fail
  (go_at_call 17; refine (HMO.out _ _ (HM1.out.below (by first | assumption | go_grown))).mono ?_; rintro e_ w3 ⟨rfl, hb⟩)
  have hsw3 := hb.size
  (try simp only [World.size_alloc, World.size_setCell] at hsw3)
  have zzw3 : w.heap.size < w3.heap.size := by omega
  have hPw3 : Below w2.heap.size w2 w3 := below_step (w := w2) (by first | exact Below.refl _ _ | go_grown) hb
  have zaw3 : w.heap.size + 1 < w3.heap.size := by omega
  have a0w3 : w3.cell? ⟨w.heap.size + 1, 0, none⟩ = some (.int .i64 X) := (hPw3.cell (p := ⟨_, _, none⟩) zaw2).trans a0w2
  have a1w3 : w3.cell? ⟨w.heap.size + 1, 1, none⟩ = some (.int .i64 Y) := (hPw3.cell (p := ⟨_, _, none⟩) zaw2).trans a1w2
  have a2w3 : w3.cell? ⟨w.heap.size + 1, 2, none⟩ = some (.int .i64 Z) := (hPw3.cell (p := ⟨_, _, none⟩) zaw2).trans a2w2
  have zsw3 : w.heap.size + 1 + 1 < w3.heap.size := by omega
  have s0w3 : w3.cell? ⟨w.heap.size + 1 + 1, 0, none⟩ = some (.int .i64 p) := (hPw3.cell (p := ⟨_, _, none⟩) zsw2).trans s0w2
  have s1w3 : w3.cell? ⟨w.heap.size + 1 + 1, 1, none⟩ = some (.int .i64 q) := (hPw3.cell (p := ⟨_, _, none⟩) zsw2).trans s1w2
  have s2w3 : w3.cell? ⟨w.heap.size + 1 + 1, 2, none⟩ = some (.int .i64 r) := (hPw3.cell (p := ⟨_, _, none⟩) zsw2).trans s2w2
  have zmw3 : w1.heap.size < w3.heap.size := by omega
  have m0w3 : w3.cell? ⟨w1.heap.size, 0, none⟩ = some (.slice o1 8 c1) := (hPw3.cell (p := ⟨_, _, none⟩) zmw2).trans m0w2
  have m1w3 : w3.cell? ⟨w1.heap.size, 1, none⟩ = some (.slice o1' 12 c1') := (hPw3.cell (p := ⟨_, _, none⟩) zmw2).trans m1w2
  have zvw3 : w2.heap.size < w3.heap.size := by omega
  have v0w3 : w3.cell? ⟨w2.heap.size, 0, none⟩ = some (.bool sv) := (hb.cell (p := ⟨_, _, none⟩) (by simp <;> omega)).trans (by simp [go_sem])
  have v1w3 : w3.cell? ⟨w2.heap.size, 1, none⟩ = some (.int .u64 (V 0)) := (hb.cell (p := ⟨_, _, none⟩) (by simp <;> omega)).trans (by simp [go_sem])
  have v2w3 : w3.cell? ⟨w2.heap.size, 2, none⟩ = some (.int .u64 (V 1)) := (hb.cell (p := ⟨_, _, none⟩) (by simp <;> omega)).trans (by simp [go_sem])
  have v3w3 : w3.cell? ⟨w2.heap.size, 3, none⟩ = some (.int .u64 (V 2)) := (hb.cell (p := ⟨_, _, none⟩) (by simp <;> omega)).trans (by simp [go_sem])
  have v4w3 : w3.cell? ⟨w2.heap.size, 4, none⟩ = some (.int .u64 (V 3)) := (hb.cell (p := ⟨_, _, none⟩) (by simp <;> omega)).trans (by simp [go_sem])
  replace HM1 := Lib.hid (HM1.out.below hPw3)
  have hBw3 : Below w.heap.size w w3 := below_step (w := w) (by first | assumption | go_grown) hb
  clear hb hsw3 hPw3
  clear zaw2 zsw2 zmw2 a0w2 a1w2 a2w2 s0w2 s1w2 s2w2 m0w2 m1w2
  go_wp2_with fail
  refine wp_region_relw 32 (by kernel_rfl) (by kernel_rfl) (by kernel_rfl) ?_
  simp only [List.take_succ_cons, List.take_zero, fillL, Act.put, List.setIfInBounds_toArray, List.set_cons_zero, List.set_cons_succ]
  iterate 9
    apply rel_is
    · intro u wx hb hd
      have hz := hb.size
      (try simp only [World.size_alloc, World.size_setCell] at hz)
      have hz0 : w.heap.size + 1 < wx.heap.size := by omega
      have hz1 : w.heap.size + 1 + 1 < wx.heap.size := by omega
      have hz2 : w2.heap.size < wx.heap.size := by omega
      have hz3 : w3.heap.size < wx.heap.size := by omega
      obtain ⟨hc, hf⟩ := bcell hb
      have HBX := Lib.hid hb
      clear hb hz
      simp [depsS, Region.binds, updS, Stay.is, Stay.any] at hd
      go_simp
      first | exact ⟨Below.refl _ _, rfl⟩ | rfl
  apply rel_is
  · intro u wx hb hd
    have hz := hb.size
    (try simp only [World.size_alloc, World.size_setCell] at hz)
    have hz0 : w.heap.size + 1 < wx.heap.size := by omega
    have hz1 : w.heap.size + 1 + 1 < wx.heap.size := by omega
    have hz2 : w2.heap.size < wx.heap.size := by omega
    have hz3 : w3.heap.size < wx.heap.size := by omega
    obtain ⟨hc, hf⟩ := bcell hb
    have HBX := Lib.hid hb
    clear hb hz
    simp [depsS, Region.binds, updS, Stay.is, Stay.any] at hd
    go_simp
    first | rfl | (go_at_call 26; refine (HOF0.out _).mono ?_; rintro e w1 ⟨rfl, hb1⟩; first | exact ⟨rfl, hb1⟩ | exact ⟨_, rfl, hb1, rfl⟩)
  iterate 9
    apply rel_is
    · intro u wx hb hd
      have hz := hb.size
      (try simp only [World.size_alloc, World.size_setCell] at hz)
      have hz0 : w.heap.size + 1 < wx.heap.size := by omega
      have hz1 : w.heap.size + 1 + 1 < wx.heap.size := by omega
      have hz2 : w2.heap.size < wx.heap.size := by omega
      have hz3 : w3.heap.size < wx.heap.size := by omega
      obtain ⟨hc, hf⟩ := bcell hb
      have HBX := Lib.hid hb
      clear hb hz
      simp [depsS, Region.binds, updS, Stay.is, Stay.any] at hd
      go_simp
      first | exact ⟨Below.refl _ _, rfl⟩ | rfl
  apply rel_is
  · intro u wx hb hd
    have hz := hb.size
    (try simp only [World.size_alloc, World.size_setCell] at hz)
    have hz0 : w.heap.size + 1 < wx.heap.size := by omega
    have hz1 : w.heap.size + 1 + 1 < wx.heap.size := by omega
    have hz2 : w2.heap.size < wx.heap.size := by omega
    have hz3 : w3.heap.size < wx.heap.size := by omega
    obtain ⟨hc, hf⟩ := bcell hb
    have HBX := Lib.hid hb
    clear hb hz
    simp [depsS, Region.binds, updS, Stay.is, Stay.any] at hd
    go_simp
    first | rfl | (go_at_call 26; refine (HOF1.out _).mono ?_; rintro e w1 ⟨rfl, hb1⟩; first | exact ⟨rfl, hb1⟩ | exact ⟨_, rfl, hb1, rfl⟩)
  iterate 9
    apply rel_is
    · intro u wx hb hd
      have hz := hb.size
      (try simp only [World.size_alloc, World.size_setCell] at hz)
      have hz0 : w.heap.size + 1 < wx.heap.size := by omega
      have hz1 : w.heap.size + 1 + 1 < wx.heap.size := by omega
      have hz2 : w2.heap.size < wx.heap.size := by omega
      have hz3 : w3.heap.size < wx.heap.size := by omega
      obtain ⟨hc, hf⟩ := bcell hb
      have HBX := Lib.hid hb
      clear hb hz
      simp [depsS, Region.binds, updS, Stay.is, Stay.any] at hd
      go_simp
      first | exact ⟨Below.refl _ _, rfl⟩ | rfl
  apply rel_is
  · intro u wx hb hd
    have hz := hb.size
    (try simp only [World.size_alloc, World.size_setCell] at hz)
    have hz0 : w.heap.size + 1 < wx.heap.size := by omega
    have hz1 : w.heap.size + 1 + 1 < wx.heap.size := by omega
    have hz2 : w2.heap.size < wx.heap.size := by omega
    have hz3 : w3.heap.size < wx.heap.size := by omega
    obtain ⟨hc, hf⟩ := bcell hb
    have HBX := Lib.hid hb
    clear hb hz
    simp [depsS, Region.binds, updS, Stay.is, Stay.any] at hd
    go_simp
    first | rfl | (go_at_call 26; refine (HOF2.out _).mono ?_; rintro e w1 ⟨rfl, hb1⟩; first | exact ⟨rfl, hb1⟩ | exact ⟨_, rfl, hb1, rfl⟩)
  apply rel_is
  · intro u wx hb hd
    have hz := hb.size
    (try simp only [World.size_alloc, World.size_setCell] at hz)
    have hz0 : w.heap.size + 1 < wx.heap.size := by omega
    have hz1 : w.heap.size + 1 + 1 < wx.heap.size := by omega
    have hz2 : w2.heap.size < wx.heap.size := by omega
    have hz3 : w3.heap.size < wx.heap.size := by omega
    obtain ⟨hc, hf⟩ := bcell hb
    have HBX := Lib.hid hb
    clear hb hz
    simp [depsS, Region.binds, updS, Stay.is, Stay.any] at hd
    go_simp
    first | exact ⟨Below.refl _ _, rfl⟩ | rfl
  refine rel_new (Stay.newc (w3.heap.size + 1) #[.bool false, .int .u64 0, .int .u64 0, .int .u64 0, .int .u64 0, .bool false, .int .u64 0, .int .u64 0, .int .u64 0, .int .u64 0, .bool false, .int .u64 0, .int .u64 0, .int .u64 0, .int .u64 0] 36) ?_ ?_
  · intro u wx hb hd
    have hz := hb.size
    (try simp only [World.size_alloc, World.size_setCell] at hz)
    have hz0 : w.heap.size + 1 < wx.heap.size := by omega
    have hz1 : w.heap.size + 1 + 1 < wx.heap.size := by omega
    have hz2 : w2.heap.size < wx.heap.size := by omega
    have hz3 : w3.heap.size < wx.heap.size := by omega
    obtain ⟨hc, hf⟩ := bcell hb
    have HBX := Lib.hid hb
    clear hb hz
    simp [depsS, Region.binds, updS, Stay.is, Stay.any] at hd
    refine ⟨by simp [Region.wanted], ?_⟩
    go_simp
    exact ⟨(Below.refl _ _).alloc (Nat.le_refl _) _, _, rfl, by have := HBX.out.size; (try simp only [World.size_alloc] at this); omega, (MapKept.heap_alloc _ _).1⟩
  intro u w5 hb hE
  have e0 : u 0 = _ := endS_get hE 0 (by decide)
  have e1 : u 1 = _ := endS_get hE 1 (by decide)
  have e2 : u 2 = _ := endS_get hE 2 (by decide)
  have e3 : u 3 = _ := endS_get hE 3 (by decide)
  have e4 : u 4 = _ := endS_get hE 4 (by decide)
  have e5 : u 5 = _ := endS_get hE 5 (by decide)
  have e6 : u 6 = _ := endS_get hE 6 (by decide)
  have e7 : u 7 = _ := endS_get hE 7 (by decide)
  have e8 : u 8 = _ := endS_get hE 8 (by decide)
  have e9 : u 9 = _ := endS_get hE 9 (by decide)
  have e10 : u 10 = _ := endS_get hE 10 (by decide)
  have e11 : u 11 = _ := endS_get hE 11 (by decide)
  have e12 : u 12 = _ := endS_get hE 12 (by decide)
  have e13 : u 13 = _ := endS_get hE 13 (by decide)
  have e14 : u 14 = _ := endS_get hE 14 (by decide)
  have e15 : u 15 = _ := endS_get hE 15 (by decide)
  have e16 : u 16 = _ := endS_get hE 16 (by decide)
  have e17 : u 17 = _ := endS_get hE 17 (by decide)
  have e18 : u 18 = _ := endS_get hE 18 (by decide)
  have e19 : u 19 = _ := endS_get hE 19 (by decide)
  have e20 : u 20 = _ := endS_get hE 20 (by decide)
  have e21 : u 21 = _ := endS_get hE 21 (by decide)
  have e22 : u 22 = _ := endS_get hE 22 (by decide)
  have e23 : u 23 = _ := endS_get hE 23 (by decide)
  have e24 : u 24 = _ := endS_get hE 24 (by decide)
  have e25 : u 25 = _ := endS_get hE 25 (by decide)
  have e26 : u 26 = _ := endS_get hE 26 (by decide)
  have e27 : u 27 = _ := endS_get hE 27 (by decide)
  have e28 : u 28 = _ := endS_get hE 28 (by decide)
  have e29 : u 29 = _ := endS_get hE 29 (by decide)
  have e30 : u 30 = _ := endS_get hE 30 (by decide)
  obtain ⟨bw, e31, hbw, hcw⟩ : ∃ b : Nat, u 31 = .pointer (some ⟨b, 0, none⟩) ∧ w3.heap.size + 1 ≤ b ∧ w5.heap[b]? = some (.cells #[.bool false, .int .u64 0, .int .u64 0, .int .u64 0, .int .u64 0, .bool false, .int .u64 0, .int .u64 0, .int .u64 0, .int .u64 0, .bool false, .int .u64 0, .int .u64 0, .int .u64 0, .int .u64 0] 36) := endS_get hE 31 (by decide)
  have HCW := Lib.hid hcw
  clear hcw
  simp only [List.drop_succ_cons, List.drop_zero, List.take_succ_cons, List.take_zero, fillL, Act.put, List.setIfInBounds_toArray, List.set_cons_zero, List.set_cons_succ, e0, e1, e2, e3, e4, e5, e6, e7, e8, e9, e10, e11, e12, e13, e14, e15, e16, e17, e18, e19, e20, e21, e22, e23, e24, e25, e26, e27, e28, e29, e30, e31]
  clear e0 e1 e2 e3 e4 e5 e6 e7 e8 e9 e10 e11 e12 e13 e14 e15 e16 e17 e18 e19 e20 e21 e22 e23 e24 e25 e26 e27 e28 e29 e30 e31 hE
  have HBw5 := Lib.hid (below_step (w := w3) (by first | assumption | go_grown) hb)
  have HBXw5 := Lib.hid hb
  have hzw5 := hb.size
  (try simp only [World.size_alloc, World.size_setCell] at hzw5)
  have hzw50 : w.heap.size + 1 < w5.heap.size := by omega
  have hzw51 : w.heap.size + 1 + 1 < w5.heap.size := by omega
  have hzw52 : w2.heap.size < w5.heap.size := by omega
  have hzw53 : w3.heap.size < w5.heap.size := by omega
  obtain ⟨hcw5, hfw5⟩ := bcell hb
  clear hb hzw5
  have mm0 : w5.cell? ⟨w3.heap.size, 0, none⟩ = some (.bool z0) := (hcw5 w3.heap.size 0 (by simp)).trans (by simp [go_sem])
  have mm1 : w5.cell? ⟨w3.heap.size, 1, none⟩ = some (.int .u64 (Z0 0)) := (hcw5 w3.heap.size 1 (by simp)).trans (by simp [go_sem])
  have mm2 : w5.cell? ⟨w3.heap.size, 2, none⟩ = some (.int .u64 (Z0 1)) := (hcw5 w3.heap.size 2 (by simp)).trans (by simp [go_sem])
  have mm3 : w5.cell? ⟨w3.heap.size, 3, none⟩ = some (.int .u64 (Z0 2)) := (hcw5 w3.heap.size 3 (by simp)).trans (by simp [go_sem])
  have mm4 : w5.cell? ⟨w3.heap.size, 4, none⟩ = some (.int .u64 (Z0 3)) := (hcw5 w3.heap.size 4 (by simp)).trans (by simp [go_sem])
  have mm5 : w5.cell? ⟨w3.heap.size, 5, none⟩ = some (.bool z1) := (hcw5 w3.heap.size 5 (by simp)).trans (by simp [go_sem])
  have mm6 : w5.cell? ⟨w3.heap.size, 6, none⟩ = some (.int .u64 (Z1 0)) := (hcw5 w3.heap.size 6 (by simp)).trans (by simp [go_sem])
  have mm7 : w5.cell? ⟨w3.heap.size, 7, none⟩ = some (.int .u64 (Z1 1)) := (hcw5 w3.heap.size 7 (by simp)).trans (by simp [go_sem])
  have mm8 : w5.cell? ⟨w3.heap.size, 8, none⟩ = some (.int .u64 (Z1 2)) := (hcw5 w3.heap.size 8 (by simp)).trans (by simp [go_sem])
  have mm9 : w5.cell? ⟨w3.heap.size, 9, none⟩ = some (.int .u64 (Z1 3)) := (hcw5 w3.heap.size 9 (by simp)).trans (by simp [go_sem])
  have mm10 : w5.cell? ⟨w3.heap.size, 10, none⟩ = some (.bool z2) := (hcw5 w3.heap.size 10 (by simp)).trans (by simp [go_sem])
  have mm11 : w5.cell? ⟨w3.heap.size, 11, none⟩ = some (.int .u64 (Z2 0)) := (hcw5 w3.heap.size 11 (by simp)).trans (by simp [go_sem])
  have mm12 : w5.cell? ⟨w3.heap.size, 12, none⟩ = some (.int .u64 (Z2 1)) := (hcw5 w3.heap.size 12 (by simp)).trans (by simp [go_sem])
  have mm13 : w5.cell? ⟨w3.heap.size, 13, none⟩ = some (.int .u64 (Z2 2)) := (hcw5 w3.heap.size 13 (by simp)).trans (by simp [go_sem])
  have mm14 : w5.cell? ⟨w3.heap.size, 14, none⟩ = some (.int .u64 (Z2 3)) := (hcw5 w3.heap.size 14 (by simp)).trans (by simp [go_sem])
  go_wp2_with (first
    | (with_reducible refine wpList_store_all 36 bw 15 #[.bool z0, .int .u64 (Z0 0), .int .u64 (Z0 1), .int .u64 (Z0 2), .int .u64 (Z0 3), .bool z1, .int .u64 (Z1 0), .int .u64 (Z1 1), .int .u64 (Z1 2), .int .u64 (Z1 3), .bool z2, .int .u64 (Z2 0), .int .u64 (Z2 1), .int .u64 (Z2 2), .int .u64 (Z2 3)] 36 arr_size rfl rfl rfl rfl ⟨_, HCW.out, rfl⟩ ?_; intro w6 hs)
    | fail)
  have HS6 := Lib.hid hs
  have hs6 := hs.size
  have hB6 : Below w3.heap.size w3 w6 := Stored.below HBw5.out hs (by omega)
  have t0 : w6.cell? ⟨bw, 0, none⟩ = some (.bool z0) := cell_of_row w6 bw 0 _ 36 (0, 0) hs.here
  have t1 : w6.cell? ⟨bw, 1, none⟩ = some (.int .u64 (Z0 0)) := cell_of_row w6 bw 1 _ 36 (0, 0) hs.here
  have t2 : w6.cell? ⟨bw, 2, none⟩ = some (.int .u64 (Z0 1)) := cell_of_row w6 bw 2 _ 36 (0, 0) hs.here
  have t3 : w6.cell? ⟨bw, 3, none⟩ = some (.int .u64 (Z0 2)) := cell_of_row w6 bw 3 _ 36 (0, 0) hs.here
  have t4 : w6.cell? ⟨bw, 4, none⟩ = some (.int .u64 (Z0 3)) := cell_of_row w6 bw 4 _ 36 (0, 0) hs.here
  have t5 : w6.cell? ⟨bw, 5, none⟩ = some (.bool z1) := cell_of_row w6 bw 5 _ 36 (0, 0) hs.here
  have t6 : w6.cell? ⟨bw, 6, none⟩ = some (.int .u64 (Z1 0)) := cell_of_row w6 bw 6 _ 36 (0, 0) hs.here
  have t7 : w6.cell? ⟨bw, 7, none⟩ = some (.int .u64 (Z1 1)) := cell_of_row w6 bw 7 _ 36 (0, 0) hs.here
  have t8 : w6.cell? ⟨bw, 8, none⟩ = some (.int .u64 (Z1 2)) := cell_of_row w6 bw 8 _ 36 (0, 0) hs.here
  have t9 : w6.cell? ⟨bw, 9, none⟩ = some (.int .u64 (Z1 3)) := cell_of_row w6 bw 9 _ 36 (0, 0) hs.here
  have t10 : w6.cell? ⟨bw, 10, none⟩ = some (.bool z2) := cell_of_row w6 bw 10 _ 36 (0, 0) hs.here
  have t11 : w6.cell? ⟨bw, 11, none⟩ = some (.int .u64 (Z2 0)) := cell_of_row w6 bw 11 _ 36 (0, 0) hs.here
  have t12 : w6.cell? ⟨bw, 12, none⟩ = some (.int .u64 (Z2 1)) := cell_of_row w6 bw 12 _ 36 (0, 0) hs.here
  have t13 : w6.cell? ⟨bw, 13, none⟩ = some (.int .u64 (Z2 2)) := cell_of_row w6 bw 13 _ 36 (0, 0) hs.here
  have t14 : w6.cell? ⟨bw, 14, none⟩ = some (.int .u64 (Z2 3)) := cell_of_row w6 bw 14 _ 36 (0, 0) hs.here
  have v0w6 : w6.cell? ⟨w2.heap.size, 0, none⟩ = some (.bool sv) := (hB6.cell (p := ⟨w2.heap.size, 0, none⟩) (by show w2.heap.size < _; omega)).trans v0w3
  have v1w6 : w6.cell? ⟨w2.heap.size, 1, none⟩ = some (.int .u64 (V 0)) := (hB6.cell (p := ⟨w2.heap.size, 1, none⟩) (by show w2.heap.size < _; omega)).trans v1w3
  have v2w6 : w6.cell? ⟨w2.heap.size, 2, none⟩ = some (.int .u64 (V 1)) := (hB6.cell (p := ⟨w2.heap.size, 2, none⟩) (by show w2.heap.size < _; omega)).trans v2w3
  have v3w6 : w6.cell? ⟨w2.heap.size, 3, none⟩ = some (.int .u64 (V 2)) := (hB6.cell (p := ⟨w2.heap.size, 3, none⟩) (by show w2.heap.size < _; omega)).trans v3w3
  have v4w6 : w6.cell? ⟨w2.heap.size, 4, none⟩ = some (.int .u64 (V 3)) := (hB6.cell (p := ⟨w2.heap.size, 4, none⟩) (by show w2.heap.size < _; omega)).trans v4w3
  have hne3 : w3.heap.size ≠ bw := by omega
  have mn0 : w6.cell? ⟨w3.heap.size, 0, none⟩ = some (.bool z0) := (Stored.cell hs hne3).trans mm0
  have mn1 : w6.cell? ⟨w3.heap.size, 1, none⟩ = some (.int .u64 (Z0 0)) := (Stored.cell hs hne3).trans mm1
  have mn2 : w6.cell? ⟨w3.heap.size, 2, none⟩ = some (.int .u64 (Z0 1)) := (Stored.cell hs hne3).trans mm2
  have mn3 : w6.cell? ⟨w3.heap.size, 3, none⟩ = some (.int .u64 (Z0 2)) := (Stored.cell hs hne3).trans mm3
  have mn4 : w6.cell? ⟨w3.heap.size, 4, none⟩ = some (.int .u64 (Z0 3)) := (Stored.cell hs hne3).trans mm4
  have mn5 : w6.cell? ⟨w3.heap.size, 5, none⟩ = some (.bool z1) := (Stored.cell hs hne3).trans mm5
  have mn6 : w6.cell? ⟨w3.heap.size, 6, none⟩ = some (.int .u64 (Z1 0)) := (Stored.cell hs hne3).trans mm6
  have mn7 : w6.cell? ⟨w3.heap.size, 7, none⟩ = some (.int .u64 (Z1 1)) := (Stored.cell hs hne3).trans mm7
  have mn8 : w6.cell? ⟨w3.heap.size, 8, none⟩ = some (.int .u64 (Z1 2)) := (Stored.cell hs hne3).trans mm8
  have mn9 : w6.cell? ⟨w3.heap.size, 9, none⟩ = some (.int .u64 (Z1 3)) := (Stored.cell hs hne3).trans mm9
  have mn10 : w6.cell? ⟨w3.heap.size, 10, none⟩ = some (.bool z2) := (Stored.cell hs hne3).trans mm10
  have mn11 : w6.cell? ⟨w3.heap.size, 11, none⟩ = some (.int .u64 (Z2 0)) := (Stored.cell hs hne3).trans mm11
  have mn12 : w6.cell? ⟨w3.heap.size, 12, none⟩ = some (.int .u64 (Z2 1)) := (Stored.cell hs hne3).trans mm12
  have mn13 : w6.cell? ⟨w3.heap.size, 13, none⟩ = some (.int .u64 (Z2 2)) := (Stored.cell hs hne3).trans mm13
  have mn14 : w6.cell? ⟨w3.heap.size, 14, none⟩ = some (.int .u64 (Z2 3)) := (Stored.cell hs hne3).trans mm14
  have zb6 : bw < w6.heap.size := by have := (Array.getElem?_eq_some_iff.1 HCW.out).1; omega
  have z26 : w2.heap.size < w6.heap.size := by omega
  have z36 : w3.heap.size < w6.heap.size := by omega
  clear hs mm0 mm1 mm2 mm3 mm4 mm5 mm6 mm7 mm8 mm9 mm10 mm11 mm12 mm13 mm14
  have hBw6 : Below w.heap.size w w6 := below_step hBw3 hB6
  go_wp2_with fail
  refine wp_region_relw 21 (by kernel_rfl) (by kernel_rfl) (by kernel_rfl) ?_
  simp only [List.take_succ_cons, List.take_zero, fillL, Act.put, List.setIfInBounds_toArray, List.set_cons_zero, List.set_cons_succ]
  iterate 10
    apply rel_is
    · intro u wx hb hd
      have hz := hb.size
      (try simp only [World.size_alloc, World.size_setCell] at hz)
      have hz0 : w2.heap.size < wx.heap.size := by omega
      have hz1 : w3.heap.size < wx.heap.size := by omega
      have hz2 : bw < wx.heap.size := by omega
      obtain ⟨hc, hf⟩ := bcell hb
      have tx0 : wx.cell? ⟨bw, 0, none⟩ = some (.bool z0) := (hc bw 0 zb6).trans t0
      have tx1 : wx.cell? ⟨bw, 1, none⟩ = some (.int .u64 (Z0 0)) := (hc bw 1 zb6).trans t1
      have tx2 : wx.cell? ⟨bw, 2, none⟩ = some (.int .u64 (Z0 1)) := (hc bw 2 zb6).trans t2
      have tx3 : wx.cell? ⟨bw, 3, none⟩ = some (.int .u64 (Z0 2)) := (hc bw 3 zb6).trans t3
      have tx4 : wx.cell? ⟨bw, 4, none⟩ = some (.int .u64 (Z0 3)) := (hc bw 4 zb6).trans t4
      have tx5 : wx.cell? ⟨bw, 5, none⟩ = some (.bool z1) := (hc bw 5 zb6).trans t5
      have tx6 : wx.cell? ⟨bw, 6, none⟩ = some (.int .u64 (Z1 0)) := (hc bw 6 zb6).trans t6
      have tx7 : wx.cell? ⟨bw, 7, none⟩ = some (.int .u64 (Z1 1)) := (hc bw 7 zb6).trans t7
      have tx8 : wx.cell? ⟨bw, 8, none⟩ = some (.int .u64 (Z1 2)) := (hc bw 8 zb6).trans t8
      have tx9 : wx.cell? ⟨bw, 9, none⟩ = some (.int .u64 (Z1 3)) := (hc bw 9 zb6).trans t9
      have tx10 : wx.cell? ⟨bw, 10, none⟩ = some (.bool z2) := (hc bw 10 zb6).trans t10
      have tx11 : wx.cell? ⟨bw, 11, none⟩ = some (.int .u64 (Z2 0)) := (hc bw 11 zb6).trans t11
      have tx12 : wx.cell? ⟨bw, 12, none⟩ = some (.int .u64 (Z2 1)) := (hc bw 12 zb6).trans t12
      have tx13 : wx.cell? ⟨bw, 13, none⟩ = some (.int .u64 (Z2 2)) := (hc bw 13 zb6).trans t13
      have tx14 : wx.cell? ⟨bw, 14, none⟩ = some (.int .u64 (Z2 3)) := (hc bw 14 zb6).trans t14
      have HBX := Lib.hid hb
      clear hb hz
      simp [depsS, Region.binds, updS, Stay.is, Stay.any] at hd
      go_simp
      first | exact ⟨Below.refl _ _, rfl⟩ | rfl
  apply rel_is
  · intro u wx hb hd
    have hz := hb.size
    (try simp only [World.size_alloc, World.size_setCell] at hz)
    have hz0 : w2.heap.size < wx.heap.size := by omega
    have hz1 : w3.heap.size < wx.heap.size := by omega
    have hz2 : bw < wx.heap.size := by omega
    obtain ⟨hc, hf⟩ := bcell hb
    have tx0 : wx.cell? ⟨bw, 0, none⟩ = some (.bool z0) := (hc bw 0 zb6).trans t0
    have tx1 : wx.cell? ⟨bw, 1, none⟩ = some (.int .u64 (Z0 0)) := (hc bw 1 zb6).trans t1
    have tx2 : wx.cell? ⟨bw, 2, none⟩ = some (.int .u64 (Z0 1)) := (hc bw 2 zb6).trans t2
    have tx3 : wx.cell? ⟨bw, 3, none⟩ = some (.int .u64 (Z0 2)) := (hc bw 3 zb6).trans t3
    have tx4 : wx.cell? ⟨bw, 4, none⟩ = some (.int .u64 (Z0 3)) := (hc bw 4 zb6).trans t4
    have tx5 : wx.cell? ⟨bw, 5, none⟩ = some (.bool z1) := (hc bw 5 zb6).trans t5
    have tx6 : wx.cell? ⟨bw, 6, none⟩ = some (.int .u64 (Z1 0)) := (hc bw 6 zb6).trans t6
    have tx7 : wx.cell? ⟨bw, 7, none⟩ = some (.int .u64 (Z1 1)) := (hc bw 7 zb6).trans t7
    have tx8 : wx.cell? ⟨bw, 8, none⟩ = some (.int .u64 (Z1 2)) := (hc bw 8 zb6).trans t8
    have tx9 : wx.cell? ⟨bw, 9, none⟩ = some (.int .u64 (Z1 3)) := (hc bw 9 zb6).trans t9
    have tx10 : wx.cell? ⟨bw, 10, none⟩ = some (.bool z2) := (hc bw 10 zb6).trans t10
    have tx11 : wx.cell? ⟨bw, 11, none⟩ = some (.int .u64 (Z2 0)) := (hc bw 11 zb6).trans t11
    have tx12 : wx.cell? ⟨bw, 12, none⟩ = some (.int .u64 (Z2 1)) := (hc bw 12 zb6).trans t12
    have tx13 : wx.cell? ⟨bw, 13, none⟩ = some (.int .u64 (Z2 2)) := (hc bw 13 zb6).trans t13
    have tx14 : wx.cell? ⟨bw, 14, none⟩ = some (.int .u64 (Z2 3)) := (hc bw 14 zb6).trans t14
    have HBX := Lib.hid hb
    clear hb hz
    simp [depsS, Region.binds, updS, Stay.is, Stay.any] at hd
    go_simp
    first | rfl | (go_at_call 26; refine (HOF6.out _).mono ?_; rintro e w1 ⟨rfl, hb1⟩; first | exact ⟨rfl, hb1⟩ | exact ⟨_, rfl, hb1, rfl⟩)
  iterate 8
    apply rel_is
    · intro u wx hb hd
      have hz := hb.size
      (try simp only [World.size_alloc, World.size_setCell] at hz)
      have hz0 : w2.heap.size < wx.heap.size := by omega
      have hz1 : w3.heap.size < wx.heap.size := by omega
      have hz2 : bw < wx.heap.size := by omega
      obtain ⟨hc, hf⟩ := bcell hb
      have tx0 : wx.cell? ⟨bw, 0, none⟩ = some (.bool z0) := (hc bw 0 zb6).trans t0
      have tx1 : wx.cell? ⟨bw, 1, none⟩ = some (.int .u64 (Z0 0)) := (hc bw 1 zb6).trans t1
      have tx2 : wx.cell? ⟨bw, 2, none⟩ = some (.int .u64 (Z0 1)) := (hc bw 2 zb6).trans t2
      have tx3 : wx.cell? ⟨bw, 3, none⟩ = some (.int .u64 (Z0 2)) := (hc bw 3 zb6).trans t3
      have tx4 : wx.cell? ⟨bw, 4, none⟩ = some (.int .u64 (Z0 3)) := (hc bw 4 zb6).trans t4
      have tx5 : wx.cell? ⟨bw, 5, none⟩ = some (.bool z1) := (hc bw 5 zb6).trans t5
      have tx6 : wx.cell? ⟨bw, 6, none⟩ = some (.int .u64 (Z1 0)) := (hc bw 6 zb6).trans t6
      have tx7 : wx.cell? ⟨bw, 7, none⟩ = some (.int .u64 (Z1 1)) := (hc bw 7 zb6).trans t7
      have tx8 : wx.cell? ⟨bw, 8, none⟩ = some (.int .u64 (Z1 2)) := (hc bw 8 zb6).trans t8
      have tx9 : wx.cell? ⟨bw, 9, none⟩ = some (.int .u64 (Z1 3)) := (hc bw 9 zb6).trans t9
      have tx10 : wx.cell? ⟨bw, 10, none⟩ = some (.bool z2) := (hc bw 10 zb6).trans t10
      have tx11 : wx.cell? ⟨bw, 11, none⟩ = some (.int .u64 (Z2 0)) := (hc bw 11 zb6).trans t11
      have tx12 : wx.cell? ⟨bw, 12, none⟩ = some (.int .u64 (Z2 1)) := (hc bw 12 zb6).trans t12
      have tx13 : wx.cell? ⟨bw, 13, none⟩ = some (.int .u64 (Z2 2)) := (hc bw 13 zb6).trans t13
      have tx14 : wx.cell? ⟨bw, 14, none⟩ = some (.int .u64 (Z2 3)) := (hc bw 14 zb6).trans t14
      have HBX := Lib.hid hb
      clear hb hz
      simp [depsS, Region.binds, updS, Stay.is, Stay.any] at hd
      go_simp
      first | exact ⟨Below.refl _ _, rfl⟩ | rfl
  apply rel_is
  · intro u wx hb hd
    have hz := hb.size
    (try simp only [World.size_alloc, World.size_setCell] at hz)
    have hz0 : w2.heap.size < wx.heap.size := by omega
    have hz1 : w3.heap.size < wx.heap.size := by omega
    have hz2 : bw < wx.heap.size := by omega
    obtain ⟨hc, hf⟩ := bcell hb
    have tx0 : wx.cell? ⟨bw, 0, none⟩ = some (.bool z0) := (hc bw 0 zb6).trans t0
    have tx1 : wx.cell? ⟨bw, 1, none⟩ = some (.int .u64 (Z0 0)) := (hc bw 1 zb6).trans t1
    have tx2 : wx.cell? ⟨bw, 2, none⟩ = some (.int .u64 (Z0 1)) := (hc bw 2 zb6).trans t2
    have tx3 : wx.cell? ⟨bw, 3, none⟩ = some (.int .u64 (Z0 2)) := (hc bw 3 zb6).trans t3
    have tx4 : wx.cell? ⟨bw, 4, none⟩ = some (.int .u64 (Z0 3)) := (hc bw 4 zb6).trans t4
    have tx5 : wx.cell? ⟨bw, 5, none⟩ = some (.bool z1) := (hc bw 5 zb6).trans t5
    have tx6 : wx.cell? ⟨bw, 6, none⟩ = some (.int .u64 (Z1 0)) := (hc bw 6 zb6).trans t6
    have tx7 : wx.cell? ⟨bw, 7, none⟩ = some (.int .u64 (Z1 1)) := (hc bw 7 zb6).trans t7
    have tx8 : wx.cell? ⟨bw, 8, none⟩ = some (.int .u64 (Z1 2)) := (hc bw 8 zb6).trans t8
    have tx9 : wx.cell? ⟨bw, 9, none⟩ = some (.int .u64 (Z1 3)) := (hc bw 9 zb6).trans t9
    have tx10 : wx.cell? ⟨bw, 10, none⟩ = some (.bool z2) := (hc bw 10 zb6).trans t10
    have tx11 : wx.cell? ⟨bw, 11, none⟩ = some (.int .u64 (Z2 0)) := (hc bw 11 zb6).trans t11
    have tx12 : wx.cell? ⟨bw, 12, none⟩ = some (.int .u64 (Z2 1)) := (hc bw 12 zb6).trans t12
    have tx13 : wx.cell? ⟨bw, 13, none⟩ = some (.int .u64 (Z2 2)) := (hc bw 13 zb6).trans t13
    have tx14 : wx.cell? ⟨bw, 14, none⟩ = some (.int .u64 (Z2 3)) := (hc bw 14 zb6).trans t14
    have HBX := Lib.hid hb
    clear hb hz
    simp [depsS, Region.binds, updS, Stay.is, Stay.any] at hd
    go_simp
    first | rfl | (go_at_call 12; refine (awake_any _).mono ?_; rintro e w1 ⟨rfl, hb1⟩; first | exact ⟨rfl, hb1⟩ | exact ⟨_, rfl, hb1, rfl⟩)
  apply rel_is
  · intro u wx hb hd
    have hz := hb.size
    (try simp only [World.size_alloc, World.size_setCell] at hz)
    have hz0 : w2.heap.size < wx.heap.size := by omega
    have hz1 : w3.heap.size < wx.heap.size := by omega
    have hz2 : bw < wx.heap.size := by omega
    obtain ⟨hc, hf⟩ := bcell hb
    have tx0 : wx.cell? ⟨bw, 0, none⟩ = some (.bool z0) := (hc bw 0 zb6).trans t0
    have tx1 : wx.cell? ⟨bw, 1, none⟩ = some (.int .u64 (Z0 0)) := (hc bw 1 zb6).trans t1
    have tx2 : wx.cell? ⟨bw, 2, none⟩ = some (.int .u64 (Z0 1)) := (hc bw 2 zb6).trans t2
    have tx3 : wx.cell? ⟨bw, 3, none⟩ = some (.int .u64 (Z0 2)) := (hc bw 3 zb6).trans t3
    have tx4 : wx.cell? ⟨bw, 4, none⟩ = some (.int .u64 (Z0 3)) := (hc bw 4 zb6).trans t4
    have tx5 : wx.cell? ⟨bw, 5, none⟩ = some (.bool z1) := (hc bw 5 zb6).trans t5
    have tx6 : wx.cell? ⟨bw, 6, none⟩ = some (.int .u64 (Z1 0)) := (hc bw 6 zb6).trans t6
    have tx7 : wx.cell? ⟨bw, 7, none⟩ = some (.int .u64 (Z1 1)) := (hc bw 7 zb6).trans t7
    have tx8 : wx.cell? ⟨bw, 8, none⟩ = some (.int .u64 (Z1 2)) := (hc bw 8 zb6).trans t8
    have tx9 : wx.cell? ⟨bw, 9, none⟩ = some (.int .u64 (Z1 3)) := (hc bw 9 zb6).trans t9
    have tx10 : wx.cell? ⟨bw, 10, none⟩ = some (.bool z2) := (hc bw 10 zb6).trans t10
    have tx11 : wx.cell? ⟨bw, 11, none⟩ = some (.int .u64 (Z2 0)) := (hc bw 11 zb6).trans t11
    have tx12 : wx.cell? ⟨bw, 12, none⟩ = some (.int .u64 (Z2 1)) := (hc bw 12 zb6).trans t12
    have tx13 : wx.cell? ⟨bw, 13, none⟩ = some (.int .u64 (Z2 2)) := (hc bw 13 zb6).trans t13
    have tx14 : wx.cell? ⟨bw, 14, none⟩ = some (.int .u64 (Z2 3)) := (hc bw 14 zb6).trans t14
    have HBX := Lib.hid hb
    clear hb hz
    simp [depsS, Region.binds, updS, Stay.is, Stay.any] at hd
    go_simp
    first | exact ⟨Below.refl _ _, rfl⟩ | rfl
  intro u w7 hb hE
  have e0 : u 0 = _ := endS_get hE 0 (by decide)
  have e1 : u 1 = _ := endS_get hE 1 (by decide)
  have e2 : u 2 = _ := endS_get hE 2 (by decide)
  have e3 : u 3 = _ := endS_get hE 3 (by decide)
  have e4 : u 4 = _ := endS_get hE 4 (by decide)
  have e5 : u 5 = _ := endS_get hE 5 (by decide)
  have e6 : u 6 = _ := endS_get hE 6 (by decide)
  have e7 : u 7 = _ := endS_get hE 7 (by decide)
  have e8 : u 8 = _ := endS_get hE 8 (by decide)
  have e9 : u 9 = _ := endS_get hE 9 (by decide)
  have e10 : u 10 = _ := endS_get hE 10 (by decide)
  have e11 : u 11 = _ := endS_get hE 11 (by decide)
  have e12 : u 12 = _ := endS_get hE 12 (by decide)
  have e13 : u 13 = _ := endS_get hE 13 (by decide)
  have e14 : u 14 = _ := endS_get hE 14 (by decide)
  have e15 : u 15 = _ := endS_get hE 15 (by decide)
  have e16 : u 16 = _ := endS_get hE 16 (by decide)
  have e17 : u 17 = _ := endS_get hE 17 (by decide)
  have e18 : u 18 = _ := endS_get hE 18 (by decide)
  have e19 : u 19 = _ := endS_get hE 19 (by decide)
  have e20 : u 20 = _ := endS_get hE 20 (by decide)
  simp only [List.drop_succ_cons, List.drop_zero, List.take_succ_cons, List.take_zero, fillL, Act.put, List.setIfInBounds_toArray, List.set_cons_zero, List.set_cons_succ, e0, e1, e2, e3, e4, e5, e6, e7, e8, e9, e10, e11, e12, e13, e14, e15, e16, e17, e18, e19, e20]
  clear e0 e1 e2 e3 e4 e5 e6 e7 e8 e9 e10 e11 e12 e13 e14 e15 e16 e17 e18 e19 e20 hE
  have HBw7 := Lib.hid (below_step (w := w6) (by first | assumption | go_grown) hb)
  have HBXw7 := Lib.hid hb
  have hzw7 := hb.size
  (try simp only [World.size_alloc, World.size_setCell] at hzw7)
  have hzw70 : w2.heap.size < w7.heap.size := by omega
  have hzw71 : w3.heap.size < w7.heap.size := by omega
  have hzw72 : bw < w7.heap.size := by omega
  obtain ⟨hcw7, hfw7⟩ := bcell hb
  clear hb hzw7
  go_wp2
  go_returns
  exact ⟨rfl, below_step hBw6 HBw7.out⟩

set_option maxRecDepth 100000 in
theorem meshBoxes_contract (H : Type) (enc : TypeId × Value → H) (W : World) (base : Nat) (args : Array Value) (ds gs : List (DataW H)) (before : List MemPlace)
    (hval : ∀ (j : Nat) t v, Try.f7.params[j]? = some t → args[j]? = some v → Value.okWide Try.prog W .any base t v)
    (hW : DataW.Whole enc Try.prog Try.f7.params.toList Rows.meshBoxesSpec.vars false W args.toList ds gs before) (hL : laidMetH Try.prog Rows.meshBoxesRow.laid W) (hSh : W.ShapedOpen Try.prog) :
    Calls Try.prog 7 args W fun e W' => ∃ v, e = .returned v ∧ Rows.meshBoxesSpec.post enc Try.prog Try.f7 false true false false W args v W' := by
  have hW' := hW
  obtain ⟨p, q, hA0, hV, rfl, hfz, hnd⟩ := hW
  have hA : DataW.TrodAll enc Try.prog W 0 (fun _ => true) true Try.f7.params.toList args.toList ds p := hA0
  rw [Try.params7] at hA hval
  obtain ⟨v0, vs0, d0, ds0, p0, q0, hargs, rfl, rfl, h0, r0⟩ := trodAll_cons hA
  obtain ⟨v1, vs1, d1, ds1, p1, q1, rfl, rfl, rfl, h1, r1⟩ := trodAll_cons r0
  obtain ⟨v2, vs2, d2, ds2, p2, q2, rfl, rfl, rfl, h2, r2⟩ := trodAll_cons r1
  obtain ⟨rfl, rfl, rfl⟩ := trodAll_nil r2
  obtain rfl : args = #[v0, v1, v2] := by cases args; simp_all
  obtain ⟨va, vb, vc, rfl, ba, bb, bc⟩ := vec_arg (hval 0 40 v0 rfl rfl) h0
  obtain ⟨ka, rfl, rfl, rfl, _w1⟩ := open_int Try.underlying52 (hval 1 52 v1 rfl rfl) h1
  obtain ⟨kb, rfl, rfl, rfl, _w2⟩ := open_int Try.underlying52 (hval 2 52 v2 rfl rfl) h2
  refine (meshBoxes_walk va vb vc ka kb W (by simpa [Lit.wf, IntKind.min, IntKind.max, IntKind.signed, IntKind.bits] using _w1) (by simpa [Lit.wf, IntKind.min, IntKind.max, IntKind.signed, IntKind.bits] using _w2)).mono fun e W' ⟨he, hb⟩ => ?_
  subst he
  exact ⟨_, rfl, law_post laidOut (by kernel_rfl) (by kernel_rfl) Try.underlying4 rfl hW' (fun _ => rfl) hb⟩
theorem meshBoxes_reads (os : Os) {H : Type} (enc : TypeId × Value → H) : ∃ places, DataW.whole enc Try.prog ((World.settled Try.prog os).forCall (fun _ _ => 0) ⟨#[], #[.agg #[.int .i64 0, .int .i64 0, .int .i64 0], .int .u16 0, .int .u16 0], []⟩).memory Try.f7.params.toList Rows.meshBoxesSpec.vars false (#[.agg #[.int .i64 0, .int .i64 0, .int .i64 0], .int .u16 0, .int .u16 0] : Array Value).toList 8 = some ([.agg [.lit (.int .i64 0), .lit (.int .i64 0), .lit (.int .i64 0)], .lit (.int .u16 0), .lit (.int .u16 0)], [], places) := ⟨[], by kernel_rfl⟩
set_option maxRecDepth 100000 in
theorem meshBoxes_lifted (os : Os) (started : os.Started) (H : Type) (enc : TypeId × Value → H) (F : Stop.Interp) :
    ReturnsInHanded {} Try.checked os 7 .any ((OpenSpec.ofChange Rows.meshBoxesSpec).preRow enc Try.prog Try.f7 Rows.meshBoxesRow.domain false Rows.meshBoxesRow.laid) (((OpenSpec.ofChange Rows.meshBoxesSpec).at F).post enc Try.prog Try.f7 false true false false) := by
  obtain ⟨places, hx⟩ := meshBoxes_reads os enc
  refine returnsInHanded_of_row (C := Try.checked) (s := OpenSpec.ofChange Rows.meshBoxesSpec) own started (by kernel_rfl) Try.func7
    (witness_row_at (enc := enc) (C := Try.checked) false (World.settled Try.prog os) #[.agg #[.int .i64 0, .int .i64 0, .int .i64 0], .int .u16 0, .int .u16 0] rfl (by kernel_rfl) (by kernel_rfl) (by kernel_rfl)
      (OpenSpec.preRow_of_cond 8 hx (by kernel_rfl) (fun k hk => by cases hk) (by kernel_rfl) (laidMet_nil _ _))) ?_
  intro W base args ds gs before hval hW _ _ _ hL hSh _
  exact meshBoxes_contract H enc W base args ds gs before hval hW hL hSh
theorem meshBoxes_said : Rows.MeshBoxesSaid :=
  OpenClaim.holds_of_cond 7 Try.f7 rfl rfl rfl rfl rfl rfl rfl ⟨rfl, rfl, rfl, rfl, rfl⟩ rfl rfl rfl rfl rfl (by kernel_rfl) Try.func7 (by kernel_rfl)
    (of_decide_eq_true (by kernel_rfl)) (by unfold Func.isWrapper; rw [if_neg (of_decide_eq_false (by kernel_rfl))]; exact ⟨rfl, rfl⟩)
    (fun os started H enc _ F => by rw [OpenClaim.pre_eq_preRow]; exact meshBoxes_lifted os started H enc F)
#print axioms meshBoxes_said
end Go.Proofs.Ytpjdmjmgkdgfnaa
