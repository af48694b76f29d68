/-
  Wide values; the reference's volume, by walks. Conditions: none. By an AI agent.
-/
import Derived.Test.YtpjdmjmgkdgfnaaMeshD
namespace Go.Proofs.Ytpjdmjmgkdgfnaa
open Go Go.RowKit
set_option linter.unusedVariables false
set_option linter.unusedSimpArgs false
set_option maxRecDepth 100000

theorem rOf_wd (n : Int) (w : World) (h : -9223372036854775808 ≤ n ∧ n < 9223372036854775808) : Calls Try.prog 39 #[.int .i64 n] w fun e w' => e = .returned (.agg #[.bool (decide (n < 0)), .int .u64 ((wdF (n)) 0), .int .u64 ((wdF (n)) 1), .int .u64 ((wdF (n)) 2), .int .u64 ((wdF (n)) 3)]) ∧ Below w.heap.size w w' :=
  (rOf_any n w h).mono (by rintro e w' ⟨X, rfl, hX, hb⟩; obtain ⟨-, e0, e1, e2, e3⟩ := isW_one hX (wdF_is (isW_lt hX)); rw [e0, e1, e2, e3]; exact ⟨rfl, hb⟩)
theorem rsum_wd (x y : Int) (w : World) (hx : (x.natAbs : Int) < 115792089237316195423570985008687907853269984665640564039457584007913129639936) (hy : (y.natAbs : Int) < 115792089237316195423570985008687907853269984665640564039457584007913129639936) (hs : ((x + y).natAbs : Int) < 115792089237316195423570985008687907853269984665640564039457584007913129639936) : Calls Try.prog 43 #[.agg #[.bool (decide (x < 0)), .int .u64 ((wdF (x)) 0), .int .u64 ((wdF (x)) 1), .int .u64 ((wdF (x)) 2), .int .u64 ((wdF (x)) 3)], .agg #[.bool (decide (y < 0)), .int .u64 ((wdF (y)) 0), .int .u64 ((wdF (y)) 1), .int .u64 ((wdF (y)) 2), .int .u64 ((wdF (y)) 3)]] w fun e w' => e = .returned (.agg #[.bool (decide (x + y < 0)), .int .u64 ((wdF (x + y)) 0), .int .u64 ((wdF (x + y)) 1), .int .u64 ((wdF (x + y)) 2), .int .u64 ((wdF (x + y)) 3)]) ∧ Below w.heap.size w w' :=
  (rsum_any x y _ _ _ _ w (wdF_is hx) (wdF_is hy) hs).mono (by rintro e w' ⟨X, rfl, hX, hb⟩; obtain ⟨-, e0, e1, e2, e3⟩ := isW_one hX (wdF_is (isW_lt hX)); rw [e0, e1, e2, e3]; exact ⟨rfl, hb⟩)
theorem rproduct_wd (x y : Int) (w : World) (hx : -9223372036854775808 ≤ x ∧ x < 9223372036854775808) (hy : -9223372036854775808 ≤ y ∧ y < 9223372036854775808) : Calls Try.prog 44 #[.int .i64 x, .int .i64 y] w fun e w' => e = .returned (.agg #[.bool (decide (x * y < 0)), .int .u64 ((wdF (x * y)) 0), .int .u64 ((wdF (x * y)) 1), .int .u64 ((wdF (x * y)) 2), .int .u64 ((wdF (x * y)) 3)]) ∧ Below w.heap.size w w' :=
  (rproduct_any x y w hx hy).mono (by rintro e w' ⟨X, rfl, hX, hb⟩; obtain ⟨-, e0, e1, e2, e3⟩ := isW_one hX (wdF_is (isW_lt hX)); rw [e0, e1, e2, e3]; exact ⟨rfl, hb⟩)
theorem rDet_pt (p q r : V) (w : World) (hp : InB 1048576 p) (hq : InB 1048576 q) (hr : InB 1048576 r) : Calls Try.prog 27 #[.agg #[.int .i64 p.1, .int .i64 p.2.1, .int .i64 p.2.2], .agg #[.int .i64 q.1, .int .i64 q.2.1, .int .i64 q.2.2], .agg #[.int .i64 r.1, .int .i64 r.2.1, .int .i64 r.2.2]] w fun e w' => e = .returned (.int .i64 (detV p q r)) ∧ Below w.heap.size w w' := by
  unfold InB at hp hq hr
  exact rDet_any _ _ _ _ _ _ _ _ _ w ⟨hp.1, hp.2.1⟩ ⟨hp.2.2.1, hp.2.2.2.1⟩ hp.2.2.2.2 ⟨hq.1, hq.2.1⟩ ⟨hq.2.2.1, hq.2.2.2.1⟩ hq.2.2.2.2 ⟨hr.1, hr.2.1⟩ ⟨hr.2.2.1, hr.2.2.2.1⟩ hr.2.2.2.2

set_option maxHeartbeats 4000000 in
theorem rvolume_any (v : Value) (np nf : Nat) (P F : Nat → V) (w : World) (h : MAt w v np P nf F) (hn : nf ≤ 2048) (hin : ∀ i, i < np → InB 1048576 (P i)) (hix : ∀ j, j < nf → idxB np (F j) = true) :
    Calls Try.prog 38 #[v] w fun e w' => e = .returned (.agg #[.bool (decide (volF P F nf < 0)), .int .u64 ((wdF (volF P F nf)) 0), .int .u64 ((wdF (volF P F nf)) 1), .int .u64 ((wdF (volF P F nf)) 2), .int .u64 ((wdF (volF P F nf)) 3)]) ∧ Below w.heap.size w w' := by
  obtain ⟨vp, vf, rfl, g1, g2⟩ := h
  obtain ⟨op, cp, rfl, -, -, help⟩ := g1.form
  obtain ⟨of', cf, rfl, hnf, hcf, hel⟩ := g2.form
  have HEL := Lib.hid hel
  have HEP := Lib.hid help
  have HIN := Lib.hid hin
  have HIX := Lib.hid hix
  have hbd : ∀ j, j ≤ nf → (((volF P F j).natAbs : Nat) : Int) ≤ 2048 * 6917529027641081856 := fun j hj => by
    have h1 := sumTo_bd (f := fun j => fdet P (F j)) (B := 6917529027641081856) (n := j) (fun i hi => fdet_bd hin (hix i (by omega)))
    have h2 : (j : Int) * 6917529027641081856 ≤ 2048 * 6917529027641081856 := Int.mul_le_mul_of_nonneg_right (by omega) (by decide)
    unfold volF
    omega
  have HBD := Lib.hid hbd
  obtain ⟨SG, hSG⟩ : ∃ b, decide (volF P F nf < 0) = b := ⟨_, rfl⟩
  obtain ⟨XG, hXG⟩ : ∃ b, wdF (volF P F nf) = b := ⟨_, rfl⟩
  have HSG := Lib.hid hSG
  have HXG := Lib.hid hXG
  rw [hSG, hXG]
  clear g1 g2 hel help hin hix hbd hSG hXG
  go_enter Try.func38, Try.ntmps38
  go_wp2
  go_loopw [4] (fun i wr => ∃ (j : Nat) (tb : Bool) (X : Nat → Int), j ≤ nf ∧ i = .int .i64 j ∧ Hid (decide (volF P F j < 0) = tb) ∧ Hid (wdF (volF P F j) = X) ∧ Hid (WAt wr (w.heap.size + 1 + 1) tb X) ∧ Hid (WAt wr (w.heap.size + 1) false zeroF) ∧ wr.cell? ⟨w.heap.size, 0, none⟩ = some (.slice op np cp) ∧ wr.cell? ⟨w.heap.size, 1, none⟩ = some (.slice of' nf cf) ∧ Below w.heap.size w wr) (fun i _ => nf - (intOf i).toNat)
  case atStart =>
    refine ⟨0, false, zeroF, by omega, rfl, rfl, ?_, ?_, ?_, by simp [go_sem], by simp [go_sem], by go_grown⟩
    · show _ = _
      funext k
      simp [wdF, dgF, zeroF, volF, sumTo]
    · exact ⟨⟨by simp [go_sem], by simp [go_sem, zeroF], by simp [go_sem, zeroF], by simp [go_sem, zeroF], by simp [go_sem, zeroF]⟩, fun q => by simp [go_sem], by simp <;> omega⟩
    · exact ⟨⟨by simp [go_sem], by simp [go_sem, zeroF], by simp [go_sem, zeroF], by simp [go_sem, zeroF], by simp [go_sem, zeroF]⟩, fun q => by simp [go_sem], by simp <;> omega⟩
  case round =>
    obtain ⟨w1, rfl⟩ : ∃ x : World, x = wr := ⟨_, rfl⟩
    obtain ⟨j, tb, X, hj, rfl, HTB, HXV, HT, HR, m0, m1, hBw1⟩ := hrel
    obtain ⟨⟨t0, t1, t2, t3, t4⟩, htf, ztw1⟩ := HT.out
    have ft0 := htf 0
    have ft1 := htf 1
    have ft2 := htf 2
    have ft3 := htf 3
    have ft4 := htf 4
    have zzw1 : w.heap.size < w1.heap.size := by omega
    have zrw1 : w.heap.size + 1 < w1.heap.size := by omega
    clear htf
    by_cases hlt : j < nf
    · obtain ⟨ia, ib, ic, hF, hia, hib, hic⟩ := idxB_nat (HIX.out j hlt)
      obtain ⟨b1, f1, rfl, hbl1, hcl1⟩ := HEL.out j hlt
      have c0 : w1.cell? ⟨b1, f1 + j * 3, none⟩ = some (.int .i64 (F j).1) := (hBw1.cell (p := ⟨_, _, none⟩) hbl1).trans (hcl1 j hlt).1
      have c1 : w1.cell? ⟨b1, f1 + j * 3 + 1, none⟩ = some (.int .i64 (F j).2.1) := (hBw1.cell (p := ⟨_, _, none⟩) hbl1).trans (hcl1 j hlt).2.1
      have c2 : w1.cell? ⟨b1, f1 + j * 3 + 2, none⟩ = some (.int .i64 (F j).2.2) := (hBw1.cell (p := ⟨_, _, none⟩) hbl1).trans (hcl1 j hlt).2.2
      rw [hF] at c0 c1 c2
      dsimp only at c0 c1 c2
      have HF := Lib.hid hF
      have hbr : b1 < w1.heap.size := by omega
      obtain ⟨b2, f2, rfl, hbl2, hcl2⟩ := HEP.out ia hia
      obtain ⟨px, pxE⟩ : ∃ x, (P ia).1 = x := ⟨_, rfl⟩
      obtain ⟨py, pyE⟩ : ∃ x, (P ia).2.1 = x := ⟨_, rfl⟩
      obtain ⟨pz, pzE⟩ : ∃ x, (P ia).2.2 = x := ⟨_, rfl⟩
      obtain ⟨qx, qxE⟩ : ∃ x, (P ib).1 = x := ⟨_, rfl⟩
      obtain ⟨qy, qyE⟩ : ∃ x, (P ib).2.1 = x := ⟨_, rfl⟩
      obtain ⟨qz, qzE⟩ : ∃ x, (P ib).2.2 = x := ⟨_, rfl⟩
      obtain ⟨rx, rxE⟩ : ∃ x, (P ic).1 = x := ⟨_, rfl⟩
      obtain ⟨ry, ryE⟩ : ∃ x, (P ic).2.1 = x := ⟨_, rfl⟩
      obtain ⟨rz, rzE⟩ : ∃ x, (P ic).2.2 = x := ⟨_, rfl⟩
      have epx : w1.cell? ⟨b2, f2 + ia * 3, none⟩ = some (.int .i64 px) := (hBw1.cell (p := ⟨_, _, none⟩) hbl2).trans ((hcl2 ia hia).1.trans (by rw [pxE]))
      have epy : w1.cell? ⟨b2, f2 + ia * 3 + 1, none⟩ = some (.int .i64 py) := (hBw1.cell (p := ⟨_, _, none⟩) hbl2).trans ((hcl2 ia hia).2.1.trans (by rw [pyE]))
      have epz : w1.cell? ⟨b2, f2 + ia * 3 + 2, none⟩ = some (.int .i64 pz) := (hBw1.cell (p := ⟨_, _, none⟩) hbl2).trans ((hcl2 ia hia).2.2.trans (by rw [pzE]))
      have eqx : w1.cell? ⟨b2, f2 + ib * 3, none⟩ = some (.int .i64 qx) := (hBw1.cell (p := ⟨_, _, none⟩) hbl2).trans ((hcl2 ib hib).1.trans (by rw [qxE]))
      have eqy : w1.cell? ⟨b2, f2 + ib * 3 + 1, none⟩ = some (.int .i64 qy) := (hBw1.cell (p := ⟨_, _, none⟩) hbl2).trans ((hcl2 ib hib).2.1.trans (by rw [qyE]))
      have eqz : w1.cell? ⟨b2, f2 + ib * 3 + 2, none⟩ = some (.int .i64 qz) := (hBw1.cell (p := ⟨_, _, none⟩) hbl2).trans ((hcl2 ib hib).2.2.trans (by rw [qzE]))
      have erx : w1.cell? ⟨b2, f2 + ic * 3, none⟩ = some (.int .i64 rx) := (hBw1.cell (p := ⟨_, _, none⟩) hbl2).trans ((hcl2 ic hic).1.trans (by rw [rxE]))
      have ery : w1.cell? ⟨b2, f2 + ic * 3 + 1, none⟩ = some (.int .i64 ry) := (hBw1.cell (p := ⟨_, _, none⟩) hbl2).trans ((hcl2 ic hic).2.1.trans (by rw [ryE]))
      have erz : w1.cell? ⟨b2, f2 + ic * 3 + 2, none⟩ = some (.int .i64 rz) := (hBw1.cell (p := ⟨_, _, none⟩) hbl2).trans ((hcl2 ic hic).2.2.trans (by rw [rzE]))
      have hbr2 : b2 < w1.heap.size := by omega
      have k0 : (0 : Int) ≤ (j : Int) := by omega
      have k1 : (j : Int) < (nf : Int) := by omega
      have n0 : (0 : Int) ≤ (ia : Int) := by omega
      have n1 : (ia : Int) < (np : Int) := by omega
      have n2 : (0 : Int) ≤ (ib : Int) := by omega
      have n3 : (ib : Int) < (np : Int) := by omega
      have n4 : (0 : Int) ≤ (ic : Int) := by omega
      have n5 : (ic : Int) < (np : Int) := by omega
      obtain ⟨D, hD⟩ : ∃ d, detV (P ia) (P ib) (P ic) = d := ⟨_, rfl⟩
      obtain ⟨sd, hsd⟩ : ∃ b, decide (D < 0) = b := ⟨_, rfl⟩
      obtain ⟨Y, hY⟩ : ∃ b, wdF D = b := ⟨_, rfl⟩
      obtain ⟨ss, hss⟩ : ∃ b, decide (volF P F j + D < 0) = b := ⟨_, rfl⟩
      obtain ⟨Z, hZ⟩ : ∃ b, wdF (volF P F j + D) = b := ⟨_, rfl⟩
      have hv1 : volF P F (j + 1) = volF P F j + D := by rw [show volF P F (j + 1) = volF P F j + fdet P (F j) from rfl, hF, fdet_nat, hD]
      have HV1 := Lib.hid hv1
      have hDb : -6917529027641081856 ≤ D ∧ D ≤ 6917529027641081856 := by have := fdet_bd HIN.out (HIX.out j hlt); rw [hF, fdet_nat, hD] at this; exact this
      have HSS := Lib.hid hss
      have HZZ := Lib.hid hZ
      have HDET : Hid (∀ W, Calls Try.prog 27 #[.agg #[.int .i64 px, .int .i64 py, .int .i64 pz], .agg #[.int .i64 qx, .int .i64 qy, .int .i64 qz], .agg #[.int .i64 rx, .int .i64 ry, .int .i64 rz]] W fun e w' => e = .returned (.int .i64 D) ∧ Below W.heap.size W w') := by
        show ∀ W, _
        intro W
        have h := rDet_pt (P ia) (P ib) (P ic) W (HIN.out ia hia) (HIN.out ib hib) (HIN.out ic hic)
        rw [hD, pxE, pyE, pzE, qxE, qyE, qzE, rxE, ryE, rzE] at h
        exact h
      have HOF : Hid (∀ W, Calls Try.prog 39 #[.int .i64 D] W fun e w' => e = .returned (.agg #[.bool sd, .int .u64 (Y 0), .int .u64 (Y 1), .int .u64 (Y 2), .int .u64 (Y 3)]) ∧ Below W.heap.size W w') := by
        show ∀ W, _
        intro W
        have h := rOf_wd D W (by omega)
        rw [hsd, hY] at h
        exact h
      have HSUM : Hid (∀ W, Calls Try.prog 43 #[.agg #[.bool tb, .int .u64 (X 0), .int .u64 (X 1), .int .u64 (X 2), .int .u64 (X 3)], .agg #[.bool sd, .int .u64 (Y 0), .int .u64 (Y 1), .int .u64 (Y 2), .int .u64 (Y 3)]] W fun e w' => e = .returned (.agg #[.bool ss, .int .u64 (Z 0), .int .u64 (Z 1), .int .u64 (Z 2), .int .u64 (Z 3)]) ∧ Below W.heap.size W w') := by
        show ∀ W, _
        intro W
        have b1 := HBD.out j (by omega)
        have b2 := HBD.out (j + 1) (by omega)
        rw [hv1] at b2
        have h := rsum_wd (volF P F j) D W (by omega) (by omega) (by omega)
        rw [hss, hZ, hsd, hY, HTB.out, HXV.out] at h
        exact h
      clear hcl1 hcl2 pxE pyE pzE qxE qyE qzE rxE ryE rzE hF hD hsd hY hss hZ hv1 hDb
      go_wp2_with fail
      refine wp_region_relw 22 (by kernel_rfl) (by kernel_rfl) (by kernel_rfl) ?_
      simp only [List.take_succ_cons, List.take_zero, fillL, Act.put, List.setIfInBounds_toArray, List.set_cons_zero, List.set_cons_succ]
      iterate 19
        apply rel_is
        · intro u wx hb hd
          have hz := hb.size
          (try simp only [World.size_alloc, World.size_setCell] at hz)
          have hz0 : w.heap.size < wx.heap.size := by omega
          have hz1 : w.heap.size + 1 < wx.heap.size := by omega
          have hz2 : w.heap.size + 1 + 1 < wx.heap.size := by omega
          have hz3 : w1.heap.size < wx.heap.size := by omega
          have hz4 : b1 < wx.heap.size := by omega
          have hz5 : b2 < wx.heap.size := by omega
          obtain ⟨hc, hf⟩ := bcell hb
          have HBX := Lib.hid hb
          clear hb hz
          simp [depsS, Region.binds, updS, Stay.is, Stay.any] at hd
          go_simp
          first | exact ⟨Below.refl _ _, rfl⟩ | rfl
      apply rel_is
      · intro u wx hb hd
        have hz := hb.size
        (try simp only [World.size_alloc, World.size_setCell] at hz)
        have hz0 : w.heap.size < wx.heap.size := by omega
        have hz1 : w.heap.size + 1 < wx.heap.size := by omega
        have hz2 : w.heap.size + 1 + 1 < wx.heap.size := by omega
        have hz3 : w1.heap.size < wx.heap.size := by omega
        have hz4 : b1 < wx.heap.size := by omega
        have hz5 : b2 < wx.heap.size := by omega
        obtain ⟨hc, hf⟩ := bcell hb
        have HBX := Lib.hid hb
        clear hb hz
        simp [depsS, Region.binds, updS, Stay.is, Stay.any] at hd
        go_simp
        first | rfl | (go_at_call 27; refine (HDET.out _).mono ?_; rintro e w1 ⟨rfl, hb1⟩; first | exact ⟨rfl, hb1⟩ | exact ⟨_, rfl, hb1, rfl⟩)
      apply rel_is
      · intro u wx hb hd
        have hz := hb.size
        (try simp only [World.size_alloc, World.size_setCell] at hz)
        have hz0 : w.heap.size < wx.heap.size := by omega
        have hz1 : w.heap.size + 1 < wx.heap.size := by omega
        have hz2 : w.heap.size + 1 + 1 < wx.heap.size := by omega
        have hz3 : w1.heap.size < wx.heap.size := by omega
        have hz4 : b1 < wx.heap.size := by omega
        have hz5 : b2 < wx.heap.size := by omega
        obtain ⟨hc, hf⟩ := bcell hb
        have HBX := Lib.hid hb
        clear hb hz
        simp [depsS, Region.binds, updS, Stay.is, Stay.any] at hd
        go_simp
        first | rfl | (go_at_call 39; refine (HOF.out _).mono ?_; rintro e w1 ⟨rfl, hb1⟩; first | exact ⟨rfl, hb1⟩ | exact ⟨_, rfl, hb1, rfl⟩)
      apply rel_is
      · intro u wx hb hd
        have hz := hb.size
        (try simp only [World.size_alloc, World.size_setCell] at hz)
        have hz0 : w.heap.size < wx.heap.size := by omega
        have hz1 : w.heap.size + 1 < wx.heap.size := by omega
        have hz2 : w.heap.size + 1 + 1 < wx.heap.size := by omega
        have hz3 : w1.heap.size < wx.heap.size := by omega
        have hz4 : b1 < wx.heap.size := by omega
        have hz5 : b2 < wx.heap.size := by omega
        obtain ⟨hc, hf⟩ := bcell hb
        have HBX := Lib.hid hb
        clear hb hz
        simp [depsS, Region.binds, updS, Stay.is, Stay.any] at hd
        go_simp
        first | rfl | (go_at_call 43; refine (HSUM.out _).mono ?_; rintro e w1 ⟨rfl, hb1⟩; first | exact ⟨rfl, hb1⟩ | exact ⟨_, rfl, hb1, rfl⟩)
      intro u w5 hb hE
      have e0 : u 0 = _ := endS_get hE 0 (by decide)
      have e1 : u 1 = _ := endS_get hE 1 (by decide)
      have e2 : u 2 = _ := endS_get hE 2 (by decide)
      have e3 : u 3 = _ := endS_get hE 3 (by decide)
      have e4 : u 4 = _ := endS_get hE 4 (by decide)
      have e5 : u 5 = _ := endS_get hE 5 (by decide)
      have e6 : u 6 = _ := endS_get hE 6 (by decide)
      have e7 : u 7 = _ := endS_get hE 7 (by decide)
      have e8 : u 8 = _ := endS_get hE 8 (by decide)
      have e9 : u 9 = _ := endS_get hE 9 (by decide)
      have e10 : u 10 = _ := endS_get hE 10 (by decide)
      have e11 : u 11 = _ := endS_get hE 11 (by decide)
      have e12 : u 12 = _ := endS_get hE 12 (by decide)
      have e13 : u 13 = _ := endS_get hE 13 (by decide)
      have e14 : u 14 = _ := endS_get hE 14 (by decide)
      have e15 : u 15 = _ := endS_get hE 15 (by decide)
      have e16 : u 16 = _ := endS_get hE 16 (by decide)
      have e17 : u 17 = _ := endS_get hE 17 (by decide)
      have e18 : u 18 = _ := endS_get hE 18 (by decide)
      have e19 : u 19 = _ := endS_get hE 19 (by decide)
      have e20 : u 20 = _ := endS_get hE 20 (by decide)
      have e21 : u 21 = _ := endS_get hE 21 (by decide)
      simp only [List.drop_succ_cons, List.drop_zero, List.take_succ_cons, List.take_zero, fillL, Act.put, List.setIfInBounds_toArray, List.set_cons_zero, List.set_cons_succ, e0, e1, e2, e3, e4, e5, e6, e7, e8, e9, e10, e11, e12, e13, e14, e15, e16, e17, e18, e19, e20, e21]
      clear e0 e1 e2 e3 e4 e5 e6 e7 e8 e9 e10 e11 e12 e13 e14 e15 e16 e17 e18 e19 e20 e21 hE
      have HBw5 := Lib.hid (below_step (w := w) (by first | assumption | go_grown) hb)
      have HBXw5 := Lib.hid hb
      have hzw5 := hb.size
      (try simp only [World.size_alloc, World.size_setCell] at hzw5)
      have hzw50 : w.heap.size < w5.heap.size := by omega
      have hzw51 : w.heap.size + 1 < w5.heap.size := by omega
      have hzw52 : w.heap.size + 1 + 1 < w5.heap.size := by omega
      have hzw53 : w1.heap.size < w5.heap.size := by omega
      have hzw54 : b1 < w5.heap.size := by omega
      have hzw55 : b2 < w5.heap.size := by omega
      obtain ⟨hcw5, hfw5⟩ := bcell hb
      clear hb hzw5
      have hBw5 : Below w.heap.size w w5 := HBw5.out
      have hW15 : Below w1.heap.size w1 w5 := below_step (w := w1) (by go_grown) HBXw5.out
      go_wp2
      go_roundw
      case rel =>
        refine ⟨j + 1, ss, Z, by omega, by go_num, by show _ = _; rw [HV1.out]; exact HSS.out, by show _ = _; rw [HV1.out]; exact HZZ.out, ?_, ?_, by simp [go_sem, *], by simp [go_sem, *], by go_grown⟩
        · exact WAt.store (HT.out.below (by go_grown))
        · exact (((((HR.out.below (by go_grown)).other (by omega)).other (by omega)).other (by omega)).other (by omega)).other (by omega)
      case measure => simp [intOf]; omega
    · obtain rfl : j = nf := by omega
      obtain rfl : tb = SG := HTB.out.symm.trans HSG.out
      obtain rfl : X = XG := HXV.out.symm.trans HXG.out
      obtain ⟨⟨r0, r1, r2, r3, r4⟩, hrf, zr⟩ := HR.out
      have fr0 := hrf 0
      have fr1 := hrf 1
      have fr2 := hrf 2
      have fr3 := hrf 3
      have fr4 := hrf 4
      clear hrf
      go_wp2
      all_goals (refine bodyPost_ret (v := .agg #[.bool tb, .int .u64 (X 0), .int .u64 (X 1), .int .u64 (X 2), .int .u64 (X 3)]) (by simp (maxDischargeDepth := 9) [results, Try.results38, go_sem, *]) rfl ?_)
      exact ⟨rfl, by go_grown⟩
end Go.Proofs.Ytpjdmjmgkdgfnaa
