/-
  mesh.Check and mesh.Volume6, by walks. Conditions: none. By an AI agent.
-/
import Derived.Test.YtpjdmjmgkdgfnaaMeshI
import Derived.Test.YtpjdmjmgkdgfnaaMeshJ
import Derived.Test.YtpjdmjmgkdgfnaaMeshK
namespace Go.Proofs.Ytpjdmjmgkdgfnaa
open Go Go.RowKit
set_option linter.unusedVariables false
set_option linter.unusedSimpArgs false
set_option maxRecDepth 100000

theorem volume_wd (v : Value) (np nf : Nat) (P F : Nat → V) (w : World) (h : MAt w v np P nf F) (hn : nf ≤ 2048) (hin : ∀ i, i < np → InB 1048576 (P i)) (hix : ∀ j, j < nf → idxB np (F j) = true) :
    Calls Try.prog 33 #[v] w fun e w' => e = .returned (.agg #[.bool (decide (volF P F nf < 0)), .int .u64 ((wdF (volF P F nf)) 0), .int .u64 ((wdF (volF P F nf)) 1), .int .u64 ((wdF (volF P F nf)) 2), .int .u64 ((wdF (volF P F nf)) 3)]) ∧ Below w.heap.size w w' :=
  (volume_any v np nf P F w h hn hin hix).mono (by rintro e w' ⟨X, rfl, hX, hb⟩; obtain ⟨-, e0, e1, e2, e3⟩ := isW_one hX (wdF_is (isW_lt hX)); rw [e0, e1, e2, e3]; exact ⟨rfl, hb⟩)
theorem idxB_mm {np : Nat} {f : V} : idxB np f = (!decide (mn3 f.1 f.2.1 f.2.2 < 0) && !decide ((np : Int) ≤ mx3 f.1 f.2.1 f.2.2)) := by
  have h1 := mn3_iff (x := f.1) (y := f.2.1) (z := f.2.2) (k := 0)
  have h2 := mx3_iff (x := f.1) (y := f.2.1) (z := f.2.2) (k := (np : Int) - 1)
  unfold idxB
  by_cases a : mn3 f.1 f.2.1 f.2.2 < 0
  · rw [decide_eq_true a]
    have := h1.1 a
    exact decide_eq_false (by omega)
  · rw [decide_eq_false a]
    have a' := mt h1.2 a
    by_cases b : (np : Int) ≤ mx3 f.1 f.2.1 f.2.2
    · rw [decide_eq_true b]
      have := h2.1 (by omega)
      exact decide_eq_false (by omega)
    · rw [decide_eq_false b]
      have := mt h2.2 (by omega)
      exact decide_eq_true (by omega)

set_option maxHeartbeats 4000000 in
theorem Check_any (v : Value) (np nf : Nat) (P F : Nat → V) (w : World) (h : MAt w v np P nf F) :
    Calls Try.prog 13 #[v] w fun e w' => e = .returned (.int .i64 (checkM np P nf F)) ∧ Below w.heap.size w w' := by
  have HM := Lib.hid h
  obtain ⟨vp, vf, rfl, g1, g2⟩ := h
  obtain ⟨op, cp, rfl, hnp, hcp, help⟩ := g1.form
  obtain ⟨of', cf, rfl, hnf, hcf, hel⟩ := g2.form
  have HEL := Lib.hid hel
  have HG1 := Lib.hid g1
  obtain ⟨E, hE⟩ : ∃ E, checkM np P nf F = E := ⟨_, rfl⟩
  have HE := Lib.hid hE
  rw [hE]
  clear g1 g2 hel help hE
  go_enter Try.func13, Try.ntmps13
  by_cases h1 : (1024 : Int) < np
  · have k1 : decide ((1024 : Int) < np) = true := decide_eq_true h1
    go_wp2
    go_returns
    rw [← HE.out, check_long (by omega)]
    exact ⟨rfl, by go_grown⟩
  have k1 : decide ((1024 : Int) < np) = false := decide_eq_false h1
  by_cases h2 : (2048 : Int) < nf
  · have k2 : decide ((2048 : Int) < nf) = true := decide_eq_true h2
    go_wp2
    go_returns
    rw [← HE.out, check_long (by omega)]
    exact ⟨rfl, by go_grown⟩
  have k2 : decide ((2048 : Int) < nf) = false := decide_eq_false h2
  obtain ⟨I, hI⟩ : ∃ I, allTo (fun i => inB20 (P i)) np = I := ⟨_, rfl⟩
  have HI := Lib.hid hI
  have HCB : Hid (∀ W, Below w.heap.size w W → Calls Try.prog 30 #[.slice op np cp, .func (.func 31) #[] #[]] W fun e w' => e = .returned (.bool (!I)) ∧ Below W.heap.size W w') := fun W hW => hI ▸ containsBeyond_any _ np P W (HG1.out.below hW)
  clear hI
  cases I
  · replace HCB : Hid (∀ W, Below w.heap.size w W → Calls Try.prog 30 #[.slice op np cp, .func (.func 31) #[] #[]] W fun e w' => e = .returned (.bool true) ∧ Below W.heap.size W w') := HCB
    go_wp2_with fail
    (go_at_call 30; refine (HCB.out _ (by first | assumption | go_grown)).mono ?_; rintro e_ w1 ⟨rfl, hb⟩)
    have hsw1 := hb.size
    (try simp only [World.size_alloc, World.size_setCell] at hsw1)
    have zzw1 : w.heap.size < w1.heap.size := by omega
    have hPw1 : Below w.heap.size w w1 := below_step (w := w) (by first | exact Below.refl _ _ | go_grown) hb
    have zmw1 : w.heap.size < w1.heap.size := by omega
    have m0w1 : w1.cell? ⟨w.heap.size, 0, none⟩ = some (.slice op np cp) := (hb.cell (p := ⟨_, _, none⟩) (by simp <;> omega)).trans (by simp [go_sem])
    have m1w1 : w1.cell? ⟨w.heap.size, 1, none⟩ = some (.slice of' nf cf) := (hb.cell (p := ⟨_, _, none⟩) (by simp <;> omega)).trans (by simp [go_sem])
    have hBw1 : Below w.heap.size w w1 := below_step (w := w) (by first | assumption | go_grown) hb
    clear hb hsw1 hPw1
    go_wp2
    go_returns
    rw [← HE.out, check_far (by omega) (by omega) HI.out]
    exact ⟨rfl, by assumption⟩
  replace HCB : Hid (∀ W, Below w.heap.size w W → Calls Try.prog 30 #[.slice op np cp, .func (.func 31) #[] #[]] W fun e w' => e = .returned (.bool false) ∧ Below W.heap.size W w') := HCB
  go_wp2_with fail
  (go_at_call 30; refine (HCB.out _ (by first | assumption | go_grown)).mono ?_; rintro e_ w1 ⟨rfl, hb⟩)
  have hsw1 := hb.size
  (try simp only [World.size_alloc, World.size_setCell] at hsw1)
  have zzw1 : w.heap.size < w1.heap.size := by omega
  have hPw1 : Below w.heap.size w w1 := below_step (w := w) (by first | exact Below.refl _ _ | go_grown) hb
  have zmw1 : w.heap.size < w1.heap.size := by omega
  have m0w1 : w1.cell? ⟨w.heap.size, 0, none⟩ = some (.slice op np cp) := (hb.cell (p := ⟨_, _, none⟩) (by simp <;> omega)).trans (by simp [go_sem])
  have m1w1 : w1.cell? ⟨w.heap.size, 1, none⟩ = some (.slice of' nf cf) := (hb.cell (p := ⟨_, _, none⟩) (by simp <;> omega)).trans (by simp [go_sem])
  have hBw1 : Below w.heap.size w w1 := below_step (w := w) (by first | assumption | go_grown) hb
  clear hb hsw1 hPw1
  clear k1 k2
  go_wp2
  go_loopw [21] (fun i wr => ∃ k : Nat, k ≤ nf ∧ i = .int .i64 k ∧ Hid (allTo (fun i => idxB np (F i)) k = true) ∧ wr.cell? ⟨w.heap.size, 0, none⟩ = some (.slice op np cp) ∧ wr.cell? ⟨w.heap.size, 1, none⟩ = some (.slice of' nf cf) ∧ w.heap.size < wr.heap.size ∧ Below w.heap.size w wr) (fun i _ => nf - (intOf i).toNat)
  case atStart => exact ⟨0, by omega, rfl, rfl, m0w1, m1w1, zmw1, hBw1⟩
  case round =>
    clear m0w1 m1w1 zmw1 hBw1
    obtain ⟨w2, rfl⟩ : ∃ x : World, x = wr := ⟨_, rfl⟩
    obtain ⟨k, hk, rfl, HA, m0w2, m1w2, zmw2, hBw2⟩ := hrel
    by_cases hlt : k < nf
    · obtain ⟨b1, f1, rfl, hbl1, hcl1⟩ := HEL.out k hlt
      have c0 : w2.cell? ⟨b1, f1 + k * 3, none⟩ = some (.int .i64 (F k).1) := (hBw2.cell (p := ⟨_, _, none⟩) hbl1).trans (hcl1 k hlt).1
      have c1 : w2.cell? ⟨b1, f1 + k * 3 + 1, none⟩ = some (.int .i64 (F k).2.1) := (hBw2.cell (p := ⟨_, _, none⟩) hbl1).trans (hcl1 k hlt).2.1
      have c2 : w2.cell? ⟨b1, f1 + k * 3 + 2, none⟩ = some (.int .i64 (F k).2.2) := (hBw2.cell (p := ⟨_, _, none⟩) hbl1).trans (hcl1 k hlt).2.2
      have hbr : b1 < w2.heap.size := by omega
      have k0 : (0 : Int) ≤ (k : Int) := by omega
      have k1 : (k : Int) < (nf : Int) := by omega
      clear hcl1
      have HID := Lib.hid (idxB_mm (np := np) (f := F k))
      obtain ⟨x, hx⟩ : ∃ x, (F k).1 = x := ⟨_, rfl⟩
      obtain ⟨y, hy⟩ : ∃ y, (F k).2.1 = y := ⟨_, rfl⟩
      obtain ⟨z, hz⟩ : ∃ z, (F k).2.2 = z := ⟨_, rfl⟩
      have hid := HID.out
      rw [hx, hy, hz] at hid
      rw [hx] at c0
      rw [hy] at c1
      rw [hz] at c2
      obtain ⟨MN, hMN⟩ : ∃ m, mn3 x y z = m := ⟨_, rfl⟩
      obtain ⟨MX, hMX⟩ : ∃ m, mx3 x y z = m := ⟨_, rfl⟩
      have r1 := run_mn3 (x := x) (y := y) (z := z)
      have r2 := run_mx3 (x := x) (y := y) (z := z)
      rw [hMN] at r1 hid
      rw [hMX] at r2 hid
      clear hx hy hz hMN hMX HID
      have HID := Lib.hid hid
      clear hid
      by_cases hm : MN < 0
      · have km : decide (MN < 0) = true := decide_eq_true hm
        have HNO : Hid (idxB np (F k) = false) := by show _ = _; rw [HID.out, km]; rfl
        clear hm
        go_wp2
        go_returns
        rw [← HE.out, check_idx (by omega) (by omega) HI.out (allTo_no hlt HNO.out)]
        exact ⟨rfl, by go_grown⟩
      · have km : decide (MN < 0) = false := decide_eq_false hm
        by_cases hx : (np : Int) ≤ MX
        · have kx : decide ((np : Int) ≤ MX) = true := decide_eq_true hx
          have HNO : Hid (idxB np (F k) = false) := by show _ = _; rw [HID.out, km, kx]; rfl
          clear hm hx
          go_wp2
          go_returns
          rw [← HE.out, check_idx (by omega) (by omega) HI.out (allTo_no hlt HNO.out)]
          exact ⟨rfl, by go_grown⟩
        · have kx : decide ((np : Int) ≤ MX) = false := decide_eq_false hx
          have HNO : Hid (idxB np (F k) = true) := by show _ = _; rw [HID.out, km, kx]; rfl
          clear hm hx
          go_wp2
          go_roundw
          case rel => exact ⟨k + 1, by omega, by go_num, allTo_step HA.out HNO.out, by simp [go_sem, *], by simp [go_sem, *], by simp; omega, by go_grown⟩
          case measure => simp [intOf]; omega
    · obtain rfl : k = nf := by omega
      have HIP : Hid (∀ i, i < np → InB 1048576 (P i)) := fun i hi => of_decide_eq_true (allTo_iff.1 HI.out i hi)
      have HIX : Hid (∀ i, i < k → idxB np (F i) = true) := fun i hi => allTo_iff.1 HA.out i hi
      have h1' : np ≤ 1024 := by omega
      have h2' : k ≤ 2048 := by omega
      obtain ⟨C, hC⟩ : ∃ C, decide (Closed (edgesL F k)) = C := ⟨_, rfl⟩
      obtain ⟨D, hD⟩ : ∃ C, cmpI (volF P F k) 0 = C := ⟨_, rfl⟩
      have HC := Lib.hid hC
      have HD := Lib.hid hD
      have HEE : Hid (E = if (C && !decide (D ≤ 0)) = false then 17 else 0) := by
        show _ = _
        rw [← HE.out, check_shape h1' h2' HI.out HA.out]
        unfold shapeB
        rw [hC, ← hD]
        by_cases hv : 0 < volF P F k
        · rw [decide_eq_true hv, decide_eq_false (fun h => cmpI_pos.1 h hv)]; rfl
        · rw [decide_eq_false hv, decide_eq_true (cmpI_pos.2 hv)]; rfl
      have HCLO : Hid (∀ W, Below w.heap.size w W → Calls Try.prog 32 #[.agg #[.slice op np cp, .slice of' k cf]] W fun e w' => e = .returned (.bool C) ∧ Below W.heap.size W w') := fun W hW => hC ▸ closed_any _ np k P F W (HM.out.below hW) h2' h1' HIX.out
      have HVO : Hid (∀ W, Below w.heap.size w W → Calls Try.prog 33 #[.agg #[.slice op np cp, .slice of' k cf]] W fun e w' => e = .returned (.agg #[.bool (decide (volF P F k < 0)), .int .u64 ((wdF (volF P F k)) 0), .int .u64 ((wdF (volF P F k)) 1), .int .u64 ((wdF (volF P F k)) 2), .int .u64 ((wdF (volF P F k)) 3)]) ∧ Below W.heap.size W w') := fun W hW => volume_wd _ np k P F W (HM.out.below hW) h2' HIP.out HIX.out
      have HCMP : Hid (∀ W, Calls Try.prog 28 #[.agg #[.bool (decide (volF P F k < 0)), .int .u64 ((wdF (volF P F k)) 0), .int .u64 ((wdF (volF P F k)) 1), .int .u64 ((wdF (volF P F k)) 2), .int .u64 ((wdF (volF P F k)) 3)], .agg #[.bool false, .int .u64 0, .int .u64 0, .int .u64 0, .int .u64 0]] W fun e w' => e = .returned (.int .i64 D) ∧ Below W.heap.size W w') := fun W => by
        have hb := sumTo_bd (f := fun j => fdet P (F j)) (B := 6917529027641081856) (n := k) (fun i hi => fdet_bd HIP.out (HIX.out i hi))
        have h2 : (k : Int) * 6917529027641081856 ≤ 2048 * 6917529027641081856 := Int.mul_le_mul_of_nonneg_right (by omega) (by decide)
        have h := Cmp_any (volF P F k) 0 _ _ _ _ W (wdF_is (by unfold volF; omega)) (wdF_is (by decide))
        rw [hD, show decide ((0 : Int) < 0) = false from rfl, wdF_0, wdF_0, wdF_0, wdF_0] at h
        exact h
      generalize decide (volF P F k < 0) = sg at *
      generalize wdF (volF P F k) = X at *
      clear hC hD hk hlt HA h1 h2
      cases C
      · have HEV : Hid (E = 17) := HEE.out
        go_wp2_with fail
        (go_at_call 32; refine (HCLO.out _ (by first | assumption | go_grown)).mono ?_; rintro e_ w3 ⟨rfl, hb⟩)
        have hsw3 := hb.size
        (try simp only [World.size_alloc, World.size_setCell] at hsw3)
        have zzw3 : w.heap.size < w3.heap.size := by omega
        have hPw3 : Below w2.heap.size w2 w3 := below_step (w := w2) (by first | exact Below.refl _ _ | go_grown) hb
        have zmw3 : w.heap.size < w3.heap.size := by omega
        have m0w3 : w3.cell? ⟨w.heap.size, 0, none⟩ = some (.slice op np cp) := (hPw3.cell (p := ⟨_, _, none⟩) zmw2).trans m0w2
        have m1w3 : w3.cell? ⟨w.heap.size, 1, none⟩ = some (.slice of' k cf) := (hPw3.cell (p := ⟨_, _, none⟩) zmw2).trans m1w2
        have hBw3 : Below w.heap.size w w3 := below_step (w := w) (by first | assumption | go_grown) hb
        clear hb hsw3 hPw3
        clear zmw2 m0w2 m1w2
        go_wp2
        go_returns
        rw [HEV.out]
        exact ⟨rfl, by assumption⟩
      · by_cases hc : D ≤ 0
        · have kc : decide (D ≤ 0) = true := decide_eq_true hc
          have HEV : Hid (E = 17) := by show _ = _; rw [HEE.out, kc]; rfl
          clear hc
          go_wp2_with fail
          (go_at_call 32; refine (HCLO.out _ (by first | assumption | go_grown)).mono ?_; rintro e_ w3 ⟨rfl, hb⟩)
          have hsw3 := hb.size
          (try simp only [World.size_alloc, World.size_setCell] at hsw3)
          have zzw3 : w.heap.size < w3.heap.size := by omega
          have hPw3 : Below w2.heap.size w2 w3 := below_step (w := w2) (by first | exact Below.refl _ _ | go_grown) hb
          have zmw3 : w.heap.size < w3.heap.size := by omega
          have m0w3 : w3.cell? ⟨w.heap.size, 0, none⟩ = some (.slice op np cp) := (hPw3.cell (p := ⟨_, _, none⟩) zmw2).trans m0w2
          have m1w3 : w3.cell? ⟨w.heap.size, 1, none⟩ = some (.slice of' k cf) := (hPw3.cell (p := ⟨_, _, none⟩) zmw2).trans m1w2
          have hBw3 : Below w.heap.size w w3 := below_step (w := w) (by first | assumption | go_grown) hb
          clear hb hsw3 hPw3
          clear zmw2 m0w2 m1w2
          go_wp2_with fail
          (go_at_call 33; refine (HVO.out _ (by first | assumption | go_grown)).mono ?_; rintro e_ w4 ⟨rfl, hb⟩)
          have hsw4 := hb.size
          (try simp only [World.size_alloc, World.size_setCell] at hsw4)
          have zzw4 : w.heap.size < w4.heap.size := by omega
          have hPw4 : Below w3.heap.size w3 w4 := below_step (w := w3) (by first | exact Below.refl _ _ | go_grown) hb
          have zmw4 : w.heap.size < w4.heap.size := by omega
          have m0w4 : w4.cell? ⟨w.heap.size, 0, none⟩ = some (.slice op np cp) := (hPw4.cell (p := ⟨_, _, none⟩) zmw3).trans m0w3
          have m1w4 : w4.cell? ⟨w.heap.size, 1, none⟩ = some (.slice of' k cf) := (hPw4.cell (p := ⟨_, _, none⟩) zmw3).trans m1w3
          have hBw4 : Below w.heap.size w w4 := below_step (w := w) (by first | assumption | go_grown) hb
          clear hb hsw4 hPw4
          clear zmw3 m0w3 m1w3
          go_wp2_with fail
          (go_at_call 28; refine (HCMP.out _).mono ?_; rintro e_ w5 ⟨rfl, hb⟩)
          have hsw5 := hb.size
          (try simp only [World.size_alloc, World.size_setCell] at hsw5)
          have zzw5 : w.heap.size < w5.heap.size := by omega
          have hPw5 : Below w4.heap.size w4 w5 := below_step (w := w4) (by first | exact Below.refl _ _ | go_grown) hb
          have zmw5 : w.heap.size < w5.heap.size := by omega
          have m0w5 : w5.cell? ⟨w.heap.size, 0, none⟩ = some (.slice op np cp) := (hPw5.cell (p := ⟨_, _, none⟩) zmw4).trans m0w4
          have m1w5 : w5.cell? ⟨w.heap.size, 1, none⟩ = some (.slice of' k cf) := (hPw5.cell (p := ⟨_, _, none⟩) zmw4).trans m1w4
          have hBw5 : Below w.heap.size w w5 := below_step (w := w) (by first | assumption | go_grown) hb
          clear hb hsw5 hPw5
          clear zmw4 m0w4 m1w4
          go_wp2
          go_returns
          rw [HEV.out]
          exact ⟨rfl, by assumption⟩
        · have kc : decide (D ≤ 0) = false := decide_eq_false hc
          have HEV : Hid (E = 0) := by show _ = _; rw [HEE.out, kc]; rfl
          clear hc
          go_wp2_with fail
          (go_at_call 32; refine (HCLO.out _ (by first | assumption | go_grown)).mono ?_; rintro e_ w3 ⟨rfl, hb⟩)
          have hsw3 := hb.size
          (try simp only [World.size_alloc, World.size_setCell] at hsw3)
          have zzw3 : w.heap.size < w3.heap.size := by omega
          have hPw3 : Below w2.heap.size w2 w3 := below_step (w := w2) (by first | exact Below.refl _ _ | go_grown) hb
          have zmw3 : w.heap.size < w3.heap.size := by omega
          have m0w3 : w3.cell? ⟨w.heap.size, 0, none⟩ = some (.slice op np cp) := (hPw3.cell (p := ⟨_, _, none⟩) zmw2).trans m0w2
          have m1w3 : w3.cell? ⟨w.heap.size, 1, none⟩ = some (.slice of' k cf) := (hPw3.cell (p := ⟨_, _, none⟩) zmw2).trans m1w2
          have hBw3 : Below w.heap.size w w3 := below_step (w := w) (by first | assumption | go_grown) hb
          clear hb hsw3 hPw3
          clear zmw2 m0w2 m1w2
          go_wp2_with fail
          (go_at_call 33; refine (HVO.out _ (by first | assumption | go_grown)).mono ?_; rintro e_ w4 ⟨rfl, hb⟩)
          have hsw4 := hb.size
          (try simp only [World.size_alloc, World.size_setCell] at hsw4)
          have zzw4 : w.heap.size < w4.heap.size := by omega
          have hPw4 : Below w3.heap.size w3 w4 := below_step (w := w3) (by first | exact Below.refl _ _ | go_grown) hb
          have zmw4 : w.heap.size < w4.heap.size := by omega
          have m0w4 : w4.cell? ⟨w.heap.size, 0, none⟩ = some (.slice op np cp) := (hPw4.cell (p := ⟨_, _, none⟩) zmw3).trans m0w3
          have m1w4 : w4.cell? ⟨w.heap.size, 1, none⟩ = some (.slice of' k cf) := (hPw4.cell (p := ⟨_, _, none⟩) zmw3).trans m1w3
          have hBw4 : Below w.heap.size w w4 := below_step (w := w) (by first | assumption | go_grown) hb
          clear hb hsw4 hPw4
          clear zmw3 m0w3 m1w3
          go_wp2_with fail
          (go_at_call 28; refine (HCMP.out _).mono ?_; rintro e_ w5 ⟨rfl, hb⟩)
          have hsw5 := hb.size
          (try simp only [World.size_alloc, World.size_setCell] at hsw5)
          have zzw5 : w.heap.size < w5.heap.size := by omega
          have hPw5 : Below w4.heap.size w4 w5 := below_step (w := w4) (by first | exact Below.refl _ _ | go_grown) hb
          have zmw5 : w.heap.size < w5.heap.size := by omega
          have m0w5 : w5.cell? ⟨w.heap.size, 0, none⟩ = some (.slice op np cp) := (hPw5.cell (p := ⟨_, _, none⟩) zmw4).trans m0w4
          have m1w5 : w5.cell? ⟨w.heap.size, 1, none⟩ = some (.slice of' k cf) := (hPw5.cell (p := ⟨_, _, none⟩) zmw4).trans m1w4
          have hBw5 : Below w.heap.size w w5 := below_step (w := w) (by first | assumption | go_grown) hb
          clear hb hsw5 hPw5
          clear zmw4 m0w4 m1w4
          go_wp2
          go_returns
          rw [HEV.out]
          exact ⟨rfl, by assumption⟩

set_option maxHeartbeats 2000000 in
theorem Volume6_any (v : Value) (np nf : Nat) (P F : Nat → V) (w : World) (h : MAt w v np P nf F) :
    Calls Try.prog 15 #[v] w fun e w' => e = .returned (.tuple #[.agg #[.bool (decide (vol6 np P nf F < 0)), .int .u64 ((wdF (vol6 np P nf F)) 0), .int .u64 ((wdF (vol6 np P nf F)) 1), .int .u64 ((wdF (vol6 np P nf F)) 2), .int .u64 ((wdF (vol6 np P nf F)) 3)], .int .i64 (checkM np P nf F)]) ∧ Below w.heap.size w w' := by
  have HM := Lib.hid h
  obtain ⟨op, cp, of', cf, he⟩ := h.slices
  cases he
  obtain ⟨x, hx⟩ : ∃ x, (.slice op np cp : Value) = x := ⟨_, rfl⟩
  obtain ⟨y, hy⟩ : ∃ y, (.slice of' nf cf : Value) = y := ⟨_, rfl⟩
  rw [hx, hy] at HM ⊢
  obtain ⟨E, hE⟩ : ∃ E, checkM np P nf F = E := ⟨_, rfl⟩
  obtain ⟨S, hS⟩ : ∃ b, decide (vol6 np P nf F < 0) = b := ⟨_, rfl⟩
  obtain ⟨X, hX⟩ : ∃ X, wdF (vol6 np P nf F) = X := ⟨_, rfl⟩
  have HE := Lib.hid hE
  by_cases h0 : E = 0
  · subst h0
    have HG : Hid (Good np P nf F) := check_iff.1 HE.out
    have hv : vol6 np P nf F = volF P F nf := if_pos hE
    rw [hE, hS, hX]
    rw [hv] at hS hX
    have HS := Lib.hid hS
    have HX := Lib.hid hX
    clear hE hS hX hv hx hy h
    go_enter Try.func15, Try.ntmps15
    go_wp2_with fail
    (go_at_call 13; refine (Check_any _ np nf P F _ (HM.out.below (by first | assumption | go_grown))).mono ?_; rintro e_ w1 ⟨rfl, hb⟩)
    have hsw1 := hb.size
    (try simp only [World.size_alloc, World.size_setCell] at hsw1)
    have zzw1 : w.heap.size < w1.heap.size := by omega
    have hPw1 : Below w.heap.size w w1 := below_step (w := w) (by first | exact Below.refl _ _ | go_grown) hb
    have zmw1 : w.heap.size < w1.heap.size := by omega
    have m0w1 : w1.cell? ⟨w.heap.size, 0, none⟩ = some (x) := (hb.cell (p := ⟨_, _, none⟩) (by simp <;> omega)).trans (by simp [go_sem])
    have m1w1 : w1.cell? ⟨w.heap.size, 1, none⟩ = some (y) := (hb.cell (p := ⟨_, _, none⟩) (by simp <;> omega)).trans (by simp [go_sem])
    have zrw1 : w.heap.size + 1 < w1.heap.size := by omega
    have r0w1 : w1.cell? ⟨w.heap.size + 1, 0, none⟩ = some (.bool false) := (hb.cell (p := ⟨_, _, none⟩) (by simp <;> omega)).trans (by simp [go_sem])
    have r1w1 : w1.cell? ⟨w.heap.size + 1, 1, none⟩ = some (.int .u64 0) := (hb.cell (p := ⟨_, _, none⟩) (by simp <;> omega)).trans (by simp [go_sem])
    have r2w1 : w1.cell? ⟨w.heap.size + 1, 2, none⟩ = some (.int .u64 0) := (hb.cell (p := ⟨_, _, none⟩) (by simp <;> omega)).trans (by simp [go_sem])
    have r3w1 : w1.cell? ⟨w.heap.size + 1, 3, none⟩ = some (.int .u64 0) := (hb.cell (p := ⟨_, _, none⟩) (by simp <;> omega)).trans (by simp [go_sem])
    have r4w1 : w1.cell? ⟨w.heap.size + 1, 4, none⟩ = some (.int .u64 0) := (hb.cell (p := ⟨_, _, none⟩) (by simp <;> omega)).trans (by simp [go_sem])
    have fr0w1 : w1.frozen? ⟨w.heap.size + 1, 0, none⟩ = false := (hb.frozen (p := ⟨_, _, none⟩) (by simp <;> omega)).trans (by simp [go_sem])
    have fr1w1 : w1.frozen? ⟨w.heap.size + 1, 1, none⟩ = false := (hb.frozen (p := ⟨_, _, none⟩) (by simp <;> omega)).trans (by simp [go_sem])
    have fr2w1 : w1.frozen? ⟨w.heap.size + 1, 2, none⟩ = false := (hb.frozen (p := ⟨_, _, none⟩) (by simp <;> omega)).trans (by simp [go_sem])
    have fr3w1 : w1.frozen? ⟨w.heap.size + 1, 3, none⟩ = false := (hb.frozen (p := ⟨_, _, none⟩) (by simp <;> omega)).trans (by simp [go_sem])
    have fr4w1 : w1.frozen? ⟨w.heap.size + 1, 4, none⟩ = false := (hb.frozen (p := ⟨_, _, none⟩) (by simp <;> omega)).trans (by simp [go_sem])
    have hBw1 : Below w.heap.size w w1 := below_step (w := w) (by first | assumption | go_grown) hb
    rw [HE.out]
    clear hb hsw1 hPw1
    go_wp2_with fail
    (go_at_call 33; refine (volume_wd _ np nf P F _ (HM.out.below (by first | assumption | go_grown)) HG.out.n2 HG.out.ins HG.out.ix).mono ?_; rintro e_ w2 ⟨rfl, hb⟩)
    have hsw2 := hb.size
    (try simp only [World.size_alloc, World.size_setCell] at hsw2)
    have zzw2 : w.heap.size < w2.heap.size := by omega
    have hPw2 : Below w1.heap.size w1 w2 := below_step (w := w1) (by first | exact Below.refl _ _ | go_grown) hb
    have zmw2 : w.heap.size < w2.heap.size := by omega
    have m0w2 : w2.cell? ⟨w.heap.size, 0, none⟩ = some (x) := (hPw2.cell (p := ⟨_, _, none⟩) zmw1).trans m0w1
    have m1w2 : w2.cell? ⟨w.heap.size, 1, none⟩ = some (y) := (hPw2.cell (p := ⟨_, _, none⟩) zmw1).trans m1w1
    have zrw2 : w.heap.size + 1 < w2.heap.size := by omega
    have r0w2 : w2.cell? ⟨w.heap.size + 1, 0, none⟩ = some (.bool false) := (hPw2.cell (p := ⟨_, _, none⟩) zrw1).trans r0w1
    have r1w2 : w2.cell? ⟨w.heap.size + 1, 1, none⟩ = some (.int .u64 0) := (hPw2.cell (p := ⟨_, _, none⟩) zrw1).trans r1w1
    have r2w2 : w2.cell? ⟨w.heap.size + 1, 2, none⟩ = some (.int .u64 0) := (hPw2.cell (p := ⟨_, _, none⟩) zrw1).trans r2w1
    have r3w2 : w2.cell? ⟨w.heap.size + 1, 3, none⟩ = some (.int .u64 0) := (hPw2.cell (p := ⟨_, _, none⟩) zrw1).trans r3w1
    have r4w2 : w2.cell? ⟨w.heap.size + 1, 4, none⟩ = some (.int .u64 0) := (hPw2.cell (p := ⟨_, _, none⟩) zrw1).trans r4w1
    have fr0w2 : w2.frozen? ⟨w.heap.size + 1, 0, none⟩ = false := (hPw2.frozen (p := ⟨_, _, none⟩) zrw1).trans fr0w1
    have fr1w2 : w2.frozen? ⟨w.heap.size + 1, 1, none⟩ = false := (hPw2.frozen (p := ⟨_, _, none⟩) zrw1).trans fr1w1
    have fr2w2 : w2.frozen? ⟨w.heap.size + 1, 2, none⟩ = false := (hPw2.frozen (p := ⟨_, _, none⟩) zrw1).trans fr2w1
    have fr3w2 : w2.frozen? ⟨w.heap.size + 1, 3, none⟩ = false := (hPw2.frozen (p := ⟨_, _, none⟩) zrw1).trans fr3w1
    have fr4w2 : w2.frozen? ⟨w.heap.size + 1, 4, none⟩ = false := (hPw2.frozen (p := ⟨_, _, none⟩) zrw1).trans fr4w1
    have hBw2 : Below w.heap.size w w2 := below_step (w := w) (by first | assumption | go_grown) hb
    rw [HS.out, HX.out]
    clear hb hsw2 hPw2
    clear zmw1 zrw1 m0w1 m1w1 r0w1 r1w1 r2w1 r3w1 r4w1 fr0w1 fr1w1 fr2w1 fr3w1 fr4w1
    go_wp2
    all_goals (refine bodyPost_ret (v := .tuple #[.agg #[.bool S, .int .u64 (X 0), .int .u64 (X 1), .int .u64 (X 2), .int .u64 (X 3)], .int .i64 0]) (by simp (maxDischargeDepth := 9) [results, Try.results15, go_sem, *]) rfl ?_)
    exact ⟨rfl, by go_grown⟩
  · have hv : vol6 np P nf F = 0 := if_neg (by rw [hE]; exact h0)
    have kE : decide (E = 0) = false := decide_eq_false h0
    have kE2 : (E == 0) = false := by simpa using h0
    have kE3 : (E != 0) = true := by simpa using h0
    rw [hv, hE, show decide ((0 : Int) < 0) = false from rfl, wdF_0, wdF_0, wdF_0, wdF_0]
    clear hE hS hX hv hx hy h h0
    go_enter Try.func15, Try.ntmps15
    go_wp2_with fail
    (go_at_call 13; refine (Check_any _ np nf P F _ (HM.out.below (by first | assumption | go_grown))).mono ?_; rintro e_ w1 ⟨rfl, hb⟩)
    have hsw1 := hb.size
    (try simp only [World.size_alloc, World.size_setCell] at hsw1)
    have zzw1 : w.heap.size < w1.heap.size := by omega
    have hPw1 : Below w.heap.size w w1 := below_step (w := w) (by first | exact Below.refl _ _ | go_grown) hb
    have zmw1 : w.heap.size < w1.heap.size := by omega
    have m0w1 : w1.cell? ⟨w.heap.size, 0, none⟩ = some (x) := (hb.cell (p := ⟨_, _, none⟩) (by simp <;> omega)).trans (by simp [go_sem])
    have m1w1 : w1.cell? ⟨w.heap.size, 1, none⟩ = some (y) := (hb.cell (p := ⟨_, _, none⟩) (by simp <;> omega)).trans (by simp [go_sem])
    have zrw1 : w.heap.size + 1 < w1.heap.size := by omega
    have r0w1 : w1.cell? ⟨w.heap.size + 1, 0, none⟩ = some (.bool false) := (hb.cell (p := ⟨_, _, none⟩) (by simp <;> omega)).trans (by simp [go_sem])
    have r1w1 : w1.cell? ⟨w.heap.size + 1, 1, none⟩ = some (.int .u64 0) := (hb.cell (p := ⟨_, _, none⟩) (by simp <;> omega)).trans (by simp [go_sem])
    have r2w1 : w1.cell? ⟨w.heap.size + 1, 2, none⟩ = some (.int .u64 0) := (hb.cell (p := ⟨_, _, none⟩) (by simp <;> omega)).trans (by simp [go_sem])
    have r3w1 : w1.cell? ⟨w.heap.size + 1, 3, none⟩ = some (.int .u64 0) := (hb.cell (p := ⟨_, _, none⟩) (by simp <;> omega)).trans (by simp [go_sem])
    have r4w1 : w1.cell? ⟨w.heap.size + 1, 4, none⟩ = some (.int .u64 0) := (hb.cell (p := ⟨_, _, none⟩) (by simp <;> omega)).trans (by simp [go_sem])
    have fr0w1 : w1.frozen? ⟨w.heap.size + 1, 0, none⟩ = false := (hb.frozen (p := ⟨_, _, none⟩) (by simp <;> omega)).trans (by simp [go_sem])
    have fr1w1 : w1.frozen? ⟨w.heap.size + 1, 1, none⟩ = false := (hb.frozen (p := ⟨_, _, none⟩) (by simp <;> omega)).trans (by simp [go_sem])
    have fr2w1 : w1.frozen? ⟨w.heap.size + 1, 2, none⟩ = false := (hb.frozen (p := ⟨_, _, none⟩) (by simp <;> omega)).trans (by simp [go_sem])
    have fr3w1 : w1.frozen? ⟨w.heap.size + 1, 3, none⟩ = false := (hb.frozen (p := ⟨_, _, none⟩) (by simp <;> omega)).trans (by simp [go_sem])
    have fr4w1 : w1.frozen? ⟨w.heap.size + 1, 4, none⟩ = false := (hb.frozen (p := ⟨_, _, none⟩) (by simp <;> omega)).trans (by simp [go_sem])
    have hBw1 : Below w.heap.size w w1 := below_step (w := w) (by first | assumption | go_grown) hb
    rw [HE.out]
    clear hb hsw1 hPw1
    go_wp2
    all_goals (refine bodyPost_ret (v := .tuple #[.agg #[.bool false, .int .u64 0, .int .u64 0, .int .u64 0, .int .u64 0], .int .i64 E]) (by simp (maxDischargeDepth := 9) [results, Try.results15, go_sem, *]) rfl ?_)
    exact ⟨rfl, by go_grown⟩
end Go.Proofs.Ytpjdmjmgkdgfnaa
