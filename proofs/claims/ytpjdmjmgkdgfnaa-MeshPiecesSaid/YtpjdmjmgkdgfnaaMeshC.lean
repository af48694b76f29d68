/-
  The closure of volume; mesh.sum over it; volume, by walks. Conditions: none. By an AI agent.
-/
import Derived.Test.YtpjdmjmgkdgfnaaMeshB
namespace Go.Proofs.Ytpjdmjmgkdgfnaa
open Go Go.RowKit
set_option linter.unusedVariables false
set_option linter.unusedSimpArgs false
set_option maxRecDepth 100000

/-- a wide integer's variable -/
def WAt (w : World) (k : Nat) (b : Bool) (X : Nat → Int) : Prop :=
  (w.cell? ⟨k, 0, none⟩ = some (.bool b) ∧ w.cell? ⟨k, 1, none⟩ = some (.int .u64 (X 0)) ∧ w.cell? ⟨k, 2, none⟩ = some (.int .u64 (X 1)) ∧ w.cell? ⟨k, 3, none⟩ = some (.int .u64 (X 2)) ∧ w.cell? ⟨k, 4, none⟩ = some (.int .u64 (X 3))) ∧ (∀ q, w.frozen? ⟨k, q, none⟩ = false) ∧ k < w.heap.size
theorem WAt.below {w w' : World} {k : Nat} {b : Bool} {X : Nat → Int} (h : WAt w k b X) (hb : Below w.heap.size w w') : WAt w' k b X := by
  obtain ⟨⟨h0, h1, h2, h3, h4⟩, h5, h6⟩ := h
  have f := fun q => hb.cell (p := ⟨k, q, none⟩) h6
  exact ⟨⟨(f 0).trans h0, (f 1).trans h1, (f 2).trans h2, (f 3).trans h3, (f 4).trans h4⟩, fun q => (hb.frozen (p := ⟨k, q, none⟩) h6).trans (h5 q), Nat.lt_of_lt_of_le h6 hb.size⟩
theorem WAt.other {w : World} {k b' i : Nat} {b : Bool} {X : Nat → Int} {v : Value} (h : WAt w k b X) (hne : b' ≠ k) : WAt (w.setCell ⟨b', i, none⟩ v) k b X := by
  obtain ⟨⟨h0, h1, h2, h3, h4⟩, h5, h6⟩ := h
  have f : ∀ q, (w.setCell ⟨b', i, none⟩ v).cell? ⟨k, q, none⟩ = w.cell? ⟨k, q, none⟩ := fun q => World.cell?_setCell_other _ _ _ _ (by intro he; have := congrArg Addr.block he; simp at this; omega)
  exact ⟨⟨(f 0).trans h0, (f 1).trans h1, (f 2).trans h2, (f 3).trans h3, (f 4).trans h4⟩, fun q => by rw [World.frozen?_setCell]; exact h5 q, by simpa using h6⟩
theorem WAt.store {w : World} {k : Nat} {b c : Bool} {X Y : Nat → Int} (h : WAt w k b X) : WAt (((((w.setCell ⟨k, 0, none⟩ (.bool c)).setCell ⟨k, 1, none⟩ (.int .u64 (Y 0))).setCell ⟨k, 2, none⟩ (.int .u64 (Y 1))).setCell ⟨k, 3, none⟩ (.int .u64 (Y 2))).setCell ⟨k, 4, none⟩ (.int .u64 (Y 3))) k c Y := by
  obtain ⟨⟨h0, h1, h2, h3, h4⟩, h5, h6⟩ := h
  refine ⟨⟨?_, ?_, ?_, ?_, ?_⟩, fun q => by simp only [World.frozen?_setCell]; exact h5 q, by simpa using h6⟩ <;> simp (maxDischargeDepth := 9) [go_sem, h0, h1, h2, h3, h4]

set_option maxHeartbeats 2000000 in
theorem volume1_any (b np nf : Nat) (P F : Nat → V) (x y : Value) (ia ib ic : Nat) (w : World) (h : MAt w (.agg #[x, y]) np P nf F) (hb : b < w.heap.size) (h0 : w.cell? ⟨b, 0, none⟩ = some x) (h1 : w.cell? ⟨b, 1, none⟩ = some y) (hin : ∀ i, i < np → InB 1048576 (P i)) (hia : ia < np) (hib : ib < np) (hic : ic < np) :
    Calls Try.prog 56 #[.agg #[.int .i64 ia, .int .i64 ib, .int .i64 ic], .pointer (some ⟨b, 0, none⟩)] w fun e w' => e = .returned (.tuple #[.int .i64 (detV (P ia) (P ib) (P ic)), .int .i64 1]) ∧ Below w.heap.size w w' := by
  have HM := Lib.hid h
  have HIN := Lib.hid hin
  obtain ⟨op, cp, of', cf, he⟩ := h.slices
  cases he
  have hb0 : b ≠ w.heap.size := by omega
  clear h hin
  go_enter Try.func56, Try.ntmps56
  go_wp2_with fail
  (go_at_call 42; refine (determinant_any _ np P nf F ia ib ic _ (HM.out.below (by first | assumption | go_grown)) HIN.out hia hib hic).mono ?_; rintro e_ w1 ⟨rfl, hb⟩)
  have hsw1 := hb.size
  (try simp only [World.size_alloc, World.size_setCell] at hsw1)
  have zzw1 : w.heap.size < w1.heap.size := by omega
  have hPw1 : Below w.heap.size w w1 := below_step (w := w) (by first | exact Below.refl _ _ | go_grown) hb
  have zfw1 : w.heap.size < w1.heap.size := by omega
  have f0w1 : w1.cell? ⟨w.heap.size, 0, none⟩ = some (.int .i64 ia) := (hb.cell (p := ⟨_, _, none⟩) (by simp <;> omega)).trans (by simp [go_sem])
  have f1w1 : w1.cell? ⟨w.heap.size, 1, none⟩ = some (.int .i64 ib) := (hb.cell (p := ⟨_, _, none⟩) (by simp <;> omega)).trans (by simp [go_sem])
  have f2w1 : w1.cell? ⟨w.heap.size, 2, none⟩ = some (.int .i64 ic) := (hb.cell (p := ⟨_, _, none⟩) (by simp <;> omega)).trans (by simp [go_sem])
  have hBw1 : Below w.heap.size w w1 := below_step (w := w) (by first | assumption | go_grown) hb
  clear hb hsw1 hPw1
  go_wp2
  go_returns
  exact ⟨rfl, by assumption⟩

set_option maxHeartbeats 4000000 in
theorem msumVol_any (v : Value) (np : Nat) (P : Nat → V) (nf : Nat) (F : Nat → V) (CAP : Value) (ka kb : Nat → Int) (w : World) (h : MAt w v np P nf F) (hn : nf ≤ 2048)
    (hka : ∀ j, j < nf → -9223372036854775808 ≤ ka j ∧ ka j < 9223372036854775808) (hkb : ∀ j, j < nf → -9223372036854775808 ≤ kb j ∧ kb j < 9223372036854775808)
    (hcl : ∀ j, j < nf → ∀ W, Below w.heap.size w W → Calls Try.prog 56 #[.agg #[.int .i64 (F j).1, .int .i64 (F j).2.1, .int .i64 (F j).2.2], CAP] W fun e w' => e = .returned (.tuple #[.int .i64 (ka j), .int .i64 (kb j)]) ∧ Below W.heap.size W w') :
    Calls Try.prog 40 #[v, .func (.func 56) #[] #[CAP]] w fun e w' => ∃ X : Nat → Int, e = .returned (.agg #[.bool (decide (sumTo (fun j => ka j * kb j) nf < 0)), .int .u64 (X 0), .int .u64 (X 1), .int .u64 (X 2), .int .u64 (X 3)]) ∧ isW (sumTo (fun j => ka j * kb j) nf) (decide (sumTo (fun j => ka j * kb j) nf < 0)) X ∧ Below w.heap.size w w' := by
  obtain ⟨vp, vf, rfl, h1, h2⟩ := h
  obtain ⟨op, cp, rfl, -, -, -⟩ := h1.form
  obtain ⟨of', cf, rfl, hnf, hcf, hel⟩ := h2.form
  have HEL := Lib.hid hel
  have HCL := Lib.hid hcl
  have HA := Lib.hid hka
  have HB := Lib.hid hkb
  have hpr : ∀ j, j < nf → -85070591730234615865843651857942052864 ≤ ka j * kb j ∧ ka j * kb j ≤ 85070591730234615865843651857942052864 := fun j hj => by
    have h1 := hka j hj
    have h2 := hkb j hj
    exact mul_bd (C := 9223372036854775808) (D := 9223372036854775808) (by decide) (by decide) (by omega) (by omega) (by omega) (by omega)
  have hsum : ∀ j, j ≤ nf → (((sumTo (fun j => ka j * kb j) j).natAbs : Nat) : Int) ≤ 2048 * 85070591730234615865843651857942052864 := fun j hj => by
    have h1 := sumTo_bd (n := j) (fun i hi => hpr i (by omega))
    have h2 : (j : Int) * 85070591730234615865843651857942052864 ≤ 2048 * 85070591730234615865843651857942052864 := Int.mul_le_mul_of_nonneg_right (by omega) (by decide)
    omega
  have HPR := Lib.hid hpr
  have HSUM := Lib.hid hsum
  obtain ⟨SG, hSG⟩ : ∃ b, decide (sumTo (fun j => ka j * kb j) nf < 0) = b := ⟨_, rfl⟩
  have HSG := Lib.hid hSG
  rw [hSG]
  clear h1 h2 hel hcl hka hkb hpr hsum hSG
  go_enter Try.func40, Try.ntmps40
  go_wp2
  go_loopw [15] (fun i wr => ∃ (j : Nat) (tb : Bool) (X : Nat → Int), j ≤ nf ∧ i = .int .i64 j ∧ isW (sumTo (fun j => ka j * kb j) j) tb X ∧ WAt wr (w.heap.size + 1 + 1) tb X ∧ WAt wr (w.heap.size + 1) false zeroF ∧ Below w.heap.size w wr) (fun i _ => nf - (intOf i).toNat)
  case atStart =>
    refine ⟨0, false, zeroF, by omega, rfl, isW_zero, ?_, ?_, by go_grown⟩
    · exact ⟨⟨by simp [go_sem], by simp [go_sem, zeroF], by simp [go_sem, zeroF], by simp [go_sem, zeroF], by simp [go_sem, zeroF]⟩, fun q => by simp [go_sem], by simp <;> omega⟩
    · exact ⟨⟨by simp [go_sem], by simp [go_sem, zeroF], by simp [go_sem, zeroF], by simp [go_sem, zeroF], by simp [go_sem, zeroF]⟩, fun q => by simp [go_sem], by simp <;> omega⟩
  case round =>
    obtain ⟨w1, rfl⟩ : ∃ x : World, x = wr := ⟨_, rfl⟩
    obtain ⟨j, tb, X, hj, rfl, ht, hT, hR, hBw1⟩ := hrel
    have HT := Lib.hid ht
    have HTA := Lib.hid hT
    have HR := Lib.hid hR
    obtain ⟨⟨t0w1, t1w1, t2w1, t3w1, t4w1⟩, htf, ztw1⟩ := hT
    have ft0w1 := htf 0
    have ft1w1 := htf 1
    have ft2w1 := htf 2
    have ft3w1 := htf 3
    have ft4w1 := htf 4
    have zzw1 : w.heap.size < w1.heap.size := by omega
    clear ht hR htf
    by_cases hlt : j < nf
    · obtain ⟨b1, f1, rfl, hbl1, hcl1⟩ := HEL.out j hlt
      have c0 : w1.cell? ⟨b1, f1 + j * 3, none⟩ = some (.int .i64 (F j).1) := (hBw1.cell (p := ⟨_, _, none⟩) hbl1).trans (hcl1 j hlt).1
      have c1 : w1.cell? ⟨b1, f1 + j * 3 + 1, none⟩ = some (.int .i64 (F j).2.1) := (hBw1.cell (p := ⟨_, _, none⟩) hbl1).trans (hcl1 j hlt).2.1
      have c2 : w1.cell? ⟨b1, f1 + j * 3 + 2, none⟩ = some (.int .i64 (F j).2.2) := (hBw1.cell (p := ⟨_, _, none⟩) hbl1).trans (hcl1 j hlt).2.2
      have hbr : b1 < w1.heap.size := by omega
      have k0 : (0 : Int) ≤ (j : Int) := by omega
      have k1 : (j : Int) < (nf : Int) := by omega
      have HKA := Lib.hid (HA.out j hlt)
      have HKB := Lib.hid (HB.out j hlt)
      obtain ⟨sa, hsa⟩ : ∃ b, decide (ka j < 0) = b := ⟨_, rfl⟩
      obtain ⟨sb, hsb⟩ : ∃ b, decide (kb j < 0) = b := ⟨_, rfl⟩
      obtain ⟨sp, hsp⟩ : ∃ b, decide (ka j * kb j < 0) = b := ⟨_, rfl⟩
      obtain ⟨ss, hss⟩ : ∃ b, decide (sumTo (fun j => ka j * kb j) j + ka j * kb j < 0) = b := ⟨_, rfl⟩
      have HSA := Lib.hid hsa
      have HSB := Lib.hid hsb
      have HSP := Lib.hid hsp
      have HSS := Lib.hid hss
      have HPL : Hid (((ka j * kb j).natAbs : Int) < 115792089237316195423570985008687907853269984665640564039457584007913129639936) := by show _ < _; have := HPR.out j hlt; omega
      have HSL : Hid (((sumTo (fun j => ka j * kb j) j + ka j * kb j).natAbs : Int) < 115792089237316195423570985008687907853269984665640564039457584007913129639936) := by show _ < _; have := HSUM.out (j + 1) (by omega); rw [sumTo] at this; omega
      clear hcl1 hsa hsb hsp hss
      go_wp2_with fail
      (go_at_call 56; refine (HCL.out j hlt _ (by first | assumption | go_grown)).mono ?_; rintro e_ w2 ⟨rfl, hb⟩)
      have hsw2 := hb.size
      (try simp only [World.size_alloc, World.size_setCell] at hsw2)
      have zzw2 : w.heap.size < w2.heap.size := by omega
      have hPw2 : Below w1.heap.size w1 w2 := below_step (w := w1) (by first | exact Below.refl _ _ | go_grown) hb
      have ztw2 : w.heap.size + 1 + 1 < w2.heap.size := by omega
      have t0w2 : w2.cell? ⟨w.heap.size + 1 + 1, 0, none⟩ = some (.bool tb) := (hPw2.cell (p := ⟨_, _, none⟩) ztw1).trans t0w1
      have t1w2 : w2.cell? ⟨w.heap.size + 1 + 1, 1, none⟩ = some (.int .u64 (X 0)) := (hPw2.cell (p := ⟨_, _, none⟩) ztw1).trans t1w1
      have t2w2 : w2.cell? ⟨w.heap.size + 1 + 1, 2, none⟩ = some (.int .u64 (X 1)) := (hPw2.cell (p := ⟨_, _, none⟩) ztw1).trans t2w1
      have t3w2 : w2.cell? ⟨w.heap.size + 1 + 1, 3, none⟩ = some (.int .u64 (X 2)) := (hPw2.cell (p := ⟨_, _, none⟩) ztw1).trans t3w1
      have t4w2 : w2.cell? ⟨w.heap.size + 1 + 1, 4, none⟩ = some (.int .u64 (X 3)) := (hPw2.cell (p := ⟨_, _, none⟩) ztw1).trans t4w1
      have ft0w2 : w2.frozen? ⟨w.heap.size + 1 + 1, 0, none⟩ = false := (hPw2.frozen (p := ⟨_, _, none⟩) ztw1).trans ft0w1
      have ft1w2 : w2.frozen? ⟨w.heap.size + 1 + 1, 1, none⟩ = false := (hPw2.frozen (p := ⟨_, _, none⟩) ztw1).trans ft1w1
      have ft2w2 : w2.frozen? ⟨w.heap.size + 1 + 1, 2, none⟩ = false := (hPw2.frozen (p := ⟨_, _, none⟩) ztw1).trans ft2w1
      have ft3w2 : w2.frozen? ⟨w.heap.size + 1 + 1, 3, none⟩ = false := (hPw2.frozen (p := ⟨_, _, none⟩) ztw1).trans ft3w1
      have ft4w2 : w2.frozen? ⟨w.heap.size + 1 + 1, 4, none⟩ = false := (hPw2.frozen (p := ⟨_, _, none⟩) ztw1).trans ft4w1
      have zfw2 : w1.heap.size < w2.heap.size := by omega
      have f0w2 : w2.cell? ⟨w1.heap.size, 0, none⟩ = some (.int .i64 (F j).1) := (hb.cell (p := ⟨_, _, none⟩) (by simp <;> omega)).trans (by simp [go_sem])
      have f1w2 : w2.cell? ⟨w1.heap.size, 1, none⟩ = some (.int .i64 (F j).2.1) := (hb.cell (p := ⟨_, _, none⟩) (by simp <;> omega)).trans (by simp [go_sem])
      have f2w2 : w2.cell? ⟨w1.heap.size, 2, none⟩ = some (.int .i64 (F j).2.2) := (hb.cell (p := ⟨_, _, none⟩) (by simp <;> omega)).trans (by simp [go_sem])
      replace HR := Lib.hid (HR.out.below hPw2)
      replace HTA := Lib.hid (HTA.out.below hPw2)
      have hBw2 : Below w.heap.size w w2 := below_step (w := w) (by first | assumption | go_grown) hb
      clear hb hsw2 hPw2
      clear ztw1 t0w1 t1w1 t2w1 t3w1 t4w1 ft0w1 ft1w1 ft2w1 ft3w1 ft4w1
      go_wp2_with fail
      (go_at_call 26; refine (Of_any (ka j) _ HKA.out).mono ?_; rintro e_ w3 ⟨XA, rfl, hX, hb⟩)
      have hsw3 := hb.size
      (try simp only [World.size_alloc, World.size_setCell] at hsw3)
      have zzw3 : w.heap.size < w3.heap.size := by omega
      have hPw3 : Below w2.heap.size w2 w3 := below_step (w := w2) (by first | exact Below.refl _ _ | go_grown) hb
      have ztw3 : w.heap.size + 1 + 1 < w3.heap.size := by omega
      have t0w3 : w3.cell? ⟨w.heap.size + 1 + 1, 0, none⟩ = some (.bool tb) := (hPw3.cell (p := ⟨_, _, none⟩) ztw2).trans t0w2
      have t1w3 : w3.cell? ⟨w.heap.size + 1 + 1, 1, none⟩ = some (.int .u64 (X 0)) := (hPw3.cell (p := ⟨_, _, none⟩) ztw2).trans t1w2
      have t2w3 : w3.cell? ⟨w.heap.size + 1 + 1, 2, none⟩ = some (.int .u64 (X 1)) := (hPw3.cell (p := ⟨_, _, none⟩) ztw2).trans t2w2
      have t3w3 : w3.cell? ⟨w.heap.size + 1 + 1, 3, none⟩ = some (.int .u64 (X 2)) := (hPw3.cell (p := ⟨_, _, none⟩) ztw2).trans t3w2
      have t4w3 : w3.cell? ⟨w.heap.size + 1 + 1, 4, none⟩ = some (.int .u64 (X 3)) := (hPw3.cell (p := ⟨_, _, none⟩) ztw2).trans t4w2
      have ft0w3 : w3.frozen? ⟨w.heap.size + 1 + 1, 0, none⟩ = false := (hPw3.frozen (p := ⟨_, _, none⟩) ztw2).trans ft0w2
      have ft1w3 : w3.frozen? ⟨w.heap.size + 1 + 1, 1, none⟩ = false := (hPw3.frozen (p := ⟨_, _, none⟩) ztw2).trans ft1w2
      have ft2w3 : w3.frozen? ⟨w.heap.size + 1 + 1, 2, none⟩ = false := (hPw3.frozen (p := ⟨_, _, none⟩) ztw2).trans ft2w2
      have ft3w3 : w3.frozen? ⟨w.heap.size + 1 + 1, 3, none⟩ = false := (hPw3.frozen (p := ⟨_, _, none⟩) ztw2).trans ft3w2
      have ft4w3 : w3.frozen? ⟨w.heap.size + 1 + 1, 4, none⟩ = false := (hPw3.frozen (p := ⟨_, _, none⟩) ztw2).trans ft4w2
      have zfw3 : w1.heap.size < w3.heap.size := by omega
      have f0w3 : w3.cell? ⟨w1.heap.size, 0, none⟩ = some (.int .i64 (F j).1) := (hPw3.cell (p := ⟨_, _, none⟩) zfw2).trans f0w2
      have f1w3 : w3.cell? ⟨w1.heap.size, 1, none⟩ = some (.int .i64 (F j).2.1) := (hPw3.cell (p := ⟨_, _, none⟩) zfw2).trans f1w2
      have f2w3 : w3.cell? ⟨w1.heap.size, 2, none⟩ = some (.int .i64 (F j).2.2) := (hPw3.cell (p := ⟨_, _, none⟩) zfw2).trans f2w2
      replace HR := Lib.hid (HR.out.below hPw3)
      replace HTA := Lib.hid (HTA.out.below hPw3)
      have hBw3 : Below w.heap.size w w3 := below_step (w := w) (by first | assumption | go_grown) hb
      have HXA := Lib.hid hX
      clear hX
      rw [HSA.out]
      clear hb hsw3 hPw3
      clear ztw2 zfw2 t0w2 t1w2 t2w2 t3w2 t4w2 f0w2 f1w2 f2w2 ft0w2 ft1w2 ft2w2 ft3w2 ft4w2
      go_wp2_with fail
      (go_at_call 26; refine (Of_any (kb j) _ HKB.out).mono ?_; rintro e_ w4 ⟨XB, rfl, hX, hb⟩)
      have hsw4 := hb.size
      (try simp only [World.size_alloc, World.size_setCell] at hsw4)
      have zzw4 : w.heap.size < w4.heap.size := by omega
      have hPw4 : Below w3.heap.size w3 w4 := below_step (w := w3) (by first | exact Below.refl _ _ | go_grown) hb
      have ztw4 : w.heap.size + 1 + 1 < w4.heap.size := by omega
      have t0w4 : w4.cell? ⟨w.heap.size + 1 + 1, 0, none⟩ = some (.bool tb) := (hPw4.cell (p := ⟨_, _, none⟩) ztw3).trans t0w3
      have t1w4 : w4.cell? ⟨w.heap.size + 1 + 1, 1, none⟩ = some (.int .u64 (X 0)) := (hPw4.cell (p := ⟨_, _, none⟩) ztw3).trans t1w3
      have t2w4 : w4.cell? ⟨w.heap.size + 1 + 1, 2, none⟩ = some (.int .u64 (X 1)) := (hPw4.cell (p := ⟨_, _, none⟩) ztw3).trans t2w3
      have t3w4 : w4.cell? ⟨w.heap.size + 1 + 1, 3, none⟩ = some (.int .u64 (X 2)) := (hPw4.cell (p := ⟨_, _, none⟩) ztw3).trans t3w3
      have t4w4 : w4.cell? ⟨w.heap.size + 1 + 1, 4, none⟩ = some (.int .u64 (X 3)) := (hPw4.cell (p := ⟨_, _, none⟩) ztw3).trans t4w3
      have ft0w4 : w4.frozen? ⟨w.heap.size + 1 + 1, 0, none⟩ = false := (hPw4.frozen (p := ⟨_, _, none⟩) ztw3).trans ft0w3
      have ft1w4 : w4.frozen? ⟨w.heap.size + 1 + 1, 1, none⟩ = false := (hPw4.frozen (p := ⟨_, _, none⟩) ztw3).trans ft1w3
      have ft2w4 : w4.frozen? ⟨w.heap.size + 1 + 1, 2, none⟩ = false := (hPw4.frozen (p := ⟨_, _, none⟩) ztw3).trans ft2w3
      have ft3w4 : w4.frozen? ⟨w.heap.size + 1 + 1, 3, none⟩ = false := (hPw4.frozen (p := ⟨_, _, none⟩) ztw3).trans ft3w3
      have ft4w4 : w4.frozen? ⟨w.heap.size + 1 + 1, 4, none⟩ = false := (hPw4.frozen (p := ⟨_, _, none⟩) ztw3).trans ft4w3
      have zfw4 : w1.heap.size < w4.heap.size := by omega
      have f0w4 : w4.cell? ⟨w1.heap.size, 0, none⟩ = some (.int .i64 (F j).1) := (hPw4.cell (p := ⟨_, _, none⟩) zfw3).trans f0w3
      have f1w4 : w4.cell? ⟨w1.heap.size, 1, none⟩ = some (.int .i64 (F j).2.1) := (hPw4.cell (p := ⟨_, _, none⟩) zfw3).trans f1w3
      have f2w4 : w4.cell? ⟨w1.heap.size, 2, none⟩ = some (.int .i64 (F j).2.2) := (hPw4.cell (p := ⟨_, _, none⟩) zfw3).trans f2w3
      replace HR := Lib.hid (HR.out.below hPw4)
      replace HTA := Lib.hid (HTA.out.below hPw4)
      have hBw4 : Below w.heap.size w w4 := below_step (w := w) (by first | assumption | go_grown) hb
      have HXB := Lib.hid hX
      clear hX
      rw [HSB.out]
      clear hb hsw4 hPw4
      clear ztw3 zfw3 t0w3 t1w3 t2w3 t3w3 t4w3 f0w3 f1w3 f2w3 ft0w3 ft1w3 ft2w3 ft3w3 ft4w3
      go_wp2_with fail
      (go_at_call 50; refine (Mul_any (ka j) (kb j) sa sb XA XB _ (by have := HXA.out; rwa [HSA.out] at this) (by have := HXB.out; rwa [HSB.out] at this) HPL.out).mono ?_; rintro e_ w5 ⟨XP, rfl, hX, hb⟩)
      have hsw5 := hb.size
      (try simp only [World.size_alloc, World.size_setCell] at hsw5)
      have zzw5 : w.heap.size < w5.heap.size := by omega
      have hPw5 : Below w4.heap.size w4 w5 := below_step (w := w4) (by first | exact Below.refl _ _ | go_grown) hb
      have ztw5 : w.heap.size + 1 + 1 < w5.heap.size := by omega
      have t0w5 : w5.cell? ⟨w.heap.size + 1 + 1, 0, none⟩ = some (.bool tb) := (hPw5.cell (p := ⟨_, _, none⟩) ztw4).trans t0w4
      have t1w5 : w5.cell? ⟨w.heap.size + 1 + 1, 1, none⟩ = some (.int .u64 (X 0)) := (hPw5.cell (p := ⟨_, _, none⟩) ztw4).trans t1w4
      have t2w5 : w5.cell? ⟨w.heap.size + 1 + 1, 2, none⟩ = some (.int .u64 (X 1)) := (hPw5.cell (p := ⟨_, _, none⟩) ztw4).trans t2w4
      have t3w5 : w5.cell? ⟨w.heap.size + 1 + 1, 3, none⟩ = some (.int .u64 (X 2)) := (hPw5.cell (p := ⟨_, _, none⟩) ztw4).trans t3w4
      have t4w5 : w5.cell? ⟨w.heap.size + 1 + 1, 4, none⟩ = some (.int .u64 (X 3)) := (hPw5.cell (p := ⟨_, _, none⟩) ztw4).trans t4w4
      have ft0w5 : w5.frozen? ⟨w.heap.size + 1 + 1, 0, none⟩ = false := (hPw5.frozen (p := ⟨_, _, none⟩) ztw4).trans ft0w4
      have ft1w5 : w5.frozen? ⟨w.heap.size + 1 + 1, 1, none⟩ = false := (hPw5.frozen (p := ⟨_, _, none⟩) ztw4).trans ft1w4
      have ft2w5 : w5.frozen? ⟨w.heap.size + 1 + 1, 2, none⟩ = false := (hPw5.frozen (p := ⟨_, _, none⟩) ztw4).trans ft2w4
      have ft3w5 : w5.frozen? ⟨w.heap.size + 1 + 1, 3, none⟩ = false := (hPw5.frozen (p := ⟨_, _, none⟩) ztw4).trans ft3w4
      have ft4w5 : w5.frozen? ⟨w.heap.size + 1 + 1, 4, none⟩ = false := (hPw5.frozen (p := ⟨_, _, none⟩) ztw4).trans ft4w4
      have zfw5 : w1.heap.size < w5.heap.size := by omega
      have f0w5 : w5.cell? ⟨w1.heap.size, 0, none⟩ = some (.int .i64 (F j).1) := (hPw5.cell (p := ⟨_, _, none⟩) zfw4).trans f0w4
      have f1w5 : w5.cell? ⟨w1.heap.size, 1, none⟩ = some (.int .i64 (F j).2.1) := (hPw5.cell (p := ⟨_, _, none⟩) zfw4).trans f1w4
      have f2w5 : w5.cell? ⟨w1.heap.size, 2, none⟩ = some (.int .i64 (F j).2.2) := (hPw5.cell (p := ⟨_, _, none⟩) zfw4).trans f2w4
      replace HR := Lib.hid (HR.out.below hPw5)
      replace HTA := Lib.hid (HTA.out.below hPw5)
      have hBw5 : Below w.heap.size w w5 := below_step (w := w) (by first | assumption | go_grown) hb
      have HXP := Lib.hid hX
      clear hX
      rw [HSP.out]
      clear hb hsw5 hPw5
      clear ztw4 zfw4 t0w4 t1w4 t2w4 t3w4 t4w4 f0w4 f1w4 f2w4 ft0w4 ft1w4 ft2w4 ft3w4 ft4w4
      go_wp2_with fail
      (go_at_call 51; refine (Add_any (sumTo (fun j => ka j * kb j) j) (ka j * kb j) tb sp X XP _ HT.out (by have := HXP.out; rwa [HSP.out] at this) HSL.out).mono ?_; rintro e_ w6 ⟨XS, rfl, hX, hb⟩)
      have hsw6 := hb.size
      (try simp only [World.size_alloc, World.size_setCell] at hsw6)
      have zzw6 : w.heap.size < w6.heap.size := by omega
      have hPw6 : Below w5.heap.size w5 w6 := below_step (w := w5) (by first | exact Below.refl _ _ | go_grown) hb
      have ztw6 : w.heap.size + 1 + 1 < w6.heap.size := by omega
      have t0w6 : w6.cell? ⟨w.heap.size + 1 + 1, 0, none⟩ = some (.bool tb) := (hPw6.cell (p := ⟨_, _, none⟩) ztw5).trans t0w5
      have t1w6 : w6.cell? ⟨w.heap.size + 1 + 1, 1, none⟩ = some (.int .u64 (X 0)) := (hPw6.cell (p := ⟨_, _, none⟩) ztw5).trans t1w5
      have t2w6 : w6.cell? ⟨w.heap.size + 1 + 1, 2, none⟩ = some (.int .u64 (X 1)) := (hPw6.cell (p := ⟨_, _, none⟩) ztw5).trans t2w5
      have t3w6 : w6.cell? ⟨w.heap.size + 1 + 1, 3, none⟩ = some (.int .u64 (X 2)) := (hPw6.cell (p := ⟨_, _, none⟩) ztw5).trans t3w5
      have t4w6 : w6.cell? ⟨w.heap.size + 1 + 1, 4, none⟩ = some (.int .u64 (X 3)) := (hPw6.cell (p := ⟨_, _, none⟩) ztw5).trans t4w5
      have ft0w6 : w6.frozen? ⟨w.heap.size + 1 + 1, 0, none⟩ = false := (hPw6.frozen (p := ⟨_, _, none⟩) ztw5).trans ft0w5
      have ft1w6 : w6.frozen? ⟨w.heap.size + 1 + 1, 1, none⟩ = false := (hPw6.frozen (p := ⟨_, _, none⟩) ztw5).trans ft1w5
      have ft2w6 : w6.frozen? ⟨w.heap.size + 1 + 1, 2, none⟩ = false := (hPw6.frozen (p := ⟨_, _, none⟩) ztw5).trans ft2w5
      have ft3w6 : w6.frozen? ⟨w.heap.size + 1 + 1, 3, none⟩ = false := (hPw6.frozen (p := ⟨_, _, none⟩) ztw5).trans ft3w5
      have ft4w6 : w6.frozen? ⟨w.heap.size + 1 + 1, 4, none⟩ = false := (hPw6.frozen (p := ⟨_, _, none⟩) ztw5).trans ft4w5
      have zfw6 : w1.heap.size < w6.heap.size := by omega
      have f0w6 : w6.cell? ⟨w1.heap.size, 0, none⟩ = some (.int .i64 (F j).1) := (hPw6.cell (p := ⟨_, _, none⟩) zfw5).trans f0w5
      have f1w6 : w6.cell? ⟨w1.heap.size, 1, none⟩ = some (.int .i64 (F j).2.1) := (hPw6.cell (p := ⟨_, _, none⟩) zfw5).trans f1w5
      have f2w6 : w6.cell? ⟨w1.heap.size, 2, none⟩ = some (.int .i64 (F j).2.2) := (hPw6.cell (p := ⟨_, _, none⟩) zfw5).trans f2w5
      have zpw6 : w5.heap.size < w6.heap.size := by omega
      have p0w6 : w6.cell? ⟨w5.heap.size, 0, none⟩ = some (.bool sp) := (hb.cell (p := ⟨_, _, none⟩) (by simp <;> omega)).trans (by simp [go_sem])
      have p1w6 : w6.cell? ⟨w5.heap.size, 1, none⟩ = some (.int .u64 (XP 0)) := (hb.cell (p := ⟨_, _, none⟩) (by simp <;> omega)).trans (by simp [go_sem])
      have p2w6 : w6.cell? ⟨w5.heap.size, 2, none⟩ = some (.int .u64 (XP 1)) := (hb.cell (p := ⟨_, _, none⟩) (by simp <;> omega)).trans (by simp [go_sem])
      have p3w6 : w6.cell? ⟨w5.heap.size, 3, none⟩ = some (.int .u64 (XP 2)) := (hb.cell (p := ⟨_, _, none⟩) (by simp <;> omega)).trans (by simp [go_sem])
      have p4w6 : w6.cell? ⟨w5.heap.size, 4, none⟩ = some (.int .u64 (XP 3)) := (hb.cell (p := ⟨_, _, none⟩) (by simp <;> omega)).trans (by simp [go_sem])
      replace HR := Lib.hid (HR.out.below hPw6)
      replace HTA := Lib.hid (HTA.out.below hPw6)
      have hBw6 : Below w.heap.size w w6 := below_step (w := w) (by first | assumption | go_grown) hb
      have HXS := Lib.hid hX
      clear hX
      rw [HSS.out]
      clear hb hsw6 hPw6
      clear ztw5 zfw5 t0w5 t1w5 t2w5 t3w5 t4w5 f0w5 f1w5 f2w5 ft0w5 ft1w5 ft2w5 ft3w5 ft4w5
      go_wp2
      go_roundw
      case rel =>
        refine ⟨j + 1, ss, XS, by omega, by go_num, ?_, HTA.out.store, ((((HR.out.other (by omega)).other (by omega)).other (by omega)).other (by omega)).other (by omega), by go_grown⟩
        have h := HXS.out
        rw [HSS.out] at h
        exact h
      case measure => simp [intOf]; omega
    · obtain rfl : j = nf := by omega
      obtain rfl : tb = SG := HT.out.1.trans HSG.out
      obtain ⟨⟨r0, r1, r2, r3, r4⟩, hrf, zr⟩ := HR.out
      have fr0 := hrf 0
      have fr1 := hrf 1
      have fr2 := hrf 2
      have fr3 := hrf 3
      have fr4 := hrf 4
      clear hrf
      go_wp2
      all_goals (refine bodyPost_ret (v := .agg #[.bool tb, .int .u64 (X 0), .int .u64 (X 1), .int .u64 (X 2), .int .u64 (X 3)]) (by simp (maxDischargeDepth := 9) [results, Try.results40, go_sem, *]) rfl ?_)
      exact ⟨X, rfl, HT.out, by go_grown⟩
end Go.Proofs.Ytpjdmjmgkdgfnaa
