/-
  volume, by walks; the closure of Moment24. Conditions: none. By an AI agent.
-/
import Derived.Test.YtpjdmjmgkdgfnaaMeshC
namespace Go.Proofs.Ytpjdmjmgkdgfnaa
open Go Go.RowKit
set_option linter.unusedVariables false
set_option linter.unusedSimpArgs false
set_option maxRecDepth 100000

theorem idxB_nat {np : Nat} {f : V} (h : idxB np f = true) : ∃ ia ib ic : Nat, f = ((ia : Int), (ib : Int), (ic : Int)) ∧ ia < np ∧ ib < np ∧ ic < np := by
  obtain ⟨a, b, c⟩ := f
  have h1 := of_decide_eq_true h
  simp only at h1
  obtain ⟨⟨ha, ha'⟩, ⟨hb, hb'⟩, hc, hc'⟩ := h1
  exact ⟨a.toNat, b.toNat, c.toNat, by rw [Int.toNat_of_nonneg ha, Int.toNat_of_nonneg hb, Int.toNat_of_nonneg hc], by omega, by omega, by omega⟩
theorem fdet_nat (P : Nat → V) (ia ib ic : Nat) : fdet P ((ia : Int), (ib : Int), (ic : Int)) = detV (P ia) (P ib) (P ic) := rfl
theorem fdet_bd {np : Nat} {P : Nat → V} {f : V} (hin : ∀ i, i < np → InB 1048576 (P i)) (h : idxB np f = true) : -6917529027641081856 ≤ fdet P f ∧ fdet P f ≤ 6917529027641081856 := by
  obtain ⟨ia, ib, ic, rfl, ha, hb, hc⟩ := idxB_nat h
  rw [fdet_nat]
  have h1 := det_bd (by decide) (hin ia ha) (hin ib hb) (hin ic hc)
  omega
theorem volume1_face (b np nf : Nat) (P F : Nat → V) (x y : Value) (f : V) (w : World) (h : MAt w (.agg #[x, y]) np P nf F) (hb : b < w.heap.size) (h0 : w.cell? ⟨b, 0, none⟩ = some x) (h1 : w.cell? ⟨b, 1, none⟩ = some y) (hin : ∀ i, i < np → InB 1048576 (P i)) (hix : idxB np f = true) :
    Calls Try.prog 56 #[.agg #[.int .i64 f.1, .int .i64 f.2.1, .int .i64 f.2.2], .pointer (some ⟨b, 0, none⟩)] w fun e w' => e = .returned (.tuple #[.int .i64 (fdet P f), .int .i64 1]) ∧ Below w.heap.size w w' := by
  obtain ⟨ia, ib, ic, rfl, ha, hb', hc⟩ := idxB_nat hix
  exact volume1_any b np nf P F x y ia ib ic w h hb h0 h1 hin ha hb' hc

theorem i3_0 {x0 x1 x2 : Value} {w : World} : (Instr.index 56 (.agg #[x0, x1, x2]) (.int .i64 0)).run Try.prog w = .ok x0 w := by kernel_rfl
theorem i3_1 {x0 x1 x2 : Value} {w : World} : (Instr.index 56 (.agg #[x0, x1, x2]) (.int .i64 1)).run Try.prog w = .ok x1 w := by kernel_rfl
theorem i3_2 {x0 x1 x2 : Value} {w : World} : (Instr.index 56 (.agg #[x0, x1, x2]) (.int .i64 2)).run Try.prog w = .ok x2 w := by kernel_rfl
theorem idx3v (v : V) (j : Nat) (h : j < 3) : ∀ W, (Instr.index 56 (.agg #[.int .i64 v.1, .int .i64 v.2.1, .int .i64 v.2.2]) (.int .i64 (j : Int))).run Try.prog W = .ok (.int .i64 (cmp3 j v)) W := fun W => by
  match j, h with
  | 0, _ => exact i3_0
  | 1, _ => exact i3_1
  | 2, _ => exact i3_2
theorem idxB_cmp {np : Nat} {f : V} (h : idxB np f = true) (j : Nat) : ∃ r : Nat, cmp3 j f = (r : Int) ∧ r < np := by
  obtain ⟨ia, ib, ic, rfl, ha, hb, hc⟩ := idxB_nat h
  match j with
  | 0 => exact ⟨ia, rfl, ha⟩
  | 1 => exact ⟨ib, rfl, hb⟩
  | _ + 2 => exact ⟨ic, rfl, hc⟩
theorem cmp3_in {B : Int} {v : V} (h : InB B v) (c : Nat) : -B ≤ cmp3 c v ∧ cmp3 c v ≤ B := by
  unfold InB at h
  match c with
  | 0 => exact ⟨h.1, h.2.1⟩
  | 1 => exact ⟨h.2.2.1, h.2.2.2.1⟩
  | _ + 2 => exact h.2.2.2.2
/-- the sum of a component over the first corners -/
def csum (c : Nat) (P : Nat → V) (f : V) (j : Nat) : Int := sumTo (fun q => cmp3 c (pt P (cmp3 q f))) j
theorem csum_3 (c : Nat) (P : Nat → V) (f : V) : csum c P f 3 = fsum c P f := by
  simp only [csum, sumTo, fsum, cmp3]
  omega

set_option maxHeartbeats 2000000 in
theorem volume_any (v : Value) (np nf : Nat) (P F : Nat → V) (w : World) (h : MAt w v np P nf F) (hn : nf ≤ 2048) (hin : ∀ i, i < np → InB 1048576 (P i)) (hix : ∀ j, j < nf → idxB np (F j) = true) :
    Calls Try.prog 33 #[v] w fun e w' => ∃ X : Nat → Int, e = .returned (.agg #[.bool (decide (volF P F nf < 0)), .int .u64 (X 0), .int .u64 (X 1), .int .u64 (X 2), .int .u64 (X 3)]) ∧ isW (volF P F nf) (decide (volF P F nf < 0)) X ∧ Below w.heap.size w w' := by
  have HM := Lib.hid h
  have HIN := Lib.hid hin
  have HIX := Lib.hid hix
  obtain ⟨op, cp, of', cf, he⟩ := h.slices
  cases he
  have hV : sumTo (fun j => fdet P (F j) * 1) nf = volF P F nf := sumTo_congr fun j _ => by simp
  have HV := Lib.hid hV
  obtain ⟨SG, hSG⟩ : ∃ b, decide (volF P F nf < 0) = b := ⟨_, rfl⟩
  have HSG := Lib.hid hSG
  rw [hSG]
  clear h hin hix hSG
  go_enter Try.func33, Try.ntmps33
  go_wp2_with fail
  (go_at_call 40; refine (msumVol_any _ np P nf F _ (fun j => fdet P (F j)) (fun _ => 1) _ (HM.out.below (by first | assumption | go_grown)) hn (fun j hj => by have := fdet_bd HIN.out (HIX.out j hj); omega) (fun j hj => by decide) (fun j hj W hW => volume1_face w.heap.size np nf P F _ _ (F j) W ((HM.out.below (by first | assumption | go_grown)).below hW) (Nat.lt_of_lt_of_le (by simp <;> omega) hW.size) ((hW.cell (p := ⟨_, _, none⟩) (by simp <;> omega)).trans (by simp [go_sem])) ((hW.cell (p := ⟨_, _, none⟩) (by simp <;> omega)).trans (by simp [go_sem])) HIN.out (HIX.out j hj))).mono ?_; rintro e_ w1 ⟨X, rfl, hX, hb⟩)
  have hsw1 := hb.size
  (try simp only [World.size_alloc, World.size_setCell] at hsw1)
  have zzw1 : w.heap.size < w1.heap.size := by omega
  have hPw1 : Below w.heap.size w w1 := below_step (w := w) (by first | exact Below.refl _ _ | go_grown) hb
  have zrw1 : w.heap.size + 1 < w1.heap.size := by omega
  have r0w1 : w1.cell? ⟨w.heap.size + 1, 0, none⟩ = some (.bool false) := (hb.cell (p := ⟨_, _, none⟩) (by simp <;> omega)).trans (by simp [go_sem])
  have r1w1 : w1.cell? ⟨w.heap.size + 1, 1, none⟩ = some (.int .u64 0) := (hb.cell (p := ⟨_, _, none⟩) (by simp <;> omega)).trans (by simp [go_sem])
  have r2w1 : w1.cell? ⟨w.heap.size + 1, 2, none⟩ = some (.int .u64 0) := (hb.cell (p := ⟨_, _, none⟩) (by simp <;> omega)).trans (by simp [go_sem])
  have r3w1 : w1.cell? ⟨w.heap.size + 1, 3, none⟩ = some (.int .u64 0) := (hb.cell (p := ⟨_, _, none⟩) (by simp <;> omega)).trans (by simp [go_sem])
  have r4w1 : w1.cell? ⟨w.heap.size + 1, 4, none⟩ = some (.int .u64 0) := (hb.cell (p := ⟨_, _, none⟩) (by simp <;> omega)).trans (by simp [go_sem])
  have fr0w1 : w1.frozen? ⟨w.heap.size + 1, 0, none⟩ = false := (hb.frozen (p := ⟨_, _, none⟩) (by simp <;> omega)).trans (by simp [go_sem])
  have fr1w1 : w1.frozen? ⟨w.heap.size + 1, 1, none⟩ = false := (hb.frozen (p := ⟨_, _, none⟩) (by simp <;> omega)).trans (by simp [go_sem])
  have fr2w1 : w1.frozen? ⟨w.heap.size + 1, 2, none⟩ = false := (hb.frozen (p := ⟨_, _, none⟩) (by simp <;> omega)).trans (by simp [go_sem])
  have fr3w1 : w1.frozen? ⟨w.heap.size + 1, 3, none⟩ = false := (hb.frozen (p := ⟨_, _, none⟩) (by simp <;> omega)).trans (by simp [go_sem])
  have fr4w1 : w1.frozen? ⟨w.heap.size + 1, 4, none⟩ = false := (hb.frozen (p := ⟨_, _, none⟩) (by simp <;> omega)).trans (by simp [go_sem])
  have hBw1 : Below w.heap.size w w1 := below_step (w := w) (by first | assumption | go_grown) hb
  replace hX := hV ▸ hX
  have HX := Lib.hid hX
  clear hX
  rw [HV.out]
  clear hb hsw1 hPw1
  rw [HSG.out]
  go_wp2
  all_goals (refine bodyPost_ret (v := .agg #[.bool SG, .int .u64 (X 0), .int .u64 (X 1), .int .u64 (X 2), .int .u64 (X 3)]) (by simp (maxDischargeDepth := 9) [results, Try.results33, go_sem, *]) rfl ?_)
  exact ⟨X, rfl, HSG.out ▸ HX.out, by go_grown⟩

set_option maxHeartbeats 2000000 in
theorem mom1_any (b k np nf : Nat) (P F : Nat → V) (x y : Value) (f : V) (c : Nat) (w : World) (hc3 : c < 3) (h : MAt w (.agg #[x, y]) np P nf F) (hb : b < w.heap.size) (hk : k < w.heap.size) (h0 : w.cell? ⟨b, 0, none⟩ = some x) (h1 : w.cell? ⟨b, 1, none⟩ = some y) (hk0 : w.cell? ⟨k, 0, none⟩ = some (.int .i64 c)) (hin : ∀ i, i < np → InB 1048576 (P i)) (hix : idxB np f = true) :
    Calls Try.prog 41 #[.agg #[.int .i64 f.1, .int .i64 f.2.1, .int .i64 f.2.2], .pointer (some ⟨b, 0, none⟩), .pointer (some ⟨k, 0, none⟩)] w fun e w' => e = .returned (.tuple #[.int .i64 (fdet P f), .int .i64 (fsum c P f)]) ∧ Below w.heap.size w w' := by
  have HM := Lib.hid h
  have HIN := Lib.hid hin
  have HIX := Lib.hid hix
  obtain ⟨vp, vf, e, g1, g2⟩ := h
  obtain ⟨op, cp, rfl, hn, hc, hel⟩ := g1.form
  obtain ⟨of', cf, rfl, -, -, -⟩ := g2.form
  cases e
  have HEL := Lib.hid hel
  obtain ⟨ia, ib, ic, hfe, hia, hib, hic⟩ := idxB_nat hix
  have HFE := Lib.hid hfe
  obtain ⟨fx, hfx⟩ : ∃ x, f.1 = x := ⟨_, rfl⟩
  obtain ⟨fy, hfy⟩ : ∃ x, f.2.1 = x := ⟨_, rfl⟩
  obtain ⟨fz, hfz⟩ : ∃ x, f.2.2 = x := ⟨_, rfl⟩
  have HX := Lib.hid hfx
  have HY := Lib.hid hfy
  have HZ := Lib.hid hfz
  rw [hfx, hfy, hfz]
  have hbn : b ≠ w.heap.size := by omega
  have hkn : k ≠ w.heap.size := by omega
  clear g1 g2 hel hin hix hfe hfx hfy hfz
  go_enter Try.func41, Try.ntmps41
  go_wp2
  go_loopw [6, 11] (fun n i wr => ∃ j : Nat, j ≤ 3 ∧ i = .int .i64 j ∧ n = .int .i64 (csum c P f j) ∧ Hid (-(j * 1048576) ≤ csum c P f j ∧ csum c P f j ≤ j * 1048576) ∧ wr.cell? ⟨w.heap.size, 0, none⟩ = some (.int .i64 fx) ∧ wr.cell? ⟨w.heap.size, 1, none⟩ = some (.int .i64 fy) ∧ wr.cell? ⟨w.heap.size, 2, none⟩ = some (.int .i64 fz) ∧ w.heap.size < wr.heap.size ∧ Below w.heap.size w wr) (fun _ i _ => 3 - (intOf i).toNat)
  case atStart =>
    exact ⟨0, by omega, rfl, rfl, by show _ ∧ _; simp [csum, sumTo], by simp [go_sem], by simp [go_sem], by simp [go_sem], by simp <;> omega, by go_grown⟩
  case round =>
    obtain ⟨w1, rfl⟩ : ∃ x : World, x = wr := ⟨_, rfl⟩
    obtain ⟨j, hj, rfl, rfl, HSB, a0, a1, a2, zw1, hBw1⟩ := hrel
    have p0w1 := (hBw1.cell (p := ⟨b, 0, none⟩) hb).trans h0
    have p1w1 := (hBw1.cell (p := ⟨b, 1, none⟩) hb).trans h1
    have pkw1 := (hBw1.cell (p := ⟨k, 0, none⟩) hk).trans hk0
    have hbw1 : b < w1.heap.size := by omega
    have hkw1 : k < w1.heap.size := by omega
    have hbn1 : b ≠ w1.heap.size := by omega
    have hkn1 : k ≠ w1.heap.size := by omega
    have hwn1 : w.heap.size ≠ w1.heap.size := by omega
    by_cases hlt : j < 3
    · have kj : decide ((j : Int) < 3) = true := decide_eq_true (by omega)
      have hi1 := idx3v f j hlt
      rw [HX.out, HY.out, HZ.out] at hi1
      obtain ⟨r, hr, hrn⟩ := idxB_cmp HIX.out j
      have HR := Lib.hid hr
      rw [hr] at hi1
      obtain ⟨b1, f1, rfl, hbl1, hcl1⟩ := HEL.out r hrn
      have c0 : w1.cell? ⟨b1, f1 + r * 3, none⟩ = some (.int .i64 (P r).1) := (hBw1.cell (p := ⟨_, _, none⟩) hbl1).trans (hcl1 r hrn).1
      have c1 : w1.cell? ⟨b1, f1 + r * 3 + 1, none⟩ = some (.int .i64 (P r).2.1) := (hBw1.cell (p := ⟨_, _, none⟩) hbl1).trans (hcl1 r hrn).2.1
      have c2 : w1.cell? ⟨b1, f1 + r * 3 + 2, none⟩ = some (.int .i64 (P r).2.2) := (hBw1.cell (p := ⟨_, _, none⟩) hbl1).trans (hcl1 r hrn).2.2
      have hbr : b1 < w1.heap.size := by omega
      have hbr' : b1 ≠ w1.heap.size := by omega
      have hi2 := idx3v (P r) c hc3
      have k0 : (0 : Int) ≤ (r : Int) := by omega
      have k1 : (r : Int) < (np : Int) := by omega
      obtain ⟨s, hs⟩ : ∃ s, csum c P f j = s := ⟨_, rfl⟩
      obtain ⟨d, hd⟩ : ∃ d, cmp3 c (P r) = d := ⟨_, rfl⟩
      have HS := Lib.hid hs
      have HD := Lib.hid hd
      have hsd : IntKind.i64.wrap (s + d) = s + d := by
        have h1 := HSB.out
        have h2 := cmp3_in (HIN.out r hrn) c
        rw [hs] at h1
        rw [hd] at h2
        exact IntWalk.i64_in _ (by omega)
      rw [hd] at hi2
      rw [hs]
      clear hcl1 hr hs hd
      go_wp2
      go_roundw
      case rel =>
        have he : csum c P f (j + 1) = s + d := by
          rw [show csum c P f (j + 1) = csum c P f j + cmp3 c (pt P (cmp3 j f)) from rfl, HR.out, HS.out, show pt P (r : Int) = P r from rfl, HD.out]
        refine ⟨j + 1, by omega, by go_num, by rw [he], ?_, by simp [go_sem, *], by simp [go_sem, *], by simp [go_sem, *], by simp <;> omega, by go_grown⟩
        show _ ∧ _
        have h1 := HSB.out
        have h2 := cmp3_in (HIN.out r hrn) c
        rw [HS.out] at h1
        rw [HD.out] at h2
        rw [he]
        omega
      case measure => simp [intOf]; omega
    · obtain rfl : j = 3 := by omega
      have HFX : Hid (fx = ia ∧ fy = ib ∧ fz = ic) := ⟨by rw [← HX.out, HFE.out], by rw [← HY.out, HFE.out], by rw [← HZ.out, HFE.out]⟩
      obtain ⟨rfl, rfl, rfl⟩ := HFX.out
      go_wp2_with fail
      (go_at_call 42; refine (determinant_any _ np P nf F ia ib ic _ (HM.out.below (by first | assumption | go_grown)) HIN.out hia hib hic).mono ?_; rintro e_ w2 ⟨rfl, hb⟩)
      have hsw2 := hb.size
      (try simp only [World.size_alloc, World.size_setCell] at hsw2)
      have zzw2 : w.heap.size < w2.heap.size := by omega
      have hPw2 : Below w1.heap.size w1 w2 := below_step (w := w1) (by first | exact Below.refl _ _ | go_grown) hb
      have hBw2 : Below w.heap.size w w2 := below_step (w := w) (by first | assumption | go_grown) hb
      clear hb hsw2 hPw2
      go_wp2
      go_returns
      rw [csum_3, HFE.out]
      exact ⟨rfl, by assumption⟩

set_option maxHeartbeats 4000000 in
theorem msumMom_any (v : Value) (np : Nat) (P : Nat → V) (nf : Nat) (F : Nat → V) (CAP1 CAP2 : Value) (ka kb : Nat → Int) (w : World) (h : MAt w v np P nf F) (hn : nf ≤ 2048)
    (hka : ∀ j, j < nf → -9223372036854775808 ≤ ka j ∧ ka j < 9223372036854775808) (hkb : ∀ j, j < nf → -9223372036854775808 ≤ kb j ∧ kb j < 9223372036854775808)
    (hcl : ∀ j, j < nf → ∀ W, Below w.heap.size w W → Calls Try.prog 41 #[.agg #[.int .i64 (F j).1, .int .i64 (F j).2.1, .int .i64 (F j).2.2], CAP1, CAP2] W fun e w' => e = .returned (.tuple #[.int .i64 (ka j), .int .i64 (kb j)]) ∧ Below W.heap.size W w') :
    Calls Try.prog 40 #[v, .func (.func 41) #[] #[CAP1, CAP2]] w fun e w' => ∃ X : Nat → Int, e = .returned (.agg #[.bool (decide (sumTo (fun j => ka j * kb j) nf < 0)), .int .u64 (X 0), .int .u64 (X 1), .int .u64 (X 2), .int .u64 (X 3)]) ∧ isW (sumTo (fun j => ka j * kb j) nf) (decide (sumTo (fun j => ka j * kb j) nf < 0)) X ∧ Below w.heap.size w w' := by
  obtain ⟨vp, vf, rfl, h1, h2⟩ := h
  obtain ⟨op, cp, rfl, -, -, -⟩ := h1.form
  obtain ⟨of', cf, rfl, hnf, hcf, hel⟩ := h2.form
  have HEL := Lib.hid hel
  have HCL := Lib.hid hcl
  have HA := Lib.hid hka
  have HB := Lib.hid hkb
  have hpr : ∀ j, j < nf → -85070591730234615865843651857942052864 ≤ ka j * kb j ∧ ka j * kb j ≤ 85070591730234615865843651857942052864 := fun j hj => by
    have h1 := hka j hj
    have h2 := hkb j hj
    exact mul_bd (C := 9223372036854775808) (D := 9223372036854775808) (by decide) (by decide) (by omega) (by omega) (by omega) (by omega)
  have hsum : ∀ j, j ≤ nf → (((sumTo (fun j => ka j * kb j) j).natAbs : Nat) : Int) ≤ 2048 * 85070591730234615865843651857942052864 := fun j hj => by
    have h1 := sumTo_bd (n := j) (fun i hi => hpr i (by omega))
    have h2 : (j : Int) * 85070591730234615865843651857942052864 ≤ 2048 * 85070591730234615865843651857942052864 := Int.mul_le_mul_of_nonneg_right (by omega) (by decide)
    omega
  have HPR := Lib.hid hpr
  have HSUM := Lib.hid hsum
  obtain ⟨SG, hSG⟩ : ∃ b, decide (sumTo (fun j => ka j * kb j) nf < 0) = b := ⟨_, rfl⟩
  have HSG := Lib.hid hSG
  rw [hSG]
  clear h1 h2 hel hcl hka hkb hpr hsum hSG
  go_enter Try.func40, Try.ntmps40
  go_wp2
  go_loopw [15] (fun i wr => ∃ (j : Nat) (tb : Bool) (X : Nat → Int), j ≤ nf ∧ i = .int .i64 j ∧ isW (sumTo (fun j => ka j * kb j) j) tb X ∧ WAt wr (w.heap.size + 1 + 1) tb X ∧ WAt wr (w.heap.size + 1) false zeroF ∧ Below w.heap.size w wr) (fun i _ => nf - (intOf i).toNat)
  case atStart =>
    refine ⟨0, false, zeroF, by omega, rfl, isW_zero, ?_, ?_, by go_grown⟩
    · exact ⟨⟨by simp [go_sem], by simp [go_sem, zeroF], by simp [go_sem, zeroF], by simp [go_sem, zeroF], by simp [go_sem, zeroF]⟩, fun q => by simp [go_sem], by simp <;> omega⟩
    · exact ⟨⟨by simp [go_sem], by simp [go_sem, zeroF], by simp [go_sem, zeroF], by simp [go_sem, zeroF], by simp [go_sem, zeroF]⟩, fun q => by simp [go_sem], by simp <;> omega⟩
  case round =>
    obtain ⟨w1, rfl⟩ : ∃ x : World, x = wr := ⟨_, rfl⟩
    obtain ⟨j, tb, X, hj, rfl, ht, hT, hR, hBw1⟩ := hrel
    have HT := Lib.hid ht
    have HTA := Lib.hid hT
    have HR := Lib.hid hR
    obtain ⟨⟨t0w1, t1w1, t2w1, t3w1, t4w1⟩, htf, ztw1⟩ := hT
    have ft0w1 := htf 0
    have ft1w1 := htf 1
    have ft2w1 := htf 2
    have ft3w1 := htf 3
    have ft4w1 := htf 4
    have zzw1 : w.heap.size < w1.heap.size := by omega
    clear ht hR htf
    by_cases hlt : j < nf
    · obtain ⟨b1, f1, rfl, hbl1, hcl1⟩ := HEL.out j hlt
      have c0 : w1.cell? ⟨b1, f1 + j * 3, none⟩ = some (.int .i64 (F j).1) := (hBw1.cell (p := ⟨_, _, none⟩) hbl1).trans (hcl1 j hlt).1
      have c1 : w1.cell? ⟨b1, f1 + j * 3 + 1, none⟩ = some (.int .i64 (F j).2.1) := (hBw1.cell (p := ⟨_, _, none⟩) hbl1).trans (hcl1 j hlt).2.1
      have c2 : w1.cell? ⟨b1, f1 + j * 3 + 2, none⟩ = some (.int .i64 (F j).2.2) := (hBw1.cell (p := ⟨_, _, none⟩) hbl1).trans (hcl1 j hlt).2.2
      have hbr : b1 < w1.heap.size := by omega
      have k0 : (0 : Int) ≤ (j : Int) := by omega
      have k1 : (j : Int) < (nf : Int) := by omega
      have HKA := Lib.hid (HA.out j hlt)
      have HKB := Lib.hid (HB.out j hlt)
      obtain ⟨sa, hsa⟩ : ∃ b, decide (ka j < 0) = b := ⟨_, rfl⟩
      obtain ⟨sb, hsb⟩ : ∃ b, decide (kb j < 0) = b := ⟨_, rfl⟩
      obtain ⟨sp, hsp⟩ : ∃ b, decide (ka j * kb j < 0) = b := ⟨_, rfl⟩
      obtain ⟨ss, hss⟩ : ∃ b, decide (sumTo (fun j => ka j * kb j) j + ka j * kb j < 0) = b := ⟨_, rfl⟩
      have HSA := Lib.hid hsa
      have HSB := Lib.hid hsb
      have HSP := Lib.hid hsp
      have HSS := Lib.hid hss
      have HPL : Hid (((ka j * kb j).natAbs : Int) < 115792089237316195423570985008687907853269984665640564039457584007913129639936) := by show _ < _; have := HPR.out j hlt; omega
      have HSL : Hid (((sumTo (fun j => ka j * kb j) j + ka j * kb j).natAbs : Int) < 115792089237316195423570985008687907853269984665640564039457584007913129639936) := by show _ < _; have := HSUM.out (j + 1) (by omega); rw [sumTo] at this; omega
      clear hcl1 hsa hsb hsp hss
      go_wp2_with fail
      (go_at_call 41; refine (HCL.out j hlt _ (by first | assumption | go_grown)).mono ?_; rintro e_ w2 ⟨rfl, hb⟩)
      have hsw2 := hb.size
      (try simp only [World.size_alloc, World.size_setCell] at hsw2)
      have zzw2 : w.heap.size < w2.heap.size := by omega
      have hPw2 : Below w1.heap.size w1 w2 := below_step (w := w1) (by first | exact Below.refl _ _ | go_grown) hb
      have ztw2 : w.heap.size + 1 + 1 < w2.heap.size := by omega
      have t0w2 : w2.cell? ⟨w.heap.size + 1 + 1, 0, none⟩ = some (.bool tb) := (hPw2.cell (p := ⟨_, _, none⟩) ztw1).trans t0w1
      have t1w2 : w2.cell? ⟨w.heap.size + 1 + 1, 1, none⟩ = some (.int .u64 (X 0)) := (hPw2.cell (p := ⟨_, _, none⟩) ztw1).trans t1w1
      have t2w2 : w2.cell? ⟨w.heap.size + 1 + 1, 2, none⟩ = some (.int .u64 (X 1)) := (hPw2.cell (p := ⟨_, _, none⟩) ztw1).trans t2w1
      have t3w2 : w2.cell? ⟨w.heap.size + 1 + 1, 3, none⟩ = some (.int .u64 (X 2)) := (hPw2.cell (p := ⟨_, _, none⟩) ztw1).trans t3w1
      have t4w2 : w2.cell? ⟨w.heap.size + 1 + 1, 4, none⟩ = some (.int .u64 (X 3)) := (hPw2.cell (p := ⟨_, _, none⟩) ztw1).trans t4w1
      have ft0w2 : w2.frozen? ⟨w.heap.size + 1 + 1, 0, none⟩ = false := (hPw2.frozen (p := ⟨_, _, none⟩) ztw1).trans ft0w1
      have ft1w2 : w2.frozen? ⟨w.heap.size + 1 + 1, 1, none⟩ = false := (hPw2.frozen (p := ⟨_, _, none⟩) ztw1).trans ft1w1
      have ft2w2 : w2.frozen? ⟨w.heap.size + 1 + 1, 2, none⟩ = false := (hPw2.frozen (p := ⟨_, _, none⟩) ztw1).trans ft2w1
      have ft3w2 : w2.frozen? ⟨w.heap.size + 1 + 1, 3, none⟩ = false := (hPw2.frozen (p := ⟨_, _, none⟩) ztw1).trans ft3w1
      have ft4w2 : w2.frozen? ⟨w.heap.size + 1 + 1, 4, none⟩ = false := (hPw2.frozen (p := ⟨_, _, none⟩) ztw1).trans ft4w1
      have zfw2 : w1.heap.size < w2.heap.size := by omega
      have f0w2 : w2.cell? ⟨w1.heap.size, 0, none⟩ = some (.int .i64 (F j).1) := (hb.cell (p := ⟨_, _, none⟩) (by simp <;> omega)).trans (by simp [go_sem])
      have f1w2 : w2.cell? ⟨w1.heap.size, 1, none⟩ = some (.int .i64 (F j).2.1) := (hb.cell (p := ⟨_, _, none⟩) (by simp <;> omega)).trans (by simp [go_sem])
      have f2w2 : w2.cell? ⟨w1.heap.size, 2, none⟩ = some (.int .i64 (F j).2.2) := (hb.cell (p := ⟨_, _, none⟩) (by simp <;> omega)).trans (by simp [go_sem])
      replace HR := Lib.hid (HR.out.below hPw2)
      replace HTA := Lib.hid (HTA.out.below hPw2)
      have hBw2 : Below w.heap.size w w2 := below_step (w := w) (by first | assumption | go_grown) hb
      clear hb hsw2 hPw2
      clear ztw1 t0w1 t1w1 t2w1 t3w1 t4w1 ft0w1 ft1w1 ft2w1 ft3w1 ft4w1
      go_wp2_with fail
      (go_at_call 26; refine (Of_any (ka j) _ HKA.out).mono ?_; rintro e_ w3 ⟨XA, rfl, hX, hb⟩)
      have hsw3 := hb.size
      (try simp only [World.size_alloc, World.size_setCell] at hsw3)
      have zzw3 : w.heap.size < w3.heap.size := by omega
      have hPw3 : Below w2.heap.size w2 w3 := below_step (w := w2) (by first | exact Below.refl _ _ | go_grown) hb
      have ztw3 : w.heap.size + 1 + 1 < w3.heap.size := by omega
      have t0w3 : w3.cell? ⟨w.heap.size + 1 + 1, 0, none⟩ = some (.bool tb) := (hPw3.cell (p := ⟨_, _, none⟩) ztw2).trans t0w2
      have t1w3 : w3.cell? ⟨w.heap.size + 1 + 1, 1, none⟩ = some (.int .u64 (X 0)) := (hPw3.cell (p := ⟨_, _, none⟩) ztw2).trans t1w2
      have t2w3 : w3.cell? ⟨w.heap.size + 1 + 1, 2, none⟩ = some (.int .u64 (X 1)) := (hPw3.cell (p := ⟨_, _, none⟩) ztw2).trans t2w2
      have t3w3 : w3.cell? ⟨w.heap.size + 1 + 1, 3, none⟩ = some (.int .u64 (X 2)) := (hPw3.cell (p := ⟨_, _, none⟩) ztw2).trans t3w2
      have t4w3 : w3.cell? ⟨w.heap.size + 1 + 1, 4, none⟩ = some (.int .u64 (X 3)) := (hPw3.cell (p := ⟨_, _, none⟩) ztw2).trans t4w2
      have ft0w3 : w3.frozen? ⟨w.heap.size + 1 + 1, 0, none⟩ = false := (hPw3.frozen (p := ⟨_, _, none⟩) ztw2).trans ft0w2
      have ft1w3 : w3.frozen? ⟨w.heap.size + 1 + 1, 1, none⟩ = false := (hPw3.frozen (p := ⟨_, _, none⟩) ztw2).trans ft1w2
      have ft2w3 : w3.frozen? ⟨w.heap.size + 1 + 1, 2, none⟩ = false := (hPw3.frozen (p := ⟨_, _, none⟩) ztw2).trans ft2w2
      have ft3w3 : w3.frozen? ⟨w.heap.size + 1 + 1, 3, none⟩ = false := (hPw3.frozen (p := ⟨_, _, none⟩) ztw2).trans ft3w2
      have ft4w3 : w3.frozen? ⟨w.heap.size + 1 + 1, 4, none⟩ = false := (hPw3.frozen (p := ⟨_, _, none⟩) ztw2).trans ft4w2
      have zfw3 : w1.heap.size < w3.heap.size := by omega
      have f0w3 : w3.cell? ⟨w1.heap.size, 0, none⟩ = some (.int .i64 (F j).1) := (hPw3.cell (p := ⟨_, _, none⟩) zfw2).trans f0w2
      have f1w3 : w3.cell? ⟨w1.heap.size, 1, none⟩ = some (.int .i64 (F j).2.1) := (hPw3.cell (p := ⟨_, _, none⟩) zfw2).trans f1w2
      have f2w3 : w3.cell? ⟨w1.heap.size, 2, none⟩ = some (.int .i64 (F j).2.2) := (hPw3.cell (p := ⟨_, _, none⟩) zfw2).trans f2w2
      replace HR := Lib.hid (HR.out.below hPw3)
      replace HTA := Lib.hid (HTA.out.below hPw3)
      have hBw3 : Below w.heap.size w w3 := below_step (w := w) (by first | assumption | go_grown) hb
      have HXA := Lib.hid hX
      clear hX
      rw [HSA.out]
      clear hb hsw3 hPw3
      clear ztw2 zfw2 t0w2 t1w2 t2w2 t3w2 t4w2 f0w2 f1w2 f2w2 ft0w2 ft1w2 ft2w2 ft3w2 ft4w2
      go_wp2_with fail
      (go_at_call 26; refine (Of_any (kb j) _ HKB.out).mono ?_; rintro e_ w4 ⟨XB, rfl, hX, hb⟩)
      have hsw4 := hb.size
      (try simp only [World.size_alloc, World.size_setCell] at hsw4)
      have zzw4 : w.heap.size < w4.heap.size := by omega
      have hPw4 : Below w3.heap.size w3 w4 := below_step (w := w3) (by first | exact Below.refl _ _ | go_grown) hb
      have ztw4 : w.heap.size + 1 + 1 < w4.heap.size := by omega
      have t0w4 : w4.cell? ⟨w.heap.size + 1 + 1, 0, none⟩ = some (.bool tb) := (hPw4.cell (p := ⟨_, _, none⟩) ztw3).trans t0w3
      have t1w4 : w4.cell? ⟨w.heap.size + 1 + 1, 1, none⟩ = some (.int .u64 (X 0)) := (hPw4.cell (p := ⟨_, _, none⟩) ztw3).trans t1w3
      have t2w4 : w4.cell? ⟨w.heap.size + 1 + 1, 2, none⟩ = some (.int .u64 (X 1)) := (hPw4.cell (p := ⟨_, _, none⟩) ztw3).trans t2w3
      have t3w4 : w4.cell? ⟨w.heap.size + 1 + 1, 3, none⟩ = some (.int .u64 (X 2)) := (hPw4.cell (p := ⟨_, _, none⟩) ztw3).trans t3w3
      have t4w4 : w4.cell? ⟨w.heap.size + 1 + 1, 4, none⟩ = some (.int .u64 (X 3)) := (hPw4.cell (p := ⟨_, _, none⟩) ztw3).trans t4w3
      have ft0w4 : w4.frozen? ⟨w.heap.size + 1 + 1, 0, none⟩ = false := (hPw4.frozen (p := ⟨_, _, none⟩) ztw3).trans ft0w3
      have ft1w4 : w4.frozen? ⟨w.heap.size + 1 + 1, 1, none⟩ = false := (hPw4.frozen (p := ⟨_, _, none⟩) ztw3).trans ft1w3
      have ft2w4 : w4.frozen? ⟨w.heap.size + 1 + 1, 2, none⟩ = false := (hPw4.frozen (p := ⟨_, _, none⟩) ztw3).trans ft2w3
      have ft3w4 : w4.frozen? ⟨w.heap.size + 1 + 1, 3, none⟩ = false := (hPw4.frozen (p := ⟨_, _, none⟩) ztw3).trans ft3w3
      have ft4w4 : w4.frozen? ⟨w.heap.size + 1 + 1, 4, none⟩ = false := (hPw4.frozen (p := ⟨_, _, none⟩) ztw3).trans ft4w3
      have zfw4 : w1.heap.size < w4.heap.size := by omega
      have f0w4 : w4.cell? ⟨w1.heap.size, 0, none⟩ = some (.int .i64 (F j).1) := (hPw4.cell (p := ⟨_, _, none⟩) zfw3).trans f0w3
      have f1w4 : w4.cell? ⟨w1.heap.size, 1, none⟩ = some (.int .i64 (F j).2.1) := (hPw4.cell (p := ⟨_, _, none⟩) zfw3).trans f1w3
      have f2w4 : w4.cell? ⟨w1.heap.size, 2, none⟩ = some (.int .i64 (F j).2.2) := (hPw4.cell (p := ⟨_, _, none⟩) zfw3).trans f2w3
      replace HR := Lib.hid (HR.out.below hPw4)
      replace HTA := Lib.hid (HTA.out.below hPw4)
      have hBw4 : Below w.heap.size w w4 := below_step (w := w) (by first | assumption | go_grown) hb
      have HXB := Lib.hid hX
      clear hX
      rw [HSB.out]
      clear hb hsw4 hPw4
      clear ztw3 zfw3 t0w3 t1w3 t2w3 t3w3 t4w3 f0w3 f1w3 f2w3 ft0w3 ft1w3 ft2w3 ft3w3 ft4w3
      go_wp2_with fail
      (go_at_call 50; refine (Mul_any (ka j) (kb j) sa sb XA XB _ (by have := HXA.out; rwa [HSA.out] at this) (by have := HXB.out; rwa [HSB.out] at this) HPL.out).mono ?_; rintro e_ w5 ⟨XP, rfl, hX, hb⟩)
      have hsw5 := hb.size
      (try simp only [World.size_alloc, World.size_setCell] at hsw5)
      have zzw5 : w.heap.size < w5.heap.size := by omega
      have hPw5 : Below w4.heap.size w4 w5 := below_step (w := w4) (by first | exact Below.refl _ _ | go_grown) hb
      have ztw5 : w.heap.size + 1 + 1 < w5.heap.size := by omega
      have t0w5 : w5.cell? ⟨w.heap.size + 1 + 1, 0, none⟩ = some (.bool tb) := (hPw5.cell (p := ⟨_, _, none⟩) ztw4).trans t0w4
      have t1w5 : w5.cell? ⟨w.heap.size + 1 + 1, 1, none⟩ = some (.int .u64 (X 0)) := (hPw5.cell (p := ⟨_, _, none⟩) ztw4).trans t1w4
      have t2w5 : w5.cell? ⟨w.heap.size + 1 + 1, 2, none⟩ = some (.int .u64 (X 1)) := (hPw5.cell (p := ⟨_, _, none⟩) ztw4).trans t2w4
      have t3w5 : w5.cell? ⟨w.heap.size + 1 + 1, 3, none⟩ = some (.int .u64 (X 2)) := (hPw5.cell (p := ⟨_, _, none⟩) ztw4).trans t3w4
      have t4w5 : w5.cell? ⟨w.heap.size + 1 + 1, 4, none⟩ = some (.int .u64 (X 3)) := (hPw5.cell (p := ⟨_, _, none⟩) ztw4).trans t4w4
      have ft0w5 : w5.frozen? ⟨w.heap.size + 1 + 1, 0, none⟩ = false := (hPw5.frozen (p := ⟨_, _, none⟩) ztw4).trans ft0w4
      have ft1w5 : w5.frozen? ⟨w.heap.size + 1 + 1, 1, none⟩ = false := (hPw5.frozen (p := ⟨_, _, none⟩) ztw4).trans ft1w4
      have ft2w5 : w5.frozen? ⟨w.heap.size + 1 + 1, 2, none⟩ = false := (hPw5.frozen (p := ⟨_, _, none⟩) ztw4).trans ft2w4
      have ft3w5 : w5.frozen? ⟨w.heap.size + 1 + 1, 3, none⟩ = false := (hPw5.frozen (p := ⟨_, _, none⟩) ztw4).trans ft3w4
      have ft4w5 : w5.frozen? ⟨w.heap.size + 1 + 1, 4, none⟩ = false := (hPw5.frozen (p := ⟨_, _, none⟩) ztw4).trans ft4w4
      have zfw5 : w1.heap.size < w5.heap.size := by omega
      have f0w5 : w5.cell? ⟨w1.heap.size, 0, none⟩ = some (.int .i64 (F j).1) := (hPw5.cell (p := ⟨_, _, none⟩) zfw4).trans f0w4
      have f1w5 : w5.cell? ⟨w1.heap.size, 1, none⟩ = some (.int .i64 (F j).2.1) := (hPw5.cell (p := ⟨_, _, none⟩) zfw4).trans f1w4
      have f2w5 : w5.cell? ⟨w1.heap.size, 2, none⟩ = some (.int .i64 (F j).2.2) := (hPw5.cell (p := ⟨_, _, none⟩) zfw4).trans f2w4
      replace HR := Lib.hid (HR.out.below hPw5)
      replace HTA := Lib.hid (HTA.out.below hPw5)
      have hBw5 : Below w.heap.size w w5 := below_step (w := w) (by first | assumption | go_grown) hb
      have HXP := Lib.hid hX
      clear hX
      rw [HSP.out]
      clear hb hsw5 hPw5
      clear ztw4 zfw4 t0w4 t1w4 t2w4 t3w4 t4w4 f0w4 f1w4 f2w4 ft0w4 ft1w4 ft2w4 ft3w4 ft4w4
      go_wp2_with fail
      (go_at_call 51; refine (Add_any (sumTo (fun j => ka j * kb j) j) (ka j * kb j) tb sp X XP _ HT.out (by have := HXP.out; rwa [HSP.out] at this) HSL.out).mono ?_; rintro e_ w6 ⟨XS, rfl, hX, hb⟩)
      have hsw6 := hb.size
      (try simp only [World.size_alloc, World.size_setCell] at hsw6)
      have zzw6 : w.heap.size < w6.heap.size := by omega
      have hPw6 : Below w5.heap.size w5 w6 := below_step (w := w5) (by first | exact Below.refl _ _ | go_grown) hb
      have ztw6 : w.heap.size + 1 + 1 < w6.heap.size := by omega
      have t0w6 : w6.cell? ⟨w.heap.size + 1 + 1, 0, none⟩ = some (.bool tb) := (hPw6.cell (p := ⟨_, _, none⟩) ztw5).trans t0w5
      have t1w6 : w6.cell? ⟨w.heap.size + 1 + 1, 1, none⟩ = some (.int .u64 (X 0)) := (hPw6.cell (p := ⟨_, _, none⟩) ztw5).trans t1w5
      have t2w6 : w6.cell? ⟨w.heap.size + 1 + 1, 2, none⟩ = some (.int .u64 (X 1)) := (hPw6.cell (p := ⟨_, _, none⟩) ztw5).trans t2w5
      have t3w6 : w6.cell? ⟨w.heap.size + 1 + 1, 3, none⟩ = some (.int .u64 (X 2)) := (hPw6.cell (p := ⟨_, _, none⟩) ztw5).trans t3w5
      have t4w6 : w6.cell? ⟨w.heap.size + 1 + 1, 4, none⟩ = some (.int .u64 (X 3)) := (hPw6.cell (p := ⟨_, _, none⟩) ztw5).trans t4w5
      have ft0w6 : w6.frozen? ⟨w.heap.size + 1 + 1, 0, none⟩ = false := (hPw6.frozen (p := ⟨_, _, none⟩) ztw5).trans ft0w5
      have ft1w6 : w6.frozen? ⟨w.heap.size + 1 + 1, 1, none⟩ = false := (hPw6.frozen (p := ⟨_, _, none⟩) ztw5).trans ft1w5
      have ft2w6 : w6.frozen? ⟨w.heap.size + 1 + 1, 2, none⟩ = false := (hPw6.frozen (p := ⟨_, _, none⟩) ztw5).trans ft2w5
      have ft3w6 : w6.frozen? ⟨w.heap.size + 1 + 1, 3, none⟩ = false := (hPw6.frozen (p := ⟨_, _, none⟩) ztw5).trans ft3w5
      have ft4w6 : w6.frozen? ⟨w.heap.size + 1 + 1, 4, none⟩ = false := (hPw6.frozen (p := ⟨_, _, none⟩) ztw5).trans ft4w5
      have zfw6 : w1.heap.size < w6.heap.size := by omega
      have f0w6 : w6.cell? ⟨w1.heap.size, 0, none⟩ = some (.int .i64 (F j).1) := (hPw6.cell (p := ⟨_, _, none⟩) zfw5).trans f0w5
      have f1w6 : w6.cell? ⟨w1.heap.size, 1, none⟩ = some (.int .i64 (F j).2.1) := (hPw6.cell (p := ⟨_, _, none⟩) zfw5).trans f1w5
      have f2w6 : w6.cell? ⟨w1.heap.size, 2, none⟩ = some (.int .i64 (F j).2.2) := (hPw6.cell (p := ⟨_, _, none⟩) zfw5).trans f2w5
      have zpw6 : w5.heap.size < w6.heap.size := by omega
      have p0w6 : w6.cell? ⟨w5.heap.size, 0, none⟩ = some (.bool sp) := (hb.cell (p := ⟨_, _, none⟩) (by simp <;> omega)).trans (by simp [go_sem])
      have p1w6 : w6.cell? ⟨w5.heap.size, 1, none⟩ = some (.int .u64 (XP 0)) := (hb.cell (p := ⟨_, _, none⟩) (by simp <;> omega)).trans (by simp [go_sem])
      have p2w6 : w6.cell? ⟨w5.heap.size, 2, none⟩ = some (.int .u64 (XP 1)) := (hb.cell (p := ⟨_, _, none⟩) (by simp <;> omega)).trans (by simp [go_sem])
      have p3w6 : w6.cell? ⟨w5.heap.size, 3, none⟩ = some (.int .u64 (XP 2)) := (hb.cell (p := ⟨_, _, none⟩) (by simp <;> omega)).trans (by simp [go_sem])
      have p4w6 : w6.cell? ⟨w5.heap.size, 4, none⟩ = some (.int .u64 (XP 3)) := (hb.cell (p := ⟨_, _, none⟩) (by simp <;> omega)).trans (by simp [go_sem])
      replace HR := Lib.hid (HR.out.below hPw6)
      replace HTA := Lib.hid (HTA.out.below hPw6)
      have hBw6 : Below w.heap.size w w6 := below_step (w := w) (by first | assumption | go_grown) hb
      have HXS := Lib.hid hX
      clear hX
      rw [HSS.out]
      clear hb hsw6 hPw6
      clear ztw5 zfw5 t0w5 t1w5 t2w5 t3w5 t4w5 f0w5 f1w5 f2w5 ft0w5 ft1w5 ft2w5 ft3w5 ft4w5
      go_wp2
      go_roundw
      case rel =>
        refine ⟨j + 1, ss, XS, by omega, by go_num, ?_, HTA.out.store, ((((HR.out.other (by omega)).other (by omega)).other (by omega)).other (by omega)).other (by omega), by go_grown⟩
        have h := HXS.out
        rw [HSS.out] at h
        exact h
      case measure => simp [intOf]; omega
    · obtain rfl : j = nf := by omega
      obtain rfl : tb = SG := HT.out.1.trans HSG.out
      obtain ⟨⟨r0, r1, r2, r3, r4⟩, hrf, zr⟩ := HR.out
      have fr0 := hrf 0
      have fr1 := hrf 1
      have fr2 := hrf 2
      have fr3 := hrf 3
      have fr4 := hrf 4
      clear hrf
      go_wp2
      all_goals (refine bodyPost_ret (v := .agg #[.bool tb, .int .u64 (X 0), .int .u64 (X 1), .int .u64 (X 2), .int .u64 (X 3)]) (by simp (maxDischargeDepth := 9) [results, Try.results40, go_sem, *]) rfl ?_)
      exact ⟨X, rfl, HT.out, by go_grown⟩
end Go.Proofs.Ytpjdmjmgkdgfnaa
