/-
  ContainsFunc with beyond; the reference's product, by walks. Conditions: none. By an AI agent.
-/
import Derived.Test.YtpjdmjmgkdgfnaaMeshA
import Derived.Test.YtpjdmjmgkdgfnaaFirst
namespace Go.Proofs.Ytpjdmjmgkdgfnaa
open Go Go.RowKit
set_option linter.unusedVariables false
set_option linter.unusedSimpArgs false
set_option maxRecDepth 100000

set_option maxHeartbeats 2000000 in
theorem indexBeyond_any (v : Value) (n : Nat) (P : Nat → V) (w : World) (h : RowAt w v n P) :
    Calls Try.prog 55 #[v, .func (.func 31) #[] #[]] w fun e w' => e = .returned (.int .i64 (if firstFrom (fun i => !inB20 (P i)) n 0 < n then (firstFrom (fun i => !inB20 (P i)) n 0 : Int) else -1)) ∧ Below w.heap.size w w' := by
  obtain ⟨oa, cap, rfl, hn, hc, hel⟩ := h.form
  have HEL := Lib.hid hel
  clear h hel
  obtain ⟨F, hF⟩ : ∃ F, firstFrom (fun i => !inB20 (P i)) n 0 = F := ⟨_, rfl⟩
  have HF := Lib.hid hF
  rw [hF]
  obtain ⟨R, hR⟩ : ∃ R, (if F < n then (F : Int) else -1) = R := ⟨_, rfl⟩
  have HR := Lib.hid hR
  rw [hR]
  clear hF hR
  go_enter Try.func55, Try.ntmps55
  go_wp2
  go_loopw [8] (fun i wr => ∃ j : Nat, j ≤ n ∧ i = .int .i64 j ∧ Hid (firstFrom (fun i => !inB20 (P i)) (n - j) j = F) ∧ Below w.heap.size w wr) (fun i _ => n - (intOf i).toNat)
  case atStart => exact ⟨0, by omega, rfl, HF.out, Below.refl _ _⟩
  case round =>
    obtain ⟨j, hj, rfl, hq, hB⟩ := hrel
    have HBr := Lib.hid hB
    by_cases hlt : j < n
    · obtain ⟨b1, f1, rfl, hbl1, hcl1⟩ := HEL.out j hlt
      have c0 : wr.cell? ⟨b1, f1 + j * 3, none⟩ = some (.int .i64 (P j).1) := (hB.cell (p := ⟨_, _, none⟩) hbl1).trans (hcl1 j hlt).1
      have c1 : wr.cell? ⟨b1, f1 + j * 3 + 1, none⟩ = some (.int .i64 (P j).2.1) := (hB.cell (p := ⟨_, _, none⟩) hbl1).trans (hcl1 j hlt).2.1
      have c2 : wr.cell? ⟨b1, f1 + j * 3 + 2, none⟩ = some (.int .i64 (P j).2.2) := (hB.cell (p := ⟨_, _, none⟩) hbl1).trans (hcl1 j hlt).2.2
      have hbr : b1 < wr.heap.size := by have := hB.size; omega
      have k0 : (0 : Int) ≤ (j : Int) := by omega
      have k1 : (j : Int) < (n : Int) := by omega
      clear hcl1 hB
      obtain ⟨bb, hbb⟩ : ∃ b, inB20 (P j) = b := ⟨_, rfl⟩
      have HBB := Lib.hid hbb
      go_wp2_with fail
      (go_at_call 31; refine (beyond_any (P j).1 (P j).2.1 (P j).2.2 _).mono ?_; rintro e_ w1 ⟨rfl, hb⟩)
      rw [show inB20 ((P j).1, (P j).2.1, (P j).2.2) = bb from hbb]
      have hB1 : Below w.heap.size w w1 := below_step HBr.out hb
      clear hbb hb
      cases bb with
      | false =>
        have HR0 : Hid (R = (j : Int)) := by
          show _ = _
          have hFj : F = j := hq.out.symm.trans (firstFrom_hit hlt (by simp [HBB.out]))
          rw [← HR.out, hFj, if_pos hlt]
        go_wp2
        go_returns
        rw [HR0.out]
        exact ⟨rfl, hB1⟩
      | true =>
        have hq2 : Hid (firstFrom (fun i => !inB20 (P i)) (n - (j + 1)) (j + 1) = F) := (firstFrom_miss hlt (by simp [HBB.out])).symm.trans hq.out
        go_wp2
        go_roundw
        case rel => exact ⟨j + 1, by omega, by go_num, hq2, hB1⟩
        case measure => simp [intOf]; omega
    · have HR0 : Hid (R = -1) := by
        show _ = _
        have hFj : F = n := hq.out.symm.trans (firstFrom_end hj hlt)
        rw [← HR.out, hFj, if_neg (by omega)]
      go_wp2
      go_returns
      rw [HR0.out]
      exact ⟨rfl, HBr.out⟩
theorem containsBeyond_any (v : Value) (n : Nat) (P : Nat → V) (w : World) (h : RowAt w v n P) :
    Calls Try.prog 30 #[v, .func (.func 31) #[] #[]] w fun e w' => e = .returned (.bool (!allTo (fun i => inB20 (P i)) n)) ∧ Below w.heap.size w w' := by
  obtain ⟨oa, cap, rfl, -, -, -⟩ := h.form
  have H := Lib.hid h
  clear h
  obtain ⟨R, hR⟩ : ∃ R, (if firstFrom (fun i => !inB20 (P i)) n 0 < n then (firstFrom (fun i => !inB20 (P i)) n 0 : Int) else -1) = R := ⟨_, rfl⟩
  have HR := Lib.hid hR
  have HE : Hid (decide (0 ≤ R) = !allTo (fun i => inB20 (P i)) n) := by
    show _ = _
    obtain ⟨s1, s2, s3, s4⟩ := firstFrom_spec (fun i => !inB20 (P i)) n 0
    rw [← hR]
    by_cases hlt : firstFrom (fun i => !inB20 (P i)) n 0 < n
    · rw [if_pos hlt, decide_eq_true (by omega)]
      have h3 := s3 (by omega)
      simp only [Bool.not_eq_true'] at h3
      rw [allTo_no hlt h3]
      rfl
    · rw [if_neg hlt, show decide ((0 : Int) ≤ -1) = false by decide, allTo_iff.2 (fun i hi => by have := s4 i (by omega) (by omega); simpa using this)]
      rfl
  clear hR
  go_enter Try.func30, Try.ntmps30
  go_wp2_with fail
  (go_at_call 55; refine (indexBeyond_any _ n P _ H.out).mono ?_; rintro e_ w1 ⟨rfl, hb⟩)
  rw [HR.out]
  go_wp2
  go_returns
  rw [← HE.out]
  exact ⟨rfl, hb⟩

set_option maxHeartbeats 2000000 in
theorem rproduct_any (x y : Int) (w : World) (hx : -9223372036854775808 ≤ x ∧ x < 9223372036854775808) (hy : -9223372036854775808 ≤ y ∧ y < 9223372036854775808) :
    Calls Try.prog 44 #[.int .i64 x, .int .i64 y] w fun e w' => ∃ Z : Nat → Int, e = .returned (.agg #[.bool (decide (x * y < 0)), .int .u64 (Z 0), .int .u64 (Z 1), .int .u64 (Z 2), .int .u64 (Z 3)]) ∧ isW (x * y) (decide (x * y < 0)) Z ∧ Below w.heap.size w w' := by
  obtain ⟨SG, hSG⟩ : ∃ b, decide (x * y < 0) = b := ⟨_, rfl⟩
  obtain ⟨bx, hbx⟩ : ∃ b, decide (x < 0) = b := ⟨_, rfl⟩
  obtain ⟨by', hby⟩ : ∃ b, decide (y < 0) = b := ⟨_, rfl⟩
  have HSG := Lib.hid hSG
  have HBX := Lib.hid hbx
  have HBY := Lib.hid hby
  have HL : Hid (((x * y).natAbs : Int) < 115792089237316195423570985008687907853269984665640564039457584007913129639936) := by
    show _ < _
    have := mul_bd (a := x) (b := y) (C := 9223372036854775808) (D := 9223372036854775808) (by decide) (by decide) (by omega) (by omega) (by omega) (by omega)
    omega
  rw [hSG]
  clear hSG hbx hby
  go_enter Try.func44, Try.ntmps44
  go_wp2_with fail
  (go_at_call 39; refine (rOf_any x _ hx).mono ?_; rintro e_ w1 ⟨X, rfl, hX, hb⟩)
  have hsw1 := hb.size
  (try simp only [World.size_alloc, World.size_setCell] at hsw1)
  have zzw1 : w.heap.size < w1.heap.size := by omega
  have hPw1 : Below w.heap.size w w1 := below_step (w := w) (by first | exact Below.refl _ _ | go_grown) hb
  have zrw1 : w.heap.size < w1.heap.size := by omega
  have r0w1 : w1.cell? ⟨w.heap.size, 0, none⟩ = some (.bool false) := (hb.cell (p := ⟨_, _, none⟩) (by simp <;> omega)).trans (by simp [go_sem])
  have r1w1 : w1.cell? ⟨w.heap.size, 1, none⟩ = some (.int .u64 0) := (hb.cell (p := ⟨_, _, none⟩) (by simp <;> omega)).trans (by simp [go_sem])
  have r2w1 : w1.cell? ⟨w.heap.size, 2, none⟩ = some (.int .u64 0) := (hb.cell (p := ⟨_, _, none⟩) (by simp <;> omega)).trans (by simp [go_sem])
  have r3w1 : w1.cell? ⟨w.heap.size, 3, none⟩ = some (.int .u64 0) := (hb.cell (p := ⟨_, _, none⟩) (by simp <;> omega)).trans (by simp [go_sem])
  have r4w1 : w1.cell? ⟨w.heap.size, 4, none⟩ = some (.int .u64 0) := (hb.cell (p := ⟨_, _, none⟩) (by simp <;> omega)).trans (by simp [go_sem])
  have fr0w1 : w1.frozen? ⟨w.heap.size, 0, none⟩ = false := (hb.frozen (p := ⟨_, _, none⟩) (by simp <;> omega)).trans (by simp [go_sem])
  have fr1w1 : w1.frozen? ⟨w.heap.size, 1, none⟩ = false := (hb.frozen (p := ⟨_, _, none⟩) (by simp <;> omega)).trans (by simp [go_sem])
  have fr2w1 : w1.frozen? ⟨w.heap.size, 2, none⟩ = false := (hb.frozen (p := ⟨_, _, none⟩) (by simp <;> omega)).trans (by simp [go_sem])
  have fr3w1 : w1.frozen? ⟨w.heap.size, 3, none⟩ = false := (hb.frozen (p := ⟨_, _, none⟩) (by simp <;> omega)).trans (by simp [go_sem])
  have fr4w1 : w1.frozen? ⟨w.heap.size, 4, none⟩ = false := (hb.frozen (p := ⟨_, _, none⟩) (by simp <;> omega)).trans (by simp [go_sem])
  have hBw1 : Below w.heap.size w w1 := below_step (w := w) (by first | assumption | go_grown) hb
  have HX := Lib.hid hX
  clear hX
  rw [HBX.out]
  clear hb hsw1 hPw1
  go_wp2_with fail
  (go_at_call 39; refine (rOf_any y _ hy).mono ?_; rintro e_ w2 ⟨Y, rfl, hY, hb⟩)
  have hsw2 := hb.size
  (try simp only [World.size_alloc, World.size_setCell] at hsw2)
  have zzw2 : w.heap.size < w2.heap.size := by omega
  have hPw2 : Below w1.heap.size w1 w2 := below_step (w := w1) (by first | exact Below.refl _ _ | go_grown) hb
  have zrw2 : w.heap.size < w2.heap.size := by omega
  have r0w2 : w2.cell? ⟨w.heap.size, 0, none⟩ = some (.bool false) := (hPw2.cell (p := ⟨_, _, none⟩) zrw1).trans r0w1
  have r1w2 : w2.cell? ⟨w.heap.size, 1, none⟩ = some (.int .u64 0) := (hPw2.cell (p := ⟨_, _, none⟩) zrw1).trans r1w1
  have r2w2 : w2.cell? ⟨w.heap.size, 2, none⟩ = some (.int .u64 0) := (hPw2.cell (p := ⟨_, _, none⟩) zrw1).trans r2w1
  have r3w2 : w2.cell? ⟨w.heap.size, 3, none⟩ = some (.int .u64 0) := (hPw2.cell (p := ⟨_, _, none⟩) zrw1).trans r3w1
  have r4w2 : w2.cell? ⟨w.heap.size, 4, none⟩ = some (.int .u64 0) := (hPw2.cell (p := ⟨_, _, none⟩) zrw1).trans r4w1
  have fr0w2 : w2.frozen? ⟨w.heap.size, 0, none⟩ = false := (hPw2.frozen (p := ⟨_, _, none⟩) zrw1).trans fr0w1
  have fr1w2 : w2.frozen? ⟨w.heap.size, 1, none⟩ = false := (hPw2.frozen (p := ⟨_, _, none⟩) zrw1).trans fr1w1
  have fr2w2 : w2.frozen? ⟨w.heap.size, 2, none⟩ = false := (hPw2.frozen (p := ⟨_, _, none⟩) zrw1).trans fr2w1
  have fr3w2 : w2.frozen? ⟨w.heap.size, 3, none⟩ = false := (hPw2.frozen (p := ⟨_, _, none⟩) zrw1).trans fr3w1
  have fr4w2 : w2.frozen? ⟨w.heap.size, 4, none⟩ = false := (hPw2.frozen (p := ⟨_, _, none⟩) zrw1).trans fr4w1
  have hBw2 : Below w.heap.size w w2 := below_step (w := w) (by first | assumption | go_grown) hb
  have HY := Lib.hid hY
  clear hY
  rw [HBY.out]
  clear hb hsw2 hPw2
  clear zrw1 r0w1 r1w1 r2w1 r3w1 r4w1 fr0w1 fr1w1 fr2w1 fr3w1 fr4w1
  go_wp2_with fail
  (go_at_call 61; refine (rMul_any x y bx by' X Y _ (by have := HX.out; rwa [HBX.out] at this) (by have := HY.out; rwa [HBY.out] at this) HL.out).mono ?_; rintro e_ w3 ⟨Z, rfl, hZ, hb⟩)
  have hsw3 := hb.size
  (try simp only [World.size_alloc, World.size_setCell] at hsw3)
  have zzw3 : w.heap.size < w3.heap.size := by omega
  have hPw3 : Below w2.heap.size w2 w3 := below_step (w := w2) (by first | exact Below.refl _ _ | go_grown) hb
  have zrw3 : w.heap.size < w3.heap.size := by omega
  have r0w3 : w3.cell? ⟨w.heap.size, 0, none⟩ = some (.bool false) := (hPw3.cell (p := ⟨_, _, none⟩) zrw2).trans r0w2
  have r1w3 : w3.cell? ⟨w.heap.size, 1, none⟩ = some (.int .u64 0) := (hPw3.cell (p := ⟨_, _, none⟩) zrw2).trans r1w2
  have r2w3 : w3.cell? ⟨w.heap.size, 2, none⟩ = some (.int .u64 0) := (hPw3.cell (p := ⟨_, _, none⟩) zrw2).trans r2w2
  have r3w3 : w3.cell? ⟨w.heap.size, 3, none⟩ = some (.int .u64 0) := (hPw3.cell (p := ⟨_, _, none⟩) zrw2).trans r3w2
  have r4w3 : w3.cell? ⟨w.heap.size, 4, none⟩ = some (.int .u64 0) := (hPw3.cell (p := ⟨_, _, none⟩) zrw2).trans r4w2
  have fr0w3 : w3.frozen? ⟨w.heap.size, 0, none⟩ = false := (hPw3.frozen (p := ⟨_, _, none⟩) zrw2).trans fr0w2
  have fr1w3 : w3.frozen? ⟨w.heap.size, 1, none⟩ = false := (hPw3.frozen (p := ⟨_, _, none⟩) zrw2).trans fr1w2
  have fr2w3 : w3.frozen? ⟨w.heap.size, 2, none⟩ = false := (hPw3.frozen (p := ⟨_, _, none⟩) zrw2).trans fr2w2
  have fr3w3 : w3.frozen? ⟨w.heap.size, 3, none⟩ = false := (hPw3.frozen (p := ⟨_, _, none⟩) zrw2).trans fr3w2
  have fr4w3 : w3.frozen? ⟨w.heap.size, 4, none⟩ = false := (hPw3.frozen (p := ⟨_, _, none⟩) zrw2).trans fr4w2
  have hBw3 : Below w.heap.size w w3 := below_step (w := w) (by first | assumption | go_grown) hb
  have HZ := Lib.hid hZ
  clear hZ
  rw [HSG.out]
  clear hb hsw3 hPw3
  clear zrw2 r0w2 r1w2 r2w2 r3w2 r4w2 fr0w2 fr1w2 fr2w2 fr3w2 fr4w2
  go_wp2
  all_goals (refine bodyPost_ret (v := .agg #[.bool SG, .int .u64 (Z 0), .int .u64 (Z 1), .int .u64 (Z 2), .int .u64 (Z 3)]) (by simp (maxDischargeDepth := 9) [results, Try.results44, go_sem, *]) rfl ?_)
  exact ⟨Z, rfl, by have := HZ.out; rwa [HSG.out] at this, by go_grown⟩
end Go.Proofs.Ytpjdmjmgkdgfnaa
