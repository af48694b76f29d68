/-
  Length of pipe and of its reference; SameInts. Conditions: none. By an AI agent.
-/
import Derived.Test.YtgbhhjdmochhpaaGreatDoorPipeG
namespace Go.Proofs.YtgbhhjdmochhpaaGreatDoor
open Go Go.ChangeShapes Go.WideShapes Go.RowKit Go.ChangeAt
set_option linter.unusedSimpArgs false
set_option linter.unusedVariables false

set_option maxRecDepth 20000 in
set_option maxHeartbeats 4000000 in
theorem length_pts (v : Value) (n : Nat) (x y z : Nat → Int) (r : Int) (w : World) (h : VecsAt w v n x y z) :
    Calls Tryz.prog 6 #[v, .int .i64 r] w fun e w' => e = .returned (.tuple #[.int .i64 (lengthF n x y z r), .int .i64 (checkF n x y z r)]) ∧ Below w.heap.size w w' := by
  obtain ⟨C, hC⟩ : ∃ C, checkF n x y z r = C := ⟨_, rfl⟩
  obtain ⟨T, hT⟩ : ∃ T, lengthF n x y z r = T := ⟨_, rfl⟩
  rw [hC, hT]
  by_cases h0 : C = 0
  · subst h0
    obtain ⟨m2, m32, hA, r1, r2, _, _⟩ := check_zero hC
    have hT2 : T = sumTo (legV x y z) (n - 1) + mx ((n : Int) - 2) 0 * (arcF r - 2 * r) := by rw [← hT]; unfold lengthF; rw [if_pos hC]
    obtain ⟨B, hB⟩ : ∃ B, mx ((n : Int) - 2) 0 = B := ⟨_, rfl⟩
    obtain ⟨A, hArc⟩ : ∃ A, arcF r = A := ⟨_, rfl⟩
    have a0 : 0 ≤ A := by rw [← hArc]; unfold arcF; omega
    have a1 : A ≤ 15709 := by rw [← hArc]; unfold arcF; omega
    have b0 : 0 ≤ B := by rw [← hB]; unfold mx; split <;> omega
    have b1 : B ≤ 30 := by rw [← hB]; unfold mx; split <;> omega
    obtain ⟨q0, q1⟩ := mul_in (B := 30) (C := 40000) (x := B) (y := A - 2 * r) ⟨by omega, by omega⟩ ⟨by omega, by omega⟩
    simp only [Int.reduceMul, Int.reduceNeg] at q0 q1
    rw [hB, hArc] at hT2
    have HT := Lib.hid hT2
    have HC := Lib.hid hC
    have HBN := Lib.hid hB
    have HARC : Hid ((r * 157080 + 50000) / 100000 = A) := hArc
    have HIN := Lib.hid (inP_all hA)
    have HLB := Lib.hid (leg_bd (inP_all hA))
    clear hT2 hT hC hB hArc hA
    have hel := h.form
    obtain ⟨oa, cap, rfl, hn0, hel⟩ := hel
    have HEL := Lib.hid hel
    have HV := Lib.hid h
    clear hel h
    go_enter Tryz.func6, Tryz.ntmps6
    go_wp2_with fail
    (go_at_call 18; refine (check_pts _ _ _ _ _ _ _ HV.out).mono ?_; rintro e w1 ⟨rfl, hb⟩)
    rw [HC.out]
    have HB1 := Lib.hid (hb)
    clear hb
    go_wp2_with fail
    (go_at_call 19; refine (round_arc _ A _ ⟨by omega, by omega⟩ HARC.out).mono ?_; rintro e w2 ⟨rfl, hb⟩)
    have HB2 := Lib.hid (below_step HB1.out hb)
    clear hb
    go_wp2_with fail
    (go_at_call 20; refine (legs_pts _ _ _ _ _ _ (HV.out.below HB2.out) HIN.out (by omega)).mono ?_; rintro e w3 ⟨l, rfl, hl, hnew, hb⟩)
    have HB3 := Lib.hid (below_step HB2.out hb)
    obtain ⟨ol, capl, rfl, hln, hlel⟩ := hl.form
    have HLEL := Lib.hid hlel
    clear hl hlel hb hnew
    obtain ⟨m, hm⟩ : ∃ m, n - 1 = m := ⟨_, rfl⟩
    rw [hm] at HLEL HLB HT
    have hnm : n = m + 1 := by omega
    subst hnm
    clear hm
    simp only [Nat.add_sub_cancel] at *
    go_wp2
    go_loopw [4, 26] (fun t i wr => ∃ k : Nat, k ≤ m ∧ i = .int .i64 (k : Int) ∧ t = .int .i64 (sumTo (legV x y z) k) ∧ Below w3.heap.size w3 wr) (fun _ i _ => m - (intOf i).toNat)
    case atStart => exact ⟨0, by omega, rfl, rfl, Below.refl _ _⟩
    case round =>
      obtain ⟨q, hq, rfl, rfl, hb⟩ := hrel
      have sb := sum_bd (f := legV x y z) (n := q) (fun i hi => HLB.out i (by omega))
      obtain ⟨sb0, sb1⟩ := sb
      by_cases hlq : q < m
      · obtain ⟨b, off, rfl, hbl, hcl⟩ := HLEL.out q hlq
        have c0 : wr.cell? ⟨b, off + q, none⟩ = some (.int .i64 (legV x y z q)) := (hb.cell (p := ⟨_, _, none⟩) hbl).trans (hcl q hlq)
        have hbr : b < wr.heap.size := Nat.lt_of_lt_of_le hbl hb.size
        have HBr := Lib.hid hb
        have lb := HLB.out q hlq
        obtain ⟨lb0, lb1⟩ := lb
        clear hcl hb
        go_wp2
        go_roundw
        case rel => exact ⟨q + 1, by omega, by go_num, rfl, HBr.out⟩
        case measure => simp [intOf]; omega
      · have e : q = m := by omega
        subst e
        have HBr := Lib.hid (below_step HB3.out hb)
        clear hb
        go_wp2_with fail
        (go_at_call 21; refine (bends_val _ (HV.out.below HBr.out) HBN.out).mono ?_; rintro e w4 ⟨rfl, hb⟩)
        have HB4 := Lib.hid (below_step HBr.out hb)
        clear hb
        go_wp2
        go_returns
        exact ⟨by rw [HT.out]; rfl, HB4.out⟩
  · have hT2 : T = 0 := by rw [← hT]; unfold lengthF; rw [if_neg (by rw [hC]; exact h0)]
    subst hT2
    have HC := Lib.hid hC
    have k0 : (C != 0) = true := by simpa using h0
    have k1 : (C == 0) = false := by simpa using h0
    clear hT hC h0
    have HV := Lib.hid h
    clear h
    go_enter Tryz.func6, Tryz.ntmps6
    go_wp2_with fail
    (go_at_call 18; refine (check_pts _ _ _ _ _ _ _ HV.out).mono ?_; rintro e w1 ⟨rfl, hb⟩)
    rw [HC.out]
    have HB1 := Lib.hid (hb)
    clear hb
    go_wp2
    go_returns
    exact ⟨rfl, HB1.out⟩
set_option maxRecDepth 20000 in
set_option maxHeartbeats 4000000 in
theorem rlength_pts (v : Value) (n : Nat) (x y z : Nat → Int) (r : Int) (w : World) (h : VecsAt w v n x y z) :
    Calls Tryz.prog 22 #[v, .int .i64 r] w fun e w' => e = .returned (.tuple #[.int .i64 (lengthF n x y z r), .int .i64 (checkF n x y z r)]) ∧ Below w.heap.size w w' := by
  obtain ⟨C, hC⟩ : ∃ C, checkF n x y z r = C := ⟨_, rfl⟩
  obtain ⟨T, hT⟩ : ∃ T, lengthF n x y z r = T := ⟨_, rfl⟩
  rw [hC, hT]
  by_cases h0 : C = 0
  · subst h0
    obtain ⟨m2, m32, hA, r1, r2, _, _⟩ := check_zero hC
    have hT2 : T = sumTo (legV x y z) (n - 1) + mx ((n : Int) - 2) 0 * (arcF r - 2 * r) := by rw [← hT]; unfold lengthF; rw [if_pos hC]
    obtain ⟨B, hB⟩ : ∃ B, mx ((n : Int) - 2) 0 = B := ⟨_, rfl⟩
    obtain ⟨A, hArc⟩ : ∃ A, arcF r = A := ⟨_, rfl⟩
    have a0 : 0 ≤ A := by rw [← hArc]; unfold arcF; omega
    have a1 : A ≤ 15709 := by rw [← hArc]; unfold arcF; omega
    have b0 : 0 ≤ B := by rw [← hB]; unfold mx; split <;> omega
    have b1 : B ≤ 30 := by rw [← hB]; unfold mx; split <;> omega
    obtain ⟨q0, q1⟩ := mul_in (B := 30) (C := 40000) (x := B) (y := A - 2 * r) ⟨by omega, by omega⟩ ⟨by omega, by omega⟩
    simp only [Int.reduceMul, Int.reduceNeg] at q0 q1
    rw [hB, hArc] at hT2
    have HT := Lib.hid hT2
    have HC := Lib.hid hC
    have HBN := Lib.hid hB
    have HARC : Hid ((r * 157080 + 50000) / 100000 = A) := hArc
    have HIN := Lib.hid (inP_all hA)
    have HLB := Lib.hid (leg_bd (inP_all hA))
    clear hT2 hT hC hB hArc hA
    have hel := h.form
    obtain ⟨oa, cap, rfl, hn0, hel⟩ := hel
    have HEL := Lib.hid hel
    have HV := Lib.hid h
    clear hel h
    go_enter Tryz.func22, Tryz.ntmps22
    go_wp2_with fail
    (go_at_call 55; refine (rcheck_pts _ _ _ _ _ _ _ HV.out).mono ?_; rintro e w1 ⟨rfl, hb⟩)
    rw [HC.out]
    have HB1 := Lib.hid (hb)
    clear hb
    go_wp2_with fail
    (go_at_call 56; refine (rlegs_pts _ _ _ _ _ _ (HV.out.below HB1.out) HIN.out (by omega)).mono ?_; rintro e w2 ⟨l, rfl, hl, hnew, hb⟩)
    have HB2 := Lib.hid (below_step HB1.out hb)
    obtain ⟨ol, capl, rfl, hln, hlel⟩ := hl.form
    have HLEL := Lib.hid hlel
    clear hl hlel hb hnew
    obtain ⟨m, hm⟩ : ∃ m, n - 1 = m := ⟨_, rfl⟩
    rw [hm] at HLEL HLB HT
    have hnm : n = m + 1 := by omega
    subst hnm
    clear hm
    simp only [Nat.add_sub_cancel] at *
    go_wp2
    go_loopw [7, 9] (fun t i wr => ∃ k : Nat, k ≤ m ∧ i = .int .i64 (k : Int) ∧ t = .int .i64 (sumTo (legV x y z) k) ∧ Below w2.heap.size w2 wr) (fun _ i _ => m - (intOf i).toNat)
    case atStart => exact ⟨0, by omega, rfl, rfl, Below.refl _ _⟩
    case round =>
      obtain ⟨q, hq, rfl, rfl, hb⟩ := hrel
      have sb := sum_bd (f := legV x y z) (n := q) (fun i hi => HLB.out i (by omega))
      obtain ⟨sb0, sb1⟩ := sb
      by_cases hlq : q < m
      · obtain ⟨b, off, rfl, hbl, hcl⟩ := HLEL.out q hlq
        have c0 : wr.cell? ⟨b, off + q, none⟩ = some (.int .i64 (legV x y z q)) := (hb.cell (p := ⟨_, _, none⟩) hbl).trans (hcl q hlq)
        have hbr : b < wr.heap.size := Nat.lt_of_lt_of_le hbl hb.size
        have HBr := Lib.hid hb
        have lb := HLB.out q hlq
        obtain ⟨lb0, lb1⟩ := lb
        clear hcl hb
        go_wp2
        go_roundw
        case rel => exact ⟨q + 1, by omega, by go_num, rfl, HBr.out⟩
        case measure => simp [intOf]; omega
      · have e : q = m := by omega
        subst e
        have HBr := Lib.hid (below_step HB2.out hb)
        clear hb
        go_wp2_with fail
        (go_at_call 57; refine (rbends_val _ (HV.out.below HBr.out) HBN.out).mono ?_; rintro e w3 ⟨rfl, hb⟩)
        have HB3 := Lib.hid (below_step HBr.out hb)
        clear hb
        have har := HARC.out
        go_wp2
        go_returns
        exact ⟨by rw [HT.out]; rfl, HB3.out⟩
  · have hT2 : T = 0 := by rw [← hT]; unfold lengthF; rw [if_neg (by rw [hC]; exact h0)]
    subst hT2
    have HC := Lib.hid hC
    have k0 : (C != 0) = true := by simpa using h0
    have k1 : (C == 0) = false := by simpa using h0
    clear hT hC h0
    have HV := Lib.hid h
    clear h
    go_enter Tryz.func22, Tryz.ntmps22
    go_wp2_with fail
    (go_at_call 55; refine (rcheck_pts _ _ _ _ _ _ _ HV.out).mono ?_; rintro e w1 ⟨rfl, hb⟩)
    rw [HC.out]
    have HB1 := Lib.hid (hb)
    clear hb
    go_wp2
    go_returns
    exact ⟨rfl, HB1.out⟩
def sameF (n m : Nat) (f g : Nat → Int) : Bool := decide (n = m) && allTo (fun i => f i == g i) n
end Go.Proofs.YtgbhhjdmochhpaaGreatDoor
