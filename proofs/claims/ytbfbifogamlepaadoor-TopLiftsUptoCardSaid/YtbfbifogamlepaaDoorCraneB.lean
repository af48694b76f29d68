/-
  What Check returns, the program's and the reference's, by walks. Conditions: none. By an AI agent.
-/
import Derived.Test.YtbfbifogamlepaaDoorCraneA
import Derived.Test.YtbfbifogamlepaaDoorIdentRef
namespace Go.Proofs.YtbfbifogamlepaaDoor
open Go.RowKit
set_option linter.unusedSimpArgs false

/-- cranes: name and chart of each -/
def CranesAt (w : World) (v : Value) (n : Nat) (nm : Nat → ByteArray) (cv : Nat → Value) (rn : Nat → Nat) (r q : Nat → Nat → Int) : Prop :=
  SliceAt w v n 2 (fun i j => match j with | 0 => .string (nm i) | _ => cv i) ∧ ∀ i, i < n → (nm i).size ≤ 9223372036854775807 ∧ PairsAt w (cv i) (rn i) (r i) (q i)
theorem CranesAt.below {w w' : World} {v : Value} {n : Nat} {nm : Nat → ByteArray} {cv : Nat → Value} {rn : Nat → Nat} {r q : Nat → Nat → Int} (h : CranesAt w v n nm cv rn r q) (hb : Below w.heap.size w w') : CranesAt w' v n nm cv rn r q :=
  ⟨h.1.below hb, fun i hi => ⟨(h.2 i hi).1, (h.2 i hi).2.below hb⟩⟩
theorem CranesAt.form {w : World} {v : Value} {n : Nat} {nm : Nat → ByteArray} {cv : Nat → Value} {rn : Nat → Nat} {r q : Nat → Nat → Int} (h : CranesAt w v n nm cv rn r q) : ∃ (oa : Option Addr) (cap : Nat), v = .slice oa n cap ∧ n ≤ 9223372036854775807 ∧
    ∀ i, i < n → ∃ b off, oa = some ⟨b, off, none⟩ ∧ b < w.heap.size ∧ ∀ k, k < n → w.cell? ⟨b, off + k * 2, none⟩ = some (.string (nm k)) ∧ w.cell? ⟨b, off + k * 2 + 1, none⟩ = some (cv k) := by
  obtain ⟨⟨oa, cap, h1, h2, h3, h4⟩, _⟩ := h
  refine ⟨oa, cap, h1, by omega, fun i hi => ?_⟩
  obtain ⟨b, off, e, hlt, hc⟩ := h4 (by omega)
  exact ⟨b, off, e, hlt, fun k hk => ⟨hc k 0 hk (by decide), hc k 1 hk (by decide)⟩⟩
/-- a <= b on strings -/
def strLe (a b : ByteArray) : Bool := Op.bytesLess a.toList b.toList || a.toList == b.toList
theorem run_leq (a b : ByteArray) (W : World) : (binOp .leq 9 (.string a) (.string b)).run Tryd.prog W = .ok (.bool (strLe a b)) W := by
  simp [go_sem, strLe]
def CheckErr (nm : Nat → ByteArray) (rn : Nat → Nat) (r q : Nat → Nat → Int) (j : Nat) : Int :=
  if nameB (nm j) = false then 6 else if 0 < j ∧ strLe (nm j) (nm (j - 1)) = true then 11 else chartF (rn j) (r j) (q j)
def checkFrom (n : Nat) (nm : Nat → ByteArray) (rn : Nat → Nat) (r q : Nat → Nat → Int) : Nat → Nat → Int
  | 0, _ => 0
  | m + 1, j => if CheckErr nm rn r q j ≠ 0 then CheckErr nm rn r q j else checkFrom n nm rn r q m (j + 1)
def checkF (n : Nat) (nm : Nat → ByteArray) (rn : Nat → Nat) (r q : Nat → Nat → Int) : Int := if 8 < n then 4 else checkFrom n nm rn r q n 0
set_option maxHeartbeats 4000000 in
theorem rcheck_any (v : Value) (n : Nat) (nm : Nat → ByteArray) (cv : Nat → Value) (rn : Nat → Nat) (r q : Nat → Nat → Int) (w : World) (h : CranesAt w v n nm cv rn r q) :
    Calls Tryd.prog 4 #[v] w fun e w' => e = .returned (.int .i64 (checkF n nm rn r q)) ∧ Below w.heap.size w w' := by
  have HCR := Lib.hid h.2
  obtain ⟨oa, cap, rfl, hn, hel⟩ := h.form
  have HEL := Lib.hid hel
  clear h hel
  by_cases h8 : 8 < n
  · have E : checkF n nm rn r q = 4 := if_pos h8
    rw [E]
    clear E
    go_enter Tryd.func4, Tryd.ntmps4
    go_wp2
    go_returns
    exact ⟨rfl, by go_grown⟩
  have E : checkF n nm rn r q = checkFrom n nm rn r q n 0 := if_neg h8
  rw [E]
  obtain ⟨R, hR⟩ : ∃ R, checkFrom n nm rn r q n 0 = R := ⟨_, rfl⟩
  have HR := Lib.hid hR
  rw [hR]
  clear E hR
  have h9 : n ≤ 8 := by omega
  clear h8
  go_enter Tryd.func4, Tryd.ntmps4
  go_wp2
  go_loopw [3] (fun i wr => ∃ j : Nat, j ≤ n ∧ i = .int .i64 j ∧ Hid (checkFrom n nm rn r q (n - j) j = R) ∧ Below w.heap.size w wr) (fun i _ => n - (intOf i).toNat)
  case atStart => exact ⟨0, by omega, rfl, HR.out, Below.refl _ _⟩
  case round =>
    obtain ⟨j, hj, rfl, hq, hb⟩ := hrel
    by_cases hlt : j < n
    · obtain ⟨b, off, rfl, hbl, hcl⟩ := HEL.out j hlt
      have c0 : wr.cell? ⟨b, off + j * 2, none⟩ = some (.string (nm j)) := (hb.cell (p := ⟨_, _, none⟩) hbl).trans (hcl j hlt).1
      have c1 : wr.cell? ⟨b, off + j * 2 + 1, none⟩ = some (cv j) := (hb.cell (p := ⟨_, _, none⟩) hbl).trans (hcl j hlt).2
      obtain ⟨oc, cc, hcv, hcn, -⟩ := (HCR.out j hlt).2.form
      have HP := Lib.hid (HCR.out j hlt).2
      rw [hcv] at c1 HP
      clear hcv
      have hbr : b < wr.heap.size := Nat.lt_of_lt_of_le hbl hb.size
      have HBr := Lib.hid hb
      have hsz : w.heap.size ≤ wr.heap.size := hb.size
      have hns := (HCR.out j hlt).1
      have hpc := past_cell
      by_cases hN : nameB (nm j) = false
      · have hE : CheckErr nm rn r q j = 6 := by unfold CheckErr; rw [if_pos hN]
        have hr : R = 6 := by
          rw [← hq.out, show n - j = (n - (j + 1)) + 1 by omega, checkFrom, if_pos (by rw [hE]; decide), hE]
        have HR9 := Lib.hid hr
        clear hr hE
        clear hcl hb
        go_wp2_with fail
        (go_at_call 12; refine (rIsName_any _ _ hns).mono ?_; rintro e w1 ⟨rfl, hb1⟩)
        rw [hN]
        have HB1 : Hid (Below wr.heap.size wr w1) := hb1
        clear hb1
        have hw1 : wr.heap.size ≤ w1.heap.size := HB1.out.size
        have hbw1 : b < w1.heap.size := by omega
        have y1c0 := (HB1.out.cell (p := ⟨b, off + j * 2, none⟩) (by omega))
        rw [c0] at y1c0
        have y1c1 := (HB1.out.cell (p := ⟨b, off + j * 2 + 1, none⟩) (by omega))
        rw [c1] at y1c1
        go_wp2
        go_returns
        rw [HR9.out]
        exact ⟨rfl, below_step HBr.out HB1.out⟩
      have hN0 : nameB (nm j) = true := by simpa using hN
      by_cases hj0 : j = 0
      · have hE0 : CheckErr nm rn r q j = chartF (rn j) (r j) (q j) := by unfold CheckErr; rw [if_neg (by rw [hN0]; decide), if_neg (fun h => by have := h.1; omega)]
        have k0 : decide (0 < (j : Int)) = false := decide_eq_false (by omega)
        have k9 : decide (0 < j) = false := decide_eq_false (by omega)
        clear hcl hb hj0 hN
        have hE : CheckErr nm rn r q j = chartF (rn j) (r j) (q j) := hE0
        obtain ⟨ce, hce⟩ : ∃ ce, chartF (rn j) (r j) (q j) = ce := ⟨_, rfl⟩
        rw [hce] at hE
        by_cases hz : ce = 0
        · have hq2 : Hid (checkFrom n nm rn r q (n - (j + 1)) (j + 1) = R) := by
            show _ = R
            rw [← hq.out, show n - j = (n - (j + 1)) + 1 by omega, checkFrom, if_neg (by rw [hE, hz]; decide)]
          have HCE := Lib.hid hce
          have e5 : (ce != 0) = false := by simpa using hz
          clear hE hce hz hE0
          go_wp2_with fail
          (go_at_call 12; refine (rIsName_any _ _ hns).mono ?_; rintro e w1 ⟨rfl, hb1⟩)
          rw [hN0]
          have HB1 : Hid (Below wr.heap.size wr w1) := hb1
          clear hb1
          have hw1 : wr.heap.size ≤ w1.heap.size := HB1.out.size
          have hbw1 : b < w1.heap.size := by omega
          have y1c0 := (HB1.out.cell (p := ⟨b, off + j * 2, none⟩) (by omega))
          rw [c0] at y1c0
          have y1c1 := (HB1.out.cell (p := ⟨b, off + j * 2 + 1, none⟩) (by omega))
          rw [c1] at y1c1
          go_wp2_with fail
          refine wp_region_past (by kernel_rfl) (by kernel_rfl) ?_
          iterate 16 go_big_quiet_step (fail)
          refine wpQuiet_nil ?_
          intro w2 hw'
          have hb1 := past_out hw'
          clear hw'
          have HB2 : Hid (Below wr.heap.size wr w2) := HB1.out.trans (hb1.mono HB1.out.size)
          clear hb1
          have hw2 : wr.heap.size ≤ w2.heap.size := HB2.out.size
          have hbw2 : b < w2.heap.size := by omega
          have y2c0 := (HB2.out.cell (p := ⟨b, off + j * 2, none⟩) (by omega))
          rw [c0] at y2c0
          have y2c1 := (HB2.out.cell (p := ⟨b, off + j * 2 + 1, none⟩) (by omega))
          rw [c1] at y2c1
          go_wp2_with fail
          (go_at_call 13; refine (rchart_any _ _ _ _ _ ((HP.out.below HBr.out).below HB2.out)).mono ?_; rintro e w4 ⟨rfl, hb4⟩)
          rw [HCE.out]
          go_wp2
          go_roundw
          case rel => exact ⟨j + 1, by omega, by go_num, hq2, below_step HBr.out (below_step HB2.out hb4)⟩
          case measure => simp [intOf]; omega
        · have hr : R = ce := by
            rw [← hq.out, show n - j = (n - (j + 1)) + 1 by omega, checkFrom, if_pos (by rw [hE]; exact hz), hE]
          have HR9 := Lib.hid hr
          have HCE := Lib.hid hce
          have e5 : (ce != 0) = true := by simpa using hz
          clear hE hce hz hE0 hr
          go_wp2_with fail
          (go_at_call 12; refine (rIsName_any _ _ hns).mono ?_; rintro e w1 ⟨rfl, hb1⟩)
          rw [hN0]
          have HB1 : Hid (Below wr.heap.size wr w1) := hb1
          clear hb1
          have hw1 : wr.heap.size ≤ w1.heap.size := HB1.out.size
          have hbw1 : b < w1.heap.size := by omega
          have y1c0 := (HB1.out.cell (p := ⟨b, off + j * 2, none⟩) (by omega))
          rw [c0] at y1c0
          have y1c1 := (HB1.out.cell (p := ⟨b, off + j * 2 + 1, none⟩) (by omega))
          rw [c1] at y1c1
          go_wp2_with fail
          refine wp_region_past (by kernel_rfl) (by kernel_rfl) ?_
          iterate 16 go_big_quiet_step (fail)
          refine wpQuiet_nil ?_
          intro w2 hw'
          have hb1 := past_out hw'
          clear hw'
          have HB2 : Hid (Below wr.heap.size wr w2) := HB1.out.trans (hb1.mono HB1.out.size)
          clear hb1
          have hw2 : wr.heap.size ≤ w2.heap.size := HB2.out.size
          have hbw2 : b < w2.heap.size := by omega
          have y2c0 := (HB2.out.cell (p := ⟨b, off + j * 2, none⟩) (by omega))
          rw [c0] at y2c0
          have y2c1 := (HB2.out.cell (p := ⟨b, off + j * 2 + 1, none⟩) (by omega))
          rw [c1] at y2c1
          go_wp2_with fail
          (go_at_call 13; refine (rchart_any _ _ _ _ _ ((HP.out.below HBr.out).below HB2.out)).mono ?_; rintro e w4 ⟨rfl, hb4⟩)
          rw [HCE.out]
          go_wp2
          go_returns
          rw [HR9.out]
          exact ⟨rfl, below_step HBr.out (below_step HB2.out hb4)⟩
      have hjp : 0 < j := by omega
      have d0 : wr.cell? ⟨b, off + (j - 1) * 2, none⟩ = some (.string (nm (j - 1))) := (hb.cell (p := ⟨_, _, none⟩) hbl).trans (hcl (j - 1) (by omega)).1
      have k0 : decide (0 < (j : Int)) = true := decide_eq_true (by omega)
      have k3 : (0 : Int) ≤ (j : Int) - 1 := by omega
      have k4 : (j : Int) - 1 < n := by omega
      have k5 : ((j : Int) - 1).toNat = j - 1 := by omega
      have k1 : IntKind.i64.wrap ((j : Int) - 1) = (j : Int) - 1 := IntWalk.i64_in _ (by omega)
      clear hcl hb hj0 hN
      by_cases hd1 : strLe (nm j) (nm (j - 1)) = true
      · have hE : CheckErr nm rn r q j = 11 := by unfold CheckErr; rw [if_neg (by rw [hN0]; decide), if_pos ⟨hjp, hd1⟩]
        have hr : R = 11 := by
          rw [← hq.out, show n - j = (n - (j + 1)) + 1 by omega, checkFrom, if_pos (by rw [hE]; decide), hE]
        have HR9 := Lib.hid hr
        clear hr hE
        have hle : (Op.bytesLess (nm j).toList (nm (j - 1)).toList || (nm j).toList == (nm (j - 1)).toList) = true := hd1
        clear hd1
        go_wp2_with fail
        (go_at_call 12; refine (rIsName_any _ _ hns).mono ?_; rintro e w1 ⟨rfl, hb1⟩)
        rw [hN0]
        have HB1 : Hid (Below wr.heap.size wr w1) := hb1
        clear hb1
        have hw1 : wr.heap.size ≤ w1.heap.size := HB1.out.size
        have hbw1 : b < w1.heap.size := by omega
        have y1c0 := (HB1.out.cell (p := ⟨b, off + j * 2, none⟩) (by omega))
        rw [c0] at y1c0
        have y1c1 := (HB1.out.cell (p := ⟨b, off + j * 2 + 1, none⟩) (by omega))
        rw [c1] at y1c1
        have y1d0 := (HB1.out.cell (p := ⟨b, off + (j - 1) * 2, none⟩) (by omega))
        rw [d0] at y1d0
        go_wp2_with fail
        refine wp_region_past (by kernel_rfl) (by kernel_rfl) ?_
        iterate 16 go_big_quiet_step (fail)
        refine wpQuiet_nil ?_
        intro w2 hw'
        have hb1 := past_out hw'
        clear hw'
        have HB2 : Hid (Below wr.heap.size wr w2) := HB1.out.trans (hb1.mono HB1.out.size)
        clear hb1
        go_wp2
        go_returns
        rw [HR9.out]
        exact ⟨rfl, below_step HBr.out HB2.out⟩
      have hd2 : strLe (nm j) (nm (j - 1)) = false := by simpa using hd1
      have hE0 : CheckErr nm rn r q j = chartF (rn j) (r j) (q j) := by unfold CheckErr; rw [if_neg (by rw [hN0]; decide), if_neg (fun h => hd1 h.2)]
      have hle : (Op.bytesLess (nm j).toList (nm (j - 1)).toList || (nm j).toList == (nm (j - 1)).toList) = false := hd2
      clear hd1 hd2
      have hE : CheckErr nm rn r q j = chartF (rn j) (r j) (q j) := hE0
      obtain ⟨ce, hce⟩ : ∃ ce, chartF (rn j) (r j) (q j) = ce := ⟨_, rfl⟩
      rw [hce] at hE
      by_cases hz : ce = 0
      · have hq2 : Hid (checkFrom n nm rn r q (n - (j + 1)) (j + 1) = R) := by
          show _ = R
          rw [← hq.out, show n - j = (n - (j + 1)) + 1 by omega, checkFrom, if_neg (by rw [hE, hz]; decide)]
        have HCE := Lib.hid hce
        have e5 : (ce != 0) = false := by simpa using hz
        clear hE hce hz hE0
        go_wp2_with fail
        (go_at_call 12; refine (rIsName_any _ _ hns).mono ?_; rintro e w1 ⟨rfl, hb1⟩)
        rw [hN0]
        have HB1 : Hid (Below wr.heap.size wr w1) := hb1
        clear hb1
        have hw1 : wr.heap.size ≤ w1.heap.size := HB1.out.size
        have hbw1 : b < w1.heap.size := by omega
        have y1c0 := (HB1.out.cell (p := ⟨b, off + j * 2, none⟩) (by omega))
        rw [c0] at y1c0
        have y1c1 := (HB1.out.cell (p := ⟨b, off + j * 2 + 1, none⟩) (by omega))
        rw [c1] at y1c1
        have y1d0 := (HB1.out.cell (p := ⟨b, off + (j - 1) * 2, none⟩) (by omega))
        rw [d0] at y1d0
        go_wp2_with fail
        refine wp_region_past (by kernel_rfl) (by kernel_rfl) ?_
        iterate 16 go_big_quiet_step (fail)
        refine wpQuiet_nil ?_
        intro w2 hw'
        have hb1 := past_out hw'
        clear hw'
        have HB2 : Hid (Below wr.heap.size wr w2) := HB1.out.trans (hb1.mono HB1.out.size)
        clear hb1
        have hw2 : wr.heap.size ≤ w2.heap.size := HB2.out.size
        have hbw2 : b < w2.heap.size := by omega
        have y2c0 := (HB2.out.cell (p := ⟨b, off + j * 2, none⟩) (by omega))
        rw [c0] at y2c0
        have y2c1 := (HB2.out.cell (p := ⟨b, off + j * 2 + 1, none⟩) (by omega))
        rw [c1] at y2c1
        go_wp2_with fail
        (go_at_call 13; refine (rchart_any _ _ _ _ _ ((HP.out.below HBr.out).below HB2.out)).mono ?_; rintro e w4 ⟨rfl, hb4⟩)
        rw [HCE.out]
        go_wp2
        go_roundw
        case rel => exact ⟨j + 1, by omega, by go_num, hq2, below_step HBr.out (below_step HB2.out hb4)⟩
        case measure => simp [intOf]; omega
      · have hr : R = ce := by
          rw [← hq.out, show n - j = (n - (j + 1)) + 1 by omega, checkFrom, if_pos (by rw [hE]; exact hz), hE]
        have HR9 := Lib.hid hr
        have HCE := Lib.hid hce
        have e5 : (ce != 0) = true := by simpa using hz
        clear hE hce hz hE0 hr
        go_wp2_with fail
        (go_at_call 12; refine (rIsName_any _ _ hns).mono ?_; rintro e w1 ⟨rfl, hb1⟩)
        rw [hN0]
        have HB1 : Hid (Below wr.heap.size wr w1) := hb1
        clear hb1
        have hw1 : wr.heap.size ≤ w1.heap.size := HB1.out.size
        have hbw1 : b < w1.heap.size := by omega
        have y1c0 := (HB1.out.cell (p := ⟨b, off + j * 2, none⟩) (by omega))
        rw [c0] at y1c0
        have y1c1 := (HB1.out.cell (p := ⟨b, off + j * 2 + 1, none⟩) (by omega))
        rw [c1] at y1c1
        have y1d0 := (HB1.out.cell (p := ⟨b, off + (j - 1) * 2, none⟩) (by omega))
        rw [d0] at y1d0
        go_wp2_with fail
        refine wp_region_past (by kernel_rfl) (by kernel_rfl) ?_
        iterate 16 go_big_quiet_step (fail)
        refine wpQuiet_nil ?_
        intro w2 hw'
        have hb1 := past_out hw'
        clear hw'
        have HB2 : Hid (Below wr.heap.size wr w2) := HB1.out.trans (hb1.mono HB1.out.size)
        clear hb1
        have hw2 : wr.heap.size ≤ w2.heap.size := HB2.out.size
        have hbw2 : b < w2.heap.size := by omega
        have y2c0 := (HB2.out.cell (p := ⟨b, off + j * 2, none⟩) (by omega))
        rw [c0] at y2c0
        have y2c1 := (HB2.out.cell (p := ⟨b, off + j * 2 + 1, none⟩) (by omega))
        rw [c1] at y2c1
        go_wp2_with fail
        (go_at_call 13; refine (rchart_any _ _ _ _ _ ((HP.out.below HBr.out).below HB2.out)).mono ?_; rintro e w4 ⟨rfl, hb4⟩)
        rw [HCE.out]
        go_wp2
        go_returns
        rw [HR9.out]
        exact ⟨rfl, below_step HBr.out (below_step HB2.out hb4)⟩
    · have hr : R = 0 := by
        rw [← hq.out, show n - j = 0 by omega, checkFrom]
      have HR9 := Lib.hid hr
      clear hr
      have HBr := Lib.hid hb
      clear hb
      go_wp2
      go_returns
      rw [HR9.out]
      exact ⟨rfl, HBr.out⟩
end Go.Proofs.YtbfbifogamlepaaDoor
