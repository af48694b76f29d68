/-
  What the reference's Check returns. Conditions: none. By an AI agent.
-/
import Derived.Test.YtbfbifogamlepaaDoorLiftF
import Derived.Test.YtbfbifogamlepaaDoorLiftD
namespace Go.Proofs.YtbfbifogamlepaaDoor
open Go Go.ChangeShapes Go.WideShapes Go.RowKit Go.ChangeAt
set_option linter.unusedSimpArgs false
set_option linter.unusedVariables false
set_option maxRecDepth 20000 in
set_option maxHeartbeats 8000000 in
theorem rlift_any (blk : ByteArray) (hv : Value) (n : Nat) (cr : Nat → ByteArray) (hx hy hr : Nat → Int) (m x y z v : Int) (cv : Value) (nc : Nat) (nm : Nat → ByteArray) (cw : Nat → Value) (rn : Nat → Nat) (rr qq : Nat → Nat → Int) (w : World) (hbk : blk.size ≤ 2147483648) (hm : MaxLenIs w) (h : HooksAt w hv n cr hx hy hr) (hc : CranesAt w cv nc nm cw rn rr qq) (hsmall : ∀ i, i < nc → rn i ≤ 1000) :
    Calls Tryd.prog 6 #[.agg #[.string blk, hv], .agg #[.int .i64 m, .int .i64 x, .int .i64 y, .int .i64 z, .int .i64 v], cv] w fun e w' => e = .returned (.int .i64 (liftF blk n cr hx hy hr m x y z v nc nm rn rr qq)) ∧ Below w.heap.size w w' := by
  have HHK := Lib.hid h
  have HCA := Lib.hid hc
  have HSM := Lib.hid hsmall
  have HM := Lib.hid hm
  obtain ⟨oa, cap, rfl, hn, hel⟩ := h.form
  have HEL := Lib.hid hel
  clear h hel hc hsmall hm
  by_cases hid : idB blk = false
  · have HID := Lib.hid hid
    have E1 : Hid (liftF blk n cr hx hy hr m x y z v nc nm rn rr qq = 6) := by
      show _ = _
      unfold liftF
      rw [if_pos hid]
    clear hid
    go_enter Tryd.func6, Tryd.ntmps6
    go_wp2_with fail
    (go_at_call 15; refine (rIsId_any _ _ (by omega)).mono ?_; rintro e w1 ⟨rfl, hb⟩)
    rw [HID.out]
    have hsw1 := hb.size
    (try simp only [World.size_alloc, World.size_setCell] at hsw1)
    have zw10 : w.heap.size < w1.heap.size := by omega
    have zw11 : w.heap.size + 1 < w1.heap.size := by omega
    clear hsw1
    have kHw1 : w1.cell? ⟨w.heap.size, 1, none⟩ = some (.slice oa n cap) := (hb.cell (p := ⟨_, _, none⟩) (by simp <;> omega)).trans (by simp [go_sem])
    have kBw1 : w1.cell? ⟨w.heap.size, 0, none⟩ = some (.string blk) := (hb.cell (p := ⟨_, _, none⟩) (by simp <;> omega)).trans (by simp [go_sem])
    have k0w1 : w1.cell? ⟨w.heap.size + 1, 0, none⟩ = some (.int .i64 m) := (hb.cell (p := ⟨_, _, none⟩) (by simp <;> omega)).trans (by simp [go_sem])
    have k1w1 : w1.cell? ⟨w.heap.size + 1, 1, none⟩ = some (.int .i64 x) := (hb.cell (p := ⟨_, _, none⟩) (by simp <;> omega)).trans (by simp [go_sem])
    have k2w1 : w1.cell? ⟨w.heap.size + 1, 2, none⟩ = some (.int .i64 y) := (hb.cell (p := ⟨_, _, none⟩) (by simp <;> omega)).trans (by simp [go_sem])
    have k3w1 : w1.cell? ⟨w.heap.size + 1, 3, none⟩ = some (.int .i64 z) := (hb.cell (p := ⟨_, _, none⟩) (by simp <;> omega)).trans (by simp [go_sem])
    have k4w1 : w1.cell? ⟨w.heap.size + 1, 4, none⟩ = some (.int .i64 v) := (hb.cell (p := ⟨_, _, none⟩) (by simp <;> omega)).trans (by simp [go_sem])
    have HB1 : Hid (Below w.heap.size w w1) := by
      show Below _ _ _
      exact below_step (w := w) (by go_grown) hb
    clear hb
    go_wp2
    go_returns
    rw [E1.out]
    exact ⟨rfl, HB1.out⟩
  have hid1 : idB blk = true := by simpa using hid
  have HID := Lib.hid hid1
  have HIN := Lib.hid hid
  clear hid hid1
  by_cases hc1 : countF n ≠ 0
  · have c0 : (countF n != 0) = true := by simpa using hc1
    have E1 : Hid (liftF blk n cr hx hy hr m x y z v nc nm rn rr qq = countF n) := by
      show _ = _
      unfold liftF
      rw [if_neg HIN.out, if_pos hc1]
    clear hc1
    go_enter Tryd.func6, Tryd.ntmps6
    go_wp2_with fail
    (go_at_call 15; refine (rIsId_any _ _ (by omega)).mono ?_; rintro e w1 ⟨rfl, hb⟩)
    rw [HID.out]
    have hsw1 := hb.size
    (try simp only [World.size_alloc, World.size_setCell] at hsw1)
    have zw10 : w.heap.size < w1.heap.size := by omega
    have zw11 : w.heap.size + 1 < w1.heap.size := by omega
    clear hsw1
    have kHw1 : w1.cell? ⟨w.heap.size, 1, none⟩ = some (.slice oa n cap) := (hb.cell (p := ⟨_, _, none⟩) (by simp <;> omega)).trans (by simp [go_sem])
    have kBw1 : w1.cell? ⟨w.heap.size, 0, none⟩ = some (.string blk) := (hb.cell (p := ⟨_, _, none⟩) (by simp <;> omega)).trans (by simp [go_sem])
    have k0w1 : w1.cell? ⟨w.heap.size + 1, 0, none⟩ = some (.int .i64 m) := (hb.cell (p := ⟨_, _, none⟩) (by simp <;> omega)).trans (by simp [go_sem])
    have k1w1 : w1.cell? ⟨w.heap.size + 1, 1, none⟩ = some (.int .i64 x) := (hb.cell (p := ⟨_, _, none⟩) (by simp <;> omega)).trans (by simp [go_sem])
    have k2w1 : w1.cell? ⟨w.heap.size + 1, 2, none⟩ = some (.int .i64 y) := (hb.cell (p := ⟨_, _, none⟩) (by simp <;> omega)).trans (by simp [go_sem])
    have k3w1 : w1.cell? ⟨w.heap.size + 1, 3, none⟩ = some (.int .i64 z) := (hb.cell (p := ⟨_, _, none⟩) (by simp <;> omega)).trans (by simp [go_sem])
    have k4w1 : w1.cell? ⟨w.heap.size + 1, 4, none⟩ = some (.int .i64 v) := (hb.cell (p := ⟨_, _, none⟩) (by simp <;> omega)).trans (by simp [go_sem])
    have HB1 : Hid (Below w.heap.size w w1) := by
      show Below _ _ _
      exact below_step (w := w) (by go_grown) hb
    clear hb
    go_wp2_with fail
    (go_at_call 16; refine (count_any _ _ _ _ _ hn).mono ?_; rintro e w2 ⟨rfl, hb⟩)
    have HB2 := Lib.hid (below_step HB1.out hb)
    clear hb
    go_wp2
    go_returns
    rw [E1.out]
    exact ⟨rfl, HB2.out⟩
  have hc0 : countF n = 0 := by omega
  have n12 : n = 1 ∨ n = 2 := by
    unfold countF at hc0
    split at hc0
    · cases hc0
    · split at hc0
      · cases hc0
      · omega
  have n1 : 1 ≤ n := by omega
  have n2 : n ≤ 2 := by omega
  clear n12 hc1
  have HC0 := Lib.hid hc0
  obtain ⟨HK, hHK⟩ : ∃ HK, hooksFrom nc nm cr n 0 = HK := ⟨_, rfl⟩
  obtain ⟨L, LE, hL⟩ : ∃ L LE, loadsF n hx hy m x y z v = (L, LE) := ⟨_, _, rfl⟩
  have E0 : Hid (liftF blk n cr hx hy hr m x y z v nc nm rn rr qq = if HK ≠ 0 then HK else if LE ≠ 0 then LE else overFrom nc nm rn rr qq cr hr L n 0) := by
    show _ = _
    unfold liftF
    rw [if_neg HIN.out, if_neg (fun h => h hc0), hHK, hL]
  have HHK2 := Lib.hid hHK
  have HL := Lib.hid hL
  clear hHK hL hc0
  go_enter Tryd.func6, Tryd.ntmps6
  go_wp2_with fail
  (go_at_call 15; refine (rIsId_any _ _ (by omega)).mono ?_; rintro e w1 ⟨rfl, hb⟩)
  rw [HID.out]
  have hsw1 := hb.size
  (try simp only [World.size_alloc, World.size_setCell] at hsw1)
  have zw10 : w.heap.size < w1.heap.size := by omega
  have zw11 : w.heap.size + 1 < w1.heap.size := by omega
  clear hsw1
  have kHw1 : w1.cell? ⟨w.heap.size, 1, none⟩ = some (.slice oa n cap) := (hb.cell (p := ⟨_, _, none⟩) (by simp <;> omega)).trans (by simp [go_sem])
  have kBw1 : w1.cell? ⟨w.heap.size, 0, none⟩ = some (.string blk) := (hb.cell (p := ⟨_, _, none⟩) (by simp <;> omega)).trans (by simp [go_sem])
  have k0w1 : w1.cell? ⟨w.heap.size + 1, 0, none⟩ = some (.int .i64 m) := (hb.cell (p := ⟨_, _, none⟩) (by simp <;> omega)).trans (by simp [go_sem])
  have k1w1 : w1.cell? ⟨w.heap.size + 1, 1, none⟩ = some (.int .i64 x) := (hb.cell (p := ⟨_, _, none⟩) (by simp <;> omega)).trans (by simp [go_sem])
  have k2w1 : w1.cell? ⟨w.heap.size + 1, 2, none⟩ = some (.int .i64 y) := (hb.cell (p := ⟨_, _, none⟩) (by simp <;> omega)).trans (by simp [go_sem])
  have k3w1 : w1.cell? ⟨w.heap.size + 1, 3, none⟩ = some (.int .i64 z) := (hb.cell (p := ⟨_, _, none⟩) (by simp <;> omega)).trans (by simp [go_sem])
  have k4w1 : w1.cell? ⟨w.heap.size + 1, 4, none⟩ = some (.int .i64 v) := (hb.cell (p := ⟨_, _, none⟩) (by simp <;> omega)).trans (by simp [go_sem])
  have HB1 : Hid (Below w.heap.size w w1) := by
    show Below _ _ _
    exact below_step (w := w) (by go_grown) hb
  clear hb
  go_wp2_with fail
  (go_at_call 16; refine (count_any _ _ _ _ _ hn).mono ?_; rintro e w2 ⟨rfl, hb⟩)
  rw [HC0.out]
  have hsw2 := hb.size
  (try simp only [World.size_alloc, World.size_setCell] at hsw2)
  have zw20 : w.heap.size < w2.heap.size := by omega
  have zw21 : w.heap.size + 1 < w2.heap.size := by omega
  clear hsw2
  have kHw2 : w2.cell? ⟨w.heap.size, 1, none⟩ = some (.slice oa n cap) := (hb.cell (p := ⟨_, _, none⟩) zw10).trans kHw1
  have kBw2 : w2.cell? ⟨w.heap.size, 0, none⟩ = some (.string blk) := (hb.cell (p := ⟨_, _, none⟩) zw10).trans kBw1
  have k0w2 : w2.cell? ⟨w.heap.size + 1, 0, none⟩ = some (.int .i64 m) := (hb.cell (p := ⟨_, _, none⟩) zw11).trans k0w1
  have k1w2 : w2.cell? ⟨w.heap.size + 1, 1, none⟩ = some (.int .i64 x) := (hb.cell (p := ⟨_, _, none⟩) zw11).trans k1w1
  have k2w2 : w2.cell? ⟨w.heap.size + 1, 2, none⟩ = some (.int .i64 y) := (hb.cell (p := ⟨_, _, none⟩) zw11).trans k2w1
  have k3w2 : w2.cell? ⟨w.heap.size + 1, 3, none⟩ = some (.int .i64 z) := (hb.cell (p := ⟨_, _, none⟩) zw11).trans k3w1
  have k4w2 : w2.cell? ⟨w.heap.size + 1, 4, none⟩ = some (.int .i64 v) := (hb.cell (p := ⟨_, _, none⟩) zw11).trans k4w1
  have HB2 := Lib.hid (below_step HB1.out hb)
  clear hb kHw1 kBw1 k0w1 k1w1 k2w1 k3w1 k4w1
  go_wp2
  go_loopw [8] (fun i wr => ∃ j : Nat, j ≤ n ∧ i = .int .i64 j ∧ Hid (hooksFrom nc nm cr (n - j) j = HK) ∧ Below w2.heap.size w2 wr) (fun i _ => n - (intOf i).toNat)
  case atStart => exact ⟨0, by omega, rfl, HHK2.out, Below.refl _ _⟩
  case round =>
    obtain ⟨j, hj, rfl, hq, hb⟩ := hrel
    have hswr := hb.size
    (try simp only [World.size_alloc, World.size_setCell] at hswr)
    have zwr0 : w.heap.size < wr.heap.size := by omega
    have zwr1 : w.heap.size + 1 < wr.heap.size := by omega
    clear hswr
    have kHwr : wr.cell? ⟨w.heap.size, 1, none⟩ = some (.slice oa n cap) := (hb.cell (p := ⟨_, _, none⟩) zw20).trans kHw2
    have kBwr : wr.cell? ⟨w.heap.size, 0, none⟩ = some (.string blk) := (hb.cell (p := ⟨_, _, none⟩) zw20).trans kBw2
    have k0wr : wr.cell? ⟨w.heap.size + 1, 0, none⟩ = some (.int .i64 m) := (hb.cell (p := ⟨_, _, none⟩) zw21).trans k0w2
    have k1wr : wr.cell? ⟨w.heap.size + 1, 1, none⟩ = some (.int .i64 x) := (hb.cell (p := ⟨_, _, none⟩) zw21).trans k1w2
    have k2wr : wr.cell? ⟨w.heap.size + 1, 2, none⟩ = some (.int .i64 y) := (hb.cell (p := ⟨_, _, none⟩) zw21).trans k2w2
    have k3wr : wr.cell? ⟨w.heap.size + 1, 3, none⟩ = some (.int .i64 z) := (hb.cell (p := ⟨_, _, none⟩) zw21).trans k3w2
    have k4wr : wr.cell? ⟨w.heap.size + 1, 4, none⟩ = some (.int .i64 v) := (hb.cell (p := ⟨_, _, none⟩) zw21).trans k4w2
    have HBr := Lib.hid (below_step HB2.out hb)
    have HBR := Lib.hid hb
    clear hb
    by_cases hlt : j < n
    · obtain ⟨b, off, rfl, hbl, hcl⟩ := HEL.out j hlt
      have hcrwrc : ∀ o, wr.cell? ⟨b, o, none⟩ = w.cell? ⟨b, o, none⟩ := fun o => (HBr.out).cell (p := ⟨_, _, none⟩) hbl
      have c0 : wr.cell? ⟨b, off + j * 4, none⟩ = some (.string (cr j)) := (hcrwrc _).trans (hcl j hlt).1
      have c1 : wr.cell? ⟨b, off + j * 4 + 1, none⟩ = some (.int .i64 (hx j)) := (hcrwrc _).trans (hcl j hlt).2.1
      have c2 : wr.cell? ⟨b, off + j * 4 + 2, none⟩ = some (.int .i64 (hy j)) := (hcrwrc _).trans (hcl j hlt).2.2.1
      have c3 : wr.cell? ⟨b, off + j * 4 + 3, none⟩ = some (.int .i64 (hr j)) := (hcrwrc _).trans (hcl j hlt).2.2.2
      clear hcrwrc
      have hbr : b < wr.heap.size := by have := HBr.out.size; omega
      have hws : w.heap.size ≤ wr.heap.size := HBr.out.size
      have hne : b ≠ wr.heap.size := by omega
      obtain ⟨FF, hFF⟩ : ∃ FF, findF nc nm (cr j) = FF := ⟨_, rfl⟩
      have HFF := Lib.hid hFF
      clear hFF
      by_cases hf : FF < nc
      · have k0 : decide (FF < nc) = true := decide_eq_true hf
        have hpc := past_cell
        by_cases hj0 : j = 0
        · have g0 : decide (0 < (j : Int)) = false := decide_eq_false (by omega)
          have g9 : decide (0 < j) = false := decide_eq_false (by omega)
          have hq2 : Hid (hooksFrom nc nm cr (n - (j + 1)) (j + 1) = HK) := by
            show _ = _
            rw [← hq.out, show n - j = (n - (j + 1)) + 1 by omega]
            conv => rhs; unfold hooksFrom
            rw [if_neg (by rw [HFF.out]; exact fun h => h hf), if_neg (fun h => by have := h.1; omega)]
          clear hcl hj0
          go_wp2_with fail
          (go_at_call 17; refine (rfind_any _ _ _ _ _ _ _ _ _ (HCA.out.below HBr.out)).mono ?_; rintro e w3 ⟨sv, rfl, hp, hb⟩)
          rw [HFF.out] at hp ⊢
          obtain ⟨osv, csv, rfl, -, -⟩ := hp.form
          have HP := Lib.hid hp
          have hsw3 := hb.size
          (try simp only [World.size_alloc] at hsw3)
          have zw30 : w.heap.size < w3.heap.size := by omega
          have zw31 : w.heap.size + 1 < w3.heap.size := by omega
          have zw3b : b < w3.heap.size := by omega
          have kHw3 : w3.cell? ⟨w.heap.size, 1, none⟩ = some (.slice (some ⟨b, off, none⟩) n cap) := (hb.cell (p := ⟨w.heap.size, _, none⟩) (by omega)).trans kHwr
          have d0 : w3.cell? ⟨b, off + j * 4, none⟩ = some (.string (cr j)) := (hb.cell (p := ⟨b, _, none⟩) (by omega)).trans c0
          have d3 : w3.cell? ⟨b, off + j * 4 + 3, none⟩ = some (.int .i64 (hr j)) := (hb.cell (p := ⟨b, _, none⟩) (by omega)).trans c3
          have HBFw3 : Hid (Below w.heap.size w w3) := by
            show Below _ _ _
            exact below_step HBr.out hb
          have HBQw3 : Hid (Below wr.heap.size wr w3) := by
            show Below _ _ _
            exact hb
          clear hsw3
          clear hb hp
          rw [k0]
          go_wp2_with fail
          refine wp_region_past (by kernel_rfl) (by kernel_rfl) ?_
          iterate 18 go_big_quiet_step (fail)
          refine wpQuiet_nil ?_
          intro w4 hw'
          have hb1 := past_out hw'
          clear hw'
          have HB4 : Hid (Below w2.heap.size w2 w4) := by
            show Below _ _ _
            exact below_step (below_step HBR.out (below_step (w := wr) ((HBQw3.out).alloc (HBQw3.out).size _) hb1)) (Below.refl _ _)
          have HB5 : Hid (Below w.heap.size w w4) := Lib.hid (below_step HB2.out HB4.out)
          clear hb1
          go_wp2
          go_roundw
          case rel => exact ⟨j + 1, by omega, by go_num, hq2, HB4.out⟩
          case measure => simp [intOf]; omega
        · have hjp : 0 < j := by omega
          clear hj0
          have g0 : decide (0 < (j : Int)) = true := decide_eq_true (by omega)
          have g3 : (0 : Int) ≤ (j : Int) - 1 := by omega
          have g4 : (j : Int) - 1 < n := by omega
          have g5 : ((j : Int) - 1).toNat = j - 1 := by omega
          have g1 : IntKind.i64.wrap ((j : Int) - 1) = (j : Int) - 1 := IntWalk.i64_in _ (by omega)
          have hcrwrp : ∀ o, wr.cell? ⟨b, o, none⟩ = w.cell? ⟨b, o, none⟩ := fun o => (HBr.out).cell (p := ⟨_, _, none⟩) hbl
          have p0 : wr.cell? ⟨b, off + (j - 1) * 4, none⟩ = some (.string (cr (j - 1))) := (hcrwrp _).trans (hcl (j - 1) (by omega)).1
          have p1 : wr.cell? ⟨b, off + (j - 1) * 4 + 1, none⟩ = some (.int .i64 (hx (j - 1))) := (hcrwrp _).trans (hcl (j - 1) (by omega)).2.1
          have p2 : wr.cell? ⟨b, off + (j - 1) * 4 + 2, none⟩ = some (.int .i64 (hy (j - 1))) := (hcrwrp _).trans (hcl (j - 1) (by omega)).2.2.1
          have p3 : wr.cell? ⟨b, off + (j - 1) * 4 + 3, none⟩ = some (.int .i64 (hr (j - 1))) := (hcrwrp _).trans (hcl (j - 1) (by omega)).2.2.2
          clear hcrwrp
          by_cases he : ((cr j).toList == (cr (j - 1)).toList) = true
          · have hr7 : HK = 7 := by rw [← hq.out, show n - j = (n - (j + 1)) + 1 by omega, hooksFrom, if_neg (by rw [HFF.out]; exact fun h => h hf), if_pos ⟨hjp, he⟩]
            have HR7 := Lib.hid hr7
            have E1 : Hid (liftF blk n cr hx hy hr m x y z v nc nm rn rr qq = 7) := by
              show _ = _
              rw [E0.out, HR7.out]; rfl
            clear hr7 hcl
            go_wp2_with fail
            (go_at_call 17; refine (rfind_any _ _ _ _ _ _ _ _ _ (HCA.out.below HBr.out)).mono ?_; rintro e w3 ⟨sv, rfl, hp, hb⟩)
            rw [HFF.out] at hp ⊢
            obtain ⟨osv, csv, rfl, -, -⟩ := hp.form
            have HP := Lib.hid hp
            have hsw3 := hb.size
            (try simp only [World.size_alloc] at hsw3)
            have zw30 : w.heap.size < w3.heap.size := by omega
            have zw31 : w.heap.size + 1 < w3.heap.size := by omega
            have zw3b : b < w3.heap.size := by omega
            have kHw3 : w3.cell? ⟨w.heap.size, 1, none⟩ = some (.slice (some ⟨b, off, none⟩) n cap) := (hb.cell (p := ⟨w.heap.size, _, none⟩) (by omega)).trans kHwr
            have d0 : w3.cell? ⟨b, off + j * 4, none⟩ = some (.string (cr j)) := (hb.cell (p := ⟨b, _, none⟩) (by omega)).trans c0
            have d3 : w3.cell? ⟨b, off + j * 4 + 3, none⟩ = some (.int .i64 (hr j)) := (hb.cell (p := ⟨b, _, none⟩) (by omega)).trans c3
            have HBFw3 : Hid (Below w.heap.size w w3) := by
              show Below _ _ _
              exact below_step HBr.out hb
            have HBQw3 : Hid (Below wr.heap.size wr w3) := by
              show Below _ _ _
              exact hb
            clear hsw3
            have t0 : w3.cell? ⟨b, off + (j - 1) * 4, none⟩ = some (.string (cr (j - 1))) := (hb.cell (p := ⟨b, _, none⟩) (by omega)).trans p0
            clear hb hp
            rw [k0]
            go_wp2_with fail
            refine wp_region_past (by kernel_rfl) (by kernel_rfl) ?_
            iterate 18 go_big_quiet_step (fail)
            refine wpQuiet_nil ?_
            intro w4 hw'
            have hb1 := past_out hw'
            clear hw'
            have HB4 : Hid (Below w2.heap.size w2 w4) := by
              show Below _ _ _
              exact below_step (below_step HBR.out (below_step (w := wr) ((HBQw3.out).alloc (HBQw3.out).size _) hb1)) (Below.refl _ _)
            have HB5 : Hid (Below w.heap.size w w4) := Lib.hid (below_step HB2.out HB4.out)
            clear hb1
            go_wp2
            go_returns
            rw [E1.out]
            exact ⟨rfl, HB5.out⟩
          · have he2 : ((cr j).toList == (cr (j - 1)).toList) = false := by simpa using he
            have hq2 : Hid (hooksFrom nc nm cr (n - (j + 1)) (j + 1) = HK) := by
              show _ = _
              rw [← hq.out, show n - j = (n - (j + 1)) + 1 by omega]
              conv => rhs; unfold hooksFrom
              rw [if_neg (by rw [HFF.out]; exact fun h => h hf), if_neg (fun h => he h.2)]
            clear hcl he
            go_wp2_with fail
            (go_at_call 17; refine (rfind_any _ _ _ _ _ _ _ _ _ (HCA.out.below HBr.out)).mono ?_; rintro e w3 ⟨sv, rfl, hp, hb⟩)
            rw [HFF.out] at hp ⊢
            obtain ⟨osv, csv, rfl, -, -⟩ := hp.form
            have HP := Lib.hid hp
            have hsw3 := hb.size
            (try simp only [World.size_alloc] at hsw3)
            have zw30 : w.heap.size < w3.heap.size := by omega
            have zw31 : w.heap.size + 1 < w3.heap.size := by omega
            have zw3b : b < w3.heap.size := by omega
            have kHw3 : w3.cell? ⟨w.heap.size, 1, none⟩ = some (.slice (some ⟨b, off, none⟩) n cap) := (hb.cell (p := ⟨w.heap.size, _, none⟩) (by omega)).trans kHwr
            have d0 : w3.cell? ⟨b, off + j * 4, none⟩ = some (.string (cr j)) := (hb.cell (p := ⟨b, _, none⟩) (by omega)).trans c0
            have d3 : w3.cell? ⟨b, off + j * 4 + 3, none⟩ = some (.int .i64 (hr j)) := (hb.cell (p := ⟨b, _, none⟩) (by omega)).trans c3
            have HBFw3 : Hid (Below w.heap.size w w3) := by
              show Below _ _ _
              exact below_step HBr.out hb
            have HBQw3 : Hid (Below wr.heap.size wr w3) := by
              show Below _ _ _
              exact hb
            clear hsw3
            have t0 : w3.cell? ⟨b, off + (j - 1) * 4, none⟩ = some (.string (cr (j - 1))) := (hb.cell (p := ⟨b, _, none⟩) (by omega)).trans p0
            clear hb hp
            rw [k0]
            go_wp2_with fail
            refine wp_region_past (by kernel_rfl) (by kernel_rfl) ?_
            iterate 18 go_big_quiet_step (fail)
            refine wpQuiet_nil ?_
            intro w4 hw'
            have hb1 := past_out hw'
            clear hw'
            have HB4 : Hid (Below w2.heap.size w2 w4) := by
              show Below _ _ _
              exact below_step (below_step HBR.out (below_step (w := wr) ((HBQw3.out).alloc (HBQw3.out).size _) hb1)) (Below.refl _ _)
            have HB5 : Hid (Below w.heap.size w w4) := Lib.hid (below_step HB2.out HB4.out)
            clear hb1
            go_wp2
            go_roundw
            case rel => exact ⟨j + 1, by omega, by go_num, hq2, HB4.out⟩
            case measure => simp [intOf]; omega
      · have k0 : decide (FF < nc) = false := decide_eq_false hf
        have hr8 : HK = 8 := by rw [← hq.out, show n - j = (n - (j + 1)) + 1 by omega, hooksFrom, if_pos (by rw [HFF.out]; exact hf)]
        have HR8 := Lib.hid hr8
        have E1 : Hid (liftF blk n cr hx hy hr m x y z v nc nm rn rr qq = 8) := by
          show _ = _
          rw [E0.out, HR8.out]; rfl
        clear hr8 hcl
        go_wp2_with fail
        (go_at_call 17; refine (rfind_any _ _ _ _ _ _ _ _ _ (HCA.out.below HBr.out)).mono ?_; rintro e w3 ⟨sv, rfl, hp, hb⟩)
        rw [HFF.out] at hp ⊢
        obtain ⟨osv, csv, rfl, -, -⟩ := hp.form
        have HP := Lib.hid hp
        have hsw3 := hb.size
        (try simp only [World.size_alloc] at hsw3)
        have zw30 : w.heap.size < w3.heap.size := by omega
        have zw31 : w.heap.size + 1 < w3.heap.size := by omega
        have zw3b : b < w3.heap.size := by omega
        have kHw3 : w3.cell? ⟨w.heap.size, 1, none⟩ = some (.slice (some ⟨b, off, none⟩) n cap) := (hb.cell (p := ⟨w.heap.size, _, none⟩) (by omega)).trans kHwr
        have d0 : w3.cell? ⟨b, off + j * 4, none⟩ = some (.string (cr j)) := (hb.cell (p := ⟨b, _, none⟩) (by omega)).trans c0
        have d3 : w3.cell? ⟨b, off + j * 4 + 3, none⟩ = some (.int .i64 (hr j)) := (hb.cell (p := ⟨b, _, none⟩) (by omega)).trans c3
        have HBFw3 : Hid (Below w.heap.size w w3) := by
          show Below _ _ _
          exact below_step HBr.out hb
        have HBQw3 : Hid (Below wr.heap.size wr w3) := by
          show Below _ _ _
          exact hb
        clear hsw3
        clear hb hp
        rw [k0]
        go_wp2
        go_returns
        rw [E1.out]
        exact ⟨rfl, (by first | exact HBFw3.out | exact HBFw3.out.alloc HBFw3.out.size _ | go_grown)⟩
    · have hjn : j = n := by omega
      have hk0 : HK = 0 := by rw [← hq.out, show n - j = 0 by omega]; rfl
      have HK0 := Lib.hid hk0
      have E2 : Hid (liftF blk n cr hx hy hr m x y z v nc nm rn rr qq = if LE ≠ 0 then LE else overFrom nc nm rn rr qq cr hr L n 0) := by
        show _ = _
        rw [E0.out, HK0.out]; rfl
      clear hk0 hq
      go_wp2_with fail
      (go_at_call 18; refine (rloads_any blk _ n cr hx hy hr m x y z v _ (HHK.out.below HBr.out)).mono ?_; rintro e w6 ⟨lv, rfl, hlv, -, hb⟩)
      rw [HL.out] at hlv ⊢
      have HLV := Lib.hid hlv
      have hsw6 := hb.size
      (try simp only [World.size_alloc, World.size_setCell] at hsw6)
      have zw60 : w.heap.size < w6.heap.size := by omega
      have zw61 : w.heap.size + 1 < w6.heap.size := by omega
      clear hsw6
      have kHw6 : w6.cell? ⟨w.heap.size, 1, none⟩ = some (.slice oa n cap) := (hb.cell (p := ⟨_, _, none⟩) zwr0).trans kHwr
      have kBw6 : w6.cell? ⟨w.heap.size, 0, none⟩ = some (.string blk) := (hb.cell (p := ⟨_, _, none⟩) zwr0).trans kBwr
      have k0w6 : w6.cell? ⟨w.heap.size + 1, 0, none⟩ = some (.int .i64 m) := (hb.cell (p := ⟨_, _, none⟩) zwr1).trans k0wr
      have k1w6 : w6.cell? ⟨w.heap.size + 1, 1, none⟩ = some (.int .i64 x) := (hb.cell (p := ⟨_, _, none⟩) zwr1).trans k1wr
      have k2w6 : w6.cell? ⟨w.heap.size + 1, 2, none⟩ = some (.int .i64 y) := (hb.cell (p := ⟨_, _, none⟩) zwr1).trans k2wr
      have k3w6 : w6.cell? ⟨w.heap.size + 1, 3, none⟩ = some (.int .i64 z) := (hb.cell (p := ⟨_, _, none⟩) zwr1).trans k3wr
      have k4w6 : w6.cell? ⟨w.heap.size + 1, 4, none⟩ = some (.int .i64 v) := (hb.cell (p := ⟨_, _, none⟩) zwr1).trans k4wr
      have HB6 := Lib.hid (below_step HBr.out hb)
      clear hb hlv
      by_cases hle : LE = 0
      · subst hle
        have hlen : L.length = n := by
          have h1 := loadsF_len (show (loadsF n hx hy m x y z v).2 = 0 by rw [HL.out])
          rw [HL.out] at h1
          exact h1
        have E3 : Hid (liftF blk n cr hx hy hr m x y z v nc nm rn rr qq = overFrom nc nm rn rr qq cr hr L n 0) := E2.out.trans (if_neg (fun h => h rfl))
        obtain ⟨ol, cl, rfl, -, hll⟩ := HLV.out.form
        rw [hlen] at hll ⊢
        obtain ⟨OV, hOV⟩ : ∃ OV, overFrom nc nm rn rr qq cr hr L n 0 = OV := ⟨_, rfl⟩
        rw [hOV] at E3
        have HOV := Lib.hid hOV
        have HLL := Lib.hid hll
        clear hll hOV hlen
        go_wp2
        go_loopw [13] (fun i wr => ∃ j : Nat, j ≤ n ∧ i = .int .i64 j ∧ Hid (overFrom nc nm rn rr qq cr hr L (n - j) j = OV) ∧ Below w6.heap.size w6 wr) (fun i _ => n - (intOf i).toNat)
        case atStart => exact ⟨0, by omega, rfl, HOV.out, Below.refl _ _⟩
        case round =>
          obtain ⟨j, hj, rfl, hq, hb⟩ := hrel
          have hswr := hb.size
          (try simp only [World.size_alloc, World.size_setCell] at hswr)
          have zwr0 : w.heap.size < wr.heap.size := by omega
          have zwr1 : w.heap.size + 1 < wr.heap.size := by omega
          clear hswr
          have kHwr : wr.cell? ⟨w.heap.size, 1, none⟩ = some (.slice oa n cap) := (hb.cell (p := ⟨_, _, none⟩) zw60).trans kHw6
          have kBwr : wr.cell? ⟨w.heap.size, 0, none⟩ = some (.string blk) := (hb.cell (p := ⟨_, _, none⟩) zw60).trans kBw6
          have k0wr : wr.cell? ⟨w.heap.size + 1, 0, none⟩ = some (.int .i64 m) := (hb.cell (p := ⟨_, _, none⟩) zw61).trans k0w6
          have k1wr : wr.cell? ⟨w.heap.size + 1, 1, none⟩ = some (.int .i64 x) := (hb.cell (p := ⟨_, _, none⟩) zw61).trans k1w6
          have k2wr : wr.cell? ⟨w.heap.size + 1, 2, none⟩ = some (.int .i64 y) := (hb.cell (p := ⟨_, _, none⟩) zw61).trans k2w6
          have k3wr : wr.cell? ⟨w.heap.size + 1, 3, none⟩ = some (.int .i64 z) := (hb.cell (p := ⟨_, _, none⟩) zw61).trans k3w6
          have k4wr : wr.cell? ⟨w.heap.size + 1, 4, none⟩ = some (.int .i64 v) := (hb.cell (p := ⟨_, _, none⟩) zw61).trans k4w6
          have HBq := Lib.hid (below_step HB6.out hb)
          have HBQ := Lib.hid hb
          clear hb
          by_cases hlt : j < n
          · obtain ⟨b, off, rfl, hbl, hcl⟩ := HEL.out j hlt
            have hcrwrc : ∀ o, wr.cell? ⟨b, o, none⟩ = w.cell? ⟨b, o, none⟩ := fun o => (HBq.out).cell (p := ⟨_, _, none⟩) hbl
            have c0 : wr.cell? ⟨b, off + j * 4, none⟩ = some (.string (cr j)) := (hcrwrc _).trans (hcl j hlt).1
            have c1 : wr.cell? ⟨b, off + j * 4 + 1, none⟩ = some (.int .i64 (hx j)) := (hcrwrc _).trans (hcl j hlt).2.1
            have c2 : wr.cell? ⟨b, off + j * 4 + 2, none⟩ = some (.int .i64 (hy j)) := (hcrwrc _).trans (hcl j hlt).2.2.1
            have c3 : wr.cell? ⟨b, off + j * 4 + 3, none⟩ = some (.int .i64 (hr j)) := (hcrwrc _).trans (hcl j hlt).2.2.2
            clear hcrwrc
            have hbr : b < wr.heap.size := by have := HBq.out.size; omega
            have hws : w.heap.size ≤ wr.heap.size := HBq.out.size
            have hne : b ≠ wr.heap.size := by omega
            obtain ⟨bl, ofl, rfl, hbll, hcll⟩ := HLL.out j hlt
            obtain ⟨lj, hlj⟩ : ∃ lj, L.getD j 0 = lj := ⟨_, rfl⟩
            have l0 : wr.cell? ⟨bl, ofl + j, none⟩ = some (.int .i64 lj) := by rw [← hlj]; exact (HBQ.out.cell (p := ⟨_, _, none⟩) hbll).trans (hcll j hlt)
            have hblr : bl < wr.heap.size := by have := HBQ.out.size; omega
            have HLJ := Lib.hid hlj
            obtain ⟨FF, hFF⟩ : ∃ FF, findF nc nm (cr j) = FF := ⟨_, rfl⟩
            have HFF := Lib.hid hFF
            obtain ⟨CL, hCL⟩ : ∃ CL, loadF (findLen nc rn FF) (rr FF) (qq FF) (hr j) = CL := ⟨_, rfl⟩
            have HCL := Lib.hid hCL
            have hcr : Hid (craneL nc nm rn rr qq (cr j) (hr j) = CL) := by
              show _ = _
              unfold craneL
              rw [HFF.out]; exact HCL.out
            obtain ⟨FB, hFB⟩ : ∃ FB, decide (FF < nc) = FB := ⟨_, rfl⟩
            have HFB := Lib.hid hFB
            clear hcl hlj hFF hCL hcll hFB
            have hpc := past_cell
            go_wp2_with fail
            (go_at_call 17; refine (rfind_any _ _ _ _ _ _ _ _ _ (HCA.out.below HBq.out)).mono ?_; rintro e w7 ⟨sv, rfl, hp, hb⟩)
            rw [HFF.out] at hp ⊢
            obtain ⟨osv, csv, rfl, -, -⟩ := hp.form
            have HP := Lib.hid hp
            have hsw7 := hb.size
            (try simp only [World.size_alloc] at hsw7)
            have zw70 : w.heap.size < w7.heap.size := by omega
            have zw71 : w.heap.size + 1 < w7.heap.size := by omega
            have zw7b : b < w7.heap.size := by omega
            have kHw7 : w7.cell? ⟨w.heap.size, 1, none⟩ = some (.slice (some ⟨b, off, none⟩) n cap) := (hb.cell (p := ⟨w.heap.size, _, none⟩) (by omega)).trans kHwr
            have d0 : w7.cell? ⟨b, off + j * 4, none⟩ = some (.string (cr j)) := (hb.cell (p := ⟨b, _, none⟩) (by omega)).trans c0
            have d3 : w7.cell? ⟨b, off + j * 4 + 3, none⟩ = some (.int .i64 (hr j)) := (hb.cell (p := ⟨b, _, none⟩) (by omega)).trans c3
            have HBFw7 : Hid (Below w.heap.size w w7) := by
              show Below _ _ _
              exact below_step HBq.out hb
            have HBQw7 : Hid (Below wr.heap.size wr w7) := by
              show Below _ _ _
              exact hb
            clear hsw7
            have l7 : w7.cell? ⟨bl, ofl + j, none⟩ = some (.int .i64 lj) := (hb.cell (p := ⟨bl, _, none⟩) (by omega)).trans l0
            have zbl7 : bl < w7.heap.size := by have := hb.size; (try simp only [World.size_alloc] at this); omega
            rw [HFB.out]
            clear hb hp
            have q1 : bl ≠ w7.heap.size := by omega
            have q2 : b ≠ w7.heap.size := by omega
            have q3 : w.heap.size ≠ w7.heap.size := by omega
            have q4 : bl < w7.heap.size + 1 := by omega
            have q5 : b < w7.heap.size + 1 := by omega
            have q6 : w.heap.size < w7.heap.size + 1 := by omega
            go_wp2_with fail
            refine wp_region_past (by kernel_rfl) (by kernel_rfl) ?_
            iterate 11 go_big_quiet_step (fail)
            go_big_quiet_step ((go_at_call 19; exact past_of (rload_any _ _ _ _ _ _ _ ((HP.out.below ((Below.refl w7.heap.size w7).alloc (Nat.le_refl _) _)).below (Past.h _)))))
            iterate 1 go_big_quiet_step (fail)
            refine wpQuiet_nil ?_
            intro w8 hw'
            have hb1 := past_out hw'
            clear hw'
            have HB8 : Hid (Below w6.heap.size w6 w8) := by
              show Below _ _ _
              exact below_step HBQ.out (below_step (w := wr) ((HBQw7.out).alloc (HBQw7.out).size _) hb1)
            clear hb1
            by_cases hov : CL < lj
            · have hr25 : OV = 25 := by rw [← hq.out, show n - j = (n - (j + 1)) + 1 by omega, overFrom, if_pos (by rw [hcr.out, HLJ.out]; exact hov)]
              have E1 : Hid (liftF blk n cr hx hy hr m x y z v nc nm rn rr qq = 25) := by
                show _ = _
                rw [E3.out, hr25]
              clear hr25
              have h25 := HCL.out
              rw [HCL.out]
              go_wp2
              go_returns
              rw [E1.out]
              exact ⟨rfl, below_step HB6.out HB8.out⟩
            · have hq2 : Hid (overFrom nc nm rn rr qq cr hr L (n - (j + 1)) (j + 1) = OV) := by
                show _ = _
                rw [← hq.out, show n - j = (n - (j + 1)) + 1 by omega]
                conv => rhs; unfold overFrom
                rw [if_neg (by rw [hcr.out, HLJ.out]; exact hov)]
              have hov2 : lj ≤ CL := by omega
              clear hov
              rw [HCL.out]
              go_wp2
              go_roundw
              case rel => exact ⟨j + 1, by omega, by go_num, hq2, HB8.out⟩
              case measure => simp [intOf]; omega
          · have hov : OV = 0 := by rw [← hq.out, show n - j = 0 by omega]; rfl
            have E1 : Hid (liftF blk n cr hx hy hr m x y z v nc nm rn rr qq = 0) := by
              show _ = _
              rw [E3.out, hov]
            clear hov hq
            go_wp2
            go_returns
            rw [E1.out]
            exact ⟨rfl, HBq.out⟩
      · have g0 : (LE != 0) = true := by simpa using hle
        have E1 : Hid (liftF blk n cr hx hy hr m x y z v nc nm rn rr qq = LE) := E2.out.trans (if_pos hle)
        clear hle
        go_wp2
        go_returns
        rw [E1.out]
        exact ⟨rfl, HB6.out⟩
end Go.Proofs.YtbfbifogamlepaaDoor
