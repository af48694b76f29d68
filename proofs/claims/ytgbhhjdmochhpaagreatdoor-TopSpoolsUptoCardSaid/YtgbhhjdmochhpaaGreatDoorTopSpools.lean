/-
  The law TopSpools, where what it reads is of bulk at most 1048576. Conditions: as stated. By an AI agent.
-/
import Derived.Test.YtgbhhjdmochhpaaGreatDoorSpoC
import Derived.Test.YtgbhhjdmochhpaaGreatDoorPipeJ
import Derived.Test.YtgbhhjdmochhpaaGreatDoorRelw
import Derived.Test.YtgbhhjdmochhpaaGreatDoorSeq
namespace Go.Proofs.YtgbhhjdmochhpaaGreatDoor
open Go Go.ChangeShapes Go.WideShapes Go.RowKit Go.ChangeAt
set_option linter.unusedVariables false
set_option linter.unusedSimpArgs false

set_option maxHeartbeats 16000000 in
set_option maxRecDepth 20000 in
theorem topSpools_walk (v u : Value) (n : Nat) (x y z : Nat → Int) (m : Mat) (gv : Nat → Value) (r : Int) (w : World) (hv : VecsAt w v n x y z) (hm : MatAt w u m gv) (hml : MaxLenIs w) : Calls Tryz.prog 3 #[v, u, .int .i64 r] w fun e w' => e = .returned (.bool true) ∧ Below w.heap.size w w' := by
  have HM := Lib.hid hm
  have HV := Lib.hid hv
  have HML := Lib.hid hml
  obtain ⟨op, cp, rfl, -, -⟩ := hv.form
  obtain ⟨vg, vs, rfl, hG, hS, -, -, -⟩ := hm
  obtain ⟨og, cg, rfl, -, heg⟩ := hG.form
  obtain ⟨os', cs', rfl, -, hes⟩ := hS.form
  have HEG := Lib.hid heg
  have HES := Lib.hid hes
  clear hG hS hv hml heg hes
  by_cases hn0 : m.ng = 0
  · have k0 : ((m.ng : Int) == 0) = true := by simp [hn0]
    clear hn0
    go_enter Tryz.func3, Tryz.ntmps3
    go_wp2_with fail
    obtain ⟨w0, hw0⟩ : ∃ X, (w.alloc (.cells #[.slice og m.ng cg, .slice os' m.ns cs'] 26)) = X := ⟨_, rfl⟩
    have HQM : Hid (w0.heap[w.heap.size]? = some (.cells #[.slice og m.ng cg, .slice os' m.ns cs'] 26)) := by
      show _ = _
      rw [← hw0]
      exact heapA_at _ _ _ rfl
    have hBw0 : Below w.heap.size w w0 := by rw [← hw0]; exact (Below.refl w.heap.size w).alloc (Nat.le_refl _) _
    rw [hw0]
    clear hw0
    have HM0 := Lib.hid (HM.out.below hBw0)
    have HV0 := Lib.hid (HV.out.below hBw0)
    have HML0 := Lib.hid (HML.out.below hBw0)
    obtain ⟨d0, d1, df, dz⟩ := cells_at2 HQM.out
    refine wp_region_relw 26 (by kernel_rfl) (by kernel_rfl) (by kernel_rfl) ?_
    simp only [List.take_succ_cons, List.take_zero, fillL, Act.put, List.setIfInBounds_toArray, List.set_cons_zero, List.set_cons_succ]
    iterate 26
      apply rel_is
      · intro u wx hb hd
        have hz := hb.size
        (try simp only [World.size_alloc, World.size_setCell] at hz)
        have hz0 : w.heap.size < wx.heap.size := by omega
        obtain ⟨hc, hf⟩ := bcell hb
        have HBX := Lib.hid hb
        clear hb hz
        simp [depsS, Region.binds, updS, Stay.is, Stay.any] at hd
        go_simp
        first | exact ⟨Below.refl _ _, rfl⟩ | rfl
    intro u w1 hb hE
    have e0 : u 0 = _ := endS_get hE 0 (by decide)
    have e1 : u 1 = _ := endS_get hE 1 (by decide)
    have e2 : u 2 = _ := endS_get hE 2 (by decide)
    have e3 : u 3 = _ := endS_get hE 3 (by decide)
    have e4 : u 4 = _ := endS_get hE 4 (by decide)
    have e5 : u 5 = _ := endS_get hE 5 (by decide)
    have e6 : u 6 = _ := endS_get hE 6 (by decide)
    have e7 : u 7 = _ := endS_get hE 7 (by decide)
    have e8 : u 8 = _ := endS_get hE 8 (by decide)
    have e9 : u 9 = _ := endS_get hE 9 (by decide)
    have e10 : u 10 = _ := endS_get hE 10 (by decide)
    have e11 : u 11 = _ := endS_get hE 11 (by decide)
    have e12 : u 12 = _ := endS_get hE 12 (by decide)
    have e13 : u 13 = _ := endS_get hE 13 (by decide)
    have e14 : u 14 = _ := endS_get hE 14 (by decide)
    have e15 : u 15 = _ := endS_get hE 15 (by decide)
    have e16 : u 16 = _ := endS_get hE 16 (by decide)
    have e17 : u 17 = _ := endS_get hE 17 (by decide)
    have e18 : u 18 = _ := endS_get hE 18 (by decide)
    have e19 : u 19 = _ := endS_get hE 19 (by decide)
    have e20 : u 20 = _ := endS_get hE 20 (by decide)
    have e21 : u 21 = _ := endS_get hE 21 (by decide)
    have e22 : u 22 = _ := endS_get hE 22 (by decide)
    have e23 : u 23 = _ := endS_get hE 23 (by decide)
    have e24 : u 24 = _ := endS_get hE 24 (by decide)
    have e25 : u 25 = _ := endS_get hE 25 (by decide)
    simp only [List.drop_succ_cons, List.drop_zero, List.take_succ_cons, List.take_zero, fillL, Act.put, List.setIfInBounds_toArray, List.set_cons_zero, List.set_cons_succ, e0, e1, e2, e3, e4, e5, e6, e7, e8, e9, e10, e11, e12, e13, e14, e15, e16, e17, e18, e19, e20, e21, e22, e23, e24, e25]
    clear e0 e1 e2 e3 e4 e5 e6 e7 e8 e9 e10 e11 e12 e13 e14 e15 e16 e17 e18 e19 e20 e21 e22 e23 e24 e25 hE
    have HBw1 := Lib.hid (below_step (w := w0) (by first | assumption | go_grown) hb)
    have HBXw1 := Lib.hid hb
    have hzw1 := hb.size
    (try simp only [World.size_alloc, World.size_setCell] at hzw1)
    have hzw10 : w.heap.size < w1.heap.size := by omega
    obtain ⟨hcw1, hfw1⟩ := bcell hb
    clear hb hzw1
    go_wp2
    go_returns
    exact ⟨rfl, below_step hBw0 HBXw1.out⟩
  have k0 : ((m.ng : Int) == 0) = false := by simp; omega
  by_cases hs0 : m.ns = 0
  · have k1 : ((m.ns : Int) == 0) = true := by simp [hs0]
    clear hs0
    go_enter Tryz.func3, Tryz.ntmps3
    go_wp2_with fail
    obtain ⟨w0, hw0⟩ : ∃ X, (w.alloc (.cells #[.slice og m.ng cg, .slice os' m.ns cs'] 26)) = X := ⟨_, rfl⟩
    have HQM : Hid (w0.heap[w.heap.size]? = some (.cells #[.slice og m.ng cg, .slice os' m.ns cs'] 26)) := by
      show _ = _
      rw [← hw0]
      exact heapA_at _ _ _ rfl
    have hBw0 : Below w.heap.size w w0 := by rw [← hw0]; exact (Below.refl w.heap.size w).alloc (Nat.le_refl _) _
    rw [hw0]
    clear hw0
    have HM0 := Lib.hid (HM.out.below hBw0)
    have HV0 := Lib.hid (HV.out.below hBw0)
    have HML0 := Lib.hid (HML.out.below hBw0)
    obtain ⟨d0, d1, df, dz⟩ := cells_at2 HQM.out
    refine wp_region_relw 26 (by kernel_rfl) (by kernel_rfl) (by kernel_rfl) ?_
    simp only [List.take_succ_cons, List.take_zero, fillL, Act.put, List.setIfInBounds_toArray, List.set_cons_zero, List.set_cons_succ]
    iterate 26
      apply rel_is
      · intro u wx hb hd
        have hz := hb.size
        (try simp only [World.size_alloc, World.size_setCell] at hz)
        have hz0 : w.heap.size < wx.heap.size := by omega
        obtain ⟨hc, hf⟩ := bcell hb
        have HBX := Lib.hid hb
        clear hb hz
        simp [depsS, Region.binds, updS, Stay.is, Stay.any] at hd
        go_simp
        first | exact ⟨Below.refl _ _, rfl⟩ | rfl
    intro u w1 hb hE
    have e0 : u 0 = _ := endS_get hE 0 (by decide)
    have e1 : u 1 = _ := endS_get hE 1 (by decide)
    have e2 : u 2 = _ := endS_get hE 2 (by decide)
    have e3 : u 3 = _ := endS_get hE 3 (by decide)
    have e4 : u 4 = _ := endS_get hE 4 (by decide)
    have e5 : u 5 = _ := endS_get hE 5 (by decide)
    have e6 : u 6 = _ := endS_get hE 6 (by decide)
    have e7 : u 7 = _ := endS_get hE 7 (by decide)
    have e8 : u 8 = _ := endS_get hE 8 (by decide)
    have e9 : u 9 = _ := endS_get hE 9 (by decide)
    have e10 : u 10 = _ := endS_get hE 10 (by decide)
    have e11 : u 11 = _ := endS_get hE 11 (by decide)
    have e12 : u 12 = _ := endS_get hE 12 (by decide)
    have e13 : u 13 = _ := endS_get hE 13 (by decide)
    have e14 : u 14 = _ := endS_get hE 14 (by decide)
    have e15 : u 15 = _ := endS_get hE 15 (by decide)
    have e16 : u 16 = _ := endS_get hE 16 (by decide)
    have e17 : u 17 = _ := endS_get hE 17 (by decide)
    have e18 : u 18 = _ := endS_get hE 18 (by decide)
    have e19 : u 19 = _ := endS_get hE 19 (by decide)
    have e20 : u 20 = _ := endS_get hE 20 (by decide)
    have e21 : u 21 = _ := endS_get hE 21 (by decide)
    have e22 : u 22 = _ := endS_get hE 22 (by decide)
    have e23 : u 23 = _ := endS_get hE 23 (by decide)
    have e24 : u 24 = _ := endS_get hE 24 (by decide)
    have e25 : u 25 = _ := endS_get hE 25 (by decide)
    simp only [List.drop_succ_cons, List.drop_zero, List.take_succ_cons, List.take_zero, fillL, Act.put, List.setIfInBounds_toArray, List.set_cons_zero, List.set_cons_succ, e0, e1, e2, e3, e4, e5, e6, e7, e8, e9, e10, e11, e12, e13, e14, e15, e16, e17, e18, e19, e20, e21, e22, e23, e24, e25]
    clear e0 e1 e2 e3 e4 e5 e6 e7 e8 e9 e10 e11 e12 e13 e14 e15 e16 e17 e18 e19 e20 e21 e22 e23 e24 e25 hE
    have HBw1 := Lib.hid (below_step (w := w0) (by first | assumption | go_grown) hb)
    have HBXw1 := Lib.hid hb
    have hzw1 := hb.size
    (try simp only [World.size_alloc, World.size_setCell] at hzw1)
    have hzw10 : w.heap.size < w1.heap.size := by omega
    obtain ⟨hcw1, hfw1⟩ := bcell hb
    clear hb hzw1
    go_wp2
    go_returns
    exact ⟨rfl, below_step hBw0 HBXw1.out⟩
  have k1 : ((m.ns : Int) == 0) = false := by simp; omega
  have hng : 0 < m.ng := by omega
  have hns : 0 < m.ns := by omega
  obtain ⟨hgi, hhg⟩ := hasG_first hng
  obtain ⟨hsi, hhs⟩ := hasS_first hns
  obtain ⟨K, hK⟩ : ∃ b, (inB (m.de 0) 1000 20000 && (inB (m.sa 0) 1 1000000 && inB (m.sh 0) 1 2000)) = b := ⟨_, rfl⟩
  have HRC : Hid (∀ W v', MatAt W v' m gv → Calls Tryz.prog 4 #[.agg #[(.string ⟨#[120]⟩), (.int .i64 1), (.int .i64 2), (.string ⟨#[98]⟩), (.string (m.nm 0)), (.int .i64 0), (.slice none 0 0), (.slice none 0 0), (.string (m.sn 0)), (.int .i64 1), (.int .i64 0), (.int .i64 0), (.int .i64 0), (.int .i64 0), (.int .i64 0), (.int .i64 0), (.int .i64 0), (.int .i64 0)], v'] W fun e w' => e = .returned (.int .i64 (if K = true then 0 else 23)) ∧ Below W.heap.size W w') := fun W v' h => by
    have h2 := rcheck2 v' m gv (m.nm 0) (m.sn 0) W h hhg hhs
    rw [hgi, hsi, hK] at h2
    exact h2
  obtain ⟨b1, f1, rfl, hbl1, hcl1⟩ := HEG.out 0 hng
  obtain ⟨b2, f2, rfl, hbl2, hcl2⟩ := HES.out 0 hns
  have HCG := Lib.hid (hcl1 0 hng)
  have HCS := Lib.hid (hcl2 0 hns)
  have hi0 : (0 : Int) < (m.ng : Int) := by omega
  have hi1 : (0 : Int) < (m.ns : Int) := by omega
  clear hcl1 hcl2 hn0 hs0
  cases K
  · go_enter Tryz.func3, Tryz.ntmps3
    go_wp2_with fail
    obtain ⟨w0, hw0⟩ : ∃ X, (w.alloc (.cells #[.slice (some ⟨b1, f1, none⟩) m.ng cg, .slice (some ⟨b2, f2, none⟩) m.ns cs'] 26)) = X := ⟨_, rfl⟩
    have HQM : Hid (w0.heap[w.heap.size]? = some (.cells #[.slice (some ⟨b1, f1, none⟩) m.ng cg, .slice (some ⟨b2, f2, none⟩) m.ns cs'] 26)) := by
      show _ = _
      rw [← hw0]
      exact heapA_at _ _ _ rfl
    have hBw0 : Below w.heap.size w w0 := by rw [← hw0]; exact (Below.refl w.heap.size w).alloc (Nat.le_refl _) _
    rw [hw0]
    clear hw0
    have HM0 := Lib.hid (HM.out.below hBw0)
    have HV0 := Lib.hid (HV.out.below hBw0)
    have HML0 := Lib.hid (HML.out.below hBw0)
    obtain ⟨d0, d1, df, dz⟩ := cells_at2 HQM.out
    have g0 : w0.cell? ⟨b1, f1, none⟩ = some (.string (m.nm 0)) := by
      have h := (hBw0.cell (p := ⟨b1, f1 + 0 * 4, none⟩) hbl1).trans HCG.out.1
      simpa using h
    have g1 : w0.cell? ⟨b1, f1 + 1, none⟩ = some (.int .i64 (m.de 0)) := by
      have h := (hBw0.cell (p := ⟨b1, f1 + 0 * 4 + 1, none⟩) hbl1).trans HCG.out.2.1
      simpa using h
    have s0 : w0.cell? ⟨b2, f2, none⟩ = some (.string (m.sn 0)) := by
      have h := (hBw0.cell (p := ⟨b2, f2 + 0 * 4, none⟩) hbl2).trans HCS.out.1
      simpa using h
    have s1 : w0.cell? ⟨b2, f2 + 1, none⟩ = some (.int .i64 (m.sa 0)) := by
      have h := (hBw0.cell (p := ⟨b2, f2 + 0 * 4 + 1, none⟩) hbl2).trans HCS.out.2.1
      simpa using h
    have zb1 : b1 < w0.heap.size := by have := hBw0.size; omega
    have zb2 : b2 < w0.heap.size := by have := hBw0.size; omega
    refine wp_region_relw 26 (by kernel_rfl) (by kernel_rfl) (by kernel_rfl) ?_
    simp only [List.take_succ_cons, List.take_zero, fillL, Act.put, List.setIfInBounds_toArray, List.set_cons_zero, List.set_cons_succ]
    iterate 23
      apply rel_is
      · intro u wx hb hd
        have hz := hb.size
        (try simp only [World.size_alloc, World.size_setCell] at hz)
        have hz0 : w.heap.size < wx.heap.size := by omega
        have hz1 : b1 < wx.heap.size := by omega
        have hz2 : b2 < wx.heap.size := by omega
        obtain ⟨hc, hf⟩ := bcell hb
        have HBX := Lib.hid hb
        clear hb hz
        simp [depsS, Region.binds, updS, Stay.is, Stay.any] at hd
        go_simp
        first | exact ⟨Below.refl _ _, rfl⟩ | rfl
    apply rel_is
    · intro u wx hb hd
      have hz := hb.size
      (try simp only [World.size_alloc, World.size_setCell] at hz)
      have hz0 : w.heap.size < wx.heap.size := by omega
      have hz1 : b1 < wx.heap.size := by omega
      have hz2 : b2 < wx.heap.size := by omega
      obtain ⟨hc, hf⟩ := bcell hb
      have HBX := Lib.hid hb
      clear hb hz
      simp [depsS, Region.binds, updS, Stay.is, Stay.any] at hd
      go_simp
      first | rfl | (go_at_call 4; refine (HRC.out _ _ (HM0.out.below HBX.out)).mono ?_; rintro e w1 ⟨rfl, hb1⟩; first | exact ⟨rfl, hb1⟩ | exact ⟨_, rfl, hb1, rfl⟩)
    iterate 2
      apply rel_is
      · intro u wx hb hd
        have hz := hb.size
        (try simp only [World.size_alloc, World.size_setCell] at hz)
        have hz0 : w.heap.size < wx.heap.size := by omega
        have hz1 : b1 < wx.heap.size := by omega
        have hz2 : b2 < wx.heap.size := by omega
        obtain ⟨hc, hf⟩ := bcell hb
        have HBX := Lib.hid hb
        clear hb hz
        simp [depsS, Region.binds, updS, Stay.is, Stay.any] at hd
        go_simp
        first | exact ⟨Below.refl _ _, rfl⟩ | rfl
    intro u w1 hb hE
    have e0 : u 0 = _ := endS_get hE 0 (by decide)
    have e1 : u 1 = _ := endS_get hE 1 (by decide)
    have e2 : u 2 = _ := endS_get hE 2 (by decide)
    have e3 : u 3 = _ := endS_get hE 3 (by decide)
    have e4 : u 4 = _ := endS_get hE 4 (by decide)
    have e5 : u 5 = _ := endS_get hE 5 (by decide)
    have e6 : u 6 = _ := endS_get hE 6 (by decide)
    have e7 : u 7 = _ := endS_get hE 7 (by decide)
    have e8 : u 8 = _ := endS_get hE 8 (by decide)
    have e9 : u 9 = _ := endS_get hE 9 (by decide)
    have e10 : u 10 = _ := endS_get hE 10 (by decide)
    have e11 : u 11 = _ := endS_get hE 11 (by decide)
    have e12 : u 12 = _ := endS_get hE 12 (by decide)
    have e13 : u 13 = _ := endS_get hE 13 (by decide)
    have e14 : u 14 = _ := endS_get hE 14 (by decide)
    have e15 : u 15 = _ := endS_get hE 15 (by decide)
    have e16 : u 16 = _ := endS_get hE 16 (by decide)
    have e17 : u 17 = _ := endS_get hE 17 (by decide)
    have e18 : u 18 = _ := endS_get hE 18 (by decide)
    have e19 : u 19 = _ := endS_get hE 19 (by decide)
    have e20 : u 20 = _ := endS_get hE 20 (by decide)
    have e21 : u 21 = _ := endS_get hE 21 (by decide)
    have e22 : u 22 = _ := endS_get hE 22 (by decide)
    have e23 : u 23 = _ := endS_get hE 23 (by decide)
    have e24 : u 24 = _ := endS_get hE 24 (by decide)
    have e25 : u 25 = _ := endS_get hE 25 (by decide)
    simp only [List.drop_succ_cons, List.drop_zero, List.take_succ_cons, List.take_zero, fillL, Act.put, List.setIfInBounds_toArray, List.set_cons_zero, List.set_cons_succ, e0, e1, e2, e3, e4, e5, e6, e7, e8, e9, e10, e11, e12, e13, e14, e15, e16, e17, e18, e19, e20, e21, e22, e23, e24, e25]
    clear e0 e1 e2 e3 e4 e5 e6 e7 e8 e9 e10 e11 e12 e13 e14 e15 e16 e17 e18 e19 e20 e21 e22 e23 e24 e25 hE
    have HBw1 := Lib.hid (below_step (w := w0) (by first | assumption | go_grown) hb)
    have HBXw1 := Lib.hid hb
    have hzw1 := hb.size
    (try simp only [World.size_alloc, World.size_setCell] at hzw1)
    have hzw10 : w.heap.size < w1.heap.size := by omega
    have hzw11 : b1 < w1.heap.size := by omega
    have hzw12 : b2 < w1.heap.size := by omega
    obtain ⟨hcw1, hfw1⟩ := bcell hb
    clear hb hzw1
    go_wp2
    go_returns
    exact ⟨rfl, below_step hBw0 HBXw1.out⟩
  have hkk := hK
  simp only [Bool.and_eq_true] at hkk
  have HKK : Hid (inB (m.de (m.gi (m.nm 0))) 1000 20000 = true ∧ inB (m.sa (m.si (m.sn 0))) 1 1000000 = true ∧ inB (m.sh (m.si (m.sn 0))) 1 2000 = true) := by
    show _ ∧ _
    rw [hgi, hsi]
    exact hkk
  clear hK hkk
  obtain ⟨PE, hPE⟩ : ∃ e, partE n x y z r = e := ⟨_, rfl⟩
  obtain ⟨CE, hCE⟩ : ∃ e, checkF n x y z r = e := ⟨_, rfl⟩
  obtain ⟨L, hL⟩ : ∃ e, lengthF n x y z r = e := ⟨_, rfl⟩
  have hpe := hPE
  unfold partE at hpe
  rw [hCE, hL] at hpe
  have HLN : Hid (∀ W v', VecsAt W v' n x y z → Calls Tryz.prog 6 #[v', .int .i64 r] W fun e w' => e = .returned (.tuple #[.int .i64 L, .int .i64 CE]) ∧ Below W.heap.size W w') := fun W v' h => by
    have h2 := length_pts v' n x y z r W h
    rw [hL, hCE] at h2
    exact h2
  by_cases hp0 : PE = 0
  rotate_left
  · have hng2 : ¬ (checkF n x y z r = 0 ∧ lengthF n x y z r ≤ 32768) := by
      rw [hCE, hL]
      intro h
      rw [if_pos h.1, if_pos h.2] at hpe
      exact hp0 hpe.symm
    have kpe : (PE == 0) = false := by simpa using hp0
    have kpe2 : (PE != 0) = true := by simpa using hp0
    have HPT : Hid (∀ W v', VecsAt W v' n x y z → Calls Tryz.prog 5 #[.string ⟨#[120]⟩, .string ⟨#[98]⟩, .string (m.nm 0), .string (m.sn 0), v', .int .i64 r] W fun e w' => e = .returned (.tuple #[.agg #[.string ⟨#[]⟩, .int .i64 0, .int .i64 0, .string ⟨#[]⟩, .string ⟨#[]⟩, .int .i64 0, .slice none 0 0, .slice none 0 0, .string ⟨#[]⟩, .int .i64 0, .int .i64 0, .int .i64 0, .int .i64 0, .int .i64 0, .int .i64 0, .int .i64 0, .int .i64 0, .int .i64 0], .int .i64 PE]) ∧ Below W.heap.size W w') := fun W v' h => by
      have h2 := part_pts ⟨#[120]⟩ ⟨#[98]⟩ (m.nm 0) (m.sn 0) v' n x y z r W h
      rw [hPE] at h2
      unfold partF at h2
      rw [if_neg hng2] at h2
      exact h2
    have HRT : Hid (∀ W v', VecsAt W v' n x y z → Calls Tryz.prog 7 #[.string ⟨#[120]⟩, .string ⟨#[98]⟩, .string (m.nm 0), .string (m.sn 0), v', .int .i64 r] W fun e w' => e = .returned (.tuple #[.agg #[.string ⟨#[]⟩, .int .i64 0, .int .i64 0, .string ⟨#[]⟩, .string ⟨#[]⟩, .int .i64 0, .slice none 0 0, .slice none 0 0, .string ⟨#[]⟩, .int .i64 0, .int .i64 0, .int .i64 0, .int .i64 0, .int .i64 0, .int .i64 0, .int .i64 0, .int .i64 0, .int .i64 0], .int .i64 PE]) ∧ Below W.heap.size W w') := fun W v' h => by
      have h2 := rpart_pts ⟨#[120]⟩ ⟨#[98]⟩ (m.nm 0) (m.sn 0) v' n x y z r W h
      rw [hPE] at h2
      unfold partF at h2
      rw [if_neg hng2] at h2
      exact h2
    clear hPE hCE hL hng2
    by_cases hc0 : CE = 0
    · subst hc0
      rw [if_pos rfl] at hpe
      have hL2 : 32768 < L := by
        apply Classical.byContradiction
        intro h
        rw [if_pos (by omega)] at hpe
        exact hp0 hpe.symm
      rw [if_neg (by omega)] at hpe
      subst hpe
      have kL : decide ((32768 : Int) < L) = true := decide_eq_true hL2
      clear hp0 hL2
      go_enter Tryz.func3, Tryz.ntmps3
      go_wp2_with fail
      obtain ⟨w0, hw0⟩ : ∃ X, (w.alloc (.cells #[.slice (some ⟨b1, f1, none⟩) m.ng cg, .slice (some ⟨b2, f2, none⟩) m.ns cs'] 26)) = X := ⟨_, rfl⟩
      have HQM : Hid (w0.heap[w.heap.size]? = some (.cells #[.slice (some ⟨b1, f1, none⟩) m.ng cg, .slice (some ⟨b2, f2, none⟩) m.ns cs'] 26)) := by
        show _ = _
        rw [← hw0]
        exact heapA_at _ _ _ rfl
      have hBw0 : Below w.heap.size w w0 := by rw [← hw0]; exact (Below.refl w.heap.size w).alloc (Nat.le_refl _) _
      rw [hw0]
      clear hw0
      have HM0 := Lib.hid (HM.out.below hBw0)
      have HV0 := Lib.hid (HV.out.below hBw0)
      have HML0 := Lib.hid (HML.out.below hBw0)
      obtain ⟨d0, d1, df, dz⟩ := cells_at2 HQM.out
      have g0 : w0.cell? ⟨b1, f1, none⟩ = some (.string (m.nm 0)) := by
        have h := (hBw0.cell (p := ⟨b1, f1 + 0 * 4, none⟩) hbl1).trans HCG.out.1
        simpa using h
      have g1 : w0.cell? ⟨b1, f1 + 1, none⟩ = some (.int .i64 (m.de 0)) := by
        have h := (hBw0.cell (p := ⟨b1, f1 + 0 * 4 + 1, none⟩) hbl1).trans HCG.out.2.1
        simpa using h
      have s0 : w0.cell? ⟨b2, f2, none⟩ = some (.string (m.sn 0)) := by
        have h := (hBw0.cell (p := ⟨b2, f2 + 0 * 4, none⟩) hbl2).trans HCS.out.1
        simpa using h
      have s1 : w0.cell? ⟨b2, f2 + 1, none⟩ = some (.int .i64 (m.sa 0)) := by
        have h := (hBw0.cell (p := ⟨b2, f2 + 0 * 4 + 1, none⟩) hbl2).trans HCS.out.2.1
        simpa using h
      have zb1 : b1 < w0.heap.size := by have := hBw0.size; omega
      have zb2 : b2 < w0.heap.size := by have := hBw0.size; omega
      refine wp_region_relw 26 (by kernel_rfl) (by kernel_rfl) (by kernel_rfl) ?_
      simp only [List.take_succ_cons, List.take_zero, fillL, Act.put, List.setIfInBounds_toArray, List.set_cons_zero, List.set_cons_succ]
      iterate 23
        apply rel_is
        · intro u wx hb hd
          have hz := hb.size
          (try simp only [World.size_alloc, World.size_setCell] at hz)
          have hz0 : w.heap.size < wx.heap.size := by omega
          have hz1 : b1 < wx.heap.size := by omega
          have hz2 : b2 < wx.heap.size := by omega
          obtain ⟨hc, hf⟩ := bcell hb
          have HBX := Lib.hid hb
          clear hb hz
          simp [depsS, Region.binds, updS, Stay.is, Stay.any] at hd
          go_simp
          first | exact ⟨Below.refl _ _, rfl⟩ | rfl
      apply rel_is
      · intro u wx hb hd
        have hz := hb.size
        (try simp only [World.size_alloc, World.size_setCell] at hz)
        have hz0 : w.heap.size < wx.heap.size := by omega
        have hz1 : b1 < wx.heap.size := by omega
        have hz2 : b2 < wx.heap.size := by omega
        obtain ⟨hc, hf⟩ := bcell hb
        have HBX := Lib.hid hb
        clear hb hz
        simp [depsS, Region.binds, updS, Stay.is, Stay.any] at hd
        go_simp
        first | rfl | (go_at_call 4; refine (HRC.out _ _ (HM0.out.below HBX.out)).mono ?_; rintro e w1 ⟨rfl, hb1⟩; first | exact ⟨rfl, hb1⟩ | exact ⟨_, rfl, hb1, rfl⟩)
      iterate 2
        apply rel_is
        · intro u wx hb hd
          have hz := hb.size
          (try simp only [World.size_alloc, World.size_setCell] at hz)
          have hz0 : w.heap.size < wx.heap.size := by omega
          have hz1 : b1 < wx.heap.size := by omega
          have hz2 : b2 < wx.heap.size := by omega
          obtain ⟨hc, hf⟩ := bcell hb
          have HBX := Lib.hid hb
          clear hb hz
          simp [depsS, Region.binds, updS, Stay.is, Stay.any] at hd
          go_simp
          first | exact ⟨Below.refl _ _, rfl⟩ | rfl
      intro u w1 hb hE
      have e0 : u 0 = _ := endS_get hE 0 (by decide)
      have e1 : u 1 = _ := endS_get hE 1 (by decide)
      have e2 : u 2 = _ := endS_get hE 2 (by decide)
      have e3 : u 3 = _ := endS_get hE 3 (by decide)
      have e4 : u 4 = _ := endS_get hE 4 (by decide)
      have e5 : u 5 = _ := endS_get hE 5 (by decide)
      have e6 : u 6 = _ := endS_get hE 6 (by decide)
      have e7 : u 7 = _ := endS_get hE 7 (by decide)
      have e8 : u 8 = _ := endS_get hE 8 (by decide)
      have e9 : u 9 = _ := endS_get hE 9 (by decide)
      have e10 : u 10 = _ := endS_get hE 10 (by decide)
      have e11 : u 11 = _ := endS_get hE 11 (by decide)
      have e12 : u 12 = _ := endS_get hE 12 (by decide)
      have e13 : u 13 = _ := endS_get hE 13 (by decide)
      have e14 : u 14 = _ := endS_get hE 14 (by decide)
      have e15 : u 15 = _ := endS_get hE 15 (by decide)
      have e16 : u 16 = _ := endS_get hE 16 (by decide)
      have e17 : u 17 = _ := endS_get hE 17 (by decide)
      have e18 : u 18 = _ := endS_get hE 18 (by decide)
      have e19 : u 19 = _ := endS_get hE 19 (by decide)
      have e20 : u 20 = _ := endS_get hE 20 (by decide)
      have e21 : u 21 = _ := endS_get hE 21 (by decide)
      have e22 : u 22 = _ := endS_get hE 22 (by decide)
      have e23 : u 23 = _ := endS_get hE 23 (by decide)
      have e24 : u 24 = _ := endS_get hE 24 (by decide)
      have e25 : u 25 = _ := endS_get hE 25 (by decide)
      simp only [List.drop_succ_cons, List.drop_zero, List.take_succ_cons, List.take_zero, fillL, Act.put, List.setIfInBounds_toArray, List.set_cons_zero, List.set_cons_succ, e0, e1, e2, e3, e4, e5, e6, e7, e8, e9, e10, e11, e12, e13, e14, e15, e16, e17, e18, e19, e20, e21, e22, e23, e24, e25]
      clear e0 e1 e2 e3 e4 e5 e6 e7 e8 e9 e10 e11 e12 e13 e14 e15 e16 e17 e18 e19 e20 e21 e22 e23 e24 e25 hE
      have HBw1 := Lib.hid (below_step (w := w0) (by first | assumption | go_grown) hb)
      have HBXw1 := Lib.hid hb
      have hzw1 := hb.size
      (try simp only [World.size_alloc, World.size_setCell] at hzw1)
      have hzw10 : w.heap.size < w1.heap.size := by omega
      have hzw11 : b1 < w1.heap.size := by omega
      have hzw12 : b2 < w1.heap.size := by omega
      obtain ⟨hcw1, hfw1⟩ := bcell hb
      clear hb hzw1
      have hP1 := HBXw1.out
      have d0w1 : w1.cell? ⟨w.heap.size, 0, none⟩ = some (.slice (some ⟨b1, f1, none⟩) m.ng cg) := (hP1.cell (p := ⟨w.heap.size, 0, none⟩) dz).trans d0
      have d1w1 : w1.cell? ⟨w.heap.size, 1, none⟩ = some (.slice (some ⟨b2, f2, none⟩) m.ns cs') := (hP1.cell (p := ⟨w.heap.size, 1, none⟩) dz).trans d1
      have g0w1 : w1.cell? ⟨b1, f1, none⟩ = some (.string (m.nm 0)) := (hP1.cell (p := ⟨b1, f1, none⟩) zb1).trans g0
      have g1w1 : w1.cell? ⟨b1, f1 + 1, none⟩ = some (.int .i64 (m.de 0)) := (hP1.cell (p := ⟨b1, f1 + 1, none⟩) zb1).trans g1
      have s0w1 : w1.cell? ⟨b2, f2, none⟩ = some (.string (m.sn 0)) := (hP1.cell (p := ⟨b2, f2, none⟩) zb2).trans s0
      have s1w1 : w1.cell? ⟨b2, f2 + 1, none⟩ = some (.int .i64 (m.sa 0)) := (hP1.cell (p := ⟨b2, f2 + 1, none⟩) zb2).trans s1
      clear d0 d1 g0 g1 s0 s1
      have d0 := d0w1
      have d1 := d1w1
      have g0 := g0w1
      have g1 := g1w1
      have s0 := s0w1
      have s1 := s1w1
      clear d0w1 d1w1 g0w1 g1w1 s0w1 s1w1
      have dzw1 : w.heap.size < w1.heap.size := by have := hP1.size; omega
      have zb1w1 : b1 < w1.heap.size := by have := hP1.size; omega
      have zb2w1 : b2 < w1.heap.size := by have := hP1.size; omega
      clear dz zb1 zb2
      have dz := dzw1
      have zb1 := zb1w1
      have zb2 := zb2w1
      clear dzw1 zb1w1 zb2w1
      have hBw1 : Below w.heap.size w w1 := below_step hBw0 hP1
      replace HM0 := Lib.hid (HM0.out.below hP1)
      replace HV0 := Lib.hid (HV0.out.below hP1)
      replace HML0 := Lib.hid (HML0.out.below hP1)
      clear hcw1 hfw1 hP1
      go_wp2_with fail
      refine wp_region_seq 19 [⟨16, 17, #[.string ⟨#[]⟩, .int .i64 0, .int .i64 0, .string ⟨#[]⟩, .string ⟨#[]⟩, .int .i64 0, .slice none 0 0, .slice none 0 0, .string ⟨#[]⟩, .int .i64 0, .int .i64 0, .int .i64 0, .int .i64 0, .int .i64 0, .int .i64 0, .int .i64 0, .int .i64 0, .int .i64 0], 43⟩] [] (by kernel_rfl) (by kernel_rfl) (by kernel_rfl) (by kernel_rfl) (by kernel_rfl) ?_ ?_ ?_
      · intro r hr; cases hr
      · intro r hr; cases hr
      simp only [List.take_succ_cons, List.take_zero, fillL, Act.put, List.setIfInBounds_toArray, List.set_cons_zero, List.set_cons_succ]
      apply seq_is (by kernel_rfl)
      · intro u wx hb hd
        replace hb := hb.nil
        have hz := hb.size
        (try simp only [World.size_alloc, World.size_setCell] at hz)
        have hz0 : w.heap.size < wx.heap.size := by omega
        have hz1 : b1 < wx.heap.size := by omega
        have hz2 : b2 < wx.heap.size := by omega
        obtain ⟨hc, hf⟩ := bcell hb
        clear hb hz
        simp [depsE, Region.binds, updE, kindOf, Prp.is, Prp.any] at hd
        go_simp
        first | exact ⟨Below.refl _ _, rfl⟩ | rfl
      apply seq_is (by kernel_rfl)
      · intro u wx hb hd
        replace hb := hb.nil
        have hz := hb.size
        (try simp only [World.size_alloc, World.size_setCell] at hz)
        have hz0 : w.heap.size < wx.heap.size := by omega
        have hz1 : b1 < wx.heap.size := by omega
        have hz2 : b2 < wx.heap.size := by omega
        obtain ⟨hc, hf⟩ := bcell hb
        clear hb hz
        simp [depsE, Region.binds, updE, kindOf, Prp.is, Prp.any] at hd
        go_simp
        first | exact ⟨Below.refl _ _, rfl⟩ | rfl
      apply seq_is (by kernel_rfl)
      · intro u wx hb hd
        replace hb := hb.nil
        have hz := hb.size
        (try simp only [World.size_alloc, World.size_setCell] at hz)
        have hz0 : w.heap.size < wx.heap.size := by omega
        have hz1 : b1 < wx.heap.size := by omega
        have hz2 : b2 < wx.heap.size := by omega
        obtain ⟨hc, hf⟩ := bcell hb
        clear hb hz
        simp [depsE, Region.binds, updE, kindOf, Prp.is, Prp.any] at hd
        go_simp
        first | exact ⟨Below.refl _ _, rfl⟩ | rfl
      apply seq_is (by kernel_rfl)
      · intro u wx hb hd
        replace hb := hb.nil
        have hz := hb.size
        (try simp only [World.size_alloc, World.size_setCell] at hz)
        have hz0 : w.heap.size < wx.heap.size := by omega
        have hz1 : b1 < wx.heap.size := by omega
        have hz2 : b2 < wx.heap.size := by omega
        obtain ⟨hc, hf⟩ := bcell hb
        clear hb hz
        simp [depsE, Region.binds, updE, kindOf, Prp.is, Prp.any] at hd
        go_simp
        first | exact ⟨Below.refl _ _, rfl⟩ | rfl
      apply seq_is (by kernel_rfl)
      · intro u wx hb hd
        replace hb := hb.nil
        have hz := hb.size
        (try simp only [World.size_alloc, World.size_setCell] at hz)
        have hz0 : w.heap.size < wx.heap.size := by omega
        have hz1 : b1 < wx.heap.size := by omega
        have hz2 : b2 < wx.heap.size := by omega
        obtain ⟨hc, hf⟩ := bcell hb
        clear hb hz
        simp [depsE, Region.binds, updE, kindOf, Prp.is, Prp.any] at hd
        go_simp
        first | exact ⟨Below.refl _ _, rfl⟩ | rfl
      apply seq_is (by kernel_rfl)
      · intro u wx hb hd
        replace hb := hb.nil
        have hz := hb.size
        (try simp only [World.size_alloc, World.size_setCell] at hz)
        have hz0 : w.heap.size < wx.heap.size := by omega
        have hz1 : b1 < wx.heap.size := by omega
        have hz2 : b2 < wx.heap.size := by omega
        obtain ⟨hc, hf⟩ := bcell hb
        clear hb hz
        simp [depsE, Region.binds, updE, kindOf, Prp.is, Prp.any] at hd
        go_simp
        first | exact ⟨Below.refl _ _, rfl⟩ | rfl
      apply seq_is (by kernel_rfl)
      · intro u wx hb hd
        replace hb := hb.nil
        have hz := hb.size
        (try simp only [World.size_alloc, World.size_setCell] at hz)
        have hz0 : w.heap.size < wx.heap.size := by omega
        have hz1 : b1 < wx.heap.size := by omega
        have hz2 : b2 < wx.heap.size := by omega
        obtain ⟨hc, hf⟩ := bcell hb
        clear hb hz
        simp [depsE, Region.binds, updE, kindOf, Prp.is, Prp.any] at hd
        go_simp
        first | exact ⟨Below.refl _ _, rfl⟩ | rfl
      apply seq_is (by kernel_rfl)
      · intro u wx hb hd
        replace hb := hb.nil
        have hz := hb.size
        (try simp only [World.size_alloc, World.size_setCell] at hz)
        have hz0 : w.heap.size < wx.heap.size := by omega
        have hz1 : b1 < wx.heap.size := by omega
        have hz2 : b2 < wx.heap.size := by omega
        obtain ⟨hc, hf⟩ := bcell hb
        clear hb hz
        simp [depsE, Region.binds, updE, kindOf, Prp.is, Prp.any] at hd
        go_simp
        first | exact ⟨Below.refl _ _, rfl⟩ | rfl
      apply seq_is (by kernel_rfl)
      · intro u wx hb hd
        replace hb := hb.nil
        have hz := hb.size
        (try simp only [World.size_alloc, World.size_setCell] at hz)
        have hz0 : w.heap.size < wx.heap.size := by omega
        have hz1 : b1 < wx.heap.size := by omega
        have hz2 : b2 < wx.heap.size := by omega
        obtain ⟨hc, hf⟩ := bcell hb
        clear hb hz
        simp [depsE, Region.binds, updE, kindOf, Prp.is, Prp.any] at hd
        go_simp
        first | exact ⟨Below.refl _ _, rfl⟩ | rfl
      apply seq_is (by kernel_rfl)
      · intro u wx hb hd
        replace hb := hb.nil
        have hz := hb.size
        (try simp only [World.size_alloc, World.size_setCell] at hz)
        have hz0 : w.heap.size < wx.heap.size := by omega
        have hz1 : b1 < wx.heap.size := by omega
        have hz2 : b2 < wx.heap.size := by omega
        obtain ⟨hc, hf⟩ := bcell hb
        clear hb hz
        simp [depsE, Region.binds, updE, kindOf, Prp.is, Prp.any] at hd
        go_simp
        first | exact ⟨Below.refl _ _, rfl⟩ | rfl
      apply seq_is (by kernel_rfl)
      · intro u wx hb hd
        replace hb := hb.nil
        have hz := hb.size
        (try simp only [World.size_alloc, World.size_setCell] at hz)
        have hz0 : w.heap.size < wx.heap.size := by omega
        have hz1 : b1 < wx.heap.size := by omega
        have hz2 : b2 < wx.heap.size := by omega
        obtain ⟨hc, hf⟩ := bcell hb
        clear hb hz
        simp [depsE, Region.binds, updE, kindOf, Prp.is, Prp.any] at hd
        go_simp
        first | exact ⟨Below.refl _ _, rfl⟩ | rfl
      apply seq_is (by kernel_rfl)
      · intro u wx hb hd
        replace hb := hb.nil
        have hz := hb.size
        (try simp only [World.size_alloc, World.size_setCell] at hz)
        have hz0 : w.heap.size < wx.heap.size := by omega
        have hz1 : b1 < wx.heap.size := by omega
        have hz2 : b2 < wx.heap.size := by omega
        obtain ⟨hc, hf⟩ := bcell hb
        clear hb hz
        simp [depsE, Region.binds, updE, kindOf, Prp.is, Prp.any] at hd
        go_simp
        first | exact ⟨Below.refl _ _, rfl⟩ | rfl
      apply seq_is (by kernel_rfl)
      · intro u wx hb hd
        replace hb := hb.nil
        have hz := hb.size
        (try simp only [World.size_alloc, World.size_setCell] at hz)
        have hz0 : w.heap.size < wx.heap.size := by omega
        have hz1 : b1 < wx.heap.size := by omega
        have hz2 : b2 < wx.heap.size := by omega
        obtain ⟨hc, hf⟩ := bcell hb
        have HBX := Lib.hid hb
        clear hb hz
        simp [depsE, Region.binds, updE, kindOf, Prp.is, Prp.any] at hd
        go_simp
        (go_at_call 5; refine (HPT.out _ _ (HV0.out.below HBX.out)).mono ?_; rintro e w1 ⟨rfl, hb1⟩; first | exact ⟨rfl, hb1⟩ | exact ⟨_, rfl, hb1, rfl⟩)
      apply seq_is (by kernel_rfl)
      · intro u wx hb hd
        replace hb := hb.nil
        have hz := hb.size
        (try simp only [World.size_alloc, World.size_setCell] at hz)
        have hz0 : w.heap.size < wx.heap.size := by omega
        have hz1 : b1 < wx.heap.size := by omega
        have hz2 : b2 < wx.heap.size := by omega
        obtain ⟨hc, hf⟩ := bcell hb
        clear hb hz
        simp [depsE, Region.binds, updE, kindOf, Prp.is, Prp.any] at hd
        go_simp
        first | exact ⟨Below.refl _ _, rfl⟩ | rfl
      apply seq_is (by kernel_rfl)
      · intro u wx hb hd
        replace hb := hb.nil
        have hz := hb.size
        (try simp only [World.size_alloc, World.size_setCell] at hz)
        have hz0 : w.heap.size < wx.heap.size := by omega
        have hz1 : b1 < wx.heap.size := by omega
        have hz2 : b2 < wx.heap.size := by omega
        obtain ⟨hc, hf⟩ := bcell hb
        clear hb hz
        simp [depsE, Region.binds, updE, kindOf, Prp.is, Prp.any] at hd
        go_simp
        first | exact ⟨Below.refl _ _, rfl⟩ | rfl
      apply seq_is (by kernel_rfl)
      · intro u wx hb hd
        replace hb := hb.nil
        have hz := hb.size
        (try simp only [World.size_alloc, World.size_setCell] at hz)
        have hz0 : w.heap.size < wx.heap.size := by omega
        have hz1 : b1 < wx.heap.size := by omega
        have hz2 : b2 < wx.heap.size := by omega
        obtain ⟨hc, hf⟩ := bcell hb
        clear hb hz
        simp [depsE, Region.binds, updE, kindOf, Prp.is, Prp.any] at hd
        go_simp
        first | exact ⟨Below.refl _ _, rfl⟩ | rfl
      refine seq_var ⟨16, 17, #[.string ⟨#[]⟩, .int .i64 0, .int .i64 0, .string ⟨#[]⟩, .string ⟨#[]⟩, .int .i64 0, .slice none 0 0, .slice none 0 0, .string ⟨#[]⟩, .int .i64 0, .int .i64 0, .int .i64 0, .int .i64 0, .int .i64 0, .int .i64 0, .int .i64 0, .int .i64 0, .int .i64 0], 43⟩ (by simp) rfl ?_ ?_
      · intro u wx hb
        refine ⟨by simp [Region.wanted], ?_⟩
        go_simp
        first | done | rfl | exact ⟨rfl, rfl⟩
      apply seq_sto_agg ⟨16, 17, #[.string ⟨#[]⟩, .int .i64 0, .int .i64 0, .string ⟨#[]⟩, .string ⟨#[]⟩, .int .i64 0, .slice none 0 0, .slice none 0 0, .string ⟨#[]⟩, .int .i64 0, .int .i64 0, .int .i64 0, .int .i64 0, .int .i64 0, .int .i64 0, .int .i64 0, .int .i64 0, .int .i64 0], 43⟩ (by simp) rfl (by kernel_rfl) rfl (by kernel_rfl)
      · intro u wx hb hd
        replace hb := hb.nil
        have hz := hb.size
        (try simp only [World.size_alloc, World.size_setCell] at hz)
        have hz0 : w.heap.size < wx.heap.size := by omega
        have hz1 : b1 < wx.heap.size := by omega
        have hz2 : b2 < wx.heap.size := by omega
        obtain ⟨hc, hf⟩ := bcell hb
        clear hb hz
        simp [depsE, Region.binds, updE, kindOf, Prp.is, Prp.any] at hd
        refine ⟨by simp [Region.wanted], fun b' hub hlb hcells => ?_⟩
        exact relOp_store_all 43 b' 18 #[.string ⟨#[]⟩, .int .i64 0, .int .i64 0, .string ⟨#[]⟩, .string ⟨#[]⟩, .int .i64 0, .slice none 0 0, .slice none 0 0, .string ⟨#[]⟩, .int .i64 0, .int .i64 0, .int .i64 0, .int .i64 0, .int .i64 0, .int .i64 0, .int .i64 0, .int .i64 0, .int .i64 0] #[.string ⟨#[]⟩, .int .i64 0, .int .i64 0, .string ⟨#[]⟩, .string ⟨#[]⟩, .int .i64 0, .slice none 0 0, .slice none 0 0, .string ⟨#[]⟩, .int .i64 0, .int .i64 0, .int .i64 0, .int .i64 0, .int .i64 0, .int .i64 0, .int .i64 0, .int .i64 0, .int .i64 0] 43 part_size (by first | exact hub | simpa [Act.eval] using hub) (by first | exact hd.1 | exact hd.2.1 | exact hd | simp [Act.eval, hd]) rfl rfl rfl hcells (fun _ => stored_setRow hcells)
      apply seq_is (by kernel_rfl)
      · intro u wx hb hd
        replace hb := hb.nil
        have hz := hb.size
        (try simp only [World.size_alloc, World.size_setCell] at hz)
        have hz0 : w.heap.size < wx.heap.size := by omega
        have hz1 : b1 < wx.heap.size := by omega
        have hz2 : b2 < wx.heap.size := by omega
        obtain ⟨hc, hf⟩ := bcell hb
        clear hb hz
        simp [depsE, Region.binds, updE, kindOf, Prp.is, Prp.any] at hd
        go_simp
        first | exact ⟨Below.refl _ _, rfl⟩ | rfl
      intro u w2 hb hE hV hP
      replace hb := hb.nil
      clear hP
      have e0 : u 0 = _ := endE_get hE 0 (by decide) (by simp [kindOf])
      have e1 : u 1 = _ := endE_get hE 1 (by decide) (by simp [kindOf])
      have e2 : u 2 = _ := endE_get hE 2 (by decide) (by simp [kindOf])
      have e3 : u 3 = _ := endE_get hE 3 (by decide) (by simp [kindOf])
      have e4 : u 4 = _ := endE_get hE 4 (by decide) (by simp [kindOf])
      have e5 : u 5 = _ := endE_get hE 5 (by decide) (by simp [kindOf])
      have e6 : u 6 = _ := endE_get hE 6 (by decide) (by simp [kindOf])
      have e7 : u 7 = _ := endE_get hE 7 (by decide) (by simp [kindOf])
      have e8 : u 8 = _ := endE_get hE 8 (by decide) (by simp [kindOf])
      have e9 : u 9 = _ := endE_get hE 9 (by decide) (by simp [kindOf])
      have e10 : u 10 = _ := endE_get hE 10 (by decide) (by simp [kindOf])
      have e11 : u 11 = _ := endE_get hE 11 (by decide) (by simp [kindOf])
      have e12 : u 12 = _ := endE_get hE 12 (by decide) (by simp [kindOf])
      have e13 : u 13 = _ := endE_get hE 13 (by decide) (by simp [kindOf])
      have e14 : u 14 = _ := endE_get hE 14 (by decide) (by simp [kindOf])
      have e15 : u 15 = _ := endE_get hE 15 (by decide) (by simp [kindOf])
      have e17 : u 17 = _ := endE_get hE 17 (by decide) (by simp [kindOf])
      have e18 : u 18 = _ := endE_get hE 18 (by decide) (by simp [kindOf])
      obtain ⟨⟨VP, pv0, lv0, qv0⟩, -, -⟩ := hV
      replace qv0 : w2.heap[VP]? = some (.cells (u 17).cells 43) := qv0
      rw [e17] at qv0
      replace pv0 : u 16 = .pointer (some ⟨VP, 0, none⟩) := pv0
      obtain ⟨mVP0, mVP1, mVP2, mVP3, mVP4, mVP5, mVP6, mVP7, mVP8, mVP9, mVP10, mVP11, mVP12, mVP13, mVP14, mVP15, mVP16, mVP17, mfVP, msVP⟩ := cells_at18 qv0
      have HQVP := Lib.hid qv0
      clear qv0
      (try simp only [World.size_alloc, World.size_setCell] at lv0)
      have dVPw20 : VP ≠ w.heap.size := by omega
      have dVPw21 : VP ≠ b1 := by omega
      have dVPw22 : VP ≠ b2 := by omega
      (try have lbVP : w1.heap.size ≤ VP := by omega)
      clear lv0
      simp only [List.drop_succ_cons, List.drop_zero, List.take_succ_cons, List.take_zero, fillL, Act.put, List.setIfInBounds_toArray, List.set_cons_zero, List.set_cons_succ, e0, e1, e2, e3, e4, e5, e6, e7, e8, e9, e10, e11, e12, e13, e14, e15, e17, e18, pv0]
      clear e0 e1 e2 e3 e4 e5 e6 e7 e8 e9 e10 e11 e12 e13 e14 e15 e17 e18 pv0 hE
      have HBWw2 := Lib.hid hb
      have hw2 := below_step (w := w1) (by first | assumption | go_grown) hb
      have hzw2 := hb.size
      (try simp only [World.size_alloc, World.size_setCell] at hzw2)
      have hzw20 : w.heap.size < w2.heap.size := by omega
      have hzw21 : b1 < w2.heap.size := by omega
      have hzw22 : b2 < w2.heap.size := by omega
      have HHw2 := Lib.hid hb.block
      obtain ⟨hcw2, hfw2⟩ := bcell hb
      clear hb hzw2
      have hP2 := HBWw2.out
      have d0w2 : w2.cell? ⟨w.heap.size, 0, none⟩ = some (.slice (some ⟨b1, f1, none⟩) m.ng cg) := (hP2.cell (p := ⟨w.heap.size, 0, none⟩) dz).trans d0
      have d1w2 : w2.cell? ⟨w.heap.size, 1, none⟩ = some (.slice (some ⟨b2, f2, none⟩) m.ns cs') := (hP2.cell (p := ⟨w.heap.size, 1, none⟩) dz).trans d1
      have g0w2 : w2.cell? ⟨b1, f1, none⟩ = some (.string (m.nm 0)) := (hP2.cell (p := ⟨b1, f1, none⟩) zb1).trans g0
      have g1w2 : w2.cell? ⟨b1, f1 + 1, none⟩ = some (.int .i64 (m.de 0)) := (hP2.cell (p := ⟨b1, f1 + 1, none⟩) zb1).trans g1
      have s0w2 : w2.cell? ⟨b2, f2, none⟩ = some (.string (m.sn 0)) := (hP2.cell (p := ⟨b2, f2, none⟩) zb2).trans s0
      have s1w2 : w2.cell? ⟨b2, f2 + 1, none⟩ = some (.int .i64 (m.sa 0)) := (hP2.cell (p := ⟨b2, f2 + 1, none⟩) zb2).trans s1
      clear d0 d1 g0 g1 s0 s1
      have d0 := d0w2
      have d1 := d1w2
      have g0 := g0w2
      have g1 := g1w2
      have s0 := s0w2
      have s1 := s1w2
      clear d0w2 d1w2 g0w2 g1w2 s0w2 s1w2
      have dzw2 : w.heap.size < w2.heap.size := by have := hP2.size; omega
      have zb1w2 : b1 < w2.heap.size := by have := hP2.size; omega
      have zb2w2 : b2 < w2.heap.size := by have := hP2.size; omega
      clear dz zb1 zb2
      have dz := dzw2
      have zb1 := zb1w2
      have zb2 := zb2w2
      clear dzw2 zb1w2 zb2w2
      have hBw2 : Below w.heap.size w w2 := below_step hBw1 hP2
      replace HM0 := Lib.hid (HM0.out.below hP2)
      replace HV0 := Lib.hid (HV0.out.below hP2)
      replace HML0 := Lib.hid (HML0.out.below hP2)
      have HQP : Hid (w2.heap[VP]? = some (.cells #[.string ⟨#[]⟩, .int .i64 0, .int .i64 0, .string ⟨#[]⟩, .string ⟨#[]⟩, .int .i64 0, .slice none 0 0, .slice none 0 0, .string ⟨#[]⟩, .int .i64 0, .int .i64 0, .int .i64 0, .int .i64 0, .int .i64 0, .int .i64 0, .int .i64 0, .int .i64 0, .int .i64 0] 43)) := HQVP.out
      clear hcw2 hfw2 HBWw2 HHw2 HQVP mfVP msVP mVP0 mVP1 mVP2 mVP3 mVP4 mVP5 mVP6 mVP7 mVP8 mVP9 mVP10 mVP11 mVP12 mVP13 mVP14 mVP15 mVP16 mVP17 hP2
      go_wp2_with fail
      (go_at_call 6; refine (HLN.out _ _ (HV0.out.below (by first | exact Below.refl _ _ | (show Below w2.heap.size w2 _; go_grown)))).mono ?_; rintro e_ w3 ⟨rfl, hb⟩)
      have hP3 : Below w2.heap.size w2 w3 := below_step (w := w2) (by first | exact Below.refl _ _ | go_grown) hb
      have d0w3 : w3.cell? ⟨w.heap.size, 0, none⟩ = some (.slice (some ⟨b1, f1, none⟩) m.ng cg) := (hP3.cell (p := ⟨w.heap.size, 0, none⟩) dz).trans d0
      have d1w3 : w3.cell? ⟨w.heap.size, 1, none⟩ = some (.slice (some ⟨b2, f2, none⟩) m.ns cs') := (hP3.cell (p := ⟨w.heap.size, 1, none⟩) dz).trans d1
      have g0w3 : w3.cell? ⟨b1, f1, none⟩ = some (.string (m.nm 0)) := (hP3.cell (p := ⟨b1, f1, none⟩) zb1).trans g0
      have g1w3 : w3.cell? ⟨b1, f1 + 1, none⟩ = some (.int .i64 (m.de 0)) := (hP3.cell (p := ⟨b1, f1 + 1, none⟩) zb1).trans g1
      have s0w3 : w3.cell? ⟨b2, f2, none⟩ = some (.string (m.sn 0)) := (hP3.cell (p := ⟨b2, f2, none⟩) zb2).trans s0
      have s1w3 : w3.cell? ⟨b2, f2 + 1, none⟩ = some (.int .i64 (m.sa 0)) := (hP3.cell (p := ⟨b2, f2 + 1, none⟩) zb2).trans s1
      clear d0 d1 g0 g1 s0 s1
      have d0 := d0w3
      have d1 := d1w3
      have g0 := g0w3
      have g1 := g1w3
      have s0 := s0w3
      have s1 := s1w3
      clear d0w3 d1w3 g0w3 g1w3 s0w3 s1w3
      have dzw3 : w.heap.size < w3.heap.size := by have := hP3.size; omega
      have zb1w3 : b1 < w3.heap.size := by have := hP3.size; omega
      have zb2w3 : b2 < w3.heap.size := by have := hP3.size; omega
      clear dz zb1 zb2
      have dz := dzw3
      have zb1 := zb1w3
      have zb2 := zb2w3
      clear dzw3 zb1w3 zb2w3
      have hBw3 : Below w.heap.size w w3 := below_step hBw2 hP3
      replace HM0 := Lib.hid (HM0.out.below hP3)
      replace HV0 := Lib.hid (HV0.out.below hP3)
      replace HML0 := Lib.hid (HML0.out.below hP3)
      have HQP2 : Hid (w3.heap[VP]? = some (.cells #[.string ⟨#[]⟩, .int .i64 0, .int .i64 0, .string ⟨#[]⟩, .string ⟨#[]⟩, .int .i64 0, .slice none 0 0, .slice none 0 0, .string ⟨#[]⟩, .int .i64 0, .int .i64 0, .int .i64 0, .int .i64 0, .int .i64 0, .int .i64 0, .int .i64 0, .int .i64 0, .int .i64 0] 43)) := (hP3.block _ (block_lt HQP.out)).trans HQP.out
      clear hb hP3 HQP
      go_wp2_with fail
      refine wp_region_seq 19 [⟨16, 17, #[.string ⟨#[]⟩, .int .i64 0, .int .i64 0, .string ⟨#[]⟩, .string ⟨#[]⟩, .int .i64 0, .slice none 0 0, .slice none 0 0, .string ⟨#[]⟩, .int .i64 0, .int .i64 0, .int .i64 0, .int .i64 0, .int .i64 0, .int .i64 0, .int .i64 0, .int .i64 0, .int .i64 0], 43⟩] [] (by kernel_rfl) (by kernel_rfl) (by kernel_rfl) (by kernel_rfl) (by kernel_rfl) ?_ ?_ ?_
      · intro r hr; cases hr
      · intro r hr; cases hr
      simp only [List.take_succ_cons, List.take_zero, fillL, Act.put, List.setIfInBounds_toArray, List.set_cons_zero, List.set_cons_succ]
      apply seq_is (by kernel_rfl)
      · intro u wx hb hd
        replace hb := hb.nil
        have hz := hb.size
        (try simp only [World.size_alloc, World.size_setCell] at hz)
        have hz0 : w.heap.size < wx.heap.size := by omega
        have hz1 : b1 < wx.heap.size := by omega
        have hz2 : b2 < wx.heap.size := by omega
        obtain ⟨hc, hf⟩ := bcell hb
        clear hb hz
        simp [depsE, Region.binds, updE, kindOf, Prp.is, Prp.any] at hd
        go_simp
        first | exact ⟨Below.refl _ _, rfl⟩ | rfl
      apply seq_is (by kernel_rfl)
      · intro u wx hb hd
        replace hb := hb.nil
        have hz := hb.size
        (try simp only [World.size_alloc, World.size_setCell] at hz)
        have hz0 : w.heap.size < wx.heap.size := by omega
        have hz1 : b1 < wx.heap.size := by omega
        have hz2 : b2 < wx.heap.size := by omega
        obtain ⟨hc, hf⟩ := bcell hb
        clear hb hz
        simp [depsE, Region.binds, updE, kindOf, Prp.is, Prp.any] at hd
        go_simp
        first | exact ⟨Below.refl _ _, rfl⟩ | rfl
      apply seq_is (by kernel_rfl)
      · intro u wx hb hd
        replace hb := hb.nil
        have hz := hb.size
        (try simp only [World.size_alloc, World.size_setCell] at hz)
        have hz0 : w.heap.size < wx.heap.size := by omega
        have hz1 : b1 < wx.heap.size := by omega
        have hz2 : b2 < wx.heap.size := by omega
        obtain ⟨hc, hf⟩ := bcell hb
        clear hb hz
        simp [depsE, Region.binds, updE, kindOf, Prp.is, Prp.any] at hd
        go_simp
        first | exact ⟨Below.refl _ _, rfl⟩ | rfl
      apply seq_is (by kernel_rfl)
      · intro u wx hb hd
        replace hb := hb.nil
        have hz := hb.size
        (try simp only [World.size_alloc, World.size_setCell] at hz)
        have hz0 : w.heap.size < wx.heap.size := by omega
        have hz1 : b1 < wx.heap.size := by omega
        have hz2 : b2 < wx.heap.size := by omega
        obtain ⟨hc, hf⟩ := bcell hb
        clear hb hz
        simp [depsE, Region.binds, updE, kindOf, Prp.is, Prp.any] at hd
        go_simp
        first | exact ⟨Below.refl _ _, rfl⟩ | rfl
      apply seq_is (by kernel_rfl)
      · intro u wx hb hd
        replace hb := hb.nil
        have hz := hb.size
        (try simp only [World.size_alloc, World.size_setCell] at hz)
        have hz0 : w.heap.size < wx.heap.size := by omega
        have hz1 : b1 < wx.heap.size := by omega
        have hz2 : b2 < wx.heap.size := by omega
        obtain ⟨hc, hf⟩ := bcell hb
        clear hb hz
        simp [depsE, Region.binds, updE, kindOf, Prp.is, Prp.any] at hd
        go_simp
        first | exact ⟨Below.refl _ _, rfl⟩ | rfl
      apply seq_is (by kernel_rfl)
      · intro u wx hb hd
        replace hb := hb.nil
        have hz := hb.size
        (try simp only [World.size_alloc, World.size_setCell] at hz)
        have hz0 : w.heap.size < wx.heap.size := by omega
        have hz1 : b1 < wx.heap.size := by omega
        have hz2 : b2 < wx.heap.size := by omega
        obtain ⟨hc, hf⟩ := bcell hb
        clear hb hz
        simp [depsE, Region.binds, updE, kindOf, Prp.is, Prp.any] at hd
        go_simp
        first | exact ⟨Below.refl _ _, rfl⟩ | rfl
      apply seq_is (by kernel_rfl)
      · intro u wx hb hd
        replace hb := hb.nil
        have hz := hb.size
        (try simp only [World.size_alloc, World.size_setCell] at hz)
        have hz0 : w.heap.size < wx.heap.size := by omega
        have hz1 : b1 < wx.heap.size := by omega
        have hz2 : b2 < wx.heap.size := by omega
        obtain ⟨hc, hf⟩ := bcell hb
        clear hb hz
        simp [depsE, Region.binds, updE, kindOf, Prp.is, Prp.any] at hd
        go_simp
        first | exact ⟨Below.refl _ _, rfl⟩ | rfl
      apply seq_is (by kernel_rfl)
      · intro u wx hb hd
        replace hb := hb.nil
        have hz := hb.size
        (try simp only [World.size_alloc, World.size_setCell] at hz)
        have hz0 : w.heap.size < wx.heap.size := by omega
        have hz1 : b1 < wx.heap.size := by omega
        have hz2 : b2 < wx.heap.size := by omega
        obtain ⟨hc, hf⟩ := bcell hb
        clear hb hz
        simp [depsE, Region.binds, updE, kindOf, Prp.is, Prp.any] at hd
        go_simp
        first | exact ⟨Below.refl _ _, rfl⟩ | rfl
      apply seq_is (by kernel_rfl)
      · intro u wx hb hd
        replace hb := hb.nil
        have hz := hb.size
        (try simp only [World.size_alloc, World.size_setCell] at hz)
        have hz0 : w.heap.size < wx.heap.size := by omega
        have hz1 : b1 < wx.heap.size := by omega
        have hz2 : b2 < wx.heap.size := by omega
        obtain ⟨hc, hf⟩ := bcell hb
        clear hb hz
        simp [depsE, Region.binds, updE, kindOf, Prp.is, Prp.any] at hd
        go_simp
        first | exact ⟨Below.refl _ _, rfl⟩ | rfl
      apply seq_is (by kernel_rfl)
      · intro u wx hb hd
        replace hb := hb.nil
        have hz := hb.size
        (try simp only [World.size_alloc, World.size_setCell] at hz)
        have hz0 : w.heap.size < wx.heap.size := by omega
        have hz1 : b1 < wx.heap.size := by omega
        have hz2 : b2 < wx.heap.size := by omega
        obtain ⟨hc, hf⟩ := bcell hb
        clear hb hz
        simp [depsE, Region.binds, updE, kindOf, Prp.is, Prp.any] at hd
        go_simp
        first | exact ⟨Below.refl _ _, rfl⟩ | rfl
      apply seq_is (by kernel_rfl)
      · intro u wx hb hd
        replace hb := hb.nil
        have hz := hb.size
        (try simp only [World.size_alloc, World.size_setCell] at hz)
        have hz0 : w.heap.size < wx.heap.size := by omega
        have hz1 : b1 < wx.heap.size := by omega
        have hz2 : b2 < wx.heap.size := by omega
        obtain ⟨hc, hf⟩ := bcell hb
        clear hb hz
        simp [depsE, Region.binds, updE, kindOf, Prp.is, Prp.any] at hd
        go_simp
        first | exact ⟨Below.refl _ _, rfl⟩ | rfl
      apply seq_is (by kernel_rfl)
      · intro u wx hb hd
        replace hb := hb.nil
        have hz := hb.size
        (try simp only [World.size_alloc, World.size_setCell] at hz)
        have hz0 : w.heap.size < wx.heap.size := by omega
        have hz1 : b1 < wx.heap.size := by omega
        have hz2 : b2 < wx.heap.size := by omega
        obtain ⟨hc, hf⟩ := bcell hb
        clear hb hz
        simp [depsE, Region.binds, updE, kindOf, Prp.is, Prp.any] at hd
        go_simp
        first | exact ⟨Below.refl _ _, rfl⟩ | rfl
      apply seq_is (by kernel_rfl)
      · intro u wx hb hd
        replace hb := hb.nil
        have hz := hb.size
        (try simp only [World.size_alloc, World.size_setCell] at hz)
        have hz0 : w.heap.size < wx.heap.size := by omega
        have hz1 : b1 < wx.heap.size := by omega
        have hz2 : b2 < wx.heap.size := by omega
        obtain ⟨hc, hf⟩ := bcell hb
        have HBX := Lib.hid hb
        clear hb hz
        simp [depsE, Region.binds, updE, kindOf, Prp.is, Prp.any] at hd
        go_simp
        (go_at_call 7; refine (HRT.out _ _ (HV0.out.below HBX.out)).mono ?_; rintro e w1 ⟨rfl, hb1⟩; first | exact ⟨rfl, hb1⟩ | exact ⟨_, rfl, hb1, rfl⟩)
      apply seq_is (by kernel_rfl)
      · intro u wx hb hd
        replace hb := hb.nil
        have hz := hb.size
        (try simp only [World.size_alloc, World.size_setCell] at hz)
        have hz0 : w.heap.size < wx.heap.size := by omega
        have hz1 : b1 < wx.heap.size := by omega
        have hz2 : b2 < wx.heap.size := by omega
        obtain ⟨hc, hf⟩ := bcell hb
        clear hb hz
        simp [depsE, Region.binds, updE, kindOf, Prp.is, Prp.any] at hd
        go_simp
        first | exact ⟨Below.refl _ _, rfl⟩ | rfl
      apply seq_is (by kernel_rfl)
      · intro u wx hb hd
        replace hb := hb.nil
        have hz := hb.size
        (try simp only [World.size_alloc, World.size_setCell] at hz)
        have hz0 : w.heap.size < wx.heap.size := by omega
        have hz1 : b1 < wx.heap.size := by omega
        have hz2 : b2 < wx.heap.size := by omega
        obtain ⟨hc, hf⟩ := bcell hb
        clear hb hz
        simp [depsE, Region.binds, updE, kindOf, Prp.is, Prp.any] at hd
        go_simp
        first | exact ⟨Below.refl _ _, rfl⟩ | rfl
      apply seq_is (by kernel_rfl)
      · intro u wx hb hd
        replace hb := hb.nil
        have hz := hb.size
        (try simp only [World.size_alloc, World.size_setCell] at hz)
        have hz0 : w.heap.size < wx.heap.size := by omega
        have hz1 : b1 < wx.heap.size := by omega
        have hz2 : b2 < wx.heap.size := by omega
        obtain ⟨hc, hf⟩ := bcell hb
        clear hb hz
        simp [depsE, Region.binds, updE, kindOf, Prp.is, Prp.any] at hd
        go_simp
        first | exact ⟨Below.refl _ _, rfl⟩ | rfl
      refine seq_var ⟨16, 17, #[.string ⟨#[]⟩, .int .i64 0, .int .i64 0, .string ⟨#[]⟩, .string ⟨#[]⟩, .int .i64 0, .slice none 0 0, .slice none 0 0, .string ⟨#[]⟩, .int .i64 0, .int .i64 0, .int .i64 0, .int .i64 0, .int .i64 0, .int .i64 0, .int .i64 0, .int .i64 0, .int .i64 0], 43⟩ (by simp) rfl ?_ ?_
      · intro u wx hb
        refine ⟨by simp [Region.wanted], ?_⟩
        go_simp
        first | done | rfl | exact ⟨rfl, rfl⟩
      apply seq_sto_agg ⟨16, 17, #[.string ⟨#[]⟩, .int .i64 0, .int .i64 0, .string ⟨#[]⟩, .string ⟨#[]⟩, .int .i64 0, .slice none 0 0, .slice none 0 0, .string ⟨#[]⟩, .int .i64 0, .int .i64 0, .int .i64 0, .int .i64 0, .int .i64 0, .int .i64 0, .int .i64 0, .int .i64 0, .int .i64 0], 43⟩ (by simp) rfl (by kernel_rfl) rfl (by kernel_rfl)
      · intro u wx hb hd
        replace hb := hb.nil
        have hz := hb.size
        (try simp only [World.size_alloc, World.size_setCell] at hz)
        have hz0 : w.heap.size < wx.heap.size := by omega
        have hz1 : b1 < wx.heap.size := by omega
        have hz2 : b2 < wx.heap.size := by omega
        obtain ⟨hc, hf⟩ := bcell hb
        clear hb hz
        simp [depsE, Region.binds, updE, kindOf, Prp.is, Prp.any] at hd
        refine ⟨by simp [Region.wanted], fun b' hub hlb hcells => ?_⟩
        exact relOp_store_all 43 b' 18 #[.string ⟨#[]⟩, .int .i64 0, .int .i64 0, .string ⟨#[]⟩, .string ⟨#[]⟩, .int .i64 0, .slice none 0 0, .slice none 0 0, .string ⟨#[]⟩, .int .i64 0, .int .i64 0, .int .i64 0, .int .i64 0, .int .i64 0, .int .i64 0, .int .i64 0, .int .i64 0, .int .i64 0] #[.string ⟨#[]⟩, .int .i64 0, .int .i64 0, .string ⟨#[]⟩, .string ⟨#[]⟩, .int .i64 0, .slice none 0 0, .slice none 0 0, .string ⟨#[]⟩, .int .i64 0, .int .i64 0, .int .i64 0, .int .i64 0, .int .i64 0, .int .i64 0, .int .i64 0, .int .i64 0, .int .i64 0] 43 part_size (by first | exact hub | simpa [Act.eval] using hub) (by first | exact hd.1 | exact hd.2.1 | exact hd | simp [Act.eval, hd]) rfl rfl rfl hcells (fun _ => stored_setRow hcells)
      apply seq_is (by kernel_rfl)
      · intro u wx hb hd
        replace hb := hb.nil
        have hz := hb.size
        (try simp only [World.size_alloc, World.size_setCell] at hz)
        have hz0 : w.heap.size < wx.heap.size := by omega
        have hz1 : b1 < wx.heap.size := by omega
        have hz2 : b2 < wx.heap.size := by omega
        obtain ⟨hc, hf⟩ := bcell hb
        clear hb hz
        simp [depsE, Region.binds, updE, kindOf, Prp.is, Prp.any] at hd
        go_simp
        first | exact ⟨Below.refl _ _, rfl⟩ | rfl
      intro u w4 hb hE hV hP
      replace hb := hb.nil
      clear hP
      have e0 : u 0 = _ := endE_get hE 0 (by decide) (by simp [kindOf])
      have e1 : u 1 = _ := endE_get hE 1 (by decide) (by simp [kindOf])
      have e2 : u 2 = _ := endE_get hE 2 (by decide) (by simp [kindOf])
      have e3 : u 3 = _ := endE_get hE 3 (by decide) (by simp [kindOf])
      have e4 : u 4 = _ := endE_get hE 4 (by decide) (by simp [kindOf])
      have e5 : u 5 = _ := endE_get hE 5 (by decide) (by simp [kindOf])
      have e6 : u 6 = _ := endE_get hE 6 (by decide) (by simp [kindOf])
      have e7 : u 7 = _ := endE_get hE 7 (by decide) (by simp [kindOf])
      have e8 : u 8 = _ := endE_get hE 8 (by decide) (by simp [kindOf])
      have e9 : u 9 = _ := endE_get hE 9 (by decide) (by simp [kindOf])
      have e10 : u 10 = _ := endE_get hE 10 (by decide) (by simp [kindOf])
      have e11 : u 11 = _ := endE_get hE 11 (by decide) (by simp [kindOf])
      have e12 : u 12 = _ := endE_get hE 12 (by decide) (by simp [kindOf])
      have e13 : u 13 = _ := endE_get hE 13 (by decide) (by simp [kindOf])
      have e14 : u 14 = _ := endE_get hE 14 (by decide) (by simp [kindOf])
      have e15 : u 15 = _ := endE_get hE 15 (by decide) (by simp [kindOf])
      have e17 : u 17 = _ := endE_get hE 17 (by decide) (by simp [kindOf])
      have e18 : u 18 = _ := endE_get hE 18 (by decide) (by simp [kindOf])
      obtain ⟨⟨VR, pv0, lv0, qv0⟩, -, -⟩ := hV
      replace qv0 : w4.heap[VR]? = some (.cells (u 17).cells 43) := qv0
      rw [e17] at qv0
      replace pv0 : u 16 = .pointer (some ⟨VR, 0, none⟩) := pv0
      obtain ⟨mVR0, mVR1, mVR2, mVR3, mVR4, mVR5, mVR6, mVR7, mVR8, mVR9, mVR10, mVR11, mVR12, mVR13, mVR14, mVR15, mVR16, mVR17, mfVR, msVR⟩ := cells_at18 qv0
      have HQVR := Lib.hid qv0
      clear qv0
      (try simp only [World.size_alloc, World.size_setCell] at lv0)
      have dVRw40 : VR ≠ w.heap.size := by omega
      have dVRw41 : VR ≠ b1 := by omega
      have dVRw42 : VR ≠ b2 := by omega
      (try have lbVR : w3.heap.size ≤ VR := by omega)
      clear lv0
      simp only [List.drop_succ_cons, List.drop_zero, List.take_succ_cons, List.take_zero, fillL, Act.put, List.setIfInBounds_toArray, List.set_cons_zero, List.set_cons_succ, e0, e1, e2, e3, e4, e5, e6, e7, e8, e9, e10, e11, e12, e13, e14, e15, e17, e18, pv0]
      clear e0 e1 e2 e3 e4 e5 e6 e7 e8 e9 e10 e11 e12 e13 e14 e15 e17 e18 pv0 hE
      have HBWw4 := Lib.hid hb
      have hw4 := below_step (w := w3) (by first | assumption | go_grown) hb
      have hzw4 := hb.size
      (try simp only [World.size_alloc, World.size_setCell] at hzw4)
      have hzw40 : w.heap.size < w4.heap.size := by omega
      have hzw41 : b1 < w4.heap.size := by omega
      have hzw42 : b2 < w4.heap.size := by omega
      have HHw4 := Lib.hid hb.block
      obtain ⟨hcw4, hfw4⟩ := bcell hb
      clear hb hzw4
      have hB4 : Below w.heap.size w w4 := below_step hBw3 HBWw4.out
      go_wp2
      go_returns
      exact ⟨rfl, hB4⟩
    rw [if_neg hc0] at hpe
    subst hpe
    clear hp0 hc0
    go_enter Tryz.func3, Tryz.ntmps3
    go_wp2_with fail
    obtain ⟨w0, hw0⟩ : ∃ X, (w.alloc (.cells #[.slice (some ⟨b1, f1, none⟩) m.ng cg, .slice (some ⟨b2, f2, none⟩) m.ns cs'] 26)) = X := ⟨_, rfl⟩
    have HQM : Hid (w0.heap[w.heap.size]? = some (.cells #[.slice (some ⟨b1, f1, none⟩) m.ng cg, .slice (some ⟨b2, f2, none⟩) m.ns cs'] 26)) := by
      show _ = _
      rw [← hw0]
      exact heapA_at _ _ _ rfl
    have hBw0 : Below w.heap.size w w0 := by rw [← hw0]; exact (Below.refl w.heap.size w).alloc (Nat.le_refl _) _
    rw [hw0]
    clear hw0
    have HM0 := Lib.hid (HM.out.below hBw0)
    have HV0 := Lib.hid (HV.out.below hBw0)
    have HML0 := Lib.hid (HML.out.below hBw0)
    obtain ⟨d0, d1, df, dz⟩ := cells_at2 HQM.out
    have g0 : w0.cell? ⟨b1, f1, none⟩ = some (.string (m.nm 0)) := by
      have h := (hBw0.cell (p := ⟨b1, f1 + 0 * 4, none⟩) hbl1).trans HCG.out.1
      simpa using h
    have g1 : w0.cell? ⟨b1, f1 + 1, none⟩ = some (.int .i64 (m.de 0)) := by
      have h := (hBw0.cell (p := ⟨b1, f1 + 0 * 4 + 1, none⟩) hbl1).trans HCG.out.2.1
      simpa using h
    have s0 : w0.cell? ⟨b2, f2, none⟩ = some (.string (m.sn 0)) := by
      have h := (hBw0.cell (p := ⟨b2, f2 + 0 * 4, none⟩) hbl2).trans HCS.out.1
      simpa using h
    have s1 : w0.cell? ⟨b2, f2 + 1, none⟩ = some (.int .i64 (m.sa 0)) := by
      have h := (hBw0.cell (p := ⟨b2, f2 + 0 * 4 + 1, none⟩) hbl2).trans HCS.out.2.1
      simpa using h
    have zb1 : b1 < w0.heap.size := by have := hBw0.size; omega
    have zb2 : b2 < w0.heap.size := by have := hBw0.size; omega
    refine wp_region_relw 26 (by kernel_rfl) (by kernel_rfl) (by kernel_rfl) ?_
    simp only [List.take_succ_cons, List.take_zero, fillL, Act.put, List.setIfInBounds_toArray, List.set_cons_zero, List.set_cons_succ]
    iterate 23
      apply rel_is
      · intro u wx hb hd
        have hz := hb.size
        (try simp only [World.size_alloc, World.size_setCell] at hz)
        have hz0 : w.heap.size < wx.heap.size := by omega
        have hz1 : b1 < wx.heap.size := by omega
        have hz2 : b2 < wx.heap.size := by omega
        obtain ⟨hc, hf⟩ := bcell hb
        have HBX := Lib.hid hb
        clear hb hz
        simp [depsS, Region.binds, updS, Stay.is, Stay.any] at hd
        go_simp
        first | exact ⟨Below.refl _ _, rfl⟩ | rfl
    apply rel_is
    · intro u wx hb hd
      have hz := hb.size
      (try simp only [World.size_alloc, World.size_setCell] at hz)
      have hz0 : w.heap.size < wx.heap.size := by omega
      have hz1 : b1 < wx.heap.size := by omega
      have hz2 : b2 < wx.heap.size := by omega
      obtain ⟨hc, hf⟩ := bcell hb
      have HBX := Lib.hid hb
      clear hb hz
      simp [depsS, Region.binds, updS, Stay.is, Stay.any] at hd
      go_simp
      first | rfl | (go_at_call 4; refine (HRC.out _ _ (HM0.out.below HBX.out)).mono ?_; rintro e w1 ⟨rfl, hb1⟩; first | exact ⟨rfl, hb1⟩ | exact ⟨_, rfl, hb1, rfl⟩)
    iterate 2
      apply rel_is
      · intro u wx hb hd
        have hz := hb.size
        (try simp only [World.size_alloc, World.size_setCell] at hz)
        have hz0 : w.heap.size < wx.heap.size := by omega
        have hz1 : b1 < wx.heap.size := by omega
        have hz2 : b2 < wx.heap.size := by omega
        obtain ⟨hc, hf⟩ := bcell hb
        have HBX := Lib.hid hb
        clear hb hz
        simp [depsS, Region.binds, updS, Stay.is, Stay.any] at hd
        go_simp
        first | exact ⟨Below.refl _ _, rfl⟩ | rfl
    intro u w1 hb hE
    have e0 : u 0 = _ := endS_get hE 0 (by decide)
    have e1 : u 1 = _ := endS_get hE 1 (by decide)
    have e2 : u 2 = _ := endS_get hE 2 (by decide)
    have e3 : u 3 = _ := endS_get hE 3 (by decide)
    have e4 : u 4 = _ := endS_get hE 4 (by decide)
    have e5 : u 5 = _ := endS_get hE 5 (by decide)
    have e6 : u 6 = _ := endS_get hE 6 (by decide)
    have e7 : u 7 = _ := endS_get hE 7 (by decide)
    have e8 : u 8 = _ := endS_get hE 8 (by decide)
    have e9 : u 9 = _ := endS_get hE 9 (by decide)
    have e10 : u 10 = _ := endS_get hE 10 (by decide)
    have e11 : u 11 = _ := endS_get hE 11 (by decide)
    have e12 : u 12 = _ := endS_get hE 12 (by decide)
    have e13 : u 13 = _ := endS_get hE 13 (by decide)
    have e14 : u 14 = _ := endS_get hE 14 (by decide)
    have e15 : u 15 = _ := endS_get hE 15 (by decide)
    have e16 : u 16 = _ := endS_get hE 16 (by decide)
    have e17 : u 17 = _ := endS_get hE 17 (by decide)
    have e18 : u 18 = _ := endS_get hE 18 (by decide)
    have e19 : u 19 = _ := endS_get hE 19 (by decide)
    have e20 : u 20 = _ := endS_get hE 20 (by decide)
    have e21 : u 21 = _ := endS_get hE 21 (by decide)
    have e22 : u 22 = _ := endS_get hE 22 (by decide)
    have e23 : u 23 = _ := endS_get hE 23 (by decide)
    have e24 : u 24 = _ := endS_get hE 24 (by decide)
    have e25 : u 25 = _ := endS_get hE 25 (by decide)
    simp only [List.drop_succ_cons, List.drop_zero, List.take_succ_cons, List.take_zero, fillL, Act.put, List.setIfInBounds_toArray, List.set_cons_zero, List.set_cons_succ, e0, e1, e2, e3, e4, e5, e6, e7, e8, e9, e10, e11, e12, e13, e14, e15, e16, e17, e18, e19, e20, e21, e22, e23, e24, e25]
    clear e0 e1 e2 e3 e4 e5 e6 e7 e8 e9 e10 e11 e12 e13 e14 e15 e16 e17 e18 e19 e20 e21 e22 e23 e24 e25 hE
    have HBw1 := Lib.hid (below_step (w := w0) (by first | assumption | go_grown) hb)
    have HBXw1 := Lib.hid hb
    have hzw1 := hb.size
    (try simp only [World.size_alloc, World.size_setCell] at hzw1)
    have hzw10 : w.heap.size < w1.heap.size := by omega
    have hzw11 : b1 < w1.heap.size := by omega
    have hzw12 : b2 < w1.heap.size := by omega
    obtain ⟨hcw1, hfw1⟩ := bcell hb
    clear hb hzw1
    have hP1 := HBXw1.out
    have d0w1 : w1.cell? ⟨w.heap.size, 0, none⟩ = some (.slice (some ⟨b1, f1, none⟩) m.ng cg) := (hP1.cell (p := ⟨w.heap.size, 0, none⟩) dz).trans d0
    have d1w1 : w1.cell? ⟨w.heap.size, 1, none⟩ = some (.slice (some ⟨b2, f2, none⟩) m.ns cs') := (hP1.cell (p := ⟨w.heap.size, 1, none⟩) dz).trans d1
    have g0w1 : w1.cell? ⟨b1, f1, none⟩ = some (.string (m.nm 0)) := (hP1.cell (p := ⟨b1, f1, none⟩) zb1).trans g0
    have g1w1 : w1.cell? ⟨b1, f1 + 1, none⟩ = some (.int .i64 (m.de 0)) := (hP1.cell (p := ⟨b1, f1 + 1, none⟩) zb1).trans g1
    have s0w1 : w1.cell? ⟨b2, f2, none⟩ = some (.string (m.sn 0)) := (hP1.cell (p := ⟨b2, f2, none⟩) zb2).trans s0
    have s1w1 : w1.cell? ⟨b2, f2 + 1, none⟩ = some (.int .i64 (m.sa 0)) := (hP1.cell (p := ⟨b2, f2 + 1, none⟩) zb2).trans s1
    clear d0 d1 g0 g1 s0 s1
    have d0 := d0w1
    have d1 := d1w1
    have g0 := g0w1
    have g1 := g1w1
    have s0 := s0w1
    have s1 := s1w1
    clear d0w1 d1w1 g0w1 g1w1 s0w1 s1w1
    have dzw1 : w.heap.size < w1.heap.size := by have := hP1.size; omega
    have zb1w1 : b1 < w1.heap.size := by have := hP1.size; omega
    have zb2w1 : b2 < w1.heap.size := by have := hP1.size; omega
    clear dz zb1 zb2
    have dz := dzw1
    have zb1 := zb1w1
    have zb2 := zb2w1
    clear dzw1 zb1w1 zb2w1
    have hBw1 : Below w.heap.size w w1 := below_step hBw0 hP1
    replace HM0 := Lib.hid (HM0.out.below hP1)
    replace HV0 := Lib.hid (HV0.out.below hP1)
    replace HML0 := Lib.hid (HML0.out.below hP1)
    clear hcw1 hfw1 hP1
    go_wp2_with fail
    refine wp_region_seq 19 [⟨16, 17, #[.string ⟨#[]⟩, .int .i64 0, .int .i64 0, .string ⟨#[]⟩, .string ⟨#[]⟩, .int .i64 0, .slice none 0 0, .slice none 0 0, .string ⟨#[]⟩, .int .i64 0, .int .i64 0, .int .i64 0, .int .i64 0, .int .i64 0, .int .i64 0, .int .i64 0, .int .i64 0, .int .i64 0], 43⟩] [] (by kernel_rfl) (by kernel_rfl) (by kernel_rfl) (by kernel_rfl) (by kernel_rfl) ?_ ?_ ?_
    · intro r hr; cases hr
    · intro r hr; cases hr
    simp only [List.take_succ_cons, List.take_zero, fillL, Act.put, List.setIfInBounds_toArray, List.set_cons_zero, List.set_cons_succ]
    apply seq_is (by kernel_rfl)
    · intro u wx hb hd
      replace hb := hb.nil
      have hz := hb.size
      (try simp only [World.size_alloc, World.size_setCell] at hz)
      have hz0 : w.heap.size < wx.heap.size := by omega
      have hz1 : b1 < wx.heap.size := by omega
      have hz2 : b2 < wx.heap.size := by omega
      obtain ⟨hc, hf⟩ := bcell hb
      clear hb hz
      simp [depsE, Region.binds, updE, kindOf, Prp.is, Prp.any] at hd
      go_simp
      first | exact ⟨Below.refl _ _, rfl⟩ | rfl
    apply seq_is (by kernel_rfl)
    · intro u wx hb hd
      replace hb := hb.nil
      have hz := hb.size
      (try simp only [World.size_alloc, World.size_setCell] at hz)
      have hz0 : w.heap.size < wx.heap.size := by omega
      have hz1 : b1 < wx.heap.size := by omega
      have hz2 : b2 < wx.heap.size := by omega
      obtain ⟨hc, hf⟩ := bcell hb
      clear hb hz
      simp [depsE, Region.binds, updE, kindOf, Prp.is, Prp.any] at hd
      go_simp
      first | exact ⟨Below.refl _ _, rfl⟩ | rfl
    apply seq_is (by kernel_rfl)
    · intro u wx hb hd
      replace hb := hb.nil
      have hz := hb.size
      (try simp only [World.size_alloc, World.size_setCell] at hz)
      have hz0 : w.heap.size < wx.heap.size := by omega
      have hz1 : b1 < wx.heap.size := by omega
      have hz2 : b2 < wx.heap.size := by omega
      obtain ⟨hc, hf⟩ := bcell hb
      clear hb hz
      simp [depsE, Region.binds, updE, kindOf, Prp.is, Prp.any] at hd
      go_simp
      first | exact ⟨Below.refl _ _, rfl⟩ | rfl
    apply seq_is (by kernel_rfl)
    · intro u wx hb hd
      replace hb := hb.nil
      have hz := hb.size
      (try simp only [World.size_alloc, World.size_setCell] at hz)
      have hz0 : w.heap.size < wx.heap.size := by omega
      have hz1 : b1 < wx.heap.size := by omega
      have hz2 : b2 < wx.heap.size := by omega
      obtain ⟨hc, hf⟩ := bcell hb
      clear hb hz
      simp [depsE, Region.binds, updE, kindOf, Prp.is, Prp.any] at hd
      go_simp
      first | exact ⟨Below.refl _ _, rfl⟩ | rfl
    apply seq_is (by kernel_rfl)
    · intro u wx hb hd
      replace hb := hb.nil
      have hz := hb.size
      (try simp only [World.size_alloc, World.size_setCell] at hz)
      have hz0 : w.heap.size < wx.heap.size := by omega
      have hz1 : b1 < wx.heap.size := by omega
      have hz2 : b2 < wx.heap.size := by omega
      obtain ⟨hc, hf⟩ := bcell hb
      clear hb hz
      simp [depsE, Region.binds, updE, kindOf, Prp.is, Prp.any] at hd
      go_simp
      first | exact ⟨Below.refl _ _, rfl⟩ | rfl
    apply seq_is (by kernel_rfl)
    · intro u wx hb hd
      replace hb := hb.nil
      have hz := hb.size
      (try simp only [World.size_alloc, World.size_setCell] at hz)
      have hz0 : w.heap.size < wx.heap.size := by omega
      have hz1 : b1 < wx.heap.size := by omega
      have hz2 : b2 < wx.heap.size := by omega
      obtain ⟨hc, hf⟩ := bcell hb
      clear hb hz
      simp [depsE, Region.binds, updE, kindOf, Prp.is, Prp.any] at hd
      go_simp
      first | exact ⟨Below.refl _ _, rfl⟩ | rfl
    apply seq_is (by kernel_rfl)
    · intro u wx hb hd
      replace hb := hb.nil
      have hz := hb.size
      (try simp only [World.size_alloc, World.size_setCell] at hz)
      have hz0 : w.heap.size < wx.heap.size := by omega
      have hz1 : b1 < wx.heap.size := by omega
      have hz2 : b2 < wx.heap.size := by omega
      obtain ⟨hc, hf⟩ := bcell hb
      clear hb hz
      simp [depsE, Region.binds, updE, kindOf, Prp.is, Prp.any] at hd
      go_simp
      first | exact ⟨Below.refl _ _, rfl⟩ | rfl
    apply seq_is (by kernel_rfl)
    · intro u wx hb hd
      replace hb := hb.nil
      have hz := hb.size
      (try simp only [World.size_alloc, World.size_setCell] at hz)
      have hz0 : w.heap.size < wx.heap.size := by omega
      have hz1 : b1 < wx.heap.size := by omega
      have hz2 : b2 < wx.heap.size := by omega
      obtain ⟨hc, hf⟩ := bcell hb
      clear hb hz
      simp [depsE, Region.binds, updE, kindOf, Prp.is, Prp.any] at hd
      go_simp
      first | exact ⟨Below.refl _ _, rfl⟩ | rfl
    apply seq_is (by kernel_rfl)
    · intro u wx hb hd
      replace hb := hb.nil
      have hz := hb.size
      (try simp only [World.size_alloc, World.size_setCell] at hz)
      have hz0 : w.heap.size < wx.heap.size := by omega
      have hz1 : b1 < wx.heap.size := by omega
      have hz2 : b2 < wx.heap.size := by omega
      obtain ⟨hc, hf⟩ := bcell hb
      clear hb hz
      simp [depsE, Region.binds, updE, kindOf, Prp.is, Prp.any] at hd
      go_simp
      first | exact ⟨Below.refl _ _, rfl⟩ | rfl
    apply seq_is (by kernel_rfl)
    · intro u wx hb hd
      replace hb := hb.nil
      have hz := hb.size
      (try simp only [World.size_alloc, World.size_setCell] at hz)
      have hz0 : w.heap.size < wx.heap.size := by omega
      have hz1 : b1 < wx.heap.size := by omega
      have hz2 : b2 < wx.heap.size := by omega
      obtain ⟨hc, hf⟩ := bcell hb
      clear hb hz
      simp [depsE, Region.binds, updE, kindOf, Prp.is, Prp.any] at hd
      go_simp
      first | exact ⟨Below.refl _ _, rfl⟩ | rfl
    apply seq_is (by kernel_rfl)
    · intro u wx hb hd
      replace hb := hb.nil
      have hz := hb.size
      (try simp only [World.size_alloc, World.size_setCell] at hz)
      have hz0 : w.heap.size < wx.heap.size := by omega
      have hz1 : b1 < wx.heap.size := by omega
      have hz2 : b2 < wx.heap.size := by omega
      obtain ⟨hc, hf⟩ := bcell hb
      clear hb hz
      simp [depsE, Region.binds, updE, kindOf, Prp.is, Prp.any] at hd
      go_simp
      first | exact ⟨Below.refl _ _, rfl⟩ | rfl
    apply seq_is (by kernel_rfl)
    · intro u wx hb hd
      replace hb := hb.nil
      have hz := hb.size
      (try simp only [World.size_alloc, World.size_setCell] at hz)
      have hz0 : w.heap.size < wx.heap.size := by omega
      have hz1 : b1 < wx.heap.size := by omega
      have hz2 : b2 < wx.heap.size := by omega
      obtain ⟨hc, hf⟩ := bcell hb
      clear hb hz
      simp [depsE, Region.binds, updE, kindOf, Prp.is, Prp.any] at hd
      go_simp
      first | exact ⟨Below.refl _ _, rfl⟩ | rfl
    apply seq_is (by kernel_rfl)
    · intro u wx hb hd
      replace hb := hb.nil
      have hz := hb.size
      (try simp only [World.size_alloc, World.size_setCell] at hz)
      have hz0 : w.heap.size < wx.heap.size := by omega
      have hz1 : b1 < wx.heap.size := by omega
      have hz2 : b2 < wx.heap.size := by omega
      obtain ⟨hc, hf⟩ := bcell hb
      have HBX := Lib.hid hb
      clear hb hz
      simp [depsE, Region.binds, updE, kindOf, Prp.is, Prp.any] at hd
      go_simp
      (go_at_call 5; refine (HPT.out _ _ (HV0.out.below HBX.out)).mono ?_; rintro e w1 ⟨rfl, hb1⟩; first | exact ⟨rfl, hb1⟩ | exact ⟨_, rfl, hb1, rfl⟩)
    apply seq_is (by kernel_rfl)
    · intro u wx hb hd
      replace hb := hb.nil
      have hz := hb.size
      (try simp only [World.size_alloc, World.size_setCell] at hz)
      have hz0 : w.heap.size < wx.heap.size := by omega
      have hz1 : b1 < wx.heap.size := by omega
      have hz2 : b2 < wx.heap.size := by omega
      obtain ⟨hc, hf⟩ := bcell hb
      clear hb hz
      simp [depsE, Region.binds, updE, kindOf, Prp.is, Prp.any] at hd
      go_simp
      first | exact ⟨Below.refl _ _, rfl⟩ | rfl
    apply seq_is (by kernel_rfl)
    · intro u wx hb hd
      replace hb := hb.nil
      have hz := hb.size
      (try simp only [World.size_alloc, World.size_setCell] at hz)
      have hz0 : w.heap.size < wx.heap.size := by omega
      have hz1 : b1 < wx.heap.size := by omega
      have hz2 : b2 < wx.heap.size := by omega
      obtain ⟨hc, hf⟩ := bcell hb
      clear hb hz
      simp [depsE, Region.binds, updE, kindOf, Prp.is, Prp.any] at hd
      go_simp
      first | exact ⟨Below.refl _ _, rfl⟩ | rfl
    apply seq_is (by kernel_rfl)
    · intro u wx hb hd
      replace hb := hb.nil
      have hz := hb.size
      (try simp only [World.size_alloc, World.size_setCell] at hz)
      have hz0 : w.heap.size < wx.heap.size := by omega
      have hz1 : b1 < wx.heap.size := by omega
      have hz2 : b2 < wx.heap.size := by omega
      obtain ⟨hc, hf⟩ := bcell hb
      clear hb hz
      simp [depsE, Region.binds, updE, kindOf, Prp.is, Prp.any] at hd
      go_simp
      first | exact ⟨Below.refl _ _, rfl⟩ | rfl
    refine seq_var ⟨16, 17, #[.string ⟨#[]⟩, .int .i64 0, .int .i64 0, .string ⟨#[]⟩, .string ⟨#[]⟩, .int .i64 0, .slice none 0 0, .slice none 0 0, .string ⟨#[]⟩, .int .i64 0, .int .i64 0, .int .i64 0, .int .i64 0, .int .i64 0, .int .i64 0, .int .i64 0, .int .i64 0, .int .i64 0], 43⟩ (by simp) rfl ?_ ?_
    · intro u wx hb
      refine ⟨by simp [Region.wanted], ?_⟩
      go_simp
      first | done | rfl | exact ⟨rfl, rfl⟩
    apply seq_sto_agg ⟨16, 17, #[.string ⟨#[]⟩, .int .i64 0, .int .i64 0, .string ⟨#[]⟩, .string ⟨#[]⟩, .int .i64 0, .slice none 0 0, .slice none 0 0, .string ⟨#[]⟩, .int .i64 0, .int .i64 0, .int .i64 0, .int .i64 0, .int .i64 0, .int .i64 0, .int .i64 0, .int .i64 0, .int .i64 0], 43⟩ (by simp) rfl (by kernel_rfl) rfl (by kernel_rfl)
    · intro u wx hb hd
      replace hb := hb.nil
      have hz := hb.size
      (try simp only [World.size_alloc, World.size_setCell] at hz)
      have hz0 : w.heap.size < wx.heap.size := by omega
      have hz1 : b1 < wx.heap.size := by omega
      have hz2 : b2 < wx.heap.size := by omega
      obtain ⟨hc, hf⟩ := bcell hb
      clear hb hz
      simp [depsE, Region.binds, updE, kindOf, Prp.is, Prp.any] at hd
      refine ⟨by simp [Region.wanted], fun b' hub hlb hcells => ?_⟩
      exact relOp_store_all 43 b' 18 #[.string ⟨#[]⟩, .int .i64 0, .int .i64 0, .string ⟨#[]⟩, .string ⟨#[]⟩, .int .i64 0, .slice none 0 0, .slice none 0 0, .string ⟨#[]⟩, .int .i64 0, .int .i64 0, .int .i64 0, .int .i64 0, .int .i64 0, .int .i64 0, .int .i64 0, .int .i64 0, .int .i64 0] #[.string ⟨#[]⟩, .int .i64 0, .int .i64 0, .string ⟨#[]⟩, .string ⟨#[]⟩, .int .i64 0, .slice none 0 0, .slice none 0 0, .string ⟨#[]⟩, .int .i64 0, .int .i64 0, .int .i64 0, .int .i64 0, .int .i64 0, .int .i64 0, .int .i64 0, .int .i64 0, .int .i64 0] 43 part_size (by first | exact hub | simpa [Act.eval] using hub) (by first | exact hd.1 | exact hd.2.1 | exact hd | simp [Act.eval, hd]) rfl rfl rfl hcells (fun _ => stored_setRow hcells)
    apply seq_is (by kernel_rfl)
    · intro u wx hb hd
      replace hb := hb.nil
      have hz := hb.size
      (try simp only [World.size_alloc, World.size_setCell] at hz)
      have hz0 : w.heap.size < wx.heap.size := by omega
      have hz1 : b1 < wx.heap.size := by omega
      have hz2 : b2 < wx.heap.size := by omega
      obtain ⟨hc, hf⟩ := bcell hb
      clear hb hz
      simp [depsE, Region.binds, updE, kindOf, Prp.is, Prp.any] at hd
      go_simp
      first | exact ⟨Below.refl _ _, rfl⟩ | rfl
    intro u w2 hb hE hV hP
    replace hb := hb.nil
    clear hP
    have e0 : u 0 = _ := endE_get hE 0 (by decide) (by simp [kindOf])
    have e1 : u 1 = _ := endE_get hE 1 (by decide) (by simp [kindOf])
    have e2 : u 2 = _ := endE_get hE 2 (by decide) (by simp [kindOf])
    have e3 : u 3 = _ := endE_get hE 3 (by decide) (by simp [kindOf])
    have e4 : u 4 = _ := endE_get hE 4 (by decide) (by simp [kindOf])
    have e5 : u 5 = _ := endE_get hE 5 (by decide) (by simp [kindOf])
    have e6 : u 6 = _ := endE_get hE 6 (by decide) (by simp [kindOf])
    have e7 : u 7 = _ := endE_get hE 7 (by decide) (by simp [kindOf])
    have e8 : u 8 = _ := endE_get hE 8 (by decide) (by simp [kindOf])
    have e9 : u 9 = _ := endE_get hE 9 (by decide) (by simp [kindOf])
    have e10 : u 10 = _ := endE_get hE 10 (by decide) (by simp [kindOf])
    have e11 : u 11 = _ := endE_get hE 11 (by decide) (by simp [kindOf])
    have e12 : u 12 = _ := endE_get hE 12 (by decide) (by simp [kindOf])
    have e13 : u 13 = _ := endE_get hE 13 (by decide) (by simp [kindOf])
    have e14 : u 14 = _ := endE_get hE 14 (by decide) (by simp [kindOf])
    have e15 : u 15 = _ := endE_get hE 15 (by decide) (by simp [kindOf])
    have e17 : u 17 = _ := endE_get hE 17 (by decide) (by simp [kindOf])
    have e18 : u 18 = _ := endE_get hE 18 (by decide) (by simp [kindOf])
    obtain ⟨⟨VP, pv0, lv0, qv0⟩, -, -⟩ := hV
    replace qv0 : w2.heap[VP]? = some (.cells (u 17).cells 43) := qv0
    rw [e17] at qv0
    replace pv0 : u 16 = .pointer (some ⟨VP, 0, none⟩) := pv0
    obtain ⟨mVP0, mVP1, mVP2, mVP3, mVP4, mVP5, mVP6, mVP7, mVP8, mVP9, mVP10, mVP11, mVP12, mVP13, mVP14, mVP15, mVP16, mVP17, mfVP, msVP⟩ := cells_at18 qv0
    have HQVP := Lib.hid qv0
    clear qv0
    (try simp only [World.size_alloc, World.size_setCell] at lv0)
    have dVPw20 : VP ≠ w.heap.size := by omega
    have dVPw21 : VP ≠ b1 := by omega
    have dVPw22 : VP ≠ b2 := by omega
    (try have lbVP : w1.heap.size ≤ VP := by omega)
    clear lv0
    simp only [List.drop_succ_cons, List.drop_zero, List.take_succ_cons, List.take_zero, fillL, Act.put, List.setIfInBounds_toArray, List.set_cons_zero, List.set_cons_succ, e0, e1, e2, e3, e4, e5, e6, e7, e8, e9, e10, e11, e12, e13, e14, e15, e17, e18, pv0]
    clear e0 e1 e2 e3 e4 e5 e6 e7 e8 e9 e10 e11 e12 e13 e14 e15 e17 e18 pv0 hE
    have HBWw2 := Lib.hid hb
    have hw2 := below_step (w := w1) (by first | assumption | go_grown) hb
    have hzw2 := hb.size
    (try simp only [World.size_alloc, World.size_setCell] at hzw2)
    have hzw20 : w.heap.size < w2.heap.size := by omega
    have hzw21 : b1 < w2.heap.size := by omega
    have hzw22 : b2 < w2.heap.size := by omega
    have HHw2 := Lib.hid hb.block
    obtain ⟨hcw2, hfw2⟩ := bcell hb
    clear hb hzw2
    have hP2 := HBWw2.out
    have d0w2 : w2.cell? ⟨w.heap.size, 0, none⟩ = some (.slice (some ⟨b1, f1, none⟩) m.ng cg) := (hP2.cell (p := ⟨w.heap.size, 0, none⟩) dz).trans d0
    have d1w2 : w2.cell? ⟨w.heap.size, 1, none⟩ = some (.slice (some ⟨b2, f2, none⟩) m.ns cs') := (hP2.cell (p := ⟨w.heap.size, 1, none⟩) dz).trans d1
    have g0w2 : w2.cell? ⟨b1, f1, none⟩ = some (.string (m.nm 0)) := (hP2.cell (p := ⟨b1, f1, none⟩) zb1).trans g0
    have g1w2 : w2.cell? ⟨b1, f1 + 1, none⟩ = some (.int .i64 (m.de 0)) := (hP2.cell (p := ⟨b1, f1 + 1, none⟩) zb1).trans g1
    have s0w2 : w2.cell? ⟨b2, f2, none⟩ = some (.string (m.sn 0)) := (hP2.cell (p := ⟨b2, f2, none⟩) zb2).trans s0
    have s1w2 : w2.cell? ⟨b2, f2 + 1, none⟩ = some (.int .i64 (m.sa 0)) := (hP2.cell (p := ⟨b2, f2 + 1, none⟩) zb2).trans s1
    clear d0 d1 g0 g1 s0 s1
    have d0 := d0w2
    have d1 := d1w2
    have g0 := g0w2
    have g1 := g1w2
    have s0 := s0w2
    have s1 := s1w2
    clear d0w2 d1w2 g0w2 g1w2 s0w2 s1w2
    have dzw2 : w.heap.size < w2.heap.size := by have := hP2.size; omega
    have zb1w2 : b1 < w2.heap.size := by have := hP2.size; omega
    have zb2w2 : b2 < w2.heap.size := by have := hP2.size; omega
    clear dz zb1 zb2
    have dz := dzw2
    have zb1 := zb1w2
    have zb2 := zb2w2
    clear dzw2 zb1w2 zb2w2
    have hBw2 : Below w.heap.size w w2 := below_step hBw1 hP2
    replace HM0 := Lib.hid (HM0.out.below hP2)
    replace HV0 := Lib.hid (HV0.out.below hP2)
    replace HML0 := Lib.hid (HML0.out.below hP2)
    have HQP : Hid (w2.heap[VP]? = some (.cells #[.string ⟨#[]⟩, .int .i64 0, .int .i64 0, .string ⟨#[]⟩, .string ⟨#[]⟩, .int .i64 0, .slice none 0 0, .slice none 0 0, .string ⟨#[]⟩, .int .i64 0, .int .i64 0, .int .i64 0, .int .i64 0, .int .i64 0, .int .i64 0, .int .i64 0, .int .i64 0, .int .i64 0] 43)) := HQVP.out
    clear hcw2 hfw2 HBWw2 HHw2 HQVP mfVP msVP mVP0 mVP1 mVP2 mVP3 mVP4 mVP5 mVP6 mVP7 mVP8 mVP9 mVP10 mVP11 mVP12 mVP13 mVP14 mVP15 mVP16 mVP17 hP2
    go_wp2_with fail
    (go_at_call 6; refine (HLN.out _ _ (HV0.out.below (by first | exact Below.refl _ _ | (show Below w2.heap.size w2 _; go_grown)))).mono ?_; rintro e_ w3 ⟨rfl, hb⟩)
    have hP3 : Below w2.heap.size w2 w3 := below_step (w := w2) (by first | exact Below.refl _ _ | go_grown) hb
    have d0w3 : w3.cell? ⟨w.heap.size, 0, none⟩ = some (.slice (some ⟨b1, f1, none⟩) m.ng cg) := (hP3.cell (p := ⟨w.heap.size, 0, none⟩) dz).trans d0
    have d1w3 : w3.cell? ⟨w.heap.size, 1, none⟩ = some (.slice (some ⟨b2, f2, none⟩) m.ns cs') := (hP3.cell (p := ⟨w.heap.size, 1, none⟩) dz).trans d1
    have g0w3 : w3.cell? ⟨b1, f1, none⟩ = some (.string (m.nm 0)) := (hP3.cell (p := ⟨b1, f1, none⟩) zb1).trans g0
    have g1w3 : w3.cell? ⟨b1, f1 + 1, none⟩ = some (.int .i64 (m.de 0)) := (hP3.cell (p := ⟨b1, f1 + 1, none⟩) zb1).trans g1
    have s0w3 : w3.cell? ⟨b2, f2, none⟩ = some (.string (m.sn 0)) := (hP3.cell (p := ⟨b2, f2, none⟩) zb2).trans s0
    have s1w3 : w3.cell? ⟨b2, f2 + 1, none⟩ = some (.int .i64 (m.sa 0)) := (hP3.cell (p := ⟨b2, f2 + 1, none⟩) zb2).trans s1
    clear d0 d1 g0 g1 s0 s1
    have d0 := d0w3
    have d1 := d1w3
    have g0 := g0w3
    have g1 := g1w3
    have s0 := s0w3
    have s1 := s1w3
    clear d0w3 d1w3 g0w3 g1w3 s0w3 s1w3
    have dzw3 : w.heap.size < w3.heap.size := by have := hP3.size; omega
    have zb1w3 : b1 < w3.heap.size := by have := hP3.size; omega
    have zb2w3 : b2 < w3.heap.size := by have := hP3.size; omega
    clear dz zb1 zb2
    have dz := dzw3
    have zb1 := zb1w3
    have zb2 := zb2w3
    clear dzw3 zb1w3 zb2w3
    have hBw3 : Below w.heap.size w w3 := below_step hBw2 hP3
    replace HM0 := Lib.hid (HM0.out.below hP3)
    replace HV0 := Lib.hid (HV0.out.below hP3)
    replace HML0 := Lib.hid (HML0.out.below hP3)
    have HQP2 : Hid (w3.heap[VP]? = some (.cells #[.string ⟨#[]⟩, .int .i64 0, .int .i64 0, .string ⟨#[]⟩, .string ⟨#[]⟩, .int .i64 0, .slice none 0 0, .slice none 0 0, .string ⟨#[]⟩, .int .i64 0, .int .i64 0, .int .i64 0, .int .i64 0, .int .i64 0, .int .i64 0, .int .i64 0, .int .i64 0, .int .i64 0] 43)) := (hP3.block _ (block_lt HQP.out)).trans HQP.out
    clear hb hP3 HQP
    go_wp2_with fail
    refine wp_region_seq 19 [⟨16, 17, #[.string ⟨#[]⟩, .int .i64 0, .int .i64 0, .string ⟨#[]⟩, .string ⟨#[]⟩, .int .i64 0, .slice none 0 0, .slice none 0 0, .string ⟨#[]⟩, .int .i64 0, .int .i64 0, .int .i64 0, .int .i64 0, .int .i64 0, .int .i64 0, .int .i64 0, .int .i64 0, .int .i64 0], 43⟩] [] (by kernel_rfl) (by kernel_rfl) (by kernel_rfl) (by kernel_rfl) (by kernel_rfl) ?_ ?_ ?_
    · intro r hr; cases hr
    · intro r hr; cases hr
    simp only [List.take_succ_cons, List.take_zero, fillL, Act.put, List.setIfInBounds_toArray, List.set_cons_zero, List.set_cons_succ]
    apply seq_is (by kernel_rfl)
    · intro u wx hb hd
      replace hb := hb.nil
      have hz := hb.size
      (try simp only [World.size_alloc, World.size_setCell] at hz)
      have hz0 : w.heap.size < wx.heap.size := by omega
      have hz1 : b1 < wx.heap.size := by omega
      have hz2 : b2 < wx.heap.size := by omega
      obtain ⟨hc, hf⟩ := bcell hb
      clear hb hz
      simp [depsE, Region.binds, updE, kindOf, Prp.is, Prp.any] at hd
      go_simp
      first | exact ⟨Below.refl _ _, rfl⟩ | rfl
    apply seq_is (by kernel_rfl)
    · intro u wx hb hd
      replace hb := hb.nil
      have hz := hb.size
      (try simp only [World.size_alloc, World.size_setCell] at hz)
      have hz0 : w.heap.size < wx.heap.size := by omega
      have hz1 : b1 < wx.heap.size := by omega
      have hz2 : b2 < wx.heap.size := by omega
      obtain ⟨hc, hf⟩ := bcell hb
      clear hb hz
      simp [depsE, Region.binds, updE, kindOf, Prp.is, Prp.any] at hd
      go_simp
      first | exact ⟨Below.refl _ _, rfl⟩ | rfl
    apply seq_is (by kernel_rfl)
    · intro u wx hb hd
      replace hb := hb.nil
      have hz := hb.size
      (try simp only [World.size_alloc, World.size_setCell] at hz)
      have hz0 : w.heap.size < wx.heap.size := by omega
      have hz1 : b1 < wx.heap.size := by omega
      have hz2 : b2 < wx.heap.size := by omega
      obtain ⟨hc, hf⟩ := bcell hb
      clear hb hz
      simp [depsE, Region.binds, updE, kindOf, Prp.is, Prp.any] at hd
      go_simp
      first | exact ⟨Below.refl _ _, rfl⟩ | rfl
    apply seq_is (by kernel_rfl)
    · intro u wx hb hd
      replace hb := hb.nil
      have hz := hb.size
      (try simp only [World.size_alloc, World.size_setCell] at hz)
      have hz0 : w.heap.size < wx.heap.size := by omega
      have hz1 : b1 < wx.heap.size := by omega
      have hz2 : b2 < wx.heap.size := by omega
      obtain ⟨hc, hf⟩ := bcell hb
      clear hb hz
      simp [depsE, Region.binds, updE, kindOf, Prp.is, Prp.any] at hd
      go_simp
      first | exact ⟨Below.refl _ _, rfl⟩ | rfl
    apply seq_is (by kernel_rfl)
    · intro u wx hb hd
      replace hb := hb.nil
      have hz := hb.size
      (try simp only [World.size_alloc, World.size_setCell] at hz)
      have hz0 : w.heap.size < wx.heap.size := by omega
      have hz1 : b1 < wx.heap.size := by omega
      have hz2 : b2 < wx.heap.size := by omega
      obtain ⟨hc, hf⟩ := bcell hb
      clear hb hz
      simp [depsE, Region.binds, updE, kindOf, Prp.is, Prp.any] at hd
      go_simp
      first | exact ⟨Below.refl _ _, rfl⟩ | rfl
    apply seq_is (by kernel_rfl)
    · intro u wx hb hd
      replace hb := hb.nil
      have hz := hb.size
      (try simp only [World.size_alloc, World.size_setCell] at hz)
      have hz0 : w.heap.size < wx.heap.size := by omega
      have hz1 : b1 < wx.heap.size := by omega
      have hz2 : b2 < wx.heap.size := by omega
      obtain ⟨hc, hf⟩ := bcell hb
      clear hb hz
      simp [depsE, Region.binds, updE, kindOf, Prp.is, Prp.any] at hd
      go_simp
      first | exact ⟨Below.refl _ _, rfl⟩ | rfl
    apply seq_is (by kernel_rfl)
    · intro u wx hb hd
      replace hb := hb.nil
      have hz := hb.size
      (try simp only [World.size_alloc, World.size_setCell] at hz)
      have hz0 : w.heap.size < wx.heap.size := by omega
      have hz1 : b1 < wx.heap.size := by omega
      have hz2 : b2 < wx.heap.size := by omega
      obtain ⟨hc, hf⟩ := bcell hb
      clear hb hz
      simp [depsE, Region.binds, updE, kindOf, Prp.is, Prp.any] at hd
      go_simp
      first | exact ⟨Below.refl _ _, rfl⟩ | rfl
    apply seq_is (by kernel_rfl)
    · intro u wx hb hd
      replace hb := hb.nil
      have hz := hb.size
      (try simp only [World.size_alloc, World.size_setCell] at hz)
      have hz0 : w.heap.size < wx.heap.size := by omega
      have hz1 : b1 < wx.heap.size := by omega
      have hz2 : b2 < wx.heap.size := by omega
      obtain ⟨hc, hf⟩ := bcell hb
      clear hb hz
      simp [depsE, Region.binds, updE, kindOf, Prp.is, Prp.any] at hd
      go_simp
      first | exact ⟨Below.refl _ _, rfl⟩ | rfl
    apply seq_is (by kernel_rfl)
    · intro u wx hb hd
      replace hb := hb.nil
      have hz := hb.size
      (try simp only [World.size_alloc, World.size_setCell] at hz)
      have hz0 : w.heap.size < wx.heap.size := by omega
      have hz1 : b1 < wx.heap.size := by omega
      have hz2 : b2 < wx.heap.size := by omega
      obtain ⟨hc, hf⟩ := bcell hb
      clear hb hz
      simp [depsE, Region.binds, updE, kindOf, Prp.is, Prp.any] at hd
      go_simp
      first | exact ⟨Below.refl _ _, rfl⟩ | rfl
    apply seq_is (by kernel_rfl)
    · intro u wx hb hd
      replace hb := hb.nil
      have hz := hb.size
      (try simp only [World.size_alloc, World.size_setCell] at hz)
      have hz0 : w.heap.size < wx.heap.size := by omega
      have hz1 : b1 < wx.heap.size := by omega
      have hz2 : b2 < wx.heap.size := by omega
      obtain ⟨hc, hf⟩ := bcell hb
      clear hb hz
      simp [depsE, Region.binds, updE, kindOf, Prp.is, Prp.any] at hd
      go_simp
      first | exact ⟨Below.refl _ _, rfl⟩ | rfl
    apply seq_is (by kernel_rfl)
    · intro u wx hb hd
      replace hb := hb.nil
      have hz := hb.size
      (try simp only [World.size_alloc, World.size_setCell] at hz)
      have hz0 : w.heap.size < wx.heap.size := by omega
      have hz1 : b1 < wx.heap.size := by omega
      have hz2 : b2 < wx.heap.size := by omega
      obtain ⟨hc, hf⟩ := bcell hb
      clear hb hz
      simp [depsE, Region.binds, updE, kindOf, Prp.is, Prp.any] at hd
      go_simp
      first | exact ⟨Below.refl _ _, rfl⟩ | rfl
    apply seq_is (by kernel_rfl)
    · intro u wx hb hd
      replace hb := hb.nil
      have hz := hb.size
      (try simp only [World.size_alloc, World.size_setCell] at hz)
      have hz0 : w.heap.size < wx.heap.size := by omega
      have hz1 : b1 < wx.heap.size := by omega
      have hz2 : b2 < wx.heap.size := by omega
      obtain ⟨hc, hf⟩ := bcell hb
      clear hb hz
      simp [depsE, Region.binds, updE, kindOf, Prp.is, Prp.any] at hd
      go_simp
      first | exact ⟨Below.refl _ _, rfl⟩ | rfl
    apply seq_is (by kernel_rfl)
    · intro u wx hb hd
      replace hb := hb.nil
      have hz := hb.size
      (try simp only [World.size_alloc, World.size_setCell] at hz)
      have hz0 : w.heap.size < wx.heap.size := by omega
      have hz1 : b1 < wx.heap.size := by omega
      have hz2 : b2 < wx.heap.size := by omega
      obtain ⟨hc, hf⟩ := bcell hb
      have HBX := Lib.hid hb
      clear hb hz
      simp [depsE, Region.binds, updE, kindOf, Prp.is, Prp.any] at hd
      go_simp
      (go_at_call 7; refine (HRT.out _ _ (HV0.out.below HBX.out)).mono ?_; rintro e w1 ⟨rfl, hb1⟩; first | exact ⟨rfl, hb1⟩ | exact ⟨_, rfl, hb1, rfl⟩)
    apply seq_is (by kernel_rfl)
    · intro u wx hb hd
      replace hb := hb.nil
      have hz := hb.size
      (try simp only [World.size_alloc, World.size_setCell] at hz)
      have hz0 : w.heap.size < wx.heap.size := by omega
      have hz1 : b1 < wx.heap.size := by omega
      have hz2 : b2 < wx.heap.size := by omega
      obtain ⟨hc, hf⟩ := bcell hb
      clear hb hz
      simp [depsE, Region.binds, updE, kindOf, Prp.is, Prp.any] at hd
      go_simp
      first | exact ⟨Below.refl _ _, rfl⟩ | rfl
    apply seq_is (by kernel_rfl)
    · intro u wx hb hd
      replace hb := hb.nil
      have hz := hb.size
      (try simp only [World.size_alloc, World.size_setCell] at hz)
      have hz0 : w.heap.size < wx.heap.size := by omega
      have hz1 : b1 < wx.heap.size := by omega
      have hz2 : b2 < wx.heap.size := by omega
      obtain ⟨hc, hf⟩ := bcell hb
      clear hb hz
      simp [depsE, Region.binds, updE, kindOf, Prp.is, Prp.any] at hd
      go_simp
      first | exact ⟨Below.refl _ _, rfl⟩ | rfl
    apply seq_is (by kernel_rfl)
    · intro u wx hb hd
      replace hb := hb.nil
      have hz := hb.size
      (try simp only [World.size_alloc, World.size_setCell] at hz)
      have hz0 : w.heap.size < wx.heap.size := by omega
      have hz1 : b1 < wx.heap.size := by omega
      have hz2 : b2 < wx.heap.size := by omega
      obtain ⟨hc, hf⟩ := bcell hb
      clear hb hz
      simp [depsE, Region.binds, updE, kindOf, Prp.is, Prp.any] at hd
      go_simp
      first | exact ⟨Below.refl _ _, rfl⟩ | rfl
    refine seq_var ⟨16, 17, #[.string ⟨#[]⟩, .int .i64 0, .int .i64 0, .string ⟨#[]⟩, .string ⟨#[]⟩, .int .i64 0, .slice none 0 0, .slice none 0 0, .string ⟨#[]⟩, .int .i64 0, .int .i64 0, .int .i64 0, .int .i64 0, .int .i64 0, .int .i64 0, .int .i64 0, .int .i64 0, .int .i64 0], 43⟩ (by simp) rfl ?_ ?_
    · intro u wx hb
      refine ⟨by simp [Region.wanted], ?_⟩
      go_simp
      first | done | rfl | exact ⟨rfl, rfl⟩
    apply seq_sto_agg ⟨16, 17, #[.string ⟨#[]⟩, .int .i64 0, .int .i64 0, .string ⟨#[]⟩, .string ⟨#[]⟩, .int .i64 0, .slice none 0 0, .slice none 0 0, .string ⟨#[]⟩, .int .i64 0, .int .i64 0, .int .i64 0, .int .i64 0, .int .i64 0, .int .i64 0, .int .i64 0, .int .i64 0, .int .i64 0], 43⟩ (by simp) rfl (by kernel_rfl) rfl (by kernel_rfl)
    · intro u wx hb hd
      replace hb := hb.nil
      have hz := hb.size
      (try simp only [World.size_alloc, World.size_setCell] at hz)
      have hz0 : w.heap.size < wx.heap.size := by omega
      have hz1 : b1 < wx.heap.size := by omega
      have hz2 : b2 < wx.heap.size := by omega
      obtain ⟨hc, hf⟩ := bcell hb
      clear hb hz
      simp [depsE, Region.binds, updE, kindOf, Prp.is, Prp.any] at hd
      refine ⟨by simp [Region.wanted], fun b' hub hlb hcells => ?_⟩
      exact relOp_store_all 43 b' 18 #[.string ⟨#[]⟩, .int .i64 0, .int .i64 0, .string ⟨#[]⟩, .string ⟨#[]⟩, .int .i64 0, .slice none 0 0, .slice none 0 0, .string ⟨#[]⟩, .int .i64 0, .int .i64 0, .int .i64 0, .int .i64 0, .int .i64 0, .int .i64 0, .int .i64 0, .int .i64 0, .int .i64 0] #[.string ⟨#[]⟩, .int .i64 0, .int .i64 0, .string ⟨#[]⟩, .string ⟨#[]⟩, .int .i64 0, .slice none 0 0, .slice none 0 0, .string ⟨#[]⟩, .int .i64 0, .int .i64 0, .int .i64 0, .int .i64 0, .int .i64 0, .int .i64 0, .int .i64 0, .int .i64 0, .int .i64 0] 43 part_size (by first | exact hub | simpa [Act.eval] using hub) (by first | exact hd.1 | exact hd.2.1 | exact hd | simp [Act.eval, hd]) rfl rfl rfl hcells (fun _ => stored_setRow hcells)
    apply seq_is (by kernel_rfl)
    · intro u wx hb hd
      replace hb := hb.nil
      have hz := hb.size
      (try simp only [World.size_alloc, World.size_setCell] at hz)
      have hz0 : w.heap.size < wx.heap.size := by omega
      have hz1 : b1 < wx.heap.size := by omega
      have hz2 : b2 < wx.heap.size := by omega
      obtain ⟨hc, hf⟩ := bcell hb
      clear hb hz
      simp [depsE, Region.binds, updE, kindOf, Prp.is, Prp.any] at hd
      go_simp
      first | exact ⟨Below.refl _ _, rfl⟩ | rfl
    intro u w4 hb hE hV hP
    replace hb := hb.nil
    clear hP
    have e0 : u 0 = _ := endE_get hE 0 (by decide) (by simp [kindOf])
    have e1 : u 1 = _ := endE_get hE 1 (by decide) (by simp [kindOf])
    have e2 : u 2 = _ := endE_get hE 2 (by decide) (by simp [kindOf])
    have e3 : u 3 = _ := endE_get hE 3 (by decide) (by simp [kindOf])
    have e4 : u 4 = _ := endE_get hE 4 (by decide) (by simp [kindOf])
    have e5 : u 5 = _ := endE_get hE 5 (by decide) (by simp [kindOf])
    have e6 : u 6 = _ := endE_get hE 6 (by decide) (by simp [kindOf])
    have e7 : u 7 = _ := endE_get hE 7 (by decide) (by simp [kindOf])
    have e8 : u 8 = _ := endE_get hE 8 (by decide) (by simp [kindOf])
    have e9 : u 9 = _ := endE_get hE 9 (by decide) (by simp [kindOf])
    have e10 : u 10 = _ := endE_get hE 10 (by decide) (by simp [kindOf])
    have e11 : u 11 = _ := endE_get hE 11 (by decide) (by simp [kindOf])
    have e12 : u 12 = _ := endE_get hE 12 (by decide) (by simp [kindOf])
    have e13 : u 13 = _ := endE_get hE 13 (by decide) (by simp [kindOf])
    have e14 : u 14 = _ := endE_get hE 14 (by decide) (by simp [kindOf])
    have e15 : u 15 = _ := endE_get hE 15 (by decide) (by simp [kindOf])
    have e17 : u 17 = _ := endE_get hE 17 (by decide) (by simp [kindOf])
    have e18 : u 18 = _ := endE_get hE 18 (by decide) (by simp [kindOf])
    obtain ⟨⟨VR, pv0, lv0, qv0⟩, -, -⟩ := hV
    replace qv0 : w4.heap[VR]? = some (.cells (u 17).cells 43) := qv0
    rw [e17] at qv0
    replace pv0 : u 16 = .pointer (some ⟨VR, 0, none⟩) := pv0
    obtain ⟨mVR0, mVR1, mVR2, mVR3, mVR4, mVR5, mVR6, mVR7, mVR8, mVR9, mVR10, mVR11, mVR12, mVR13, mVR14, mVR15, mVR16, mVR17, mfVR, msVR⟩ := cells_at18 qv0
    have HQVR := Lib.hid qv0
    clear qv0
    (try simp only [World.size_alloc, World.size_setCell] at lv0)
    have dVRw40 : VR ≠ w.heap.size := by omega
    have dVRw41 : VR ≠ b1 := by omega
    have dVRw42 : VR ≠ b2 := by omega
    (try have lbVR : w3.heap.size ≤ VR := by omega)
    clear lv0
    simp only [List.drop_succ_cons, List.drop_zero, List.take_succ_cons, List.take_zero, fillL, Act.put, List.setIfInBounds_toArray, List.set_cons_zero, List.set_cons_succ, e0, e1, e2, e3, e4, e5, e6, e7, e8, e9, e10, e11, e12, e13, e14, e15, e17, e18, pv0]
    clear e0 e1 e2 e3 e4 e5 e6 e7 e8 e9 e10 e11 e12 e13 e14 e15 e17 e18 pv0 hE
    have HBWw4 := Lib.hid hb
    have hw4 := below_step (w := w3) (by first | assumption | go_grown) hb
    have hzw4 := hb.size
    (try simp only [World.size_alloc, World.size_setCell] at hzw4)
    have hzw40 : w.heap.size < w4.heap.size := by omega
    have hzw41 : b1 < w4.heap.size := by omega
    have hzw42 : b2 < w4.heap.size := by omega
    have HHw4 := Lib.hid hb.block
    obtain ⟨hcw4, hfw4⟩ := bcell hb
    clear hb hzw4
    have hB4 : Below w.heap.size w w4 := below_step hBw3 HBWw4.out
    go_wp2
    go_returns
    exact ⟨rfl, hB4⟩
  subst hp0
  have hc0 : CE = 0 := by
    apply Classical.byContradiction
    intro h
    rw [if_neg h] at hpe
    exact h hpe
  subst hc0
  rw [if_pos rfl] at hpe
  have hL2 : L ≤ 32768 := by
    apply Classical.byContradiction
    intro h
    rw [if_neg h] at hpe
    exact absurd hpe (by decide)
  clear hpe
  obtain ⟨hL1, hva⟩ := spool_facts hCE
  rw [hL] at hL1
  obtain ⟨X, hX⟩ : ∃ e, x 0 = e := ⟨_, rfl⟩
  obtain ⟨Y, hY⟩ : ∃ e, y 0 = e := ⟨_, rfl⟩
  obtain ⟨Z, hZ⟩ : ∃ e, z 0 = e := ⟨_, rfl⟩
  obtain ⟨T, hT⟩ : ∃ e, turnOf (dirV x y z) = e := ⟨_, rfl⟩
  rw [hX, hY, hZ, hT] at hva
  have HPT : Hid (∀ W v', VecsAt W v' n x y z → Calls Tryz.prog 5 #[.string ⟨#[120]⟩, .string ⟨#[98]⟩, .string (m.nm 0), .string (m.sn 0), v', .int .i64 r] W fun e w' => e = .returned (.tuple #[.agg #[(.string ⟨#[120]⟩), (.int .i64 1), (.int .i64 3), (.string ⟨#[98]⟩), (.string (m.nm 0)), (.int .i64 0), (.slice none 0 0), (.slice none 0 0), (.string (m.sn 0)), (.int .i64 L), (.int .i64 0), (.int .i64 0), (.int .i64 0), (.int .i64 0), (.int .i64 X), (.int .i64 Y), (.int .i64 Z), (.int .i64 T)], .int .i64 0]) ∧ Below W.heap.size W w') := fun W v' h => by
    have h2 := part_pts ⟨#[120]⟩ ⟨#[98]⟩ (m.nm 0) (m.sn 0) v' n x y z r W h
    rw [hPE] at h2
    unfold partF at h2
    rw [if_pos ⟨hCE, by rw [hL]; exact hL2⟩, hX, hY, hZ, hT, hL] at h2
    exact h2
  have hgm := hasG_first hng
  have hsm := hasS_first hns
  obtain ⟨MV, hMV⟩ : ∃ e, (m.sa 0 * L * m.de 0).tdiv 1000000 = e := ⟨_, rfl⟩
  have HMS : Hid (∀ W v', MatAt W v' m gv → MaxLenIs W → Calls Tryz.prog 8 #[.agg #[(.string ⟨#[120]⟩), (.int .i64 1), (.int .i64 3), (.string ⟨#[98]⟩), (.string (m.nm 0)), (.int .i64 0), (.slice none 0 0), (.slice none 0 0), (.string (m.sn 0)), (.int .i64 L), (.int .i64 0), (.int .i64 0), (.int .i64 0), (.int .i64 0), (.int .i64 X), (.int .i64 Y), (.int .i64 Z), (.int .i64 T)], v'] W fun e w' => e = .returned (.tuple #[.int .i64 MV, .int .i64 0]) ∧ Below W.heap.size W w') := fun W v' h h9 => by
    have h2 := mass3 v' m gv (m.nm 0) (m.sn 0) L X Y Z T W h hhg hhs HKK.out ⟨hL1, hL2⟩ hva h9
    rw [hgi, hsi, hMV] at h2
    exact h2
  have HPC : Hid (∀ W v', MatAt W v' m gv → MaxLenIs W → Calls Tryz.prog 9 #[.agg #[(.string ⟨#[120]⟩), (.int .i64 1), (.int .i64 3), (.string ⟨#[98]⟩), (.string (m.nm 0)), (.int .i64 0), (.slice none 0 0), (.slice none 0 0), (.string (m.sn 0)), (.int .i64 L), (.int .i64 0), (.int .i64 0), (.int .i64 0), (.int .i64 0), (.int .i64 X), (.int .i64 Y), (.int .i64 Z), (.int .i64 T)], v'] W fun e w' => e = .returned (.int .i64 0) ∧ Below W.heap.size W w') := fun W v' h h9 => pcheck3 v' m gv (m.nm 0) (m.sn 0) L X Y Z T W h hhg hhs HKK.out ⟨hL1, hL2⟩ hva h9
  have hkd := HKK.out
  rw [hgi, hsi] at hkd
  have hk1 := inB_true hkd.1
  have hk2 := inB_true hkd.2.1
  obtain ⟨D, hD⟩ : ∃ e, m.de 0 = e := ⟨_, rfl⟩
  obtain ⟨R, hR⟩ : ∃ e, m.sa 0 = e := ⟨_, rfl⟩
  rw [hD] at hk1 hMV
  rw [hR] at hk2 hMV
  have hb1 : 0 ≤ R * L ∧ R * L ≤ 32768000000 := by
    refine ⟨Int.mul_nonneg (by omega) (by omega), ?_⟩
    have h1 := Int.mul_le_mul_of_nonneg_right hk2.2 (show 0 ≤ L by omega)
    have h2 := Int.mul_le_mul_of_nonneg_left hL2 (show (0 : Int) ≤ 1000000 by decide)
    omega
  obtain ⟨RN, hRN⟩ : ∃ e, R * L = e := ⟨_, rfl⟩
  rw [hRN] at hb1 hMV
  have w1' : IntKind.i64.wrap (R * L) = RN := by rw [hRN]; exact IntWalk.i64_in _ (by omega)
  have hb2 : 0 ≤ RN * D ∧ RN * D ≤ 655360000000000 := by
    refine ⟨Int.mul_nonneg (by omega) (by omega), ?_⟩
    have h1 := Int.mul_le_mul_of_nonneg_right hb1.2 (show 0 ≤ D by omega)
    have h2 := Int.mul_le_mul_of_nonneg_left hk1.2 (show (0 : Int) ≤ 32768000000 by decide)
    omega
  obtain ⟨RD, hRD⟩ : ∃ e, RN * D = e := ⟨_, rfl⟩
  rw [hRD] at hb2 hMV
  have w2' : IntKind.i64.wrap (RN * D) = RD := by rw [hRD]; exact IntWalk.i64_in _ (by omega)
  have hb3 : 0 ≤ MV ∧ MV ≤ 655360000000000 := by
    rw [← hMV, Int.tdiv_eq_ediv_of_nonneg hb2.1]
    omega
  have w3' : IntKind.i64.wrap (RD.tdiv 1000000) = MV := by rw [hMV]; exact IntWalk.i64_in _ (by omega)
  have kL : decide ((1 : Int) ≤ L) = true := decide_eq_true hL1
  have HD := Lib.hid hD
  have HR := Lib.hid hR
  clear hPE hCE hL hL1 hL2 hva hX hY hZ hT hgm hsm hMV hkd hk1 hk2 hD hR hb1 hRN hb2 hRD hb3 hgi hsi hhg hhs
  go_enter Tryz.func3, Tryz.ntmps3
  go_wp2_with fail
  obtain ⟨w0, hw0⟩ : ∃ X, (w.alloc (.cells #[.slice (some ⟨b1, f1, none⟩) m.ng cg, .slice (some ⟨b2, f2, none⟩) m.ns cs'] 26)) = X := ⟨_, rfl⟩
  have HQM : Hid (w0.heap[w.heap.size]? = some (.cells #[.slice (some ⟨b1, f1, none⟩) m.ng cg, .slice (some ⟨b2, f2, none⟩) m.ns cs'] 26)) := by
    show _ = _
    rw [← hw0]
    exact heapA_at _ _ _ rfl
  have hBw0 : Below w.heap.size w w0 := by rw [← hw0]; exact (Below.refl w.heap.size w).alloc (Nat.le_refl _) _
  rw [hw0]
  clear hw0
  have HM0 := Lib.hid (HM.out.below hBw0)
  have HV0 := Lib.hid (HV.out.below hBw0)
  have HML0 := Lib.hid (HML.out.below hBw0)
  obtain ⟨d0, d1, df, dz⟩ := cells_at2 HQM.out
  have g0 : w0.cell? ⟨b1, f1, none⟩ = some (.string (m.nm 0)) := by
    have h := (hBw0.cell (p := ⟨b1, f1 + 0 * 4, none⟩) hbl1).trans HCG.out.1
    simpa using h
  have g1 : w0.cell? ⟨b1, f1 + 1, none⟩ = some (.int .i64 (m.de 0)) := by
    have h := (hBw0.cell (p := ⟨b1, f1 + 0 * 4 + 1, none⟩) hbl1).trans HCG.out.2.1
    simpa using h
  have s0 : w0.cell? ⟨b2, f2, none⟩ = some (.string (m.sn 0)) := by
    have h := (hBw0.cell (p := ⟨b2, f2 + 0 * 4, none⟩) hbl2).trans HCS.out.1
    simpa using h
  have s1 : w0.cell? ⟨b2, f2 + 1, none⟩ = some (.int .i64 (m.sa 0)) := by
    have h := (hBw0.cell (p := ⟨b2, f2 + 0 * 4 + 1, none⟩) hbl2).trans HCS.out.2.1
    simpa using h
  have zb1 : b1 < w0.heap.size := by have := hBw0.size; omega
  have zb2 : b2 < w0.heap.size := by have := hBw0.size; omega
  refine wp_region_relw 26 (by kernel_rfl) (by kernel_rfl) (by kernel_rfl) ?_
  simp only [List.take_succ_cons, List.take_zero, fillL, Act.put, List.setIfInBounds_toArray, List.set_cons_zero, List.set_cons_succ]
  iterate 23
    apply rel_is
    · intro u wx hb hd
      have hz := hb.size
      (try simp only [World.size_alloc, World.size_setCell] at hz)
      have hz0 : w.heap.size < wx.heap.size := by omega
      have hz1 : b1 < wx.heap.size := by omega
      have hz2 : b2 < wx.heap.size := by omega
      obtain ⟨hc, hf⟩ := bcell hb
      have HBX := Lib.hid hb
      clear hb hz
      simp [depsS, Region.binds, updS, Stay.is, Stay.any] at hd
      go_simp
      first | exact ⟨Below.refl _ _, rfl⟩ | rfl
  apply rel_is
  · intro u wx hb hd
    have hz := hb.size
    (try simp only [World.size_alloc, World.size_setCell] at hz)
    have hz0 : w.heap.size < wx.heap.size := by omega
    have hz1 : b1 < wx.heap.size := by omega
    have hz2 : b2 < wx.heap.size := by omega
    obtain ⟨hc, hf⟩ := bcell hb
    have HBX := Lib.hid hb
    clear hb hz
    simp [depsS, Region.binds, updS, Stay.is, Stay.any] at hd
    go_simp
    first | rfl | (go_at_call 4; refine (HRC.out _ _ (HM0.out.below HBX.out)).mono ?_; rintro e w1 ⟨rfl, hb1⟩; first | exact ⟨rfl, hb1⟩ | exact ⟨_, rfl, hb1, rfl⟩)
  iterate 2
    apply rel_is
    · intro u wx hb hd
      have hz := hb.size
      (try simp only [World.size_alloc, World.size_setCell] at hz)
      have hz0 : w.heap.size < wx.heap.size := by omega
      have hz1 : b1 < wx.heap.size := by omega
      have hz2 : b2 < wx.heap.size := by omega
      obtain ⟨hc, hf⟩ := bcell hb
      have HBX := Lib.hid hb
      clear hb hz
      simp [depsS, Region.binds, updS, Stay.is, Stay.any] at hd
      go_simp
      first | exact ⟨Below.refl _ _, rfl⟩ | rfl
  intro u w1 hb hE
  have e0 : u 0 = _ := endS_get hE 0 (by decide)
  have e1 : u 1 = _ := endS_get hE 1 (by decide)
  have e2 : u 2 = _ := endS_get hE 2 (by decide)
  have e3 : u 3 = _ := endS_get hE 3 (by decide)
  have e4 : u 4 = _ := endS_get hE 4 (by decide)
  have e5 : u 5 = _ := endS_get hE 5 (by decide)
  have e6 : u 6 = _ := endS_get hE 6 (by decide)
  have e7 : u 7 = _ := endS_get hE 7 (by decide)
  have e8 : u 8 = _ := endS_get hE 8 (by decide)
  have e9 : u 9 = _ := endS_get hE 9 (by decide)
  have e10 : u 10 = _ := endS_get hE 10 (by decide)
  have e11 : u 11 = _ := endS_get hE 11 (by decide)
  have e12 : u 12 = _ := endS_get hE 12 (by decide)
  have e13 : u 13 = _ := endS_get hE 13 (by decide)
  have e14 : u 14 = _ := endS_get hE 14 (by decide)
  have e15 : u 15 = _ := endS_get hE 15 (by decide)
  have e16 : u 16 = _ := endS_get hE 16 (by decide)
  have e17 : u 17 = _ := endS_get hE 17 (by decide)
  have e18 : u 18 = _ := endS_get hE 18 (by decide)
  have e19 : u 19 = _ := endS_get hE 19 (by decide)
  have e20 : u 20 = _ := endS_get hE 20 (by decide)
  have e21 : u 21 = _ := endS_get hE 21 (by decide)
  have e22 : u 22 = _ := endS_get hE 22 (by decide)
  have e23 : u 23 = _ := endS_get hE 23 (by decide)
  have e24 : u 24 = _ := endS_get hE 24 (by decide)
  have e25 : u 25 = _ := endS_get hE 25 (by decide)
  simp only [List.drop_succ_cons, List.drop_zero, List.take_succ_cons, List.take_zero, fillL, Act.put, List.setIfInBounds_toArray, List.set_cons_zero, List.set_cons_succ, e0, e1, e2, e3, e4, e5, e6, e7, e8, e9, e10, e11, e12, e13, e14, e15, e16, e17, e18, e19, e20, e21, e22, e23, e24, e25]
  clear e0 e1 e2 e3 e4 e5 e6 e7 e8 e9 e10 e11 e12 e13 e14 e15 e16 e17 e18 e19 e20 e21 e22 e23 e24 e25 hE
  have HBw1 := Lib.hid (below_step (w := w0) (by first | assumption | go_grown) hb)
  have HBXw1 := Lib.hid hb
  have hzw1 := hb.size
  (try simp only [World.size_alloc, World.size_setCell] at hzw1)
  have hzw10 : w.heap.size < w1.heap.size := by omega
  have hzw11 : b1 < w1.heap.size := by omega
  have hzw12 : b2 < w1.heap.size := by omega
  obtain ⟨hcw1, hfw1⟩ := bcell hb
  clear hb hzw1
  have hP1 := HBXw1.out
  have d0w1 : w1.cell? ⟨w.heap.size, 0, none⟩ = some (.slice (some ⟨b1, f1, none⟩) m.ng cg) := (hP1.cell (p := ⟨w.heap.size, 0, none⟩) dz).trans d0
  have d1w1 : w1.cell? ⟨w.heap.size, 1, none⟩ = some (.slice (some ⟨b2, f2, none⟩) m.ns cs') := (hP1.cell (p := ⟨w.heap.size, 1, none⟩) dz).trans d1
  have g0w1 : w1.cell? ⟨b1, f1, none⟩ = some (.string (m.nm 0)) := (hP1.cell (p := ⟨b1, f1, none⟩) zb1).trans g0
  have g1w1 : w1.cell? ⟨b1, f1 + 1, none⟩ = some (.int .i64 (m.de 0)) := (hP1.cell (p := ⟨b1, f1 + 1, none⟩) zb1).trans g1
  have s0w1 : w1.cell? ⟨b2, f2, none⟩ = some (.string (m.sn 0)) := (hP1.cell (p := ⟨b2, f2, none⟩) zb2).trans s0
  have s1w1 : w1.cell? ⟨b2, f2 + 1, none⟩ = some (.int .i64 (m.sa 0)) := (hP1.cell (p := ⟨b2, f2 + 1, none⟩) zb2).trans s1
  clear d0 d1 g0 g1 s0 s1
  have d0 := d0w1
  have d1 := d1w1
  have g0 := g0w1
  have g1 := g1w1
  have s0 := s0w1
  have s1 := s1w1
  clear d0w1 d1w1 g0w1 g1w1 s0w1 s1w1
  have dzw1 : w.heap.size < w1.heap.size := by have := hP1.size; omega
  have zb1w1 : b1 < w1.heap.size := by have := hP1.size; omega
  have zb2w1 : b2 < w1.heap.size := by have := hP1.size; omega
  clear dz zb1 zb2
  have dz := dzw1
  have zb1 := zb1w1
  have zb2 := zb2w1
  clear dzw1 zb1w1 zb2w1
  have hBw1 : Below w.heap.size w w1 := below_step hBw0 hP1
  replace HM0 := Lib.hid (HM0.out.below hP1)
  replace HV0 := Lib.hid (HV0.out.below hP1)
  replace HML0 := Lib.hid (HML0.out.below hP1)
  clear hcw1 hfw1 hP1
  go_wp2_with fail
  refine wp_region_seq 19 [⟨16, 17, #[.string ⟨#[]⟩, .int .i64 0, .int .i64 0, .string ⟨#[]⟩, .string ⟨#[]⟩, .int .i64 0, .slice none 0 0, .slice none 0 0, .string ⟨#[]⟩, .int .i64 0, .int .i64 0, .int .i64 0, .int .i64 0, .int .i64 0, .int .i64 0, .int .i64 0, .int .i64 0, .int .i64 0], 43⟩] [] (by kernel_rfl) (by kernel_rfl) (by kernel_rfl) (by kernel_rfl) (by kernel_rfl) ?_ ?_ ?_
  · intro r hr; cases hr
  · intro r hr; cases hr
  simp only [List.take_succ_cons, List.take_zero, fillL, Act.put, List.setIfInBounds_toArray, List.set_cons_zero, List.set_cons_succ]
  apply seq_is (by kernel_rfl)
  · intro u wx hb hd
    replace hb := hb.nil
    have hz := hb.size
    (try simp only [World.size_alloc, World.size_setCell] at hz)
    have hz0 : w.heap.size < wx.heap.size := by omega
    have hz1 : b1 < wx.heap.size := by omega
    have hz2 : b2 < wx.heap.size := by omega
    obtain ⟨hc, hf⟩ := bcell hb
    clear hb hz
    simp [depsE, Region.binds, updE, kindOf, Prp.is, Prp.any] at hd
    go_simp
    first | exact ⟨Below.refl _ _, rfl⟩ | rfl
  apply seq_is (by kernel_rfl)
  · intro u wx hb hd
    replace hb := hb.nil
    have hz := hb.size
    (try simp only [World.size_alloc, World.size_setCell] at hz)
    have hz0 : w.heap.size < wx.heap.size := by omega
    have hz1 : b1 < wx.heap.size := by omega
    have hz2 : b2 < wx.heap.size := by omega
    obtain ⟨hc, hf⟩ := bcell hb
    clear hb hz
    simp [depsE, Region.binds, updE, kindOf, Prp.is, Prp.any] at hd
    go_simp
    first | exact ⟨Below.refl _ _, rfl⟩ | rfl
  apply seq_is (by kernel_rfl)
  · intro u wx hb hd
    replace hb := hb.nil
    have hz := hb.size
    (try simp only [World.size_alloc, World.size_setCell] at hz)
    have hz0 : w.heap.size < wx.heap.size := by omega
    have hz1 : b1 < wx.heap.size := by omega
    have hz2 : b2 < wx.heap.size := by omega
    obtain ⟨hc, hf⟩ := bcell hb
    clear hb hz
    simp [depsE, Region.binds, updE, kindOf, Prp.is, Prp.any] at hd
    go_simp
    first | exact ⟨Below.refl _ _, rfl⟩ | rfl
  apply seq_is (by kernel_rfl)
  · intro u wx hb hd
    replace hb := hb.nil
    have hz := hb.size
    (try simp only [World.size_alloc, World.size_setCell] at hz)
    have hz0 : w.heap.size < wx.heap.size := by omega
    have hz1 : b1 < wx.heap.size := by omega
    have hz2 : b2 < wx.heap.size := by omega
    obtain ⟨hc, hf⟩ := bcell hb
    clear hb hz
    simp [depsE, Region.binds, updE, kindOf, Prp.is, Prp.any] at hd
    go_simp
    first | exact ⟨Below.refl _ _, rfl⟩ | rfl
  apply seq_is (by kernel_rfl)
  · intro u wx hb hd
    replace hb := hb.nil
    have hz := hb.size
    (try simp only [World.size_alloc, World.size_setCell] at hz)
    have hz0 : w.heap.size < wx.heap.size := by omega
    have hz1 : b1 < wx.heap.size := by omega
    have hz2 : b2 < wx.heap.size := by omega
    obtain ⟨hc, hf⟩ := bcell hb
    clear hb hz
    simp [depsE, Region.binds, updE, kindOf, Prp.is, Prp.any] at hd
    go_simp
    first | exact ⟨Below.refl _ _, rfl⟩ | rfl
  apply seq_is (by kernel_rfl)
  · intro u wx hb hd
    replace hb := hb.nil
    have hz := hb.size
    (try simp only [World.size_alloc, World.size_setCell] at hz)
    have hz0 : w.heap.size < wx.heap.size := by omega
    have hz1 : b1 < wx.heap.size := by omega
    have hz2 : b2 < wx.heap.size := by omega
    obtain ⟨hc, hf⟩ := bcell hb
    clear hb hz
    simp [depsE, Region.binds, updE, kindOf, Prp.is, Prp.any] at hd
    go_simp
    first | exact ⟨Below.refl _ _, rfl⟩ | rfl
  apply seq_is (by kernel_rfl)
  · intro u wx hb hd
    replace hb := hb.nil
    have hz := hb.size
    (try simp only [World.size_alloc, World.size_setCell] at hz)
    have hz0 : w.heap.size < wx.heap.size := by omega
    have hz1 : b1 < wx.heap.size := by omega
    have hz2 : b2 < wx.heap.size := by omega
    obtain ⟨hc, hf⟩ := bcell hb
    clear hb hz
    simp [depsE, Region.binds, updE, kindOf, Prp.is, Prp.any] at hd
    go_simp
    first | exact ⟨Below.refl _ _, rfl⟩ | rfl
  apply seq_is (by kernel_rfl)
  · intro u wx hb hd
    replace hb := hb.nil
    have hz := hb.size
    (try simp only [World.size_alloc, World.size_setCell] at hz)
    have hz0 : w.heap.size < wx.heap.size := by omega
    have hz1 : b1 < wx.heap.size := by omega
    have hz2 : b2 < wx.heap.size := by omega
    obtain ⟨hc, hf⟩ := bcell hb
    clear hb hz
    simp [depsE, Region.binds, updE, kindOf, Prp.is, Prp.any] at hd
    go_simp
    first | exact ⟨Below.refl _ _, rfl⟩ | rfl
  apply seq_is (by kernel_rfl)
  · intro u wx hb hd
    replace hb := hb.nil
    have hz := hb.size
    (try simp only [World.size_alloc, World.size_setCell] at hz)
    have hz0 : w.heap.size < wx.heap.size := by omega
    have hz1 : b1 < wx.heap.size := by omega
    have hz2 : b2 < wx.heap.size := by omega
    obtain ⟨hc, hf⟩ := bcell hb
    clear hb hz
    simp [depsE, Region.binds, updE, kindOf, Prp.is, Prp.any] at hd
    go_simp
    first | exact ⟨Below.refl _ _, rfl⟩ | rfl
  apply seq_is (by kernel_rfl)
  · intro u wx hb hd
    replace hb := hb.nil
    have hz := hb.size
    (try simp only [World.size_alloc, World.size_setCell] at hz)
    have hz0 : w.heap.size < wx.heap.size := by omega
    have hz1 : b1 < wx.heap.size := by omega
    have hz2 : b2 < wx.heap.size := by omega
    obtain ⟨hc, hf⟩ := bcell hb
    clear hb hz
    simp [depsE, Region.binds, updE, kindOf, Prp.is, Prp.any] at hd
    go_simp
    first | exact ⟨Below.refl _ _, rfl⟩ | rfl
  apply seq_is (by kernel_rfl)
  · intro u wx hb hd
    replace hb := hb.nil
    have hz := hb.size
    (try simp only [World.size_alloc, World.size_setCell] at hz)
    have hz0 : w.heap.size < wx.heap.size := by omega
    have hz1 : b1 < wx.heap.size := by omega
    have hz2 : b2 < wx.heap.size := by omega
    obtain ⟨hc, hf⟩ := bcell hb
    clear hb hz
    simp [depsE, Region.binds, updE, kindOf, Prp.is, Prp.any] at hd
    go_simp
    first | exact ⟨Below.refl _ _, rfl⟩ | rfl
  apply seq_is (by kernel_rfl)
  · intro u wx hb hd
    replace hb := hb.nil
    have hz := hb.size
    (try simp only [World.size_alloc, World.size_setCell] at hz)
    have hz0 : w.heap.size < wx.heap.size := by omega
    have hz1 : b1 < wx.heap.size := by omega
    have hz2 : b2 < wx.heap.size := by omega
    obtain ⟨hc, hf⟩ := bcell hb
    clear hb hz
    simp [depsE, Region.binds, updE, kindOf, Prp.is, Prp.any] at hd
    go_simp
    first | exact ⟨Below.refl _ _, rfl⟩ | rfl
  apply seq_is (by kernel_rfl)
  · intro u wx hb hd
    replace hb := hb.nil
    have hz := hb.size
    (try simp only [World.size_alloc, World.size_setCell] at hz)
    have hz0 : w.heap.size < wx.heap.size := by omega
    have hz1 : b1 < wx.heap.size := by omega
    have hz2 : b2 < wx.heap.size := by omega
    obtain ⟨hc, hf⟩ := bcell hb
    have HBX := Lib.hid hb
    clear hb hz
    simp [depsE, Region.binds, updE, kindOf, Prp.is, Prp.any] at hd
    go_simp
    (go_at_call 5; refine (HPT.out _ _ (HV0.out.below HBX.out)).mono ?_; rintro e w1 ⟨rfl, hb1⟩; first | exact ⟨rfl, hb1⟩ | exact ⟨_, rfl, hb1, rfl⟩)
  apply seq_is (by kernel_rfl)
  · intro u wx hb hd
    replace hb := hb.nil
    have hz := hb.size
    (try simp only [World.size_alloc, World.size_setCell] at hz)
    have hz0 : w.heap.size < wx.heap.size := by omega
    have hz1 : b1 < wx.heap.size := by omega
    have hz2 : b2 < wx.heap.size := by omega
    obtain ⟨hc, hf⟩ := bcell hb
    clear hb hz
    simp [depsE, Region.binds, updE, kindOf, Prp.is, Prp.any] at hd
    go_simp
    first | exact ⟨Below.refl _ _, rfl⟩ | rfl
  apply seq_is (by kernel_rfl)
  · intro u wx hb hd
    replace hb := hb.nil
    have hz := hb.size
    (try simp only [World.size_alloc, World.size_setCell] at hz)
    have hz0 : w.heap.size < wx.heap.size := by omega
    have hz1 : b1 < wx.heap.size := by omega
    have hz2 : b2 < wx.heap.size := by omega
    obtain ⟨hc, hf⟩ := bcell hb
    clear hb hz
    simp [depsE, Region.binds, updE, kindOf, Prp.is, Prp.any] at hd
    go_simp
    first | exact ⟨Below.refl _ _, rfl⟩ | rfl
  apply seq_is (by kernel_rfl)
  · intro u wx hb hd
    replace hb := hb.nil
    have hz := hb.size
    (try simp only [World.size_alloc, World.size_setCell] at hz)
    have hz0 : w.heap.size < wx.heap.size := by omega
    have hz1 : b1 < wx.heap.size := by omega
    have hz2 : b2 < wx.heap.size := by omega
    obtain ⟨hc, hf⟩ := bcell hb
    clear hb hz
    simp [depsE, Region.binds, updE, kindOf, Prp.is, Prp.any] at hd
    go_simp
    first | exact ⟨Below.refl _ _, rfl⟩ | rfl
  refine seq_var ⟨16, 17, #[.string ⟨#[]⟩, .int .i64 0, .int .i64 0, .string ⟨#[]⟩, .string ⟨#[]⟩, .int .i64 0, .slice none 0 0, .slice none 0 0, .string ⟨#[]⟩, .int .i64 0, .int .i64 0, .int .i64 0, .int .i64 0, .int .i64 0, .int .i64 0, .int .i64 0, .int .i64 0, .int .i64 0], 43⟩ (by simp) rfl ?_ ?_
  · intro u wx hb
    refine ⟨by simp [Region.wanted], ?_⟩
    go_simp
    first | done | rfl | exact ⟨rfl, rfl⟩
  apply seq_sto_agg ⟨16, 17, #[.string ⟨#[]⟩, .int .i64 0, .int .i64 0, .string ⟨#[]⟩, .string ⟨#[]⟩, .int .i64 0, .slice none 0 0, .slice none 0 0, .string ⟨#[]⟩, .int .i64 0, .int .i64 0, .int .i64 0, .int .i64 0, .int .i64 0, .int .i64 0, .int .i64 0, .int .i64 0, .int .i64 0], 43⟩ (by simp) rfl (by kernel_rfl) rfl (by kernel_rfl)
  · intro u wx hb hd
    replace hb := hb.nil
    have hz := hb.size
    (try simp only [World.size_alloc, World.size_setCell] at hz)
    have hz0 : w.heap.size < wx.heap.size := by omega
    have hz1 : b1 < wx.heap.size := by omega
    have hz2 : b2 < wx.heap.size := by omega
    obtain ⟨hc, hf⟩ := bcell hb
    clear hb hz
    simp [depsE, Region.binds, updE, kindOf, Prp.is, Prp.any] at hd
    refine ⟨by simp [Region.wanted], fun b' hub hlb hcells => ?_⟩
    exact relOp_store_all 43 b' 18 #[.string ⟨#[]⟩, .int .i64 0, .int .i64 0, .string ⟨#[]⟩, .string ⟨#[]⟩, .int .i64 0, .slice none 0 0, .slice none 0 0, .string ⟨#[]⟩, .int .i64 0, .int .i64 0, .int .i64 0, .int .i64 0, .int .i64 0, .int .i64 0, .int .i64 0, .int .i64 0, .int .i64 0] #[(.string ⟨#[120]⟩), (.int .i64 1), (.int .i64 3), (.string ⟨#[98]⟩), (.string (m.nm 0)), (.int .i64 0), (.slice none 0 0), (.slice none 0 0), (.string (m.sn 0)), (.int .i64 L), (.int .i64 0), (.int .i64 0), (.int .i64 0), (.int .i64 0), (.int .i64 X), (.int .i64 Y), (.int .i64 Z), (.int .i64 T)] 43 part_size (by first | exact hub | simpa [Act.eval] using hub) (by first | exact hd.1 | exact hd.2.1 | exact hd | simp [Act.eval, hd]) rfl rfl rfl hcells (fun _ => stored_setRow hcells)
  apply seq_is (by kernel_rfl)
  · intro u wx hb hd
    replace hb := hb.nil
    have hz := hb.size
    (try simp only [World.size_alloc, World.size_setCell] at hz)
    have hz0 : w.heap.size < wx.heap.size := by omega
    have hz1 : b1 < wx.heap.size := by omega
    have hz2 : b2 < wx.heap.size := by omega
    obtain ⟨hc, hf⟩ := bcell hb
    clear hb hz
    simp [depsE, Region.binds, updE, kindOf, Prp.is, Prp.any] at hd
    go_simp
    first | exact ⟨Below.refl _ _, rfl⟩ | rfl
  intro u w2 hb hE hV hP
  replace hb := hb.nil
  clear hP
  have e0 : u 0 = _ := endE_get hE 0 (by decide) (by simp [kindOf])
  have e1 : u 1 = _ := endE_get hE 1 (by decide) (by simp [kindOf])
  have e2 : u 2 = _ := endE_get hE 2 (by decide) (by simp [kindOf])
  have e3 : u 3 = _ := endE_get hE 3 (by decide) (by simp [kindOf])
  have e4 : u 4 = _ := endE_get hE 4 (by decide) (by simp [kindOf])
  have e5 : u 5 = _ := endE_get hE 5 (by decide) (by simp [kindOf])
  have e6 : u 6 = _ := endE_get hE 6 (by decide) (by simp [kindOf])
  have e7 : u 7 = _ := endE_get hE 7 (by decide) (by simp [kindOf])
  have e8 : u 8 = _ := endE_get hE 8 (by decide) (by simp [kindOf])
  have e9 : u 9 = _ := endE_get hE 9 (by decide) (by simp [kindOf])
  have e10 : u 10 = _ := endE_get hE 10 (by decide) (by simp [kindOf])
  have e11 : u 11 = _ := endE_get hE 11 (by decide) (by simp [kindOf])
  have e12 : u 12 = _ := endE_get hE 12 (by decide) (by simp [kindOf])
  have e13 : u 13 = _ := endE_get hE 13 (by decide) (by simp [kindOf])
  have e14 : u 14 = _ := endE_get hE 14 (by decide) (by simp [kindOf])
  have e15 : u 15 = _ := endE_get hE 15 (by decide) (by simp [kindOf])
  have e17 : u 17 = _ := endE_get hE 17 (by decide) (by simp [kindOf])
  have e18 : u 18 = _ := endE_get hE 18 (by decide) (by simp [kindOf])
  obtain ⟨⟨VP, pv0, lv0, qv0⟩, -, -⟩ := hV
  replace qv0 : w2.heap[VP]? = some (.cells (u 17).cells 43) := qv0
  rw [e17] at qv0
  replace pv0 : u 16 = .pointer (some ⟨VP, 0, none⟩) := pv0
  obtain ⟨mVP0, mVP1, mVP2, mVP3, mVP4, mVP5, mVP6, mVP7, mVP8, mVP9, mVP10, mVP11, mVP12, mVP13, mVP14, mVP15, mVP16, mVP17, mfVP, msVP⟩ := cells_at18 qv0
  have HQVP := Lib.hid qv0
  clear qv0
  (try simp only [World.size_alloc, World.size_setCell] at lv0)
  have dVPw20 : VP ≠ w.heap.size := by omega
  have dVPw21 : VP ≠ b1 := by omega
  have dVPw22 : VP ≠ b2 := by omega
  (try have lbVP : w1.heap.size ≤ VP := by omega)
  clear lv0
  simp only [List.drop_succ_cons, List.drop_zero, List.take_succ_cons, List.take_zero, fillL, Act.put, List.setIfInBounds_toArray, List.set_cons_zero, List.set_cons_succ, e0, e1, e2, e3, e4, e5, e6, e7, e8, e9, e10, e11, e12, e13, e14, e15, e17, e18, pv0]
  clear e0 e1 e2 e3 e4 e5 e6 e7 e8 e9 e10 e11 e12 e13 e14 e15 e17 e18 pv0 hE
  have HBWw2 := Lib.hid hb
  have hw2 := below_step (w := w1) (by first | assumption | go_grown) hb
  have hzw2 := hb.size
  (try simp only [World.size_alloc, World.size_setCell] at hzw2)
  have hzw20 : w.heap.size < w2.heap.size := by omega
  have hzw21 : b1 < w2.heap.size := by omega
  have hzw22 : b2 < w2.heap.size := by omega
  have HHw2 := Lib.hid hb.block
  obtain ⟨hcw2, hfw2⟩ := bcell hb
  clear hb hzw2
  have hP2 := HBWw2.out
  have d0w2 : w2.cell? ⟨w.heap.size, 0, none⟩ = some (.slice (some ⟨b1, f1, none⟩) m.ng cg) := (hP2.cell (p := ⟨w.heap.size, 0, none⟩) dz).trans d0
  have d1w2 : w2.cell? ⟨w.heap.size, 1, none⟩ = some (.slice (some ⟨b2, f2, none⟩) m.ns cs') := (hP2.cell (p := ⟨w.heap.size, 1, none⟩) dz).trans d1
  have g0w2 : w2.cell? ⟨b1, f1, none⟩ = some (.string (m.nm 0)) := (hP2.cell (p := ⟨b1, f1, none⟩) zb1).trans g0
  have g1w2 : w2.cell? ⟨b1, f1 + 1, none⟩ = some (.int .i64 (m.de 0)) := (hP2.cell (p := ⟨b1, f1 + 1, none⟩) zb1).trans g1
  have s0w2 : w2.cell? ⟨b2, f2, none⟩ = some (.string (m.sn 0)) := (hP2.cell (p := ⟨b2, f2, none⟩) zb2).trans s0
  have s1w2 : w2.cell? ⟨b2, f2 + 1, none⟩ = some (.int .i64 (m.sa 0)) := (hP2.cell (p := ⟨b2, f2 + 1, none⟩) zb2).trans s1
  clear d0 d1 g0 g1 s0 s1
  have d0 := d0w2
  have d1 := d1w2
  have g0 := g0w2
  have g1 := g1w2
  have s0 := s0w2
  have s1 := s1w2
  clear d0w2 d1w2 g0w2 g1w2 s0w2 s1w2
  have dzw2 : w.heap.size < w2.heap.size := by have := hP2.size; omega
  have zb1w2 : b1 < w2.heap.size := by have := hP2.size; omega
  have zb2w2 : b2 < w2.heap.size := by have := hP2.size; omega
  clear dz zb1 zb2
  have dz := dzw2
  have zb1 := zb1w2
  have zb2 := zb2w2
  clear dzw2 zb1w2 zb2w2
  have hBw2 : Below w.heap.size w w2 := below_step hBw1 hP2
  replace HM0 := Lib.hid (HM0.out.below hP2)
  replace HV0 := Lib.hid (HV0.out.below hP2)
  replace HML0 := Lib.hid (HML0.out.below hP2)
  have HQP : Hid (w2.heap[VP]? = some (.cells #[(.string ⟨#[120]⟩), (.int .i64 1), (.int .i64 3), (.string ⟨#[98]⟩), (.string (m.nm 0)), (.int .i64 0), (.slice none 0 0), (.slice none 0 0), (.string (m.sn 0)), (.int .i64 L), (.int .i64 0), (.int .i64 0), (.int .i64 0), (.int .i64 0), (.int .i64 X), (.int .i64 Y), (.int .i64 Z), (.int .i64 T)] 43)) := HQVP.out
  clear hcw2 hfw2 HBWw2 HHw2 HQVP mfVP msVP mVP0 mVP1 mVP2 mVP3 mVP4 mVP5 mVP6 mVP7 mVP8 mVP9 mVP10 mVP11 mVP12 mVP13 mVP14 mVP15 mVP16 mVP17 hP2
  go_wp2_with fail
  (go_at_call 6; refine (HLN.out _ _ (HV0.out.below (by first | exact Below.refl _ _ | (show Below w2.heap.size w2 _; go_grown)))).mono ?_; rintro e_ w3 ⟨rfl, hb⟩)
  have hP3 : Below w2.heap.size w2 w3 := below_step (w := w2) (by first | exact Below.refl _ _ | go_grown) hb
  have d0w3 : w3.cell? ⟨w.heap.size, 0, none⟩ = some (.slice (some ⟨b1, f1, none⟩) m.ng cg) := (hP3.cell (p := ⟨w.heap.size, 0, none⟩) dz).trans d0
  have d1w3 : w3.cell? ⟨w.heap.size, 1, none⟩ = some (.slice (some ⟨b2, f2, none⟩) m.ns cs') := (hP3.cell (p := ⟨w.heap.size, 1, none⟩) dz).trans d1
  have g0w3 : w3.cell? ⟨b1, f1, none⟩ = some (.string (m.nm 0)) := (hP3.cell (p := ⟨b1, f1, none⟩) zb1).trans g0
  have g1w3 : w3.cell? ⟨b1, f1 + 1, none⟩ = some (.int .i64 (m.de 0)) := (hP3.cell (p := ⟨b1, f1 + 1, none⟩) zb1).trans g1
  have s0w3 : w3.cell? ⟨b2, f2, none⟩ = some (.string (m.sn 0)) := (hP3.cell (p := ⟨b2, f2, none⟩) zb2).trans s0
  have s1w3 : w3.cell? ⟨b2, f2 + 1, none⟩ = some (.int .i64 (m.sa 0)) := (hP3.cell (p := ⟨b2, f2 + 1, none⟩) zb2).trans s1
  clear d0 d1 g0 g1 s0 s1
  have d0 := d0w3
  have d1 := d1w3
  have g0 := g0w3
  have g1 := g1w3
  have s0 := s0w3
  have s1 := s1w3
  clear d0w3 d1w3 g0w3 g1w3 s0w3 s1w3
  have dzw3 : w.heap.size < w3.heap.size := by have := hP3.size; omega
  have zb1w3 : b1 < w3.heap.size := by have := hP3.size; omega
  have zb2w3 : b2 < w3.heap.size := by have := hP3.size; omega
  clear dz zb1 zb2
  have dz := dzw3
  have zb1 := zb1w3
  have zb2 := zb2w3
  clear dzw3 zb1w3 zb2w3
  have hBw3 : Below w.heap.size w w3 := below_step hBw2 hP3
  replace HM0 := Lib.hid (HM0.out.below hP3)
  replace HV0 := Lib.hid (HV0.out.below hP3)
  replace HML0 := Lib.hid (HML0.out.below hP3)
  have HQP2 : Hid (w3.heap[VP]? = some (.cells #[(.string ⟨#[120]⟩), (.int .i64 1), (.int .i64 3), (.string ⟨#[98]⟩), (.string (m.nm 0)), (.int .i64 0), (.slice none 0 0), (.slice none 0 0), (.string (m.sn 0)), (.int .i64 L), (.int .i64 0), (.int .i64 0), (.int .i64 0), (.int .i64 0), (.int .i64 X), (.int .i64 Y), (.int .i64 Z), (.int .i64 T)] 43)) := (hP3.block _ (block_lt HQP.out)).trans HQP.out
  clear hb hP3 HQP
  rw [HD.out] at g1
  rw [HR.out] at s1
  go_wp2_with (with_reducible refine wpList_load_all 43 VP 18 #[(.string ⟨#[120]⟩), (.int .i64 1), (.int .i64 3), (.string ⟨#[98]⟩), (.string (m.nm 0)), (.int .i64 0), (.slice none 0 0), (.slice none 0 0), (.string (m.sn 0)), (.int .i64 L), (.int .i64 0), (.int .i64 0), (.int .i64 0), (.int .i64 0), (.int .i64 X), (.int .i64 Y), (.int .i64 Z), (.int .i64 T)] 43 _ part_under part_size rfl rfl HQP2.out ?_)
  (go_at_call 8; refine (HMS.out _ _ (HM0.out.below (by first | exact Below.refl _ _ | (show Below w3.heap.size w3 _; go_grown))) (HML0.out.below (by first | exact Below.refl _ _ | (show Below w3.heap.size w3 _; go_grown)))).mono ?_; rintro e_ w4 ⟨rfl, hb⟩)
  have hP4 : Below w3.heap.size w3 w4 := below_step (w := w3) (by first | exact Below.refl _ _ | go_grown) hb
  have d0w4 : w4.cell? ⟨w.heap.size, 0, none⟩ = some (.slice (some ⟨b1, f1, none⟩) m.ng cg) := (hP4.cell (p := ⟨w.heap.size, 0, none⟩) dz).trans d0
  have d1w4 : w4.cell? ⟨w.heap.size, 1, none⟩ = some (.slice (some ⟨b2, f2, none⟩) m.ns cs') := (hP4.cell (p := ⟨w.heap.size, 1, none⟩) dz).trans d1
  have g0w4 : w4.cell? ⟨b1, f1, none⟩ = some (.string (m.nm 0)) := (hP4.cell (p := ⟨b1, f1, none⟩) zb1).trans g0
  have g1w4 : w4.cell? ⟨b1, f1 + 1, none⟩ = some (.int .i64 D) := (hP4.cell (p := ⟨b1, f1 + 1, none⟩) zb1).trans g1
  have s0w4 : w4.cell? ⟨b2, f2, none⟩ = some (.string (m.sn 0)) := (hP4.cell (p := ⟨b2, f2, none⟩) zb2).trans s0
  have s1w4 : w4.cell? ⟨b2, f2 + 1, none⟩ = some (.int .i64 R) := (hP4.cell (p := ⟨b2, f2 + 1, none⟩) zb2).trans s1
  clear d0 d1 g0 g1 s0 s1
  have d0 := d0w4
  have d1 := d1w4
  have g0 := g0w4
  have g1 := g1w4
  have s0 := s0w4
  have s1 := s1w4
  clear d0w4 d1w4 g0w4 g1w4 s0w4 s1w4
  have dzw4 : w.heap.size < w4.heap.size := by have := hP4.size; omega
  have zb1w4 : b1 < w4.heap.size := by have := hP4.size; omega
  have zb2w4 : b2 < w4.heap.size := by have := hP4.size; omega
  clear dz zb1 zb2
  have dz := dzw4
  have zb1 := zb1w4
  have zb2 := zb2w4
  clear dzw4 zb1w4 zb2w4
  have hBw4 : Below w.heap.size w w4 := below_step hBw3 hP4
  replace HM0 := Lib.hid (HM0.out.below hP4)
  replace HV0 := Lib.hid (HV0.out.below hP4)
  replace HML0 := Lib.hid (HML0.out.below hP4)
  have HQP4 : Hid (w4.heap[VP]? = some (.cells #[(.string ⟨#[120]⟩), (.int .i64 1), (.int .i64 3), (.string ⟨#[98]⟩), (.string (m.nm 0)), (.int .i64 0), (.slice none 0 0), (.slice none 0 0), (.string (m.sn 0)), (.int .i64 L), (.int .i64 0), (.int .i64 0), (.int .i64 0), (.int .i64 0), (.int .i64 X), (.int .i64 Y), (.int .i64 Z), (.int .i64 T)] 43)) := (hP4.block _ (block_lt HQP2.out)).trans HQP2.out
  clear hb hP4 HQP2
  obtain ⟨c0, c1, c2, c3, c4, c5, c6, c7, c8, c9, c10, c11, c12, c13, c14, c15, c16, c17, cf, cz⟩ := cells_at18 HQP4.out
  go_wp2_with fail
  refine wp_region_relw 41 (by kernel_rfl) (by kernel_rfl) (by kernel_rfl) ?_
  simp only [List.take_succ_cons, List.take_zero, fillL, Act.put, List.setIfInBounds_toArray, List.set_cons_zero, List.set_cons_succ]
  iterate 11
    apply rel_is
    · intro u wx hb hd
      have hz := hb.size
      (try simp only [World.size_alloc, World.size_setCell] at hz)
      have hz0 : w.heap.size < wx.heap.size := by omega
      have hz1 : b1 < wx.heap.size := by omega
      have hz2 : b2 < wx.heap.size := by omega
      have hz3 : VP < wx.heap.size := by omega
      obtain ⟨hc, hf⟩ := bcell hb
      have HBX := Lib.hid hb
      clear hb hz
      simp [depsS, Region.binds, updS, Stay.is, Stay.any] at hd
      go_simp
      first | exact ⟨Below.refl _ _, rfl⟩ | rfl
  apply rel_is
  · intro u wx hb hd
    have hz := hb.size
    (try simp only [World.size_alloc, World.size_setCell] at hz)
    have hz0 : w.heap.size < wx.heap.size := by omega
    have hz1 : b1 < wx.heap.size := by omega
    have hz2 : b2 < wx.heap.size := by omega
    have hz3 : VP < wx.heap.size := by omega
    obtain ⟨hc, hf⟩ := bcell hb
    have HBX2 := Lib.hid hb
    have HBX := Lib.hid hb
    clear hb hz
    simp [depsS, Region.binds, updS, Stay.is, Stay.any] at hd
    rw [if_pos (by first | rfl | simp [Region.wanted, yielded, hd])]
    exact relOp_load_all 43 VP 18 #[(.string ⟨#[120]⟩), (.int .i64 1), (.int .i64 3), (.string ⟨#[98]⟩), (.string (m.nm 0)), (.int .i64 0), (.slice none 0 0), (.slice none 0 0), (.string (m.sn 0)), (.int .i64 L), (.int .i64 0), (.int .i64 0), (.int .i64 0), (.int .i64 0), (.int .i64 X), (.int .i64 Y), (.int .i64 Z), (.int .i64 T)] 43 _ part_under part_size rfl rfl ((HBX2.out.block _ (block_lt HQP4.out)).trans HQP4.out) ⟨Below.refl _ _, rfl⟩
  apply rel_is
  · intro u wx hb hd
    have hz := hb.size
    (try simp only [World.size_alloc, World.size_setCell] at hz)
    have hz0 : w.heap.size < wx.heap.size := by omega
    have hz1 : b1 < wx.heap.size := by omega
    have hz2 : b2 < wx.heap.size := by omega
    have hz3 : VP < wx.heap.size := by omega
    obtain ⟨hc, hf⟩ := bcell hb
    have HBX := Lib.hid hb
    clear hb hz
    simp [depsS, Region.binds, updS, Stay.is, Stay.any] at hd
    go_simp
    first | exact ⟨Below.refl _ _, rfl⟩ | rfl
  apply rel_is
  · intro u wx hb hd
    have hz := hb.size
    (try simp only [World.size_alloc, World.size_setCell] at hz)
    have hz0 : w.heap.size < wx.heap.size := by omega
    have hz1 : b1 < wx.heap.size := by omega
    have hz2 : b2 < wx.heap.size := by omega
    have hz3 : VP < wx.heap.size := by omega
    obtain ⟨hc, hf⟩ := bcell hb
    have HBX := Lib.hid hb
    clear hb hz
    simp [depsS, Region.binds, updS, Stay.is, Stay.any] at hd
    go_simp
    first | rfl | (go_at_call 9; refine (HPC.out _ _ (HM0.out.below HBX.out) (HML0.out.below HBX.out)).mono ?_; rintro e w1 ⟨rfl, hb1⟩; first | exact ⟨rfl, hb1⟩ | exact ⟨_, rfl, hb1, rfl⟩)
  iterate 27
    apply rel_is
    · intro u wx hb hd
      have hz := hb.size
      (try simp only [World.size_alloc, World.size_setCell] at hz)
      have hz0 : w.heap.size < wx.heap.size := by omega
      have hz1 : b1 < wx.heap.size := by omega
      have hz2 : b2 < wx.heap.size := by omega
      have hz3 : VP < wx.heap.size := by omega
      obtain ⟨hc, hf⟩ := bcell hb
      have HBX := Lib.hid hb
      clear hb hz
      simp [depsS, Region.binds, updS, Stay.is, Stay.any] at hd
      go_simp
      first | exact ⟨Below.refl _ _, rfl⟩ | rfl
  intro u w5 hb hE
  have e0 : u 0 = _ := endS_get hE 0 (by decide)
  have e1 : u 1 = _ := endS_get hE 1 (by decide)
  have e2 : u 2 = _ := endS_get hE 2 (by decide)
  have e3 : u 3 = _ := endS_get hE 3 (by decide)
  have e4 : u 4 = _ := endS_get hE 4 (by decide)
  have e5 : u 5 = _ := endS_get hE 5 (by decide)
  have e6 : u 6 = _ := endS_get hE 6 (by decide)
  have e7 : u 7 = _ := endS_get hE 7 (by decide)
  have e8 : u 8 = _ := endS_get hE 8 (by decide)
  have e9 : u 9 = _ := endS_get hE 9 (by decide)
  have e10 : u 10 = _ := endS_get hE 10 (by decide)
  have e11 : u 11 = _ := endS_get hE 11 (by decide)
  have e12 : u 12 = _ := endS_get hE 12 (by decide)
  have e13 : u 13 = _ := endS_get hE 13 (by decide)
  have e14 : u 14 = _ := endS_get hE 14 (by decide)
  have e15 : u 15 = _ := endS_get hE 15 (by decide)
  have e16 : u 16 = _ := endS_get hE 16 (by decide)
  have e17 : u 17 = _ := endS_get hE 17 (by decide)
  have e18 : u 18 = _ := endS_get hE 18 (by decide)
  have e19 : u 19 = _ := endS_get hE 19 (by decide)
  have e20 : u 20 = _ := endS_get hE 20 (by decide)
  have e21 : u 21 = _ := endS_get hE 21 (by decide)
  have e22 : u 22 = _ := endS_get hE 22 (by decide)
  have e23 : u 23 = _ := endS_get hE 23 (by decide)
  have e24 : u 24 = _ := endS_get hE 24 (by decide)
  have e25 : u 25 = _ := endS_get hE 25 (by decide)
  have e26 : u 26 = _ := endS_get hE 26 (by decide)
  have e27 : u 27 = _ := endS_get hE 27 (by decide)
  have e28 : u 28 = _ := endS_get hE 28 (by decide)
  have e29 : u 29 = _ := endS_get hE 29 (by decide)
  have e30 : u 30 = _ := endS_get hE 30 (by decide)
  have e31 : u 31 = _ := endS_get hE 31 (by decide)
  have e32 : u 32 = _ := endS_get hE 32 (by decide)
  have e33 : u 33 = _ := endS_get hE 33 (by decide)
  have e34 : u 34 = _ := endS_get hE 34 (by decide)
  have e35 : u 35 = _ := endS_get hE 35 (by decide)
  have e36 : u 36 = _ := endS_get hE 36 (by decide)
  have e37 : u 37 = _ := endS_get hE 37 (by decide)
  have e38 : u 38 = _ := endS_get hE 38 (by decide)
  have e39 : u 39 = _ := endS_get hE 39 (by decide)
  have e40 : u 40 = _ := endS_get hE 40 (by decide)
  simp only [List.drop_succ_cons, List.drop_zero, List.take_succ_cons, List.take_zero, fillL, Act.put, List.setIfInBounds_toArray, List.set_cons_zero, List.set_cons_succ, e0, e1, e2, e3, e4, e5, e6, e7, e8, e9, e10, e11, e12, e13, e14, e15, e16, e17, e18, e19, e20, e21, e22, e23, e24, e25, e26, e27, e28, e29, e30, e31, e32, e33, e34, e35, e36, e37, e38, e39, e40]
  clear e0 e1 e2 e3 e4 e5 e6 e7 e8 e9 e10 e11 e12 e13 e14 e15 e16 e17 e18 e19 e20 e21 e22 e23 e24 e25 e26 e27 e28 e29 e30 e31 e32 e33 e34 e35 e36 e37 e38 e39 e40 hE
  have HBw5 := Lib.hid (below_step (w := w4) (by first | assumption | go_grown) hb)
  have HBXw5 := Lib.hid hb
  have hzw5 := hb.size
  (try simp only [World.size_alloc, World.size_setCell] at hzw5)
  have hzw50 : w.heap.size < w5.heap.size := by omega
  have hzw51 : b1 < w5.heap.size := by omega
  have hzw52 : b2 < w5.heap.size := by omega
  have hzw53 : VP < w5.heap.size := by omega
  obtain ⟨hcw5, hfw5⟩ := bcell hb
  clear hb hzw5
  have hB5 : Below w.heap.size w w5 := below_step hBw4 HBXw5.out
  go_wp2
  go_returns
  exact ⟨rfl, hB5⟩

set_option maxRecDepth 100000 in
theorem topSpools_contract (H : Type) (enc : TypeId × Value → H) (W : World) (base : Nat) (args : Array Value) (ds gs : List (DataW H)) (before : List MemPlace)
    (hval : ∀ (j : Nat) t v, Tryz.f3.params[j]? = some t → args[j]? = some v → Value.okWide Tryz.prog W .any base t v)
    (hW : DataW.Whole enc Tryz.prog Tryz.f3.params.toList Rows.topSpoolsSpec.vars false W args.toList ds gs before) (hL : laidMetH Tryz.prog Rows.topSpoolsUptoRow.laid W) (hSh : W.ShapedOpen Tryz.prog) (hk : Rows.uptoBulkAll (ds ++ gs) ≤ 1048576) :
    Calls Tryz.prog 3 args W fun e W' => ∃ v, e = .returned v ∧ Rows.topSpoolsSpec.post enc Tryz.prog Tryz.f3 false true false false W args v W' := by
  have hW' := hW
  obtain ⟨p, q, hA0, hV, rfl, hfz, hnd⟩ := hW
  have hA : DataW.TrodAll enc Tryz.prog W 0 (fun _ => true) true Tryz.f3.params.toList args.toList ds p := hA0
  rw [Tryz.params3] at hA hval
  obtain ⟨v0, vs0, d0, ds0, p0, q0, hargs, rfl, rfl, h0, r0⟩ := trodAll_cons hA
  obtain ⟨v1, vs1, d1, ds1, p1, q1, rfl, rfl, rfl, h1, r1⟩ := trodAll_cons r0
  obtain ⟨v2, vs2, d2, ds2, p2, q2, rfl, rfl, rfl, h2, r2⟩ := trodAll_cons r1
  obtain ⟨rfl, rfl, rfl⟩ := trodAll_nil r2
  obtain rfl : args = #[v0, v1, v2] := by cases args; simp_all
  obtain ⟨n, x, y, z, hvv⟩ := vecs_arg (hval 0 22 v0 rfl rfl) h0
  obtain ⟨m, gv, hmm⟩ := mat_upto (hval 1 26 v1 rfl rfl) h1
  obtain ⟨rr, rfl, rfl, rfl, _w2⟩ := open_int Tryz.underlying3 (hval 2 3 v2 rfl rfl) h2
  refine (topSpools_walk _ _ n x y z m gv rr W hvv (hmm (by simp only [List.cons_append, List.nil_append, Rows.uptoBulkAll] at hk; omega)) (maxLen_of W hSh)).mono fun e W' ⟨he, hb⟩ => ?_
  subst he
  exact ⟨_, rfl, law_post laidOut (by kernel_rfl) (by kernel_rfl) Tryz.underlying4 rfl hW' (fun _ => rfl) hb⟩
theorem topSpools_laid (os : Os) : laidMet Tryz.prog Rows.topSpoolsUptoRow.laid ((laidWorld os).forCall (fun _ _ => 0) ⟨#[], #[.slice none 0 0, .agg #[.slice none 0 0, .slice none 0 0], .int .i64 0], []⟩).memory := laidMet_of_run' 8 (by kernel_rfl) (by kernel_rfl)
theorem topSpools_reads (os : Os) {H : Type} (enc : TypeId × Value → H) : ∃ places, DataW.whole enc Tryz.prog ((laidWorld os).forCall (fun _ _ => 0) ⟨#[], #[.slice none 0 0, .agg #[.slice none 0 0, .slice none 0 0], .int .i64 0], []⟩).memory Tryz.f3.params.toList Rows.topSpoolsSpec.vars false (#[.slice none 0 0, .agg #[.slice none 0 0, .slice none 0 0], .int .i64 0] : Array Value).toList 8 = some ([.nil, .agg [.nil, .nil], .lit (.int .i64 0)], [], places) := ⟨[], by kernel_rfl⟩
set_option maxRecDepth 100000 in
theorem topSpools_lifted (os : Os) (started : os.Started) (H : Type) (enc : TypeId × Value → H) (F : Stop.Interp) :
    ReturnsInHanded {} Tryz.checked os 3 .any ((Rows.OpenSpec.upto Rows.topSpoolsSpec).preRow enc Tryz.prog Tryz.f3 Rows.topSpoolsUptoRow.domain false Rows.topSpoolsUptoRow.laid) (((Rows.OpenSpec.upto Rows.topSpoolsSpec).at F).post enc Tryz.prog Tryz.f3 false true false false) := by
  obtain ⟨places, hx⟩ := topSpools_reads os enc
  refine returnsInHanded_of_row (C := Tryz.checked) (s := Rows.OpenSpec.upto Rows.topSpoolsSpec) own started (by kernel_rfl) Tryz.func3
    (witness_row_at (enc := enc) (C := Tryz.checked) false (laidWorld os) #[.slice none 0 0, .agg #[.slice none 0 0, .slice none 0 0], .int .i64 0] rfl (by kernel_rfl) (by kernel_rfl) (by kernel_rfl)
      (OpenSpec.preRow_of_cond 8 hx (by kernel_rfl) (fun k hk => by cases hk; kernel_rfl) (by kernel_rfl) (topSpools_laid os))) ?_
  intro W base args ds gs before hval hW _ hcond _ hL hSh _
  exact topSpools_contract H enc W base args ds gs before hval hW hL hSh (of_decide_eq_true (hcond _ rfl))
theorem topSpools_said : Rows.TopSpoolsUptoSaid :=
  OpenClaim.holds_of_cond 3 Tryz.f3 rfl rfl rfl rfl rfl rfl rfl ⟨rfl, rfl, rfl, rfl, rfl⟩ rfl rfl rfl rfl rfl (by kernel_rfl) Tryz.func3 (by kernel_rfl)
    (of_decide_eq_true (by kernel_rfl)) (by unfold Func.isWrapper; rw [if_neg (of_decide_eq_false (by kernel_rfl))]; exact ⟨rfl, rfl⟩)
    (fun os started H enc _ F => by rw [OpenClaim.pre_eq_preRow]; exact topSpools_lifted os started H enc F)
theorem topSpools_plain (f : FuncId) (fn : Func) (hf : Tryz.pinned.checked.prog.funcNamed "shipyard/shipyardtop.TopSpools" = some f) (hfn : Tryz.pinned.checked.prog.funcs[f]? = some fn) :
    false = Tryz.pinned.checked.prog.looks [] ∧ ∀ (j : Nat) t, fn.params[j]? = some t → Tryz.pinned.checked.prog.wantsStandIn t = false := by
  obtain rfl : f = 3 := Option.some.inj ((show Tryz.prog.funcNamed "shipyard/shipyardtop.TopSpools" = some 3 by kernel_rfl).symm.trans hf) |>.symm
  obtain rfl : fn = Tryz.f3 := (Option.some.inj (Tryz.func3.symm.trans hfn)).symm
  refine ⟨by kernel_rfl, fun j t ht => ?_⟩
  rw [Tryz.params3] at ht
  have hm : t ∈ [22, 26, 3] := by simpa using Array.mem_of_getElem? ht
  have hall : ([22, 26, 3].all fun u => !Tryz.prog.wantsStandIn u) = true := by kernel_rfl
  exact (show Tryz.prog.wantsStandIn t = false by simpa using List.all_eq_true.1 hall t hm)
/-- the card -/
theorem topSpools_card : Rows.TopSpoolsUptoCardSaid :=
  Claim7.holds_tied_plain_at .later [] _ _ _ _ topSpools_said (fun _ h => by cases h) (by kernel_rfl) (fun _ h => by cases h) topSpoolsUpto_row_tie rfl ⟨rfl, rfl⟩ (by kernel_rfl) rfl topSpools_plain (by kernel_rfl)
#print axioms topSpools_card
end Go.Proofs.YtgbhhjdmochhpaaGreatDoor
