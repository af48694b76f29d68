/-
  TakeSheet and TakeBar return what the reference returns, for any right stock and identifier. Conditions: none (the card ties the two tables of unicode/utf8 to the program's text). By an AI agent.
-/
import Derived.Test.YtiddpaaihloopaaGreatDoorStockV
namespace Go.Proofs.YtiddpaaihloopaaGreatDoor
open Go Go.ChangeShapes Go.WideShapes Go.RowKit Go.ChangeAt
set_option linter.unusedSimpArgs false
set_option linter.unusedVariables false
theorem eql_self_Sheet (x : Sh) (W : World) : (binOp .eql 31 x.val x.val).run Tryz.prog W = .ok (.bool true) W := by
  obtain ⟨a, b, c, d, e, f⟩ := x
  simp only [Sh.val]
  go_simp
  try simp
theorem eql_self_Bar (x : Br) (W : World) : (binOp .eql 33 x.val x.val).run Tryz.prog W = .ok (.bool true) W := by
  obtain ⟨a, b, c, d, e⟩ := x
  simp only [Br.val]
  go_simp
  try simp
set_option maxRecDepth 100000 in
set_option maxHeartbeats 16000000 in
theorem stockTakes_walk (v : Value) (ns : Nat) (es : Nat → Sh) (nb : Nat) (eb : Nat → Br) (vg vs : Value) (m : Mat) (gv : Nat → Value) (s : ByteArray) (w : World) (h : StAt w v ns es nb eb) (hG : GrAt w vg m gv) (hS : SeAt w vs m) (hml : MaxLenIs w) :
    Calls Tryz.prog 4 #[v, .agg #[vg, vs], .string s] w fun e w' => e = .returned (.bool true) ∧ Below w.heap.size w w' := by
  have HML := Lib.hid hml
  have HST := Lib.hid h
  have HG := Lib.hid hG
  have HS := Lib.hid hS
  obtain ⟨oa, ca, ob, cb, rfl⟩ := h.slices
  obtain ⟨om, cm, rfl, -, -⟩ := hG.form
  obtain ⟨ot, ct, rfl, -, -⟩ := hS.form
  clear h hml hG hS
  obtain ⟨R1, hR1⟩ : ∃ R, rightB m ns es nb eb = R := ⟨_, rfl⟩
  have HR1 := Lib.hid hR1
  clear hR1
  go_enter Tryz.func4, Tryz.ntmps4
  go_wp2_with fail
  (go_at_call 6; refine (right_any _ ns es nb eb _ _ m gv _ (HST.out.below (by first | assumption | go_grown)) (HG.out.below (by first | assumption | go_grown)) (HS.out.below (by first | assumption | go_grown)) (HML.out.below (by first | assumption | go_grown))).mono ?_; rintro e_ w1 ⟨rfl, hb⟩)
  rw [HR1.out]
  have hsw1 := hb.size
  (try simp only [World.size_alloc, World.size_setCell] at hsw1)
  have zzw1 : w.heap.size < w1.heap.size := by omega
  have hPw1 : Below w.heap.size w w1 := below_step (w := w) (by first | exact Below.refl _ _ | go_grown) hb
  have zsw1 : w.heap.size < w1.heap.size := by omega
  have s0w1 : w1.cell? ⟨w.heap.size, 0, none⟩ = some (.slice oa ns ca) := (hb.cell (p := ⟨_, _, none⟩) (by simp <;> omega)).trans (by simp [go_sem])
  have s1w1 : w1.cell? ⟨w.heap.size, 1, none⟩ = some (.slice ob nb cb) := (hb.cell (p := ⟨_, _, none⟩) (by simp <;> omega)).trans (by simp [go_sem])
  have zmw1 : w.heap.size + 1 < w1.heap.size := by omega
  have m0w1 : w1.cell? ⟨w.heap.size + 1, 0, none⟩ = some (.slice om m.ng cm) := (hb.cell (p := ⟨_, _, none⟩) (by simp <;> omega)).trans (by simp [go_sem])
  have m1w1 : w1.cell? ⟨w.heap.size + 1, 1, none⟩ = some (.slice ot m.ns ct) := (hb.cell (p := ⟨_, _, none⟩) (by simp <;> omega)).trans (by simp [go_sem])
  have hBw1 : Below w.heap.size w w1 := below_step (w := w) (by first | assumption | go_grown) hb
  clear hb hsw1 hPw1
  cases R1 with
  | false =>
    go_wp2_with fail
    (go_at_call 8; refine (awake_any _ (HML.out.below (by first | assumption | go_grown))).mono ?_; rintro e_ w2 ⟨rfl, hb⟩)
    have hsw2 := hb.size
    (try simp only [World.size_alloc, World.size_setCell] at hsw2)
    have zzw2 : w.heap.size < w2.heap.size := by omega
    have hPw2 : Below w1.heap.size w1 w2 := below_step (w := w1) (by first | exact Below.refl _ _ | go_grown) hb
    have zsw2 : w.heap.size < w2.heap.size := by omega
    have s0w2 : w2.cell? ⟨w.heap.size, 0, none⟩ = some (.slice oa ns ca) := (hPw2.cell (p := ⟨_, _, none⟩) zsw1).trans s0w1
    have s1w2 : w2.cell? ⟨w.heap.size, 1, none⟩ = some (.slice ob nb cb) := (hPw2.cell (p := ⟨_, _, none⟩) zsw1).trans s1w1
    have zmw2 : w.heap.size + 1 < w2.heap.size := by omega
    have m0w2 : w2.cell? ⟨w.heap.size + 1, 0, none⟩ = some (.slice om m.ng cm) := (hPw2.cell (p := ⟨_, _, none⟩) zmw1).trans m0w1
    have m1w2 : w2.cell? ⟨w.heap.size + 1, 1, none⟩ = some (.slice ot m.ns ct) := (hPw2.cell (p := ⟨_, _, none⟩) zmw1).trans m1w1
    have hBw2 : Below w.heap.size w w2 := below_step (w := w) (by first | assumption | go_grown) hb
    clear hb hsw2 hPw2
    clear zsw1 zmw1 s0w1 s1w1 m0w1 m1w1
    go_wp2
    go_returns
    exact ⟨rfl, by assumption⟩
  | true =>
    have HR := Lib.hid (right_is HR1.out)
    have HM := Lib.hid (mfew_mat HR.out.mfew HG.out HS.out)
    clear HR1
    obtain ⟨Ea, hEa⟩ : ∃ E, takeE Sh.id es ns s = E := ⟨_, rfl⟩
    obtain ⟨Na1, hNa1⟩ : ∃ N, (if Ea = 0 then ns - 1 else 0) = N := ⟨_, rfl⟩
    have HNa1 := Lib.hid hNa1
    clear hNa1
    obtain ⟨Na2, hNa2⟩ : ∃ N, (if Ea = 0 then nb else 0) = N := ⟨_, rfl⟩
    have HNa2 := Lib.hid hNa2
    clear hNa2
    have HEa := Lib.hid hEa
    clear hEa
    obtain ⟨Xa, hXa⟩ : ∃ X, takeV Sh.id Sh.none es ns s = X := ⟨_, rfl⟩
    have HXa := Lib.hid hXa
    clear hXa
    obtain ⟨Xa0, Xa1, Xa2, Xa3, Xa4, Xa5⟩ := Xa
    obtain ⟨Ec, hEc⟩ : ∃ E, takeE Br.id eb nb s = E := ⟨_, rfl⟩
    obtain ⟨Nc1, hNc1⟩ : ∃ N, (if Ec = 0 then ns else 0) = N := ⟨_, rfl⟩
    have HNc1 := Lib.hid hNc1
    clear hNc1
    obtain ⟨Nc2, hNc2⟩ : ∃ N, (if Ec = 0 then nb - 1 else 0) = N := ⟨_, rfl⟩
    have HNc2 := Lib.hid hNc2
    clear hNc2
    have HEc := Lib.hid hEc
    clear hEc
    obtain ⟨Xc, hXc⟩ : ∃ X, takeV Br.id Br.none eb nb s = X := ⟨_, rfl⟩
    have HXc := Lib.hid hXc
    clear hXc
    obtain ⟨Xc0, Xc1, Xc2, Xc3, Xc4⟩ := Xc
    go_wp2_with fail
    (go_at_call 14; refine (takeSheet_gen HR.out _ s _ _ Ea Na1 Na2 HXa.out HEa.out HNa1.out HNa2.out (HST.out.below (by first | assumption | go_grown))).mono ?_; rintro e_ w2 ⟨oa0, ca0, pa0, da0, rfl, hst, hb⟩)
    have hsw2 := hb.size
    (try simp only [World.size_alloc, World.size_setCell] at hsw2)
    have zzw2 : w.heap.size < w2.heap.size := by omega
    have hPw2 : Below w1.heap.size w1 w2 := below_step (w := w1) (by first | exact Below.refl _ _ | go_grown) hb
    have zsw2 : w.heap.size < w2.heap.size := by omega
    have s0w2 : w2.cell? ⟨w.heap.size, 0, none⟩ = some (.slice oa ns ca) := (hPw2.cell (p := ⟨_, _, none⟩) zsw1).trans s0w1
    have s1w2 : w2.cell? ⟨w.heap.size, 1, none⟩ = some (.slice ob nb cb) := (hPw2.cell (p := ⟨_, _, none⟩) zsw1).trans s1w1
    have zmw2 : w.heap.size + 1 < w2.heap.size := by omega
    have m0w2 : w2.cell? ⟨w.heap.size + 1, 0, none⟩ = some (.slice om m.ng cm) := (hPw2.cell (p := ⟨_, _, none⟩) zmw1).trans m0w1
    have m1w2 : w2.cell? ⟨w.heap.size + 1, 1, none⟩ = some (.slice ot m.ns ct) := (hPw2.cell (p := ⟨_, _, none⟩) zmw1).trans m1w1
    have hBw2 : Below w.heap.size w w2 := below_step (w := w) (by first | assumption | go_grown) hb
    have Ha0 := Lib.hid hst
    clear hst
    dsimp only [Sh.val]
    clear hb hsw2 hPw2
    clear zsw1 zmw1 s0w1 s1w1 m0w1 m1w1
    go_wp2_with fail
    (go_at_call 15; refine (rtakeSheet_gen HR.out _ s _ _ Ea Na1 Na2 HXa.out HEa.out HNa1.out HNa2.out (HST.out.below (by first | assumption | go_grown))).mono ?_; rintro e_ w3 ⟨oa1, ca1, pa1, da1, rfl, hst, hb⟩)
    have hsw3 := hb.size
    (try simp only [World.size_alloc, World.size_setCell] at hsw3)
    have zzw3 : w.heap.size < w3.heap.size := by omega
    have hPw3 : Below w2.heap.size w2 w3 := below_step (w := w2) (by first | exact Below.refl _ _ | go_grown) hb
    have zsw3 : w.heap.size < w3.heap.size := by omega
    have s0w3 : w3.cell? ⟨w.heap.size, 0, none⟩ = some (.slice oa ns ca) := (hPw3.cell (p := ⟨_, _, none⟩) zsw2).trans s0w2
    have s1w3 : w3.cell? ⟨w.heap.size, 1, none⟩ = some (.slice ob nb cb) := (hPw3.cell (p := ⟨_, _, none⟩) zsw2).trans s1w2
    have zmw3 : w.heap.size + 1 < w3.heap.size := by omega
    have m0w3 : w3.cell? ⟨w.heap.size + 1, 0, none⟩ = some (.slice om m.ng cm) := (hPw3.cell (p := ⟨_, _, none⟩) zmw2).trans m0w2
    have m1w3 : w3.cell? ⟨w.heap.size + 1, 1, none⟩ = some (.slice ot m.ns ct) := (hPw3.cell (p := ⟨_, _, none⟩) zmw2).trans m1w2
    have za0w3 : w2.heap.size < w3.heap.size := by omega
    have a00w3 : w3.cell? ⟨w2.heap.size, 0, none⟩ = some (.slice oa0 Na1 ca0) := (hb.cell (p := ⟨_, _, none⟩) (by simp <;> omega)).trans (by simp [go_sem])
    have a01w3 : w3.cell? ⟨w2.heap.size, 1, none⟩ = some (.slice pa0 Na2 da0) := (hb.cell (p := ⟨_, _, none⟩) (by simp <;> omega)).trans (by simp [go_sem])
    have za0xw3 : w2.heap.size + 1 < w3.heap.size := by omega
    have a0x0w3 : w3.cell? ⟨w2.heap.size + 1, 0, none⟩ = some (.string Xa0) := (hb.cell (p := ⟨_, _, none⟩) (by simp <;> omega)).trans (by simp [go_sem])
    have a0x1w3 : w3.cell? ⟨w2.heap.size + 1, 1, none⟩ = some (.string Xa1) := (hb.cell (p := ⟨_, _, none⟩) (by simp <;> omega)).trans (by simp [go_sem])
    have a0x2w3 : w3.cell? ⟨w2.heap.size + 1, 2, none⟩ = some (.int .i64 Xa2) := (hb.cell (p := ⟨_, _, none⟩) (by simp <;> omega)).trans (by simp [go_sem])
    have a0x3w3 : w3.cell? ⟨w2.heap.size + 1, 3, none⟩ = some (.int .i64 Xa3) := (hb.cell (p := ⟨_, _, none⟩) (by simp <;> omega)).trans (by simp [go_sem])
    have a0x4w3 : w3.cell? ⟨w2.heap.size + 1, 4, none⟩ = some (.int .i64 Xa4) := (hb.cell (p := ⟨_, _, none⟩) (by simp <;> omega)).trans (by simp [go_sem])
    have a0x5w3 : w3.cell? ⟨w2.heap.size + 1, 5, none⟩ = some (.string Xa5) := (hb.cell (p := ⟨_, _, none⟩) (by simp <;> omega)).trans (by simp [go_sem])
    replace Ha0 := Lib.hid (Ha0.out.below hPw3)
    have hBw3 : Below w.heap.size w w3 := below_step (w := w) (by first | assumption | go_grown) hb
    have Ha1 := Lib.hid hst
    clear hst
    dsimp only [Sh.val]
    clear hb hsw3 hPw3
    clear zsw2 zmw2 s0w2 s1w2 m0w2 m1w2
    go_wp2_with fail
    (go_at_call 16; refine (takeBar_gen HR.out _ s _ _ Ec Nc1 Nc2 HXc.out HEc.out HNc1.out HNc2.out (HST.out.below (by first | assumption | go_grown))).mono ?_; rintro e_ w4 ⟨oc0, cc0, pc0, dc0, rfl, hst, hb⟩)
    have hsw4 := hb.size
    (try simp only [World.size_alloc, World.size_setCell] at hsw4)
    have zzw4 : w.heap.size < w4.heap.size := by omega
    have hPw4 : Below w3.heap.size w3 w4 := below_step (w := w3) (by first | exact Below.refl _ _ | go_grown) hb
    have zsw4 : w.heap.size < w4.heap.size := by omega
    have s0w4 : w4.cell? ⟨w.heap.size, 0, none⟩ = some (.slice oa ns ca) := (hPw4.cell (p := ⟨_, _, none⟩) zsw3).trans s0w3
    have s1w4 : w4.cell? ⟨w.heap.size, 1, none⟩ = some (.slice ob nb cb) := (hPw4.cell (p := ⟨_, _, none⟩) zsw3).trans s1w3
    have zmw4 : w.heap.size + 1 < w4.heap.size := by omega
    have m0w4 : w4.cell? ⟨w.heap.size + 1, 0, none⟩ = some (.slice om m.ng cm) := (hPw4.cell (p := ⟨_, _, none⟩) zmw3).trans m0w3
    have m1w4 : w4.cell? ⟨w.heap.size + 1, 1, none⟩ = some (.slice ot m.ns ct) := (hPw4.cell (p := ⟨_, _, none⟩) zmw3).trans m1w3
    have za0w4 : w2.heap.size < w4.heap.size := by omega
    have a00w4 : w4.cell? ⟨w2.heap.size, 0, none⟩ = some (.slice oa0 Na1 ca0) := (hPw4.cell (p := ⟨_, _, none⟩) za0w3).trans a00w3
    have a01w4 : w4.cell? ⟨w2.heap.size, 1, none⟩ = some (.slice pa0 Na2 da0) := (hPw4.cell (p := ⟨_, _, none⟩) za0w3).trans a01w3
    have za0xw4 : w2.heap.size + 1 < w4.heap.size := by omega
    have a0x0w4 : w4.cell? ⟨w2.heap.size + 1, 0, none⟩ = some (.string Xa0) := (hPw4.cell (p := ⟨_, _, none⟩) za0xw3).trans a0x0w3
    have a0x1w4 : w4.cell? ⟨w2.heap.size + 1, 1, none⟩ = some (.string Xa1) := (hPw4.cell (p := ⟨_, _, none⟩) za0xw3).trans a0x1w3
    have a0x2w4 : w4.cell? ⟨w2.heap.size + 1, 2, none⟩ = some (.int .i64 Xa2) := (hPw4.cell (p := ⟨_, _, none⟩) za0xw3).trans a0x2w3
    have a0x3w4 : w4.cell? ⟨w2.heap.size + 1, 3, none⟩ = some (.int .i64 Xa3) := (hPw4.cell (p := ⟨_, _, none⟩) za0xw3).trans a0x3w3
    have a0x4w4 : w4.cell? ⟨w2.heap.size + 1, 4, none⟩ = some (.int .i64 Xa4) := (hPw4.cell (p := ⟨_, _, none⟩) za0xw3).trans a0x4w3
    have a0x5w4 : w4.cell? ⟨w2.heap.size + 1, 5, none⟩ = some (.string Xa5) := (hPw4.cell (p := ⟨_, _, none⟩) za0xw3).trans a0x5w3
    have za1w4 : w3.heap.size < w4.heap.size := by omega
    have a10w4 : w4.cell? ⟨w3.heap.size, 0, none⟩ = some (.slice oa1 Na1 ca1) := (hb.cell (p := ⟨_, _, none⟩) (by simp <;> omega)).trans (by simp [go_sem])
    have a11w4 : w4.cell? ⟨w3.heap.size, 1, none⟩ = some (.slice pa1 Na2 da1) := (hb.cell (p := ⟨_, _, none⟩) (by simp <;> omega)).trans (by simp [go_sem])
    have za1xw4 : w3.heap.size + 1 < w4.heap.size := by omega
    have a1x0w4 : w4.cell? ⟨w3.heap.size + 1, 0, none⟩ = some (.string Xa0) := (hb.cell (p := ⟨_, _, none⟩) (by simp <;> omega)).trans (by simp [go_sem])
    have a1x1w4 : w4.cell? ⟨w3.heap.size + 1, 1, none⟩ = some (.string Xa1) := (hb.cell (p := ⟨_, _, none⟩) (by simp <;> omega)).trans (by simp [go_sem])
    have a1x2w4 : w4.cell? ⟨w3.heap.size + 1, 2, none⟩ = some (.int .i64 Xa2) := (hb.cell (p := ⟨_, _, none⟩) (by simp <;> omega)).trans (by simp [go_sem])
    have a1x3w4 : w4.cell? ⟨w3.heap.size + 1, 3, none⟩ = some (.int .i64 Xa3) := (hb.cell (p := ⟨_, _, none⟩) (by simp <;> omega)).trans (by simp [go_sem])
    have a1x4w4 : w4.cell? ⟨w3.heap.size + 1, 4, none⟩ = some (.int .i64 Xa4) := (hb.cell (p := ⟨_, _, none⟩) (by simp <;> omega)).trans (by simp [go_sem])
    have a1x5w4 : w4.cell? ⟨w3.heap.size + 1, 5, none⟩ = some (.string Xa5) := (hb.cell (p := ⟨_, _, none⟩) (by simp <;> omega)).trans (by simp [go_sem])
    replace Ha0 := Lib.hid (Ha0.out.below hPw4)
    replace Ha1 := Lib.hid (Ha1.out.below hPw4)
    have hBw4 : Below w.heap.size w w4 := below_step (w := w) (by first | assumption | go_grown) hb
    have Hc0 := Lib.hid hst
    clear hst
    dsimp only [Br.val]
    clear hb hsw4 hPw4
    clear zsw3 zmw3 za0w3 za0xw3 s0w3 s1w3 m0w3 m1w3 a00w3 a01w3 a0x0w3 a0x1w3 a0x2w3 a0x3w3 a0x4w3 a0x5w3
    go_wp2_with fail
    (go_at_call 17; refine (rtakeBar_gen HR.out _ s _ _ Ec Nc1 Nc2 HXc.out HEc.out HNc1.out HNc2.out (HST.out.below (by first | assumption | go_grown))).mono ?_; rintro e_ w5 ⟨oc1, cc1, pc1, dc1, rfl, hst, hb⟩)
    have hsw5 := hb.size
    (try simp only [World.size_alloc, World.size_setCell] at hsw5)
    have zzw5 : w.heap.size < w5.heap.size := by omega
    have hPw5 : Below w4.heap.size w4 w5 := below_step (w := w4) (by first | exact Below.refl _ _ | go_grown) hb
    have zsw5 : w.heap.size < w5.heap.size := by omega
    have s0w5 : w5.cell? ⟨w.heap.size, 0, none⟩ = some (.slice oa ns ca) := (hPw5.cell (p := ⟨_, _, none⟩) zsw4).trans s0w4
    have s1w5 : w5.cell? ⟨w.heap.size, 1, none⟩ = some (.slice ob nb cb) := (hPw5.cell (p := ⟨_, _, none⟩) zsw4).trans s1w4
    have zmw5 : w.heap.size + 1 < w5.heap.size := by omega
    have m0w5 : w5.cell? ⟨w.heap.size + 1, 0, none⟩ = some (.slice om m.ng cm) := (hPw5.cell (p := ⟨_, _, none⟩) zmw4).trans m0w4
    have m1w5 : w5.cell? ⟨w.heap.size + 1, 1, none⟩ = some (.slice ot m.ns ct) := (hPw5.cell (p := ⟨_, _, none⟩) zmw4).trans m1w4
    have za0w5 : w2.heap.size < w5.heap.size := by omega
    have a00w5 : w5.cell? ⟨w2.heap.size, 0, none⟩ = some (.slice oa0 Na1 ca0) := (hPw5.cell (p := ⟨_, _, none⟩) za0w4).trans a00w4
    have a01w5 : w5.cell? ⟨w2.heap.size, 1, none⟩ = some (.slice pa0 Na2 da0) := (hPw5.cell (p := ⟨_, _, none⟩) za0w4).trans a01w4
    have za0xw5 : w2.heap.size + 1 < w5.heap.size := by omega
    have a0x0w5 : w5.cell? ⟨w2.heap.size + 1, 0, none⟩ = some (.string Xa0) := (hPw5.cell (p := ⟨_, _, none⟩) za0xw4).trans a0x0w4
    have a0x1w5 : w5.cell? ⟨w2.heap.size + 1, 1, none⟩ = some (.string Xa1) := (hPw5.cell (p := ⟨_, _, none⟩) za0xw4).trans a0x1w4
    have a0x2w5 : w5.cell? ⟨w2.heap.size + 1, 2, none⟩ = some (.int .i64 Xa2) := (hPw5.cell (p := ⟨_, _, none⟩) za0xw4).trans a0x2w4
    have a0x3w5 : w5.cell? ⟨w2.heap.size + 1, 3, none⟩ = some (.int .i64 Xa3) := (hPw5.cell (p := ⟨_, _, none⟩) za0xw4).trans a0x3w4
    have a0x4w5 : w5.cell? ⟨w2.heap.size + 1, 4, none⟩ = some (.int .i64 Xa4) := (hPw5.cell (p := ⟨_, _, none⟩) za0xw4).trans a0x4w4
    have a0x5w5 : w5.cell? ⟨w2.heap.size + 1, 5, none⟩ = some (.string Xa5) := (hPw5.cell (p := ⟨_, _, none⟩) za0xw4).trans a0x5w4
    have za1w5 : w3.heap.size < w5.heap.size := by omega
    have a10w5 : w5.cell? ⟨w3.heap.size, 0, none⟩ = some (.slice oa1 Na1 ca1) := (hPw5.cell (p := ⟨_, _, none⟩) za1w4).trans a10w4
    have a11w5 : w5.cell? ⟨w3.heap.size, 1, none⟩ = some (.slice pa1 Na2 da1) := (hPw5.cell (p := ⟨_, _, none⟩) za1w4).trans a11w4
    have za1xw5 : w3.heap.size + 1 < w5.heap.size := by omega
    have a1x0w5 : w5.cell? ⟨w3.heap.size + 1, 0, none⟩ = some (.string Xa0) := (hPw5.cell (p := ⟨_, _, none⟩) za1xw4).trans a1x0w4
    have a1x1w5 : w5.cell? ⟨w3.heap.size + 1, 1, none⟩ = some (.string Xa1) := (hPw5.cell (p := ⟨_, _, none⟩) za1xw4).trans a1x1w4
    have a1x2w5 : w5.cell? ⟨w3.heap.size + 1, 2, none⟩ = some (.int .i64 Xa2) := (hPw5.cell (p := ⟨_, _, none⟩) za1xw4).trans a1x2w4
    have a1x3w5 : w5.cell? ⟨w3.heap.size + 1, 3, none⟩ = some (.int .i64 Xa3) := (hPw5.cell (p := ⟨_, _, none⟩) za1xw4).trans a1x3w4
    have a1x4w5 : w5.cell? ⟨w3.heap.size + 1, 4, none⟩ = some (.int .i64 Xa4) := (hPw5.cell (p := ⟨_, _, none⟩) za1xw4).trans a1x4w4
    have a1x5w5 : w5.cell? ⟨w3.heap.size + 1, 5, none⟩ = some (.string Xa5) := (hPw5.cell (p := ⟨_, _, none⟩) za1xw4).trans a1x5w4
    have zc0w5 : w4.heap.size < w5.heap.size := by omega
    have c00w5 : w5.cell? ⟨w4.heap.size, 0, none⟩ = some (.slice oc0 Nc1 cc0) := (hb.cell (p := ⟨_, _, none⟩) (by simp <;> omega)).trans (by simp [go_sem])
    have c01w5 : w5.cell? ⟨w4.heap.size, 1, none⟩ = some (.slice pc0 Nc2 dc0) := (hb.cell (p := ⟨_, _, none⟩) (by simp <;> omega)).trans (by simp [go_sem])
    have zc0xw5 : w4.heap.size + 1 < w5.heap.size := by omega
    have c0x0w5 : w5.cell? ⟨w4.heap.size + 1, 0, none⟩ = some (.string Xc0) := (hb.cell (p := ⟨_, _, none⟩) (by simp <;> omega)).trans (by simp [go_sem])
    have c0x1w5 : w5.cell? ⟨w4.heap.size + 1, 1, none⟩ = some (.string Xc1) := (hb.cell (p := ⟨_, _, none⟩) (by simp <;> omega)).trans (by simp [go_sem])
    have c0x2w5 : w5.cell? ⟨w4.heap.size + 1, 2, none⟩ = some (.string Xc2) := (hb.cell (p := ⟨_, _, none⟩) (by simp <;> omega)).trans (by simp [go_sem])
    have c0x3w5 : w5.cell? ⟨w4.heap.size + 1, 3, none⟩ = some (.int .i64 Xc3) := (hb.cell (p := ⟨_, _, none⟩) (by simp <;> omega)).trans (by simp [go_sem])
    have c0x4w5 : w5.cell? ⟨w4.heap.size + 1, 4, none⟩ = some (.string Xc4) := (hb.cell (p := ⟨_, _, none⟩) (by simp <;> omega)).trans (by simp [go_sem])
    replace Ha0 := Lib.hid (Ha0.out.below hPw5)
    replace Ha1 := Lib.hid (Ha1.out.below hPw5)
    replace Hc0 := Lib.hid (Hc0.out.below hPw5)
    have hBw5 : Below w.heap.size w w5 := below_step (w := w) (by first | assumption | go_grown) hb
    have Hc1 := Lib.hid hst
    clear hst
    dsimp only [Br.val]
    clear hb hsw5 hPw5
    clear zsw4 zmw4 za0w4 za0xw4 za1w4 za1xw4 s0w4 s1w4 m0w4 m1w4 a00w4 a01w4 a0x0w4 a0x1w4 a0x2w4 a0x3w4 a0x4w4 a0x5w4 a10w4 a11w4 a1x0w4 a1x1w4 a1x2w4 a1x3w4 a1x4w4 a1x5w4
    go_wp2_with fail
    (go_at_call 13; refine (rsame_self _ (Ha0.out.below (by first | exact Below.refl _ _ | go_grown)) (Ha1.out.below (by first | exact Below.refl _ _ | go_grown))).mono ?_; rintro e_ w6 ⟨rfl, hb⟩)
    have hsw6 := hb.size
    (try simp only [World.size_alloc, World.size_setCell] at hsw6)
    have zzw6 : w.heap.size < w6.heap.size := by omega
    have hPw6 : Below w5.heap.size w5 w6 := below_step (w := w5) (by first | exact Below.refl _ _ | go_grown) hb
    have zsw6 : w.heap.size < w6.heap.size := by omega
    have s0w6 : w6.cell? ⟨w.heap.size, 0, none⟩ = some (.slice oa ns ca) := (hPw6.cell (p := ⟨_, _, none⟩) zsw5).trans s0w5
    have s1w6 : w6.cell? ⟨w.heap.size, 1, none⟩ = some (.slice ob nb cb) := (hPw6.cell (p := ⟨_, _, none⟩) zsw5).trans s1w5
    have zmw6 : w.heap.size + 1 < w6.heap.size := by omega
    have m0w6 : w6.cell? ⟨w.heap.size + 1, 0, none⟩ = some (.slice om m.ng cm) := (hPw6.cell (p := ⟨_, _, none⟩) zmw5).trans m0w5
    have m1w6 : w6.cell? ⟨w.heap.size + 1, 1, none⟩ = some (.slice ot m.ns ct) := (hPw6.cell (p := ⟨_, _, none⟩) zmw5).trans m1w5
    have za0w6 : w2.heap.size < w6.heap.size := by omega
    have a00w6 : w6.cell? ⟨w2.heap.size, 0, none⟩ = some (.slice oa0 Na1 ca0) := (hPw6.cell (p := ⟨_, _, none⟩) za0w5).trans a00w5
    have a01w6 : w6.cell? ⟨w2.heap.size, 1, none⟩ = some (.slice pa0 Na2 da0) := (hPw6.cell (p := ⟨_, _, none⟩) za0w5).trans a01w5
    have za0xw6 : w2.heap.size + 1 < w6.heap.size := by omega
    have a0x0w6 : w6.cell? ⟨w2.heap.size + 1, 0, none⟩ = some (.string Xa0) := (hPw6.cell (p := ⟨_, _, none⟩) za0xw5).trans a0x0w5
    have a0x1w6 : w6.cell? ⟨w2.heap.size + 1, 1, none⟩ = some (.string Xa1) := (hPw6.cell (p := ⟨_, _, none⟩) za0xw5).trans a0x1w5
    have a0x2w6 : w6.cell? ⟨w2.heap.size + 1, 2, none⟩ = some (.int .i64 Xa2) := (hPw6.cell (p := ⟨_, _, none⟩) za0xw5).trans a0x2w5
    have a0x3w6 : w6.cell? ⟨w2.heap.size + 1, 3, none⟩ = some (.int .i64 Xa3) := (hPw6.cell (p := ⟨_, _, none⟩) za0xw5).trans a0x3w5
    have a0x4w6 : w6.cell? ⟨w2.heap.size + 1, 4, none⟩ = some (.int .i64 Xa4) := (hPw6.cell (p := ⟨_, _, none⟩) za0xw5).trans a0x4w5
    have a0x5w6 : w6.cell? ⟨w2.heap.size + 1, 5, none⟩ = some (.string Xa5) := (hPw6.cell (p := ⟨_, _, none⟩) za0xw5).trans a0x5w5
    have za1w6 : w3.heap.size < w6.heap.size := by omega
    have a10w6 : w6.cell? ⟨w3.heap.size, 0, none⟩ = some (.slice oa1 Na1 ca1) := (hPw6.cell (p := ⟨_, _, none⟩) za1w5).trans a10w5
    have a11w6 : w6.cell? ⟨w3.heap.size, 1, none⟩ = some (.slice pa1 Na2 da1) := (hPw6.cell (p := ⟨_, _, none⟩) za1w5).trans a11w5
    have za1xw6 : w3.heap.size + 1 < w6.heap.size := by omega
    have a1x0w6 : w6.cell? ⟨w3.heap.size + 1, 0, none⟩ = some (.string Xa0) := (hPw6.cell (p := ⟨_, _, none⟩) za1xw5).trans a1x0w5
    have a1x1w6 : w6.cell? ⟨w3.heap.size + 1, 1, none⟩ = some (.string Xa1) := (hPw6.cell (p := ⟨_, _, none⟩) za1xw5).trans a1x1w5
    have a1x2w6 : w6.cell? ⟨w3.heap.size + 1, 2, none⟩ = some (.int .i64 Xa2) := (hPw6.cell (p := ⟨_, _, none⟩) za1xw5).trans a1x2w5
    have a1x3w6 : w6.cell? ⟨w3.heap.size + 1, 3, none⟩ = some (.int .i64 Xa3) := (hPw6.cell (p := ⟨_, _, none⟩) za1xw5).trans a1x3w5
    have a1x4w6 : w6.cell? ⟨w3.heap.size + 1, 4, none⟩ = some (.int .i64 Xa4) := (hPw6.cell (p := ⟨_, _, none⟩) za1xw5).trans a1x4w5
    have a1x5w6 : w6.cell? ⟨w3.heap.size + 1, 5, none⟩ = some (.string Xa5) := (hPw6.cell (p := ⟨_, _, none⟩) za1xw5).trans a1x5w5
    have zc0w6 : w4.heap.size < w6.heap.size := by omega
    have c00w6 : w6.cell? ⟨w4.heap.size, 0, none⟩ = some (.slice oc0 Nc1 cc0) := (hPw6.cell (p := ⟨_, _, none⟩) zc0w5).trans c00w5
    have c01w6 : w6.cell? ⟨w4.heap.size, 1, none⟩ = some (.slice pc0 Nc2 dc0) := (hPw6.cell (p := ⟨_, _, none⟩) zc0w5).trans c01w5
    have zc0xw6 : w4.heap.size + 1 < w6.heap.size := by omega
    have c0x0w6 : w6.cell? ⟨w4.heap.size + 1, 0, none⟩ = some (.string Xc0) := (hPw6.cell (p := ⟨_, _, none⟩) zc0xw5).trans c0x0w5
    have c0x1w6 : w6.cell? ⟨w4.heap.size + 1, 1, none⟩ = some (.string Xc1) := (hPw6.cell (p := ⟨_, _, none⟩) zc0xw5).trans c0x1w5
    have c0x2w6 : w6.cell? ⟨w4.heap.size + 1, 2, none⟩ = some (.string Xc2) := (hPw6.cell (p := ⟨_, _, none⟩) zc0xw5).trans c0x2w5
    have c0x3w6 : w6.cell? ⟨w4.heap.size + 1, 3, none⟩ = some (.int .i64 Xc3) := (hPw6.cell (p := ⟨_, _, none⟩) zc0xw5).trans c0x3w5
    have c0x4w6 : w6.cell? ⟨w4.heap.size + 1, 4, none⟩ = some (.string Xc4) := (hPw6.cell (p := ⟨_, _, none⟩) zc0xw5).trans c0x4w5
    have zc1w6 : w5.heap.size < w6.heap.size := by omega
    have c10w6 : w6.cell? ⟨w5.heap.size, 0, none⟩ = some (.slice oc1 Nc1 cc1) := (hb.cell (p := ⟨_, _, none⟩) (by simp <;> omega)).trans (by simp [go_sem])
    have c11w6 : w6.cell? ⟨w5.heap.size, 1, none⟩ = some (.slice pc1 Nc2 dc1) := (hb.cell (p := ⟨_, _, none⟩) (by simp <;> omega)).trans (by simp [go_sem])
    have zc1xw6 : w5.heap.size + 1 < w6.heap.size := by omega
    have c1x0w6 : w6.cell? ⟨w5.heap.size + 1, 0, none⟩ = some (.string Xc0) := (hb.cell (p := ⟨_, _, none⟩) (by simp <;> omega)).trans (by simp [go_sem])
    have c1x1w6 : w6.cell? ⟨w5.heap.size + 1, 1, none⟩ = some (.string Xc1) := (hb.cell (p := ⟨_, _, none⟩) (by simp <;> omega)).trans (by simp [go_sem])
    have c1x2w6 : w6.cell? ⟨w5.heap.size + 1, 2, none⟩ = some (.string Xc2) := (hb.cell (p := ⟨_, _, none⟩) (by simp <;> omega)).trans (by simp [go_sem])
    have c1x3w6 : w6.cell? ⟨w5.heap.size + 1, 3, none⟩ = some (.int .i64 Xc3) := (hb.cell (p := ⟨_, _, none⟩) (by simp <;> omega)).trans (by simp [go_sem])
    have c1x4w6 : w6.cell? ⟨w5.heap.size + 1, 4, none⟩ = some (.string Xc4) := (hb.cell (p := ⟨_, _, none⟩) (by simp <;> omega)).trans (by simp [go_sem])
    replace Ha0 := Lib.hid (Ha0.out.below hPw6)
    replace Ha1 := Lib.hid (Ha1.out.below hPw6)
    replace Hc0 := Lib.hid (Hc0.out.below hPw6)
    replace Hc1 := Lib.hid (Hc1.out.below hPw6)
    have hBw6 : Below w.heap.size w w6 := below_step (w := w) (by first | assumption | go_grown) hb
    clear hb hsw6 hPw6
    clear zsw5 zmw5 za0w5 za0xw5 za1w5 za1xw5 zc0w5 zc0xw5 s0w5 s1w5 m0w5 m1w5 a00w5 a01w5 a0x0w5 a0x1w5 a0x2w5 a0x3w5 a0x4w5 a0x5w5 a10w5 a11w5 a1x0w5 a1x1w5 a1x2w5 a1x3w5 a1x4w5 a1x5w5 c00w5 c01w5 c0x0w5 c0x1w5 c0x2w5 c0x3w5 c0x4w5
    have heqa : ∀ W, (binOp .eql 31 (.agg #[.string Xa0, .string Xa1, .int .i64 Xa2, .int .i64 Xa3, .int .i64 Xa4, .string Xa5]) (.agg #[.string Xa0, .string Xa1, .int .i64 Xa2, .int .i64 Xa3, .int .i64 Xa4, .string Xa5])).run Tryz.prog W = .ok (.bool true) W := eql_self_Sheet ⟨Xa0, Xa1, Xa2, Xa3, Xa4, Xa5⟩
    have heqc : ∀ W, (binOp .eql 33 (.agg #[.string Xc0, .string Xc1, .string Xc2, .int .i64 Xc3, .string Xc4]) (.agg #[.string Xc0, .string Xc1, .string Xc2, .int .i64 Xc3, .string Xc4])).run Tryz.prog W = .ok (.bool true) W := eql_self_Bar ⟨Xc0, Xc1, Xc2, Xc3, Xc4⟩
    go_wp2_with fail
    (go_at_call 13; refine (rsame_self _ (Hc0.out.below (by first | exact Below.refl _ _ | go_grown)) (Hc1.out.below (by first | exact Below.refl _ _ | go_grown))).mono ?_; rintro e_ w7 ⟨rfl, hb⟩)
    have hsw7 := hb.size
    (try simp only [World.size_alloc, World.size_setCell] at hsw7)
    have zzw7 : w.heap.size < w7.heap.size := by omega
    have hPw7 : Below w6.heap.size w6 w7 := below_step (w := w6) (by first | exact Below.refl _ _ | go_grown) hb
    have zsw7 : w.heap.size < w7.heap.size := by omega
    have s0w7 : w7.cell? ⟨w.heap.size, 0, none⟩ = some (.slice oa ns ca) := (hPw7.cell (p := ⟨_, _, none⟩) zsw6).trans s0w6
    have s1w7 : w7.cell? ⟨w.heap.size, 1, none⟩ = some (.slice ob nb cb) := (hPw7.cell (p := ⟨_, _, none⟩) zsw6).trans s1w6
    have zmw7 : w.heap.size + 1 < w7.heap.size := by omega
    have m0w7 : w7.cell? ⟨w.heap.size + 1, 0, none⟩ = some (.slice om m.ng cm) := (hPw7.cell (p := ⟨_, _, none⟩) zmw6).trans m0w6
    have m1w7 : w7.cell? ⟨w.heap.size + 1, 1, none⟩ = some (.slice ot m.ns ct) := (hPw7.cell (p := ⟨_, _, none⟩) zmw6).trans m1w6
    have za0w7 : w2.heap.size < w7.heap.size := by omega
    have a00w7 : w7.cell? ⟨w2.heap.size, 0, none⟩ = some (.slice oa0 Na1 ca0) := (hPw7.cell (p := ⟨_, _, none⟩) za0w6).trans a00w6
    have a01w7 : w7.cell? ⟨w2.heap.size, 1, none⟩ = some (.slice pa0 Na2 da0) := (hPw7.cell (p := ⟨_, _, none⟩) za0w6).trans a01w6
    have za0xw7 : w2.heap.size + 1 < w7.heap.size := by omega
    have a0x0w7 : w7.cell? ⟨w2.heap.size + 1, 0, none⟩ = some (.string Xa0) := (hPw7.cell (p := ⟨_, _, none⟩) za0xw6).trans a0x0w6
    have a0x1w7 : w7.cell? ⟨w2.heap.size + 1, 1, none⟩ = some (.string Xa1) := (hPw7.cell (p := ⟨_, _, none⟩) za0xw6).trans a0x1w6
    have a0x2w7 : w7.cell? ⟨w2.heap.size + 1, 2, none⟩ = some (.int .i64 Xa2) := (hPw7.cell (p := ⟨_, _, none⟩) za0xw6).trans a0x2w6
    have a0x3w7 : w7.cell? ⟨w2.heap.size + 1, 3, none⟩ = some (.int .i64 Xa3) := (hPw7.cell (p := ⟨_, _, none⟩) za0xw6).trans a0x3w6
    have a0x4w7 : w7.cell? ⟨w2.heap.size + 1, 4, none⟩ = some (.int .i64 Xa4) := (hPw7.cell (p := ⟨_, _, none⟩) za0xw6).trans a0x4w6
    have a0x5w7 : w7.cell? ⟨w2.heap.size + 1, 5, none⟩ = some (.string Xa5) := (hPw7.cell (p := ⟨_, _, none⟩) za0xw6).trans a0x5w6
    have za1w7 : w3.heap.size < w7.heap.size := by omega
    have a10w7 : w7.cell? ⟨w3.heap.size, 0, none⟩ = some (.slice oa1 Na1 ca1) := (hPw7.cell (p := ⟨_, _, none⟩) za1w6).trans a10w6
    have a11w7 : w7.cell? ⟨w3.heap.size, 1, none⟩ = some (.slice pa1 Na2 da1) := (hPw7.cell (p := ⟨_, _, none⟩) za1w6).trans a11w6
    have za1xw7 : w3.heap.size + 1 < w7.heap.size := by omega
    have a1x0w7 : w7.cell? ⟨w3.heap.size + 1, 0, none⟩ = some (.string Xa0) := (hPw7.cell (p := ⟨_, _, none⟩) za1xw6).trans a1x0w6
    have a1x1w7 : w7.cell? ⟨w3.heap.size + 1, 1, none⟩ = some (.string Xa1) := (hPw7.cell (p := ⟨_, _, none⟩) za1xw6).trans a1x1w6
    have a1x2w7 : w7.cell? ⟨w3.heap.size + 1, 2, none⟩ = some (.int .i64 Xa2) := (hPw7.cell (p := ⟨_, _, none⟩) za1xw6).trans a1x2w6
    have a1x3w7 : w7.cell? ⟨w3.heap.size + 1, 3, none⟩ = some (.int .i64 Xa3) := (hPw7.cell (p := ⟨_, _, none⟩) za1xw6).trans a1x3w6
    have a1x4w7 : w7.cell? ⟨w3.heap.size + 1, 4, none⟩ = some (.int .i64 Xa4) := (hPw7.cell (p := ⟨_, _, none⟩) za1xw6).trans a1x4w6
    have a1x5w7 : w7.cell? ⟨w3.heap.size + 1, 5, none⟩ = some (.string Xa5) := (hPw7.cell (p := ⟨_, _, none⟩) za1xw6).trans a1x5w6
    have zc0w7 : w4.heap.size < w7.heap.size := by omega
    have c00w7 : w7.cell? ⟨w4.heap.size, 0, none⟩ = some (.slice oc0 Nc1 cc0) := (hPw7.cell (p := ⟨_, _, none⟩) zc0w6).trans c00w6
    have c01w7 : w7.cell? ⟨w4.heap.size, 1, none⟩ = some (.slice pc0 Nc2 dc0) := (hPw7.cell (p := ⟨_, _, none⟩) zc0w6).trans c01w6
    have zc0xw7 : w4.heap.size + 1 < w7.heap.size := by omega
    have c0x0w7 : w7.cell? ⟨w4.heap.size + 1, 0, none⟩ = some (.string Xc0) := (hPw7.cell (p := ⟨_, _, none⟩) zc0xw6).trans c0x0w6
    have c0x1w7 : w7.cell? ⟨w4.heap.size + 1, 1, none⟩ = some (.string Xc1) := (hPw7.cell (p := ⟨_, _, none⟩) zc0xw6).trans c0x1w6
    have c0x2w7 : w7.cell? ⟨w4.heap.size + 1, 2, none⟩ = some (.string Xc2) := (hPw7.cell (p := ⟨_, _, none⟩) zc0xw6).trans c0x2w6
    have c0x3w7 : w7.cell? ⟨w4.heap.size + 1, 3, none⟩ = some (.int .i64 Xc3) := (hPw7.cell (p := ⟨_, _, none⟩) zc0xw6).trans c0x3w6
    have c0x4w7 : w7.cell? ⟨w4.heap.size + 1, 4, none⟩ = some (.string Xc4) := (hPw7.cell (p := ⟨_, _, none⟩) zc0xw6).trans c0x4w6
    have zc1w7 : w5.heap.size < w7.heap.size := by omega
    have c10w7 : w7.cell? ⟨w5.heap.size, 0, none⟩ = some (.slice oc1 Nc1 cc1) := (hPw7.cell (p := ⟨_, _, none⟩) zc1w6).trans c10w6
    have c11w7 : w7.cell? ⟨w5.heap.size, 1, none⟩ = some (.slice pc1 Nc2 dc1) := (hPw7.cell (p := ⟨_, _, none⟩) zc1w6).trans c11w6
    have zc1xw7 : w5.heap.size + 1 < w7.heap.size := by omega
    have c1x0w7 : w7.cell? ⟨w5.heap.size + 1, 0, none⟩ = some (.string Xc0) := (hPw7.cell (p := ⟨_, _, none⟩) zc1xw6).trans c1x0w6
    have c1x1w7 : w7.cell? ⟨w5.heap.size + 1, 1, none⟩ = some (.string Xc1) := (hPw7.cell (p := ⟨_, _, none⟩) zc1xw6).trans c1x1w6
    have c1x2w7 : w7.cell? ⟨w5.heap.size + 1, 2, none⟩ = some (.string Xc2) := (hPw7.cell (p := ⟨_, _, none⟩) zc1xw6).trans c1x2w6
    have c1x3w7 : w7.cell? ⟨w5.heap.size + 1, 3, none⟩ = some (.int .i64 Xc3) := (hPw7.cell (p := ⟨_, _, none⟩) zc1xw6).trans c1x3w6
    have c1x4w7 : w7.cell? ⟨w5.heap.size + 1, 4, none⟩ = some (.string Xc4) := (hPw7.cell (p := ⟨_, _, none⟩) zc1xw6).trans c1x4w6
    replace Ha0 := Lib.hid (Ha0.out.below hPw7)
    replace Ha1 := Lib.hid (Ha1.out.below hPw7)
    replace Hc0 := Lib.hid (Hc0.out.below hPw7)
    replace Hc1 := Lib.hid (Hc1.out.below hPw7)
    have hBw7 : Below w.heap.size w w7 := below_step (w := w) (by first | assumption | go_grown) hb
    clear hb hsw7 hPw7
    clear zsw6 zmw6 za0w6 za0xw6 za1w6 za1xw6 zc0w6 zc0xw6 zc1w6 zc1xw6 s0w6 s1w6 m0w6 m1w6 a00w6 a01w6 a0x0w6 a0x1w6 a0x2w6 a0x3w6 a0x4w6 a0x5w6 a10w6 a11w6 a1x0w6 a1x1w6 a1x2w6 a1x3w6 a1x4w6 a1x5w6 c00w6 c01w6 c0x0w6 c0x1w6 c0x2w6 c0x3w6 c0x4w6 c10w6 c11w6 c1x0w6 c1x1w6 c1x2w6 c1x3w6 c1x4w6
    go_wp2_with fail
    (go_at_call 8; refine (awake_any _ (HML.out.below (by first | assumption | go_grown))).mono ?_; rintro e_ w8 ⟨rfl, hb⟩)
    have hsw8 := hb.size
    (try simp only [World.size_alloc, World.size_setCell] at hsw8)
    have zzw8 : w.heap.size < w8.heap.size := by omega
    have hPw8 : Below w7.heap.size w7 w8 := below_step (w := w7) (by first | exact Below.refl _ _ | go_grown) hb
    have zsw8 : w.heap.size < w8.heap.size := by omega
    have s0w8 : w8.cell? ⟨w.heap.size, 0, none⟩ = some (.slice oa ns ca) := (hPw8.cell (p := ⟨_, _, none⟩) zsw7).trans s0w7
    have s1w8 : w8.cell? ⟨w.heap.size, 1, none⟩ = some (.slice ob nb cb) := (hPw8.cell (p := ⟨_, _, none⟩) zsw7).trans s1w7
    have zmw8 : w.heap.size + 1 < w8.heap.size := by omega
    have m0w8 : w8.cell? ⟨w.heap.size + 1, 0, none⟩ = some (.slice om m.ng cm) := (hPw8.cell (p := ⟨_, _, none⟩) zmw7).trans m0w7
    have m1w8 : w8.cell? ⟨w.heap.size + 1, 1, none⟩ = some (.slice ot m.ns ct) := (hPw8.cell (p := ⟨_, _, none⟩) zmw7).trans m1w7
    have za0w8 : w2.heap.size < w8.heap.size := by omega
    have a00w8 : w8.cell? ⟨w2.heap.size, 0, none⟩ = some (.slice oa0 Na1 ca0) := (hPw8.cell (p := ⟨_, _, none⟩) za0w7).trans a00w7
    have a01w8 : w8.cell? ⟨w2.heap.size, 1, none⟩ = some (.slice pa0 Na2 da0) := (hPw8.cell (p := ⟨_, _, none⟩) za0w7).trans a01w7
    have za0xw8 : w2.heap.size + 1 < w8.heap.size := by omega
    have a0x0w8 : w8.cell? ⟨w2.heap.size + 1, 0, none⟩ = some (.string Xa0) := (hPw8.cell (p := ⟨_, _, none⟩) za0xw7).trans a0x0w7
    have a0x1w8 : w8.cell? ⟨w2.heap.size + 1, 1, none⟩ = some (.string Xa1) := (hPw8.cell (p := ⟨_, _, none⟩) za0xw7).trans a0x1w7
    have a0x2w8 : w8.cell? ⟨w2.heap.size + 1, 2, none⟩ = some (.int .i64 Xa2) := (hPw8.cell (p := ⟨_, _, none⟩) za0xw7).trans a0x2w7
    have a0x3w8 : w8.cell? ⟨w2.heap.size + 1, 3, none⟩ = some (.int .i64 Xa3) := (hPw8.cell (p := ⟨_, _, none⟩) za0xw7).trans a0x3w7
    have a0x4w8 : w8.cell? ⟨w2.heap.size + 1, 4, none⟩ = some (.int .i64 Xa4) := (hPw8.cell (p := ⟨_, _, none⟩) za0xw7).trans a0x4w7
    have a0x5w8 : w8.cell? ⟨w2.heap.size + 1, 5, none⟩ = some (.string Xa5) := (hPw8.cell (p := ⟨_, _, none⟩) za0xw7).trans a0x5w7
    have za1w8 : w3.heap.size < w8.heap.size := by omega
    have a10w8 : w8.cell? ⟨w3.heap.size, 0, none⟩ = some (.slice oa1 Na1 ca1) := (hPw8.cell (p := ⟨_, _, none⟩) za1w7).trans a10w7
    have a11w8 : w8.cell? ⟨w3.heap.size, 1, none⟩ = some (.slice pa1 Na2 da1) := (hPw8.cell (p := ⟨_, _, none⟩) za1w7).trans a11w7
    have za1xw8 : w3.heap.size + 1 < w8.heap.size := by omega
    have a1x0w8 : w8.cell? ⟨w3.heap.size + 1, 0, none⟩ = some (.string Xa0) := (hPw8.cell (p := ⟨_, _, none⟩) za1xw7).trans a1x0w7
    have a1x1w8 : w8.cell? ⟨w3.heap.size + 1, 1, none⟩ = some (.string Xa1) := (hPw8.cell (p := ⟨_, _, none⟩) za1xw7).trans a1x1w7
    have a1x2w8 : w8.cell? ⟨w3.heap.size + 1, 2, none⟩ = some (.int .i64 Xa2) := (hPw8.cell (p := ⟨_, _, none⟩) za1xw7).trans a1x2w7
    have a1x3w8 : w8.cell? ⟨w3.heap.size + 1, 3, none⟩ = some (.int .i64 Xa3) := (hPw8.cell (p := ⟨_, _, none⟩) za1xw7).trans a1x3w7
    have a1x4w8 : w8.cell? ⟨w3.heap.size + 1, 4, none⟩ = some (.int .i64 Xa4) := (hPw8.cell (p := ⟨_, _, none⟩) za1xw7).trans a1x4w7
    have a1x5w8 : w8.cell? ⟨w3.heap.size + 1, 5, none⟩ = some (.string Xa5) := (hPw8.cell (p := ⟨_, _, none⟩) za1xw7).trans a1x5w7
    have zc0w8 : w4.heap.size < w8.heap.size := by omega
    have c00w8 : w8.cell? ⟨w4.heap.size, 0, none⟩ = some (.slice oc0 Nc1 cc0) := (hPw8.cell (p := ⟨_, _, none⟩) zc0w7).trans c00w7
    have c01w8 : w8.cell? ⟨w4.heap.size, 1, none⟩ = some (.slice pc0 Nc2 dc0) := (hPw8.cell (p := ⟨_, _, none⟩) zc0w7).trans c01w7
    have zc0xw8 : w4.heap.size + 1 < w8.heap.size := by omega
    have c0x0w8 : w8.cell? ⟨w4.heap.size + 1, 0, none⟩ = some (.string Xc0) := (hPw8.cell (p := ⟨_, _, none⟩) zc0xw7).trans c0x0w7
    have c0x1w8 : w8.cell? ⟨w4.heap.size + 1, 1, none⟩ = some (.string Xc1) := (hPw8.cell (p := ⟨_, _, none⟩) zc0xw7).trans c0x1w7
    have c0x2w8 : w8.cell? ⟨w4.heap.size + 1, 2, none⟩ = some (.string Xc2) := (hPw8.cell (p := ⟨_, _, none⟩) zc0xw7).trans c0x2w7
    have c0x3w8 : w8.cell? ⟨w4.heap.size + 1, 3, none⟩ = some (.int .i64 Xc3) := (hPw8.cell (p := ⟨_, _, none⟩) zc0xw7).trans c0x3w7
    have c0x4w8 : w8.cell? ⟨w4.heap.size + 1, 4, none⟩ = some (.string Xc4) := (hPw8.cell (p := ⟨_, _, none⟩) zc0xw7).trans c0x4w7
    have zc1w8 : w5.heap.size < w8.heap.size := by omega
    have c10w8 : w8.cell? ⟨w5.heap.size, 0, none⟩ = some (.slice oc1 Nc1 cc1) := (hPw8.cell (p := ⟨_, _, none⟩) zc1w7).trans c10w7
    have c11w8 : w8.cell? ⟨w5.heap.size, 1, none⟩ = some (.slice pc1 Nc2 dc1) := (hPw8.cell (p := ⟨_, _, none⟩) zc1w7).trans c11w7
    have zc1xw8 : w5.heap.size + 1 < w8.heap.size := by omega
    have c1x0w8 : w8.cell? ⟨w5.heap.size + 1, 0, none⟩ = some (.string Xc0) := (hPw8.cell (p := ⟨_, _, none⟩) zc1xw7).trans c1x0w7
    have c1x1w8 : w8.cell? ⟨w5.heap.size + 1, 1, none⟩ = some (.string Xc1) := (hPw8.cell (p := ⟨_, _, none⟩) zc1xw7).trans c1x1w7
    have c1x2w8 : w8.cell? ⟨w5.heap.size + 1, 2, none⟩ = some (.string Xc2) := (hPw8.cell (p := ⟨_, _, none⟩) zc1xw7).trans c1x2w7
    have c1x3w8 : w8.cell? ⟨w5.heap.size + 1, 3, none⟩ = some (.int .i64 Xc3) := (hPw8.cell (p := ⟨_, _, none⟩) zc1xw7).trans c1x3w7
    have c1x4w8 : w8.cell? ⟨w5.heap.size + 1, 4, none⟩ = some (.string Xc4) := (hPw8.cell (p := ⟨_, _, none⟩) zc1xw7).trans c1x4w7
    replace Ha0 := Lib.hid (Ha0.out.below hPw8)
    replace Ha1 := Lib.hid (Ha1.out.below hPw8)
    replace Hc0 := Lib.hid (Hc0.out.below hPw8)
    replace Hc1 := Lib.hid (Hc1.out.below hPw8)
    have hBw8 : Below w.heap.size w w8 := below_step (w := w) (by first | assumption | go_grown) hb
    clear hb hsw8 hPw8
    clear zsw7 zmw7 za0w7 za0xw7 za1w7 za1xw7 zc0w7 zc0xw7 zc1w7 zc1xw7 s0w7 s1w7 m0w7 m1w7 a00w7 a01w7 a0x0w7 a0x1w7 a0x2w7 a0x3w7 a0x4w7 a0x5w7 a10w7 a11w7 a1x0w7 a1x1w7 a1x2w7 a1x3w7 a1x4w7 a1x5w7 c00w7 c01w7 c0x0w7 c0x1w7 c0x2w7 c0x3w7 c0x4w7 c10w7 c11w7 c1x0w7 c1x1w7 c1x2w7 c1x3w7 c1x4w7
    go_wp2
    go_returns
    exact ⟨rfl, by assumption⟩

set_option maxRecDepth 100000 in
theorem stockTakes_contract (H : Type) (enc : TypeId × Value → H) (W : World) (base : Nat) (args : Array Value) (ds gs : List (DataW H)) (before : List MemPlace)
    (hval : ∀ (j : Nat) t v, Tryz.f4.params[j]? = some t → args[j]? = some v → Value.okWide Tryz.prog W .any base t v)
    (hW : DataW.Whole enc Tryz.prog Tryz.f4.params.toList Rows.stockTakesSpec.vars false W args.toList ds gs before) (hL : laidMetH Tryz.prog Rows.stockTakesRow.laid W) (hSh : W.ShapedOpen Tryz.prog) :
    Calls Tryz.prog 4 args W fun e W' => ∃ v, e = .returned v ∧ Rows.stockTakesSpec.post enc Tryz.prog Tryz.f4 false true false false W args v W' := by
  have hW' := hW
  obtain ⟨p, q, hA0, hV, rfl, hfz, hnd⟩ := hW
  have hA : DataW.TrodAll enc Tryz.prog W 0 (fun _ => true) true Tryz.f4.params.toList args.toList ds p := hA0
  rw [Tryz.params4] at hA hval
  obtain ⟨v0, vs0, d0, ds0, p0, q0, hargs, rfl, rfl, h0, r0⟩ := trodAll_cons hA
  obtain ⟨v1, vs1, d1, ds1, p1, q1, rfl, rfl, rfl, h1, r1⟩ := trodAll_cons r0
  obtain ⟨v2, vs2, d2, ds2, p2, q2, rfl, rfl, rfl, h2, r2⟩ := trodAll_cons r1
  obtain ⟨rfl, rfl, rfl⟩ := trodAll_nil r2
  obtain rfl : args = #[v0, v1, v2] := by cases args; simp_all
  obtain ⟨ns0, es0, nb0, eb0, hst0⟩ := stock_arg (hval 0 25 v0 rfl rfl) h0
  obtain ⟨vg, vs, m, gv, rfl, hG, hS⟩ := mat_arg (hval 1 29 v1 rfl rfl) h1
  obtain ⟨s, rfl, -, -, -⟩ := Go.ChangeMaps.open_string Tryz.underlying9 (hval 2 9 v2 rfl rfl) h2
  refine (stockTakes_walk _ ns0 es0 nb0 eb0 vg vs m gv s W hst0 hG hS (maxLen_of W hSh)).mono fun e W' ⟨he, hb⟩ => ?_
  subst he
  exact ⟨_, rfl, law_post laidOut (by kernel_rfl) (by kernel_rfl) Tryz.underlying4 rfl hW' (fun _ => rfl) hb⟩
theorem stockTakes_laid (os : Os) : laidMet Tryz.prog Rows.stockTakesRow.laid ((laidWorld os).forCall (fun _ _ => 0) ⟨#[], #[.agg #[.slice none 0 0, .slice none 0 0], .agg #[.slice none 0 0, .slice none 0 0], .string ⟨#[]⟩], []⟩).memory := laidMet_of_run' 8 (by kernel_rfl) (by kernel_rfl)
theorem stockTakes_reads (os : Os) {H : Type} (enc : TypeId × Value → H) : ∃ places, DataW.whole enc Tryz.prog ((laidWorld os).forCall (fun _ _ => 0) ⟨#[], #[.agg #[.slice none 0 0, .slice none 0 0], .agg #[.slice none 0 0, .slice none 0 0], .string ⟨#[]⟩], []⟩).memory Tryz.f4.params.toList Rows.stockTakesSpec.vars false (#[.agg #[.slice none 0 0, .slice none 0 0], .agg #[.slice none 0 0, .slice none 0 0], .string ⟨#[]⟩] : Array Value).toList 8 = some ([.agg [.nil, .nil], .agg [.nil, .nil], .lit (.string [])], [], places) := ⟨[], by kernel_rfl⟩
set_option maxRecDepth 100000 in
theorem stockTakes_lifted (os : Os) (started : os.Started) (H : Type) (enc : TypeId × Value → H) (F : Stop.Interp) :
    ReturnsInHanded {} Tryz.checked os 4 .any ((OpenSpec.ofChange Rows.stockTakesSpec).preRow enc Tryz.prog Tryz.f4 Rows.stockTakesRow.domain false Rows.stockTakesRow.laid) (((OpenSpec.ofChange Rows.stockTakesSpec).at F).post enc Tryz.prog Tryz.f4 false true false false) := by
  obtain ⟨places, hx⟩ := stockTakes_reads os enc
  refine returnsInHanded_of_row (C := Tryz.checked) (s := OpenSpec.ofChange Rows.stockTakesSpec) own started (by kernel_rfl) Tryz.func4
    (witness_row_at (enc := enc) (C := Tryz.checked) false (laidWorld os) #[.agg #[.slice none 0 0, .slice none 0 0], .agg #[.slice none 0 0, .slice none 0 0], .string ⟨#[]⟩] rfl (by kernel_rfl) (by kernel_rfl) (by kernel_rfl)
      (OpenSpec.preRow_of_cond 8 hx (by kernel_rfl) (fun k hk => by cases hk) (by kernel_rfl) (stockTakes_laid os))) ?_
  intro W base args ds gs before hval hW _ _ _ hL hSh _
  exact stockTakes_contract H enc W base args ds gs before hval hW hL hSh
theorem stockTakes_said : Rows.StockTakesSaid :=
  OpenClaim.holds_of_cond 4 Tryz.f4 rfl rfl rfl rfl rfl rfl rfl ⟨rfl, rfl, rfl, rfl, rfl⟩ rfl rfl rfl rfl rfl (by kernel_rfl) Tryz.func4 (by kernel_rfl)
    (of_decide_eq_true (by kernel_rfl)) (by unfold Func.isWrapper; rw [if_neg (of_decide_eq_false (by kernel_rfl))]; exact ⟨rfl, rfl⟩)
    (fun os started H enc _ F => by rw [OpenClaim.pre_eq_preRow]; exact stockTakes_lifted os started H enc F)
theorem stockTakes_plain (f : FuncId) (fn : Func) (hf : Tryz.pinned.checked.prog.funcNamed "shipyard/shipyardlaw29.StockTakes" = some f) (hfn : Tryz.pinned.checked.prog.funcs[f]? = some fn) :
    false = Tryz.pinned.checked.prog.looks [] ∧ ∀ (j : Nat) t, fn.params[j]? = some t → Tryz.pinned.checked.prog.wantsStandIn t = false := by
  obtain rfl : f = 4 := Option.some.inj ((show Tryz.prog.funcNamed "shipyard/shipyardlaw29.StockTakes" = some 4 by kernel_rfl).symm.trans hf) |>.symm
  obtain rfl : fn = Tryz.f4 := (Option.some.inj (Tryz.func4.symm.trans hfn)).symm
  refine ⟨by kernel_rfl, fun j t ht => ?_⟩
  rw [Tryz.params4] at ht
  have hm : t ∈ [25, 29, 9] := by simpa using Array.mem_of_getElem? ht
  have hall : ([25, 29, 9].all fun u => !Tryz.prog.wantsStandIn u) = true := by kernel_rfl
  exact (show Tryz.prog.wantsStandIn t = false by simpa using List.all_eq_true.1 hall t hm)
/-- the card -/
theorem stockTakes_card : Rows.StockTakesCardSaid :=
  Claim7.holds_tied_plain_at .later [] _ _ _ _ stockTakes_said (fun _ h => by cases h) (by kernel_rfl) (fun _ h => by cases h) stockTakes_row_tie rfl ⟨rfl, rfl⟩ (by kernel_rfl) rfl stockTakes_plain (by kernel_rfl)
#print axioms stockTakes_card
end Go.Proofs.YtiddpaaihloopaaGreatDoor
