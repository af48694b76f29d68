/-
  TakeSheet and TakeBar, by walks. Conditions: an ascending stock of at most 10^6 elements. By an AI agent.
-/
import Derived.Test.YtiddpaaihloopaaDoorStA
namespace Go.Proofs.YtiddpaaihloopaaDoor
open Go Go.ChangeShapes Go.WideShapes Go.RowKit Go.ChangeAt
set_option linter.unusedVariables false
set_option linter.unusedSimpArgs false
set_option maxRecDepth 100000

set_option maxHeartbeats 8000000 in
theorem TakeSheet_any (v : Value) (ns : Nat) (es : Nat → Sh) (nb : Nat) (eb : Nat → Br) (s : ByteArray) (w : World) (h : StAt w v ns es nb eb) (n1 : ns ≤ 1000000) (n2 : nb ≤ 1000000) (ha : AscB Sh.id es ns) :
    Calls Tryd.prog 17 #[v, .string s] w fun e w' => ∃ v', e = .returned (.tuple #[v', (takeV Sh.id Sh.none es ns s).val, .int .i64 (takeE Sh.id es ns s)]) ∧ StAt w' v' (if takeE Sh.id es ns s = 0 then ns - 1 else 0) (delF es (placeI Sh.id es ns s)) (if takeE Sh.id es ns s = 0 then nb else 0) eb ∧ Below w.heap.size w w' := by
  have HASC := Lib.hid ha
  have HST := Lib.hid h
  obtain ⟨va, vb, rfl, hSh, hBr⟩ := h
  have HSH := Lib.hid hSh
  have HBR := Lib.hid hBr
  obtain ⟨oa, ca, rfl, hna, hca, hela⟩ := hSh.form
  obtain ⟨ob, cb, rfl, hnb, hcb, helb⟩ := hBr.form
  obtain ⟨X, hX⟩ : ∃ X, takeV Sh.id Sh.none es ns s = X := ⟨_, rfl⟩
  obtain ⟨TE, hTE⟩ : ∃ TE, takeE Sh.id es ns s = TE := ⟨_, rfl⟩
  obtain ⟨NN, hNN⟩ : ∃ NN, (if TE = 0 then ns - 1 else 0) = NN := ⟨_, rfl⟩
  obtain ⟨NS, hNS⟩ : ∃ NS, (if TE = 0 then ns - 1 else 0) = NS := ⟨_, rfl⟩
  obtain ⟨NB, hNB⟩ : ∃ NB, (if TE = 0 then nb else 0) = NB := ⟨_, rfl⟩
  rw [hX, hTE, hNS, hNB]
  have HX := Lib.hid hX
  have HTE := Lib.hid hTE
  have HNN := Lib.hid hNN
  have HNS := Lib.hid hNS
  have HNB := Lib.hid hNB
  clear hSh hBr ha hela helb hX hTE hNN hNS hNB
  obtain ⟨id', grade', thick', len', wid', heat'⟩ := X
  go_enter Tryd.func17, Tryd.ntmps17
  go_wp2_with fail
  (go_at_call 25; refine (shelf_Sheet _ _ oa ob ns ca nb cb _ rfl rfl).mono ?_; rintro e w1 ⟨rfl, hb⟩)
  have HB1 : Hid (Below w.heap.size w w1) := by
    show Below _ _ _
    exact below_step (w := w) (by go_grown) hb
  have hs1 := hb.size
  (try simp only [World.size_alloc, World.size_setCell] at hs1)
  have z0 : w.heap.size < w1.heap.size := by omega
  have z1 : w.heap.size + 1 < w1.heap.size := by omega
  have z2 : w.heap.size + 1 + 1 < w1.heap.size := by omega
  have s0 : w1.cell? ⟨w.heap.size, 0, none⟩ = some (.slice oa ns ca) := (hb.cell (p := ⟨_, _, none⟩) (by simp <;> omega)).trans (by simp [go_sem])
  have s1 : w1.cell? ⟨w.heap.size, 1, none⟩ = some (.slice ob nb cb) := (hb.cell (p := ⟨_, _, none⟩) (by simp <;> omega)).trans (by simp [go_sem])
  have r0 : w1.cell? ⟨w.heap.size + 1, 0, none⟩ = some (.slice none 0 0) := (hb.cell (p := ⟨_, _, none⟩) (by simp <;> omega)).trans (by simp [go_sem])
  have rf0 : w1.frozen? ⟨w.heap.size + 1, 0, none⟩ = false := (hb.frozen (p := ⟨_, _, none⟩) (by simp <;> omega)).trans (by simp [go_sem])
  have r1 : w1.cell? ⟨w.heap.size + 1, 1, none⟩ = some (.slice none 0 0) := (hb.cell (p := ⟨_, _, none⟩) (by simp <;> omega)).trans (by simp [go_sem])
  have rf1 : w1.frozen? ⟨w.heap.size + 1, 1, none⟩ = false := (hb.frozen (p := ⟨_, _, none⟩) (by simp <;> omega)).trans (by simp [go_sem])
  have x0 : w1.cell? ⟨w.heap.size + 1 + 1, 0, none⟩ = some (.string ⟨#[]⟩) := (hb.cell (p := ⟨_, _, none⟩) (by simp <;> omega)).trans (by simp [go_sem])
  have xf0 : w1.frozen? ⟨w.heap.size + 1 + 1, 0, none⟩ = false := (hb.frozen (p := ⟨_, _, none⟩) (by simp <;> omega)).trans (by simp [go_sem])
  have x1 : w1.cell? ⟨w.heap.size + 1 + 1, 1, none⟩ = some (.string ⟨#[]⟩) := (hb.cell (p := ⟨_, _, none⟩) (by simp <;> omega)).trans (by simp [go_sem])
  have xf1 : w1.frozen? ⟨w.heap.size + 1 + 1, 1, none⟩ = false := (hb.frozen (p := ⟨_, _, none⟩) (by simp <;> omega)).trans (by simp [go_sem])
  have x2 : w1.cell? ⟨w.heap.size + 1 + 1, 2, none⟩ = some (.int .i64 0) := (hb.cell (p := ⟨_, _, none⟩) (by simp <;> omega)).trans (by simp [go_sem])
  have xf2 : w1.frozen? ⟨w.heap.size + 1 + 1, 2, none⟩ = false := (hb.frozen (p := ⟨_, _, none⟩) (by simp <;> omega)).trans (by simp [go_sem])
  have x3 : w1.cell? ⟨w.heap.size + 1 + 1, 3, none⟩ = some (.int .i64 0) := (hb.cell (p := ⟨_, _, none⟩) (by simp <;> omega)).trans (by simp [go_sem])
  have xf3 : w1.frozen? ⟨w.heap.size + 1 + 1, 3, none⟩ = false := (hb.frozen (p := ⟨_, _, none⟩) (by simp <;> omega)).trans (by simp [go_sem])
  have x4 : w1.cell? ⟨w.heap.size + 1 + 1, 4, none⟩ = some (.int .i64 0) := (hb.cell (p := ⟨_, _, none⟩) (by simp <;> omega)).trans (by simp [go_sem])
  have xf4 : w1.frozen? ⟨w.heap.size + 1 + 1, 4, none⟩ = false := (hb.frozen (p := ⟨_, _, none⟩) (by simp <;> omega)).trans (by simp [go_sem])
  have x5 : w1.cell? ⟨w.heap.size + 1 + 1, 5, none⟩ = some (.string ⟨#[]⟩) := (hb.cell (p := ⟨_, _, none⟩) (by simp <;> omega)).trans (by simp [go_sem])
  have xf5 : w1.frozen? ⟨w.heap.size + 1 + 1, 5, none⟩ = false := (hb.frozen (p := ⟨_, _, none⟩) (by simp <;> omega)).trans (by simp [go_sem])
  clear hs1 hb
  go_wp2_with fail
  (go_at_call 39; refine (take_Sheet _ ns es s _ (HSH.out.below HB1.out) HASC.out n1).mono ?_; rintro e w2 ⟨v7, rfl, hat, hnw, hb⟩)
  rw [HTE.out, HX.out]
  rw [HTE.out] at hat
  dsimp only [Sh.val]
  rw [HNN.out] at hat
  have HA := Lib.hid hat
  have HN := Lib.hid (hnw.mono (by omega : w.heap.size + 1 + 1 + 1 ≤ w1.heap.size))
  obtain ⟨o7, c7, rfl, -, -, -⟩ := hat.form
  have HB2 : Hid (Below w.heap.size w w2) := below_step HB1.out hb
  have HBX2 : Hid (Below w1.heap.size w1 w2) := hb
  have hs2 := hb.size
  have y0 : w.heap.size < w2.heap.size := by omega
  have y1 : w.heap.size + 1 < w2.heap.size := by omega
  have y2 : w.heap.size + 1 + 1 < w2.heap.size := by omega
  have t0 : w2.cell? ⟨w.heap.size, 0, none⟩ = some (.slice oa ns ca) := (hb.cell (p := ⟨_, _, none⟩) z0).trans s0
  have t1 : w2.cell? ⟨w.heap.size, 1, none⟩ = some (.slice ob nb cb) := (hb.cell (p := ⟨_, _, none⟩) z0).trans s1
  have u0 : w2.cell? ⟨w.heap.size + 1, 0, none⟩ = some (.slice none 0 0) := (hb.cell (p := ⟨_, _, none⟩) z1).trans r0
  have uf0 : w2.frozen? ⟨w.heap.size + 1, 0, none⟩ = false := (hb.frozen (p := ⟨_, _, none⟩) z1).trans rf0
  have u1 : w2.cell? ⟨w.heap.size + 1, 1, none⟩ = some (.slice none 0 0) := (hb.cell (p := ⟨_, _, none⟩) z1).trans r1
  have uf1 : w2.frozen? ⟨w.heap.size + 1, 1, none⟩ = false := (hb.frozen (p := ⟨_, _, none⟩) z1).trans rf1
  have v0 : w2.cell? ⟨w.heap.size + 1 + 1, 0, none⟩ = some (.string ⟨#[]⟩) := (hb.cell (p := ⟨_, _, none⟩) z2).trans x0
  have vf0 : w2.frozen? ⟨w.heap.size + 1 + 1, 0, none⟩ = false := (hb.frozen (p := ⟨_, _, none⟩) z2).trans xf0
  have v1 : w2.cell? ⟨w.heap.size + 1 + 1, 1, none⟩ = some (.string ⟨#[]⟩) := (hb.cell (p := ⟨_, _, none⟩) z2).trans x1
  have vf1 : w2.frozen? ⟨w.heap.size + 1 + 1, 1, none⟩ = false := (hb.frozen (p := ⟨_, _, none⟩) z2).trans xf1
  have v2 : w2.cell? ⟨w.heap.size + 1 + 1, 2, none⟩ = some (.int .i64 0) := (hb.cell (p := ⟨_, _, none⟩) z2).trans x2
  have vf2 : w2.frozen? ⟨w.heap.size + 1 + 1, 2, none⟩ = false := (hb.frozen (p := ⟨_, _, none⟩) z2).trans xf2
  have v3 : w2.cell? ⟨w.heap.size + 1 + 1, 3, none⟩ = some (.int .i64 0) := (hb.cell (p := ⟨_, _, none⟩) z2).trans x3
  have vf3 : w2.frozen? ⟨w.heap.size + 1 + 1, 3, none⟩ = false := (hb.frozen (p := ⟨_, _, none⟩) z2).trans xf3
  have v4 : w2.cell? ⟨w.heap.size + 1 + 1, 4, none⟩ = some (.int .i64 0) := (hb.cell (p := ⟨_, _, none⟩) z2).trans x4
  have vf4 : w2.frozen? ⟨w.heap.size + 1 + 1, 4, none⟩ = false := (hb.frozen (p := ⟨_, _, none⟩) z2).trans xf4
  have v5 : w2.cell? ⟨w.heap.size + 1 + 1, 5, none⟩ = some (.string ⟨#[]⟩) := (hb.cell (p := ⟨_, _, none⟩) z2).trans x5
  have vf5 : w2.frozen? ⟨w.heap.size + 1 + 1, 5, none⟩ = false := (hb.frozen (p := ⟨_, _, none⟩) z2).trans xf5
  clear hs2 hb hat hnw s0 s1 r0 r1 rf0 rf1 x0 xf0 x1 xf1 x2 xf2 x3 xf3 x4 xf4 x5 xf5
  by_cases hT : TE = 0
  · subst hT
    have HZ : Hid (NS = ns - 1 ∧ NB = nb ∧ NN = ns - 1) := ⟨by rw [← HNS.out, if_pos rfl], by rw [← HNB.out, if_pos rfl], by rw [← HNN.out, if_pos rfl]⟩
    have hb2 := HB2.out
    go_wp2_with fail
    (go_at_call 38; refine (copied_any _ ns es nb eb _ (HST.out.below (((((((hb2).setCell (show w.heap.size ≤ w.heap.size + 1 + 1 by omega) _).setCell (show w.heap.size ≤ w.heap.size + 1 + 1 by omega) _).setCell (show w.heap.size ≤ w.heap.size + 1 + 1 by omega) _).setCell (show w.heap.size ≤ w.heap.size + 1 + 1 by omega) _).setCell (show w.heap.size ≤ w.heap.size + 1 + 1 by omega) _).setCell (show w.heap.size ≤ w.heap.size + 1 + 1 by omega) _)) n1 n2).mono ?_; rintro e w6 ⟨va', vb', rfl, h1, h2, h3, h4, hb⟩)
    have H1 := Lib.hid h1
    have H2 := Lib.hid h2
    simp only [World.size_setCell] at h3 h4
    have HM1 := Lib.hid (h3.mono (by omega : w.heap.size + 1 + 1 + 1 ≤ w2.heap.size))
    have HM2 := Lib.hid (h4.mono (by omega : w.heap.size + 1 + 1 + 1 ≤ w2.heap.size))
    obtain ⟨o1, c1, rfl, -, -, -⟩ := h1.form
    obtain ⟨o2, c2, rfl, -, -, -⟩ := h2.form
    have HB6 : Hid (Below w.heap.size w w6) := by
      show Below _ _ _
      exact below_step (((((((hb2).setCell (show w.heap.size ≤ w.heap.size + 1 + 1 by omega) _).setCell (show w.heap.size ≤ w.heap.size + 1 + 1 by omega) _).setCell (show w.heap.size ≤ w.heap.size + 1 + 1 by omega) _).setCell (show w.heap.size ≤ w.heap.size + 1 + 1 by omega) _).setCell (show w.heap.size ≤ w.heap.size + 1 + 1 by omega) _).setCell (show w.heap.size ≤ w.heap.size + 1 + 1 by omega) _) hb
    have hs6 := hb.size
    simp only [World.size_setCell] at hs6
    have a0 : w.heap.size < w6.heap.size := by omega
    have a1 : w.heap.size + 1 < w6.heap.size := by omega
    have a2 : w.heap.size + 1 + 1 < w6.heap.size := by omega
    have p0 : w6.cell? ⟨w.heap.size + 1, 0, none⟩ = some (.slice none 0 0) := (hb.cell (p := ⟨_, _, none⟩) (by simp <;> omega)).trans (by simp (maxDischargeDepth := 9) [go_sem, u0])
    have pf0 : w6.frozen? ⟨w.heap.size + 1, 0, none⟩ = false := (hb.frozen (p := ⟨_, _, none⟩) (by simp <;> omega)).trans (by simp [go_sem, uf0])
    have p1 : w6.cell? ⟨w.heap.size + 1, 1, none⟩ = some (.slice none 0 0) := (hb.cell (p := ⟨_, _, none⟩) (by simp <;> omega)).trans (by simp (maxDischargeDepth := 9) [go_sem, u1])
    have pf1 : w6.frozen? ⟨w.heap.size + 1, 1, none⟩ = false := (hb.frozen (p := ⟨_, _, none⟩) (by simp <;> omega)).trans (by simp [go_sem, uf1])
    have q0 : w6.cell? ⟨w.heap.size + 1 + 1, 0, none⟩ = some (.string id') := (hb.cell (p := ⟨_, _, none⟩) (by simp <;> omega)).trans (by simp (maxDischargeDepth := 9) [go_sem, v0, v1, v2, v3, v4, v5])
    have qf0 : w6.frozen? ⟨w.heap.size + 1 + 1, 0, none⟩ = false := (hb.frozen (p := ⟨_, _, none⟩) (by simp <;> omega)).trans (by simp [go_sem, vf0])
    have q1 : w6.cell? ⟨w.heap.size + 1 + 1, 1, none⟩ = some (.string grade') := (hb.cell (p := ⟨_, _, none⟩) (by simp <;> omega)).trans (by simp (maxDischargeDepth := 9) [go_sem, v0, v1, v2, v3, v4, v5])
    have qf1 : w6.frozen? ⟨w.heap.size + 1 + 1, 1, none⟩ = false := (hb.frozen (p := ⟨_, _, none⟩) (by simp <;> omega)).trans (by simp [go_sem, vf1])
    have q2 : w6.cell? ⟨w.heap.size + 1 + 1, 2, none⟩ = some (.int .i64 thick') := (hb.cell (p := ⟨_, _, none⟩) (by simp <;> omega)).trans (by simp (maxDischargeDepth := 9) [go_sem, v0, v1, v2, v3, v4, v5])
    have qf2 : w6.frozen? ⟨w.heap.size + 1 + 1, 2, none⟩ = false := (hb.frozen (p := ⟨_, _, none⟩) (by simp <;> omega)).trans (by simp [go_sem, vf2])
    have q3 : w6.cell? ⟨w.heap.size + 1 + 1, 3, none⟩ = some (.int .i64 len') := (hb.cell (p := ⟨_, _, none⟩) (by simp <;> omega)).trans (by simp (maxDischargeDepth := 9) [go_sem, v0, v1, v2, v3, v4, v5])
    have qf3 : w6.frozen? ⟨w.heap.size + 1 + 1, 3, none⟩ = false := (hb.frozen (p := ⟨_, _, none⟩) (by simp <;> omega)).trans (by simp [go_sem, vf3])
    have q4 : w6.cell? ⟨w.heap.size + 1 + 1, 4, none⟩ = some (.int .i64 wid') := (hb.cell (p := ⟨_, _, none⟩) (by simp <;> omega)).trans (by simp (maxDischargeDepth := 9) [go_sem, v0, v1, v2, v3, v4, v5])
    have qf4 : w6.frozen? ⟨w.heap.size + 1 + 1, 4, none⟩ = false := (hb.frozen (p := ⟨_, _, none⟩) (by simp <;> omega)).trans (by simp [go_sem, vf4])
    have q5 : w6.cell? ⟨w.heap.size + 1 + 1, 5, none⟩ = some (.string heat') := (hb.cell (p := ⟨_, _, none⟩) (by simp <;> omega)).trans (by simp (maxDischargeDepth := 9) [go_sem, v0, v1, v2, v3, v4, v5])
    have qf5 : w6.frozen? ⟨w.heap.size + 1 + 1, 5, none⟩ = false := (hb.frozen (p := ⟨_, _, none⟩) (by simp <;> omega)).trans (by simp [go_sem, vf5])
    have HA7 : Hid (ShAt w6 (.slice o7 NN c7) NN (delF es (placeI Sh.id es ns s))) := by
      show ShAt _ _ _ _
      exact (sh_set (sh_set (sh_set (sh_set (sh_set (sh_set (HA.out) HN.out _ _ _ (by omega)) HN.out _ _ _ (by omega)) HN.out _ _ _ (by omega)) HN.out _ _ _ (by omega)) HN.out _ _ _ (by omega)) HN.out _ _ _ (by omega)).below hb
    have HM7 : Hid (NewFrom (w.heap.size + 1 + 1 + 1) (.slice o7 NN c7)) := HN.out
    clear hb h1 h2 h3 h4 hs6 hb2
    have g0 : ((w6.setCell ⟨w.heap.size + 1, 0, none⟩ (.slice o1 ns c1)).setCell ⟨w.heap.size + 1, 1, none⟩ (.slice o2 nb c2)).cell? ⟨w.heap.size + 1, 0, none⟩ = some (.slice o1 ns c1) := by simp (maxDischargeDepth := 9) [go_sem, p0, p1]
    have g1 : ((w6.setCell ⟨w.heap.size + 1, 0, none⟩ (.slice o1 ns c1)).setCell ⟨w.heap.size + 1, 1, none⟩ (.slice o2 nb c2)).cell? ⟨w.heap.size + 1, 1, none⟩ = some (.slice o2 nb c2) := by simp (maxDischargeDepth := 9) [go_sem, p0, p1]
    go_wp2
    obtain ⟨wz, hwz⟩ : ∃ wz, wz = ((w6.setCell ⟨w.heap.size + 1, 0, none⟩ (.slice o1 ns c1)).setCell ⟨w.heap.size + 1, 1, none⟩ (.slice o2 nb c2)).setCell ⟨w.heap.size + 1, 0, none⟩ (.slice o7 NN c7) := ⟨_, rfl⟩
    rw [← hwz]
    have HBz : Hid (Below w.heap.size w wz) := by
      show Below _ _ _
      rw [hwz]
      exact (((HB6.out).setCell (show w.heap.size ≤ w.heap.size + 1 by omega) _).setCell (show w.heap.size ≤ w.heap.size + 1 by omega) _).setCell (show w.heap.size ≤ w.heap.size + 1 by omega) _
    have b1 : w.heap.size + 1 < wz.heap.size := by rw [hwz]; simp only [World.size_setCell]; omega
    have b2 : w.heap.size + 1 + 1 < wz.heap.size := by rw [hwz]; simp only [World.size_setCell]; omega
    have e0 : wz.cell? ⟨w.heap.size + 1, 0, none⟩ = some (.slice o7 NN c7) := by rw [hwz]; simp (maxDischargeDepth := 9) [go_sem, p0, p1, g0, g1]
    have e1 : wz.cell? ⟨w.heap.size + 1, 1, none⟩ = some (.slice o2 nb c2) := by rw [hwz]; simp (maxDischargeDepth := 9) [go_sem, p0, p1, g0, g1]
    have ef0 : wz.frozen? ⟨w.heap.size + 1, 0, none⟩ = false := by rw [hwz]; simp [go_sem, pf0]
    have ef1 : wz.frozen? ⟨w.heap.size + 1, 1, none⟩ = false := by rw [hwz]; simp [go_sem, pf1]
    have ex0 : wz.cell? ⟨w.heap.size + 1 + 1, 0, none⟩ = some (.string id') := by rw [hwz]; simp (maxDischargeDepth := 9) [go_sem, q0]
    have exf0 : wz.frozen? ⟨w.heap.size + 1 + 1, 0, none⟩ = false := by rw [hwz]; simp [go_sem, qf0]
    have ex1 : wz.cell? ⟨w.heap.size + 1 + 1, 1, none⟩ = some (.string grade') := by rw [hwz]; simp (maxDischargeDepth := 9) [go_sem, q1]
    have exf1 : wz.frozen? ⟨w.heap.size + 1 + 1, 1, none⟩ = false := by rw [hwz]; simp [go_sem, qf1]
    have ex2 : wz.cell? ⟨w.heap.size + 1 + 1, 2, none⟩ = some (.int .i64 thick') := by rw [hwz]; simp (maxDischargeDepth := 9) [go_sem, q2]
    have exf2 : wz.frozen? ⟨w.heap.size + 1 + 1, 2, none⟩ = false := by rw [hwz]; simp [go_sem, qf2]
    have ex3 : wz.cell? ⟨w.heap.size + 1 + 1, 3, none⟩ = some (.int .i64 len') := by rw [hwz]; simp (maxDischargeDepth := 9) [go_sem, q3]
    have exf3 : wz.frozen? ⟨w.heap.size + 1 + 1, 3, none⟩ = false := by rw [hwz]; simp [go_sem, qf3]
    have ex4 : wz.cell? ⟨w.heap.size + 1 + 1, 4, none⟩ = some (.int .i64 wid') := by rw [hwz]; simp (maxDischargeDepth := 9) [go_sem, q4]
    have exf4 : wz.frozen? ⟨w.heap.size + 1 + 1, 4, none⟩ = false := by rw [hwz]; simp [go_sem, qf4]
    have ex5 : wz.cell? ⟨w.heap.size + 1 + 1, 5, none⟩ = some (.string heat') := by rw [hwz]; simp (maxDischargeDepth := 9) [go_sem, q5]
    have exf5 : wz.frozen? ⟨w.heap.size + 1 + 1, 5, none⟩ = false := by rw [hwz]; simp [go_sem, qf5]
    have HSZ : Hid (ShAt wz (.slice o7 NN c7) NN (delF es (placeI Sh.id es ns s))) := by
      show ShAt _ _ _ _
      rw [hwz]
      exact sh_set (sh_set (sh_set (HA7.out) HM7.out _ _ _ (by omega)) HM7.out _ _ _ (by omega)) HM7.out _ _ _ (by omega)
    have HRZ : Hid (BrAt wz (.slice o2 nb c2) nb eb) := by
      show BrAt _ _ _ _
      rw [hwz]
      exact br_set (br_set (br_set (H2.out) HM2.out _ _ _ (by omega)) HM2.out _ _ _ (by omega)) HM2.out _ _ _ (by omega)
    clear hwz g0 g1 p0 p1 pf0 pf1 q0 qf0 q1 qf1 q2 qf2 q3 qf3 q4 qf4 q5 qf5
    go_region
    all_goals go_wp2
    all_goals (refine bodyPost_ret (v := .tuple #[.agg #[.slice o7 NN c7, .slice o2 nb c2], .agg #[.string id', .string grade', .int .i64 thick', .int .i64 len', .int .i64 wid', .string heat'], .int .i64 0]) (by simp (maxDischargeDepth := 5) [results, Tryd.results17, go_sem, *]) rfl ?_)
    all_goals (rw [HZ.out.1, HZ.out.2.1])
    all_goals (rw [HZ.out.2.2] at HM7 HSZ ⊢)
    all_goals (refine ⟨_, rfl, ⟨_, _, rfl, ?_, ?_⟩, ?_⟩)
    · exact (sh_set (sh_set (sh_set (sh_set (sh_set (sh_set (sh_set (sh_set (HSZ.out) HM7.out _ _ _ (by omega)) HM7.out _ _ _ (by omega)) HM7.out _ _ _ (by omega)) HM7.out _ _ _ (by omega)) HM7.out _ _ _ (by omega)) HM7.out _ _ _ (by omega)) HM7.out _ _ _ (by omega)) HM7.out _ _ _ (by omega)).below (below_drew1 _ _)
    · exact (br_set (br_set (br_set (br_set (br_set (br_set (br_set (br_set (HRZ.out) HM2.out _ _ _ (by omega)) HM2.out _ _ _ (by omega)) HM2.out _ _ _ (by omega)) HM2.out _ _ _ (by omega)) HM2.out _ _ _ (by omega)) HM2.out _ _ _ (by omega)) HM2.out _ _ _ (by omega)) HM2.out _ _ _ (by omega)).below (below_drew1 _ _)
    · exact Below.trans (((((((((HBz.out).setCell (show w.heap.size ≤ w.heap.size + 1 by omega) _).setCell (show w.heap.size ≤ w.heap.size + 1 by omega) _).setCell (show w.heap.size ≤ w.heap.size + 1 + 1 by omega) _).setCell (show w.heap.size ≤ w.heap.size + 1 + 1 by omega) _).setCell (show w.heap.size ≤ w.heap.size + 1 + 1 by omega) _).setCell (show w.heap.size ≤ w.heap.size + 1 + 1 by omega) _).setCell (show w.heap.size ≤ w.heap.size + 1 + 1 by omega) _).setCell (show w.heap.size ≤ w.heap.size + 1 + 1 by omega) _) (below_drew1 _ _)
  · have HZ : Hid (NS = 0 ∧ NB = 0) := ⟨by rw [← HNS.out, if_neg hT], by rw [← HNB.out, if_neg hT]⟩
    have k0 : (TE != 0) = true := by simpa using hT
    clear hT
    go_wp2
    obtain ⟨wz, hwz⟩ : ∃ wz, wz = ((((((w2).setCell ⟨w.heap.size + 1 + 1, 0, none⟩ (.string id')).setCell ⟨w.heap.size + 1 + 1, 1, none⟩ (.string grade')).setCell ⟨w.heap.size + 1 + 1, 2, none⟩ (.int .i64 thick')).setCell ⟨w.heap.size + 1 + 1, 3, none⟩ (.int .i64 len')).setCell ⟨w.heap.size + 1 + 1, 4, none⟩ (.int .i64 wid')).setCell ⟨w.heap.size + 1 + 1, 5, none⟩ (.string heat') := ⟨_, rfl⟩
    rw [← hwz]
    have HBz : Hid (Below w.heap.size w wz) := by
      show Below _ _ _
      rw [hwz]
      exact ((((((HB2.out).setCell (show w.heap.size ≤ w.heap.size + 1 + 1 by omega) _).setCell (show w.heap.size ≤ w.heap.size + 1 + 1 by omega) _).setCell (show w.heap.size ≤ w.heap.size + 1 + 1 by omega) _).setCell (show w.heap.size ≤ w.heap.size + 1 + 1 by omega) _).setCell (show w.heap.size ≤ w.heap.size + 1 + 1 by omega) _).setCell (show w.heap.size ≤ w.heap.size + 1 + 1 by omega) _
    have b1 : w.heap.size + 1 < wz.heap.size := by rw [hwz]; simp only [World.size_setCell]; omega
    have b2 : w.heap.size + 1 + 1 < wz.heap.size := by rw [hwz]; simp only [World.size_setCell]; omega
    have e0 : wz.cell? ⟨w.heap.size + 1, 0, none⟩ = some (.slice none 0 0) := by rw [hwz]; simp (maxDischargeDepth := 9) [go_sem, u0]
    have e1 : wz.cell? ⟨w.heap.size + 1, 1, none⟩ = some (.slice none 0 0) := by rw [hwz]; simp (maxDischargeDepth := 9) [go_sem, u1]
    have ef0 : wz.frozen? ⟨w.heap.size + 1, 0, none⟩ = false := by rw [hwz]; simp [go_sem, uf0]
    have ef1 : wz.frozen? ⟨w.heap.size + 1, 1, none⟩ = false := by rw [hwz]; simp [go_sem, uf1]
    have ex0 : wz.cell? ⟨w.heap.size + 1 + 1, 0, none⟩ = some (.string id') := by rw [hwz]; simp (maxDischargeDepth := 9) [go_sem, v0, v1, v2, v3, v4, v5]
    have exf0 : wz.frozen? ⟨w.heap.size + 1 + 1, 0, none⟩ = false := by rw [hwz]; simp [go_sem, vf0]
    have ex1 : wz.cell? ⟨w.heap.size + 1 + 1, 1, none⟩ = some (.string grade') := by rw [hwz]; simp (maxDischargeDepth := 9) [go_sem, v0, v1, v2, v3, v4, v5]
    have exf1 : wz.frozen? ⟨w.heap.size + 1 + 1, 1, none⟩ = false := by rw [hwz]; simp [go_sem, vf1]
    have ex2 : wz.cell? ⟨w.heap.size + 1 + 1, 2, none⟩ = some (.int .i64 thick') := by rw [hwz]; simp (maxDischargeDepth := 9) [go_sem, v0, v1, v2, v3, v4, v5]
    have exf2 : wz.frozen? ⟨w.heap.size + 1 + 1, 2, none⟩ = false := by rw [hwz]; simp [go_sem, vf2]
    have ex3 : wz.cell? ⟨w.heap.size + 1 + 1, 3, none⟩ = some (.int .i64 len') := by rw [hwz]; simp (maxDischargeDepth := 9) [go_sem, v0, v1, v2, v3, v4, v5]
    have exf3 : wz.frozen? ⟨w.heap.size + 1 + 1, 3, none⟩ = false := by rw [hwz]; simp [go_sem, vf3]
    have ex4 : wz.cell? ⟨w.heap.size + 1 + 1, 4, none⟩ = some (.int .i64 wid') := by rw [hwz]; simp (maxDischargeDepth := 9) [go_sem, v0, v1, v2, v3, v4, v5]
    have exf4 : wz.frozen? ⟨w.heap.size + 1 + 1, 4, none⟩ = false := by rw [hwz]; simp [go_sem, vf4]
    have ex5 : wz.cell? ⟨w.heap.size + 1 + 1, 5, none⟩ = some (.string heat') := by rw [hwz]; simp (maxDischargeDepth := 9) [go_sem, v0, v1, v2, v3, v4, v5]
    have exf5 : wz.frozen? ⟨w.heap.size + 1 + 1, 5, none⟩ = false := by rw [hwz]; simp [go_sem, vf5]
    clear hwz u0 u1 uf0 uf1 v0 vf0 v1 vf1 v2 vf2 v3 vf3 v4 vf4 v5 vf5
    go_region
    all_goals go_wp2
    all_goals (refine bodyPost_ret (v := .tuple #[.agg #[.slice none 0 0, .slice none 0 0], .agg #[.string id', .string grade', .int .i64 thick', .int .i64 len', .int .i64 wid', .string heat'], .int .i64 TE]) (by simp (maxDischargeDepth := 5) [results, Tryd.results17, go_sem, *]) rfl ?_)
    all_goals (rw [HZ.out.1, HZ.out.2])
    all_goals (refine ⟨_, rfl, St_zero _ _ _, ?_⟩)
    all_goals exact Below.trans (((((((((HBz.out).setCell (show w.heap.size ≤ w.heap.size + 1 by omega) _).setCell (show w.heap.size ≤ w.heap.size + 1 by omega) _).setCell (show w.heap.size ≤ w.heap.size + 1 + 1 by omega) _).setCell (show w.heap.size ≤ w.heap.size + 1 + 1 by omega) _).setCell (show w.heap.size ≤ w.heap.size + 1 + 1 by omega) _).setCell (show w.heap.size ≤ w.heap.size + 1 + 1 by omega) _).setCell (show w.heap.size ≤ w.heap.size + 1 + 1 by omega) _).setCell (show w.heap.size ≤ w.heap.size + 1 + 1 by omega) _) (below_drew1 _ _)

set_option maxHeartbeats 8000000 in
theorem TakeBar_any (v : Value) (ns : Nat) (es : Nat → Sh) (nb : Nat) (eb : Nat → Br) (s : ByteArray) (w : World) (h : StAt w v ns es nb eb) (n1 : ns ≤ 1000000) (n2 : nb ≤ 1000000) (ha : AscB Br.id eb nb) :
    Calls Tryd.prog 19 #[v, .string s] w fun e w' => ∃ v', e = .returned (.tuple #[v', (takeV Br.id Br.none eb nb s).val, .int .i64 (takeE Br.id eb nb s)]) ∧ StAt w' v' (if takeE Br.id eb nb s = 0 then ns else 0) es (if takeE Br.id eb nb s = 0 then nb - 1 else 0) (delF eb (placeI Br.id eb nb s)) ∧ Below w.heap.size w w' := by
  have HASC := Lib.hid ha
  have HST := Lib.hid h
  obtain ⟨va, vb, rfl, hSh, hBr⟩ := h
  have HSH := Lib.hid hSh
  have HBR := Lib.hid hBr
  obtain ⟨oa, ca, rfl, hna, hca, hela⟩ := hSh.form
  obtain ⟨ob, cb, rfl, hnb, hcb, helb⟩ := hBr.form
  obtain ⟨X, hX⟩ : ∃ X, takeV Br.id Br.none eb nb s = X := ⟨_, rfl⟩
  obtain ⟨TE, hTE⟩ : ∃ TE, takeE Br.id eb nb s = TE := ⟨_, rfl⟩
  obtain ⟨NN, hNN⟩ : ∃ NN, (if TE = 0 then nb - 1 else 0) = NN := ⟨_, rfl⟩
  obtain ⟨NS, hNS⟩ : ∃ NS, (if TE = 0 then ns else 0) = NS := ⟨_, rfl⟩
  obtain ⟨NB, hNB⟩ : ∃ NB, (if TE = 0 then nb - 1 else 0) = NB := ⟨_, rfl⟩
  rw [hX, hTE, hNS, hNB]
  have HX := Lib.hid hX
  have HTE := Lib.hid hTE
  have HNN := Lib.hid hNN
  have HNS := Lib.hid hNS
  have HNB := Lib.hid hNB
  clear hSh hBr ha hela helb hX hTE hNN hNS hNB
  obtain ⟨id', sect', grade', len', heat'⟩ := X
  go_enter Tryd.func19, Tryd.ntmps19
  go_wp2_with fail
  (go_at_call 29; refine (shelf_Bar _ _ oa ob ns ca nb cb _ rfl rfl).mono ?_; rintro e w1 ⟨rfl, hb⟩)
  have HB1 : Hid (Below w.heap.size w w1) := by
    show Below _ _ _
    exact below_step (w := w) (by go_grown) hb
  have hs1 := hb.size
  (try simp only [World.size_alloc, World.size_setCell] at hs1)
  have z0 : w.heap.size < w1.heap.size := by omega
  have z1 : w.heap.size + 1 < w1.heap.size := by omega
  have z2 : w.heap.size + 1 + 1 < w1.heap.size := by omega
  have s0 : w1.cell? ⟨w.heap.size, 0, none⟩ = some (.slice oa ns ca) := (hb.cell (p := ⟨_, _, none⟩) (by simp <;> omega)).trans (by simp [go_sem])
  have s1 : w1.cell? ⟨w.heap.size, 1, none⟩ = some (.slice ob nb cb) := (hb.cell (p := ⟨_, _, none⟩) (by simp <;> omega)).trans (by simp [go_sem])
  have r0 : w1.cell? ⟨w.heap.size + 1, 0, none⟩ = some (.slice none 0 0) := (hb.cell (p := ⟨_, _, none⟩) (by simp <;> omega)).trans (by simp [go_sem])
  have rf0 : w1.frozen? ⟨w.heap.size + 1, 0, none⟩ = false := (hb.frozen (p := ⟨_, _, none⟩) (by simp <;> omega)).trans (by simp [go_sem])
  have r1 : w1.cell? ⟨w.heap.size + 1, 1, none⟩ = some (.slice none 0 0) := (hb.cell (p := ⟨_, _, none⟩) (by simp <;> omega)).trans (by simp [go_sem])
  have rf1 : w1.frozen? ⟨w.heap.size + 1, 1, none⟩ = false := (hb.frozen (p := ⟨_, _, none⟩) (by simp <;> omega)).trans (by simp [go_sem])
  have x0 : w1.cell? ⟨w.heap.size + 1 + 1, 0, none⟩ = some (.string ⟨#[]⟩) := (hb.cell (p := ⟨_, _, none⟩) (by simp <;> omega)).trans (by simp [go_sem])
  have xf0 : w1.frozen? ⟨w.heap.size + 1 + 1, 0, none⟩ = false := (hb.frozen (p := ⟨_, _, none⟩) (by simp <;> omega)).trans (by simp [go_sem])
  have x1 : w1.cell? ⟨w.heap.size + 1 + 1, 1, none⟩ = some (.string ⟨#[]⟩) := (hb.cell (p := ⟨_, _, none⟩) (by simp <;> omega)).trans (by simp [go_sem])
  have xf1 : w1.frozen? ⟨w.heap.size + 1 + 1, 1, none⟩ = false := (hb.frozen (p := ⟨_, _, none⟩) (by simp <;> omega)).trans (by simp [go_sem])
  have x2 : w1.cell? ⟨w.heap.size + 1 + 1, 2, none⟩ = some (.string ⟨#[]⟩) := (hb.cell (p := ⟨_, _, none⟩) (by simp <;> omega)).trans (by simp [go_sem])
  have xf2 : w1.frozen? ⟨w.heap.size + 1 + 1, 2, none⟩ = false := (hb.frozen (p := ⟨_, _, none⟩) (by simp <;> omega)).trans (by simp [go_sem])
  have x3 : w1.cell? ⟨w.heap.size + 1 + 1, 3, none⟩ = some (.int .i64 0) := (hb.cell (p := ⟨_, _, none⟩) (by simp <;> omega)).trans (by simp [go_sem])
  have xf3 : w1.frozen? ⟨w.heap.size + 1 + 1, 3, none⟩ = false := (hb.frozen (p := ⟨_, _, none⟩) (by simp <;> omega)).trans (by simp [go_sem])
  have x4 : w1.cell? ⟨w.heap.size + 1 + 1, 4, none⟩ = some (.string ⟨#[]⟩) := (hb.cell (p := ⟨_, _, none⟩) (by simp <;> omega)).trans (by simp [go_sem])
  have xf4 : w1.frozen? ⟨w.heap.size + 1 + 1, 4, none⟩ = false := (hb.frozen (p := ⟨_, _, none⟩) (by simp <;> omega)).trans (by simp [go_sem])
  clear hs1 hb
  go_wp2_with fail
  (go_at_call 41; refine (take_Bar _ nb eb s _ (HBR.out.below HB1.out) HASC.out n2).mono ?_; rintro e w2 ⟨v7, rfl, hat, hnw, hb⟩)
  rw [HTE.out, HX.out]
  rw [HTE.out] at hat
  dsimp only [Br.val]
  rw [HNN.out] at hat
  have HA := Lib.hid hat
  have HN := Lib.hid (hnw.mono (by omega : w.heap.size + 1 + 1 + 1 ≤ w1.heap.size))
  obtain ⟨o7, c7, rfl, -, -, -⟩ := hat.form
  have HB2 : Hid (Below w.heap.size w w2) := below_step HB1.out hb
  have HBX2 : Hid (Below w1.heap.size w1 w2) := hb
  have hs2 := hb.size
  have y0 : w.heap.size < w2.heap.size := by omega
  have y1 : w.heap.size + 1 < w2.heap.size := by omega
  have y2 : w.heap.size + 1 + 1 < w2.heap.size := by omega
  have t0 : w2.cell? ⟨w.heap.size, 0, none⟩ = some (.slice oa ns ca) := (hb.cell (p := ⟨_, _, none⟩) z0).trans s0
  have t1 : w2.cell? ⟨w.heap.size, 1, none⟩ = some (.slice ob nb cb) := (hb.cell (p := ⟨_, _, none⟩) z0).trans s1
  have u0 : w2.cell? ⟨w.heap.size + 1, 0, none⟩ = some (.slice none 0 0) := (hb.cell (p := ⟨_, _, none⟩) z1).trans r0
  have uf0 : w2.frozen? ⟨w.heap.size + 1, 0, none⟩ = false := (hb.frozen (p := ⟨_, _, none⟩) z1).trans rf0
  have u1 : w2.cell? ⟨w.heap.size + 1, 1, none⟩ = some (.slice none 0 0) := (hb.cell (p := ⟨_, _, none⟩) z1).trans r1
  have uf1 : w2.frozen? ⟨w.heap.size + 1, 1, none⟩ = false := (hb.frozen (p := ⟨_, _, none⟩) z1).trans rf1
  have v0 : w2.cell? ⟨w.heap.size + 1 + 1, 0, none⟩ = some (.string ⟨#[]⟩) := (hb.cell (p := ⟨_, _, none⟩) z2).trans x0
  have vf0 : w2.frozen? ⟨w.heap.size + 1 + 1, 0, none⟩ = false := (hb.frozen (p := ⟨_, _, none⟩) z2).trans xf0
  have v1 : w2.cell? ⟨w.heap.size + 1 + 1, 1, none⟩ = some (.string ⟨#[]⟩) := (hb.cell (p := ⟨_, _, none⟩) z2).trans x1
  have vf1 : w2.frozen? ⟨w.heap.size + 1 + 1, 1, none⟩ = false := (hb.frozen (p := ⟨_, _, none⟩) z2).trans xf1
  have v2 : w2.cell? ⟨w.heap.size + 1 + 1, 2, none⟩ = some (.string ⟨#[]⟩) := (hb.cell (p := ⟨_, _, none⟩) z2).trans x2
  have vf2 : w2.frozen? ⟨w.heap.size + 1 + 1, 2, none⟩ = false := (hb.frozen (p := ⟨_, _, none⟩) z2).trans xf2
  have v3 : w2.cell? ⟨w.heap.size + 1 + 1, 3, none⟩ = some (.int .i64 0) := (hb.cell (p := ⟨_, _, none⟩) z2).trans x3
  have vf3 : w2.frozen? ⟨w.heap.size + 1 + 1, 3, none⟩ = false := (hb.frozen (p := ⟨_, _, none⟩) z2).trans xf3
  have v4 : w2.cell? ⟨w.heap.size + 1 + 1, 4, none⟩ = some (.string ⟨#[]⟩) := (hb.cell (p := ⟨_, _, none⟩) z2).trans x4
  have vf4 : w2.frozen? ⟨w.heap.size + 1 + 1, 4, none⟩ = false := (hb.frozen (p := ⟨_, _, none⟩) z2).trans xf4
  clear hs2 hb hat hnw s0 s1 r0 r1 rf0 rf1 x0 xf0 x1 xf1 x2 xf2 x3 xf3 x4 xf4
  by_cases hT : TE = 0
  · subst hT
    have HZ : Hid (NS = ns ∧ NB = nb - 1 ∧ NN = nb - 1) := ⟨by rw [← HNS.out, if_pos rfl], by rw [← HNB.out, if_pos rfl], by rw [← HNN.out, if_pos rfl]⟩
    have hb2 := HB2.out
    go_wp2_with fail
    (go_at_call 38; refine (copied_any _ ns es nb eb _ (HST.out.below ((((((hb2).setCell (show w.heap.size ≤ w.heap.size + 1 + 1 by omega) _).setCell (show w.heap.size ≤ w.heap.size + 1 + 1 by omega) _).setCell (show w.heap.size ≤ w.heap.size + 1 + 1 by omega) _).setCell (show w.heap.size ≤ w.heap.size + 1 + 1 by omega) _).setCell (show w.heap.size ≤ w.heap.size + 1 + 1 by omega) _)) n1 n2).mono ?_; rintro e w6 ⟨va', vb', rfl, h1, h2, h3, h4, hb⟩)
    have H1 := Lib.hid h1
    have H2 := Lib.hid h2
    simp only [World.size_setCell] at h3 h4
    have HM1 := Lib.hid (h3.mono (by omega : w.heap.size + 1 + 1 + 1 ≤ w2.heap.size))
    have HM2 := Lib.hid (h4.mono (by omega : w.heap.size + 1 + 1 + 1 ≤ w2.heap.size))
    obtain ⟨o1, c1, rfl, -, -, -⟩ := h1.form
    obtain ⟨o2, c2, rfl, -, -, -⟩ := h2.form
    have HB6 : Hid (Below w.heap.size w w6) := by
      show Below _ _ _
      exact below_step ((((((hb2).setCell (show w.heap.size ≤ w.heap.size + 1 + 1 by omega) _).setCell (show w.heap.size ≤ w.heap.size + 1 + 1 by omega) _).setCell (show w.heap.size ≤ w.heap.size + 1 + 1 by omega) _).setCell (show w.heap.size ≤ w.heap.size + 1 + 1 by omega) _).setCell (show w.heap.size ≤ w.heap.size + 1 + 1 by omega) _) hb
    have hs6 := hb.size
    simp only [World.size_setCell] at hs6
    have a0 : w.heap.size < w6.heap.size := by omega
    have a1 : w.heap.size + 1 < w6.heap.size := by omega
    have a2 : w.heap.size + 1 + 1 < w6.heap.size := by omega
    have p0 : w6.cell? ⟨w.heap.size + 1, 0, none⟩ = some (.slice none 0 0) := (hb.cell (p := ⟨_, _, none⟩) (by simp <;> omega)).trans (by simp (maxDischargeDepth := 9) [go_sem, u0])
    have pf0 : w6.frozen? ⟨w.heap.size + 1, 0, none⟩ = false := (hb.frozen (p := ⟨_, _, none⟩) (by simp <;> omega)).trans (by simp [go_sem, uf0])
    have p1 : w6.cell? ⟨w.heap.size + 1, 1, none⟩ = some (.slice none 0 0) := (hb.cell (p := ⟨_, _, none⟩) (by simp <;> omega)).trans (by simp (maxDischargeDepth := 9) [go_sem, u1])
    have pf1 : w6.frozen? ⟨w.heap.size + 1, 1, none⟩ = false := (hb.frozen (p := ⟨_, _, none⟩) (by simp <;> omega)).trans (by simp [go_sem, uf1])
    have q0 : w6.cell? ⟨w.heap.size + 1 + 1, 0, none⟩ = some (.string id') := (hb.cell (p := ⟨_, _, none⟩) (by simp <;> omega)).trans (by simp (maxDischargeDepth := 9) [go_sem, v0, v1, v2, v3, v4])
    have qf0 : w6.frozen? ⟨w.heap.size + 1 + 1, 0, none⟩ = false := (hb.frozen (p := ⟨_, _, none⟩) (by simp <;> omega)).trans (by simp [go_sem, vf0])
    have q1 : w6.cell? ⟨w.heap.size + 1 + 1, 1, none⟩ = some (.string sect') := (hb.cell (p := ⟨_, _, none⟩) (by simp <;> omega)).trans (by simp (maxDischargeDepth := 9) [go_sem, v0, v1, v2, v3, v4])
    have qf1 : w6.frozen? ⟨w.heap.size + 1 + 1, 1, none⟩ = false := (hb.frozen (p := ⟨_, _, none⟩) (by simp <;> omega)).trans (by simp [go_sem, vf1])
    have q2 : w6.cell? ⟨w.heap.size + 1 + 1, 2, none⟩ = some (.string grade') := (hb.cell (p := ⟨_, _, none⟩) (by simp <;> omega)).trans (by simp (maxDischargeDepth := 9) [go_sem, v0, v1, v2, v3, v4])
    have qf2 : w6.frozen? ⟨w.heap.size + 1 + 1, 2, none⟩ = false := (hb.frozen (p := ⟨_, _, none⟩) (by simp <;> omega)).trans (by simp [go_sem, vf2])
    have q3 : w6.cell? ⟨w.heap.size + 1 + 1, 3, none⟩ = some (.int .i64 len') := (hb.cell (p := ⟨_, _, none⟩) (by simp <;> omega)).trans (by simp (maxDischargeDepth := 9) [go_sem, v0, v1, v2, v3, v4])
    have qf3 : w6.frozen? ⟨w.heap.size + 1 + 1, 3, none⟩ = false := (hb.frozen (p := ⟨_, _, none⟩) (by simp <;> omega)).trans (by simp [go_sem, vf3])
    have q4 : w6.cell? ⟨w.heap.size + 1 + 1, 4, none⟩ = some (.string heat') := (hb.cell (p := ⟨_, _, none⟩) (by simp <;> omega)).trans (by simp (maxDischargeDepth := 9) [go_sem, v0, v1, v2, v3, v4])
    have qf4 : w6.frozen? ⟨w.heap.size + 1 + 1, 4, none⟩ = false := (hb.frozen (p := ⟨_, _, none⟩) (by simp <;> omega)).trans (by simp [go_sem, vf4])
    have HA7 : Hid (BrAt w6 (.slice o7 NN c7) NN (delF eb (placeI Br.id eb nb s))) := by
      show BrAt _ _ _ _
      exact (br_set (br_set (br_set (br_set (br_set (HA.out) HN.out _ _ _ (by omega)) HN.out _ _ _ (by omega)) HN.out _ _ _ (by omega)) HN.out _ _ _ (by omega)) HN.out _ _ _ (by omega)).below hb
    have HM7 : Hid (NewFrom (w.heap.size + 1 + 1 + 1) (.slice o7 NN c7)) := HN.out
    clear hb h1 h2 h3 h4 hs6 hb2
    have g0 : ((w6.setCell ⟨w.heap.size + 1, 0, none⟩ (.slice o1 ns c1)).setCell ⟨w.heap.size + 1, 1, none⟩ (.slice o2 nb c2)).cell? ⟨w.heap.size + 1, 0, none⟩ = some (.slice o1 ns c1) := by simp (maxDischargeDepth := 9) [go_sem, p0, p1]
    have g1 : ((w6.setCell ⟨w.heap.size + 1, 0, none⟩ (.slice o1 ns c1)).setCell ⟨w.heap.size + 1, 1, none⟩ (.slice o2 nb c2)).cell? ⟨w.heap.size + 1, 1, none⟩ = some (.slice o2 nb c2) := by simp (maxDischargeDepth := 9) [go_sem, p0, p1]
    go_wp2
    obtain ⟨wz, hwz⟩ : ∃ wz, wz = ((w6.setCell ⟨w.heap.size + 1, 0, none⟩ (.slice o1 ns c1)).setCell ⟨w.heap.size + 1, 1, none⟩ (.slice o2 nb c2)).setCell ⟨w.heap.size + 1, 1, none⟩ (.slice o7 NN c7) := ⟨_, rfl⟩
    rw [← hwz]
    have HBz : Hid (Below w.heap.size w wz) := by
      show Below _ _ _
      rw [hwz]
      exact (((HB6.out).setCell (show w.heap.size ≤ w.heap.size + 1 by omega) _).setCell (show w.heap.size ≤ w.heap.size + 1 by omega) _).setCell (show w.heap.size ≤ w.heap.size + 1 by omega) _
    have b1 : w.heap.size + 1 < wz.heap.size := by rw [hwz]; simp only [World.size_setCell]; omega
    have b2 : w.heap.size + 1 + 1 < wz.heap.size := by rw [hwz]; simp only [World.size_setCell]; omega
    have e0 : wz.cell? ⟨w.heap.size + 1, 0, none⟩ = some (.slice o1 ns c1) := by rw [hwz]; simp (maxDischargeDepth := 9) [go_sem, p0, p1, g0, g1]
    have e1 : wz.cell? ⟨w.heap.size + 1, 1, none⟩ = some (.slice o7 NN c7) := by rw [hwz]; simp (maxDischargeDepth := 9) [go_sem, p0, p1, g0, g1]
    have ef0 : wz.frozen? ⟨w.heap.size + 1, 0, none⟩ = false := by rw [hwz]; simp [go_sem, pf0]
    have ef1 : wz.frozen? ⟨w.heap.size + 1, 1, none⟩ = false := by rw [hwz]; simp [go_sem, pf1]
    have ex0 : wz.cell? ⟨w.heap.size + 1 + 1, 0, none⟩ = some (.string id') := by rw [hwz]; simp (maxDischargeDepth := 9) [go_sem, q0]
    have exf0 : wz.frozen? ⟨w.heap.size + 1 + 1, 0, none⟩ = false := by rw [hwz]; simp [go_sem, qf0]
    have ex1 : wz.cell? ⟨w.heap.size + 1 + 1, 1, none⟩ = some (.string sect') := by rw [hwz]; simp (maxDischargeDepth := 9) [go_sem, q1]
    have exf1 : wz.frozen? ⟨w.heap.size + 1 + 1, 1, none⟩ = false := by rw [hwz]; simp [go_sem, qf1]
    have ex2 : wz.cell? ⟨w.heap.size + 1 + 1, 2, none⟩ = some (.string grade') := by rw [hwz]; simp (maxDischargeDepth := 9) [go_sem, q2]
    have exf2 : wz.frozen? ⟨w.heap.size + 1 + 1, 2, none⟩ = false := by rw [hwz]; simp [go_sem, qf2]
    have ex3 : wz.cell? ⟨w.heap.size + 1 + 1, 3, none⟩ = some (.int .i64 len') := by rw [hwz]; simp (maxDischargeDepth := 9) [go_sem, q3]
    have exf3 : wz.frozen? ⟨w.heap.size + 1 + 1, 3, none⟩ = false := by rw [hwz]; simp [go_sem, qf3]
    have ex4 : wz.cell? ⟨w.heap.size + 1 + 1, 4, none⟩ = some (.string heat') := by rw [hwz]; simp (maxDischargeDepth := 9) [go_sem, q4]
    have exf4 : wz.frozen? ⟨w.heap.size + 1 + 1, 4, none⟩ = false := by rw [hwz]; simp [go_sem, qf4]
    have HSZ : Hid (ShAt wz (.slice o1 ns c1) ns es) := by
      show ShAt _ _ _ _
      rw [hwz]
      exact sh_set (sh_set (sh_set (H1.out) HM1.out _ _ _ (by omega)) HM1.out _ _ _ (by omega)) HM1.out _ _ _ (by omega)
    have HRZ : Hid (BrAt wz (.slice o7 NN c7) NN (delF eb (placeI Br.id eb nb s))) := by
      show BrAt _ _ _ _
      rw [hwz]
      exact br_set (br_set (br_set (HA7.out) HM7.out _ _ _ (by omega)) HM7.out _ _ _ (by omega)) HM7.out _ _ _ (by omega)
    clear hwz g0 g1 p0 p1 pf0 pf1 q0 qf0 q1 qf1 q2 qf2 q3 qf3 q4 qf4
    go_region
    all_goals go_wp2
    all_goals (refine bodyPost_ret (v := .tuple #[.agg #[.slice o1 ns c1, .slice o7 NN c7], .agg #[.string id', .string sect', .string grade', .int .i64 len', .string heat'], .int .i64 0]) (by simp (maxDischargeDepth := 5) [results, Tryd.results19, go_sem, *]) rfl ?_)
    all_goals (rw [HZ.out.1, HZ.out.2.1])
    all_goals (rw [HZ.out.2.2] at HM7 HRZ ⊢)
    all_goals (refine ⟨_, rfl, ⟨_, _, rfl, ?_, ?_⟩, ?_⟩)
    · exact (sh_set (sh_set (sh_set (sh_set (sh_set (sh_set (sh_set (HSZ.out) HM1.out _ _ _ (by omega)) HM1.out _ _ _ (by omega)) HM1.out _ _ _ (by omega)) HM1.out _ _ _ (by omega)) HM1.out _ _ _ (by omega)) HM1.out _ _ _ (by omega)) HM1.out _ _ _ (by omega)).below (below_drew1 _ _)
    · exact (br_set (br_set (br_set (br_set (br_set (br_set (br_set (HRZ.out) HM7.out _ _ _ (by omega)) HM7.out _ _ _ (by omega)) HM7.out _ _ _ (by omega)) HM7.out _ _ _ (by omega)) HM7.out _ _ _ (by omega)) HM7.out _ _ _ (by omega)) HM7.out _ _ _ (by omega)).below (below_drew1 _ _)
    · exact Below.trans ((((((((HBz.out).setCell (show w.heap.size ≤ w.heap.size + 1 by omega) _).setCell (show w.heap.size ≤ w.heap.size + 1 by omega) _).setCell (show w.heap.size ≤ w.heap.size + 1 + 1 by omega) _).setCell (show w.heap.size ≤ w.heap.size + 1 + 1 by omega) _).setCell (show w.heap.size ≤ w.heap.size + 1 + 1 by omega) _).setCell (show w.heap.size ≤ w.heap.size + 1 + 1 by omega) _).setCell (show w.heap.size ≤ w.heap.size + 1 + 1 by omega) _) (below_drew1 _ _)
  · have HZ : Hid (NS = 0 ∧ NB = 0) := ⟨by rw [← HNS.out, if_neg hT], by rw [← HNB.out, if_neg hT]⟩
    have k0 : (TE != 0) = true := by simpa using hT
    clear hT
    go_wp2
    obtain ⟨wz, hwz⟩ : ∃ wz, wz = (((((w2).setCell ⟨w.heap.size + 1 + 1, 0, none⟩ (.string id')).setCell ⟨w.heap.size + 1 + 1, 1, none⟩ (.string sect')).setCell ⟨w.heap.size + 1 + 1, 2, none⟩ (.string grade')).setCell ⟨w.heap.size + 1 + 1, 3, none⟩ (.int .i64 len')).setCell ⟨w.heap.size + 1 + 1, 4, none⟩ (.string heat') := ⟨_, rfl⟩
    rw [← hwz]
    have HBz : Hid (Below w.heap.size w wz) := by
      show Below _ _ _
      rw [hwz]
      exact (((((HB2.out).setCell (show w.heap.size ≤ w.heap.size + 1 + 1 by omega) _).setCell (show w.heap.size ≤ w.heap.size + 1 + 1 by omega) _).setCell (show w.heap.size ≤ w.heap.size + 1 + 1 by omega) _).setCell (show w.heap.size ≤ w.heap.size + 1 + 1 by omega) _).setCell (show w.heap.size ≤ w.heap.size + 1 + 1 by omega) _
    have b1 : w.heap.size + 1 < wz.heap.size := by rw [hwz]; simp only [World.size_setCell]; omega
    have b2 : w.heap.size + 1 + 1 < wz.heap.size := by rw [hwz]; simp only [World.size_setCell]; omega
    have e0 : wz.cell? ⟨w.heap.size + 1, 0, none⟩ = some (.slice none 0 0) := by rw [hwz]; simp (maxDischargeDepth := 9) [go_sem, u0]
    have e1 : wz.cell? ⟨w.heap.size + 1, 1, none⟩ = some (.slice none 0 0) := by rw [hwz]; simp (maxDischargeDepth := 9) [go_sem, u1]
    have ef0 : wz.frozen? ⟨w.heap.size + 1, 0, none⟩ = false := by rw [hwz]; simp [go_sem, uf0]
    have ef1 : wz.frozen? ⟨w.heap.size + 1, 1, none⟩ = false := by rw [hwz]; simp [go_sem, uf1]
    have ex0 : wz.cell? ⟨w.heap.size + 1 + 1, 0, none⟩ = some (.string id') := by rw [hwz]; simp (maxDischargeDepth := 9) [go_sem, v0, v1, v2, v3, v4]
    have exf0 : wz.frozen? ⟨w.heap.size + 1 + 1, 0, none⟩ = false := by rw [hwz]; simp [go_sem, vf0]
    have ex1 : wz.cell? ⟨w.heap.size + 1 + 1, 1, none⟩ = some (.string sect') := by rw [hwz]; simp (maxDischargeDepth := 9) [go_sem, v0, v1, v2, v3, v4]
    have exf1 : wz.frozen? ⟨w.heap.size + 1 + 1, 1, none⟩ = false := by rw [hwz]; simp [go_sem, vf1]
    have ex2 : wz.cell? ⟨w.heap.size + 1 + 1, 2, none⟩ = some (.string grade') := by rw [hwz]; simp (maxDischargeDepth := 9) [go_sem, v0, v1, v2, v3, v4]
    have exf2 : wz.frozen? ⟨w.heap.size + 1 + 1, 2, none⟩ = false := by rw [hwz]; simp [go_sem, vf2]
    have ex3 : wz.cell? ⟨w.heap.size + 1 + 1, 3, none⟩ = some (.int .i64 len') := by rw [hwz]; simp (maxDischargeDepth := 9) [go_sem, v0, v1, v2, v3, v4]
    have exf3 : wz.frozen? ⟨w.heap.size + 1 + 1, 3, none⟩ = false := by rw [hwz]; simp [go_sem, vf3]
    have ex4 : wz.cell? ⟨w.heap.size + 1 + 1, 4, none⟩ = some (.string heat') := by rw [hwz]; simp (maxDischargeDepth := 9) [go_sem, v0, v1, v2, v3, v4]
    have exf4 : wz.frozen? ⟨w.heap.size + 1 + 1, 4, none⟩ = false := by rw [hwz]; simp [go_sem, vf4]
    clear hwz u0 u1 uf0 uf1 v0 vf0 v1 vf1 v2 vf2 v3 vf3 v4 vf4
    go_region
    all_goals go_wp2
    all_goals (refine bodyPost_ret (v := .tuple #[.agg #[.slice none 0 0, .slice none 0 0], .agg #[.string id', .string sect', .string grade', .int .i64 len', .string heat'], .int .i64 TE]) (by simp (maxDischargeDepth := 5) [results, Tryd.results19, go_sem, *]) rfl ?_)
    all_goals (rw [HZ.out.1, HZ.out.2])
    all_goals (refine ⟨_, rfl, St_zero _ _ _, ?_⟩)
    all_goals exact Below.trans ((((((((HBz.out).setCell (show w.heap.size ≤ w.heap.size + 1 by omega) _).setCell (show w.heap.size ≤ w.heap.size + 1 by omega) _).setCell (show w.heap.size ≤ w.heap.size + 1 + 1 by omega) _).setCell (show w.heap.size ≤ w.heap.size + 1 + 1 by omega) _).setCell (show w.heap.size ≤ w.heap.size + 1 + 1 by omega) _).setCell (show w.heap.size ≤ w.heap.size + 1 + 1 by omega) _).setCell (show w.heap.size ≤ w.heap.size + 1 + 1 by omega) _) (below_drew1 _ _)
end Go.Proofs.YtiddpaaihloopaaDoor
