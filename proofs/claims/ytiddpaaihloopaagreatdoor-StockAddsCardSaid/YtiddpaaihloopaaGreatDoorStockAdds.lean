/-
  AddSheet and AddBar return what the reference returns, for any right stock, plate and bar. Conditions: none (the card ties the two tables of unicode/utf8 to the program's text). By an AI agent.
-/
import Derived.Test.YtiddpaaihloopaaGreatDoorStockV
namespace Go.Proofs.YtiddpaaihloopaaGreatDoor
open Go Go.ChangeShapes Go.WideShapes Go.RowKit Go.ChangeAt
set_option linter.unusedSimpArgs false
set_option linter.unusedVariables false
set_option maxRecDepth 100000 in
set_option maxHeartbeats 16000000 in
theorem stockAdds_walk (v : Value) (ns : Nat) (es : Nat → Sh) (nb : Nat) (eb : Nat → Br) (vg vs : Value) (m : Mat) (gv : Nat → Value) (x0 x1 : ByteArray) (x2 x3 x4 : Int) (x5 y0 y1 y2 : ByteArray) (y3 : Int) (y4 : ByteArray) (w : World) (h : StAt w v ns es nb eb) (hG : GrAt w vg m gv) (hS : SeAt w vs m) (hml : MaxLenIs w) :
    Calls Tryz.prog 3 #[v, .agg #[vg, vs], .agg #[.string x0, .string x1, .int .i64 x2, .int .i64 x3, .int .i64 x4, .string x5, .string y0, .string y1, .string y2, .int .i64 y3, .string y4]] w fun e w' => e = .returned (.bool true) ∧ Below w.heap.size w w' := by
  have HML := Lib.hid hml
  have HST := Lib.hid h
  have HG := Lib.hid hG
  have HS := Lib.hid hS
  obtain ⟨oa, ca, ob, cb, rfl⟩ := h.slices
  obtain ⟨om, cm, rfl, -, -⟩ := hG.form
  obtain ⟨ot, ct, rfl, -, -⟩ := hS.form
  clear h hml hG hS
  obtain ⟨R1, hR1⟩ : ∃ R, rightB m ns es nb eb = R := ⟨_, rfl⟩
  have HR1 := Lib.hid hR1
  clear hR1
  obtain ⟨R2, hR2⟩ : ∃ R, shortB ⟨x0, x1, x2, x3, x4, x5⟩ ⟨y0, y1, y2, y3, y4⟩ = R := ⟨_, rfl⟩
  have HR2 := Lib.hid hR2
  clear hR2
  go_enter Tryz.func3, Tryz.ntmps3
  go_wp2_with fail
  (go_at_call 6; refine (right_any _ ns es nb eb _ _ m gv _ (HST.out.below (by first | assumption | go_grown)) (HG.out.below (by first | assumption | go_grown)) (HS.out.below (by first | assumption | go_grown)) (HML.out.below (by first | assumption | go_grown))).mono ?_; rintro e_ w1 ⟨rfl, hb⟩)
  rw [HR1.out]
  have hsw1 := hb.size
  (try simp only [World.size_alloc, World.size_setCell] at hsw1)
  have zzw1 : w.heap.size < w1.heap.size := by omega
  have hPw1 : Below w.heap.size w w1 := below_step (w := w) (by first | exact Below.refl _ _ | go_grown) hb
  have zsw1 : w.heap.size < w1.heap.size := by omega
  have s0w1 : w1.cell? ⟨w.heap.size, 0, none⟩ = some (.slice oa ns ca) := (hb.cell (p := ⟨_, _, none⟩) (by simp <;> omega)).trans (by simp [go_sem])
  have s1w1 : w1.cell? ⟨w.heap.size, 1, none⟩ = some (.slice ob nb cb) := (hb.cell (p := ⟨_, _, none⟩) (by simp <;> omega)).trans (by simp [go_sem])
  have zmw1 : w.heap.size + 1 < w1.heap.size := by omega
  have m0w1 : w1.cell? ⟨w.heap.size + 1, 0, none⟩ = some (.slice om m.ng cm) := (hb.cell (p := ⟨_, _, none⟩) (by simp <;> omega)).trans (by simp [go_sem])
  have m1w1 : w1.cell? ⟨w.heap.size + 1, 1, none⟩ = some (.slice ot m.ns ct) := (hb.cell (p := ⟨_, _, none⟩) (by simp <;> omega)).trans (by simp [go_sem])
  have zgw1 : w.heap.size + 1 + 1 < w1.heap.size := by omega
  have g0w1 : w1.cell? ⟨w.heap.size + 1 + 1, 0, none⟩ = some (.string x0) := (hb.cell (p := ⟨_, _, none⟩) (by simp <;> omega)).trans (by simp [go_sem])
  have g1w1 : w1.cell? ⟨w.heap.size + 1 + 1, 1, none⟩ = some (.string x1) := (hb.cell (p := ⟨_, _, none⟩) (by simp <;> omega)).trans (by simp [go_sem])
  have g2w1 : w1.cell? ⟨w.heap.size + 1 + 1, 2, none⟩ = some (.int .i64 x2) := (hb.cell (p := ⟨_, _, none⟩) (by simp <;> omega)).trans (by simp [go_sem])
  have g3w1 : w1.cell? ⟨w.heap.size + 1 + 1, 3, none⟩ = some (.int .i64 x3) := (hb.cell (p := ⟨_, _, none⟩) (by simp <;> omega)).trans (by simp [go_sem])
  have g4w1 : w1.cell? ⟨w.heap.size + 1 + 1, 4, none⟩ = some (.int .i64 x4) := (hb.cell (p := ⟨_, _, none⟩) (by simp <;> omega)).trans (by simp [go_sem])
  have g5w1 : w1.cell? ⟨w.heap.size + 1 + 1, 5, none⟩ = some (.string x5) := (hb.cell (p := ⟨_, _, none⟩) (by simp <;> omega)).trans (by simp [go_sem])
  have g6w1 : w1.cell? ⟨w.heap.size + 1 + 1, 6, none⟩ = some (.string y0) := (hb.cell (p := ⟨_, _, none⟩) (by simp <;> omega)).trans (by simp [go_sem])
  have g7w1 : w1.cell? ⟨w.heap.size + 1 + 1, 7, none⟩ = some (.string y1) := (hb.cell (p := ⟨_, _, none⟩) (by simp <;> omega)).trans (by simp [go_sem])
  have g8w1 : w1.cell? ⟨w.heap.size + 1 + 1, 8, none⟩ = some (.string y2) := (hb.cell (p := ⟨_, _, none⟩) (by simp <;> omega)).trans (by simp [go_sem])
  have g9w1 : w1.cell? ⟨w.heap.size + 1 + 1, 9, none⟩ = some (.int .i64 y3) := (hb.cell (p := ⟨_, _, none⟩) (by simp <;> omega)).trans (by simp [go_sem])
  have g10w1 : w1.cell? ⟨w.heap.size + 1 + 1, 10, none⟩ = some (.string y4) := (hb.cell (p := ⟨_, _, none⟩) (by simp <;> omega)).trans (by simp [go_sem])
  have hBw1 : Below w.heap.size w w1 := below_step (w := w) (by first | assumption | go_grown) hb
  clear hb hsw1 hPw1
  cases R1 with
  | false =>
    go_wp2_with fail
    (go_at_call 8; refine (awake_any _ (HML.out.below (by first | assumption | go_grown))).mono ?_; rintro e_ w2 ⟨rfl, hb⟩)
    have hsw2 := hb.size
    (try simp only [World.size_alloc, World.size_setCell] at hsw2)
    have zzw2 : w.heap.size < w2.heap.size := by omega
    have hPw2 : Below w1.heap.size w1 w2 := below_step (w := w1) (by first | exact Below.refl _ _ | go_grown) hb
    have zsw2 : w.heap.size < w2.heap.size := by omega
    have s0w2 : w2.cell? ⟨w.heap.size, 0, none⟩ = some (.slice oa ns ca) := (hPw2.cell (p := ⟨_, _, none⟩) zsw1).trans s0w1
    have s1w2 : w2.cell? ⟨w.heap.size, 1, none⟩ = some (.slice ob nb cb) := (hPw2.cell (p := ⟨_, _, none⟩) zsw1).trans s1w1
    have zmw2 : w.heap.size + 1 < w2.heap.size := by omega
    have m0w2 : w2.cell? ⟨w.heap.size + 1, 0, none⟩ = some (.slice om m.ng cm) := (hPw2.cell (p := ⟨_, _, none⟩) zmw1).trans m0w1
    have m1w2 : w2.cell? ⟨w.heap.size + 1, 1, none⟩ = some (.slice ot m.ns ct) := (hPw2.cell (p := ⟨_, _, none⟩) zmw1).trans m1w1
    have zgw2 : w.heap.size + 1 + 1 < w2.heap.size := by omega
    have g0w2 : w2.cell? ⟨w.heap.size + 1 + 1, 0, none⟩ = some (.string x0) := (hPw2.cell (p := ⟨_, _, none⟩) zgw1).trans g0w1
    have g1w2 : w2.cell? ⟨w.heap.size + 1 + 1, 1, none⟩ = some (.string x1) := (hPw2.cell (p := ⟨_, _, none⟩) zgw1).trans g1w1
    have g2w2 : w2.cell? ⟨w.heap.size + 1 + 1, 2, none⟩ = some (.int .i64 x2) := (hPw2.cell (p := ⟨_, _, none⟩) zgw1).trans g2w1
    have g3w2 : w2.cell? ⟨w.heap.size + 1 + 1, 3, none⟩ = some (.int .i64 x3) := (hPw2.cell (p := ⟨_, _, none⟩) zgw1).trans g3w1
    have g4w2 : w2.cell? ⟨w.heap.size + 1 + 1, 4, none⟩ = some (.int .i64 x4) := (hPw2.cell (p := ⟨_, _, none⟩) zgw1).trans g4w1
    have g5w2 : w2.cell? ⟨w.heap.size + 1 + 1, 5, none⟩ = some (.string x5) := (hPw2.cell (p := ⟨_, _, none⟩) zgw1).trans g5w1
    have g6w2 : w2.cell? ⟨w.heap.size + 1 + 1, 6, none⟩ = some (.string y0) := (hPw2.cell (p := ⟨_, _, none⟩) zgw1).trans g6w1
    have g7w2 : w2.cell? ⟨w.heap.size + 1 + 1, 7, none⟩ = some (.string y1) := (hPw2.cell (p := ⟨_, _, none⟩) zgw1).trans g7w1
    have g8w2 : w2.cell? ⟨w.heap.size + 1 + 1, 8, none⟩ = some (.string y2) := (hPw2.cell (p := ⟨_, _, none⟩) zgw1).trans g8w1
    have g9w2 : w2.cell? ⟨w.heap.size + 1 + 1, 9, none⟩ = some (.int .i64 y3) := (hPw2.cell (p := ⟨_, _, none⟩) zgw1).trans g9w1
    have g10w2 : w2.cell? ⟨w.heap.size + 1 + 1, 10, none⟩ = some (.string y4) := (hPw2.cell (p := ⟨_, _, none⟩) zgw1).trans g10w1
    have hBw2 : Below w.heap.size w w2 := below_step (w := w) (by first | assumption | go_grown) hb
    clear hb hsw2 hPw2
    clear zsw1 zmw1 zgw1 s0w1 s1w1 m0w1 m1w1 g0w1 g1w1 g2w1 g3w1 g4w1 g5w1 g6w1 g7w1 g8w1 g9w1 g10w1
    go_wp2
    go_returns
    exact ⟨rfl, by assumption⟩
  | true =>
    have HR := Lib.hid (right_is HR1.out)
    have HM := Lib.hid (mfew_mat HR.out.mfew HG.out HS.out)
    clear HR1
    go_wp2_with fail
    (go_at_call 7; refine (short_any ⟨x0, x1, x2, x3, x4, x5⟩ ⟨y0, y1, y2, y3, y4⟩ _).mono ?_; rintro e_ w2 ⟨rfl, hb⟩)
    rw [HR2.out]
    have hsw2 := hb.size
    (try simp only [World.size_alloc, World.size_setCell] at hsw2)
    have zzw2 : w.heap.size < w2.heap.size := by omega
    have hPw2 : Below w1.heap.size w1 w2 := below_step (w := w1) (by first | exact Below.refl _ _ | go_grown) hb
    have zsw2 : w.heap.size < w2.heap.size := by omega
    have s0w2 : w2.cell? ⟨w.heap.size, 0, none⟩ = some (.slice oa ns ca) := (hPw2.cell (p := ⟨_, _, none⟩) zsw1).trans s0w1
    have s1w2 : w2.cell? ⟨w.heap.size, 1, none⟩ = some (.slice ob nb cb) := (hPw2.cell (p := ⟨_, _, none⟩) zsw1).trans s1w1
    have zmw2 : w.heap.size + 1 < w2.heap.size := by omega
    have m0w2 : w2.cell? ⟨w.heap.size + 1, 0, none⟩ = some (.slice om m.ng cm) := (hPw2.cell (p := ⟨_, _, none⟩) zmw1).trans m0w1
    have m1w2 : w2.cell? ⟨w.heap.size + 1, 1, none⟩ = some (.slice ot m.ns ct) := (hPw2.cell (p := ⟨_, _, none⟩) zmw1).trans m1w1
    have zgw2 : w.heap.size + 1 + 1 < w2.heap.size := by omega
    have g0w2 : w2.cell? ⟨w.heap.size + 1 + 1, 0, none⟩ = some (.string x0) := (hPw2.cell (p := ⟨_, _, none⟩) zgw1).trans g0w1
    have g1w2 : w2.cell? ⟨w.heap.size + 1 + 1, 1, none⟩ = some (.string x1) := (hPw2.cell (p := ⟨_, _, none⟩) zgw1).trans g1w1
    have g2w2 : w2.cell? ⟨w.heap.size + 1 + 1, 2, none⟩ = some (.int .i64 x2) := (hPw2.cell (p := ⟨_, _, none⟩) zgw1).trans g2w1
    have g3w2 : w2.cell? ⟨w.heap.size + 1 + 1, 3, none⟩ = some (.int .i64 x3) := (hPw2.cell (p := ⟨_, _, none⟩) zgw1).trans g3w1
    have g4w2 : w2.cell? ⟨w.heap.size + 1 + 1, 4, none⟩ = some (.int .i64 x4) := (hPw2.cell (p := ⟨_, _, none⟩) zgw1).trans g4w1
    have g5w2 : w2.cell? ⟨w.heap.size + 1 + 1, 5, none⟩ = some (.string x5) := (hPw2.cell (p := ⟨_, _, none⟩) zgw1).trans g5w1
    have g6w2 : w2.cell? ⟨w.heap.size + 1 + 1, 6, none⟩ = some (.string y0) := (hPw2.cell (p := ⟨_, _, none⟩) zgw1).trans g6w1
    have g7w2 : w2.cell? ⟨w.heap.size + 1 + 1, 7, none⟩ = some (.string y1) := (hPw2.cell (p := ⟨_, _, none⟩) zgw1).trans g7w1
    have g8w2 : w2.cell? ⟨w.heap.size + 1 + 1, 8, none⟩ = some (.string y2) := (hPw2.cell (p := ⟨_, _, none⟩) zgw1).trans g8w1
    have g9w2 : w2.cell? ⟨w.heap.size + 1 + 1, 9, none⟩ = some (.int .i64 y3) := (hPw2.cell (p := ⟨_, _, none⟩) zgw1).trans g9w1
    have g10w2 : w2.cell? ⟨w.heap.size + 1 + 1, 10, none⟩ = some (.string y4) := (hPw2.cell (p := ⟨_, _, none⟩) zgw1).trans g10w1
    have hBw2 : Below w.heap.size w w2 := below_step (w := w) (by first | assumption | go_grown) hb
    clear hb hsw2 hPw2
    clear zsw1 zmw1 zgw1 s0w1 s1w1 m0w1 m1w1 g0w1 g1w1 g2w1 g3w1 g4w1 g5w1 g6w1 g7w1 g8w1 g9w1 g10w1
    cases R2 with
    | false =>
      go_wp2_with fail
      (go_at_call 8; refine (awake_any _ (HML.out.below (by first | assumption | go_grown))).mono ?_; rintro e_ w3 ⟨rfl, hb⟩)
      have hsw3 := hb.size
      (try simp only [World.size_alloc, World.size_setCell] at hsw3)
      have zzw3 : w.heap.size < w3.heap.size := by omega
      have hPw3 : Below w2.heap.size w2 w3 := below_step (w := w2) (by first | exact Below.refl _ _ | go_grown) hb
      have zsw3 : w.heap.size < w3.heap.size := by omega
      have s0w3 : w3.cell? ⟨w.heap.size, 0, none⟩ = some (.slice oa ns ca) := (hPw3.cell (p := ⟨_, _, none⟩) zsw2).trans s0w2
      have s1w3 : w3.cell? ⟨w.heap.size, 1, none⟩ = some (.slice ob nb cb) := (hPw3.cell (p := ⟨_, _, none⟩) zsw2).trans s1w2
      have zmw3 : w.heap.size + 1 < w3.heap.size := by omega
      have m0w3 : w3.cell? ⟨w.heap.size + 1, 0, none⟩ = some (.slice om m.ng cm) := (hPw3.cell (p := ⟨_, _, none⟩) zmw2).trans m0w2
      have m1w3 : w3.cell? ⟨w.heap.size + 1, 1, none⟩ = some (.slice ot m.ns ct) := (hPw3.cell (p := ⟨_, _, none⟩) zmw2).trans m1w2
      have zgw3 : w.heap.size + 1 + 1 < w3.heap.size := by omega
      have g0w3 : w3.cell? ⟨w.heap.size + 1 + 1, 0, none⟩ = some (.string x0) := (hPw3.cell (p := ⟨_, _, none⟩) zgw2).trans g0w2
      have g1w3 : w3.cell? ⟨w.heap.size + 1 + 1, 1, none⟩ = some (.string x1) := (hPw3.cell (p := ⟨_, _, none⟩) zgw2).trans g1w2
      have g2w3 : w3.cell? ⟨w.heap.size + 1 + 1, 2, none⟩ = some (.int .i64 x2) := (hPw3.cell (p := ⟨_, _, none⟩) zgw2).trans g2w2
      have g3w3 : w3.cell? ⟨w.heap.size + 1 + 1, 3, none⟩ = some (.int .i64 x3) := (hPw3.cell (p := ⟨_, _, none⟩) zgw2).trans g3w2
      have g4w3 : w3.cell? ⟨w.heap.size + 1 + 1, 4, none⟩ = some (.int .i64 x4) := (hPw3.cell (p := ⟨_, _, none⟩) zgw2).trans g4w2
      have g5w3 : w3.cell? ⟨w.heap.size + 1 + 1, 5, none⟩ = some (.string x5) := (hPw3.cell (p := ⟨_, _, none⟩) zgw2).trans g5w2
      have g6w3 : w3.cell? ⟨w.heap.size + 1 + 1, 6, none⟩ = some (.string y0) := (hPw3.cell (p := ⟨_, _, none⟩) zgw2).trans g6w2
      have g7w3 : w3.cell? ⟨w.heap.size + 1 + 1, 7, none⟩ = some (.string y1) := (hPw3.cell (p := ⟨_, _, none⟩) zgw2).trans g7w2
      have g8w3 : w3.cell? ⟨w.heap.size + 1 + 1, 8, none⟩ = some (.string y2) := (hPw3.cell (p := ⟨_, _, none⟩) zgw2).trans g8w2
      have g9w3 : w3.cell? ⟨w.heap.size + 1 + 1, 9, none⟩ = some (.int .i64 y3) := (hPw3.cell (p := ⟨_, _, none⟩) zgw2).trans g9w2
      have g10w3 : w3.cell? ⟨w.heap.size + 1 + 1, 10, none⟩ = some (.string y4) := (hPw3.cell (p := ⟨_, _, none⟩) zgw2).trans g10w2
      have hBw3 : Below w.heap.size w w3 := below_step (w := w) (by first | assumption | go_grown) hb
      clear hb hsw3 hPw3
      clear zsw2 zmw2 zgw2 s0w2 s1w2 m0w2 m1w2 g0w2 g1w2 g2w2 g3w2 g4w2 g5w2 g6w2 g7w2 g8w2 g9w2 g10w2
      go_wp2
      go_returns
      exact ⟨rfl, by assumption⟩
    | true =>
      have HZX := Lib.hid (short_sizes HR2.out).1
      have HZY := Lib.hid (short_sizes HR2.out).2
      clear HR2
      obtain ⟨Ea, hEa⟩ : ∃ E, addS (sheetE m (⟨x0, x1, x2, x3, x4, x5⟩ : Sh)) (addE Sh.id es ns (⟨x0, x1, x2, x3, x4, x5⟩ : Sh)) = E := ⟨_, rfl⟩
      obtain ⟨Na1, hNa1⟩ : ∃ N, (if Ea = 0 then ns + 1 else 0) = N := ⟨_, rfl⟩
      have HNa1 := Lib.hid hNa1
      clear hNa1
      obtain ⟨Na2, hNa2⟩ : ∃ N, (if Ea = 0 then nb else 0) = N := ⟨_, rfl⟩
      have HNa2 := Lib.hid hNa2
      clear hNa2
      have HEa := Lib.hid hEa
      clear hEa
      obtain ⟨Ec, hEc⟩ : ∃ E, addS (barE m (⟨y0, y1, y2, y3, y4⟩ : Br)) (addE Br.id eb nb (⟨y0, y1, y2, y3, y4⟩ : Br)) = E := ⟨_, rfl⟩
      obtain ⟨Nc1, hNc1⟩ : ∃ N, (if Ec = 0 then ns else 0) = N := ⟨_, rfl⟩
      have HNc1 := Lib.hid hNc1
      clear hNc1
      obtain ⟨Nc2, hNc2⟩ : ∃ N, (if Ec = 0 then nb + 1 else 0) = N := ⟨_, rfl⟩
      have HNc2 := Lib.hid hNc2
      clear hNc2
      have HEc := Lib.hid hEc
      clear hEc
      go_wp2_with fail
      (go_at_call 9; refine (addSheet_gen HR.out _ _ gv (⟨x0, x1, x2, x3, x4, x5⟩ : Sh) _ Ea Na1 Na2 HEa.out HNa1.out HNa2.out (HST.out.below (by first | assumption | go_grown)) (HM.out.below (by first | assumption | go_grown)) HZX.out (HML.out.below (by first | assumption | go_grown))).mono ?_; rintro e_ w3 ⟨oa0, ca0, pa0, da0, rfl, hst, hb⟩)
      have hsw3 := hb.size
      (try simp only [World.size_alloc, World.size_setCell] at hsw3)
      have zzw3 : w.heap.size < w3.heap.size := by omega
      have hPw3 : Below w2.heap.size w2 w3 := below_step (w := w2) (by first | exact Below.refl _ _ | go_grown) hb
      have zsw3 : w.heap.size < w3.heap.size := by omega
      have s0w3 : w3.cell? ⟨w.heap.size, 0, none⟩ = some (.slice oa ns ca) := (hPw3.cell (p := ⟨_, _, none⟩) zsw2).trans s0w2
      have s1w3 : w3.cell? ⟨w.heap.size, 1, none⟩ = some (.slice ob nb cb) := (hPw3.cell (p := ⟨_, _, none⟩) zsw2).trans s1w2
      have zmw3 : w.heap.size + 1 < w3.heap.size := by omega
      have m0w3 : w3.cell? ⟨w.heap.size + 1, 0, none⟩ = some (.slice om m.ng cm) := (hPw3.cell (p := ⟨_, _, none⟩) zmw2).trans m0w2
      have m1w3 : w3.cell? ⟨w.heap.size + 1, 1, none⟩ = some (.slice ot m.ns ct) := (hPw3.cell (p := ⟨_, _, none⟩) zmw2).trans m1w2
      have zgw3 : w.heap.size + 1 + 1 < w3.heap.size := by omega
      have g0w3 : w3.cell? ⟨w.heap.size + 1 + 1, 0, none⟩ = some (.string x0) := (hPw3.cell (p := ⟨_, _, none⟩) zgw2).trans g0w2
      have g1w3 : w3.cell? ⟨w.heap.size + 1 + 1, 1, none⟩ = some (.string x1) := (hPw3.cell (p := ⟨_, _, none⟩) zgw2).trans g1w2
      have g2w3 : w3.cell? ⟨w.heap.size + 1 + 1, 2, none⟩ = some (.int .i64 x2) := (hPw3.cell (p := ⟨_, _, none⟩) zgw2).trans g2w2
      have g3w3 : w3.cell? ⟨w.heap.size + 1 + 1, 3, none⟩ = some (.int .i64 x3) := (hPw3.cell (p := ⟨_, _, none⟩) zgw2).trans g3w2
      have g4w3 : w3.cell? ⟨w.heap.size + 1 + 1, 4, none⟩ = some (.int .i64 x4) := (hPw3.cell (p := ⟨_, _, none⟩) zgw2).trans g4w2
      have g5w3 : w3.cell? ⟨w.heap.size + 1 + 1, 5, none⟩ = some (.string x5) := (hPw3.cell (p := ⟨_, _, none⟩) zgw2).trans g5w2
      have g6w3 : w3.cell? ⟨w.heap.size + 1 + 1, 6, none⟩ = some (.string y0) := (hPw3.cell (p := ⟨_, _, none⟩) zgw2).trans g6w2
      have g7w3 : w3.cell? ⟨w.heap.size + 1 + 1, 7, none⟩ = some (.string y1) := (hPw3.cell (p := ⟨_, _, none⟩) zgw2).trans g7w2
      have g8w3 : w3.cell? ⟨w.heap.size + 1 + 1, 8, none⟩ = some (.string y2) := (hPw3.cell (p := ⟨_, _, none⟩) zgw2).trans g8w2
      have g9w3 : w3.cell? ⟨w.heap.size + 1 + 1, 9, none⟩ = some (.int .i64 y3) := (hPw3.cell (p := ⟨_, _, none⟩) zgw2).trans g9w2
      have g10w3 : w3.cell? ⟨w.heap.size + 1 + 1, 10, none⟩ = some (.string y4) := (hPw3.cell (p := ⟨_, _, none⟩) zgw2).trans g10w2
      have hBw3 : Below w.heap.size w w3 := below_step (w := w) (by first | assumption | go_grown) hb
      have Ha0 := Lib.hid hst
      clear hst
      clear hb hsw3 hPw3
      clear zsw2 zmw2 zgw2 s0w2 s1w2 m0w2 m1w2 g0w2 g1w2 g2w2 g3w2 g4w2 g5w2 g6w2 g7w2 g8w2 g9w2 g10w2
      go_wp2_with fail
      (go_at_call 10; refine (raddSheet_gen HR.out _ _ gv (⟨x0, x1, x2, x3, x4, x5⟩ : Sh) _ Ea Na1 Na2 HEa.out HNa1.out HNa2.out (HST.out.below (by first | assumption | go_grown)) (HM.out.below (by first | assumption | go_grown)) HZX.out (HML.out.below (by first | assumption | go_grown))).mono ?_; rintro e_ w4 ⟨oa1, ca1, pa1, da1, rfl, hst, hb⟩)
      have hsw4 := hb.size
      (try simp only [World.size_alloc, World.size_setCell] at hsw4)
      have zzw4 : w.heap.size < w4.heap.size := by omega
      have hPw4 : Below w3.heap.size w3 w4 := below_step (w := w3) (by first | exact Below.refl _ _ | go_grown) hb
      have zsw4 : w.heap.size < w4.heap.size := by omega
      have s0w4 : w4.cell? ⟨w.heap.size, 0, none⟩ = some (.slice oa ns ca) := (hPw4.cell (p := ⟨_, _, none⟩) zsw3).trans s0w3
      have s1w4 : w4.cell? ⟨w.heap.size, 1, none⟩ = some (.slice ob nb cb) := (hPw4.cell (p := ⟨_, _, none⟩) zsw3).trans s1w3
      have zmw4 : w.heap.size + 1 < w4.heap.size := by omega
      have m0w4 : w4.cell? ⟨w.heap.size + 1, 0, none⟩ = some (.slice om m.ng cm) := (hPw4.cell (p := ⟨_, _, none⟩) zmw3).trans m0w3
      have m1w4 : w4.cell? ⟨w.heap.size + 1, 1, none⟩ = some (.slice ot m.ns ct) := (hPw4.cell (p := ⟨_, _, none⟩) zmw3).trans m1w3
      have zgw4 : w.heap.size + 1 + 1 < w4.heap.size := by omega
      have g0w4 : w4.cell? ⟨w.heap.size + 1 + 1, 0, none⟩ = some (.string x0) := (hPw4.cell (p := ⟨_, _, none⟩) zgw3).trans g0w3
      have g1w4 : w4.cell? ⟨w.heap.size + 1 + 1, 1, none⟩ = some (.string x1) := (hPw4.cell (p := ⟨_, _, none⟩) zgw3).trans g1w3
      have g2w4 : w4.cell? ⟨w.heap.size + 1 + 1, 2, none⟩ = some (.int .i64 x2) := (hPw4.cell (p := ⟨_, _, none⟩) zgw3).trans g2w3
      have g3w4 : w4.cell? ⟨w.heap.size + 1 + 1, 3, none⟩ = some (.int .i64 x3) := (hPw4.cell (p := ⟨_, _, none⟩) zgw3).trans g3w3
      have g4w4 : w4.cell? ⟨w.heap.size + 1 + 1, 4, none⟩ = some (.int .i64 x4) := (hPw4.cell (p := ⟨_, _, none⟩) zgw3).trans g4w3
      have g5w4 : w4.cell? ⟨w.heap.size + 1 + 1, 5, none⟩ = some (.string x5) := (hPw4.cell (p := ⟨_, _, none⟩) zgw3).trans g5w3
      have g6w4 : w4.cell? ⟨w.heap.size + 1 + 1, 6, none⟩ = some (.string y0) := (hPw4.cell (p := ⟨_, _, none⟩) zgw3).trans g6w3
      have g7w4 : w4.cell? ⟨w.heap.size + 1 + 1, 7, none⟩ = some (.string y1) := (hPw4.cell (p := ⟨_, _, none⟩) zgw3).trans g7w3
      have g8w4 : w4.cell? ⟨w.heap.size + 1 + 1, 8, none⟩ = some (.string y2) := (hPw4.cell (p := ⟨_, _, none⟩) zgw3).trans g8w3
      have g9w4 : w4.cell? ⟨w.heap.size + 1 + 1, 9, none⟩ = some (.int .i64 y3) := (hPw4.cell (p := ⟨_, _, none⟩) zgw3).trans g9w3
      have g10w4 : w4.cell? ⟨w.heap.size + 1 + 1, 10, none⟩ = some (.string y4) := (hPw4.cell (p := ⟨_, _, none⟩) zgw3).trans g10w3
      have za0w4 : w3.heap.size < w4.heap.size := by omega
      have a00w4 : w4.cell? ⟨w3.heap.size, 0, none⟩ = some (.slice oa0 Na1 ca0) := (hb.cell (p := ⟨_, _, none⟩) (by simp <;> omega)).trans (by simp [go_sem])
      have a01w4 : w4.cell? ⟨w3.heap.size, 1, none⟩ = some (.slice pa0 Na2 da0) := (hb.cell (p := ⟨_, _, none⟩) (by simp <;> omega)).trans (by simp [go_sem])
      replace Ha0 := Lib.hid (Ha0.out.below hPw4)
      have hBw4 : Below w.heap.size w w4 := below_step (w := w) (by first | assumption | go_grown) hb
      have Ha1 := Lib.hid hst
      clear hst
      clear hb hsw4 hPw4
      clear zsw3 zmw3 zgw3 s0w3 s1w3 m0w3 m1w3 g0w3 g1w3 g2w3 g3w3 g4w3 g5w3 g6w3 g7w3 g8w3 g9w3 g10w3
      go_wp2_with fail
      (go_at_call 11; refine (addBar_gen HR.out _ _ gv (⟨y0, y1, y2, y3, y4⟩ : Br) _ Ec Nc1 Nc2 HEc.out HNc1.out HNc2.out (HST.out.below (by first | assumption | go_grown)) (HM.out.below (by first | assumption | go_grown)) HZY.out (HML.out.below (by first | assumption | go_grown))).mono ?_; rintro e_ w5 ⟨oc0, cc0, pc0, dc0, rfl, hst, hb⟩)
      have hsw5 := hb.size
      (try simp only [World.size_alloc, World.size_setCell] at hsw5)
      have zzw5 : w.heap.size < w5.heap.size := by omega
      have hPw5 : Below w4.heap.size w4 w5 := below_step (w := w4) (by first | exact Below.refl _ _ | go_grown) hb
      have zsw5 : w.heap.size < w5.heap.size := by omega
      have s0w5 : w5.cell? ⟨w.heap.size, 0, none⟩ = some (.slice oa ns ca) := (hPw5.cell (p := ⟨_, _, none⟩) zsw4).trans s0w4
      have s1w5 : w5.cell? ⟨w.heap.size, 1, none⟩ = some (.slice ob nb cb) := (hPw5.cell (p := ⟨_, _, none⟩) zsw4).trans s1w4
      have zmw5 : w.heap.size + 1 < w5.heap.size := by omega
      have m0w5 : w5.cell? ⟨w.heap.size + 1, 0, none⟩ = some (.slice om m.ng cm) := (hPw5.cell (p := ⟨_, _, none⟩) zmw4).trans m0w4
      have m1w5 : w5.cell? ⟨w.heap.size + 1, 1, none⟩ = some (.slice ot m.ns ct) := (hPw5.cell (p := ⟨_, _, none⟩) zmw4).trans m1w4
      have zgw5 : w.heap.size + 1 + 1 < w5.heap.size := by omega
      have g0w5 : w5.cell? ⟨w.heap.size + 1 + 1, 0, none⟩ = some (.string x0) := (hPw5.cell (p := ⟨_, _, none⟩) zgw4).trans g0w4
      have g1w5 : w5.cell? ⟨w.heap.size + 1 + 1, 1, none⟩ = some (.string x1) := (hPw5.cell (p := ⟨_, _, none⟩) zgw4).trans g1w4
      have g2w5 : w5.cell? ⟨w.heap.size + 1 + 1, 2, none⟩ = some (.int .i64 x2) := (hPw5.cell (p := ⟨_, _, none⟩) zgw4).trans g2w4
      have g3w5 : w5.cell? ⟨w.heap.size + 1 + 1, 3, none⟩ = some (.int .i64 x3) := (hPw5.cell (p := ⟨_, _, none⟩) zgw4).trans g3w4
      have g4w5 : w5.cell? ⟨w.heap.size + 1 + 1, 4, none⟩ = some (.int .i64 x4) := (hPw5.cell (p := ⟨_, _, none⟩) zgw4).trans g4w4
      have g5w5 : w5.cell? ⟨w.heap.size + 1 + 1, 5, none⟩ = some (.string x5) := (hPw5.cell (p := ⟨_, _, none⟩) zgw4).trans g5w4
      have g6w5 : w5.cell? ⟨w.heap.size + 1 + 1, 6, none⟩ = some (.string y0) := (hPw5.cell (p := ⟨_, _, none⟩) zgw4).trans g6w4
      have g7w5 : w5.cell? ⟨w.heap.size + 1 + 1, 7, none⟩ = some (.string y1) := (hPw5.cell (p := ⟨_, _, none⟩) zgw4).trans g7w4
      have g8w5 : w5.cell? ⟨w.heap.size + 1 + 1, 8, none⟩ = some (.string y2) := (hPw5.cell (p := ⟨_, _, none⟩) zgw4).trans g8w4
      have g9w5 : w5.cell? ⟨w.heap.size + 1 + 1, 9, none⟩ = some (.int .i64 y3) := (hPw5.cell (p := ⟨_, _, none⟩) zgw4).trans g9w4
      have g10w5 : w5.cell? ⟨w.heap.size + 1 + 1, 10, none⟩ = some (.string y4) := (hPw5.cell (p := ⟨_, _, none⟩) zgw4).trans g10w4
      have za0w5 : w3.heap.size < w5.heap.size := by omega
      have a00w5 : w5.cell? ⟨w3.heap.size, 0, none⟩ = some (.slice oa0 Na1 ca0) := (hPw5.cell (p := ⟨_, _, none⟩) za0w4).trans a00w4
      have a01w5 : w5.cell? ⟨w3.heap.size, 1, none⟩ = some (.slice pa0 Na2 da0) := (hPw5.cell (p := ⟨_, _, none⟩) za0w4).trans a01w4
      have za1w5 : w4.heap.size < w5.heap.size := by omega
      have a10w5 : w5.cell? ⟨w4.heap.size, 0, none⟩ = some (.slice oa1 Na1 ca1) := (hb.cell (p := ⟨_, _, none⟩) (by simp <;> omega)).trans (by simp [go_sem])
      have a11w5 : w5.cell? ⟨w4.heap.size, 1, none⟩ = some (.slice pa1 Na2 da1) := (hb.cell (p := ⟨_, _, none⟩) (by simp <;> omega)).trans (by simp [go_sem])
      replace Ha0 := Lib.hid (Ha0.out.below hPw5)
      replace Ha1 := Lib.hid (Ha1.out.below hPw5)
      have hBw5 : Below w.heap.size w w5 := below_step (w := w) (by first | assumption | go_grown) hb
      have Hc0 := Lib.hid hst
      clear hst
      clear hb hsw5 hPw5
      clear zsw4 zmw4 zgw4 za0w4 s0w4 s1w4 m0w4 m1w4 g0w4 g1w4 g2w4 g3w4 g4w4 g5w4 g6w4 g7w4 g8w4 g9w4 g10w4 a00w4 a01w4
      go_wp2_with fail
      (go_at_call 12; refine (raddBar_gen HR.out _ _ gv (⟨y0, y1, y2, y3, y4⟩ : Br) _ Ec Nc1 Nc2 HEc.out HNc1.out HNc2.out (HST.out.below (by first | assumption | go_grown)) (HM.out.below (by first | assumption | go_grown)) HZY.out (HML.out.below (by first | assumption | go_grown))).mono ?_; rintro e_ w6 ⟨oc1, cc1, pc1, dc1, rfl, hst, hb⟩)
      have hsw6 := hb.size
      (try simp only [World.size_alloc, World.size_setCell] at hsw6)
      have zzw6 : w.heap.size < w6.heap.size := by omega
      have hPw6 : Below w5.heap.size w5 w6 := below_step (w := w5) (by first | exact Below.refl _ _ | go_grown) hb
      have zsw6 : w.heap.size < w6.heap.size := by omega
      have s0w6 : w6.cell? ⟨w.heap.size, 0, none⟩ = some (.slice oa ns ca) := (hPw6.cell (p := ⟨_, _, none⟩) zsw5).trans s0w5
      have s1w6 : w6.cell? ⟨w.heap.size, 1, none⟩ = some (.slice ob nb cb) := (hPw6.cell (p := ⟨_, _, none⟩) zsw5).trans s1w5
      have zmw6 : w.heap.size + 1 < w6.heap.size := by omega
      have m0w6 : w6.cell? ⟨w.heap.size + 1, 0, none⟩ = some (.slice om m.ng cm) := (hPw6.cell (p := ⟨_, _, none⟩) zmw5).trans m0w5
      have m1w6 : w6.cell? ⟨w.heap.size + 1, 1, none⟩ = some (.slice ot m.ns ct) := (hPw6.cell (p := ⟨_, _, none⟩) zmw5).trans m1w5
      have zgw6 : w.heap.size + 1 + 1 < w6.heap.size := by omega
      have g0w6 : w6.cell? ⟨w.heap.size + 1 + 1, 0, none⟩ = some (.string x0) := (hPw6.cell (p := ⟨_, _, none⟩) zgw5).trans g0w5
      have g1w6 : w6.cell? ⟨w.heap.size + 1 + 1, 1, none⟩ = some (.string x1) := (hPw6.cell (p := ⟨_, _, none⟩) zgw5).trans g1w5
      have g2w6 : w6.cell? ⟨w.heap.size + 1 + 1, 2, none⟩ = some (.int .i64 x2) := (hPw6.cell (p := ⟨_, _, none⟩) zgw5).trans g2w5
      have g3w6 : w6.cell? ⟨w.heap.size + 1 + 1, 3, none⟩ = some (.int .i64 x3) := (hPw6.cell (p := ⟨_, _, none⟩) zgw5).trans g3w5
      have g4w6 : w6.cell? ⟨w.heap.size + 1 + 1, 4, none⟩ = some (.int .i64 x4) := (hPw6.cell (p := ⟨_, _, none⟩) zgw5).trans g4w5
      have g5w6 : w6.cell? ⟨w.heap.size + 1 + 1, 5, none⟩ = some (.string x5) := (hPw6.cell (p := ⟨_, _, none⟩) zgw5).trans g5w5
      have g6w6 : w6.cell? ⟨w.heap.size + 1 + 1, 6, none⟩ = some (.string y0) := (hPw6.cell (p := ⟨_, _, none⟩) zgw5).trans g6w5
      have g7w6 : w6.cell? ⟨w.heap.size + 1 + 1, 7, none⟩ = some (.string y1) := (hPw6.cell (p := ⟨_, _, none⟩) zgw5).trans g7w5
      have g8w6 : w6.cell? ⟨w.heap.size + 1 + 1, 8, none⟩ = some (.string y2) := (hPw6.cell (p := ⟨_, _, none⟩) zgw5).trans g8w5
      have g9w6 : w6.cell? ⟨w.heap.size + 1 + 1, 9, none⟩ = some (.int .i64 y3) := (hPw6.cell (p := ⟨_, _, none⟩) zgw5).trans g9w5
      have g10w6 : w6.cell? ⟨w.heap.size + 1 + 1, 10, none⟩ = some (.string y4) := (hPw6.cell (p := ⟨_, _, none⟩) zgw5).trans g10w5
      have za0w6 : w3.heap.size < w6.heap.size := by omega
      have a00w6 : w6.cell? ⟨w3.heap.size, 0, none⟩ = some (.slice oa0 Na1 ca0) := (hPw6.cell (p := ⟨_, _, none⟩) za0w5).trans a00w5
      have a01w6 : w6.cell? ⟨w3.heap.size, 1, none⟩ = some (.slice pa0 Na2 da0) := (hPw6.cell (p := ⟨_, _, none⟩) za0w5).trans a01w5
      have za1w6 : w4.heap.size < w6.heap.size := by omega
      have a10w6 : w6.cell? ⟨w4.heap.size, 0, none⟩ = some (.slice oa1 Na1 ca1) := (hPw6.cell (p := ⟨_, _, none⟩) za1w5).trans a10w5
      have a11w6 : w6.cell? ⟨w4.heap.size, 1, none⟩ = some (.slice pa1 Na2 da1) := (hPw6.cell (p := ⟨_, _, none⟩) za1w5).trans a11w5
      have zc0w6 : w5.heap.size < w6.heap.size := by omega
      have c00w6 : w6.cell? ⟨w5.heap.size, 0, none⟩ = some (.slice oc0 Nc1 cc0) := (hb.cell (p := ⟨_, _, none⟩) (by simp <;> omega)).trans (by simp [go_sem])
      have c01w6 : w6.cell? ⟨w5.heap.size, 1, none⟩ = some (.slice pc0 Nc2 dc0) := (hb.cell (p := ⟨_, _, none⟩) (by simp <;> omega)).trans (by simp [go_sem])
      replace Ha0 := Lib.hid (Ha0.out.below hPw6)
      replace Ha1 := Lib.hid (Ha1.out.below hPw6)
      replace Hc0 := Lib.hid (Hc0.out.below hPw6)
      have hBw6 : Below w.heap.size w w6 := below_step (w := w) (by first | assumption | go_grown) hb
      have Hc1 := Lib.hid hst
      clear hst
      clear hb hsw6 hPw6
      clear zsw5 zmw5 zgw5 za0w5 za1w5 s0w5 s1w5 m0w5 m1w5 g0w5 g1w5 g2w5 g3w5 g4w5 g5w5 g6w5 g7w5 g8w5 g9w5 g10w5 a00w5 a01w5 a10w5 a11w5
      go_wp2_with fail
      (go_at_call 13; refine (rsame_self _ (Ha0.out.below (by first | exact Below.refl _ _ | go_grown)) (Ha1.out.below (by first | exact Below.refl _ _ | go_grown))).mono ?_; rintro e_ w7 ⟨rfl, hb⟩)
      have hsw7 := hb.size
      (try simp only [World.size_alloc, World.size_setCell] at hsw7)
      have zzw7 : w.heap.size < w7.heap.size := by omega
      have hPw7 : Below w6.heap.size w6 w7 := below_step (w := w6) (by first | exact Below.refl _ _ | go_grown) hb
      have zsw7 : w.heap.size < w7.heap.size := by omega
      have s0w7 : w7.cell? ⟨w.heap.size, 0, none⟩ = some (.slice oa ns ca) := (hPw7.cell (p := ⟨_, _, none⟩) zsw6).trans s0w6
      have s1w7 : w7.cell? ⟨w.heap.size, 1, none⟩ = some (.slice ob nb cb) := (hPw7.cell (p := ⟨_, _, none⟩) zsw6).trans s1w6
      have zmw7 : w.heap.size + 1 < w7.heap.size := by omega
      have m0w7 : w7.cell? ⟨w.heap.size + 1, 0, none⟩ = some (.slice om m.ng cm) := (hPw7.cell (p := ⟨_, _, none⟩) zmw6).trans m0w6
      have m1w7 : w7.cell? ⟨w.heap.size + 1, 1, none⟩ = some (.slice ot m.ns ct) := (hPw7.cell (p := ⟨_, _, none⟩) zmw6).trans m1w6
      have zgw7 : w.heap.size + 1 + 1 < w7.heap.size := by omega
      have g0w7 : w7.cell? ⟨w.heap.size + 1 + 1, 0, none⟩ = some (.string x0) := (hPw7.cell (p := ⟨_, _, none⟩) zgw6).trans g0w6
      have g1w7 : w7.cell? ⟨w.heap.size + 1 + 1, 1, none⟩ = some (.string x1) := (hPw7.cell (p := ⟨_, _, none⟩) zgw6).trans g1w6
      have g2w7 : w7.cell? ⟨w.heap.size + 1 + 1, 2, none⟩ = some (.int .i64 x2) := (hPw7.cell (p := ⟨_, _, none⟩) zgw6).trans g2w6
      have g3w7 : w7.cell? ⟨w.heap.size + 1 + 1, 3, none⟩ = some (.int .i64 x3) := (hPw7.cell (p := ⟨_, _, none⟩) zgw6).trans g3w6
      have g4w7 : w7.cell? ⟨w.heap.size + 1 + 1, 4, none⟩ = some (.int .i64 x4) := (hPw7.cell (p := ⟨_, _, none⟩) zgw6).trans g4w6
      have g5w7 : w7.cell? ⟨w.heap.size + 1 + 1, 5, none⟩ = some (.string x5) := (hPw7.cell (p := ⟨_, _, none⟩) zgw6).trans g5w6
      have g6w7 : w7.cell? ⟨w.heap.size + 1 + 1, 6, none⟩ = some (.string y0) := (hPw7.cell (p := ⟨_, _, none⟩) zgw6).trans g6w6
      have g7w7 : w7.cell? ⟨w.heap.size + 1 + 1, 7, none⟩ = some (.string y1) := (hPw7.cell (p := ⟨_, _, none⟩) zgw6).trans g7w6
      have g8w7 : w7.cell? ⟨w.heap.size + 1 + 1, 8, none⟩ = some (.string y2) := (hPw7.cell (p := ⟨_, _, none⟩) zgw6).trans g8w6
      have g9w7 : w7.cell? ⟨w.heap.size + 1 + 1, 9, none⟩ = some (.int .i64 y3) := (hPw7.cell (p := ⟨_, _, none⟩) zgw6).trans g9w6
      have g10w7 : w7.cell? ⟨w.heap.size + 1 + 1, 10, none⟩ = some (.string y4) := (hPw7.cell (p := ⟨_, _, none⟩) zgw6).trans g10w6
      have za0w7 : w3.heap.size < w7.heap.size := by omega
      have a00w7 : w7.cell? ⟨w3.heap.size, 0, none⟩ = some (.slice oa0 Na1 ca0) := (hPw7.cell (p := ⟨_, _, none⟩) za0w6).trans a00w6
      have a01w7 : w7.cell? ⟨w3.heap.size, 1, none⟩ = some (.slice pa0 Na2 da0) := (hPw7.cell (p := ⟨_, _, none⟩) za0w6).trans a01w6
      have za1w7 : w4.heap.size < w7.heap.size := by omega
      have a10w7 : w7.cell? ⟨w4.heap.size, 0, none⟩ = some (.slice oa1 Na1 ca1) := (hPw7.cell (p := ⟨_, _, none⟩) za1w6).trans a10w6
      have a11w7 : w7.cell? ⟨w4.heap.size, 1, none⟩ = some (.slice pa1 Na2 da1) := (hPw7.cell (p := ⟨_, _, none⟩) za1w6).trans a11w6
      have zc0w7 : w5.heap.size < w7.heap.size := by omega
      have c00w7 : w7.cell? ⟨w5.heap.size, 0, none⟩ = some (.slice oc0 Nc1 cc0) := (hPw7.cell (p := ⟨_, _, none⟩) zc0w6).trans c00w6
      have c01w7 : w7.cell? ⟨w5.heap.size, 1, none⟩ = some (.slice pc0 Nc2 dc0) := (hPw7.cell (p := ⟨_, _, none⟩) zc0w6).trans c01w6
      have zc1w7 : w6.heap.size < w7.heap.size := by omega
      have c10w7 : w7.cell? ⟨w6.heap.size, 0, none⟩ = some (.slice oc1 Nc1 cc1) := (hb.cell (p := ⟨_, _, none⟩) (by simp <;> omega)).trans (by simp [go_sem])
      have c11w7 : w7.cell? ⟨w6.heap.size, 1, none⟩ = some (.slice pc1 Nc2 dc1) := (hb.cell (p := ⟨_, _, none⟩) (by simp <;> omega)).trans (by simp [go_sem])
      replace Ha0 := Lib.hid (Ha0.out.below hPw7)
      replace Ha1 := Lib.hid (Ha1.out.below hPw7)
      replace Hc0 := Lib.hid (Hc0.out.below hPw7)
      replace Hc1 := Lib.hid (Hc1.out.below hPw7)
      have hBw7 : Below w.heap.size w w7 := below_step (w := w) (by first | assumption | go_grown) hb
      clear hb hsw7 hPw7
      clear zsw6 zmw6 zgw6 za0w6 za1w6 zc0w6 s0w6 s1w6 m0w6 m1w6 g0w6 g1w6 g2w6 g3w6 g4w6 g5w6 g6w6 g7w6 g8w6 g9w6 g10w6 a00w6 a01w6 a10w6 a11w6 c00w6 c01w6
      go_wp2_with fail
      (go_at_call 13; refine (rsame_self _ (Hc0.out.below (by first | exact Below.refl _ _ | go_grown)) (Hc1.out.below (by first | exact Below.refl _ _ | go_grown))).mono ?_; rintro e_ w8 ⟨rfl, hb⟩)
      have hsw8 := hb.size
      (try simp only [World.size_alloc, World.size_setCell] at hsw8)
      have zzw8 : w.heap.size < w8.heap.size := by omega
      have hPw8 : Below w7.heap.size w7 w8 := below_step (w := w7) (by first | exact Below.refl _ _ | go_grown) hb
      have zsw8 : w.heap.size < w8.heap.size := by omega
      have s0w8 : w8.cell? ⟨w.heap.size, 0, none⟩ = some (.slice oa ns ca) := (hPw8.cell (p := ⟨_, _, none⟩) zsw7).trans s0w7
      have s1w8 : w8.cell? ⟨w.heap.size, 1, none⟩ = some (.slice ob nb cb) := (hPw8.cell (p := ⟨_, _, none⟩) zsw7).trans s1w7
      have zmw8 : w.heap.size + 1 < w8.heap.size := by omega
      have m0w8 : w8.cell? ⟨w.heap.size + 1, 0, none⟩ = some (.slice om m.ng cm) := (hPw8.cell (p := ⟨_, _, none⟩) zmw7).trans m0w7
      have m1w8 : w8.cell? ⟨w.heap.size + 1, 1, none⟩ = some (.slice ot m.ns ct) := (hPw8.cell (p := ⟨_, _, none⟩) zmw7).trans m1w7
      have zgw8 : w.heap.size + 1 + 1 < w8.heap.size := by omega
      have g0w8 : w8.cell? ⟨w.heap.size + 1 + 1, 0, none⟩ = some (.string x0) := (hPw8.cell (p := ⟨_, _, none⟩) zgw7).trans g0w7
      have g1w8 : w8.cell? ⟨w.heap.size + 1 + 1, 1, none⟩ = some (.string x1) := (hPw8.cell (p := ⟨_, _, none⟩) zgw7).trans g1w7
      have g2w8 : w8.cell? ⟨w.heap.size + 1 + 1, 2, none⟩ = some (.int .i64 x2) := (hPw8.cell (p := ⟨_, _, none⟩) zgw7).trans g2w7
      have g3w8 : w8.cell? ⟨w.heap.size + 1 + 1, 3, none⟩ = some (.int .i64 x3) := (hPw8.cell (p := ⟨_, _, none⟩) zgw7).trans g3w7
      have g4w8 : w8.cell? ⟨w.heap.size + 1 + 1, 4, none⟩ = some (.int .i64 x4) := (hPw8.cell (p := ⟨_, _, none⟩) zgw7).trans g4w7
      have g5w8 : w8.cell? ⟨w.heap.size + 1 + 1, 5, none⟩ = some (.string x5) := (hPw8.cell (p := ⟨_, _, none⟩) zgw7).trans g5w7
      have g6w8 : w8.cell? ⟨w.heap.size + 1 + 1, 6, none⟩ = some (.string y0) := (hPw8.cell (p := ⟨_, _, none⟩) zgw7).trans g6w7
      have g7w8 : w8.cell? ⟨w.heap.size + 1 + 1, 7, none⟩ = some (.string y1) := (hPw8.cell (p := ⟨_, _, none⟩) zgw7).trans g7w7
      have g8w8 : w8.cell? ⟨w.heap.size + 1 + 1, 8, none⟩ = some (.string y2) := (hPw8.cell (p := ⟨_, _, none⟩) zgw7).trans g8w7
      have g9w8 : w8.cell? ⟨w.heap.size + 1 + 1, 9, none⟩ = some (.int .i64 y3) := (hPw8.cell (p := ⟨_, _, none⟩) zgw7).trans g9w7
      have g10w8 : w8.cell? ⟨w.heap.size + 1 + 1, 10, none⟩ = some (.string y4) := (hPw8.cell (p := ⟨_, _, none⟩) zgw7).trans g10w7
      have za0w8 : w3.heap.size < w8.heap.size := by omega
      have a00w8 : w8.cell? ⟨w3.heap.size, 0, none⟩ = some (.slice oa0 Na1 ca0) := (hPw8.cell (p := ⟨_, _, none⟩) za0w7).trans a00w7
      have a01w8 : w8.cell? ⟨w3.heap.size, 1, none⟩ = some (.slice pa0 Na2 da0) := (hPw8.cell (p := ⟨_, _, none⟩) za0w7).trans a01w7
      have za1w8 : w4.heap.size < w8.heap.size := by omega
      have a10w8 : w8.cell? ⟨w4.heap.size, 0, none⟩ = some (.slice oa1 Na1 ca1) := (hPw8.cell (p := ⟨_, _, none⟩) za1w7).trans a10w7
      have a11w8 : w8.cell? ⟨w4.heap.size, 1, none⟩ = some (.slice pa1 Na2 da1) := (hPw8.cell (p := ⟨_, _, none⟩) za1w7).trans a11w7
      have zc0w8 : w5.heap.size < w8.heap.size := by omega
      have c00w8 : w8.cell? ⟨w5.heap.size, 0, none⟩ = some (.slice oc0 Nc1 cc0) := (hPw8.cell (p := ⟨_, _, none⟩) zc0w7).trans c00w7
      have c01w8 : w8.cell? ⟨w5.heap.size, 1, none⟩ = some (.slice pc0 Nc2 dc0) := (hPw8.cell (p := ⟨_, _, none⟩) zc0w7).trans c01w7
      have zc1w8 : w6.heap.size < w8.heap.size := by omega
      have c10w8 : w8.cell? ⟨w6.heap.size, 0, none⟩ = some (.slice oc1 Nc1 cc1) := (hPw8.cell (p := ⟨_, _, none⟩) zc1w7).trans c10w7
      have c11w8 : w8.cell? ⟨w6.heap.size, 1, none⟩ = some (.slice pc1 Nc2 dc1) := (hPw8.cell (p := ⟨_, _, none⟩) zc1w7).trans c11w7
      replace Ha0 := Lib.hid (Ha0.out.below hPw8)
      replace Ha1 := Lib.hid (Ha1.out.below hPw8)
      replace Hc0 := Lib.hid (Hc0.out.below hPw8)
      replace Hc1 := Lib.hid (Hc1.out.below hPw8)
      have hBw8 : Below w.heap.size w w8 := below_step (w := w) (by first | assumption | go_grown) hb
      clear hb hsw8 hPw8
      clear zsw7 zmw7 zgw7 za0w7 za1w7 zc0w7 zc1w7 s0w7 s1w7 m0w7 m1w7 g0w7 g1w7 g2w7 g3w7 g4w7 g5w7 g6w7 g7w7 g8w7 g9w7 g10w7 a00w7 a01w7 a10w7 a11w7 c00w7 c01w7 c10w7 c11w7
      go_wp2_with fail
      (go_at_call 8; refine (awake_any _ (HML.out.below (by first | assumption | go_grown))).mono ?_; rintro e_ w9 ⟨rfl, hb⟩)
      have hsw9 := hb.size
      (try simp only [World.size_alloc, World.size_setCell] at hsw9)
      have zzw9 : w.heap.size < w9.heap.size := by omega
      have hPw9 : Below w8.heap.size w8 w9 := below_step (w := w8) (by first | exact Below.refl _ _ | go_grown) hb
      have zsw9 : w.heap.size < w9.heap.size := by omega
      have s0w9 : w9.cell? ⟨w.heap.size, 0, none⟩ = some (.slice oa ns ca) := (hPw9.cell (p := ⟨_, _, none⟩) zsw8).trans s0w8
      have s1w9 : w9.cell? ⟨w.heap.size, 1, none⟩ = some (.slice ob nb cb) := (hPw9.cell (p := ⟨_, _, none⟩) zsw8).trans s1w8
      have zmw9 : w.heap.size + 1 < w9.heap.size := by omega
      have m0w9 : w9.cell? ⟨w.heap.size + 1, 0, none⟩ = some (.slice om m.ng cm) := (hPw9.cell (p := ⟨_, _, none⟩) zmw8).trans m0w8
      have m1w9 : w9.cell? ⟨w.heap.size + 1, 1, none⟩ = some (.slice ot m.ns ct) := (hPw9.cell (p := ⟨_, _, none⟩) zmw8).trans m1w8
      have zgw9 : w.heap.size + 1 + 1 < w9.heap.size := by omega
      have g0w9 : w9.cell? ⟨w.heap.size + 1 + 1, 0, none⟩ = some (.string x0) := (hPw9.cell (p := ⟨_, _, none⟩) zgw8).trans g0w8
      have g1w9 : w9.cell? ⟨w.heap.size + 1 + 1, 1, none⟩ = some (.string x1) := (hPw9.cell (p := ⟨_, _, none⟩) zgw8).trans g1w8
      have g2w9 : w9.cell? ⟨w.heap.size + 1 + 1, 2, none⟩ = some (.int .i64 x2) := (hPw9.cell (p := ⟨_, _, none⟩) zgw8).trans g2w8
      have g3w9 : w9.cell? ⟨w.heap.size + 1 + 1, 3, none⟩ = some (.int .i64 x3) := (hPw9.cell (p := ⟨_, _, none⟩) zgw8).trans g3w8
      have g4w9 : w9.cell? ⟨w.heap.size + 1 + 1, 4, none⟩ = some (.int .i64 x4) := (hPw9.cell (p := ⟨_, _, none⟩) zgw8).trans g4w8
      have g5w9 : w9.cell? ⟨w.heap.size + 1 + 1, 5, none⟩ = some (.string x5) := (hPw9.cell (p := ⟨_, _, none⟩) zgw8).trans g5w8
      have g6w9 : w9.cell? ⟨w.heap.size + 1 + 1, 6, none⟩ = some (.string y0) := (hPw9.cell (p := ⟨_, _, none⟩) zgw8).trans g6w8
      have g7w9 : w9.cell? ⟨w.heap.size + 1 + 1, 7, none⟩ = some (.string y1) := (hPw9.cell (p := ⟨_, _, none⟩) zgw8).trans g7w8
      have g8w9 : w9.cell? ⟨w.heap.size + 1 + 1, 8, none⟩ = some (.string y2) := (hPw9.cell (p := ⟨_, _, none⟩) zgw8).trans g8w8
      have g9w9 : w9.cell? ⟨w.heap.size + 1 + 1, 9, none⟩ = some (.int .i64 y3) := (hPw9.cell (p := ⟨_, _, none⟩) zgw8).trans g9w8
      have g10w9 : w9.cell? ⟨w.heap.size + 1 + 1, 10, none⟩ = some (.string y4) := (hPw9.cell (p := ⟨_, _, none⟩) zgw8).trans g10w8
      have za0w9 : w3.heap.size < w9.heap.size := by omega
      have a00w9 : w9.cell? ⟨w3.heap.size, 0, none⟩ = some (.slice oa0 Na1 ca0) := (hPw9.cell (p := ⟨_, _, none⟩) za0w8).trans a00w8
      have a01w9 : w9.cell? ⟨w3.heap.size, 1, none⟩ = some (.slice pa0 Na2 da0) := (hPw9.cell (p := ⟨_, _, none⟩) za0w8).trans a01w8
      have za1w9 : w4.heap.size < w9.heap.size := by omega
      have a10w9 : w9.cell? ⟨w4.heap.size, 0, none⟩ = some (.slice oa1 Na1 ca1) := (hPw9.cell (p := ⟨_, _, none⟩) za1w8).trans a10w8
      have a11w9 : w9.cell? ⟨w4.heap.size, 1, none⟩ = some (.slice pa1 Na2 da1) := (hPw9.cell (p := ⟨_, _, none⟩) za1w8).trans a11w8
      have zc0w9 : w5.heap.size < w9.heap.size := by omega
      have c00w9 : w9.cell? ⟨w5.heap.size, 0, none⟩ = some (.slice oc0 Nc1 cc0) := (hPw9.cell (p := ⟨_, _, none⟩) zc0w8).trans c00w8
      have c01w9 : w9.cell? ⟨w5.heap.size, 1, none⟩ = some (.slice pc0 Nc2 dc0) := (hPw9.cell (p := ⟨_, _, none⟩) zc0w8).trans c01w8
      have zc1w9 : w6.heap.size < w9.heap.size := by omega
      have c10w9 : w9.cell? ⟨w6.heap.size, 0, none⟩ = some (.slice oc1 Nc1 cc1) := (hPw9.cell (p := ⟨_, _, none⟩) zc1w8).trans c10w8
      have c11w9 : w9.cell? ⟨w6.heap.size, 1, none⟩ = some (.slice pc1 Nc2 dc1) := (hPw9.cell (p := ⟨_, _, none⟩) zc1w8).trans c11w8
      replace Ha0 := Lib.hid (Ha0.out.below hPw9)
      replace Ha1 := Lib.hid (Ha1.out.below hPw9)
      replace Hc0 := Lib.hid (Hc0.out.below hPw9)
      replace Hc1 := Lib.hid (Hc1.out.below hPw9)
      have hBw9 : Below w.heap.size w w9 := below_step (w := w) (by first | assumption | go_grown) hb
      clear hb hsw9 hPw9
      clear zsw8 zmw8 zgw8 za0w8 za1w8 zc0w8 zc1w8 s0w8 s1w8 m0w8 m1w8 g0w8 g1w8 g2w8 g3w8 g4w8 g5w8 g6w8 g7w8 g8w8 g9w8 g10w8 a00w8 a01w8 a10w8 a11w8 c00w8 c01w8 c10w8 c11w8
      go_wp2
      go_returns
      exact ⟨rfl, by assumption⟩

set_option maxRecDepth 100000 in
theorem stockAdds_contract (H : Type) (enc : TypeId × Value → H) (W : World) (base : Nat) (args : Array Value) (ds gs : List (DataW H)) (before : List MemPlace)
    (hval : ∀ (j : Nat) t v, Tryz.f3.params[j]? = some t → args[j]? = some v → Value.okWide Tryz.prog W .any base t v)
    (hW : DataW.Whole enc Tryz.prog Tryz.f3.params.toList Rows.stockAddsSpec.vars false W args.toList ds gs before) (hL : laidMetH Tryz.prog Rows.stockAddsRow.laid W) (hSh : W.ShapedOpen Tryz.prog) :
    Calls Tryz.prog 3 args W fun e W' => ∃ v, e = .returned v ∧ Rows.stockAddsSpec.post enc Tryz.prog Tryz.f3 false true false false W args v W' := by
  have hW' := hW
  obtain ⟨p, q, hA0, hV, rfl, hfz, hnd⟩ := hW
  have hA : DataW.TrodAll enc Tryz.prog W 0 (fun _ => true) true Tryz.f3.params.toList args.toList ds p := hA0
  rw [Tryz.params3] at hA hval
  obtain ⟨v0, vs0, d0, ds0, p0, q0, hargs, rfl, rfl, h0, r0⟩ := trodAll_cons hA
  obtain ⟨v1, vs1, d1, ds1, p1, q1, rfl, rfl, rfl, h1, r1⟩ := trodAll_cons r0
  obtain ⟨v2, vs2, d2, ds2, p2, q2, rfl, rfl, rfl, h2, r2⟩ := trodAll_cons r1
  obtain ⟨rfl, rfl, rfl⟩ := trodAll_nil r2
  obtain rfl : args = #[v0, v1, v2] := by cases args; simp_all
  obtain ⟨ns0, es0, nb0, eb0, hst0⟩ := stock_arg (hval 0 25 v0 rfl rfl) h0
  obtain ⟨vg, vs, m, gv, rfl, hG, hS⟩ := mat_arg (hval 1 29 v1 rfl rfl) h1
  obtain ⟨x0, x1, x2, x3, x4, x5, y0, y1, y2, y3, y4, rfl⟩ := goods_arg (hval 2 35 v2 rfl rfl) h2
  refine (stockAdds_walk _ ns0 es0 nb0 eb0 vg vs m gv x0 x1 x2 x3 x4 x5 y0 y1 y2 y3 y4 W hst0 hG hS (maxLen_of W hSh)).mono fun e W' ⟨he, hb⟩ => ?_
  subst he
  exact ⟨_, rfl, law_post laidOut (by kernel_rfl) (by kernel_rfl) Tryz.underlying4 rfl hW' (fun _ => rfl) hb⟩
theorem stockAdds_laid (os : Os) : laidMet Tryz.prog Rows.stockAddsRow.laid ((laidWorld os).forCall (fun _ _ => 0) ⟨#[], #[.agg #[.slice none 0 0, .slice none 0 0], .agg #[.slice none 0 0, .slice none 0 0], .agg #[.string ⟨#[]⟩, .string ⟨#[]⟩, .int .i64 0, .int .i64 0, .int .i64 0, .string ⟨#[]⟩, .string ⟨#[]⟩, .string ⟨#[]⟩, .string ⟨#[]⟩, .int .i64 0, .string ⟨#[]⟩]], []⟩).memory := laidMet_of_run' 8 (by kernel_rfl) (by kernel_rfl)
theorem stockAdds_reads (os : Os) {H : Type} (enc : TypeId × Value → H) : ∃ places, DataW.whole enc Tryz.prog ((laidWorld os).forCall (fun _ _ => 0) ⟨#[], #[.agg #[.slice none 0 0, .slice none 0 0], .agg #[.slice none 0 0, .slice none 0 0], .agg #[.string ⟨#[]⟩, .string ⟨#[]⟩, .int .i64 0, .int .i64 0, .int .i64 0, .string ⟨#[]⟩, .string ⟨#[]⟩, .string ⟨#[]⟩, .string ⟨#[]⟩, .int .i64 0, .string ⟨#[]⟩]], []⟩).memory Tryz.f3.params.toList Rows.stockAddsSpec.vars false (#[.agg #[.slice none 0 0, .slice none 0 0], .agg #[.slice none 0 0, .slice none 0 0], .agg #[.string ⟨#[]⟩, .string ⟨#[]⟩, .int .i64 0, .int .i64 0, .int .i64 0, .string ⟨#[]⟩, .string ⟨#[]⟩, .string ⟨#[]⟩, .string ⟨#[]⟩, .int .i64 0, .string ⟨#[]⟩]] : Array Value).toList 8 = some ([.agg [.nil, .nil], .agg [.nil, .nil], .agg [.agg [.lit (.string []), .lit (.string []), .lit (.int .i64 0), .lit (.int .i64 0), .lit (.int .i64 0), .lit (.string [])], .agg [.lit (.string []), .lit (.string []), .lit (.string []), .lit (.int .i64 0), .lit (.string [])]]], [], places) := ⟨[], by kernel_rfl⟩
set_option maxRecDepth 100000 in
theorem stockAdds_lifted (os : Os) (started : os.Started) (H : Type) (enc : TypeId × Value → H) (F : Stop.Interp) :
    ReturnsInHanded {} Tryz.checked os 3 .any ((OpenSpec.ofChange Rows.stockAddsSpec).preRow enc Tryz.prog Tryz.f3 Rows.stockAddsRow.domain false Rows.stockAddsRow.laid) (((OpenSpec.ofChange Rows.stockAddsSpec).at F).post enc Tryz.prog Tryz.f3 false true false false) := by
  obtain ⟨places, hx⟩ := stockAdds_reads os enc
  refine returnsInHanded_of_row (C := Tryz.checked) (s := OpenSpec.ofChange Rows.stockAddsSpec) own started (by kernel_rfl) Tryz.func3
    (witness_row_at (enc := enc) (C := Tryz.checked) false (laidWorld os) #[.agg #[.slice none 0 0, .slice none 0 0], .agg #[.slice none 0 0, .slice none 0 0], .agg #[.string ⟨#[]⟩, .string ⟨#[]⟩, .int .i64 0, .int .i64 0, .int .i64 0, .string ⟨#[]⟩, .string ⟨#[]⟩, .string ⟨#[]⟩, .string ⟨#[]⟩, .int .i64 0, .string ⟨#[]⟩]] rfl (by kernel_rfl) (by kernel_rfl) (by kernel_rfl)
      (OpenSpec.preRow_of_cond 8 hx (by kernel_rfl) (fun k hk => by cases hk) (by kernel_rfl) (stockAdds_laid os))) ?_
  intro W base args ds gs before hval hW _ _ _ hL hSh _
  exact stockAdds_contract H enc W base args ds gs before hval hW hL hSh
theorem stockAdds_said : Rows.StockAddsSaid :=
  OpenClaim.holds_of_cond 3 Tryz.f3 rfl rfl rfl rfl rfl rfl rfl ⟨rfl, rfl, rfl, rfl, rfl⟩ rfl rfl rfl rfl rfl (by kernel_rfl) Tryz.func3 (by kernel_rfl)
    (of_decide_eq_true (by kernel_rfl)) (by unfold Func.isWrapper; rw [if_neg (of_decide_eq_false (by kernel_rfl))]; exact ⟨rfl, rfl⟩)
    (fun os started H enc _ F => by rw [OpenClaim.pre_eq_preRow]; exact stockAdds_lifted os started H enc F)
theorem stockAdds_plain (f : FuncId) (fn : Func) (hf : Tryz.pinned.checked.prog.funcNamed "shipyard/shipyardlaw29.StockAdds" = some f) (hfn : Tryz.pinned.checked.prog.funcs[f]? = some fn) :
    false = Tryz.pinned.checked.prog.looks [] ∧ ∀ (j : Nat) t, fn.params[j]? = some t → Tryz.pinned.checked.prog.wantsStandIn t = false := by
  obtain rfl : f = 3 := Option.some.inj ((show Tryz.prog.funcNamed "shipyard/shipyardlaw29.StockAdds" = some 3 by kernel_rfl).symm.trans hf) |>.symm
  obtain rfl : fn = Tryz.f3 := (Option.some.inj (Tryz.func3.symm.trans hfn)).symm
  refine ⟨by kernel_rfl, fun j t ht => ?_⟩
  rw [Tryz.params3] at ht
  have hm : t ∈ [25, 29, 35] := by simpa using Array.mem_of_getElem? ht
  have hall : ([25, 29, 35].all fun u => !Tryz.prog.wantsStandIn u) = true := by kernel_rfl
  exact (show Tryz.prog.wantsStandIn t = false by simpa using List.all_eq_true.1 hall t hm)
/-- the card -/
theorem stockAdds_card : Rows.StockAddsCardSaid :=
  Claim7.holds_tied_plain_at .later [] _ _ _ _ stockAdds_said (fun _ h => by cases h) (by kernel_rfl) (fun _ h => by cases h) stockAdds_row_tie rfl ⟨rfl, rfl⟩ (by kernel_rfl) rfl stockAdds_plain (by kernel_rfl)
#print axioms stockAdds_card
end Go.Proofs.YtiddpaaihloopaaGreatDoor
