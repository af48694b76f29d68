/-
  What is added is in a right stock, and taking it gives the stock from before. Conditions: none (the card ties the two tables of unicode/utf8 to the program's text). By an AI agent.
-/
import Derived.Test.YtiddpaaihloopaaDoorStockM
namespace Go.Proofs.YtiddpaaihloopaaDoor
open Go Go.ChangeShapes Go.WideShapes Go.RowKit Go.ChangeAt
set_option linter.unusedSimpArgs false
set_option linter.unusedVariables false
set_option maxRecDepth 100000 in
set_option maxHeartbeats 16000000 in
theorem stockBack_walk (v : Value) (ns : Nat) (es : Nat → Sh) (nb : Nat) (eb : Nat → Br) (vg vs : Value) (m : Mat) (gv : Nat → Value) (x0 x1 : ByteArray) (x2 x3 x4 : Int) (x5 y0 y1 y2 : ByteArray) (y3 : Int) (y4 : ByteArray) (w : World) (h : StAt w v ns es nb eb) (hG : GrAt w vg m gv) (hS : SeAt w vs m) (hml : MaxLenIs w) :
    Calls Tryd.prog 4 #[v, .agg #[vg, vs], .agg #[.string x0, .string x1, .int .i64 x2, .int .i64 x3, .int .i64 x4, .string x5, .string y0, .string y1, .string y2, .int .i64 y3, .string y4]] w fun e w' => e = .returned (.bool true) ∧ Below w.heap.size w w' := by
  have HML := Lib.hid hml
  have HST := Lib.hid h
  have HG := Lib.hid hG
  have HS := Lib.hid hS
  obtain ⟨oa, ca, ob, cb, rfl⟩ := h.slices
  obtain ⟨om, cm, rfl, -, -⟩ := hG.form
  obtain ⟨ot, ct, rfl, -, -⟩ := hS.form
  clear h hml hG hS
  obtain ⟨R1, hR1⟩ : ∃ R, rightB m ns es nb eb = R := ⟨_, rfl⟩
  have HR1 := Lib.hid hR1
  clear hR1
  obtain ⟨R2, hR2⟩ : ∃ R, shortB ⟨x0, x1, x2, x3, x4, x5⟩ ⟨y0, y1, y2, y3, y4⟩ = R := ⟨_, rfl⟩
  have HR2 := Lib.hid hR2
  clear hR2
  go_enter Tryd.func4, Tryd.ntmps4
  go_wp2_with fail
  (go_at_call 14; refine (right_any _ ns es nb eb _ _ m gv _ (HST.out.below (by first | assumption | go_grown)) (HG.out.below (by first | assumption | go_grown)) (HS.out.below (by first | assumption | go_grown)) (HML.out.below (by first | assumption | go_grown))).mono ?_; rintro e_ w1 ⟨rfl, hb⟩)
  rw [HR1.out]
  have hsw1 := hb.size
  (try simp only [World.size_alloc, World.size_setCell] at hsw1)
  have zzw1 : w.heap.size < w1.heap.size := by omega
  have hPw1 : Below w.heap.size w w1 := below_step (w := w) (by first | exact Below.refl _ _ | go_grown) hb
  have zsw1 : w.heap.size < w1.heap.size := by omega
  have s0w1 : w1.cell? ⟨w.heap.size, 0, none⟩ = some (.slice oa ns ca) := (hb.cell (p := ⟨_, _, none⟩) (by simp <;> omega)).trans (by simp [go_sem])
  have s1w1 : w1.cell? ⟨w.heap.size, 1, none⟩ = some (.slice ob nb cb) := (hb.cell (p := ⟨_, _, none⟩) (by simp <;> omega)).trans (by simp [go_sem])
  have zmw1 : w.heap.size + 1 < w1.heap.size := by omega
  have m0w1 : w1.cell? ⟨w.heap.size + 1, 0, none⟩ = some (.slice om m.ng cm) := (hb.cell (p := ⟨_, _, none⟩) (by simp <;> omega)).trans (by simp [go_sem])
  have m1w1 : w1.cell? ⟨w.heap.size + 1, 1, none⟩ = some (.slice ot m.ns ct) := (hb.cell (p := ⟨_, _, none⟩) (by simp <;> omega)).trans (by simp [go_sem])
  have zgw1 : w.heap.size + 1 + 1 < w1.heap.size := by omega
  have g0w1 : w1.cell? ⟨w.heap.size + 1 + 1, 0, none⟩ = some (.string x0) := (hb.cell (p := ⟨_, _, none⟩) (by simp <;> omega)).trans (by simp [go_sem])
  have g1w1 : w1.cell? ⟨w.heap.size + 1 + 1, 1, none⟩ = some (.string x1) := (hb.cell (p := ⟨_, _, none⟩) (by simp <;> omega)).trans (by simp [go_sem])
  have g2w1 : w1.cell? ⟨w.heap.size + 1 + 1, 2, none⟩ = some (.int .i64 x2) := (hb.cell (p := ⟨_, _, none⟩) (by simp <;> omega)).trans (by simp [go_sem])
  have g3w1 : w1.cell? ⟨w.heap.size + 1 + 1, 3, none⟩ = some (.int .i64 x3) := (hb.cell (p := ⟨_, _, none⟩) (by simp <;> omega)).trans (by simp [go_sem])
  have g4w1 : w1.cell? ⟨w.heap.size + 1 + 1, 4, none⟩ = some (.int .i64 x4) := (hb.cell (p := ⟨_, _, none⟩) (by simp <;> omega)).trans (by simp [go_sem])
  have g5w1 : w1.cell? ⟨w.heap.size + 1 + 1, 5, none⟩ = some (.string x5) := (hb.cell (p := ⟨_, _, none⟩) (by simp <;> omega)).trans (by simp [go_sem])
  have g6w1 : w1.cell? ⟨w.heap.size + 1 + 1, 6, none⟩ = some (.string y0) := (hb.cell (p := ⟨_, _, none⟩) (by simp <;> omega)).trans (by simp [go_sem])
  have g7w1 : w1.cell? ⟨w.heap.size + 1 + 1, 7, none⟩ = some (.string y1) := (hb.cell (p := ⟨_, _, none⟩) (by simp <;> omega)).trans (by simp [go_sem])
  have g8w1 : w1.cell? ⟨w.heap.size + 1 + 1, 8, none⟩ = some (.string y2) := (hb.cell (p := ⟨_, _, none⟩) (by simp <;> omega)).trans (by simp [go_sem])
  have g9w1 : w1.cell? ⟨w.heap.size + 1 + 1, 9, none⟩ = some (.int .i64 y3) := (hb.cell (p := ⟨_, _, none⟩) (by simp <;> omega)).trans (by simp [go_sem])
  have g10w1 : w1.cell? ⟨w.heap.size + 1 + 1, 10, none⟩ = some (.string y4) := (hb.cell (p := ⟨_, _, none⟩) (by simp <;> omega)).trans (by simp [go_sem])
  have hBw1 : Below w.heap.size w w1 := below_step (w := w) (by first | assumption | go_grown) hb
  clear hb hsw1 hPw1
  cases R1 with
  | false =>
    go_wp2_with fail
    (go_at_call 9; refine (awake_any _ (HML.out.below (by first | assumption | go_grown))).mono ?_; rintro e_ w2 ⟨rfl, hb⟩)
    have hsw2 := hb.size
    (try simp only [World.size_alloc, World.size_setCell] at hsw2)
    have zzw2 : w.heap.size < w2.heap.size := by omega
    have hPw2 : Below w1.heap.size w1 w2 := below_step (w := w1) (by first | exact Below.refl _ _ | go_grown) hb
    have zsw2 : w.heap.size < w2.heap.size := by omega
    have s0w2 : w2.cell? ⟨w.heap.size, 0, none⟩ = some (.slice oa ns ca) := (hPw2.cell (p := ⟨_, _, none⟩) zsw1).trans s0w1
    have s1w2 : w2.cell? ⟨w.heap.size, 1, none⟩ = some (.slice ob nb cb) := (hPw2.cell (p := ⟨_, _, none⟩) zsw1).trans s1w1
    have zmw2 : w.heap.size + 1 < w2.heap.size := by omega
    have m0w2 : w2.cell? ⟨w.heap.size + 1, 0, none⟩ = some (.slice om m.ng cm) := (hPw2.cell (p := ⟨_, _, none⟩) zmw1).trans m0w1
    have m1w2 : w2.cell? ⟨w.heap.size + 1, 1, none⟩ = some (.slice ot m.ns ct) := (hPw2.cell (p := ⟨_, _, none⟩) zmw1).trans m1w1
    have zgw2 : w.heap.size + 1 + 1 < w2.heap.size := by omega
    have g0w2 : w2.cell? ⟨w.heap.size + 1 + 1, 0, none⟩ = some (.string x0) := (hPw2.cell (p := ⟨_, _, none⟩) zgw1).trans g0w1
    have g1w2 : w2.cell? ⟨w.heap.size + 1 + 1, 1, none⟩ = some (.string x1) := (hPw2.cell (p := ⟨_, _, none⟩) zgw1).trans g1w1
    have g2w2 : w2.cell? ⟨w.heap.size + 1 + 1, 2, none⟩ = some (.int .i64 x2) := (hPw2.cell (p := ⟨_, _, none⟩) zgw1).trans g2w1
    have g3w2 : w2.cell? ⟨w.heap.size + 1 + 1, 3, none⟩ = some (.int .i64 x3) := (hPw2.cell (p := ⟨_, _, none⟩) zgw1).trans g3w1
    have g4w2 : w2.cell? ⟨w.heap.size + 1 + 1, 4, none⟩ = some (.int .i64 x4) := (hPw2.cell (p := ⟨_, _, none⟩) zgw1).trans g4w1
    have g5w2 : w2.cell? ⟨w.heap.size + 1 + 1, 5, none⟩ = some (.string x5) := (hPw2.cell (p := ⟨_, _, none⟩) zgw1).trans g5w1
    have g6w2 : w2.cell? ⟨w.heap.size + 1 + 1, 6, none⟩ = some (.string y0) := (hPw2.cell (p := ⟨_, _, none⟩) zgw1).trans g6w1
    have g7w2 : w2.cell? ⟨w.heap.size + 1 + 1, 7, none⟩ = some (.string y1) := (hPw2.cell (p := ⟨_, _, none⟩) zgw1).trans g7w1
    have g8w2 : w2.cell? ⟨w.heap.size + 1 + 1, 8, none⟩ = some (.string y2) := (hPw2.cell (p := ⟨_, _, none⟩) zgw1).trans g8w1
    have g9w2 : w2.cell? ⟨w.heap.size + 1 + 1, 9, none⟩ = some (.int .i64 y3) := (hPw2.cell (p := ⟨_, _, none⟩) zgw1).trans g9w1
    have g10w2 : w2.cell? ⟨w.heap.size + 1 + 1, 10, none⟩ = some (.string y4) := (hPw2.cell (p := ⟨_, _, none⟩) zgw1).trans g10w1
    have hBw2 : Below w.heap.size w w2 := below_step (w := w) (by first | assumption | go_grown) hb
    clear hb hsw2 hPw2
    clear zsw1 zmw1 zgw1 s0w1 s1w1 m0w1 m1w1 g0w1 g1w1 g2w1 g3w1 g4w1 g5w1 g6w1 g7w1 g8w1 g9w1 g10w1
    go_wp2
    go_returns
    exact ⟨rfl, by assumption⟩
  | true =>
    have HR := Lib.hid (right_is HR1.out)
    have HM := Lib.hid (mfew_mat HR.out.mfew HG.out HS.out)
    clear HR1
    go_wp2_with fail
    (go_at_call 15; refine (short_any ⟨x0, x1, x2, x3, x4, x5⟩ ⟨y0, y1, y2, y3, y4⟩ _).mono ?_; rintro e_ w2 ⟨rfl, hb⟩)
    rw [HR2.out]
    have hsw2 := hb.size
    (try simp only [World.size_alloc, World.size_setCell] at hsw2)
    have zzw2 : w.heap.size < w2.heap.size := by omega
    have hPw2 : Below w1.heap.size w1 w2 := below_step (w := w1) (by first | exact Below.refl _ _ | go_grown) hb
    have zsw2 : w.heap.size < w2.heap.size := by omega
    have s0w2 : w2.cell? ⟨w.heap.size, 0, none⟩ = some (.slice oa ns ca) := (hPw2.cell (p := ⟨_, _, none⟩) zsw1).trans s0w1
    have s1w2 : w2.cell? ⟨w.heap.size, 1, none⟩ = some (.slice ob nb cb) := (hPw2.cell (p := ⟨_, _, none⟩) zsw1).trans s1w1
    have zmw2 : w.heap.size + 1 < w2.heap.size := by omega
    have m0w2 : w2.cell? ⟨w.heap.size + 1, 0, none⟩ = some (.slice om m.ng cm) := (hPw2.cell (p := ⟨_, _, none⟩) zmw1).trans m0w1
    have m1w2 : w2.cell? ⟨w.heap.size + 1, 1, none⟩ = some (.slice ot m.ns ct) := (hPw2.cell (p := ⟨_, _, none⟩) zmw1).trans m1w1
    have zgw2 : w.heap.size + 1 + 1 < w2.heap.size := by omega
    have g0w2 : w2.cell? ⟨w.heap.size + 1 + 1, 0, none⟩ = some (.string x0) := (hPw2.cell (p := ⟨_, _, none⟩) zgw1).trans g0w1
    have g1w2 : w2.cell? ⟨w.heap.size + 1 + 1, 1, none⟩ = some (.string x1) := (hPw2.cell (p := ⟨_, _, none⟩) zgw1).trans g1w1
    have g2w2 : w2.cell? ⟨w.heap.size + 1 + 1, 2, none⟩ = some (.int .i64 x2) := (hPw2.cell (p := ⟨_, _, none⟩) zgw1).trans g2w1
    have g3w2 : w2.cell? ⟨w.heap.size + 1 + 1, 3, none⟩ = some (.int .i64 x3) := (hPw2.cell (p := ⟨_, _, none⟩) zgw1).trans g3w1
    have g4w2 : w2.cell? ⟨w.heap.size + 1 + 1, 4, none⟩ = some (.int .i64 x4) := (hPw2.cell (p := ⟨_, _, none⟩) zgw1).trans g4w1
    have g5w2 : w2.cell? ⟨w.heap.size + 1 + 1, 5, none⟩ = some (.string x5) := (hPw2.cell (p := ⟨_, _, none⟩) zgw1).trans g5w1
    have g6w2 : w2.cell? ⟨w.heap.size + 1 + 1, 6, none⟩ = some (.string y0) := (hPw2.cell (p := ⟨_, _, none⟩) zgw1).trans g6w1
    have g7w2 : w2.cell? ⟨w.heap.size + 1 + 1, 7, none⟩ = some (.string y1) := (hPw2.cell (p := ⟨_, _, none⟩) zgw1).trans g7w1
    have g8w2 : w2.cell? ⟨w.heap.size + 1 + 1, 8, none⟩ = some (.string y2) := (hPw2.cell (p := ⟨_, _, none⟩) zgw1).trans g8w1
    have g9w2 : w2.cell? ⟨w.heap.size + 1 + 1, 9, none⟩ = some (.int .i64 y3) := (hPw2.cell (p := ⟨_, _, none⟩) zgw1).trans g9w1
    have g10w2 : w2.cell? ⟨w.heap.size + 1 + 1, 10, none⟩ = some (.string y4) := (hPw2.cell (p := ⟨_, _, none⟩) zgw1).trans g10w1
    have hBw2 : Below w.heap.size w w2 := below_step (w := w) (by first | assumption | go_grown) hb
    clear hb hsw2 hPw2
    clear zsw1 zmw1 zgw1 s0w1 s1w1 m0w1 m1w1 g0w1 g1w1 g2w1 g3w1 g4w1 g5w1 g6w1 g7w1 g8w1 g9w1 g10w1
    cases R2 with
    | false =>
      go_wp2_with fail
      (go_at_call 9; refine (awake_any _ (HML.out.below (by first | assumption | go_grown))).mono ?_; rintro e_ w3 ⟨rfl, hb⟩)
      have hsw3 := hb.size
      (try simp only [World.size_alloc, World.size_setCell] at hsw3)
      have zzw3 : w.heap.size < w3.heap.size := by omega
      have hPw3 : Below w2.heap.size w2 w3 := below_step (w := w2) (by first | exact Below.refl _ _ | go_grown) hb
      have zsw3 : w.heap.size < w3.heap.size := by omega
      have s0w3 : w3.cell? ⟨w.heap.size, 0, none⟩ = some (.slice oa ns ca) := (hPw3.cell (p := ⟨_, _, none⟩) zsw2).trans s0w2
      have s1w3 : w3.cell? ⟨w.heap.size, 1, none⟩ = some (.slice ob nb cb) := (hPw3.cell (p := ⟨_, _, none⟩) zsw2).trans s1w2
      have zmw3 : w.heap.size + 1 < w3.heap.size := by omega
      have m0w3 : w3.cell? ⟨w.heap.size + 1, 0, none⟩ = some (.slice om m.ng cm) := (hPw3.cell (p := ⟨_, _, none⟩) zmw2).trans m0w2
      have m1w3 : w3.cell? ⟨w.heap.size + 1, 1, none⟩ = some (.slice ot m.ns ct) := (hPw3.cell (p := ⟨_, _, none⟩) zmw2).trans m1w2
      have zgw3 : w.heap.size + 1 + 1 < w3.heap.size := by omega
      have g0w3 : w3.cell? ⟨w.heap.size + 1 + 1, 0, none⟩ = some (.string x0) := (hPw3.cell (p := ⟨_, _, none⟩) zgw2).trans g0w2
      have g1w3 : w3.cell? ⟨w.heap.size + 1 + 1, 1, none⟩ = some (.string x1) := (hPw3.cell (p := ⟨_, _, none⟩) zgw2).trans g1w2
      have g2w3 : w3.cell? ⟨w.heap.size + 1 + 1, 2, none⟩ = some (.int .i64 x2) := (hPw3.cell (p := ⟨_, _, none⟩) zgw2).trans g2w2
      have g3w3 : w3.cell? ⟨w.heap.size + 1 + 1, 3, none⟩ = some (.int .i64 x3) := (hPw3.cell (p := ⟨_, _, none⟩) zgw2).trans g3w2
      have g4w3 : w3.cell? ⟨w.heap.size + 1 + 1, 4, none⟩ = some (.int .i64 x4) := (hPw3.cell (p := ⟨_, _, none⟩) zgw2).trans g4w2
      have g5w3 : w3.cell? ⟨w.heap.size + 1 + 1, 5, none⟩ = some (.string x5) := (hPw3.cell (p := ⟨_, _, none⟩) zgw2).trans g5w2
      have g6w3 : w3.cell? ⟨w.heap.size + 1 + 1, 6, none⟩ = some (.string y0) := (hPw3.cell (p := ⟨_, _, none⟩) zgw2).trans g6w2
      have g7w3 : w3.cell? ⟨w.heap.size + 1 + 1, 7, none⟩ = some (.string y1) := (hPw3.cell (p := ⟨_, _, none⟩) zgw2).trans g7w2
      have g8w3 : w3.cell? ⟨w.heap.size + 1 + 1, 8, none⟩ = some (.string y2) := (hPw3.cell (p := ⟨_, _, none⟩) zgw2).trans g8w2
      have g9w3 : w3.cell? ⟨w.heap.size + 1 + 1, 9, none⟩ = some (.int .i64 y3) := (hPw3.cell (p := ⟨_, _, none⟩) zgw2).trans g9w2
      have g10w3 : w3.cell? ⟨w.heap.size + 1 + 1, 10, none⟩ = some (.string y4) := (hPw3.cell (p := ⟨_, _, none⟩) zgw2).trans g10w2
      have hBw3 : Below w.heap.size w w3 := below_step (w := w) (by first | assumption | go_grown) hb
      clear hb hsw3 hPw3
      clear zsw2 zmw2 zgw2 s0w2 s1w2 m0w2 m1w2 g0w2 g1w2 g2w2 g3w2 g4w2 g5w2 g6w2 g7w2 g8w2 g9w2 g10w2
      go_wp2
      go_returns
      exact ⟨rfl, by assumption⟩
    | true =>
      have HZX := Lib.hid (short_sizes HR2.out).1
      have HZY := Lib.hid (short_sizes HR2.out).2
      clear HR2
      by_cases hEa : addS (sheetE m ⟨x0, x1, x2, x3, x4, x5⟩) (addE Sh.id es ns ⟨x0, x1, x2, x3, x4, x5⟩) = 0
      · have HEa := Lib.hid hEa
        clear hEa
        go_wp2_with fail
        (go_at_call 16; refine (addSheet_ok HR.out _ _ gv (⟨x0, x1, x2, x3, x4, x5⟩ : Sh) _ (HST.out.below (by first | assumption | go_grown)) (HM.out.below (by first | assumption | go_grown)) HZX.out (HML.out.below (by first | assumption | go_grown)) HEa.out).mono ?_; rintro e_ w3 ⟨oa1, ca1, pa1, da1, rfl, hst, hb⟩)
        have hsw3 := hb.size
        (try simp only [World.size_alloc, World.size_setCell] at hsw3)
        have zzw3 : w.heap.size < w3.heap.size := by omega
        have hPw3 : Below w2.heap.size w2 w3 := below_step (w := w2) (by first | exact Below.refl _ _ | go_grown) hb
        have zsw3 : w.heap.size < w3.heap.size := by omega
        have s0w3 : w3.cell? ⟨w.heap.size, 0, none⟩ = some (.slice oa ns ca) := (hPw3.cell (p := ⟨_, _, none⟩) zsw2).trans s0w2
        have s1w3 : w3.cell? ⟨w.heap.size, 1, none⟩ = some (.slice ob nb cb) := (hPw3.cell (p := ⟨_, _, none⟩) zsw2).trans s1w2
        have zmw3 : w.heap.size + 1 < w3.heap.size := by omega
        have m0w3 : w3.cell? ⟨w.heap.size + 1, 0, none⟩ = some (.slice om m.ng cm) := (hPw3.cell (p := ⟨_, _, none⟩) zmw2).trans m0w2
        have m1w3 : w3.cell? ⟨w.heap.size + 1, 1, none⟩ = some (.slice ot m.ns ct) := (hPw3.cell (p := ⟨_, _, none⟩) zmw2).trans m1w2
        have zgw3 : w.heap.size + 1 + 1 < w3.heap.size := by omega
        have g0w3 : w3.cell? ⟨w.heap.size + 1 + 1, 0, none⟩ = some (.string x0) := (hPw3.cell (p := ⟨_, _, none⟩) zgw2).trans g0w2
        have g1w3 : w3.cell? ⟨w.heap.size + 1 + 1, 1, none⟩ = some (.string x1) := (hPw3.cell (p := ⟨_, _, none⟩) zgw2).trans g1w2
        have g2w3 : w3.cell? ⟨w.heap.size + 1 + 1, 2, none⟩ = some (.int .i64 x2) := (hPw3.cell (p := ⟨_, _, none⟩) zgw2).trans g2w2
        have g3w3 : w3.cell? ⟨w.heap.size + 1 + 1, 3, none⟩ = some (.int .i64 x3) := (hPw3.cell (p := ⟨_, _, none⟩) zgw2).trans g3w2
        have g4w3 : w3.cell? ⟨w.heap.size + 1 + 1, 4, none⟩ = some (.int .i64 x4) := (hPw3.cell (p := ⟨_, _, none⟩) zgw2).trans g4w2
        have g5w3 : w3.cell? ⟨w.heap.size + 1 + 1, 5, none⟩ = some (.string x5) := (hPw3.cell (p := ⟨_, _, none⟩) zgw2).trans g5w2
        have g6w3 : w3.cell? ⟨w.heap.size + 1 + 1, 6, none⟩ = some (.string y0) := (hPw3.cell (p := ⟨_, _, none⟩) zgw2).trans g6w2
        have g7w3 : w3.cell? ⟨w.heap.size + 1 + 1, 7, none⟩ = some (.string y1) := (hPw3.cell (p := ⟨_, _, none⟩) zgw2).trans g7w2
        have g8w3 : w3.cell? ⟨w.heap.size + 1 + 1, 8, none⟩ = some (.string y2) := (hPw3.cell (p := ⟨_, _, none⟩) zgw2).trans g8w2
        have g9w3 : w3.cell? ⟨w.heap.size + 1 + 1, 9, none⟩ = some (.int .i64 y3) := (hPw3.cell (p := ⟨_, _, none⟩) zgw2).trans g9w2
        have g10w3 : w3.cell? ⟨w.heap.size + 1 + 1, 10, none⟩ = some (.string y4) := (hPw3.cell (p := ⟨_, _, none⟩) zgw2).trans g10w2
        have hBw3 : Below w.heap.size w w3 := below_step (w := w) (by first | assumption | go_grown) hb
        have Ha := Lib.hid hst
        clear hst
        clear hb hsw3 hPw3
        clear zsw2 zmw2 zgw2 s0w2 s1w2 m0w2 m1w2 g0w2 g1w2 g2w2 g3w2 g4w2 g5w2 g6w2 g7w2 g8w2 g9w2 g10w2
        go_wp2_with fail
        (go_at_call 17; refine (takeSheet_back HR.out _ (⟨x0, x1, x2, x3, x4, x5⟩ : Sh) _ HEa.out (Ha.out.below (by first | exact Below.refl _ _ | go_grown))).mono ?_; rintro e_ w4 ⟨oa2, ca2, pa2, da2, rfl, hst, hb⟩)
        have hsw4 := hb.size
        (try simp only [World.size_alloc, World.size_setCell] at hsw4)
        have zzw4 : w.heap.size < w4.heap.size := by omega
        have hPw4 : Below w3.heap.size w3 w4 := below_step (w := w3) (by first | exact Below.refl _ _ | go_grown) hb
        have zsw4 : w.heap.size < w4.heap.size := by omega
        have s0w4 : w4.cell? ⟨w.heap.size, 0, none⟩ = some (.slice oa ns ca) := (hPw4.cell (p := ⟨_, _, none⟩) zsw3).trans s0w3
        have s1w4 : w4.cell? ⟨w.heap.size, 1, none⟩ = some (.slice ob nb cb) := (hPw4.cell (p := ⟨_, _, none⟩) zsw3).trans s1w3
        have zmw4 : w.heap.size + 1 < w4.heap.size := by omega
        have m0w4 : w4.cell? ⟨w.heap.size + 1, 0, none⟩ = some (.slice om m.ng cm) := (hPw4.cell (p := ⟨_, _, none⟩) zmw3).trans m0w3
        have m1w4 : w4.cell? ⟨w.heap.size + 1, 1, none⟩ = some (.slice ot m.ns ct) := (hPw4.cell (p := ⟨_, _, none⟩) zmw3).trans m1w3
        have zgw4 : w.heap.size + 1 + 1 < w4.heap.size := by omega
        have g0w4 : w4.cell? ⟨w.heap.size + 1 + 1, 0, none⟩ = some (.string x0) := (hPw4.cell (p := ⟨_, _, none⟩) zgw3).trans g0w3
        have g1w4 : w4.cell? ⟨w.heap.size + 1 + 1, 1, none⟩ = some (.string x1) := (hPw4.cell (p := ⟨_, _, none⟩) zgw3).trans g1w3
        have g2w4 : w4.cell? ⟨w.heap.size + 1 + 1, 2, none⟩ = some (.int .i64 x2) := (hPw4.cell (p := ⟨_, _, none⟩) zgw3).trans g2w3
        have g3w4 : w4.cell? ⟨w.heap.size + 1 + 1, 3, none⟩ = some (.int .i64 x3) := (hPw4.cell (p := ⟨_, _, none⟩) zgw3).trans g3w3
        have g4w4 : w4.cell? ⟨w.heap.size + 1 + 1, 4, none⟩ = some (.int .i64 x4) := (hPw4.cell (p := ⟨_, _, none⟩) zgw3).trans g4w3
        have g5w4 : w4.cell? ⟨w.heap.size + 1 + 1, 5, none⟩ = some (.string x5) := (hPw4.cell (p := ⟨_, _, none⟩) zgw3).trans g5w3
        have g6w4 : w4.cell? ⟨w.heap.size + 1 + 1, 6, none⟩ = some (.string y0) := (hPw4.cell (p := ⟨_, _, none⟩) zgw3).trans g6w3
        have g7w4 : w4.cell? ⟨w.heap.size + 1 + 1, 7, none⟩ = some (.string y1) := (hPw4.cell (p := ⟨_, _, none⟩) zgw3).trans g7w3
        have g8w4 : w4.cell? ⟨w.heap.size + 1 + 1, 8, none⟩ = some (.string y2) := (hPw4.cell (p := ⟨_, _, none⟩) zgw3).trans g8w3
        have g9w4 : w4.cell? ⟨w.heap.size + 1 + 1, 9, none⟩ = some (.int .i64 y3) := (hPw4.cell (p := ⟨_, _, none⟩) zgw3).trans g9w3
        have g10w4 : w4.cell? ⟨w.heap.size + 1 + 1, 10, none⟩ = some (.string y4) := (hPw4.cell (p := ⟨_, _, none⟩) zgw3).trans g10w3
        have zaw4 : w3.heap.size < w4.heap.size := by omega
        have a0w4 : w4.cell? ⟨w3.heap.size, 0, none⟩ = some (.slice oa1 (ns + 1) ca1) := (hb.cell (p := ⟨_, _, none⟩) (by simp <;> omega)).trans (by simp [go_sem])
        have a1w4 : w4.cell? ⟨w3.heap.size, 1, none⟩ = some (.slice pa1 nb da1) := (hb.cell (p := ⟨_, _, none⟩) (by simp <;> omega)).trans (by simp [go_sem])
        replace Ha := Lib.hid (Ha.out.below hPw4)
        have hBw4 : Below w.heap.size w w4 := below_step (w := w) (by first | assumption | go_grown) hb
        have Ha2 := Lib.hid hst
        clear hst
        dsimp only [Sh.val]
        clear hb hsw4 hPw4
        clear zsw3 zmw3 zgw3 s0w3 s1w3 m0w3 m1w3 g0w3 g1w3 g2w3 g3w3 g4w3 g5w3 g6w3 g7w3 g8w3 g9w3 g10w3
        go_wp2_with fail
        (go_at_call 16; refine (addSheet_again HR.out _ _ gv (⟨x0, x1, x2, x3, x4, x5⟩ : Sh) _ (Ha.out.below (by first | exact Below.refl _ _ | go_grown)) (HM.out.below (by first | assumption | go_grown)) HZX.out (HML.out.below (by first | assumption | go_grown)) HEa.out).mono ?_; rintro e_ w5 ⟨oa3, ca3, pa3, da3, rfl, hb⟩)
        have hsw5 := hb.size
        (try simp only [World.size_alloc, World.size_setCell] at hsw5)
        have zzw5 : w.heap.size < w5.heap.size := by omega
        have hPw5 : Below w4.heap.size w4 w5 := below_step (w := w4) (by first | exact Below.refl _ _ | go_grown) hb
        have zsw5 : w.heap.size < w5.heap.size := by omega
        have s0w5 : w5.cell? ⟨w.heap.size, 0, none⟩ = some (.slice oa ns ca) := (hPw5.cell (p := ⟨_, _, none⟩) zsw4).trans s0w4
        have s1w5 : w5.cell? ⟨w.heap.size, 1, none⟩ = some (.slice ob nb cb) := (hPw5.cell (p := ⟨_, _, none⟩) zsw4).trans s1w4
        have zmw5 : w.heap.size + 1 < w5.heap.size := by omega
        have m0w5 : w5.cell? ⟨w.heap.size + 1, 0, none⟩ = some (.slice om m.ng cm) := (hPw5.cell (p := ⟨_, _, none⟩) zmw4).trans m0w4
        have m1w5 : w5.cell? ⟨w.heap.size + 1, 1, none⟩ = some (.slice ot m.ns ct) := (hPw5.cell (p := ⟨_, _, none⟩) zmw4).trans m1w4
        have zgw5 : w.heap.size + 1 + 1 < w5.heap.size := by omega
        have g0w5 : w5.cell? ⟨w.heap.size + 1 + 1, 0, none⟩ = some (.string x0) := (hPw5.cell (p := ⟨_, _, none⟩) zgw4).trans g0w4
        have g1w5 : w5.cell? ⟨w.heap.size + 1 + 1, 1, none⟩ = some (.string x1) := (hPw5.cell (p := ⟨_, _, none⟩) zgw4).trans g1w4
        have g2w5 : w5.cell? ⟨w.heap.size + 1 + 1, 2, none⟩ = some (.int .i64 x2) := (hPw5.cell (p := ⟨_, _, none⟩) zgw4).trans g2w4
        have g3w5 : w5.cell? ⟨w.heap.size + 1 + 1, 3, none⟩ = some (.int .i64 x3) := (hPw5.cell (p := ⟨_, _, none⟩) zgw4).trans g3w4
        have g4w5 : w5.cell? ⟨w.heap.size + 1 + 1, 4, none⟩ = some (.int .i64 x4) := (hPw5.cell (p := ⟨_, _, none⟩) zgw4).trans g4w4
        have g5w5 : w5.cell? ⟨w.heap.size + 1 + 1, 5, none⟩ = some (.string x5) := (hPw5.cell (p := ⟨_, _, none⟩) zgw4).trans g5w4
        have g6w5 : w5.cell? ⟨w.heap.size + 1 + 1, 6, none⟩ = some (.string y0) := (hPw5.cell (p := ⟨_, _, none⟩) zgw4).trans g6w4
        have g7w5 : w5.cell? ⟨w.heap.size + 1 + 1, 7, none⟩ = some (.string y1) := (hPw5.cell (p := ⟨_, _, none⟩) zgw4).trans g7w4
        have g8w5 : w5.cell? ⟨w.heap.size + 1 + 1, 8, none⟩ = some (.string y2) := (hPw5.cell (p := ⟨_, _, none⟩) zgw4).trans g8w4
        have g9w5 : w5.cell? ⟨w.heap.size + 1 + 1, 9, none⟩ = some (.int .i64 y3) := (hPw5.cell (p := ⟨_, _, none⟩) zgw4).trans g9w4
        have g10w5 : w5.cell? ⟨w.heap.size + 1 + 1, 10, none⟩ = some (.string y4) := (hPw5.cell (p := ⟨_, _, none⟩) zgw4).trans g10w4
        have zaw5 : w3.heap.size < w5.heap.size := by omega
        have a0w5 : w5.cell? ⟨w3.heap.size, 0, none⟩ = some (.slice oa1 (ns + 1) ca1) := (hPw5.cell (p := ⟨_, _, none⟩) zaw4).trans a0w4
        have a1w5 : w5.cell? ⟨w3.heap.size, 1, none⟩ = some (.slice pa1 nb da1) := (hPw5.cell (p := ⟨_, _, none⟩) zaw4).trans a1w4
        have zabw5 : w4.heap.size < w5.heap.size := by omega
        have ab0w5 : w5.cell? ⟨w4.heap.size, 0, none⟩ = some (.slice oa2 ns ca2) := (hb.cell (p := ⟨_, _, none⟩) (by simp <;> omega)).trans (by simp [go_sem])
        have ab1w5 : w5.cell? ⟨w4.heap.size, 1, none⟩ = some (.slice pa2 nb da2) := (hb.cell (p := ⟨_, _, none⟩) (by simp <;> omega)).trans (by simp [go_sem])
        have zayw5 : w4.heap.size + 1 < w5.heap.size := by omega
        have ay0w5 : w5.cell? ⟨w4.heap.size + 1, 0, none⟩ = some (.string x0) := (hb.cell (p := ⟨_, _, none⟩) (by simp <;> omega)).trans (by simp [go_sem])
        have ay1w5 : w5.cell? ⟨w4.heap.size + 1, 1, none⟩ = some (.string x1) := (hb.cell (p := ⟨_, _, none⟩) (by simp <;> omega)).trans (by simp [go_sem])
        have ay2w5 : w5.cell? ⟨w4.heap.size + 1, 2, none⟩ = some (.int .i64 x2) := (hb.cell (p := ⟨_, _, none⟩) (by simp <;> omega)).trans (by simp [go_sem])
        have ay3w5 : w5.cell? ⟨w4.heap.size + 1, 3, none⟩ = some (.int .i64 x3) := (hb.cell (p := ⟨_, _, none⟩) (by simp <;> omega)).trans (by simp [go_sem])
        have ay4w5 : w5.cell? ⟨w4.heap.size + 1, 4, none⟩ = some (.int .i64 x4) := (hb.cell (p := ⟨_, _, none⟩) (by simp <;> omega)).trans (by simp [go_sem])
        have ay5w5 : w5.cell? ⟨w4.heap.size + 1, 5, none⟩ = some (.string x5) := (hb.cell (p := ⟨_, _, none⟩) (by simp <;> omega)).trans (by simp [go_sem])
        replace Ha := Lib.hid (Ha.out.below hPw5)
        replace Ha2 := Lib.hid (Ha2.out.below hPw5)
        have hBw5 : Below w.heap.size w w5 := below_step (w := w) (by first | assumption | go_grown) hb
        clear hb hsw5 hPw5
        clear zsw4 zmw4 zgw4 zaw4 s0w4 s1w4 m0w4 m1w4 g0w4 g1w4 g2w4 g3w4 g4w4 g5w4 g6w4 g7w4 g8w4 g9w4 g10w4 a0w4 a1w4
        go_wp2_with fail
        (go_at_call 10; refine (addSheet_check HR.out _ _ gv (⟨x0, x1, x2, x3, x4, x5⟩ : Sh) _ (HM.out.below (by first | assumption | go_grown)) HZX.out (HML.out.below (by first | assumption | go_grown)) HEa.out (Ha.out.below (by first | exact Below.refl _ _ | go_grown))).mono ?_; rintro e_ w6 ⟨rfl, hb⟩)
        have hsw6 := hb.size
        (try simp only [World.size_alloc, World.size_setCell] at hsw6)
        have zzw6 : w.heap.size < w6.heap.size := by omega
        have hPw6 : Below w5.heap.size w5 w6 := below_step (w := w5) (by first | exact Below.refl _ _ | go_grown) hb
        have zsw6 : w.heap.size < w6.heap.size := by omega
        have s0w6 : w6.cell? ⟨w.heap.size, 0, none⟩ = some (.slice oa ns ca) := (hPw6.cell (p := ⟨_, _, none⟩) zsw5).trans s0w5
        have s1w6 : w6.cell? ⟨w.heap.size, 1, none⟩ = some (.slice ob nb cb) := (hPw6.cell (p := ⟨_, _, none⟩) zsw5).trans s1w5
        have zmw6 : w.heap.size + 1 < w6.heap.size := by omega
        have m0w6 : w6.cell? ⟨w.heap.size + 1, 0, none⟩ = some (.slice om m.ng cm) := (hPw6.cell (p := ⟨_, _, none⟩) zmw5).trans m0w5
        have m1w6 : w6.cell? ⟨w.heap.size + 1, 1, none⟩ = some (.slice ot m.ns ct) := (hPw6.cell (p := ⟨_, _, none⟩) zmw5).trans m1w5
        have zgw6 : w.heap.size + 1 + 1 < w6.heap.size := by omega
        have g0w6 : w6.cell? ⟨w.heap.size + 1 + 1, 0, none⟩ = some (.string x0) := (hPw6.cell (p := ⟨_, _, none⟩) zgw5).trans g0w5
        have g1w6 : w6.cell? ⟨w.heap.size + 1 + 1, 1, none⟩ = some (.string x1) := (hPw6.cell (p := ⟨_, _, none⟩) zgw5).trans g1w5
        have g2w6 : w6.cell? ⟨w.heap.size + 1 + 1, 2, none⟩ = some (.int .i64 x2) := (hPw6.cell (p := ⟨_, _, none⟩) zgw5).trans g2w5
        have g3w6 : w6.cell? ⟨w.heap.size + 1 + 1, 3, none⟩ = some (.int .i64 x3) := (hPw6.cell (p := ⟨_, _, none⟩) zgw5).trans g3w5
        have g4w6 : w6.cell? ⟨w.heap.size + 1 + 1, 4, none⟩ = some (.int .i64 x4) := (hPw6.cell (p := ⟨_, _, none⟩) zgw5).trans g4w5
        have g5w6 : w6.cell? ⟨w.heap.size + 1 + 1, 5, none⟩ = some (.string x5) := (hPw6.cell (p := ⟨_, _, none⟩) zgw5).trans g5w5
        have g6w6 : w6.cell? ⟨w.heap.size + 1 + 1, 6, none⟩ = some (.string y0) := (hPw6.cell (p := ⟨_, _, none⟩) zgw5).trans g6w5
        have g7w6 : w6.cell? ⟨w.heap.size + 1 + 1, 7, none⟩ = some (.string y1) := (hPw6.cell (p := ⟨_, _, none⟩) zgw5).trans g7w5
        have g8w6 : w6.cell? ⟨w.heap.size + 1 + 1, 8, none⟩ = some (.string y2) := (hPw6.cell (p := ⟨_, _, none⟩) zgw5).trans g8w5
        have g9w6 : w6.cell? ⟨w.heap.size + 1 + 1, 9, none⟩ = some (.int .i64 y3) := (hPw6.cell (p := ⟨_, _, none⟩) zgw5).trans g9w5
        have g10w6 : w6.cell? ⟨w.heap.size + 1 + 1, 10, none⟩ = some (.string y4) := (hPw6.cell (p := ⟨_, _, none⟩) zgw5).trans g10w5
        have zaw6 : w3.heap.size < w6.heap.size := by omega
        have a0w6 : w6.cell? ⟨w3.heap.size, 0, none⟩ = some (.slice oa1 (ns + 1) ca1) := (hPw6.cell (p := ⟨_, _, none⟩) zaw5).trans a0w5
        have a1w6 : w6.cell? ⟨w3.heap.size, 1, none⟩ = some (.slice pa1 nb da1) := (hPw6.cell (p := ⟨_, _, none⟩) zaw5).trans a1w5
        have zabw6 : w4.heap.size < w6.heap.size := by omega
        have ab0w6 : w6.cell? ⟨w4.heap.size, 0, none⟩ = some (.slice oa2 ns ca2) := (hPw6.cell (p := ⟨_, _, none⟩) zabw5).trans ab0w5
        have ab1w6 : w6.cell? ⟨w4.heap.size, 1, none⟩ = some (.slice pa2 nb da2) := (hPw6.cell (p := ⟨_, _, none⟩) zabw5).trans ab1w5
        have zayw6 : w4.heap.size + 1 < w6.heap.size := by omega
        have ay0w6 : w6.cell? ⟨w4.heap.size + 1, 0, none⟩ = some (.string x0) := (hPw6.cell (p := ⟨_, _, none⟩) zayw5).trans ay0w5
        have ay1w6 : w6.cell? ⟨w4.heap.size + 1, 1, none⟩ = some (.string x1) := (hPw6.cell (p := ⟨_, _, none⟩) zayw5).trans ay1w5
        have ay2w6 : w6.cell? ⟨w4.heap.size + 1, 2, none⟩ = some (.int .i64 x2) := (hPw6.cell (p := ⟨_, _, none⟩) zayw5).trans ay2w5
        have ay3w6 : w6.cell? ⟨w4.heap.size + 1, 3, none⟩ = some (.int .i64 x3) := (hPw6.cell (p := ⟨_, _, none⟩) zayw5).trans ay3w5
        have ay4w6 : w6.cell? ⟨w4.heap.size + 1, 4, none⟩ = some (.int .i64 x4) := (hPw6.cell (p := ⟨_, _, none⟩) zayw5).trans ay4w5
        have ay5w6 : w6.cell? ⟨w4.heap.size + 1, 5, none⟩ = some (.string x5) := (hPw6.cell (p := ⟨_, _, none⟩) zayw5).trans ay5w5
        have zazw6 : w5.heap.size < w6.heap.size := by omega
        have az0w6 : w6.cell? ⟨w5.heap.size, 0, none⟩ = some (.slice oa3 0 ca3) := (hb.cell (p := ⟨_, _, none⟩) (by simp <;> omega)).trans (by simp [go_sem])
        have az1w6 : w6.cell? ⟨w5.heap.size, 1, none⟩ = some (.slice pa3 0 da3) := (hb.cell (p := ⟨_, _, none⟩) (by simp <;> omega)).trans (by simp [go_sem])
        replace Ha := Lib.hid (Ha.out.below hPw6)
        replace Ha2 := Lib.hid (Ha2.out.below hPw6)
        have hBw6 : Below w.heap.size w w6 := below_step (w := w) (by first | assumption | go_grown) hb
        clear hb hsw6 hPw6
        clear zsw5 zmw5 zgw5 zaw5 zabw5 zayw5 s0w5 s1w5 m0w5 m1w5 g0w5 g1w5 g2w5 g3w5 g4w5 g5w5 g6w5 g7w5 g8w5 g9w5 g10w5 a0w5 a1w5 ab0w5 ab1w5 ay0w5 ay1w5 ay2w5 ay3w5 ay4w5 ay5w5
        have hneqa : ∀ W, (binOp .neq 38 (.agg #[.string x0, .string x1, .int .i64 x2, .int .i64 x3, .int .i64 x4, .string x5]) (.agg #[.string x0, .string x1, .int .i64 x2, .int .i64 x3, .int .i64 x4, .string x5])).run Tryd.prog W = .ok (.bool false) W := neq_self_Sheet (⟨x0, x1, x2, x3, x4, x5⟩ : Sh)
        have hwra : IntKind.i64.wrap ((ns : Int) + 1) = (ns : Int) + 1 := IntWalk.i64_in _ (by have := HR.out.n1; omega)
        go_wp2_with fail
        (go_at_call 13; refine (rsame_self _ (Ha2.out.below (by first | exact Below.refl _ _ | go_grown)) (HST.out.below (by first | assumption | go_grown))).mono ?_; rintro e_ w7 ⟨rfl, hb⟩)
        have hsw7 := hb.size
        (try simp only [World.size_alloc, World.size_setCell] at hsw7)
        have zzw7 : w.heap.size < w7.heap.size := by omega
        have hPw7 : Below w6.heap.size w6 w7 := below_step (w := w6) (by first | exact Below.refl _ _ | go_grown) hb
        have zsw7 : w.heap.size < w7.heap.size := by omega
        have s0w7 : w7.cell? ⟨w.heap.size, 0, none⟩ = some (.slice oa ns ca) := (hPw7.cell (p := ⟨_, _, none⟩) zsw6).trans s0w6
        have s1w7 : w7.cell? ⟨w.heap.size, 1, none⟩ = some (.slice ob nb cb) := (hPw7.cell (p := ⟨_, _, none⟩) zsw6).trans s1w6
        have zmw7 : w.heap.size + 1 < w7.heap.size := by omega
        have m0w7 : w7.cell? ⟨w.heap.size + 1, 0, none⟩ = some (.slice om m.ng cm) := (hPw7.cell (p := ⟨_, _, none⟩) zmw6).trans m0w6
        have m1w7 : w7.cell? ⟨w.heap.size + 1, 1, none⟩ = some (.slice ot m.ns ct) := (hPw7.cell (p := ⟨_, _, none⟩) zmw6).trans m1w6
        have zgw7 : w.heap.size + 1 + 1 < w7.heap.size := by omega
        have g0w7 : w7.cell? ⟨w.heap.size + 1 + 1, 0, none⟩ = some (.string x0) := (hPw7.cell (p := ⟨_, _, none⟩) zgw6).trans g0w6
        have g1w7 : w7.cell? ⟨w.heap.size + 1 + 1, 1, none⟩ = some (.string x1) := (hPw7.cell (p := ⟨_, _, none⟩) zgw6).trans g1w6
        have g2w7 : w7.cell? ⟨w.heap.size + 1 + 1, 2, none⟩ = some (.int .i64 x2) := (hPw7.cell (p := ⟨_, _, none⟩) zgw6).trans g2w6
        have g3w7 : w7.cell? ⟨w.heap.size + 1 + 1, 3, none⟩ = some (.int .i64 x3) := (hPw7.cell (p := ⟨_, _, none⟩) zgw6).trans g3w6
        have g4w7 : w7.cell? ⟨w.heap.size + 1 + 1, 4, none⟩ = some (.int .i64 x4) := (hPw7.cell (p := ⟨_, _, none⟩) zgw6).trans g4w6
        have g5w7 : w7.cell? ⟨w.heap.size + 1 + 1, 5, none⟩ = some (.string x5) := (hPw7.cell (p := ⟨_, _, none⟩) zgw6).trans g5w6
        have g6w7 : w7.cell? ⟨w.heap.size + 1 + 1, 6, none⟩ = some (.string y0) := (hPw7.cell (p := ⟨_, _, none⟩) zgw6).trans g6w6
        have g7w7 : w7.cell? ⟨w.heap.size + 1 + 1, 7, none⟩ = some (.string y1) := (hPw7.cell (p := ⟨_, _, none⟩) zgw6).trans g7w6
        have g8w7 : w7.cell? ⟨w.heap.size + 1 + 1, 8, none⟩ = some (.string y2) := (hPw7.cell (p := ⟨_, _, none⟩) zgw6).trans g8w6
        have g9w7 : w7.cell? ⟨w.heap.size + 1 + 1, 9, none⟩ = some (.int .i64 y3) := (hPw7.cell (p := ⟨_, _, none⟩) zgw6).trans g9w6
        have g10w7 : w7.cell? ⟨w.heap.size + 1 + 1, 10, none⟩ = some (.string y4) := (hPw7.cell (p := ⟨_, _, none⟩) zgw6).trans g10w6
        have zaw7 : w3.heap.size < w7.heap.size := by omega
        have a0w7 : w7.cell? ⟨w3.heap.size, 0, none⟩ = some (.slice oa1 (ns + 1) ca1) := (hPw7.cell (p := ⟨_, _, none⟩) zaw6).trans a0w6
        have a1w7 : w7.cell? ⟨w3.heap.size, 1, none⟩ = some (.slice pa1 nb da1) := (hPw7.cell (p := ⟨_, _, none⟩) zaw6).trans a1w6
        have zabw7 : w4.heap.size < w7.heap.size := by omega
        have ab0w7 : w7.cell? ⟨w4.heap.size, 0, none⟩ = some (.slice oa2 ns ca2) := (hPw7.cell (p := ⟨_, _, none⟩) zabw6).trans ab0w6
        have ab1w7 : w7.cell? ⟨w4.heap.size, 1, none⟩ = some (.slice pa2 nb da2) := (hPw7.cell (p := ⟨_, _, none⟩) zabw6).trans ab1w6
        have zayw7 : w4.heap.size + 1 < w7.heap.size := by omega
        have ay0w7 : w7.cell? ⟨w4.heap.size + 1, 0, none⟩ = some (.string x0) := (hPw7.cell (p := ⟨_, _, none⟩) zayw6).trans ay0w6
        have ay1w7 : w7.cell? ⟨w4.heap.size + 1, 1, none⟩ = some (.string x1) := (hPw7.cell (p := ⟨_, _, none⟩) zayw6).trans ay1w6
        have ay2w7 : w7.cell? ⟨w4.heap.size + 1, 2, none⟩ = some (.int .i64 x2) := (hPw7.cell (p := ⟨_, _, none⟩) zayw6).trans ay2w6
        have ay3w7 : w7.cell? ⟨w4.heap.size + 1, 3, none⟩ = some (.int .i64 x3) := (hPw7.cell (p := ⟨_, _, none⟩) zayw6).trans ay3w6
        have ay4w7 : w7.cell? ⟨w4.heap.size + 1, 4, none⟩ = some (.int .i64 x4) := (hPw7.cell (p := ⟨_, _, none⟩) zayw6).trans ay4w6
        have ay5w7 : w7.cell? ⟨w4.heap.size + 1, 5, none⟩ = some (.string x5) := (hPw7.cell (p := ⟨_, _, none⟩) zayw6).trans ay5w6
        have zazw7 : w5.heap.size < w7.heap.size := by omega
        have az0w7 : w7.cell? ⟨w5.heap.size, 0, none⟩ = some (.slice oa3 0 ca3) := (hPw7.cell (p := ⟨_, _, none⟩) zazw6).trans az0w6
        have az1w7 : w7.cell? ⟨w5.heap.size, 1, none⟩ = some (.slice pa3 0 da3) := (hPw7.cell (p := ⟨_, _, none⟩) zazw6).trans az1w6
        replace Ha := Lib.hid (Ha.out.below hPw7)
        replace Ha2 := Lib.hid (Ha2.out.below hPw7)
        have hBw7 : Below w.heap.size w w7 := below_step (w := w) (by first | assumption | go_grown) hb
        clear hb hsw7 hPw7
        clear zsw6 zmw6 zgw6 zaw6 zabw6 zayw6 zazw6 s0w6 s1w6 m0w6 m1w6 g0w6 g1w6 g2w6 g3w6 g4w6 g5w6 g6w6 g7w6 g8w6 g9w6 g10w6 a0w6 a1w6 ab0w6 ab1w6 ay0w6 ay1w6 ay2w6 ay3w6 ay4w6 ay5w6 az0w6 az1w6
        clear hneqa hwra
        clear zabw7 ab0w7 ab1w7
        clear zayw7 ay0w7 ay1w7 ay2w7 ay3w7 ay4w7 ay5w7
        clear zazw7 az0w7 az1w7
        by_cases hEc : addS (barE m ⟨y0, y1, y2, y3, y4⟩) (addE Br.id eb nb ⟨y0, y1, y2, y3, y4⟩) = 0
        · have HEc := Lib.hid hEc
          clear hEc
          go_wp2_with fail
          (go_at_call 18; refine (addBar_ok HR.out _ _ gv (⟨y0, y1, y2, y3, y4⟩ : Br) _ (HST.out.below (by first | assumption | go_grown)) (HM.out.below (by first | assumption | go_grown)) HZY.out (HML.out.below (by first | assumption | go_grown)) HEc.out).mono ?_; rintro e_ w8 ⟨oc1, cc1, pc1, dc1, rfl, hst, hb⟩)
          have hsw8 := hb.size
          (try simp only [World.size_alloc, World.size_setCell] at hsw8)
          have zzw8 : w.heap.size < w8.heap.size := by omega
          have hPw8 : Below w7.heap.size w7 w8 := below_step (w := w7) (by first | exact Below.refl _ _ | go_grown) hb
          have zsw8 : w.heap.size < w8.heap.size := by omega
          have s0w8 : w8.cell? ⟨w.heap.size, 0, none⟩ = some (.slice oa ns ca) := (hPw8.cell (p := ⟨_, _, none⟩) zsw7).trans s0w7
          have s1w8 : w8.cell? ⟨w.heap.size, 1, none⟩ = some (.slice ob nb cb) := (hPw8.cell (p := ⟨_, _, none⟩) zsw7).trans s1w7
          have zmw8 : w.heap.size + 1 < w8.heap.size := by omega
          have m0w8 : w8.cell? ⟨w.heap.size + 1, 0, none⟩ = some (.slice om m.ng cm) := (hPw8.cell (p := ⟨_, _, none⟩) zmw7).trans m0w7
          have m1w8 : w8.cell? ⟨w.heap.size + 1, 1, none⟩ = some (.slice ot m.ns ct) := (hPw8.cell (p := ⟨_, _, none⟩) zmw7).trans m1w7
          have zgw8 : w.heap.size + 1 + 1 < w8.heap.size := by omega
          have g0w8 : w8.cell? ⟨w.heap.size + 1 + 1, 0, none⟩ = some (.string x0) := (hPw8.cell (p := ⟨_, _, none⟩) zgw7).trans g0w7
          have g1w8 : w8.cell? ⟨w.heap.size + 1 + 1, 1, none⟩ = some (.string x1) := (hPw8.cell (p := ⟨_, _, none⟩) zgw7).trans g1w7
          have g2w8 : w8.cell? ⟨w.heap.size + 1 + 1, 2, none⟩ = some (.int .i64 x2) := (hPw8.cell (p := ⟨_, _, none⟩) zgw7).trans g2w7
          have g3w8 : w8.cell? ⟨w.heap.size + 1 + 1, 3, none⟩ = some (.int .i64 x3) := (hPw8.cell (p := ⟨_, _, none⟩) zgw7).trans g3w7
          have g4w8 : w8.cell? ⟨w.heap.size + 1 + 1, 4, none⟩ = some (.int .i64 x4) := (hPw8.cell (p := ⟨_, _, none⟩) zgw7).trans g4w7
          have g5w8 : w8.cell? ⟨w.heap.size + 1 + 1, 5, none⟩ = some (.string x5) := (hPw8.cell (p := ⟨_, _, none⟩) zgw7).trans g5w7
          have g6w8 : w8.cell? ⟨w.heap.size + 1 + 1, 6, none⟩ = some (.string y0) := (hPw8.cell (p := ⟨_, _, none⟩) zgw7).trans g6w7
          have g7w8 : w8.cell? ⟨w.heap.size + 1 + 1, 7, none⟩ = some (.string y1) := (hPw8.cell (p := ⟨_, _, none⟩) zgw7).trans g7w7
          have g8w8 : w8.cell? ⟨w.heap.size + 1 + 1, 8, none⟩ = some (.string y2) := (hPw8.cell (p := ⟨_, _, none⟩) zgw7).trans g8w7
          have g9w8 : w8.cell? ⟨w.heap.size + 1 + 1, 9, none⟩ = some (.int .i64 y3) := (hPw8.cell (p := ⟨_, _, none⟩) zgw7).trans g9w7
          have g10w8 : w8.cell? ⟨w.heap.size + 1 + 1, 10, none⟩ = some (.string y4) := (hPw8.cell (p := ⟨_, _, none⟩) zgw7).trans g10w7
          have zaw8 : w3.heap.size < w8.heap.size := by omega
          have a0w8 : w8.cell? ⟨w3.heap.size, 0, none⟩ = some (.slice oa1 (ns + 1) ca1) := (hPw8.cell (p := ⟨_, _, none⟩) zaw7).trans a0w7
          have a1w8 : w8.cell? ⟨w3.heap.size, 1, none⟩ = some (.slice pa1 nb da1) := (hPw8.cell (p := ⟨_, _, none⟩) zaw7).trans a1w7
          replace Ha := Lib.hid (Ha.out.below hPw8)
          replace Ha2 := Lib.hid (Ha2.out.below hPw8)
          have hBw8 : Below w.heap.size w w8 := below_step (w := w) (by first | assumption | go_grown) hb
          have Hc := Lib.hid hst
          clear hst
          clear hb hsw8 hPw8
          clear zsw7 zmw7 zgw7 zaw7 s0w7 s1w7 m0w7 m1w7 g0w7 g1w7 g2w7 g3w7 g4w7 g5w7 g6w7 g7w7 g8w7 g9w7 g10w7 a0w7 a1w7
          go_wp2_with fail
          (go_at_call 19; refine (takeBar_back HR.out _ (⟨y0, y1, y2, y3, y4⟩ : Br) _ HEc.out (Hc.out.below (by first | exact Below.refl _ _ | go_grown))).mono ?_; rintro e_ w9 ⟨oc2, cc2, pc2, dc2, rfl, hst, hb⟩)
          have hsw9 := hb.size
          (try simp only [World.size_alloc, World.size_setCell] at hsw9)
          have zzw9 : w.heap.size < w9.heap.size := by omega
          have hPw9 : Below w8.heap.size w8 w9 := below_step (w := w8) (by first | exact Below.refl _ _ | go_grown) hb
          have zsw9 : w.heap.size < w9.heap.size := by omega
          have s0w9 : w9.cell? ⟨w.heap.size, 0, none⟩ = some (.slice oa ns ca) := (hPw9.cell (p := ⟨_, _, none⟩) zsw8).trans s0w8
          have s1w9 : w9.cell? ⟨w.heap.size, 1, none⟩ = some (.slice ob nb cb) := (hPw9.cell (p := ⟨_, _, none⟩) zsw8).trans s1w8
          have zmw9 : w.heap.size + 1 < w9.heap.size := by omega
          have m0w9 : w9.cell? ⟨w.heap.size + 1, 0, none⟩ = some (.slice om m.ng cm) := (hPw9.cell (p := ⟨_, _, none⟩) zmw8).trans m0w8
          have m1w9 : w9.cell? ⟨w.heap.size + 1, 1, none⟩ = some (.slice ot m.ns ct) := (hPw9.cell (p := ⟨_, _, none⟩) zmw8).trans m1w8
          have zgw9 : w.heap.size + 1 + 1 < w9.heap.size := by omega
          have g0w9 : w9.cell? ⟨w.heap.size + 1 + 1, 0, none⟩ = some (.string x0) := (hPw9.cell (p := ⟨_, _, none⟩) zgw8).trans g0w8
          have g1w9 : w9.cell? ⟨w.heap.size + 1 + 1, 1, none⟩ = some (.string x1) := (hPw9.cell (p := ⟨_, _, none⟩) zgw8).trans g1w8
          have g2w9 : w9.cell? ⟨w.heap.size + 1 + 1, 2, none⟩ = some (.int .i64 x2) := (hPw9.cell (p := ⟨_, _, none⟩) zgw8).trans g2w8
          have g3w9 : w9.cell? ⟨w.heap.size + 1 + 1, 3, none⟩ = some (.int .i64 x3) := (hPw9.cell (p := ⟨_, _, none⟩) zgw8).trans g3w8
          have g4w9 : w9.cell? ⟨w.heap.size + 1 + 1, 4, none⟩ = some (.int .i64 x4) := (hPw9.cell (p := ⟨_, _, none⟩) zgw8).trans g4w8
          have g5w9 : w9.cell? ⟨w.heap.size + 1 + 1, 5, none⟩ = some (.string x5) := (hPw9.cell (p := ⟨_, _, none⟩) zgw8).trans g5w8
          have g6w9 : w9.cell? ⟨w.heap.size + 1 + 1, 6, none⟩ = some (.string y0) := (hPw9.cell (p := ⟨_, _, none⟩) zgw8).trans g6w8
          have g7w9 : w9.cell? ⟨w.heap.size + 1 + 1, 7, none⟩ = some (.string y1) := (hPw9.cell (p := ⟨_, _, none⟩) zgw8).trans g7w8
          have g8w9 : w9.cell? ⟨w.heap.size + 1 + 1, 8, none⟩ = some (.string y2) := (hPw9.cell (p := ⟨_, _, none⟩) zgw8).trans g8w8
          have g9w9 : w9.cell? ⟨w.heap.size + 1 + 1, 9, none⟩ = some (.int .i64 y3) := (hPw9.cell (p := ⟨_, _, none⟩) zgw8).trans g9w8
          have g10w9 : w9.cell? ⟨w.heap.size + 1 + 1, 10, none⟩ = some (.string y4) := (hPw9.cell (p := ⟨_, _, none⟩) zgw8).trans g10w8
          have zaw9 : w3.heap.size < w9.heap.size := by omega
          have a0w9 : w9.cell? ⟨w3.heap.size, 0, none⟩ = some (.slice oa1 (ns + 1) ca1) := (hPw9.cell (p := ⟨_, _, none⟩) zaw8).trans a0w8
          have a1w9 : w9.cell? ⟨w3.heap.size, 1, none⟩ = some (.slice pa1 nb da1) := (hPw9.cell (p := ⟨_, _, none⟩) zaw8).trans a1w8
          have zcw9 : w8.heap.size < w9.heap.size := by omega
          have c0w9 : w9.cell? ⟨w8.heap.size, 0, none⟩ = some (.slice oc1 ns cc1) := (hb.cell (p := ⟨_, _, none⟩) (by simp <;> omega)).trans (by simp [go_sem])
          have c1w9 : w9.cell? ⟨w8.heap.size, 1, none⟩ = some (.slice pc1 (nb + 1) dc1) := (hb.cell (p := ⟨_, _, none⟩) (by simp <;> omega)).trans (by simp [go_sem])
          replace Ha := Lib.hid (Ha.out.below hPw9)
          replace Ha2 := Lib.hid (Ha2.out.below hPw9)
          replace Hc := Lib.hid (Hc.out.below hPw9)
          have hBw9 : Below w.heap.size w w9 := below_step (w := w) (by first | assumption | go_grown) hb
          have Hc2 := Lib.hid hst
          clear hst
          dsimp only [Br.val]
          clear hb hsw9 hPw9
          clear zsw8 zmw8 zgw8 zaw8 s0w8 s1w8 m0w8 m1w8 g0w8 g1w8 g2w8 g3w8 g4w8 g5w8 g6w8 g7w8 g8w8 g9w8 g10w8 a0w8 a1w8
          go_wp2_with fail
          (go_at_call 18; refine (addBar_again HR.out _ _ gv (⟨y0, y1, y2, y3, y4⟩ : Br) _ (Hc.out.below (by first | exact Below.refl _ _ | go_grown)) (HM.out.below (by first | assumption | go_grown)) HZY.out (HML.out.below (by first | assumption | go_grown)) HEc.out).mono ?_; rintro e_ w10 ⟨oc3, cc3, pc3, dc3, rfl, hb⟩)
          have hsw10 := hb.size
          (try simp only [World.size_alloc, World.size_setCell] at hsw10)
          have zzw10 : w.heap.size < w10.heap.size := by omega
          have hPw10 : Below w9.heap.size w9 w10 := below_step (w := w9) (by first | exact Below.refl _ _ | go_grown) hb
          have zsw10 : w.heap.size < w10.heap.size := by omega
          have s0w10 : w10.cell? ⟨w.heap.size, 0, none⟩ = some (.slice oa ns ca) := (hPw10.cell (p := ⟨_, _, none⟩) zsw9).trans s0w9
          have s1w10 : w10.cell? ⟨w.heap.size, 1, none⟩ = some (.slice ob nb cb) := (hPw10.cell (p := ⟨_, _, none⟩) zsw9).trans s1w9
          have zmw10 : w.heap.size + 1 < w10.heap.size := by omega
          have m0w10 : w10.cell? ⟨w.heap.size + 1, 0, none⟩ = some (.slice om m.ng cm) := (hPw10.cell (p := ⟨_, _, none⟩) zmw9).trans m0w9
          have m1w10 : w10.cell? ⟨w.heap.size + 1, 1, none⟩ = some (.slice ot m.ns ct) := (hPw10.cell (p := ⟨_, _, none⟩) zmw9).trans m1w9
          have zgw10 : w.heap.size + 1 + 1 < w10.heap.size := by omega
          have g0w10 : w10.cell? ⟨w.heap.size + 1 + 1, 0, none⟩ = some (.string x0) := (hPw10.cell (p := ⟨_, _, none⟩) zgw9).trans g0w9
          have g1w10 : w10.cell? ⟨w.heap.size + 1 + 1, 1, none⟩ = some (.string x1) := (hPw10.cell (p := ⟨_, _, none⟩) zgw9).trans g1w9
          have g2w10 : w10.cell? ⟨w.heap.size + 1 + 1, 2, none⟩ = some (.int .i64 x2) := (hPw10.cell (p := ⟨_, _, none⟩) zgw9).trans g2w9
          have g3w10 : w10.cell? ⟨w.heap.size + 1 + 1, 3, none⟩ = some (.int .i64 x3) := (hPw10.cell (p := ⟨_, _, none⟩) zgw9).trans g3w9
          have g4w10 : w10.cell? ⟨w.heap.size + 1 + 1, 4, none⟩ = some (.int .i64 x4) := (hPw10.cell (p := ⟨_, _, none⟩) zgw9).trans g4w9
          have g5w10 : w10.cell? ⟨w.heap.size + 1 + 1, 5, none⟩ = some (.string x5) := (hPw10.cell (p := ⟨_, _, none⟩) zgw9).trans g5w9
          have g6w10 : w10.cell? ⟨w.heap.size + 1 + 1, 6, none⟩ = some (.string y0) := (hPw10.cell (p := ⟨_, _, none⟩) zgw9).trans g6w9
          have g7w10 : w10.cell? ⟨w.heap.size + 1 + 1, 7, none⟩ = some (.string y1) := (hPw10.cell (p := ⟨_, _, none⟩) zgw9).trans g7w9
          have g8w10 : w10.cell? ⟨w.heap.size + 1 + 1, 8, none⟩ = some (.string y2) := (hPw10.cell (p := ⟨_, _, none⟩) zgw9).trans g8w9
          have g9w10 : w10.cell? ⟨w.heap.size + 1 + 1, 9, none⟩ = some (.int .i64 y3) := (hPw10.cell (p := ⟨_, _, none⟩) zgw9).trans g9w9
          have g10w10 : w10.cell? ⟨w.heap.size + 1 + 1, 10, none⟩ = some (.string y4) := (hPw10.cell (p := ⟨_, _, none⟩) zgw9).trans g10w9
          have zaw10 : w3.heap.size < w10.heap.size := by omega
          have a0w10 : w10.cell? ⟨w3.heap.size, 0, none⟩ = some (.slice oa1 (ns + 1) ca1) := (hPw10.cell (p := ⟨_, _, none⟩) zaw9).trans a0w9
          have a1w10 : w10.cell? ⟨w3.heap.size, 1, none⟩ = some (.slice pa1 nb da1) := (hPw10.cell (p := ⟨_, _, none⟩) zaw9).trans a1w9
          have zcw10 : w8.heap.size < w10.heap.size := by omega
          have c0w10 : w10.cell? ⟨w8.heap.size, 0, none⟩ = some (.slice oc1 ns cc1) := (hPw10.cell (p := ⟨_, _, none⟩) zcw9).trans c0w9
          have c1w10 : w10.cell? ⟨w8.heap.size, 1, none⟩ = some (.slice pc1 (nb + 1) dc1) := (hPw10.cell (p := ⟨_, _, none⟩) zcw9).trans c1w9
          have zcbw10 : w9.heap.size < w10.heap.size := by omega
          have cb0w10 : w10.cell? ⟨w9.heap.size, 0, none⟩ = some (.slice oc2 ns cc2) := (hb.cell (p := ⟨_, _, none⟩) (by simp <;> omega)).trans (by simp [go_sem])
          have cb1w10 : w10.cell? ⟨w9.heap.size, 1, none⟩ = some (.slice pc2 nb dc2) := (hb.cell (p := ⟨_, _, none⟩) (by simp <;> omega)).trans (by simp [go_sem])
          have zcyw10 : w9.heap.size + 1 < w10.heap.size := by omega
          have cy0w10 : w10.cell? ⟨w9.heap.size + 1, 0, none⟩ = some (.string y0) := (hb.cell (p := ⟨_, _, none⟩) (by simp <;> omega)).trans (by simp [go_sem])
          have cy1w10 : w10.cell? ⟨w9.heap.size + 1, 1, none⟩ = some (.string y1) := (hb.cell (p := ⟨_, _, none⟩) (by simp <;> omega)).trans (by simp [go_sem])
          have cy2w10 : w10.cell? ⟨w9.heap.size + 1, 2, none⟩ = some (.string y2) := (hb.cell (p := ⟨_, _, none⟩) (by simp <;> omega)).trans (by simp [go_sem])
          have cy3w10 : w10.cell? ⟨w9.heap.size + 1, 3, none⟩ = some (.int .i64 y3) := (hb.cell (p := ⟨_, _, none⟩) (by simp <;> omega)).trans (by simp [go_sem])
          have cy4w10 : w10.cell? ⟨w9.heap.size + 1, 4, none⟩ = some (.string y4) := (hb.cell (p := ⟨_, _, none⟩) (by simp <;> omega)).trans (by simp [go_sem])
          replace Ha := Lib.hid (Ha.out.below hPw10)
          replace Ha2 := Lib.hid (Ha2.out.below hPw10)
          replace Hc := Lib.hid (Hc.out.below hPw10)
          replace Hc2 := Lib.hid (Hc2.out.below hPw10)
          have hBw10 : Below w.heap.size w w10 := below_step (w := w) (by first | assumption | go_grown) hb
          clear hb hsw10 hPw10
          clear zsw9 zmw9 zgw9 zaw9 zcw9 s0w9 s1w9 m0w9 m1w9 g0w9 g1w9 g2w9 g3w9 g4w9 g5w9 g6w9 g7w9 g8w9 g9w9 g10w9 a0w9 a1w9 c0w9 c1w9
          go_wp2_with fail
          (go_at_call 10; refine (addBar_check HR.out _ _ gv (⟨y0, y1, y2, y3, y4⟩ : Br) _ (HM.out.below (by first | assumption | go_grown)) HZY.out (HML.out.below (by first | assumption | go_grown)) HEc.out (Hc.out.below (by first | exact Below.refl _ _ | go_grown))).mono ?_; rintro e_ w11 ⟨rfl, hb⟩)
          have hsw11 := hb.size
          (try simp only [World.size_alloc, World.size_setCell] at hsw11)
          have zzw11 : w.heap.size < w11.heap.size := by omega
          have hPw11 : Below w10.heap.size w10 w11 := below_step (w := w10) (by first | exact Below.refl _ _ | go_grown) hb
          have zsw11 : w.heap.size < w11.heap.size := by omega
          have s0w11 : w11.cell? ⟨w.heap.size, 0, none⟩ = some (.slice oa ns ca) := (hPw11.cell (p := ⟨_, _, none⟩) zsw10).trans s0w10
          have s1w11 : w11.cell? ⟨w.heap.size, 1, none⟩ = some (.slice ob nb cb) := (hPw11.cell (p := ⟨_, _, none⟩) zsw10).trans s1w10
          have zmw11 : w.heap.size + 1 < w11.heap.size := by omega
          have m0w11 : w11.cell? ⟨w.heap.size + 1, 0, none⟩ = some (.slice om m.ng cm) := (hPw11.cell (p := ⟨_, _, none⟩) zmw10).trans m0w10
          have m1w11 : w11.cell? ⟨w.heap.size + 1, 1, none⟩ = some (.slice ot m.ns ct) := (hPw11.cell (p := ⟨_, _, none⟩) zmw10).trans m1w10
          have zgw11 : w.heap.size + 1 + 1 < w11.heap.size := by omega
          have g0w11 : w11.cell? ⟨w.heap.size + 1 + 1, 0, none⟩ = some (.string x0) := (hPw11.cell (p := ⟨_, _, none⟩) zgw10).trans g0w10
          have g1w11 : w11.cell? ⟨w.heap.size + 1 + 1, 1, none⟩ = some (.string x1) := (hPw11.cell (p := ⟨_, _, none⟩) zgw10).trans g1w10
          have g2w11 : w11.cell? ⟨w.heap.size + 1 + 1, 2, none⟩ = some (.int .i64 x2) := (hPw11.cell (p := ⟨_, _, none⟩) zgw10).trans g2w10
          have g3w11 : w11.cell? ⟨w.heap.size + 1 + 1, 3, none⟩ = some (.int .i64 x3) := (hPw11.cell (p := ⟨_, _, none⟩) zgw10).trans g3w10
          have g4w11 : w11.cell? ⟨w.heap.size + 1 + 1, 4, none⟩ = some (.int .i64 x4) := (hPw11.cell (p := ⟨_, _, none⟩) zgw10).trans g4w10
          have g5w11 : w11.cell? ⟨w.heap.size + 1 + 1, 5, none⟩ = some (.string x5) := (hPw11.cell (p := ⟨_, _, none⟩) zgw10).trans g5w10
          have g6w11 : w11.cell? ⟨w.heap.size + 1 + 1, 6, none⟩ = some (.string y0) := (hPw11.cell (p := ⟨_, _, none⟩) zgw10).trans g6w10
          have g7w11 : w11.cell? ⟨w.heap.size + 1 + 1, 7, none⟩ = some (.string y1) := (hPw11.cell (p := ⟨_, _, none⟩) zgw10).trans g7w10
          have g8w11 : w11.cell? ⟨w.heap.size + 1 + 1, 8, none⟩ = some (.string y2) := (hPw11.cell (p := ⟨_, _, none⟩) zgw10).trans g8w10
          have g9w11 : w11.cell? ⟨w.heap.size + 1 + 1, 9, none⟩ = some (.int .i64 y3) := (hPw11.cell (p := ⟨_, _, none⟩) zgw10).trans g9w10
          have g10w11 : w11.cell? ⟨w.heap.size + 1 + 1, 10, none⟩ = some (.string y4) := (hPw11.cell (p := ⟨_, _, none⟩) zgw10).trans g10w10
          have zaw11 : w3.heap.size < w11.heap.size := by omega
          have a0w11 : w11.cell? ⟨w3.heap.size, 0, none⟩ = some (.slice oa1 (ns + 1) ca1) := (hPw11.cell (p := ⟨_, _, none⟩) zaw10).trans a0w10
          have a1w11 : w11.cell? ⟨w3.heap.size, 1, none⟩ = some (.slice pa1 nb da1) := (hPw11.cell (p := ⟨_, _, none⟩) zaw10).trans a1w10
          have zcw11 : w8.heap.size < w11.heap.size := by omega
          have c0w11 : w11.cell? ⟨w8.heap.size, 0, none⟩ = some (.slice oc1 ns cc1) := (hPw11.cell (p := ⟨_, _, none⟩) zcw10).trans c0w10
          have c1w11 : w11.cell? ⟨w8.heap.size, 1, none⟩ = some (.slice pc1 (nb + 1) dc1) := (hPw11.cell (p := ⟨_, _, none⟩) zcw10).trans c1w10
          have zcbw11 : w9.heap.size < w11.heap.size := by omega
          have cb0w11 : w11.cell? ⟨w9.heap.size, 0, none⟩ = some (.slice oc2 ns cc2) := (hPw11.cell (p := ⟨_, _, none⟩) zcbw10).trans cb0w10
          have cb1w11 : w11.cell? ⟨w9.heap.size, 1, none⟩ = some (.slice pc2 nb dc2) := (hPw11.cell (p := ⟨_, _, none⟩) zcbw10).trans cb1w10
          have zcyw11 : w9.heap.size + 1 < w11.heap.size := by omega
          have cy0w11 : w11.cell? ⟨w9.heap.size + 1, 0, none⟩ = some (.string y0) := (hPw11.cell (p := ⟨_, _, none⟩) zcyw10).trans cy0w10
          have cy1w11 : w11.cell? ⟨w9.heap.size + 1, 1, none⟩ = some (.string y1) := (hPw11.cell (p := ⟨_, _, none⟩) zcyw10).trans cy1w10
          have cy2w11 : w11.cell? ⟨w9.heap.size + 1, 2, none⟩ = some (.string y2) := (hPw11.cell (p := ⟨_, _, none⟩) zcyw10).trans cy2w10
          have cy3w11 : w11.cell? ⟨w9.heap.size + 1, 3, none⟩ = some (.int .i64 y3) := (hPw11.cell (p := ⟨_, _, none⟩) zcyw10).trans cy3w10
          have cy4w11 : w11.cell? ⟨w9.heap.size + 1, 4, none⟩ = some (.string y4) := (hPw11.cell (p := ⟨_, _, none⟩) zcyw10).trans cy4w10
          have zczw11 : w10.heap.size < w11.heap.size := by omega
          have cz0w11 : w11.cell? ⟨w10.heap.size, 0, none⟩ = some (.slice oc3 0 cc3) := (hb.cell (p := ⟨_, _, none⟩) (by simp <;> omega)).trans (by simp [go_sem])
          have cz1w11 : w11.cell? ⟨w10.heap.size, 1, none⟩ = some (.slice pc3 0 dc3) := (hb.cell (p := ⟨_, _, none⟩) (by simp <;> omega)).trans (by simp [go_sem])
          replace Ha := Lib.hid (Ha.out.below hPw11)
          replace Ha2 := Lib.hid (Ha2.out.below hPw11)
          replace Hc := Lib.hid (Hc.out.below hPw11)
          replace Hc2 := Lib.hid (Hc2.out.below hPw11)
          have hBw11 : Below w.heap.size w w11 := below_step (w := w) (by first | assumption | go_grown) hb
          clear hb hsw11 hPw11
          clear zsw10 zmw10 zgw10 zaw10 zcw10 zcbw10 zcyw10 s0w10 s1w10 m0w10 m1w10 g0w10 g1w10 g2w10 g3w10 g4w10 g5w10 g6w10 g7w10 g8w10 g9w10 g10w10 a0w10 a1w10 c0w10 c1w10 cb0w10 cb1w10 cy0w10 cy1w10 cy2w10 cy3w10 cy4w10
          have hneqc : ∀ W, (binOp .neq 40 (.agg #[.string y0, .string y1, .string y2, .int .i64 y3, .string y4]) (.agg #[.string y0, .string y1, .string y2, .int .i64 y3, .string y4])).run Tryd.prog W = .ok (.bool false) W := neq_self_Bar (⟨y0, y1, y2, y3, y4⟩ : Br)
          have hwrc : IntKind.i64.wrap ((nb : Int) + 1) = (nb : Int) + 1 := IntWalk.i64_in _ (by have := HR.out.n2; omega)
          go_wp2_with fail
          (go_at_call 13; refine (rsame_self _ (Hc2.out.below (by first | exact Below.refl _ _ | go_grown)) (HST.out.below (by first | assumption | go_grown))).mono ?_; rintro e_ w12 ⟨rfl, hb⟩)
          have hsw12 := hb.size
          (try simp only [World.size_alloc, World.size_setCell] at hsw12)
          have zzw12 : w.heap.size < w12.heap.size := by omega
          have hPw12 : Below w11.heap.size w11 w12 := below_step (w := w11) (by first | exact Below.refl _ _ | go_grown) hb
          have zsw12 : w.heap.size < w12.heap.size := by omega
          have s0w12 : w12.cell? ⟨w.heap.size, 0, none⟩ = some (.slice oa ns ca) := (hPw12.cell (p := ⟨_, _, none⟩) zsw11).trans s0w11
          have s1w12 : w12.cell? ⟨w.heap.size, 1, none⟩ = some (.slice ob nb cb) := (hPw12.cell (p := ⟨_, _, none⟩) zsw11).trans s1w11
          have zmw12 : w.heap.size + 1 < w12.heap.size := by omega
          have m0w12 : w12.cell? ⟨w.heap.size + 1, 0, none⟩ = some (.slice om m.ng cm) := (hPw12.cell (p := ⟨_, _, none⟩) zmw11).trans m0w11
          have m1w12 : w12.cell? ⟨w.heap.size + 1, 1, none⟩ = some (.slice ot m.ns ct) := (hPw12.cell (p := ⟨_, _, none⟩) zmw11).trans m1w11
          have zgw12 : w.heap.size + 1 + 1 < w12.heap.size := by omega
          have g0w12 : w12.cell? ⟨w.heap.size + 1 + 1, 0, none⟩ = some (.string x0) := (hPw12.cell (p := ⟨_, _, none⟩) zgw11).trans g0w11
          have g1w12 : w12.cell? ⟨w.heap.size + 1 + 1, 1, none⟩ = some (.string x1) := (hPw12.cell (p := ⟨_, _, none⟩) zgw11).trans g1w11
          have g2w12 : w12.cell? ⟨w.heap.size + 1 + 1, 2, none⟩ = some (.int .i64 x2) := (hPw12.cell (p := ⟨_, _, none⟩) zgw11).trans g2w11
          have g3w12 : w12.cell? ⟨w.heap.size + 1 + 1, 3, none⟩ = some (.int .i64 x3) := (hPw12.cell (p := ⟨_, _, none⟩) zgw11).trans g3w11
          have g4w12 : w12.cell? ⟨w.heap.size + 1 + 1, 4, none⟩ = some (.int .i64 x4) := (hPw12.cell (p := ⟨_, _, none⟩) zgw11).trans g4w11
          have g5w12 : w12.cell? ⟨w.heap.size + 1 + 1, 5, none⟩ = some (.string x5) := (hPw12.cell (p := ⟨_, _, none⟩) zgw11).trans g5w11
          have g6w12 : w12.cell? ⟨w.heap.size + 1 + 1, 6, none⟩ = some (.string y0) := (hPw12.cell (p := ⟨_, _, none⟩) zgw11).trans g6w11
          have g7w12 : w12.cell? ⟨w.heap.size + 1 + 1, 7, none⟩ = some (.string y1) := (hPw12.cell (p := ⟨_, _, none⟩) zgw11).trans g7w11
          have g8w12 : w12.cell? ⟨w.heap.size + 1 + 1, 8, none⟩ = some (.string y2) := (hPw12.cell (p := ⟨_, _, none⟩) zgw11).trans g8w11
          have g9w12 : w12.cell? ⟨w.heap.size + 1 + 1, 9, none⟩ = some (.int .i64 y3) := (hPw12.cell (p := ⟨_, _, none⟩) zgw11).trans g9w11
          have g10w12 : w12.cell? ⟨w.heap.size + 1 + 1, 10, none⟩ = some (.string y4) := (hPw12.cell (p := ⟨_, _, none⟩) zgw11).trans g10w11
          have zaw12 : w3.heap.size < w12.heap.size := by omega
          have a0w12 : w12.cell? ⟨w3.heap.size, 0, none⟩ = some (.slice oa1 (ns + 1) ca1) := (hPw12.cell (p := ⟨_, _, none⟩) zaw11).trans a0w11
          have a1w12 : w12.cell? ⟨w3.heap.size, 1, none⟩ = some (.slice pa1 nb da1) := (hPw12.cell (p := ⟨_, _, none⟩) zaw11).trans a1w11
          have zcw12 : w8.heap.size < w12.heap.size := by omega
          have c0w12 : w12.cell? ⟨w8.heap.size, 0, none⟩ = some (.slice oc1 ns cc1) := (hPw12.cell (p := ⟨_, _, none⟩) zcw11).trans c0w11
          have c1w12 : w12.cell? ⟨w8.heap.size, 1, none⟩ = some (.slice pc1 (nb + 1) dc1) := (hPw12.cell (p := ⟨_, _, none⟩) zcw11).trans c1w11
          have zcbw12 : w9.heap.size < w12.heap.size := by omega
          have cb0w12 : w12.cell? ⟨w9.heap.size, 0, none⟩ = some (.slice oc2 ns cc2) := (hPw12.cell (p := ⟨_, _, none⟩) zcbw11).trans cb0w11
          have cb1w12 : w12.cell? ⟨w9.heap.size, 1, none⟩ = some (.slice pc2 nb dc2) := (hPw12.cell (p := ⟨_, _, none⟩) zcbw11).trans cb1w11
          have zcyw12 : w9.heap.size + 1 < w12.heap.size := by omega
          have cy0w12 : w12.cell? ⟨w9.heap.size + 1, 0, none⟩ = some (.string y0) := (hPw12.cell (p := ⟨_, _, none⟩) zcyw11).trans cy0w11
          have cy1w12 : w12.cell? ⟨w9.heap.size + 1, 1, none⟩ = some (.string y1) := (hPw12.cell (p := ⟨_, _, none⟩) zcyw11).trans cy1w11
          have cy2w12 : w12.cell? ⟨w9.heap.size + 1, 2, none⟩ = some (.string y2) := (hPw12.cell (p := ⟨_, _, none⟩) zcyw11).trans cy2w11
          have cy3w12 : w12.cell? ⟨w9.heap.size + 1, 3, none⟩ = some (.int .i64 y3) := (hPw12.cell (p := ⟨_, _, none⟩) zcyw11).trans cy3w11
          have cy4w12 : w12.cell? ⟨w9.heap.size + 1, 4, none⟩ = some (.string y4) := (hPw12.cell (p := ⟨_, _, none⟩) zcyw11).trans cy4w11
          have zczw12 : w10.heap.size < w12.heap.size := by omega
          have cz0w12 : w12.cell? ⟨w10.heap.size, 0, none⟩ = some (.slice oc3 0 cc3) := (hPw12.cell (p := ⟨_, _, none⟩) zczw11).trans cz0w11
          have cz1w12 : w12.cell? ⟨w10.heap.size, 1, none⟩ = some (.slice pc3 0 dc3) := (hPw12.cell (p := ⟨_, _, none⟩) zczw11).trans cz1w11
          replace Ha := Lib.hid (Ha.out.below hPw12)
          replace Ha2 := Lib.hid (Ha2.out.below hPw12)
          replace Hc := Lib.hid (Hc.out.below hPw12)
          replace Hc2 := Lib.hid (Hc2.out.below hPw12)
          have hBw12 : Below w.heap.size w w12 := below_step (w := w) (by first | assumption | go_grown) hb
          clear hb hsw12 hPw12
          clear zsw11 zmw11 zgw11 zaw11 zcw11 zcbw11 zcyw11 zczw11 s0w11 s1w11 m0w11 m1w11 g0w11 g1w11 g2w11 g3w11 g4w11 g5w11 g6w11 g7w11 g8w11 g9w11 g10w11 a0w11 a1w11 c0w11 c1w11 cb0w11 cb1w11 cy0w11 cy1w11 cy2w11 cy3w11 cy4w11 cz0w11 cz1w11
          clear hneqc hwrc
          clear zcbw12 cb0w12 cb1w12
          clear zcyw12 cy0w12 cy1w12 cy2w12 cy3w12 cy4w12
          clear zczw12 cz0w12 cz1w12
          go_wp2_with fail
          (go_at_call 9; refine (awake_any _ (HML.out.below (by first | assumption | go_grown))).mono ?_; rintro e_ w13 ⟨rfl, hb⟩)
          have hsw13 := hb.size
          (try simp only [World.size_alloc, World.size_setCell] at hsw13)
          have zzw13 : w.heap.size < w13.heap.size := by omega
          have hPw13 : Below w12.heap.size w12 w13 := below_step (w := w12) (by first | exact Below.refl _ _ | go_grown) hb
          have zsw13 : w.heap.size < w13.heap.size := by omega
          have s0w13 : w13.cell? ⟨w.heap.size, 0, none⟩ = some (.slice oa ns ca) := (hPw13.cell (p := ⟨_, _, none⟩) zsw12).trans s0w12
          have s1w13 : w13.cell? ⟨w.heap.size, 1, none⟩ = some (.slice ob nb cb) := (hPw13.cell (p := ⟨_, _, none⟩) zsw12).trans s1w12
          have zmw13 : w.heap.size + 1 < w13.heap.size := by omega
          have m0w13 : w13.cell? ⟨w.heap.size + 1, 0, none⟩ = some (.slice om m.ng cm) := (hPw13.cell (p := ⟨_, _, none⟩) zmw12).trans m0w12
          have m1w13 : w13.cell? ⟨w.heap.size + 1, 1, none⟩ = some (.slice ot m.ns ct) := (hPw13.cell (p := ⟨_, _, none⟩) zmw12).trans m1w12
          have zgw13 : w.heap.size + 1 + 1 < w13.heap.size := by omega
          have g0w13 : w13.cell? ⟨w.heap.size + 1 + 1, 0, none⟩ = some (.string x0) := (hPw13.cell (p := ⟨_, _, none⟩) zgw12).trans g0w12
          have g1w13 : w13.cell? ⟨w.heap.size + 1 + 1, 1, none⟩ = some (.string x1) := (hPw13.cell (p := ⟨_, _, none⟩) zgw12).trans g1w12
          have g2w13 : w13.cell? ⟨w.heap.size + 1 + 1, 2, none⟩ = some (.int .i64 x2) := (hPw13.cell (p := ⟨_, _, none⟩) zgw12).trans g2w12
          have g3w13 : w13.cell? ⟨w.heap.size + 1 + 1, 3, none⟩ = some (.int .i64 x3) := (hPw13.cell (p := ⟨_, _, none⟩) zgw12).trans g3w12
          have g4w13 : w13.cell? ⟨w.heap.size + 1 + 1, 4, none⟩ = some (.int .i64 x4) := (hPw13.cell (p := ⟨_, _, none⟩) zgw12).trans g4w12
          have g5w13 : w13.cell? ⟨w.heap.size + 1 + 1, 5, none⟩ = some (.string x5) := (hPw13.cell (p := ⟨_, _, none⟩) zgw12).trans g5w12
          have g6w13 : w13.cell? ⟨w.heap.size + 1 + 1, 6, none⟩ = some (.string y0) := (hPw13.cell (p := ⟨_, _, none⟩) zgw12).trans g6w12
          have g7w13 : w13.cell? ⟨w.heap.size + 1 + 1, 7, none⟩ = some (.string y1) := (hPw13.cell (p := ⟨_, _, none⟩) zgw12).trans g7w12
          have g8w13 : w13.cell? ⟨w.heap.size + 1 + 1, 8, none⟩ = some (.string y2) := (hPw13.cell (p := ⟨_, _, none⟩) zgw12).trans g8w12
          have g9w13 : w13.cell? ⟨w.heap.size + 1 + 1, 9, none⟩ = some (.int .i64 y3) := (hPw13.cell (p := ⟨_, _, none⟩) zgw12).trans g9w12
          have g10w13 : w13.cell? ⟨w.heap.size + 1 + 1, 10, none⟩ = some (.string y4) := (hPw13.cell (p := ⟨_, _, none⟩) zgw12).trans g10w12
          have zaw13 : w3.heap.size < w13.heap.size := by omega
          have a0w13 : w13.cell? ⟨w3.heap.size, 0, none⟩ = some (.slice oa1 (ns + 1) ca1) := (hPw13.cell (p := ⟨_, _, none⟩) zaw12).trans a0w12
          have a1w13 : w13.cell? ⟨w3.heap.size, 1, none⟩ = some (.slice pa1 nb da1) := (hPw13.cell (p := ⟨_, _, none⟩) zaw12).trans a1w12
          have zcw13 : w8.heap.size < w13.heap.size := by omega
          have c0w13 : w13.cell? ⟨w8.heap.size, 0, none⟩ = some (.slice oc1 ns cc1) := (hPw13.cell (p := ⟨_, _, none⟩) zcw12).trans c0w12
          have c1w13 : w13.cell? ⟨w8.heap.size, 1, none⟩ = some (.slice pc1 (nb + 1) dc1) := (hPw13.cell (p := ⟨_, _, none⟩) zcw12).trans c1w12
          replace Ha := Lib.hid (Ha.out.below hPw13)
          replace Ha2 := Lib.hid (Ha2.out.below hPw13)
          replace Hc := Lib.hid (Hc.out.below hPw13)
          replace Hc2 := Lib.hid (Hc2.out.below hPw13)
          have hBw13 : Below w.heap.size w w13 := below_step (w := w) (by first | assumption | go_grown) hb
          clear hb hsw13 hPw13
          clear zsw12 zmw12 zgw12 zaw12 zcw12 s0w12 s1w12 m0w12 m1w12 g0w12 g1w12 g2w12 g3w12 g4w12 g5w12 g6w12 g7w12 g8w12 g9w12 g10w12 a0w12 a1w12 c0w12 c1w12
          go_wp2
          go_returns
          exact ⟨rfl, by assumption⟩
        · obtain ⟨Ec, hEEc⟩ : ∃ E, addS (barE m ⟨y0, y1, y2, y3, y4⟩) (addE Br.id eb nb ⟨y0, y1, y2, y3, y4⟩) = E := ⟨_, rfl⟩
          have HNc := Lib.hid hEc
          have HEEc := Lib.hid hEEc
          have kc : (Ec == 0) = false := by rw [← hEEc]; simpa using hEc
          clear hEc hEEc
          go_wp2_with fail
          (go_at_call 18; refine (addBar_no HR.out _ _ gv (⟨y0, y1, y2, y3, y4⟩ : Br) _ (HST.out.below (by first | assumption | go_grown)) (HM.out.below (by first | assumption | go_grown)) HZY.out (HML.out.below (by first | assumption | go_grown)) HNc.out).mono ?_; rintro e_ w8 ⟨oc1, cc1, pc1, dc1, rfl, hb⟩)
          rw [HEEc.out]
          have hsw8 := hb.size
          (try simp only [World.size_alloc, World.size_setCell] at hsw8)
          have zzw8 : w.heap.size < w8.heap.size := by omega
          have hPw8 : Below w7.heap.size w7 w8 := below_step (w := w7) (by first | exact Below.refl _ _ | go_grown) hb
          have zsw8 : w.heap.size < w8.heap.size := by omega
          have s0w8 : w8.cell? ⟨w.heap.size, 0, none⟩ = some (.slice oa ns ca) := (hPw8.cell (p := ⟨_, _, none⟩) zsw7).trans s0w7
          have s1w8 : w8.cell? ⟨w.heap.size, 1, none⟩ = some (.slice ob nb cb) := (hPw8.cell (p := ⟨_, _, none⟩) zsw7).trans s1w7
          have zmw8 : w.heap.size + 1 < w8.heap.size := by omega
          have m0w8 : w8.cell? ⟨w.heap.size + 1, 0, none⟩ = some (.slice om m.ng cm) := (hPw8.cell (p := ⟨_, _, none⟩) zmw7).trans m0w7
          have m1w8 : w8.cell? ⟨w.heap.size + 1, 1, none⟩ = some (.slice ot m.ns ct) := (hPw8.cell (p := ⟨_, _, none⟩) zmw7).trans m1w7
          have zgw8 : w.heap.size + 1 + 1 < w8.heap.size := by omega
          have g0w8 : w8.cell? ⟨w.heap.size + 1 + 1, 0, none⟩ = some (.string x0) := (hPw8.cell (p := ⟨_, _, none⟩) zgw7).trans g0w7
          have g1w8 : w8.cell? ⟨w.heap.size + 1 + 1, 1, none⟩ = some (.string x1) := (hPw8.cell (p := ⟨_, _, none⟩) zgw7).trans g1w7
          have g2w8 : w8.cell? ⟨w.heap.size + 1 + 1, 2, none⟩ = some (.int .i64 x2) := (hPw8.cell (p := ⟨_, _, none⟩) zgw7).trans g2w7
          have g3w8 : w8.cell? ⟨w.heap.size + 1 + 1, 3, none⟩ = some (.int .i64 x3) := (hPw8.cell (p := ⟨_, _, none⟩) zgw7).trans g3w7
          have g4w8 : w8.cell? ⟨w.heap.size + 1 + 1, 4, none⟩ = some (.int .i64 x4) := (hPw8.cell (p := ⟨_, _, none⟩) zgw7).trans g4w7
          have g5w8 : w8.cell? ⟨w.heap.size + 1 + 1, 5, none⟩ = some (.string x5) := (hPw8.cell (p := ⟨_, _, none⟩) zgw7).trans g5w7
          have g6w8 : w8.cell? ⟨w.heap.size + 1 + 1, 6, none⟩ = some (.string y0) := (hPw8.cell (p := ⟨_, _, none⟩) zgw7).trans g6w7
          have g7w8 : w8.cell? ⟨w.heap.size + 1 + 1, 7, none⟩ = some (.string y1) := (hPw8.cell (p := ⟨_, _, none⟩) zgw7).trans g7w7
          have g8w8 : w8.cell? ⟨w.heap.size + 1 + 1, 8, none⟩ = some (.string y2) := (hPw8.cell (p := ⟨_, _, none⟩) zgw7).trans g8w7
          have g9w8 : w8.cell? ⟨w.heap.size + 1 + 1, 9, none⟩ = some (.int .i64 y3) := (hPw8.cell (p := ⟨_, _, none⟩) zgw7).trans g9w7
          have g10w8 : w8.cell? ⟨w.heap.size + 1 + 1, 10, none⟩ = some (.string y4) := (hPw8.cell (p := ⟨_, _, none⟩) zgw7).trans g10w7
          have zaw8 : w3.heap.size < w8.heap.size := by omega
          have a0w8 : w8.cell? ⟨w3.heap.size, 0, none⟩ = some (.slice oa1 (ns + 1) ca1) := (hPw8.cell (p := ⟨_, _, none⟩) zaw7).trans a0w7
          have a1w8 : w8.cell? ⟨w3.heap.size, 1, none⟩ = some (.slice pa1 nb da1) := (hPw8.cell (p := ⟨_, _, none⟩) zaw7).trans a1w7
          replace Ha := Lib.hid (Ha.out.below hPw8)
          replace Ha2 := Lib.hid (Ha2.out.below hPw8)
          have hBw8 : Below w.heap.size w w8 := below_step (w := w) (by first | assumption | go_grown) hb
          clear hb hsw8 hPw8
          clear zsw7 zmw7 zgw7 zaw7 s0w7 s1w7 m0w7 m1w7 g0w7 g1w7 g2w7 g3w7 g4w7 g5w7 g6w7 g7w7 g8w7 g9w7 g10w7 a0w7 a1w7
          go_wp2_with fail
          (go_at_call 9; refine (awake_any _ (HML.out.below (by first | assumption | go_grown))).mono ?_; rintro e_ w9 ⟨rfl, hb⟩)
          have hsw9 := hb.size
          (try simp only [World.size_alloc, World.size_setCell] at hsw9)
          have zzw9 : w.heap.size < w9.heap.size := by omega
          have hPw9 : Below w8.heap.size w8 w9 := below_step (w := w8) (by first | exact Below.refl _ _ | go_grown) hb
          have zsw9 : w.heap.size < w9.heap.size := by omega
          have s0w9 : w9.cell? ⟨w.heap.size, 0, none⟩ = some (.slice oa ns ca) := (hPw9.cell (p := ⟨_, _, none⟩) zsw8).trans s0w8
          have s1w9 : w9.cell? ⟨w.heap.size, 1, none⟩ = some (.slice ob nb cb) := (hPw9.cell (p := ⟨_, _, none⟩) zsw8).trans s1w8
          have zmw9 : w.heap.size + 1 < w9.heap.size := by omega
          have m0w9 : w9.cell? ⟨w.heap.size + 1, 0, none⟩ = some (.slice om m.ng cm) := (hPw9.cell (p := ⟨_, _, none⟩) zmw8).trans m0w8
          have m1w9 : w9.cell? ⟨w.heap.size + 1, 1, none⟩ = some (.slice ot m.ns ct) := (hPw9.cell (p := ⟨_, _, none⟩) zmw8).trans m1w8
          have zgw9 : w.heap.size + 1 + 1 < w9.heap.size := by omega
          have g0w9 : w9.cell? ⟨w.heap.size + 1 + 1, 0, none⟩ = some (.string x0) := (hPw9.cell (p := ⟨_, _, none⟩) zgw8).trans g0w8
          have g1w9 : w9.cell? ⟨w.heap.size + 1 + 1, 1, none⟩ = some (.string x1) := (hPw9.cell (p := ⟨_, _, none⟩) zgw8).trans g1w8
          have g2w9 : w9.cell? ⟨w.heap.size + 1 + 1, 2, none⟩ = some (.int .i64 x2) := (hPw9.cell (p := ⟨_, _, none⟩) zgw8).trans g2w8
          have g3w9 : w9.cell? ⟨w.heap.size + 1 + 1, 3, none⟩ = some (.int .i64 x3) := (hPw9.cell (p := ⟨_, _, none⟩) zgw8).trans g3w8
          have g4w9 : w9.cell? ⟨w.heap.size + 1 + 1, 4, none⟩ = some (.int .i64 x4) := (hPw9.cell (p := ⟨_, _, none⟩) zgw8).trans g4w8
          have g5w9 : w9.cell? ⟨w.heap.size + 1 + 1, 5, none⟩ = some (.string x5) := (hPw9.cell (p := ⟨_, _, none⟩) zgw8).trans g5w8
          have g6w9 : w9.cell? ⟨w.heap.size + 1 + 1, 6, none⟩ = some (.string y0) := (hPw9.cell (p := ⟨_, _, none⟩) zgw8).trans g6w8
          have g7w9 : w9.cell? ⟨w.heap.size + 1 + 1, 7, none⟩ = some (.string y1) := (hPw9.cell (p := ⟨_, _, none⟩) zgw8).trans g7w8
          have g8w9 : w9.cell? ⟨w.heap.size + 1 + 1, 8, none⟩ = some (.string y2) := (hPw9.cell (p := ⟨_, _, none⟩) zgw8).trans g8w8
          have g9w9 : w9.cell? ⟨w.heap.size + 1 + 1, 9, none⟩ = some (.int .i64 y3) := (hPw9.cell (p := ⟨_, _, none⟩) zgw8).trans g9w8
          have g10w9 : w9.cell? ⟨w.heap.size + 1 + 1, 10, none⟩ = some (.string y4) := (hPw9.cell (p := ⟨_, _, none⟩) zgw8).trans g10w8
          have zaw9 : w3.heap.size < w9.heap.size := by omega
          have a0w9 : w9.cell? ⟨w3.heap.size, 0, none⟩ = some (.slice oa1 (ns + 1) ca1) := (hPw9.cell (p := ⟨_, _, none⟩) zaw8).trans a0w8
          have a1w9 : w9.cell? ⟨w3.heap.size, 1, none⟩ = some (.slice pa1 nb da1) := (hPw9.cell (p := ⟨_, _, none⟩) zaw8).trans a1w8
          replace Ha := Lib.hid (Ha.out.below hPw9)
          replace Ha2 := Lib.hid (Ha2.out.below hPw9)
          have hBw9 : Below w.heap.size w w9 := below_step (w := w) (by first | assumption | go_grown) hb
          clear hb hsw9 hPw9
          clear zsw8 zmw8 zgw8 zaw8 s0w8 s1w8 m0w8 m1w8 g0w8 g1w8 g2w8 g3w8 g4w8 g5w8 g6w8 g7w8 g8w8 g9w8 g10w8 a0w8 a1w8
          go_wp2
          go_returns
          exact ⟨rfl, by assumption⟩
      · obtain ⟨Ea, hEEa⟩ : ∃ E, addS (sheetE m ⟨x0, x1, x2, x3, x4, x5⟩) (addE Sh.id es ns ⟨x0, x1, x2, x3, x4, x5⟩) = E := ⟨_, rfl⟩
        have HNa := Lib.hid hEa
        have HEEa := Lib.hid hEEa
        have ka : (Ea == 0) = false := by rw [← hEEa]; simpa using hEa
        clear hEa hEEa
        go_wp2_with fail
        (go_at_call 16; refine (addSheet_no HR.out _ _ gv (⟨x0, x1, x2, x3, x4, x5⟩ : Sh) _ (HST.out.below (by first | assumption | go_grown)) (HM.out.below (by first | assumption | go_grown)) HZX.out (HML.out.below (by first | assumption | go_grown)) HNa.out).mono ?_; rintro e_ w3 ⟨oa1, ca1, pa1, da1, rfl, hb⟩)
        rw [HEEa.out]
        have hsw3 := hb.size
        (try simp only [World.size_alloc, World.size_setCell] at hsw3)
        have zzw3 : w.heap.size < w3.heap.size := by omega
        have hPw3 : Below w2.heap.size w2 w3 := below_step (w := w2) (by first | exact Below.refl _ _ | go_grown) hb
        have zsw3 : w.heap.size < w3.heap.size := by omega
        have s0w3 : w3.cell? ⟨w.heap.size, 0, none⟩ = some (.slice oa ns ca) := (hPw3.cell (p := ⟨_, _, none⟩) zsw2).trans s0w2
        have s1w3 : w3.cell? ⟨w.heap.size, 1, none⟩ = some (.slice ob nb cb) := (hPw3.cell (p := ⟨_, _, none⟩) zsw2).trans s1w2
        have zmw3 : w.heap.size + 1 < w3.heap.size := by omega
        have m0w3 : w3.cell? ⟨w.heap.size + 1, 0, none⟩ = some (.slice om m.ng cm) := (hPw3.cell (p := ⟨_, _, none⟩) zmw2).trans m0w2
        have m1w3 : w3.cell? ⟨w.heap.size + 1, 1, none⟩ = some (.slice ot m.ns ct) := (hPw3.cell (p := ⟨_, _, none⟩) zmw2).trans m1w2
        have zgw3 : w.heap.size + 1 + 1 < w3.heap.size := by omega
        have g0w3 : w3.cell? ⟨w.heap.size + 1 + 1, 0, none⟩ = some (.string x0) := (hPw3.cell (p := ⟨_, _, none⟩) zgw2).trans g0w2
        have g1w3 : w3.cell? ⟨w.heap.size + 1 + 1, 1, none⟩ = some (.string x1) := (hPw3.cell (p := ⟨_, _, none⟩) zgw2).trans g1w2
        have g2w3 : w3.cell? ⟨w.heap.size + 1 + 1, 2, none⟩ = some (.int .i64 x2) := (hPw3.cell (p := ⟨_, _, none⟩) zgw2).trans g2w2
        have g3w3 : w3.cell? ⟨w.heap.size + 1 + 1, 3, none⟩ = some (.int .i64 x3) := (hPw3.cell (p := ⟨_, _, none⟩) zgw2).trans g3w2
        have g4w3 : w3.cell? ⟨w.heap.size + 1 + 1, 4, none⟩ = some (.int .i64 x4) := (hPw3.cell (p := ⟨_, _, none⟩) zgw2).trans g4w2
        have g5w3 : w3.cell? ⟨w.heap.size + 1 + 1, 5, none⟩ = some (.string x5) := (hPw3.cell (p := ⟨_, _, none⟩) zgw2).trans g5w2
        have g6w3 : w3.cell? ⟨w.heap.size + 1 + 1, 6, none⟩ = some (.string y0) := (hPw3.cell (p := ⟨_, _, none⟩) zgw2).trans g6w2
        have g7w3 : w3.cell? ⟨w.heap.size + 1 + 1, 7, none⟩ = some (.string y1) := (hPw3.cell (p := ⟨_, _, none⟩) zgw2).trans g7w2
        have g8w3 : w3.cell? ⟨w.heap.size + 1 + 1, 8, none⟩ = some (.string y2) := (hPw3.cell (p := ⟨_, _, none⟩) zgw2).trans g8w2
        have g9w3 : w3.cell? ⟨w.heap.size + 1 + 1, 9, none⟩ = some (.int .i64 y3) := (hPw3.cell (p := ⟨_, _, none⟩) zgw2).trans g9w2
        have g10w3 : w3.cell? ⟨w.heap.size + 1 + 1, 10, none⟩ = some (.string y4) := (hPw3.cell (p := ⟨_, _, none⟩) zgw2).trans g10w2
        have hBw3 : Below w.heap.size w w3 := below_step (w := w) (by first | assumption | go_grown) hb
        clear hb hsw3 hPw3
        clear zsw2 zmw2 zgw2 s0w2 s1w2 m0w2 m1w2 g0w2 g1w2 g2w2 g3w2 g4w2 g5w2 g6w2 g7w2 g8w2 g9w2 g10w2
        by_cases hEc : addS (barE m ⟨y0, y1, y2, y3, y4⟩) (addE Br.id eb nb ⟨y0, y1, y2, y3, y4⟩) = 0
        · have HEc := Lib.hid hEc
          clear hEc
          go_wp2_with fail
          (go_at_call 18; refine (addBar_ok HR.out _ _ gv (⟨y0, y1, y2, y3, y4⟩ : Br) _ (HST.out.below (by first | assumption | go_grown)) (HM.out.below (by first | assumption | go_grown)) HZY.out (HML.out.below (by first | assumption | go_grown)) HEc.out).mono ?_; rintro e_ w4 ⟨oc1, cc1, pc1, dc1, rfl, hst, hb⟩)
          have hsw4 := hb.size
          (try simp only [World.size_alloc, World.size_setCell] at hsw4)
          have zzw4 : w.heap.size < w4.heap.size := by omega
          have hPw4 : Below w3.heap.size w3 w4 := below_step (w := w3) (by first | exact Below.refl _ _ | go_grown) hb
          have zsw4 : w.heap.size < w4.heap.size := by omega
          have s0w4 : w4.cell? ⟨w.heap.size, 0, none⟩ = some (.slice oa ns ca) := (hPw4.cell (p := ⟨_, _, none⟩) zsw3).trans s0w3
          have s1w4 : w4.cell? ⟨w.heap.size, 1, none⟩ = some (.slice ob nb cb) := (hPw4.cell (p := ⟨_, _, none⟩) zsw3).trans s1w3
          have zmw4 : w.heap.size + 1 < w4.heap.size := by omega
          have m0w4 : w4.cell? ⟨w.heap.size + 1, 0, none⟩ = some (.slice om m.ng cm) := (hPw4.cell (p := ⟨_, _, none⟩) zmw3).trans m0w3
          have m1w4 : w4.cell? ⟨w.heap.size + 1, 1, none⟩ = some (.slice ot m.ns ct) := (hPw4.cell (p := ⟨_, _, none⟩) zmw3).trans m1w3
          have zgw4 : w.heap.size + 1 + 1 < w4.heap.size := by omega
          have g0w4 : w4.cell? ⟨w.heap.size + 1 + 1, 0, none⟩ = some (.string x0) := (hPw4.cell (p := ⟨_, _, none⟩) zgw3).trans g0w3
          have g1w4 : w4.cell? ⟨w.heap.size + 1 + 1, 1, none⟩ = some (.string x1) := (hPw4.cell (p := ⟨_, _, none⟩) zgw3).trans g1w3
          have g2w4 : w4.cell? ⟨w.heap.size + 1 + 1, 2, none⟩ = some (.int .i64 x2) := (hPw4.cell (p := ⟨_, _, none⟩) zgw3).trans g2w3
          have g3w4 : w4.cell? ⟨w.heap.size + 1 + 1, 3, none⟩ = some (.int .i64 x3) := (hPw4.cell (p := ⟨_, _, none⟩) zgw3).trans g3w3
          have g4w4 : w4.cell? ⟨w.heap.size + 1 + 1, 4, none⟩ = some (.int .i64 x4) := (hPw4.cell (p := ⟨_, _, none⟩) zgw3).trans g4w3
          have g5w4 : w4.cell? ⟨w.heap.size + 1 + 1, 5, none⟩ = some (.string x5) := (hPw4.cell (p := ⟨_, _, none⟩) zgw3).trans g5w3
          have g6w4 : w4.cell? ⟨w.heap.size + 1 + 1, 6, none⟩ = some (.string y0) := (hPw4.cell (p := ⟨_, _, none⟩) zgw3).trans g6w3
          have g7w4 : w4.cell? ⟨w.heap.size + 1 + 1, 7, none⟩ = some (.string y1) := (hPw4.cell (p := ⟨_, _, none⟩) zgw3).trans g7w3
          have g8w4 : w4.cell? ⟨w.heap.size + 1 + 1, 8, none⟩ = some (.string y2) := (hPw4.cell (p := ⟨_, _, none⟩) zgw3).trans g8w3
          have g9w4 : w4.cell? ⟨w.heap.size + 1 + 1, 9, none⟩ = some (.int .i64 y3) := (hPw4.cell (p := ⟨_, _, none⟩) zgw3).trans g9w3
          have g10w4 : w4.cell? ⟨w.heap.size + 1 + 1, 10, none⟩ = some (.string y4) := (hPw4.cell (p := ⟨_, _, none⟩) zgw3).trans g10w3
          have zaw4 : w3.heap.size < w4.heap.size := by omega
          have a0w4 : w4.cell? ⟨w3.heap.size, 0, none⟩ = some (.slice oa1 0 ca1) := (hb.cell (p := ⟨_, _, none⟩) (by simp <;> omega)).trans (by simp [go_sem])
          have a1w4 : w4.cell? ⟨w3.heap.size, 1, none⟩ = some (.slice pa1 0 da1) := (hb.cell (p := ⟨_, _, none⟩) (by simp <;> omega)).trans (by simp [go_sem])
          have hBw4 : Below w.heap.size w w4 := below_step (w := w) (by first | assumption | go_grown) hb
          have Hc := Lib.hid hst
          clear hst
          clear hb hsw4 hPw4
          clear zsw3 zmw3 zgw3 s0w3 s1w3 m0w3 m1w3 g0w3 g1w3 g2w3 g3w3 g4w3 g5w3 g6w3 g7w3 g8w3 g9w3 g10w3
          go_wp2_with fail
          (go_at_call 19; refine (takeBar_back HR.out _ (⟨y0, y1, y2, y3, y4⟩ : Br) _ HEc.out (Hc.out.below (by first | exact Below.refl _ _ | go_grown))).mono ?_; rintro e_ w5 ⟨oc2, cc2, pc2, dc2, rfl, hst, hb⟩)
          have hsw5 := hb.size
          (try simp only [World.size_alloc, World.size_setCell] at hsw5)
          have zzw5 : w.heap.size < w5.heap.size := by omega
          have hPw5 : Below w4.heap.size w4 w5 := below_step (w := w4) (by first | exact Below.refl _ _ | go_grown) hb
          have zsw5 : w.heap.size < w5.heap.size := by omega
          have s0w5 : w5.cell? ⟨w.heap.size, 0, none⟩ = some (.slice oa ns ca) := (hPw5.cell (p := ⟨_, _, none⟩) zsw4).trans s0w4
          have s1w5 : w5.cell? ⟨w.heap.size, 1, none⟩ = some (.slice ob nb cb) := (hPw5.cell (p := ⟨_, _, none⟩) zsw4).trans s1w4
          have zmw5 : w.heap.size + 1 < w5.heap.size := by omega
          have m0w5 : w5.cell? ⟨w.heap.size + 1, 0, none⟩ = some (.slice om m.ng cm) := (hPw5.cell (p := ⟨_, _, none⟩) zmw4).trans m0w4
          have m1w5 : w5.cell? ⟨w.heap.size + 1, 1, none⟩ = some (.slice ot m.ns ct) := (hPw5.cell (p := ⟨_, _, none⟩) zmw4).trans m1w4
          have zgw5 : w.heap.size + 1 + 1 < w5.heap.size := by omega
          have g0w5 : w5.cell? ⟨w.heap.size + 1 + 1, 0, none⟩ = some (.string x0) := (hPw5.cell (p := ⟨_, _, none⟩) zgw4).trans g0w4
          have g1w5 : w5.cell? ⟨w.heap.size + 1 + 1, 1, none⟩ = some (.string x1) := (hPw5.cell (p := ⟨_, _, none⟩) zgw4).trans g1w4
          have g2w5 : w5.cell? ⟨w.heap.size + 1 + 1, 2, none⟩ = some (.int .i64 x2) := (hPw5.cell (p := ⟨_, _, none⟩) zgw4).trans g2w4
          have g3w5 : w5.cell? ⟨w.heap.size + 1 + 1, 3, none⟩ = some (.int .i64 x3) := (hPw5.cell (p := ⟨_, _, none⟩) zgw4).trans g3w4
          have g4w5 : w5.cell? ⟨w.heap.size + 1 + 1, 4, none⟩ = some (.int .i64 x4) := (hPw5.cell (p := ⟨_, _, none⟩) zgw4).trans g4w4
          have g5w5 : w5.cell? ⟨w.heap.size + 1 + 1, 5, none⟩ = some (.string x5) := (hPw5.cell (p := ⟨_, _, none⟩) zgw4).trans g5w4
          have g6w5 : w5.cell? ⟨w.heap.size + 1 + 1, 6, none⟩ = some (.string y0) := (hPw5.cell (p := ⟨_, _, none⟩) zgw4).trans g6w4
          have g7w5 : w5.cell? ⟨w.heap.size + 1 + 1, 7, none⟩ = some (.string y1) := (hPw5.cell (p := ⟨_, _, none⟩) zgw4).trans g7w4
          have g8w5 : w5.cell? ⟨w.heap.size + 1 + 1, 8, none⟩ = some (.string y2) := (hPw5.cell (p := ⟨_, _, none⟩) zgw4).trans g8w4
          have g9w5 : w5.cell? ⟨w.heap.size + 1 + 1, 9, none⟩ = some (.int .i64 y3) := (hPw5.cell (p := ⟨_, _, none⟩) zgw4).trans g9w4
          have g10w5 : w5.cell? ⟨w.heap.size + 1 + 1, 10, none⟩ = some (.string y4) := (hPw5.cell (p := ⟨_, _, none⟩) zgw4).trans g10w4
          have zaw5 : w3.heap.size < w5.heap.size := by omega
          have a0w5 : w5.cell? ⟨w3.heap.size, 0, none⟩ = some (.slice oa1 0 ca1) := (hPw5.cell (p := ⟨_, _, none⟩) zaw4).trans a0w4
          have a1w5 : w5.cell? ⟨w3.heap.size, 1, none⟩ = some (.slice pa1 0 da1) := (hPw5.cell (p := ⟨_, _, none⟩) zaw4).trans a1w4
          have zcw5 : w4.heap.size < w5.heap.size := by omega
          have c0w5 : w5.cell? ⟨w4.heap.size, 0, none⟩ = some (.slice oc1 ns cc1) := (hb.cell (p := ⟨_, _, none⟩) (by simp <;> omega)).trans (by simp [go_sem])
          have c1w5 : w5.cell? ⟨w4.heap.size, 1, none⟩ = some (.slice pc1 (nb + 1) dc1) := (hb.cell (p := ⟨_, _, none⟩) (by simp <;> omega)).trans (by simp [go_sem])
          replace Hc := Lib.hid (Hc.out.below hPw5)
          have hBw5 : Below w.heap.size w w5 := below_step (w := w) (by first | assumption | go_grown) hb
          have Hc2 := Lib.hid hst
          clear hst
          dsimp only [Br.val]
          clear hb hsw5 hPw5
          clear zsw4 zmw4 zgw4 zaw4 s0w4 s1w4 m0w4 m1w4 g0w4 g1w4 g2w4 g3w4 g4w4 g5w4 g6w4 g7w4 g8w4 g9w4 g10w4 a0w4 a1w4
          go_wp2_with fail
          (go_at_call 18; refine (addBar_again HR.out _ _ gv (⟨y0, y1, y2, y3, y4⟩ : Br) _ (Hc.out.below (by first | exact Below.refl _ _ | go_grown)) (HM.out.below (by first | assumption | go_grown)) HZY.out (HML.out.below (by first | assumption | go_grown)) HEc.out).mono ?_; rintro e_ w6 ⟨oc3, cc3, pc3, dc3, rfl, hb⟩)
          have hsw6 := hb.size
          (try simp only [World.size_alloc, World.size_setCell] at hsw6)
          have zzw6 : w.heap.size < w6.heap.size := by omega
          have hPw6 : Below w5.heap.size w5 w6 := below_step (w := w5) (by first | exact Below.refl _ _ | go_grown) hb
          have zsw6 : w.heap.size < w6.heap.size := by omega
          have s0w6 : w6.cell? ⟨w.heap.size, 0, none⟩ = some (.slice oa ns ca) := (hPw6.cell (p := ⟨_, _, none⟩) zsw5).trans s0w5
          have s1w6 : w6.cell? ⟨w.heap.size, 1, none⟩ = some (.slice ob nb cb) := (hPw6.cell (p := ⟨_, _, none⟩) zsw5).trans s1w5
          have zmw6 : w.heap.size + 1 < w6.heap.size := by omega
          have m0w6 : w6.cell? ⟨w.heap.size + 1, 0, none⟩ = some (.slice om m.ng cm) := (hPw6.cell (p := ⟨_, _, none⟩) zmw5).trans m0w5
          have m1w6 : w6.cell? ⟨w.heap.size + 1, 1, none⟩ = some (.slice ot m.ns ct) := (hPw6.cell (p := ⟨_, _, none⟩) zmw5).trans m1w5
          have zgw6 : w.heap.size + 1 + 1 < w6.heap.size := by omega
          have g0w6 : w6.cell? ⟨w.heap.size + 1 + 1, 0, none⟩ = some (.string x0) := (hPw6.cell (p := ⟨_, _, none⟩) zgw5).trans g0w5
          have g1w6 : w6.cell? ⟨w.heap.size + 1 + 1, 1, none⟩ = some (.string x1) := (hPw6.cell (p := ⟨_, _, none⟩) zgw5).trans g1w5
          have g2w6 : w6.cell? ⟨w.heap.size + 1 + 1, 2, none⟩ = some (.int .i64 x2) := (hPw6.cell (p := ⟨_, _, none⟩) zgw5).trans g2w5
          have g3w6 : w6.cell? ⟨w.heap.size + 1 + 1, 3, none⟩ = some (.int .i64 x3) := (hPw6.cell (p := ⟨_, _, none⟩) zgw5).trans g3w5
          have g4w6 : w6.cell? ⟨w.heap.size + 1 + 1, 4, none⟩ = some (.int .i64 x4) := (hPw6.cell (p := ⟨_, _, none⟩) zgw5).trans g4w5
          have g5w6 : w6.cell? ⟨w.heap.size + 1 + 1, 5, none⟩ = some (.string x5) := (hPw6.cell (p := ⟨_, _, none⟩) zgw5).trans g5w5
          have g6w6 : w6.cell? ⟨w.heap.size + 1 + 1, 6, none⟩ = some (.string y0) := (hPw6.cell (p := ⟨_, _, none⟩) zgw5).trans g6w5
          have g7w6 : w6.cell? ⟨w.heap.size + 1 + 1, 7, none⟩ = some (.string y1) := (hPw6.cell (p := ⟨_, _, none⟩) zgw5).trans g7w5
          have g8w6 : w6.cell? ⟨w.heap.size + 1 + 1, 8, none⟩ = some (.string y2) := (hPw6.cell (p := ⟨_, _, none⟩) zgw5).trans g8w5
          have g9w6 : w6.cell? ⟨w.heap.size + 1 + 1, 9, none⟩ = some (.int .i64 y3) := (hPw6.cell (p := ⟨_, _, none⟩) zgw5).trans g9w5
          have g10w6 : w6.cell? ⟨w.heap.size + 1 + 1, 10, none⟩ = some (.string y4) := (hPw6.cell (p := ⟨_, _, none⟩) zgw5).trans g10w5
          have zaw6 : w3.heap.size < w6.heap.size := by omega
          have a0w6 : w6.cell? ⟨w3.heap.size, 0, none⟩ = some (.slice oa1 0 ca1) := (hPw6.cell (p := ⟨_, _, none⟩) zaw5).trans a0w5
          have a1w6 : w6.cell? ⟨w3.heap.size, 1, none⟩ = some (.slice pa1 0 da1) := (hPw6.cell (p := ⟨_, _, none⟩) zaw5).trans a1w5
          have zcw6 : w4.heap.size < w6.heap.size := by omega
          have c0w6 : w6.cell? ⟨w4.heap.size, 0, none⟩ = some (.slice oc1 ns cc1) := (hPw6.cell (p := ⟨_, _, none⟩) zcw5).trans c0w5
          have c1w6 : w6.cell? ⟨w4.heap.size, 1, none⟩ = some (.slice pc1 (nb + 1) dc1) := (hPw6.cell (p := ⟨_, _, none⟩) zcw5).trans c1w5
          have zcbw6 : w5.heap.size < w6.heap.size := by omega
          have cb0w6 : w6.cell? ⟨w5.heap.size, 0, none⟩ = some (.slice oc2 ns cc2) := (hb.cell (p := ⟨_, _, none⟩) (by simp <;> omega)).trans (by simp [go_sem])
          have cb1w6 : w6.cell? ⟨w5.heap.size, 1, none⟩ = some (.slice pc2 nb dc2) := (hb.cell (p := ⟨_, _, none⟩) (by simp <;> omega)).trans (by simp [go_sem])
          have zcyw6 : w5.heap.size + 1 < w6.heap.size := by omega
          have cy0w6 : w6.cell? ⟨w5.heap.size + 1, 0, none⟩ = some (.string y0) := (hb.cell (p := ⟨_, _, none⟩) (by simp <;> omega)).trans (by simp [go_sem])
          have cy1w6 : w6.cell? ⟨w5.heap.size + 1, 1, none⟩ = some (.string y1) := (hb.cell (p := ⟨_, _, none⟩) (by simp <;> omega)).trans (by simp [go_sem])
          have cy2w6 : w6.cell? ⟨w5.heap.size + 1, 2, none⟩ = some (.string y2) := (hb.cell (p := ⟨_, _, none⟩) (by simp <;> omega)).trans (by simp [go_sem])
          have cy3w6 : w6.cell? ⟨w5.heap.size + 1, 3, none⟩ = some (.int .i64 y3) := (hb.cell (p := ⟨_, _, none⟩) (by simp <;> omega)).trans (by simp [go_sem])
          have cy4w6 : w6.cell? ⟨w5.heap.size + 1, 4, none⟩ = some (.string y4) := (hb.cell (p := ⟨_, _, none⟩) (by simp <;> omega)).trans (by simp [go_sem])
          replace Hc := Lib.hid (Hc.out.below hPw6)
          replace Hc2 := Lib.hid (Hc2.out.below hPw6)
          have hBw6 : Below w.heap.size w w6 := below_step (w := w) (by first | assumption | go_grown) hb
          clear hb hsw6 hPw6
          clear zsw5 zmw5 zgw5 zaw5 zcw5 s0w5 s1w5 m0w5 m1w5 g0w5 g1w5 g2w5 g3w5 g4w5 g5w5 g6w5 g7w5 g8w5 g9w5 g10w5 a0w5 a1w5 c0w5 c1w5
          go_wp2_with fail
          (go_at_call 10; refine (addBar_check HR.out _ _ gv (⟨y0, y1, y2, y3, y4⟩ : Br) _ (HM.out.below (by first | assumption | go_grown)) HZY.out (HML.out.below (by first | assumption | go_grown)) HEc.out (Hc.out.below (by first | exact Below.refl _ _ | go_grown))).mono ?_; rintro e_ w7 ⟨rfl, hb⟩)
          have hsw7 := hb.size
          (try simp only [World.size_alloc, World.size_setCell] at hsw7)
          have zzw7 : w.heap.size < w7.heap.size := by omega
          have hPw7 : Below w6.heap.size w6 w7 := below_step (w := w6) (by first | exact Below.refl _ _ | go_grown) hb
          have zsw7 : w.heap.size < w7.heap.size := by omega
          have s0w7 : w7.cell? ⟨w.heap.size, 0, none⟩ = some (.slice oa ns ca) := (hPw7.cell (p := ⟨_, _, none⟩) zsw6).trans s0w6
          have s1w7 : w7.cell? ⟨w.heap.size, 1, none⟩ = some (.slice ob nb cb) := (hPw7.cell (p := ⟨_, _, none⟩) zsw6).trans s1w6
          have zmw7 : w.heap.size + 1 < w7.heap.size := by omega
          have m0w7 : w7.cell? ⟨w.heap.size + 1, 0, none⟩ = some (.slice om m.ng cm) := (hPw7.cell (p := ⟨_, _, none⟩) zmw6).trans m0w6
          have m1w7 : w7.cell? ⟨w.heap.size + 1, 1, none⟩ = some (.slice ot m.ns ct) := (hPw7.cell (p := ⟨_, _, none⟩) zmw6).trans m1w6
          have zgw7 : w.heap.size + 1 + 1 < w7.heap.size := by omega
          have g0w7 : w7.cell? ⟨w.heap.size + 1 + 1, 0, none⟩ = some (.string x0) := (hPw7.cell (p := ⟨_, _, none⟩) zgw6).trans g0w6
          have g1w7 : w7.cell? ⟨w.heap.size + 1 + 1, 1, none⟩ = some (.string x1) := (hPw7.cell (p := ⟨_, _, none⟩) zgw6).trans g1w6
          have g2w7 : w7.cell? ⟨w.heap.size + 1 + 1, 2, none⟩ = some (.int .i64 x2) := (hPw7.cell (p := ⟨_, _, none⟩) zgw6).trans g2w6
          have g3w7 : w7.cell? ⟨w.heap.size + 1 + 1, 3, none⟩ = some (.int .i64 x3) := (hPw7.cell (p := ⟨_, _, none⟩) zgw6).trans g3w6
          have g4w7 : w7.cell? ⟨w.heap.size + 1 + 1, 4, none⟩ = some (.int .i64 x4) := (hPw7.cell (p := ⟨_, _, none⟩) zgw6).trans g4w6
          have g5w7 : w7.cell? ⟨w.heap.size + 1 + 1, 5, none⟩ = some (.string x5) := (hPw7.cell (p := ⟨_, _, none⟩) zgw6).trans g5w6
          have g6w7 : w7.cell? ⟨w.heap.size + 1 + 1, 6, none⟩ = some (.string y0) := (hPw7.cell (p := ⟨_, _, none⟩) zgw6).trans g6w6
          have g7w7 : w7.cell? ⟨w.heap.size + 1 + 1, 7, none⟩ = some (.string y1) := (hPw7.cell (p := ⟨_, _, none⟩) zgw6).trans g7w6
          have g8w7 : w7.cell? ⟨w.heap.size + 1 + 1, 8, none⟩ = some (.string y2) := (hPw7.cell (p := ⟨_, _, none⟩) zgw6).trans g8w6
          have g9w7 : w7.cell? ⟨w.heap.size + 1 + 1, 9, none⟩ = some (.int .i64 y3) := (hPw7.cell (p := ⟨_, _, none⟩) zgw6).trans g9w6
          have g10w7 : w7.cell? ⟨w.heap.size + 1 + 1, 10, none⟩ = some (.string y4) := (hPw7.cell (p := ⟨_, _, none⟩) zgw6).trans g10w6
          have zaw7 : w3.heap.size < w7.heap.size := by omega
          have a0w7 : w7.cell? ⟨w3.heap.size, 0, none⟩ = some (.slice oa1 0 ca1) := (hPw7.cell (p := ⟨_, _, none⟩) zaw6).trans a0w6
          have a1w7 : w7.cell? ⟨w3.heap.size, 1, none⟩ = some (.slice pa1 0 da1) := (hPw7.cell (p := ⟨_, _, none⟩) zaw6).trans a1w6
          have zcw7 : w4.heap.size < w7.heap.size := by omega
          have c0w7 : w7.cell? ⟨w4.heap.size, 0, none⟩ = some (.slice oc1 ns cc1) := (hPw7.cell (p := ⟨_, _, none⟩) zcw6).trans c0w6
          have c1w7 : w7.cell? ⟨w4.heap.size, 1, none⟩ = some (.slice pc1 (nb + 1) dc1) := (hPw7.cell (p := ⟨_, _, none⟩) zcw6).trans c1w6
          have zcbw7 : w5.heap.size < w7.heap.size := by omega
          have cb0w7 : w7.cell? ⟨w5.heap.size, 0, none⟩ = some (.slice oc2 ns cc2) := (hPw7.cell (p := ⟨_, _, none⟩) zcbw6).trans cb0w6
          have cb1w7 : w7.cell? ⟨w5.heap.size, 1, none⟩ = some (.slice pc2 nb dc2) := (hPw7.cell (p := ⟨_, _, none⟩) zcbw6).trans cb1w6
          have zcyw7 : w5.heap.size + 1 < w7.heap.size := by omega
          have cy0w7 : w7.cell? ⟨w5.heap.size + 1, 0, none⟩ = some (.string y0) := (hPw7.cell (p := ⟨_, _, none⟩) zcyw6).trans cy0w6
          have cy1w7 : w7.cell? ⟨w5.heap.size + 1, 1, none⟩ = some (.string y1) := (hPw7.cell (p := ⟨_, _, none⟩) zcyw6).trans cy1w6
          have cy2w7 : w7.cell? ⟨w5.heap.size + 1, 2, none⟩ = some (.string y2) := (hPw7.cell (p := ⟨_, _, none⟩) zcyw6).trans cy2w6
          have cy3w7 : w7.cell? ⟨w5.heap.size + 1, 3, none⟩ = some (.int .i64 y3) := (hPw7.cell (p := ⟨_, _, none⟩) zcyw6).trans cy3w6
          have cy4w7 : w7.cell? ⟨w5.heap.size + 1, 4, none⟩ = some (.string y4) := (hPw7.cell (p := ⟨_, _, none⟩) zcyw6).trans cy4w6
          have zczw7 : w6.heap.size < w7.heap.size := by omega
          have cz0w7 : w7.cell? ⟨w6.heap.size, 0, none⟩ = some (.slice oc3 0 cc3) := (hb.cell (p := ⟨_, _, none⟩) (by simp <;> omega)).trans (by simp [go_sem])
          have cz1w7 : w7.cell? ⟨w6.heap.size, 1, none⟩ = some (.slice pc3 0 dc3) := (hb.cell (p := ⟨_, _, none⟩) (by simp <;> omega)).trans (by simp [go_sem])
          replace Hc := Lib.hid (Hc.out.below hPw7)
          replace Hc2 := Lib.hid (Hc2.out.below hPw7)
          have hBw7 : Below w.heap.size w w7 := below_step (w := w) (by first | assumption | go_grown) hb
          clear hb hsw7 hPw7
          clear zsw6 zmw6 zgw6 zaw6 zcw6 zcbw6 zcyw6 s0w6 s1w6 m0w6 m1w6 g0w6 g1w6 g2w6 g3w6 g4w6 g5w6 g6w6 g7w6 g8w6 g9w6 g10w6 a0w6 a1w6 c0w6 c1w6 cb0w6 cb1w6 cy0w6 cy1w6 cy2w6 cy3w6 cy4w6
          have hneqc : ∀ W, (binOp .neq 40 (.agg #[.string y0, .string y1, .string y2, .int .i64 y3, .string y4]) (.agg #[.string y0, .string y1, .string y2, .int .i64 y3, .string y4])).run Tryd.prog W = .ok (.bool false) W := neq_self_Bar (⟨y0, y1, y2, y3, y4⟩ : Br)
          have hwrc : IntKind.i64.wrap ((nb : Int) + 1) = (nb : Int) + 1 := IntWalk.i64_in _ (by have := HR.out.n2; omega)
          go_wp2_with fail
          (go_at_call 13; refine (rsame_self _ (Hc2.out.below (by first | exact Below.refl _ _ | go_grown)) (HST.out.below (by first | assumption | go_grown))).mono ?_; rintro e_ w8 ⟨rfl, hb⟩)
          have hsw8 := hb.size
          (try simp only [World.size_alloc, World.size_setCell] at hsw8)
          have zzw8 : w.heap.size < w8.heap.size := by omega
          have hPw8 : Below w7.heap.size w7 w8 := below_step (w := w7) (by first | exact Below.refl _ _ | go_grown) hb
          have zsw8 : w.heap.size < w8.heap.size := by omega
          have s0w8 : w8.cell? ⟨w.heap.size, 0, none⟩ = some (.slice oa ns ca) := (hPw8.cell (p := ⟨_, _, none⟩) zsw7).trans s0w7
          have s1w8 : w8.cell? ⟨w.heap.size, 1, none⟩ = some (.slice ob nb cb) := (hPw8.cell (p := ⟨_, _, none⟩) zsw7).trans s1w7
          have zmw8 : w.heap.size + 1 < w8.heap.size := by omega
          have m0w8 : w8.cell? ⟨w.heap.size + 1, 0, none⟩ = some (.slice om m.ng cm) := (hPw8.cell (p := ⟨_, _, none⟩) zmw7).trans m0w7
          have m1w8 : w8.cell? ⟨w.heap.size + 1, 1, none⟩ = some (.slice ot m.ns ct) := (hPw8.cell (p := ⟨_, _, none⟩) zmw7).trans m1w7
          have zgw8 : w.heap.size + 1 + 1 < w8.heap.size := by omega
          have g0w8 : w8.cell? ⟨w.heap.size + 1 + 1, 0, none⟩ = some (.string x0) := (hPw8.cell (p := ⟨_, _, none⟩) zgw7).trans g0w7
          have g1w8 : w8.cell? ⟨w.heap.size + 1 + 1, 1, none⟩ = some (.string x1) := (hPw8.cell (p := ⟨_, _, none⟩) zgw7).trans g1w7
          have g2w8 : w8.cell? ⟨w.heap.size + 1 + 1, 2, none⟩ = some (.int .i64 x2) := (hPw8.cell (p := ⟨_, _, none⟩) zgw7).trans g2w7
          have g3w8 : w8.cell? ⟨w.heap.size + 1 + 1, 3, none⟩ = some (.int .i64 x3) := (hPw8.cell (p := ⟨_, _, none⟩) zgw7).trans g3w7
          have g4w8 : w8.cell? ⟨w.heap.size + 1 + 1, 4, none⟩ = some (.int .i64 x4) := (hPw8.cell (p := ⟨_, _, none⟩) zgw7).trans g4w7
          have g5w8 : w8.cell? ⟨w.heap.size + 1 + 1, 5, none⟩ = some (.string x5) := (hPw8.cell (p := ⟨_, _, none⟩) zgw7).trans g5w7
          have g6w8 : w8.cell? ⟨w.heap.size + 1 + 1, 6, none⟩ = some (.string y0) := (hPw8.cell (p := ⟨_, _, none⟩) zgw7).trans g6w7
          have g7w8 : w8.cell? ⟨w.heap.size + 1 + 1, 7, none⟩ = some (.string y1) := (hPw8.cell (p := ⟨_, _, none⟩) zgw7).trans g7w7
          have g8w8 : w8.cell? ⟨w.heap.size + 1 + 1, 8, none⟩ = some (.string y2) := (hPw8.cell (p := ⟨_, _, none⟩) zgw7).trans g8w7
          have g9w8 : w8.cell? ⟨w.heap.size + 1 + 1, 9, none⟩ = some (.int .i64 y3) := (hPw8.cell (p := ⟨_, _, none⟩) zgw7).trans g9w7
          have g10w8 : w8.cell? ⟨w.heap.size + 1 + 1, 10, none⟩ = some (.string y4) := (hPw8.cell (p := ⟨_, _, none⟩) zgw7).trans g10w7
          have zaw8 : w3.heap.size < w8.heap.size := by omega
          have a0w8 : w8.cell? ⟨w3.heap.size, 0, none⟩ = some (.slice oa1 0 ca1) := (hPw8.cell (p := ⟨_, _, none⟩) zaw7).trans a0w7
          have a1w8 : w8.cell? ⟨w3.heap.size, 1, none⟩ = some (.slice pa1 0 da1) := (hPw8.cell (p := ⟨_, _, none⟩) zaw7).trans a1w7
          have zcw8 : w4.heap.size < w8.heap.size := by omega
          have c0w8 : w8.cell? ⟨w4.heap.size, 0, none⟩ = some (.slice oc1 ns cc1) := (hPw8.cell (p := ⟨_, _, none⟩) zcw7).trans c0w7
          have c1w8 : w8.cell? ⟨w4.heap.size, 1, none⟩ = some (.slice pc1 (nb + 1) dc1) := (hPw8.cell (p := ⟨_, _, none⟩) zcw7).trans c1w7
          have zcbw8 : w5.heap.size < w8.heap.size := by omega
          have cb0w8 : w8.cell? ⟨w5.heap.size, 0, none⟩ = some (.slice oc2 ns cc2) := (hPw8.cell (p := ⟨_, _, none⟩) zcbw7).trans cb0w7
          have cb1w8 : w8.cell? ⟨w5.heap.size, 1, none⟩ = some (.slice pc2 nb dc2) := (hPw8.cell (p := ⟨_, _, none⟩) zcbw7).trans cb1w7
          have zcyw8 : w5.heap.size + 1 < w8.heap.size := by omega
          have cy0w8 : w8.cell? ⟨w5.heap.size + 1, 0, none⟩ = some (.string y0) := (hPw8.cell (p := ⟨_, _, none⟩) zcyw7).trans cy0w7
          have cy1w8 : w8.cell? ⟨w5.heap.size + 1, 1, none⟩ = some (.string y1) := (hPw8.cell (p := ⟨_, _, none⟩) zcyw7).trans cy1w7
          have cy2w8 : w8.cell? ⟨w5.heap.size + 1, 2, none⟩ = some (.string y2) := (hPw8.cell (p := ⟨_, _, none⟩) zcyw7).trans cy2w7
          have cy3w8 : w8.cell? ⟨w5.heap.size + 1, 3, none⟩ = some (.int .i64 y3) := (hPw8.cell (p := ⟨_, _, none⟩) zcyw7).trans cy3w7
          have cy4w8 : w8.cell? ⟨w5.heap.size + 1, 4, none⟩ = some (.string y4) := (hPw8.cell (p := ⟨_, _, none⟩) zcyw7).trans cy4w7
          have zczw8 : w6.heap.size < w8.heap.size := by omega
          have cz0w8 : w8.cell? ⟨w6.heap.size, 0, none⟩ = some (.slice oc3 0 cc3) := (hPw8.cell (p := ⟨_, _, none⟩) zczw7).trans cz0w7
          have cz1w8 : w8.cell? ⟨w6.heap.size, 1, none⟩ = some (.slice pc3 0 dc3) := (hPw8.cell (p := ⟨_, _, none⟩) zczw7).trans cz1w7
          replace Hc := Lib.hid (Hc.out.below hPw8)
          replace Hc2 := Lib.hid (Hc2.out.below hPw8)
          have hBw8 : Below w.heap.size w w8 := below_step (w := w) (by first | assumption | go_grown) hb
          clear hb hsw8 hPw8
          clear zsw7 zmw7 zgw7 zaw7 zcw7 zcbw7 zcyw7 zczw7 s0w7 s1w7 m0w7 m1w7 g0w7 g1w7 g2w7 g3w7 g4w7 g5w7 g6w7 g7w7 g8w7 g9w7 g10w7 a0w7 a1w7 c0w7 c1w7 cb0w7 cb1w7 cy0w7 cy1w7 cy2w7 cy3w7 cy4w7 cz0w7 cz1w7
          clear hneqc hwrc
          clear zcbw8 cb0w8 cb1w8
          clear zcyw8 cy0w8 cy1w8 cy2w8 cy3w8 cy4w8
          clear zczw8 cz0w8 cz1w8
          go_wp2_with fail
          (go_at_call 9; refine (awake_any _ (HML.out.below (by first | assumption | go_grown))).mono ?_; rintro e_ w9 ⟨rfl, hb⟩)
          have hsw9 := hb.size
          (try simp only [World.size_alloc, World.size_setCell] at hsw9)
          have zzw9 : w.heap.size < w9.heap.size := by omega
          have hPw9 : Below w8.heap.size w8 w9 := below_step (w := w8) (by first | exact Below.refl _ _ | go_grown) hb
          have zsw9 : w.heap.size < w9.heap.size := by omega
          have s0w9 : w9.cell? ⟨w.heap.size, 0, none⟩ = some (.slice oa ns ca) := (hPw9.cell (p := ⟨_, _, none⟩) zsw8).trans s0w8
          have s1w9 : w9.cell? ⟨w.heap.size, 1, none⟩ = some (.slice ob nb cb) := (hPw9.cell (p := ⟨_, _, none⟩) zsw8).trans s1w8
          have zmw9 : w.heap.size + 1 < w9.heap.size := by omega
          have m0w9 : w9.cell? ⟨w.heap.size + 1, 0, none⟩ = some (.slice om m.ng cm) := (hPw9.cell (p := ⟨_, _, none⟩) zmw8).trans m0w8
          have m1w9 : w9.cell? ⟨w.heap.size + 1, 1, none⟩ = some (.slice ot m.ns ct) := (hPw9.cell (p := ⟨_, _, none⟩) zmw8).trans m1w8
          have zgw9 : w.heap.size + 1 + 1 < w9.heap.size := by omega
          have g0w9 : w9.cell? ⟨w.heap.size + 1 + 1, 0, none⟩ = some (.string x0) := (hPw9.cell (p := ⟨_, _, none⟩) zgw8).trans g0w8
          have g1w9 : w9.cell? ⟨w.heap.size + 1 + 1, 1, none⟩ = some (.string x1) := (hPw9.cell (p := ⟨_, _, none⟩) zgw8).trans g1w8
          have g2w9 : w9.cell? ⟨w.heap.size + 1 + 1, 2, none⟩ = some (.int .i64 x2) := (hPw9.cell (p := ⟨_, _, none⟩) zgw8).trans g2w8
          have g3w9 : w9.cell? ⟨w.heap.size + 1 + 1, 3, none⟩ = some (.int .i64 x3) := (hPw9.cell (p := ⟨_, _, none⟩) zgw8).trans g3w8
          have g4w9 : w9.cell? ⟨w.heap.size + 1 + 1, 4, none⟩ = some (.int .i64 x4) := (hPw9.cell (p := ⟨_, _, none⟩) zgw8).trans g4w8
          have g5w9 : w9.cell? ⟨w.heap.size + 1 + 1, 5, none⟩ = some (.string x5) := (hPw9.cell (p := ⟨_, _, none⟩) zgw8).trans g5w8
          have g6w9 : w9.cell? ⟨w.heap.size + 1 + 1, 6, none⟩ = some (.string y0) := (hPw9.cell (p := ⟨_, _, none⟩) zgw8).trans g6w8
          have g7w9 : w9.cell? ⟨w.heap.size + 1 + 1, 7, none⟩ = some (.string y1) := (hPw9.cell (p := ⟨_, _, none⟩) zgw8).trans g7w8
          have g8w9 : w9.cell? ⟨w.heap.size + 1 + 1, 8, none⟩ = some (.string y2) := (hPw9.cell (p := ⟨_, _, none⟩) zgw8).trans g8w8
          have g9w9 : w9.cell? ⟨w.heap.size + 1 + 1, 9, none⟩ = some (.int .i64 y3) := (hPw9.cell (p := ⟨_, _, none⟩) zgw8).trans g9w8
          have g10w9 : w9.cell? ⟨w.heap.size + 1 + 1, 10, none⟩ = some (.string y4) := (hPw9.cell (p := ⟨_, _, none⟩) zgw8).trans g10w8
          have zaw9 : w3.heap.size < w9.heap.size := by omega
          have a0w9 : w9.cell? ⟨w3.heap.size, 0, none⟩ = some (.slice oa1 0 ca1) := (hPw9.cell (p := ⟨_, _, none⟩) zaw8).trans a0w8
          have a1w9 : w9.cell? ⟨w3.heap.size, 1, none⟩ = some (.slice pa1 0 da1) := (hPw9.cell (p := ⟨_, _, none⟩) zaw8).trans a1w8
          have zcw9 : w4.heap.size < w9.heap.size := by omega
          have c0w9 : w9.cell? ⟨w4.heap.size, 0, none⟩ = some (.slice oc1 ns cc1) := (hPw9.cell (p := ⟨_, _, none⟩) zcw8).trans c0w8
          have c1w9 : w9.cell? ⟨w4.heap.size, 1, none⟩ = some (.slice pc1 (nb + 1) dc1) := (hPw9.cell (p := ⟨_, _, none⟩) zcw8).trans c1w8
          replace Hc := Lib.hid (Hc.out.below hPw9)
          replace Hc2 := Lib.hid (Hc2.out.below hPw9)
          have hBw9 : Below w.heap.size w w9 := below_step (w := w) (by first | assumption | go_grown) hb
          clear hb hsw9 hPw9
          clear zsw8 zmw8 zgw8 zaw8 zcw8 s0w8 s1w8 m0w8 m1w8 g0w8 g1w8 g2w8 g3w8 g4w8 g5w8 g6w8 g7w8 g8w8 g9w8 g10w8 a0w8 a1w8 c0w8 c1w8
          go_wp2
          go_returns
          exact ⟨rfl, by assumption⟩
        · obtain ⟨Ec, hEEc⟩ : ∃ E, addS (barE m ⟨y0, y1, y2, y3, y4⟩) (addE Br.id eb nb ⟨y0, y1, y2, y3, y4⟩) = E := ⟨_, rfl⟩
          have HNc := Lib.hid hEc
          have HEEc := Lib.hid hEEc
          have kc : (Ec == 0) = false := by rw [← hEEc]; simpa using hEc
          clear hEc hEEc
          go_wp2_with fail
          (go_at_call 18; refine (addBar_no HR.out _ _ gv (⟨y0, y1, y2, y3, y4⟩ : Br) _ (HST.out.below (by first | assumption | go_grown)) (HM.out.below (by first | assumption | go_grown)) HZY.out (HML.out.below (by first | assumption | go_grown)) HNc.out).mono ?_; rintro e_ w4 ⟨oc1, cc1, pc1, dc1, rfl, hb⟩)
          rw [HEEc.out]
          have hsw4 := hb.size
          (try simp only [World.size_alloc, World.size_setCell] at hsw4)
          have zzw4 : w.heap.size < w4.heap.size := by omega
          have hPw4 : Below w3.heap.size w3 w4 := below_step (w := w3) (by first | exact Below.refl _ _ | go_grown) hb
          have zsw4 : w.heap.size < w4.heap.size := by omega
          have s0w4 : w4.cell? ⟨w.heap.size, 0, none⟩ = some (.slice oa ns ca) := (hPw4.cell (p := ⟨_, _, none⟩) zsw3).trans s0w3
          have s1w4 : w4.cell? ⟨w.heap.size, 1, none⟩ = some (.slice ob nb cb) := (hPw4.cell (p := ⟨_, _, none⟩) zsw3).trans s1w3
          have zmw4 : w.heap.size + 1 < w4.heap.size := by omega
          have m0w4 : w4.cell? ⟨w.heap.size + 1, 0, none⟩ = some (.slice om m.ng cm) := (hPw4.cell (p := ⟨_, _, none⟩) zmw3).trans m0w3
          have m1w4 : w4.cell? ⟨w.heap.size + 1, 1, none⟩ = some (.slice ot m.ns ct) := (hPw4.cell (p := ⟨_, _, none⟩) zmw3).trans m1w3
          have zgw4 : w.heap.size + 1 + 1 < w4.heap.size := by omega
          have g0w4 : w4.cell? ⟨w.heap.size + 1 + 1, 0, none⟩ = some (.string x0) := (hPw4.cell (p := ⟨_, _, none⟩) zgw3).trans g0w3
          have g1w4 : w4.cell? ⟨w.heap.size + 1 + 1, 1, none⟩ = some (.string x1) := (hPw4.cell (p := ⟨_, _, none⟩) zgw3).trans g1w3
          have g2w4 : w4.cell? ⟨w.heap.size + 1 + 1, 2, none⟩ = some (.int .i64 x2) := (hPw4.cell (p := ⟨_, _, none⟩) zgw3).trans g2w3
          have g3w4 : w4.cell? ⟨w.heap.size + 1 + 1, 3, none⟩ = some (.int .i64 x3) := (hPw4.cell (p := ⟨_, _, none⟩) zgw3).trans g3w3
          have g4w4 : w4.cell? ⟨w.heap.size + 1 + 1, 4, none⟩ = some (.int .i64 x4) := (hPw4.cell (p := ⟨_, _, none⟩) zgw3).trans g4w3
          have g5w4 : w4.cell? ⟨w.heap.size + 1 + 1, 5, none⟩ = some (.string x5) := (hPw4.cell (p := ⟨_, _, none⟩) zgw3).trans g5w3
          have g6w4 : w4.cell? ⟨w.heap.size + 1 + 1, 6, none⟩ = some (.string y0) := (hPw4.cell (p := ⟨_, _, none⟩) zgw3).trans g6w3
          have g7w4 : w4.cell? ⟨w.heap.size + 1 + 1, 7, none⟩ = some (.string y1) := (hPw4.cell (p := ⟨_, _, none⟩) zgw3).trans g7w3
          have g8w4 : w4.cell? ⟨w.heap.size + 1 + 1, 8, none⟩ = some (.string y2) := (hPw4.cell (p := ⟨_, _, none⟩) zgw3).trans g8w3
          have g9w4 : w4.cell? ⟨w.heap.size + 1 + 1, 9, none⟩ = some (.int .i64 y3) := (hPw4.cell (p := ⟨_, _, none⟩) zgw3).trans g9w3
          have g10w4 : w4.cell? ⟨w.heap.size + 1 + 1, 10, none⟩ = some (.string y4) := (hPw4.cell (p := ⟨_, _, none⟩) zgw3).trans g10w3
          have zaw4 : w3.heap.size < w4.heap.size := by omega
          have a0w4 : w4.cell? ⟨w3.heap.size, 0, none⟩ = some (.slice oa1 0 ca1) := (hb.cell (p := ⟨_, _, none⟩) (by simp <;> omega)).trans (by simp [go_sem])
          have a1w4 : w4.cell? ⟨w3.heap.size, 1, none⟩ = some (.slice pa1 0 da1) := (hb.cell (p := ⟨_, _, none⟩) (by simp <;> omega)).trans (by simp [go_sem])
          have hBw4 : Below w.heap.size w w4 := below_step (w := w) (by first | assumption | go_grown) hb
          clear hb hsw4 hPw4
          clear zsw3 zmw3 zgw3 s0w3 s1w3 m0w3 m1w3 g0w3 g1w3 g2w3 g3w3 g4w3 g5w3 g6w3 g7w3 g8w3 g9w3 g10w3
          go_wp2_with fail
          (go_at_call 9; refine (awake_any _ (HML.out.below (by first | assumption | go_grown))).mono ?_; rintro e_ w5 ⟨rfl, hb⟩)
          have hsw5 := hb.size
          (try simp only [World.size_alloc, World.size_setCell] at hsw5)
          have zzw5 : w.heap.size < w5.heap.size := by omega
          have hPw5 : Below w4.heap.size w4 w5 := below_step (w := w4) (by first | exact Below.refl _ _ | go_grown) hb
          have zsw5 : w.heap.size < w5.heap.size := by omega
          have s0w5 : w5.cell? ⟨w.heap.size, 0, none⟩ = some (.slice oa ns ca) := (hPw5.cell (p := ⟨_, _, none⟩) zsw4).trans s0w4
          have s1w5 : w5.cell? ⟨w.heap.size, 1, none⟩ = some (.slice ob nb cb) := (hPw5.cell (p := ⟨_, _, none⟩) zsw4).trans s1w4
          have zmw5 : w.heap.size + 1 < w5.heap.size := by omega
          have m0w5 : w5.cell? ⟨w.heap.size + 1, 0, none⟩ = some (.slice om m.ng cm) := (hPw5.cell (p := ⟨_, _, none⟩) zmw4).trans m0w4
          have m1w5 : w5.cell? ⟨w.heap.size + 1, 1, none⟩ = some (.slice ot m.ns ct) := (hPw5.cell (p := ⟨_, _, none⟩) zmw4).trans m1w4
          have zgw5 : w.heap.size + 1 + 1 < w5.heap.size := by omega
          have g0w5 : w5.cell? ⟨w.heap.size + 1 + 1, 0, none⟩ = some (.string x0) := (hPw5.cell (p := ⟨_, _, none⟩) zgw4).trans g0w4
          have g1w5 : w5.cell? ⟨w.heap.size + 1 + 1, 1, none⟩ = some (.string x1) := (hPw5.cell (p := ⟨_, _, none⟩) zgw4).trans g1w4
          have g2w5 : w5.cell? ⟨w.heap.size + 1 + 1, 2, none⟩ = some (.int .i64 x2) := (hPw5.cell (p := ⟨_, _, none⟩) zgw4).trans g2w4
          have g3w5 : w5.cell? ⟨w.heap.size + 1 + 1, 3, none⟩ = some (.int .i64 x3) := (hPw5.cell (p := ⟨_, _, none⟩) zgw4).trans g3w4
          have g4w5 : w5.cell? ⟨w.heap.size + 1 + 1, 4, none⟩ = some (.int .i64 x4) := (hPw5.cell (p := ⟨_, _, none⟩) zgw4).trans g4w4
          have g5w5 : w5.cell? ⟨w.heap.size + 1 + 1, 5, none⟩ = some (.string x5) := (hPw5.cell (p := ⟨_, _, none⟩) zgw4).trans g5w4
          have g6w5 : w5.cell? ⟨w.heap.size + 1 + 1, 6, none⟩ = some (.string y0) := (hPw5.cell (p := ⟨_, _, none⟩) zgw4).trans g6w4
          have g7w5 : w5.cell? ⟨w.heap.size + 1 + 1, 7, none⟩ = some (.string y1) := (hPw5.cell (p := ⟨_, _, none⟩) zgw4).trans g7w4
          have g8w5 : w5.cell? ⟨w.heap.size + 1 + 1, 8, none⟩ = some (.string y2) := (hPw5.cell (p := ⟨_, _, none⟩) zgw4).trans g8w4
          have g9w5 : w5.cell? ⟨w.heap.size + 1 + 1, 9, none⟩ = some (.int .i64 y3) := (hPw5.cell (p := ⟨_, _, none⟩) zgw4).trans g9w4
          have g10w5 : w5.cell? ⟨w.heap.size + 1 + 1, 10, none⟩ = some (.string y4) := (hPw5.cell (p := ⟨_, _, none⟩) zgw4).trans g10w4
          have zaw5 : w3.heap.size < w5.heap.size := by omega
          have a0w5 : w5.cell? ⟨w3.heap.size, 0, none⟩ = some (.slice oa1 0 ca1) := (hPw5.cell (p := ⟨_, _, none⟩) zaw4).trans a0w4
          have a1w5 : w5.cell? ⟨w3.heap.size, 1, none⟩ = some (.slice pa1 0 da1) := (hPw5.cell (p := ⟨_, _, none⟩) zaw4).trans a1w4
          have hBw5 : Below w.heap.size w w5 := below_step (w := w) (by first | assumption | go_grown) hb
          clear hb hsw5 hPw5
          clear zsw4 zmw4 zgw4 zaw4 s0w4 s1w4 m0w4 m1w4 g0w4 g1w4 g2w4 g3w4 g4w4 g5w4 g6w4 g7w4 g8w4 g9w4 g10w4 a0w4 a1w4
          go_wp2
          go_returns
          exact ⟨rfl, by assumption⟩

set_option maxRecDepth 100000 in
theorem stockBack_contract (H : Type) (enc : TypeId × Value → H) (W : World) (base : Nat) (args : Array Value) (ds gs : List (DataW H)) (before : List MemPlace)
    (hval : ∀ (j : Nat) t v, Tryd.f4.params[j]? = some t → args[j]? = some v → Value.okWide Tryd.prog W .any base t v)
    (hW : DataW.Whole enc Tryd.prog Tryd.f4.params.toList Rows.stockBackSpec.vars false W args.toList ds gs before) (hL : laidMetH Tryd.prog Rows.stockBackRow.laid W) (hSh : W.ShapedOpen Tryd.prog) :
    Calls Tryd.prog 4 args W fun e W' => ∃ v, e = .returned v ∧ Rows.stockBackSpec.post enc Tryd.prog Tryd.f4 false true false false W args v W' := by
  have hW' := hW
  obtain ⟨p, q, hA0, hV, rfl, hfz, hnd⟩ := hW
  have hA : DataW.TrodAll enc Tryd.prog W 0 (fun _ => true) true Tryd.f4.params.toList args.toList ds p := hA0
  rw [Tryd.params4] at hA hval
  obtain ⟨v0, vs0, d0, ds0, p0, q0, hargs, rfl, rfl, h0, r0⟩ := trodAll_cons hA
  obtain ⟨v1, vs1, d1, ds1, p1, q1, rfl, rfl, rfl, h1, r1⟩ := trodAll_cons r0
  obtain ⟨v2, vs2, d2, ds2, p2, q2, rfl, rfl, rfl, h2, r2⟩ := trodAll_cons r1
  obtain ⟨rfl, rfl, rfl⟩ := trodAll_nil r2
  obtain rfl : args = #[v0, v1, v2] := by cases args; simp_all
  obtain ⟨ns0, es0, nb0, eb0, hst0⟩ := stock_arg (hval 0 25 v0 rfl rfl) h0
  obtain ⟨vg, vs, m, gv, rfl, hG, hS⟩ := mat_arg (hval 1 29 v1 rfl rfl) h1
  obtain ⟨x0, x1, x2, x3, x4, x5, y0, y1, y2, y3, y4, rfl⟩ := goods_arg (hval 2 42 v2 rfl rfl) h2
  refine (stockBack_walk _ ns0 es0 nb0 eb0 vg vs m gv x0 x1 x2 x3 x4 x5 y0 y1 y2 y3 y4 W hst0 hG hS (maxLen_of W hSh)).mono fun e W' ⟨he, hb⟩ => ?_
  subst he
  exact ⟨_, rfl, law_post laidOut (by kernel_rfl) (by kernel_rfl) Tryd.underlying4 rfl hW' (fun _ => rfl) hb⟩
theorem stockBack_laid (os : Os) : laidMet Tryd.prog Rows.stockBackRow.laid ((laidWorld os).forCall (fun _ _ => 0) ⟨#[], #[.agg #[.slice none 0 0, .slice none 0 0], .agg #[.slice none 0 0, .slice none 0 0], .agg #[.string ⟨#[]⟩, .string ⟨#[]⟩, .int .i64 0, .int .i64 0, .int .i64 0, .string ⟨#[]⟩, .string ⟨#[]⟩, .string ⟨#[]⟩, .string ⟨#[]⟩, .int .i64 0, .string ⟨#[]⟩]], []⟩).memory := laidMet_of_run' 8 (by kernel_rfl) (by kernel_rfl)
theorem stockBack_reads (os : Os) {H : Type} (enc : TypeId × Value → H) : ∃ places, DataW.whole enc Tryd.prog ((laidWorld os).forCall (fun _ _ => 0) ⟨#[], #[.agg #[.slice none 0 0, .slice none 0 0], .agg #[.slice none 0 0, .slice none 0 0], .agg #[.string ⟨#[]⟩, .string ⟨#[]⟩, .int .i64 0, .int .i64 0, .int .i64 0, .string ⟨#[]⟩, .string ⟨#[]⟩, .string ⟨#[]⟩, .string ⟨#[]⟩, .int .i64 0, .string ⟨#[]⟩]], []⟩).memory Tryd.f4.params.toList Rows.stockBackSpec.vars false (#[.agg #[.slice none 0 0, .slice none 0 0], .agg #[.slice none 0 0, .slice none 0 0], .agg #[.string ⟨#[]⟩, .string ⟨#[]⟩, .int .i64 0, .int .i64 0, .int .i64 0, .string ⟨#[]⟩, .string ⟨#[]⟩, .string ⟨#[]⟩, .string ⟨#[]⟩, .int .i64 0, .string ⟨#[]⟩]] : Array Value).toList 8 = some ([.agg [.nil, .nil], .agg [.nil, .nil], .agg [.agg [.lit (.string []), .lit (.string []), .lit (.int .i64 0), .lit (.int .i64 0), .lit (.int .i64 0), .lit (.string [])], .agg [.lit (.string []), .lit (.string []), .lit (.string []), .lit (.int .i64 0), .lit (.string [])]]], [], places) := ⟨[], by kernel_rfl⟩
set_option maxRecDepth 100000 in
theorem stockBack_lifted (os : Os) (started : os.Started) (H : Type) (enc : TypeId × Value → H) (F : Stop.Interp) :
    ReturnsInHanded {} Tryd.checked os 4 .any ((OpenSpec.ofChange Rows.stockBackSpec).preRow enc Tryd.prog Tryd.f4 Rows.stockBackRow.domain false Rows.stockBackRow.laid) (((OpenSpec.ofChange Rows.stockBackSpec).at F).post enc Tryd.prog Tryd.f4 false true false false) := by
  obtain ⟨places, hx⟩ := stockBack_reads os enc
  refine returnsInHanded_of_row (C := Tryd.checked) (s := OpenSpec.ofChange Rows.stockBackSpec) own started (by kernel_rfl) Tryd.func4
    (witness_row_at (enc := enc) (C := Tryd.checked) false (laidWorld os) #[.agg #[.slice none 0 0, .slice none 0 0], .agg #[.slice none 0 0, .slice none 0 0], .agg #[.string ⟨#[]⟩, .string ⟨#[]⟩, .int .i64 0, .int .i64 0, .int .i64 0, .string ⟨#[]⟩, .string ⟨#[]⟩, .string ⟨#[]⟩, .string ⟨#[]⟩, .int .i64 0, .string ⟨#[]⟩]] rfl (by kernel_rfl) (by kernel_rfl) (by kernel_rfl)
      (OpenSpec.preRow_of_cond 8 hx (by kernel_rfl) (fun k hk => by cases hk) (by kernel_rfl) (stockBack_laid os))) ?_
  intro W base args ds gs before hval hW _ _ _ hL hSh _
  exact stockBack_contract H enc W base args ds gs before hval hW hL hSh
theorem stockBack_said : Rows.StockBackSaid :=
  OpenClaim.holds_of_cond 4 Tryd.f4 rfl rfl rfl rfl rfl rfl rfl ⟨rfl, rfl, rfl, rfl, rfl⟩ rfl rfl rfl rfl rfl (by kernel_rfl) Tryd.func4 (by kernel_rfl)
    (of_decide_eq_true (by kernel_rfl)) (by unfold Func.isWrapper; rw [if_neg (of_decide_eq_false (by kernel_rfl))]; exact ⟨rfl, rfl⟩)
    (fun os started H enc _ F => by rw [OpenClaim.pre_eq_preRow]; exact stockBack_lifted os started H enc F)
theorem stockBack_plain (f : FuncId) (fn : Func) (hf : Tryd.pinned.checked.prog.funcNamed "shipyard/shipyardlaw29.StockBack" = some f) (hfn : Tryd.pinned.checked.prog.funcs[f]? = some fn) :
    false = Tryd.pinned.checked.prog.looks [] ∧ ∀ (j : Nat) t, fn.params[j]? = some t → Tryd.pinned.checked.prog.wantsStandIn t = false := by
  obtain rfl : f = 4 := Option.some.inj ((show Tryd.prog.funcNamed "shipyard/shipyardlaw29.StockBack" = some 4 by kernel_rfl).symm.trans hf) |>.symm
  obtain rfl : fn = Tryd.f4 := (Option.some.inj (Tryd.func4.symm.trans hfn)).symm
  refine ⟨by kernel_rfl, fun j t ht => ?_⟩
  rw [Tryd.params4] at ht
  have hm : t ∈ [25, 29, 42] := by simpa using Array.mem_of_getElem? ht
  have hall : ([25, 29, 42].all fun u => !Tryd.prog.wantsStandIn u) = true := by kernel_rfl
  exact (show Tryd.prog.wantsStandIn t = false by simpa using List.all_eq_true.1 hall t hm)
/-- the card -/
theorem stockBack_card : Rows.StockBackCardSaid :=
  Claim7.holds_tied_plain_at .later [] _ _ _ _ stockBack_said (fun _ h => by cases h) (by kernel_rfl) (fun _ h => by cases h) stockBack_row_tie rfl ⟨rfl, rfl⟩ (by kernel_rfl) rfl stockBack_plain (by kernel_rfl)
#print axioms stockBack_card
end Go.Proofs.YtiddpaaihloopaaDoor
