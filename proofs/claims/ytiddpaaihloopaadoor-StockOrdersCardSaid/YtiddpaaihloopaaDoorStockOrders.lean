/-
  Two plates, or two bars, can be added in either order, with the same result. Conditions: none (the card ties the two tables of unicode/utf8 to the program's text). By an AI agent.
-/
import Derived.Test.YtiddpaaihloopaaDoorStockO
namespace Go.Proofs.YtiddpaaihloopaaDoor
open Go Go.ChangeShapes Go.WideShapes Go.RowKit Go.ChangeAt
set_option linter.unusedSimpArgs false
set_option linter.unusedVariables false
set_option maxRecDepth 100000 in
set_option maxHeartbeats 32000000 in
theorem stockOrders_walk (v : Value) (ns : Nat) (es : Nat → Sh) (nb : Nat) (eb : Nat → Br) (vg vs : Value) (m : Mat) (gv : Nat → Value) (x0 x1 : ByteArray) (x2 x3 x4 : Int) (x5 y0 y1 y2 : ByteArray) (y3 : Int) (y4 p0 p1 : ByteArray) (p2 p3 p4 : Int) (p5 q0 q1 q2 : ByteArray) (q3 : Int) (q4 : ByteArray) (w : World) (h : StAt w v ns es nb eb) (hG : GrAt w vg m gv) (hS : SeAt w vs m) (hml : MaxLenIs w) :
    Calls Tryd.prog 6 #[v, .agg #[vg, vs], .agg #[.string x0, .string x1, .int .i64 x2, .int .i64 x3, .int .i64 x4, .string x5, .string y0, .string y1, .string y2, .int .i64 y3, .string y4, .string p0, .string p1, .int .i64 p2, .int .i64 p3, .int .i64 p4, .string p5, .string q0, .string q1, .string q2, .int .i64 q3, .string q4]] w fun e w' => e = .returned (.bool true) ∧ Below w.heap.size w w' := by
  have HML := Lib.hid hml
  have HST := Lib.hid h
  have HG := Lib.hid hG
  have HS := Lib.hid hS
  obtain ⟨oa, ca, ob, cb, rfl⟩ := h.slices
  obtain ⟨om, cm, rfl, -, -⟩ := hG.form
  obtain ⟨ot, ct, rfl, -, -⟩ := hS.form
  clear h hml hG hS
  obtain ⟨R1, hR1⟩ : ∃ R, rightB m ns es nb eb = R := ⟨_, rfl⟩
  have HR1 := Lib.hid hR1
  clear hR1
  obtain ⟨R2, hR2⟩ : ∃ R, shortB ⟨x0, x1, x2, x3, x4, x5⟩ ⟨y0, y1, y2, y3, y4⟩ = R := ⟨_, rfl⟩
  have HR2 := Lib.hid hR2
  clear hR2
  obtain ⟨R3, hR3⟩ : ∃ R, shortB ⟨p0, p1, p2, p3, p4, p5⟩ ⟨q0, q1, q2, q3, q4⟩ = R := ⟨_, rfl⟩
  have HR3 := Lib.hid hR3
  clear hR3
  go_enter Tryd.func6, Tryd.ntmps6
  go_wp2_with fail
  (go_at_call 14; refine (right_any _ ns es nb eb _ _ m gv _ (HST.out.below (by first | assumption | go_grown)) (HG.out.below (by first | assumption | go_grown)) (HS.out.below (by first | assumption | go_grown)) (HML.out.below (by first | assumption | go_grown))).mono ?_; rintro e_ w1 ⟨rfl, hb⟩)
  rw [HR1.out]
  have hsw1 := hb.size
  (try simp only [World.size_alloc, World.size_setCell] at hsw1)
  have zzw1 : w.heap.size < w1.heap.size := by omega
  have hPw1 : Below w.heap.size w w1 := below_step (w := w) (by first | exact Below.refl _ _ | go_grown) hb
  have zsw1 : w.heap.size < w1.heap.size := by omega
  have s0w1 : w1.cell? ⟨w.heap.size, 0, none⟩ = some (.slice oa ns ca) := (hb.cell (p := ⟨_, _, none⟩) (by simp <;> omega)).trans (by simp [go_sem])
  have s1w1 : w1.cell? ⟨w.heap.size, 1, none⟩ = some (.slice ob nb cb) := (hb.cell (p := ⟨_, _, none⟩) (by simp <;> omega)).trans (by simp [go_sem])
  have zmw1 : w.heap.size + 1 < w1.heap.size := by omega
  have m0w1 : w1.cell? ⟨w.heap.size + 1, 0, none⟩ = some (.slice om m.ng cm) := (hb.cell (p := ⟨_, _, none⟩) (by simp <;> omega)).trans (by simp [go_sem])
  have m1w1 : w1.cell? ⟨w.heap.size + 1, 1, none⟩ = some (.slice ot m.ns ct) := (hb.cell (p := ⟨_, _, none⟩) (by simp <;> omega)).trans (by simp [go_sem])
  have zgw1 : w.heap.size + 1 + 1 < w1.heap.size := by omega
  have g0w1 : w1.cell? ⟨w.heap.size + 1 + 1, 0, none⟩ = some (.string x0) := (hb.cell (p := ⟨_, _, none⟩) (by simp <;> omega)).trans (by simp [go_sem])
  have g1w1 : w1.cell? ⟨w.heap.size + 1 + 1, 1, none⟩ = some (.string x1) := (hb.cell (p := ⟨_, _, none⟩) (by simp <;> omega)).trans (by simp [go_sem])
  have g2w1 : w1.cell? ⟨w.heap.size + 1 + 1, 2, none⟩ = some (.int .i64 x2) := (hb.cell (p := ⟨_, _, none⟩) (by simp <;> omega)).trans (by simp [go_sem])
  have g3w1 : w1.cell? ⟨w.heap.size + 1 + 1, 3, none⟩ = some (.int .i64 x3) := (hb.cell (p := ⟨_, _, none⟩) (by simp <;> omega)).trans (by simp [go_sem])
  have g4w1 : w1.cell? ⟨w.heap.size + 1 + 1, 4, none⟩ = some (.int .i64 x4) := (hb.cell (p := ⟨_, _, none⟩) (by simp <;> omega)).trans (by simp [go_sem])
  have g5w1 : w1.cell? ⟨w.heap.size + 1 + 1, 5, none⟩ = some (.string x5) := (hb.cell (p := ⟨_, _, none⟩) (by simp <;> omega)).trans (by simp [go_sem])
  have g6w1 : w1.cell? ⟨w.heap.size + 1 + 1, 6, none⟩ = some (.string y0) := (hb.cell (p := ⟨_, _, none⟩) (by simp <;> omega)).trans (by simp [go_sem])
  have g7w1 : w1.cell? ⟨w.heap.size + 1 + 1, 7, none⟩ = some (.string y1) := (hb.cell (p := ⟨_, _, none⟩) (by simp <;> omega)).trans (by simp [go_sem])
  have g8w1 : w1.cell? ⟨w.heap.size + 1 + 1, 8, none⟩ = some (.string y2) := (hb.cell (p := ⟨_, _, none⟩) (by simp <;> omega)).trans (by simp [go_sem])
  have g9w1 : w1.cell? ⟨w.heap.size + 1 + 1, 9, none⟩ = some (.int .i64 y3) := (hb.cell (p := ⟨_, _, none⟩) (by simp <;> omega)).trans (by simp [go_sem])
  have g10w1 : w1.cell? ⟨w.heap.size + 1 + 1, 10, none⟩ = some (.string y4) := (hb.cell (p := ⟨_, _, none⟩) (by simp <;> omega)).trans (by simp [go_sem])
  have g11w1 : w1.cell? ⟨w.heap.size + 1 + 1, 11, none⟩ = some (.string p0) := (hb.cell (p := ⟨_, _, none⟩) (by simp <;> omega)).trans (by simp [go_sem])
  have g12w1 : w1.cell? ⟨w.heap.size + 1 + 1, 12, none⟩ = some (.string p1) := (hb.cell (p := ⟨_, _, none⟩) (by simp <;> omega)).trans (by simp [go_sem])
  have g13w1 : w1.cell? ⟨w.heap.size + 1 + 1, 13, none⟩ = some (.int .i64 p2) := (hb.cell (p := ⟨_, _, none⟩) (by simp <;> omega)).trans (by simp [go_sem])
  have g14w1 : w1.cell? ⟨w.heap.size + 1 + 1, 14, none⟩ = some (.int .i64 p3) := (hb.cell (p := ⟨_, _, none⟩) (by simp <;> omega)).trans (by simp [go_sem])
  have g15w1 : w1.cell? ⟨w.heap.size + 1 + 1, 15, none⟩ = some (.int .i64 p4) := (hb.cell (p := ⟨_, _, none⟩) (by simp <;> omega)).trans (by simp [go_sem])
  have g16w1 : w1.cell? ⟨w.heap.size + 1 + 1, 16, none⟩ = some (.string p5) := (hb.cell (p := ⟨_, _, none⟩) (by simp <;> omega)).trans (by simp [go_sem])
  have g17w1 : w1.cell? ⟨w.heap.size + 1 + 1, 17, none⟩ = some (.string q0) := (hb.cell (p := ⟨_, _, none⟩) (by simp <;> omega)).trans (by simp [go_sem])
  have g18w1 : w1.cell? ⟨w.heap.size + 1 + 1, 18, none⟩ = some (.string q1) := (hb.cell (p := ⟨_, _, none⟩) (by simp <;> omega)).trans (by simp [go_sem])
  have g19w1 : w1.cell? ⟨w.heap.size + 1 + 1, 19, none⟩ = some (.string q2) := (hb.cell (p := ⟨_, _, none⟩) (by simp <;> omega)).trans (by simp [go_sem])
  have g20w1 : w1.cell? ⟨w.heap.size + 1 + 1, 20, none⟩ = some (.int .i64 q3) := (hb.cell (p := ⟨_, _, none⟩) (by simp <;> omega)).trans (by simp [go_sem])
  have g21w1 : w1.cell? ⟨w.heap.size + 1 + 1, 21, none⟩ = some (.string q4) := (hb.cell (p := ⟨_, _, none⟩) (by simp <;> omega)).trans (by simp [go_sem])
  have hBw1 : Below w.heap.size w w1 := below_step (w := w) (by first | assumption | go_grown) hb
  clear hb hsw1 hPw1
  cases R1 with
  | false =>
    go_wp2_with fail
    (go_at_call 9; refine (awake_any _ (HML.out.below (by first | assumption | go_grown))).mono ?_; rintro e_ w2 ⟨rfl, hb⟩)
    have hsw2 := hb.size
    (try simp only [World.size_alloc, World.size_setCell] at hsw2)
    have zzw2 : w.heap.size < w2.heap.size := by omega
    have hPw2 : Below w1.heap.size w1 w2 := below_step (w := w1) (by first | exact Below.refl _ _ | go_grown) hb
    have zsw2 : w.heap.size < w2.heap.size := by omega
    have s0w2 : w2.cell? ⟨w.heap.size, 0, none⟩ = some (.slice oa ns ca) := (hPw2.cell (p := ⟨_, _, none⟩) zsw1).trans s0w1
    have s1w2 : w2.cell? ⟨w.heap.size, 1, none⟩ = some (.slice ob nb cb) := (hPw2.cell (p := ⟨_, _, none⟩) zsw1).trans s1w1
    have zmw2 : w.heap.size + 1 < w2.heap.size := by omega
    have m0w2 : w2.cell? ⟨w.heap.size + 1, 0, none⟩ = some (.slice om m.ng cm) := (hPw2.cell (p := ⟨_, _, none⟩) zmw1).trans m0w1
    have m1w2 : w2.cell? ⟨w.heap.size + 1, 1, none⟩ = some (.slice ot m.ns ct) := (hPw2.cell (p := ⟨_, _, none⟩) zmw1).trans m1w1
    have zgw2 : w.heap.size + 1 + 1 < w2.heap.size := by omega
    have g0w2 : w2.cell? ⟨w.heap.size + 1 + 1, 0, none⟩ = some (.string x0) := (hPw2.cell (p := ⟨_, _, none⟩) zgw1).trans g0w1
    have g1w2 : w2.cell? ⟨w.heap.size + 1 + 1, 1, none⟩ = some (.string x1) := (hPw2.cell (p := ⟨_, _, none⟩) zgw1).trans g1w1
    have g2w2 : w2.cell? ⟨w.heap.size + 1 + 1, 2, none⟩ = some (.int .i64 x2) := (hPw2.cell (p := ⟨_, _, none⟩) zgw1).trans g2w1
    have g3w2 : w2.cell? ⟨w.heap.size + 1 + 1, 3, none⟩ = some (.int .i64 x3) := (hPw2.cell (p := ⟨_, _, none⟩) zgw1).trans g3w1
    have g4w2 : w2.cell? ⟨w.heap.size + 1 + 1, 4, none⟩ = some (.int .i64 x4) := (hPw2.cell (p := ⟨_, _, none⟩) zgw1).trans g4w1
    have g5w2 : w2.cell? ⟨w.heap.size + 1 + 1, 5, none⟩ = some (.string x5) := (hPw2.cell (p := ⟨_, _, none⟩) zgw1).trans g5w1
    have g6w2 : w2.cell? ⟨w.heap.size + 1 + 1, 6, none⟩ = some (.string y0) := (hPw2.cell (p := ⟨_, _, none⟩) zgw1).trans g6w1
    have g7w2 : w2.cell? ⟨w.heap.size + 1 + 1, 7, none⟩ = some (.string y1) := (hPw2.cell (p := ⟨_, _, none⟩) zgw1).trans g7w1
    have g8w2 : w2.cell? ⟨w.heap.size + 1 + 1, 8, none⟩ = some (.string y2) := (hPw2.cell (p := ⟨_, _, none⟩) zgw1).trans g8w1
    have g9w2 : w2.cell? ⟨w.heap.size + 1 + 1, 9, none⟩ = some (.int .i64 y3) := (hPw2.cell (p := ⟨_, _, none⟩) zgw1).trans g9w1
    have g10w2 : w2.cell? ⟨w.heap.size + 1 + 1, 10, none⟩ = some (.string y4) := (hPw2.cell (p := ⟨_, _, none⟩) zgw1).trans g10w1
    have g11w2 : w2.cell? ⟨w.heap.size + 1 + 1, 11, none⟩ = some (.string p0) := (hPw2.cell (p := ⟨_, _, none⟩) zgw1).trans g11w1
    have g12w2 : w2.cell? ⟨w.heap.size + 1 + 1, 12, none⟩ = some (.string p1) := (hPw2.cell (p := ⟨_, _, none⟩) zgw1).trans g12w1
    have g13w2 : w2.cell? ⟨w.heap.size + 1 + 1, 13, none⟩ = some (.int .i64 p2) := (hPw2.cell (p := ⟨_, _, none⟩) zgw1).trans g13w1
    have g14w2 : w2.cell? ⟨w.heap.size + 1 + 1, 14, none⟩ = some (.int .i64 p3) := (hPw2.cell (p := ⟨_, _, none⟩) zgw1).trans g14w1
    have g15w2 : w2.cell? ⟨w.heap.size + 1 + 1, 15, none⟩ = some (.int .i64 p4) := (hPw2.cell (p := ⟨_, _, none⟩) zgw1).trans g15w1
    have g16w2 : w2.cell? ⟨w.heap.size + 1 + 1, 16, none⟩ = some (.string p5) := (hPw2.cell (p := ⟨_, _, none⟩) zgw1).trans g16w1
    have g17w2 : w2.cell? ⟨w.heap.size + 1 + 1, 17, none⟩ = some (.string q0) := (hPw2.cell (p := ⟨_, _, none⟩) zgw1).trans g17w1
    have g18w2 : w2.cell? ⟨w.heap.size + 1 + 1, 18, none⟩ = some (.string q1) := (hPw2.cell (p := ⟨_, _, none⟩) zgw1).trans g18w1
    have g19w2 : w2.cell? ⟨w.heap.size + 1 + 1, 19, none⟩ = some (.string q2) := (hPw2.cell (p := ⟨_, _, none⟩) zgw1).trans g19w1
    have g20w2 : w2.cell? ⟨w.heap.size + 1 + 1, 20, none⟩ = some (.int .i64 q3) := (hPw2.cell (p := ⟨_, _, none⟩) zgw1).trans g20w1
    have g21w2 : w2.cell? ⟨w.heap.size + 1 + 1, 21, none⟩ = some (.string q4) := (hPw2.cell (p := ⟨_, _, none⟩) zgw1).trans g21w1
    have hBw2 : Below w.heap.size w w2 := below_step (w := w) (by first | assumption | go_grown) hb
    clear hb hsw2 hPw2
    clear zsw1 zmw1 zgw1 s0w1 s1w1 m0w1 m1w1 g0w1 g1w1 g2w1 g3w1 g4w1 g5w1 g6w1 g7w1 g8w1 g9w1 g10w1 g11w1 g12w1 g13w1 g14w1 g15w1 g16w1 g17w1 g18w1 g19w1 g20w1 g21w1
    go_wp2
    go_returns
    exact ⟨rfl, by assumption⟩
  | true =>
    have HR := Lib.hid (right_is HR1.out)
    have HM := Lib.hid (mfew_mat HR.out.mfew HG.out HS.out)
    clear HR1
    go_wp2_with fail
    (go_at_call 15; refine (short_any ⟨x0, x1, x2, x3, x4, x5⟩ ⟨y0, y1, y2, y3, y4⟩ _).mono ?_; rintro e_ w2 ⟨rfl, hb⟩)
    rw [HR2.out]
    have hsw2 := hb.size
    (try simp only [World.size_alloc, World.size_setCell] at hsw2)
    have zzw2 : w.heap.size < w2.heap.size := by omega
    have hPw2 : Below w1.heap.size w1 w2 := below_step (w := w1) (by first | exact Below.refl _ _ | go_grown) hb
    have zsw2 : w.heap.size < w2.heap.size := by omega
    have s0w2 : w2.cell? ⟨w.heap.size, 0, none⟩ = some (.slice oa ns ca) := (hPw2.cell (p := ⟨_, _, none⟩) zsw1).trans s0w1
    have s1w2 : w2.cell? ⟨w.heap.size, 1, none⟩ = some (.slice ob nb cb) := (hPw2.cell (p := ⟨_, _, none⟩) zsw1).trans s1w1
    have zmw2 : w.heap.size + 1 < w2.heap.size := by omega
    have m0w2 : w2.cell? ⟨w.heap.size + 1, 0, none⟩ = some (.slice om m.ng cm) := (hPw2.cell (p := ⟨_, _, none⟩) zmw1).trans m0w1
    have m1w2 : w2.cell? ⟨w.heap.size + 1, 1, none⟩ = some (.slice ot m.ns ct) := (hPw2.cell (p := ⟨_, _, none⟩) zmw1).trans m1w1
    have zgw2 : w.heap.size + 1 + 1 < w2.heap.size := by omega
    have g0w2 : w2.cell? ⟨w.heap.size + 1 + 1, 0, none⟩ = some (.string x0) := (hPw2.cell (p := ⟨_, _, none⟩) zgw1).trans g0w1
    have g1w2 : w2.cell? ⟨w.heap.size + 1 + 1, 1, none⟩ = some (.string x1) := (hPw2.cell (p := ⟨_, _, none⟩) zgw1).trans g1w1
    have g2w2 : w2.cell? ⟨w.heap.size + 1 + 1, 2, none⟩ = some (.int .i64 x2) := (hPw2.cell (p := ⟨_, _, none⟩) zgw1).trans g2w1
    have g3w2 : w2.cell? ⟨w.heap.size + 1 + 1, 3, none⟩ = some (.int .i64 x3) := (hPw2.cell (p := ⟨_, _, none⟩) zgw1).trans g3w1
    have g4w2 : w2.cell? ⟨w.heap.size + 1 + 1, 4, none⟩ = some (.int .i64 x4) := (hPw2.cell (p := ⟨_, _, none⟩) zgw1).trans g4w1
    have g5w2 : w2.cell? ⟨w.heap.size + 1 + 1, 5, none⟩ = some (.string x5) := (hPw2.cell (p := ⟨_, _, none⟩) zgw1).trans g5w1
    have g6w2 : w2.cell? ⟨w.heap.size + 1 + 1, 6, none⟩ = some (.string y0) := (hPw2.cell (p := ⟨_, _, none⟩) zgw1).trans g6w1
    have g7w2 : w2.cell? ⟨w.heap.size + 1 + 1, 7, none⟩ = some (.string y1) := (hPw2.cell (p := ⟨_, _, none⟩) zgw1).trans g7w1
    have g8w2 : w2.cell? ⟨w.heap.size + 1 + 1, 8, none⟩ = some (.string y2) := (hPw2.cell (p := ⟨_, _, none⟩) zgw1).trans g8w1
    have g9w2 : w2.cell? ⟨w.heap.size + 1 + 1, 9, none⟩ = some (.int .i64 y3) := (hPw2.cell (p := ⟨_, _, none⟩) zgw1).trans g9w1
    have g10w2 : w2.cell? ⟨w.heap.size + 1 + 1, 10, none⟩ = some (.string y4) := (hPw2.cell (p := ⟨_, _, none⟩) zgw1).trans g10w1
    have g11w2 : w2.cell? ⟨w.heap.size + 1 + 1, 11, none⟩ = some (.string p0) := (hPw2.cell (p := ⟨_, _, none⟩) zgw1).trans g11w1
    have g12w2 : w2.cell? ⟨w.heap.size + 1 + 1, 12, none⟩ = some (.string p1) := (hPw2.cell (p := ⟨_, _, none⟩) zgw1).trans g12w1
    have g13w2 : w2.cell? ⟨w.heap.size + 1 + 1, 13, none⟩ = some (.int .i64 p2) := (hPw2.cell (p := ⟨_, _, none⟩) zgw1).trans g13w1
    have g14w2 : w2.cell? ⟨w.heap.size + 1 + 1, 14, none⟩ = some (.int .i64 p3) := (hPw2.cell (p := ⟨_, _, none⟩) zgw1).trans g14w1
    have g15w2 : w2.cell? ⟨w.heap.size + 1 + 1, 15, none⟩ = some (.int .i64 p4) := (hPw2.cell (p := ⟨_, _, none⟩) zgw1).trans g15w1
    have g16w2 : w2.cell? ⟨w.heap.size + 1 + 1, 16, none⟩ = some (.string p5) := (hPw2.cell (p := ⟨_, _, none⟩) zgw1).trans g16w1
    have g17w2 : w2.cell? ⟨w.heap.size + 1 + 1, 17, none⟩ = some (.string q0) := (hPw2.cell (p := ⟨_, _, none⟩) zgw1).trans g17w1
    have g18w2 : w2.cell? ⟨w.heap.size + 1 + 1, 18, none⟩ = some (.string q1) := (hPw2.cell (p := ⟨_, _, none⟩) zgw1).trans g18w1
    have g19w2 : w2.cell? ⟨w.heap.size + 1 + 1, 19, none⟩ = some (.string q2) := (hPw2.cell (p := ⟨_, _, none⟩) zgw1).trans g19w1
    have g20w2 : w2.cell? ⟨w.heap.size + 1 + 1, 20, none⟩ = some (.int .i64 q3) := (hPw2.cell (p := ⟨_, _, none⟩) zgw1).trans g20w1
    have g21w2 : w2.cell? ⟨w.heap.size + 1 + 1, 21, none⟩ = some (.string q4) := (hPw2.cell (p := ⟨_, _, none⟩) zgw1).trans g21w1
    have hBw2 : Below w.heap.size w w2 := below_step (w := w) (by first | assumption | go_grown) hb
    clear hb hsw2 hPw2
    clear zsw1 zmw1 zgw1 s0w1 s1w1 m0w1 m1w1 g0w1 g1w1 g2w1 g3w1 g4w1 g5w1 g6w1 g7w1 g8w1 g9w1 g10w1 g11w1 g12w1 g13w1 g14w1 g15w1 g16w1 g17w1 g18w1 g19w1 g20w1 g21w1
    cases R2 with
    | false =>
      go_wp2_with fail
      (go_at_call 9; refine (awake_any _ (HML.out.below (by first | assumption | go_grown))).mono ?_; rintro e_ w3 ⟨rfl, hb⟩)
      have hsw3 := hb.size
      (try simp only [World.size_alloc, World.size_setCell] at hsw3)
      have zzw3 : w.heap.size < w3.heap.size := by omega
      have hPw3 : Below w2.heap.size w2 w3 := below_step (w := w2) (by first | exact Below.refl _ _ | go_grown) hb
      have zsw3 : w.heap.size < w3.heap.size := by omega
      have s0w3 : w3.cell? ⟨w.heap.size, 0, none⟩ = some (.slice oa ns ca) := (hPw3.cell (p := ⟨_, _, none⟩) zsw2).trans s0w2
      have s1w3 : w3.cell? ⟨w.heap.size, 1, none⟩ = some (.slice ob nb cb) := (hPw3.cell (p := ⟨_, _, none⟩) zsw2).trans s1w2
      have zmw3 : w.heap.size + 1 < w3.heap.size := by omega
      have m0w3 : w3.cell? ⟨w.heap.size + 1, 0, none⟩ = some (.slice om m.ng cm) := (hPw3.cell (p := ⟨_, _, none⟩) zmw2).trans m0w2
      have m1w3 : w3.cell? ⟨w.heap.size + 1, 1, none⟩ = some (.slice ot m.ns ct) := (hPw3.cell (p := ⟨_, _, none⟩) zmw2).trans m1w2
      have zgw3 : w.heap.size + 1 + 1 < w3.heap.size := by omega
      have g0w3 : w3.cell? ⟨w.heap.size + 1 + 1, 0, none⟩ = some (.string x0) := (hPw3.cell (p := ⟨_, _, none⟩) zgw2).trans g0w2
      have g1w3 : w3.cell? ⟨w.heap.size + 1 + 1, 1, none⟩ = some (.string x1) := (hPw3.cell (p := ⟨_, _, none⟩) zgw2).trans g1w2
      have g2w3 : w3.cell? ⟨w.heap.size + 1 + 1, 2, none⟩ = some (.int .i64 x2) := (hPw3.cell (p := ⟨_, _, none⟩) zgw2).trans g2w2
      have g3w3 : w3.cell? ⟨w.heap.size + 1 + 1, 3, none⟩ = some (.int .i64 x3) := (hPw3.cell (p := ⟨_, _, none⟩) zgw2).trans g3w2
      have g4w3 : w3.cell? ⟨w.heap.size + 1 + 1, 4, none⟩ = some (.int .i64 x4) := (hPw3.cell (p := ⟨_, _, none⟩) zgw2).trans g4w2
      have g5w3 : w3.cell? ⟨w.heap.size + 1 + 1, 5, none⟩ = some (.string x5) := (hPw3.cell (p := ⟨_, _, none⟩) zgw2).trans g5w2
      have g6w3 : w3.cell? ⟨w.heap.size + 1 + 1, 6, none⟩ = some (.string y0) := (hPw3.cell (p := ⟨_, _, none⟩) zgw2).trans g6w2
      have g7w3 : w3.cell? ⟨w.heap.size + 1 + 1, 7, none⟩ = some (.string y1) := (hPw3.cell (p := ⟨_, _, none⟩) zgw2).trans g7w2
      have g8w3 : w3.cell? ⟨w.heap.size + 1 + 1, 8, none⟩ = some (.string y2) := (hPw3.cell (p := ⟨_, _, none⟩) zgw2).trans g8w2
      have g9w3 : w3.cell? ⟨w.heap.size + 1 + 1, 9, none⟩ = some (.int .i64 y3) := (hPw3.cell (p := ⟨_, _, none⟩) zgw2).trans g9w2
      have g10w3 : w3.cell? ⟨w.heap.size + 1 + 1, 10, none⟩ = some (.string y4) := (hPw3.cell (p := ⟨_, _, none⟩) zgw2).trans g10w2
      have g11w3 : w3.cell? ⟨w.heap.size + 1 + 1, 11, none⟩ = some (.string p0) := (hPw3.cell (p := ⟨_, _, none⟩) zgw2).trans g11w2
      have g12w3 : w3.cell? ⟨w.heap.size + 1 + 1, 12, none⟩ = some (.string p1) := (hPw3.cell (p := ⟨_, _, none⟩) zgw2).trans g12w2
      have g13w3 : w3.cell? ⟨w.heap.size + 1 + 1, 13, none⟩ = some (.int .i64 p2) := (hPw3.cell (p := ⟨_, _, none⟩) zgw2).trans g13w2
      have g14w3 : w3.cell? ⟨w.heap.size + 1 + 1, 14, none⟩ = some (.int .i64 p3) := (hPw3.cell (p := ⟨_, _, none⟩) zgw2).trans g14w2
      have g15w3 : w3.cell? ⟨w.heap.size + 1 + 1, 15, none⟩ = some (.int .i64 p4) := (hPw3.cell (p := ⟨_, _, none⟩) zgw2).trans g15w2
      have g16w3 : w3.cell? ⟨w.heap.size + 1 + 1, 16, none⟩ = some (.string p5) := (hPw3.cell (p := ⟨_, _, none⟩) zgw2).trans g16w2
      have g17w3 : w3.cell? ⟨w.heap.size + 1 + 1, 17, none⟩ = some (.string q0) := (hPw3.cell (p := ⟨_, _, none⟩) zgw2).trans g17w2
      have g18w3 : w3.cell? ⟨w.heap.size + 1 + 1, 18, none⟩ = some (.string q1) := (hPw3.cell (p := ⟨_, _, none⟩) zgw2).trans g18w2
      have g19w3 : w3.cell? ⟨w.heap.size + 1 + 1, 19, none⟩ = some (.string q2) := (hPw3.cell (p := ⟨_, _, none⟩) zgw2).trans g19w2
      have g20w3 : w3.cell? ⟨w.heap.size + 1 + 1, 20, none⟩ = some (.int .i64 q3) := (hPw3.cell (p := ⟨_, _, none⟩) zgw2).trans g20w2
      have g21w3 : w3.cell? ⟨w.heap.size + 1 + 1, 21, none⟩ = some (.string q4) := (hPw3.cell (p := ⟨_, _, none⟩) zgw2).trans g21w2
      have hBw3 : Below w.heap.size w w3 := below_step (w := w) (by first | assumption | go_grown) hb
      clear hb hsw3 hPw3
      clear zsw2 zmw2 zgw2 s0w2 s1w2 m0w2 m1w2 g0w2 g1w2 g2w2 g3w2 g4w2 g5w2 g6w2 g7w2 g8w2 g9w2 g10w2 g11w2 g12w2 g13w2 g14w2 g15w2 g16w2 g17w2 g18w2 g19w2 g20w2 g21w2
      go_wp2
      go_returns
      exact ⟨rfl, by assumption⟩
    | true =>
      go_wp2_with fail
      (go_at_call 15; refine (short_any ⟨p0, p1, p2, p3, p4, p5⟩ ⟨q0, q1, q2, q3, q4⟩ _).mono ?_; rintro e_ w3 ⟨rfl, hb⟩)
      rw [HR3.out]
      have hsw3 := hb.size
      (try simp only [World.size_alloc, World.size_setCell] at hsw3)
      have zzw3 : w.heap.size < w3.heap.size := by omega
      have hPw3 : Below w2.heap.size w2 w3 := below_step (w := w2) (by first | exact Below.refl _ _ | go_grown) hb
      have zsw3 : w.heap.size < w3.heap.size := by omega
      have s0w3 : w3.cell? ⟨w.heap.size, 0, none⟩ = some (.slice oa ns ca) := (hPw3.cell (p := ⟨_, _, none⟩) zsw2).trans s0w2
      have s1w3 : w3.cell? ⟨w.heap.size, 1, none⟩ = some (.slice ob nb cb) := (hPw3.cell (p := ⟨_, _, none⟩) zsw2).trans s1w2
      have zmw3 : w.heap.size + 1 < w3.heap.size := by omega
      have m0w3 : w3.cell? ⟨w.heap.size + 1, 0, none⟩ = some (.slice om m.ng cm) := (hPw3.cell (p := ⟨_, _, none⟩) zmw2).trans m0w2
      have m1w3 : w3.cell? ⟨w.heap.size + 1, 1, none⟩ = some (.slice ot m.ns ct) := (hPw3.cell (p := ⟨_, _, none⟩) zmw2).trans m1w2
      have zgw3 : w.heap.size + 1 + 1 < w3.heap.size := by omega
      have g0w3 : w3.cell? ⟨w.heap.size + 1 + 1, 0, none⟩ = some (.string x0) := (hPw3.cell (p := ⟨_, _, none⟩) zgw2).trans g0w2
      have g1w3 : w3.cell? ⟨w.heap.size + 1 + 1, 1, none⟩ = some (.string x1) := (hPw3.cell (p := ⟨_, _, none⟩) zgw2).trans g1w2
      have g2w3 : w3.cell? ⟨w.heap.size + 1 + 1, 2, none⟩ = some (.int .i64 x2) := (hPw3.cell (p := ⟨_, _, none⟩) zgw2).trans g2w2
      have g3w3 : w3.cell? ⟨w.heap.size + 1 + 1, 3, none⟩ = some (.int .i64 x3) := (hPw3.cell (p := ⟨_, _, none⟩) zgw2).trans g3w2
      have g4w3 : w3.cell? ⟨w.heap.size + 1 + 1, 4, none⟩ = some (.int .i64 x4) := (hPw3.cell (p := ⟨_, _, none⟩) zgw2).trans g4w2
      have g5w3 : w3.cell? ⟨w.heap.size + 1 + 1, 5, none⟩ = some (.string x5) := (hPw3.cell (p := ⟨_, _, none⟩) zgw2).trans g5w2
      have g6w3 : w3.cell? ⟨w.heap.size + 1 + 1, 6, none⟩ = some (.string y0) := (hPw3.cell (p := ⟨_, _, none⟩) zgw2).trans g6w2
      have g7w3 : w3.cell? ⟨w.heap.size + 1 + 1, 7, none⟩ = some (.string y1) := (hPw3.cell (p := ⟨_, _, none⟩) zgw2).trans g7w2
      have g8w3 : w3.cell? ⟨w.heap.size + 1 + 1, 8, none⟩ = some (.string y2) := (hPw3.cell (p := ⟨_, _, none⟩) zgw2).trans g8w2
      have g9w3 : w3.cell? ⟨w.heap.size + 1 + 1, 9, none⟩ = some (.int .i64 y3) := (hPw3.cell (p := ⟨_, _, none⟩) zgw2).trans g9w2
      have g10w3 : w3.cell? ⟨w.heap.size + 1 + 1, 10, none⟩ = some (.string y4) := (hPw3.cell (p := ⟨_, _, none⟩) zgw2).trans g10w2
      have g11w3 : w3.cell? ⟨w.heap.size + 1 + 1, 11, none⟩ = some (.string p0) := (hPw3.cell (p := ⟨_, _, none⟩) zgw2).trans g11w2
      have g12w3 : w3.cell? ⟨w.heap.size + 1 + 1, 12, none⟩ = some (.string p1) := (hPw3.cell (p := ⟨_, _, none⟩) zgw2).trans g12w2
      have g13w3 : w3.cell? ⟨w.heap.size + 1 + 1, 13, none⟩ = some (.int .i64 p2) := (hPw3.cell (p := ⟨_, _, none⟩) zgw2).trans g13w2
      have g14w3 : w3.cell? ⟨w.heap.size + 1 + 1, 14, none⟩ = some (.int .i64 p3) := (hPw3.cell (p := ⟨_, _, none⟩) zgw2).trans g14w2
      have g15w3 : w3.cell? ⟨w.heap.size + 1 + 1, 15, none⟩ = some (.int .i64 p4) := (hPw3.cell (p := ⟨_, _, none⟩) zgw2).trans g15w2
      have g16w3 : w3.cell? ⟨w.heap.size + 1 + 1, 16, none⟩ = some (.string p5) := (hPw3.cell (p := ⟨_, _, none⟩) zgw2).trans g16w2
      have g17w3 : w3.cell? ⟨w.heap.size + 1 + 1, 17, none⟩ = some (.string q0) := (hPw3.cell (p := ⟨_, _, none⟩) zgw2).trans g17w2
      have g18w3 : w3.cell? ⟨w.heap.size + 1 + 1, 18, none⟩ = some (.string q1) := (hPw3.cell (p := ⟨_, _, none⟩) zgw2).trans g18w2
      have g19w3 : w3.cell? ⟨w.heap.size + 1 + 1, 19, none⟩ = some (.string q2) := (hPw3.cell (p := ⟨_, _, none⟩) zgw2).trans g19w2
      have g20w3 : w3.cell? ⟨w.heap.size + 1 + 1, 20, none⟩ = some (.int .i64 q3) := (hPw3.cell (p := ⟨_, _, none⟩) zgw2).trans g20w2
      have g21w3 : w3.cell? ⟨w.heap.size + 1 + 1, 21, none⟩ = some (.string q4) := (hPw3.cell (p := ⟨_, _, none⟩) zgw2).trans g21w2
      have hBw3 : Below w.heap.size w w3 := below_step (w := w) (by first | assumption | go_grown) hb
      clear hb hsw3 hPw3
      clear zsw2 zmw2 zgw2 s0w2 s1w2 m0w2 m1w2 g0w2 g1w2 g2w2 g3w2 g4w2 g5w2 g6w2 g7w2 g8w2 g9w2 g10w2 g11w2 g12w2 g13w2 g14w2 g15w2 g16w2 g17w2 g18w2 g19w2 g20w2 g21w2
      cases R3 with
      | false =>
        go_wp2_with fail
        (go_at_call 9; refine (awake_any _ (HML.out.below (by first | assumption | go_grown))).mono ?_; rintro e_ w4 ⟨rfl, hb⟩)
        have hsw4 := hb.size
        (try simp only [World.size_alloc, World.size_setCell] at hsw4)
        have zzw4 : w.heap.size < w4.heap.size := by omega
        have hPw4 : Below w3.heap.size w3 w4 := below_step (w := w3) (by first | exact Below.refl _ _ | go_grown) hb
        have zsw4 : w.heap.size < w4.heap.size := by omega
        have s0w4 : w4.cell? ⟨w.heap.size, 0, none⟩ = some (.slice oa ns ca) := (hPw4.cell (p := ⟨_, _, none⟩) zsw3).trans s0w3
        have s1w4 : w4.cell? ⟨w.heap.size, 1, none⟩ = some (.slice ob nb cb) := (hPw4.cell (p := ⟨_, _, none⟩) zsw3).trans s1w3
        have zmw4 : w.heap.size + 1 < w4.heap.size := by omega
        have m0w4 : w4.cell? ⟨w.heap.size + 1, 0, none⟩ = some (.slice om m.ng cm) := (hPw4.cell (p := ⟨_, _, none⟩) zmw3).trans m0w3
        have m1w4 : w4.cell? ⟨w.heap.size + 1, 1, none⟩ = some (.slice ot m.ns ct) := (hPw4.cell (p := ⟨_, _, none⟩) zmw3).trans m1w3
        have zgw4 : w.heap.size + 1 + 1 < w4.heap.size := by omega
        have g0w4 : w4.cell? ⟨w.heap.size + 1 + 1, 0, none⟩ = some (.string x0) := (hPw4.cell (p := ⟨_, _, none⟩) zgw3).trans g0w3
        have g1w4 : w4.cell? ⟨w.heap.size + 1 + 1, 1, none⟩ = some (.string x1) := (hPw4.cell (p := ⟨_, _, none⟩) zgw3).trans g1w3
        have g2w4 : w4.cell? ⟨w.heap.size + 1 + 1, 2, none⟩ = some (.int .i64 x2) := (hPw4.cell (p := ⟨_, _, none⟩) zgw3).trans g2w3
        have g3w4 : w4.cell? ⟨w.heap.size + 1 + 1, 3, none⟩ = some (.int .i64 x3) := (hPw4.cell (p := ⟨_, _, none⟩) zgw3).trans g3w3
        have g4w4 : w4.cell? ⟨w.heap.size + 1 + 1, 4, none⟩ = some (.int .i64 x4) := (hPw4.cell (p := ⟨_, _, none⟩) zgw3).trans g4w3
        have g5w4 : w4.cell? ⟨w.heap.size + 1 + 1, 5, none⟩ = some (.string x5) := (hPw4.cell (p := ⟨_, _, none⟩) zgw3).trans g5w3
        have g6w4 : w4.cell? ⟨w.heap.size + 1 + 1, 6, none⟩ = some (.string y0) := (hPw4.cell (p := ⟨_, _, none⟩) zgw3).trans g6w3
        have g7w4 : w4.cell? ⟨w.heap.size + 1 + 1, 7, none⟩ = some (.string y1) := (hPw4.cell (p := ⟨_, _, none⟩) zgw3).trans g7w3
        have g8w4 : w4.cell? ⟨w.heap.size + 1 + 1, 8, none⟩ = some (.string y2) := (hPw4.cell (p := ⟨_, _, none⟩) zgw3).trans g8w3
        have g9w4 : w4.cell? ⟨w.heap.size + 1 + 1, 9, none⟩ = some (.int .i64 y3) := (hPw4.cell (p := ⟨_, _, none⟩) zgw3).trans g9w3
        have g10w4 : w4.cell? ⟨w.heap.size + 1 + 1, 10, none⟩ = some (.string y4) := (hPw4.cell (p := ⟨_, _, none⟩) zgw3).trans g10w3
        have g11w4 : w4.cell? ⟨w.heap.size + 1 + 1, 11, none⟩ = some (.string p0) := (hPw4.cell (p := ⟨_, _, none⟩) zgw3).trans g11w3
        have g12w4 : w4.cell? ⟨w.heap.size + 1 + 1, 12, none⟩ = some (.string p1) := (hPw4.cell (p := ⟨_, _, none⟩) zgw3).trans g12w3
        have g13w4 : w4.cell? ⟨w.heap.size + 1 + 1, 13, none⟩ = some (.int .i64 p2) := (hPw4.cell (p := ⟨_, _, none⟩) zgw3).trans g13w3
        have g14w4 : w4.cell? ⟨w.heap.size + 1 + 1, 14, none⟩ = some (.int .i64 p3) := (hPw4.cell (p := ⟨_, _, none⟩) zgw3).trans g14w3
        have g15w4 : w4.cell? ⟨w.heap.size + 1 + 1, 15, none⟩ = some (.int .i64 p4) := (hPw4.cell (p := ⟨_, _, none⟩) zgw3).trans g15w3
        have g16w4 : w4.cell? ⟨w.heap.size + 1 + 1, 16, none⟩ = some (.string p5) := (hPw4.cell (p := ⟨_, _, none⟩) zgw3).trans g16w3
        have g17w4 : w4.cell? ⟨w.heap.size + 1 + 1, 17, none⟩ = some (.string q0) := (hPw4.cell (p := ⟨_, _, none⟩) zgw3).trans g17w3
        have g18w4 : w4.cell? ⟨w.heap.size + 1 + 1, 18, none⟩ = some (.string q1) := (hPw4.cell (p := ⟨_, _, none⟩) zgw3).trans g18w3
        have g19w4 : w4.cell? ⟨w.heap.size + 1 + 1, 19, none⟩ = some (.string q2) := (hPw4.cell (p := ⟨_, _, none⟩) zgw3).trans g19w3
        have g20w4 : w4.cell? ⟨w.heap.size + 1 + 1, 20, none⟩ = some (.int .i64 q3) := (hPw4.cell (p := ⟨_, _, none⟩) zgw3).trans g20w3
        have g21w4 : w4.cell? ⟨w.heap.size + 1 + 1, 21, none⟩ = some (.string q4) := (hPw4.cell (p := ⟨_, _, none⟩) zgw3).trans g21w3
        have hBw4 : Below w.heap.size w w4 := below_step (w := w) (by first | assumption | go_grown) hb
        clear hb hsw4 hPw4
        clear zsw3 zmw3 zgw3 s0w3 s1w3 m0w3 m1w3 g0w3 g1w3 g2w3 g3w3 g4w3 g5w3 g6w3 g7w3 g8w3 g9w3 g10w3 g11w3 g12w3 g13w3 g14w3 g15w3 g16w3 g17w3 g18w3 g19w3 g20w3 g21w3
        go_wp2
        go_returns
        exact ⟨rfl, by assumption⟩
      | true =>
        have HZX := Lib.hid (short_sizes HR2.out).1
        have HZY := Lib.hid (short_sizes HR2.out).2
        have HZP := Lib.hid (short_sizes HR3.out).1
        have HZQ := Lib.hid (short_sizes HR3.out).2
        clear HR2 HR3
        obtain ⟨Ea1, hEa1⟩ : ∃ E, addS (sheetE m (⟨x0, x1, x2, x3, x4, x5⟩ : Sh)) (addE Sh.id es ns (⟨x0, x1, x2, x3, x4, x5⟩ : Sh)) = E := ⟨_, rfl⟩
        obtain ⟨Na11, hNa11⟩ : ∃ N, (if Ea1 = 0 then ns + 1 else 0) = N := ⟨_, rfl⟩
        have HNa11 := Lib.hid hNa11
        clear hNa11
        obtain ⟨Na12, hNa12⟩ : ∃ N, (if Ea1 = 0 then nb else 0) = N := ⟨_, rfl⟩
        have HNa12 := Lib.hid hNa12
        clear hNa12
        have HEa1 := Lib.hid hEa1
        clear hEa1
        obtain ⟨Ea2, hEa2⟩ : ∃ E, addS (sheetE m (⟨p0, p1, p2, p3, p4, p5⟩ : Sh)) (addE Sh.id es ns (⟨p0, p1, p2, p3, p4, p5⟩ : Sh)) = E := ⟨_, rfl⟩
        obtain ⟨Na21, hNa21⟩ : ∃ N, (if Ea2 = 0 then ns + 1 else 0) = N := ⟨_, rfl⟩
        have HNa21 := Lib.hid hNa21
        clear hNa21
        obtain ⟨Na22, hNa22⟩ : ∃ N, (if Ea2 = 0 then nb else 0) = N := ⟨_, rfl⟩
        have HNa22 := Lib.hid hNa22
        clear hNa22
        have HEa2 := Lib.hid hEa2
        clear hEa2
        go_wp2_with fail
        (go_at_call 16; refine (addSheet_gen HR.out _ _ gv (⟨x0, x1, x2, x3, x4, x5⟩ : Sh) _ Ea1 Na11 Na12 HEa1.out HNa11.out HNa12.out (HST.out.below (by first | assumption | go_grown)) (HM.out.below (by first | assumption | go_grown)) HZX.out (HML.out.below (by first | assumption | go_grown))).mono ?_; rintro e_ w4 ⟨oa1, ca1, pa1, da1, rfl, hst, hb⟩)
        have hsw4 := hb.size
        (try simp only [World.size_alloc, World.size_setCell] at hsw4)
        have zzw4 : w.heap.size < w4.heap.size := by omega
        have hPw4 : Below w3.heap.size w3 w4 := below_step (w := w3) (by first | exact Below.refl _ _ | go_grown) hb
        have zsw4 : w.heap.size < w4.heap.size := by omega
        have s0w4 : w4.cell? ⟨w.heap.size, 0, none⟩ = some (.slice oa ns ca) := (hPw4.cell (p := ⟨_, _, none⟩) zsw3).trans s0w3
        have s1w4 : w4.cell? ⟨w.heap.size, 1, none⟩ = some (.slice ob nb cb) := (hPw4.cell (p := ⟨_, _, none⟩) zsw3).trans s1w3
        have zmw4 : w.heap.size + 1 < w4.heap.size := by omega
        have m0w4 : w4.cell? ⟨w.heap.size + 1, 0, none⟩ = some (.slice om m.ng cm) := (hPw4.cell (p := ⟨_, _, none⟩) zmw3).trans m0w3
        have m1w4 : w4.cell? ⟨w.heap.size + 1, 1, none⟩ = some (.slice ot m.ns ct) := (hPw4.cell (p := ⟨_, _, none⟩) zmw3).trans m1w3
        have zgw4 : w.heap.size + 1 + 1 < w4.heap.size := by omega
        have g0w4 : w4.cell? ⟨w.heap.size + 1 + 1, 0, none⟩ = some (.string x0) := (hPw4.cell (p := ⟨_, _, none⟩) zgw3).trans g0w3
        have g1w4 : w4.cell? ⟨w.heap.size + 1 + 1, 1, none⟩ = some (.string x1) := (hPw4.cell (p := ⟨_, _, none⟩) zgw3).trans g1w3
        have g2w4 : w4.cell? ⟨w.heap.size + 1 + 1, 2, none⟩ = some (.int .i64 x2) := (hPw4.cell (p := ⟨_, _, none⟩) zgw3).trans g2w3
        have g3w4 : w4.cell? ⟨w.heap.size + 1 + 1, 3, none⟩ = some (.int .i64 x3) := (hPw4.cell (p := ⟨_, _, none⟩) zgw3).trans g3w3
        have g4w4 : w4.cell? ⟨w.heap.size + 1 + 1, 4, none⟩ = some (.int .i64 x4) := (hPw4.cell (p := ⟨_, _, none⟩) zgw3).trans g4w3
        have g5w4 : w4.cell? ⟨w.heap.size + 1 + 1, 5, none⟩ = some (.string x5) := (hPw4.cell (p := ⟨_, _, none⟩) zgw3).trans g5w3
        have g6w4 : w4.cell? ⟨w.heap.size + 1 + 1, 6, none⟩ = some (.string y0) := (hPw4.cell (p := ⟨_, _, none⟩) zgw3).trans g6w3
        have g7w4 : w4.cell? ⟨w.heap.size + 1 + 1, 7, none⟩ = some (.string y1) := (hPw4.cell (p := ⟨_, _, none⟩) zgw3).trans g7w3
        have g8w4 : w4.cell? ⟨w.heap.size + 1 + 1, 8, none⟩ = some (.string y2) := (hPw4.cell (p := ⟨_, _, none⟩) zgw3).trans g8w3
        have g9w4 : w4.cell? ⟨w.heap.size + 1 + 1, 9, none⟩ = some (.int .i64 y3) := (hPw4.cell (p := ⟨_, _, none⟩) zgw3).trans g9w3
        have g10w4 : w4.cell? ⟨w.heap.size + 1 + 1, 10, none⟩ = some (.string y4) := (hPw4.cell (p := ⟨_, _, none⟩) zgw3).trans g10w3
        have g11w4 : w4.cell? ⟨w.heap.size + 1 + 1, 11, none⟩ = some (.string p0) := (hPw4.cell (p := ⟨_, _, none⟩) zgw3).trans g11w3
        have g12w4 : w4.cell? ⟨w.heap.size + 1 + 1, 12, none⟩ = some (.string p1) := (hPw4.cell (p := ⟨_, _, none⟩) zgw3).trans g12w3
        have g13w4 : w4.cell? ⟨w.heap.size + 1 + 1, 13, none⟩ = some (.int .i64 p2) := (hPw4.cell (p := ⟨_, _, none⟩) zgw3).trans g13w3
        have g14w4 : w4.cell? ⟨w.heap.size + 1 + 1, 14, none⟩ = some (.int .i64 p3) := (hPw4.cell (p := ⟨_, _, none⟩) zgw3).trans g14w3
        have g15w4 : w4.cell? ⟨w.heap.size + 1 + 1, 15, none⟩ = some (.int .i64 p4) := (hPw4.cell (p := ⟨_, _, none⟩) zgw3).trans g15w3
        have g16w4 : w4.cell? ⟨w.heap.size + 1 + 1, 16, none⟩ = some (.string p5) := (hPw4.cell (p := ⟨_, _, none⟩) zgw3).trans g16w3
        have g17w4 : w4.cell? ⟨w.heap.size + 1 + 1, 17, none⟩ = some (.string q0) := (hPw4.cell (p := ⟨_, _, none⟩) zgw3).trans g17w3
        have g18w4 : w4.cell? ⟨w.heap.size + 1 + 1, 18, none⟩ = some (.string q1) := (hPw4.cell (p := ⟨_, _, none⟩) zgw3).trans g18w3
        have g19w4 : w4.cell? ⟨w.heap.size + 1 + 1, 19, none⟩ = some (.string q2) := (hPw4.cell (p := ⟨_, _, none⟩) zgw3).trans g19w3
        have g20w4 : w4.cell? ⟨w.heap.size + 1 + 1, 20, none⟩ = some (.int .i64 q3) := (hPw4.cell (p := ⟨_, _, none⟩) zgw3).trans g20w3
        have g21w4 : w4.cell? ⟨w.heap.size + 1 + 1, 21, none⟩ = some (.string q4) := (hPw4.cell (p := ⟨_, _, none⟩) zgw3).trans g21w3
        have hBw4 : Below w.heap.size w w4 := below_step (w := w) (by first | assumption | go_grown) hb
        have Ha1 := Lib.hid hst
        clear hst
        clear hb hsw4 hPw4
        clear zsw3 zmw3 zgw3 s0w3 s1w3 m0w3 m1w3 g0w3 g1w3 g2w3 g3w3 g4w3 g5w3 g6w3 g7w3 g8w3 g9w3 g10w3 g11w3 g12w3 g13w3 g14w3 g15w3 g16w3 g17w3 g18w3 g19w3 g20w3 g21w3
        go_wp2_with fail
        (go_at_call 16; refine (addSheet_gen HR.out _ _ gv (⟨p0, p1, p2, p3, p4, p5⟩ : Sh) _ Ea2 Na21 Na22 HEa2.out HNa21.out HNa22.out (HST.out.below (by first | assumption | go_grown)) (HM.out.below (by first | assumption | go_grown)) HZP.out (HML.out.below (by first | assumption | go_grown))).mono ?_; rintro e_ w5 ⟨oa2, ca2, pa2, da2, rfl, hst, hb⟩)
        have hsw5 := hb.size
        (try simp only [World.size_alloc, World.size_setCell] at hsw5)
        have zzw5 : w.heap.size < w5.heap.size := by omega
        have hPw5 : Below w4.heap.size w4 w5 := below_step (w := w4) (by first | exact Below.refl _ _ | go_grown) hb
        have zsw5 : w.heap.size < w5.heap.size := by omega
        have s0w5 : w5.cell? ⟨w.heap.size, 0, none⟩ = some (.slice oa ns ca) := (hPw5.cell (p := ⟨_, _, none⟩) zsw4).trans s0w4
        have s1w5 : w5.cell? ⟨w.heap.size, 1, none⟩ = some (.slice ob nb cb) := (hPw5.cell (p := ⟨_, _, none⟩) zsw4).trans s1w4
        have zmw5 : w.heap.size + 1 < w5.heap.size := by omega
        have m0w5 : w5.cell? ⟨w.heap.size + 1, 0, none⟩ = some (.slice om m.ng cm) := (hPw5.cell (p := ⟨_, _, none⟩) zmw4).trans m0w4
        have m1w5 : w5.cell? ⟨w.heap.size + 1, 1, none⟩ = some (.slice ot m.ns ct) := (hPw5.cell (p := ⟨_, _, none⟩) zmw4).trans m1w4
        have zgw5 : w.heap.size + 1 + 1 < w5.heap.size := by omega
        have g0w5 : w5.cell? ⟨w.heap.size + 1 + 1, 0, none⟩ = some (.string x0) := (hPw5.cell (p := ⟨_, _, none⟩) zgw4).trans g0w4
        have g1w5 : w5.cell? ⟨w.heap.size + 1 + 1, 1, none⟩ = some (.string x1) := (hPw5.cell (p := ⟨_, _, none⟩) zgw4).trans g1w4
        have g2w5 : w5.cell? ⟨w.heap.size + 1 + 1, 2, none⟩ = some (.int .i64 x2) := (hPw5.cell (p := ⟨_, _, none⟩) zgw4).trans g2w4
        have g3w5 : w5.cell? ⟨w.heap.size + 1 + 1, 3, none⟩ = some (.int .i64 x3) := (hPw5.cell (p := ⟨_, _, none⟩) zgw4).trans g3w4
        have g4w5 : w5.cell? ⟨w.heap.size + 1 + 1, 4, none⟩ = some (.int .i64 x4) := (hPw5.cell (p := ⟨_, _, none⟩) zgw4).trans g4w4
        have g5w5 : w5.cell? ⟨w.heap.size + 1 + 1, 5, none⟩ = some (.string x5) := (hPw5.cell (p := ⟨_, _, none⟩) zgw4).trans g5w4
        have g6w5 : w5.cell? ⟨w.heap.size + 1 + 1, 6, none⟩ = some (.string y0) := (hPw5.cell (p := ⟨_, _, none⟩) zgw4).trans g6w4
        have g7w5 : w5.cell? ⟨w.heap.size + 1 + 1, 7, none⟩ = some (.string y1) := (hPw5.cell (p := ⟨_, _, none⟩) zgw4).trans g7w4
        have g8w5 : w5.cell? ⟨w.heap.size + 1 + 1, 8, none⟩ = some (.string y2) := (hPw5.cell (p := ⟨_, _, none⟩) zgw4).trans g8w4
        have g9w5 : w5.cell? ⟨w.heap.size + 1 + 1, 9, none⟩ = some (.int .i64 y3) := (hPw5.cell (p := ⟨_, _, none⟩) zgw4).trans g9w4
        have g10w5 : w5.cell? ⟨w.heap.size + 1 + 1, 10, none⟩ = some (.string y4) := (hPw5.cell (p := ⟨_, _, none⟩) zgw4).trans g10w4
        have g11w5 : w5.cell? ⟨w.heap.size + 1 + 1, 11, none⟩ = some (.string p0) := (hPw5.cell (p := ⟨_, _, none⟩) zgw4).trans g11w4
        have g12w5 : w5.cell? ⟨w.heap.size + 1 + 1, 12, none⟩ = some (.string p1) := (hPw5.cell (p := ⟨_, _, none⟩) zgw4).trans g12w4
        have g13w5 : w5.cell? ⟨w.heap.size + 1 + 1, 13, none⟩ = some (.int .i64 p2) := (hPw5.cell (p := ⟨_, _, none⟩) zgw4).trans g13w4
        have g14w5 : w5.cell? ⟨w.heap.size + 1 + 1, 14, none⟩ = some (.int .i64 p3) := (hPw5.cell (p := ⟨_, _, none⟩) zgw4).trans g14w4
        have g15w5 : w5.cell? ⟨w.heap.size + 1 + 1, 15, none⟩ = some (.int .i64 p4) := (hPw5.cell (p := ⟨_, _, none⟩) zgw4).trans g15w4
        have g16w5 : w5.cell? ⟨w.heap.size + 1 + 1, 16, none⟩ = some (.string p5) := (hPw5.cell (p := ⟨_, _, none⟩) zgw4).trans g16w4
        have g17w5 : w5.cell? ⟨w.heap.size + 1 + 1, 17, none⟩ = some (.string q0) := (hPw5.cell (p := ⟨_, _, none⟩) zgw4).trans g17w4
        have g18w5 : w5.cell? ⟨w.heap.size + 1 + 1, 18, none⟩ = some (.string q1) := (hPw5.cell (p := ⟨_, _, none⟩) zgw4).trans g18w4
        have g19w5 : w5.cell? ⟨w.heap.size + 1 + 1, 19, none⟩ = some (.string q2) := (hPw5.cell (p := ⟨_, _, none⟩) zgw4).trans g19w4
        have g20w5 : w5.cell? ⟨w.heap.size + 1 + 1, 20, none⟩ = some (.int .i64 q3) := (hPw5.cell (p := ⟨_, _, none⟩) zgw4).trans g20w4
        have g21w5 : w5.cell? ⟨w.heap.size + 1 + 1, 21, none⟩ = some (.string q4) := (hPw5.cell (p := ⟨_, _, none⟩) zgw4).trans g21w4
        have za1w5 : w4.heap.size < w5.heap.size := by omega
        have a10w5 : w5.cell? ⟨w4.heap.size, 0, none⟩ = some (.slice oa1 Na11 ca1) := (hb.cell (p := ⟨_, _, none⟩) (by simp <;> omega)).trans (by simp [go_sem])
        have a11w5 : w5.cell? ⟨w4.heap.size, 1, none⟩ = some (.slice pa1 Na12 da1) := (hb.cell (p := ⟨_, _, none⟩) (by simp <;> omega)).trans (by simp [go_sem])
        replace Ha1 := Lib.hid (Ha1.out.below hPw5)
        have hBw5 : Below w.heap.size w w5 := below_step (w := w) (by first | assumption | go_grown) hb
        have Ha2 := Lib.hid hst
        clear hst
        clear hb hsw5 hPw5
        clear zsw4 zmw4 zgw4 s0w4 s1w4 m0w4 m1w4 g0w4 g1w4 g2w4 g3w4 g4w4 g5w4 g6w4 g7w4 g8w4 g9w4 g10w4 g11w4 g12w4 g13w4 g14w4 g15w4 g16w4 g17w4 g18w4 g19w4 g20w4 g21w4
        by_cases ha1 : Ea1 = 0
        · have hn1 : ns + 1 = Na11 := by rw [← HNa11.out, if_pos ha1]
          have hn2 : nb = Na12 := by rw [← HNa12.out, if_pos ha1]
          clear HNa11 HNa12
          subst ha1 hn1 hn2
          by_cases ha2 : Ea2 = 0
          · have hn1 : ns + 1 = Na21 := by rw [← HNa21.out, if_pos ha2]
            have hn2 : nb = Na22 := by rw [← HNa22.out, if_pos ha2]
            clear HNa21 HNa22
            subst ha2 hn1 hn2
            obtain ⟨Ga, hGa⟩ : ∃ E, secE Sh.id es ns (⟨x0, x1, x2, x3, x4, x5⟩ : Sh) (⟨p0, p1, p2, p3, p4, p5⟩ : Sh) = E := ⟨_, rfl⟩
            have HGa := Lib.hid hGa
            obtain ⟨Ma1, hMa1⟩ : ∃ N, (if Ga = 0 then ns + 1 + 1 else 0) = N := ⟨_, rfl⟩
            have HMa1 := Lib.hid hMa1
            clear hMa1
            obtain ⟨Ma2, hMa2⟩ : ∃ N, (if Ga = 0 then nb else 0) = N := ⟨_, rfl⟩
            have HMa2 := Lib.hid hMa2
            clear hMa2
            clear hGa
            go_wp2_with fail
            (go_at_call 16; refine (addSheet_sec HR.out _ _ gv (⟨x0, x1, x2, x3, x4, x5⟩ : Sh) (⟨p0, p1, p2, p3, p4, p5⟩ : Sh) _ Ga Ma1 Ma2 HEa1.out HEa2.out HGa.out HMa1.out HMa2.out (Ha1.out.below (by first | exact Below.refl _ _ | go_grown)) (HM.out.below (by first | assumption | go_grown)) HZP.out (HML.out.below (by first | assumption | go_grown))).mono ?_; rintro e_ w6 ⟨oa3, ca3, pa3, da3, rfl, hst, hb⟩)
            have hsw6 := hb.size
            (try simp only [World.size_alloc, World.size_setCell] at hsw6)
            have zzw6 : w.heap.size < w6.heap.size := by omega
            have hPw6 : Below w5.heap.size w5 w6 := below_step (w := w5) (by first | exact Below.refl _ _ | go_grown) hb
            have zsw6 : w.heap.size < w6.heap.size := by omega
            have s0w6 : w6.cell? ⟨w.heap.size, 0, none⟩ = some (.slice oa ns ca) := (hPw6.cell (p := ⟨_, _, none⟩) zsw5).trans s0w5
            have s1w6 : w6.cell? ⟨w.heap.size, 1, none⟩ = some (.slice ob nb cb) := (hPw6.cell (p := ⟨_, _, none⟩) zsw5).trans s1w5
            have zmw6 : w.heap.size + 1 < w6.heap.size := by omega
            have m0w6 : w6.cell? ⟨w.heap.size + 1, 0, none⟩ = some (.slice om m.ng cm) := (hPw6.cell (p := ⟨_, _, none⟩) zmw5).trans m0w5
            have m1w6 : w6.cell? ⟨w.heap.size + 1, 1, none⟩ = some (.slice ot m.ns ct) := (hPw6.cell (p := ⟨_, _, none⟩) zmw5).trans m1w5
            have zgw6 : w.heap.size + 1 + 1 < w6.heap.size := by omega
            have g0w6 : w6.cell? ⟨w.heap.size + 1 + 1, 0, none⟩ = some (.string x0) := (hPw6.cell (p := ⟨_, _, none⟩) zgw5).trans g0w5
            have g1w6 : w6.cell? ⟨w.heap.size + 1 + 1, 1, none⟩ = some (.string x1) := (hPw6.cell (p := ⟨_, _, none⟩) zgw5).trans g1w5
            have g2w6 : w6.cell? ⟨w.heap.size + 1 + 1, 2, none⟩ = some (.int .i64 x2) := (hPw6.cell (p := ⟨_, _, none⟩) zgw5).trans g2w5
            have g3w6 : w6.cell? ⟨w.heap.size + 1 + 1, 3, none⟩ = some (.int .i64 x3) := (hPw6.cell (p := ⟨_, _, none⟩) zgw5).trans g3w5
            have g4w6 : w6.cell? ⟨w.heap.size + 1 + 1, 4, none⟩ = some (.int .i64 x4) := (hPw6.cell (p := ⟨_, _, none⟩) zgw5).trans g4w5
            have g5w6 : w6.cell? ⟨w.heap.size + 1 + 1, 5, none⟩ = some (.string x5) := (hPw6.cell (p := ⟨_, _, none⟩) zgw5).trans g5w5
            have g6w6 : w6.cell? ⟨w.heap.size + 1 + 1, 6, none⟩ = some (.string y0) := (hPw6.cell (p := ⟨_, _, none⟩) zgw5).trans g6w5
            have g7w6 : w6.cell? ⟨w.heap.size + 1 + 1, 7, none⟩ = some (.string y1) := (hPw6.cell (p := ⟨_, _, none⟩) zgw5).trans g7w5
            have g8w6 : w6.cell? ⟨w.heap.size + 1 + 1, 8, none⟩ = some (.string y2) := (hPw6.cell (p := ⟨_, _, none⟩) zgw5).trans g8w5
            have g9w6 : w6.cell? ⟨w.heap.size + 1 + 1, 9, none⟩ = some (.int .i64 y3) := (hPw6.cell (p := ⟨_, _, none⟩) zgw5).trans g9w5
            have g10w6 : w6.cell? ⟨w.heap.size + 1 + 1, 10, none⟩ = some (.string y4) := (hPw6.cell (p := ⟨_, _, none⟩) zgw5).trans g10w5
            have g11w6 : w6.cell? ⟨w.heap.size + 1 + 1, 11, none⟩ = some (.string p0) := (hPw6.cell (p := ⟨_, _, none⟩) zgw5).trans g11w5
            have g12w6 : w6.cell? ⟨w.heap.size + 1 + 1, 12, none⟩ = some (.string p1) := (hPw6.cell (p := ⟨_, _, none⟩) zgw5).trans g12w5
            have g13w6 : w6.cell? ⟨w.heap.size + 1 + 1, 13, none⟩ = some (.int .i64 p2) := (hPw6.cell (p := ⟨_, _, none⟩) zgw5).trans g13w5
            have g14w6 : w6.cell? ⟨w.heap.size + 1 + 1, 14, none⟩ = some (.int .i64 p3) := (hPw6.cell (p := ⟨_, _, none⟩) zgw5).trans g14w5
            have g15w6 : w6.cell? ⟨w.heap.size + 1 + 1, 15, none⟩ = some (.int .i64 p4) := (hPw6.cell (p := ⟨_, _, none⟩) zgw5).trans g15w5
            have g16w6 : w6.cell? ⟨w.heap.size + 1 + 1, 16, none⟩ = some (.string p5) := (hPw6.cell (p := ⟨_, _, none⟩) zgw5).trans g16w5
            have g17w6 : w6.cell? ⟨w.heap.size + 1 + 1, 17, none⟩ = some (.string q0) := (hPw6.cell (p := ⟨_, _, none⟩) zgw5).trans g17w5
            have g18w6 : w6.cell? ⟨w.heap.size + 1 + 1, 18, none⟩ = some (.string q1) := (hPw6.cell (p := ⟨_, _, none⟩) zgw5).trans g18w5
            have g19w6 : w6.cell? ⟨w.heap.size + 1 + 1, 19, none⟩ = some (.string q2) := (hPw6.cell (p := ⟨_, _, none⟩) zgw5).trans g19w5
            have g20w6 : w6.cell? ⟨w.heap.size + 1 + 1, 20, none⟩ = some (.int .i64 q3) := (hPw6.cell (p := ⟨_, _, none⟩) zgw5).trans g20w5
            have g21w6 : w6.cell? ⟨w.heap.size + 1 + 1, 21, none⟩ = some (.string q4) := (hPw6.cell (p := ⟨_, _, none⟩) zgw5).trans g21w5
            have za1w6 : w4.heap.size < w6.heap.size := by omega
            have a10w6 : w6.cell? ⟨w4.heap.size, 0, none⟩ = some (.slice oa1 (ns + 1) ca1) := (hPw6.cell (p := ⟨_, _, none⟩) za1w5).trans a10w5
            have a11w6 : w6.cell? ⟨w4.heap.size, 1, none⟩ = some (.slice pa1 nb da1) := (hPw6.cell (p := ⟨_, _, none⟩) za1w5).trans a11w5
            have za2w6 : w5.heap.size < w6.heap.size := by omega
            have a20w6 : w6.cell? ⟨w5.heap.size, 0, none⟩ = some (.slice oa2 (ns + 1) ca2) := (hb.cell (p := ⟨_, _, none⟩) (by simp <;> omega)).trans (by simp [go_sem])
            have a21w6 : w6.cell? ⟨w5.heap.size, 1, none⟩ = some (.slice pa2 nb da2) := (hb.cell (p := ⟨_, _, none⟩) (by simp <;> omega)).trans (by simp [go_sem])
            replace Ha1 := Lib.hid (Ha1.out.below hPw6)
            replace Ha2 := Lib.hid (Ha2.out.below hPw6)
            have hBw6 : Below w.heap.size w w6 := below_step (w := w) (by first | assumption | go_grown) hb
            have Ha3 := Lib.hid hst
            clear hst
            clear hb hsw6 hPw6
            clear zsw5 zmw5 zgw5 za1w5 s0w5 s1w5 m0w5 m1w5 g0w5 g1w5 g2w5 g3w5 g4w5 g5w5 g6w5 g7w5 g8w5 g9w5 g10w5 g11w5 g12w5 g13w5 g14w5 g15w5 g16w5 g17w5 g18w5 g19w5 g20w5 g21w5 a10w5 a11w5
            go_wp2_with fail
            (go_at_call 16; refine (addSheet_sec2 HR.out _ _ gv (⟨x0, x1, x2, x3, x4, x5⟩ : Sh) (⟨p0, p1, p2, p3, p4, p5⟩ : Sh) _ Ga Ma1 Ma2 HEa1.out HEa2.out HGa.out HMa1.out HMa2.out (Ha2.out.below (by first | exact Below.refl _ _ | go_grown)) (HM.out.below (by first | assumption | go_grown)) HZX.out (HML.out.below (by first | assumption | go_grown))).mono ?_; rintro e_ w7 ⟨oa4, ca4, pa4, da4, rfl, hst, hb⟩)
            have hsw7 := hb.size
            (try simp only [World.size_alloc, World.size_setCell] at hsw7)
            have zzw7 : w.heap.size < w7.heap.size := by omega
            have hPw7 : Below w6.heap.size w6 w7 := below_step (w := w6) (by first | exact Below.refl _ _ | go_grown) hb
            have zsw7 : w.heap.size < w7.heap.size := by omega
            have s0w7 : w7.cell? ⟨w.heap.size, 0, none⟩ = some (.slice oa ns ca) := (hPw7.cell (p := ⟨_, _, none⟩) zsw6).trans s0w6
            have s1w7 : w7.cell? ⟨w.heap.size, 1, none⟩ = some (.slice ob nb cb) := (hPw7.cell (p := ⟨_, _, none⟩) zsw6).trans s1w6
            have zmw7 : w.heap.size + 1 < w7.heap.size := by omega
            have m0w7 : w7.cell? ⟨w.heap.size + 1, 0, none⟩ = some (.slice om m.ng cm) := (hPw7.cell (p := ⟨_, _, none⟩) zmw6).trans m0w6
            have m1w7 : w7.cell? ⟨w.heap.size + 1, 1, none⟩ = some (.slice ot m.ns ct) := (hPw7.cell (p := ⟨_, _, none⟩) zmw6).trans m1w6
            have zgw7 : w.heap.size + 1 + 1 < w7.heap.size := by omega
            have g0w7 : w7.cell? ⟨w.heap.size + 1 + 1, 0, none⟩ = some (.string x0) := (hPw7.cell (p := ⟨_, _, none⟩) zgw6).trans g0w6
            have g1w7 : w7.cell? ⟨w.heap.size + 1 + 1, 1, none⟩ = some (.string x1) := (hPw7.cell (p := ⟨_, _, none⟩) zgw6).trans g1w6
            have g2w7 : w7.cell? ⟨w.heap.size + 1 + 1, 2, none⟩ = some (.int .i64 x2) := (hPw7.cell (p := ⟨_, _, none⟩) zgw6).trans g2w6
            have g3w7 : w7.cell? ⟨w.heap.size + 1 + 1, 3, none⟩ = some (.int .i64 x3) := (hPw7.cell (p := ⟨_, _, none⟩) zgw6).trans g3w6
            have g4w7 : w7.cell? ⟨w.heap.size + 1 + 1, 4, none⟩ = some (.int .i64 x4) := (hPw7.cell (p := ⟨_, _, none⟩) zgw6).trans g4w6
            have g5w7 : w7.cell? ⟨w.heap.size + 1 + 1, 5, none⟩ = some (.string x5) := (hPw7.cell (p := ⟨_, _, none⟩) zgw6).trans g5w6
            have g6w7 : w7.cell? ⟨w.heap.size + 1 + 1, 6, none⟩ = some (.string y0) := (hPw7.cell (p := ⟨_, _, none⟩) zgw6).trans g6w6
            have g7w7 : w7.cell? ⟨w.heap.size + 1 + 1, 7, none⟩ = some (.string y1) := (hPw7.cell (p := ⟨_, _, none⟩) zgw6).trans g7w6
            have g8w7 : w7.cell? ⟨w.heap.size + 1 + 1, 8, none⟩ = some (.string y2) := (hPw7.cell (p := ⟨_, _, none⟩) zgw6).trans g8w6
            have g9w7 : w7.cell? ⟨w.heap.size + 1 + 1, 9, none⟩ = some (.int .i64 y3) := (hPw7.cell (p := ⟨_, _, none⟩) zgw6).trans g9w6
            have g10w7 : w7.cell? ⟨w.heap.size + 1 + 1, 10, none⟩ = some (.string y4) := (hPw7.cell (p := ⟨_, _, none⟩) zgw6).trans g10w6
            have g11w7 : w7.cell? ⟨w.heap.size + 1 + 1, 11, none⟩ = some (.string p0) := (hPw7.cell (p := ⟨_, _, none⟩) zgw6).trans g11w6
            have g12w7 : w7.cell? ⟨w.heap.size + 1 + 1, 12, none⟩ = some (.string p1) := (hPw7.cell (p := ⟨_, _, none⟩) zgw6).trans g12w6
            have g13w7 : w7.cell? ⟨w.heap.size + 1 + 1, 13, none⟩ = some (.int .i64 p2) := (hPw7.cell (p := ⟨_, _, none⟩) zgw6).trans g13w6
            have g14w7 : w7.cell? ⟨w.heap.size + 1 + 1, 14, none⟩ = some (.int .i64 p3) := (hPw7.cell (p := ⟨_, _, none⟩) zgw6).trans g14w6
            have g15w7 : w7.cell? ⟨w.heap.size + 1 + 1, 15, none⟩ = some (.int .i64 p4) := (hPw7.cell (p := ⟨_, _, none⟩) zgw6).trans g15w6
            have g16w7 : w7.cell? ⟨w.heap.size + 1 + 1, 16, none⟩ = some (.string p5) := (hPw7.cell (p := ⟨_, _, none⟩) zgw6).trans g16w6
            have g17w7 : w7.cell? ⟨w.heap.size + 1 + 1, 17, none⟩ = some (.string q0) := (hPw7.cell (p := ⟨_, _, none⟩) zgw6).trans g17w6
            have g18w7 : w7.cell? ⟨w.heap.size + 1 + 1, 18, none⟩ = some (.string q1) := (hPw7.cell (p := ⟨_, _, none⟩) zgw6).trans g18w6
            have g19w7 : w7.cell? ⟨w.heap.size + 1 + 1, 19, none⟩ = some (.string q2) := (hPw7.cell (p := ⟨_, _, none⟩) zgw6).trans g19w6
            have g20w7 : w7.cell? ⟨w.heap.size + 1 + 1, 20, none⟩ = some (.int .i64 q3) := (hPw7.cell (p := ⟨_, _, none⟩) zgw6).trans g20w6
            have g21w7 : w7.cell? ⟨w.heap.size + 1 + 1, 21, none⟩ = some (.string q4) := (hPw7.cell (p := ⟨_, _, none⟩) zgw6).trans g21w6
            have za1w7 : w4.heap.size < w7.heap.size := by omega
            have a10w7 : w7.cell? ⟨w4.heap.size, 0, none⟩ = some (.slice oa1 (ns + 1) ca1) := (hPw7.cell (p := ⟨_, _, none⟩) za1w6).trans a10w6
            have a11w7 : w7.cell? ⟨w4.heap.size, 1, none⟩ = some (.slice pa1 nb da1) := (hPw7.cell (p := ⟨_, _, none⟩) za1w6).trans a11w6
            have za2w7 : w5.heap.size < w7.heap.size := by omega
            have a20w7 : w7.cell? ⟨w5.heap.size, 0, none⟩ = some (.slice oa2 (ns + 1) ca2) := (hPw7.cell (p := ⟨_, _, none⟩) za2w6).trans a20w6
            have a21w7 : w7.cell? ⟨w5.heap.size, 1, none⟩ = some (.slice pa2 nb da2) := (hPw7.cell (p := ⟨_, _, none⟩) za2w6).trans a21w6
            have za3w7 : w6.heap.size < w7.heap.size := by omega
            have a30w7 : w7.cell? ⟨w6.heap.size, 0, none⟩ = some (.slice oa3 Ma1 ca3) := (hb.cell (p := ⟨_, _, none⟩) (by simp <;> omega)).trans (by simp [go_sem])
            have a31w7 : w7.cell? ⟨w6.heap.size, 1, none⟩ = some (.slice pa3 Ma2 da3) := (hb.cell (p := ⟨_, _, none⟩) (by simp <;> omega)).trans (by simp [go_sem])
            replace Ha1 := Lib.hid (Ha1.out.below hPw7)
            replace Ha2 := Lib.hid (Ha2.out.below hPw7)
            replace Ha3 := Lib.hid (Ha3.out.below hPw7)
            have hBw7 : Below w.heap.size w w7 := below_step (w := w) (by first | assumption | go_grown) hb
            have Ha4 := Lib.hid hst
            clear hst
            clear hb hsw7 hPw7
            clear zsw6 zmw6 zgw6 za1w6 za2w6 s0w6 s1w6 m0w6 m1w6 g0w6 g1w6 g2w6 g3w6 g4w6 g5w6 g6w6 g7w6 g8w6 g9w6 g10w6 g11w6 g12w6 g13w6 g14w6 g15w6 g16w6 g17w6 g18w6 g19w6 g20w6 g21w6 a10w6 a11w6 a20w6 a21w6
            go_wp2_with fail
            (go_at_call 13; refine (rsame_self _ (Ha3.out.below (by first | exact Below.refl _ _ | go_grown)) (Ha4.out.below (by first | exact Below.refl _ _ | go_grown))).mono ?_; rintro e_ w8 ⟨rfl, hb⟩)
            have hsw8 := hb.size
            (try simp only [World.size_alloc, World.size_setCell] at hsw8)
            have zzw8 : w.heap.size < w8.heap.size := by omega
            have hPw8 : Below w7.heap.size w7 w8 := below_step (w := w7) (by first | exact Below.refl _ _ | go_grown) hb
            have zsw8 : w.heap.size < w8.heap.size := by omega
            have s0w8 : w8.cell? ⟨w.heap.size, 0, none⟩ = some (.slice oa ns ca) := (hPw8.cell (p := ⟨_, _, none⟩) zsw7).trans s0w7
            have s1w8 : w8.cell? ⟨w.heap.size, 1, none⟩ = some (.slice ob nb cb) := (hPw8.cell (p := ⟨_, _, none⟩) zsw7).trans s1w7
            have zmw8 : w.heap.size + 1 < w8.heap.size := by omega
            have m0w8 : w8.cell? ⟨w.heap.size + 1, 0, none⟩ = some (.slice om m.ng cm) := (hPw8.cell (p := ⟨_, _, none⟩) zmw7).trans m0w7
            have m1w8 : w8.cell? ⟨w.heap.size + 1, 1, none⟩ = some (.slice ot m.ns ct) := (hPw8.cell (p := ⟨_, _, none⟩) zmw7).trans m1w7
            have zgw8 : w.heap.size + 1 + 1 < w8.heap.size := by omega
            have g0w8 : w8.cell? ⟨w.heap.size + 1 + 1, 0, none⟩ = some (.string x0) := (hPw8.cell (p := ⟨_, _, none⟩) zgw7).trans g0w7
            have g1w8 : w8.cell? ⟨w.heap.size + 1 + 1, 1, none⟩ = some (.string x1) := (hPw8.cell (p := ⟨_, _, none⟩) zgw7).trans g1w7
            have g2w8 : w8.cell? ⟨w.heap.size + 1 + 1, 2, none⟩ = some (.int .i64 x2) := (hPw8.cell (p := ⟨_, _, none⟩) zgw7).trans g2w7
            have g3w8 : w8.cell? ⟨w.heap.size + 1 + 1, 3, none⟩ = some (.int .i64 x3) := (hPw8.cell (p := ⟨_, _, none⟩) zgw7).trans g3w7
            have g4w8 : w8.cell? ⟨w.heap.size + 1 + 1, 4, none⟩ = some (.int .i64 x4) := (hPw8.cell (p := ⟨_, _, none⟩) zgw7).trans g4w7
            have g5w8 : w8.cell? ⟨w.heap.size + 1 + 1, 5, none⟩ = some (.string x5) := (hPw8.cell (p := ⟨_, _, none⟩) zgw7).trans g5w7
            have g6w8 : w8.cell? ⟨w.heap.size + 1 + 1, 6, none⟩ = some (.string y0) := (hPw8.cell (p := ⟨_, _, none⟩) zgw7).trans g6w7
            have g7w8 : w8.cell? ⟨w.heap.size + 1 + 1, 7, none⟩ = some (.string y1) := (hPw8.cell (p := ⟨_, _, none⟩) zgw7).trans g7w7
            have g8w8 : w8.cell? ⟨w.heap.size + 1 + 1, 8, none⟩ = some (.string y2) := (hPw8.cell (p := ⟨_, _, none⟩) zgw7).trans g8w7
            have g9w8 : w8.cell? ⟨w.heap.size + 1 + 1, 9, none⟩ = some (.int .i64 y3) := (hPw8.cell (p := ⟨_, _, none⟩) zgw7).trans g9w7
            have g10w8 : w8.cell? ⟨w.heap.size + 1 + 1, 10, none⟩ = some (.string y4) := (hPw8.cell (p := ⟨_, _, none⟩) zgw7).trans g10w7
            have g11w8 : w8.cell? ⟨w.heap.size + 1 + 1, 11, none⟩ = some (.string p0) := (hPw8.cell (p := ⟨_, _, none⟩) zgw7).trans g11w7
            have g12w8 : w8.cell? ⟨w.heap.size + 1 + 1, 12, none⟩ = some (.string p1) := (hPw8.cell (p := ⟨_, _, none⟩) zgw7).trans g12w7
            have g13w8 : w8.cell? ⟨w.heap.size + 1 + 1, 13, none⟩ = some (.int .i64 p2) := (hPw8.cell (p := ⟨_, _, none⟩) zgw7).trans g13w7
            have g14w8 : w8.cell? ⟨w.heap.size + 1 + 1, 14, none⟩ = some (.int .i64 p3) := (hPw8.cell (p := ⟨_, _, none⟩) zgw7).trans g14w7
            have g15w8 : w8.cell? ⟨w.heap.size + 1 + 1, 15, none⟩ = some (.int .i64 p4) := (hPw8.cell (p := ⟨_, _, none⟩) zgw7).trans g15w7
            have g16w8 : w8.cell? ⟨w.heap.size + 1 + 1, 16, none⟩ = some (.string p5) := (hPw8.cell (p := ⟨_, _, none⟩) zgw7).trans g16w7
            have g17w8 : w8.cell? ⟨w.heap.size + 1 + 1, 17, none⟩ = some (.string q0) := (hPw8.cell (p := ⟨_, _, none⟩) zgw7).trans g17w7
            have g18w8 : w8.cell? ⟨w.heap.size + 1 + 1, 18, none⟩ = some (.string q1) := (hPw8.cell (p := ⟨_, _, none⟩) zgw7).trans g18w7
            have g19w8 : w8.cell? ⟨w.heap.size + 1 + 1, 19, none⟩ = some (.string q2) := (hPw8.cell (p := ⟨_, _, none⟩) zgw7).trans g19w7
            have g20w8 : w8.cell? ⟨w.heap.size + 1 + 1, 20, none⟩ = some (.int .i64 q3) := (hPw8.cell (p := ⟨_, _, none⟩) zgw7).trans g20w7
            have g21w8 : w8.cell? ⟨w.heap.size + 1 + 1, 21, none⟩ = some (.string q4) := (hPw8.cell (p := ⟨_, _, none⟩) zgw7).trans g21w7
            have za1w8 : w4.heap.size < w8.heap.size := by omega
            have a10w8 : w8.cell? ⟨w4.heap.size, 0, none⟩ = some (.slice oa1 (ns + 1) ca1) := (hPw8.cell (p := ⟨_, _, none⟩) za1w7).trans a10w7
            have a11w8 : w8.cell? ⟨w4.heap.size, 1, none⟩ = some (.slice pa1 nb da1) := (hPw8.cell (p := ⟨_, _, none⟩) za1w7).trans a11w7
            have za2w8 : w5.heap.size < w8.heap.size := by omega
            have a20w8 : w8.cell? ⟨w5.heap.size, 0, none⟩ = some (.slice oa2 (ns + 1) ca2) := (hPw8.cell (p := ⟨_, _, none⟩) za2w7).trans a20w7
            have a21w8 : w8.cell? ⟨w5.heap.size, 1, none⟩ = some (.slice pa2 nb da2) := (hPw8.cell (p := ⟨_, _, none⟩) za2w7).trans a21w7
            have za3w8 : w6.heap.size < w8.heap.size := by omega
            have a30w8 : w8.cell? ⟨w6.heap.size, 0, none⟩ = some (.slice oa3 Ma1 ca3) := (hPw8.cell (p := ⟨_, _, none⟩) za3w7).trans a30w7
            have a31w8 : w8.cell? ⟨w6.heap.size, 1, none⟩ = some (.slice pa3 Ma2 da3) := (hPw8.cell (p := ⟨_, _, none⟩) za3w7).trans a31w7
            have za4w8 : w7.heap.size < w8.heap.size := by omega
            have a40w8 : w8.cell? ⟨w7.heap.size, 0, none⟩ = some (.slice oa4 Ma1 ca4) := (hb.cell (p := ⟨_, _, none⟩) (by simp <;> omega)).trans (by simp [go_sem])
            have a41w8 : w8.cell? ⟨w7.heap.size, 1, none⟩ = some (.slice pa4 Ma2 da4) := (hb.cell (p := ⟨_, _, none⟩) (by simp <;> omega)).trans (by simp [go_sem])
            replace Ha1 := Lib.hid (Ha1.out.below hPw8)
            replace Ha2 := Lib.hid (Ha2.out.below hPw8)
            replace Ha3 := Lib.hid (Ha3.out.below hPw8)
            replace Ha4 := Lib.hid (Ha4.out.below hPw8)
            have hBw8 : Below w.heap.size w w8 := below_step (w := w) (by first | assumption | go_grown) hb
            clear hb hsw8 hPw8
            clear zsw7 zmw7 zgw7 za1w7 za2w7 za3w7 s0w7 s1w7 m0w7 m1w7 g0w7 g1w7 g2w7 g3w7 g4w7 g5w7 g6w7 g7w7 g8w7 g9w7 g10w7 g11w7 g12w7 g13w7 g14w7 g15w7 g16w7 g17w7 g18w7 g19w7 g20w7 g21w7 a10w7 a11w7 a20w7 a21w7 a30w7 a31w7
            clear za1w8 a10w8 a11w8
            clear za2w8 a20w8 a21w8
            clear za3w8 a30w8 a31w8
            clear za4w8 a40w8 a41w8
            obtain ⟨Ec1, hEc1⟩ : ∃ E, addS (barE m (⟨y0, y1, y2, y3, y4⟩ : Br)) (addE Br.id eb nb (⟨y0, y1, y2, y3, y4⟩ : Br)) = E := ⟨_, rfl⟩
            obtain ⟨Nc11, hNc11⟩ : ∃ N, (if Ec1 = 0 then ns else 0) = N := ⟨_, rfl⟩
            have HNc11 := Lib.hid hNc11
            clear hNc11
            obtain ⟨Nc12, hNc12⟩ : ∃ N, (if Ec1 = 0 then nb + 1 else 0) = N := ⟨_, rfl⟩
            have HNc12 := Lib.hid hNc12
            clear hNc12
            have HEc1 := Lib.hid hEc1
            clear hEc1
            obtain ⟨Ec2, hEc2⟩ : ∃ E, addS (barE m (⟨q0, q1, q2, q3, q4⟩ : Br)) (addE Br.id eb nb (⟨q0, q1, q2, q3, q4⟩ : Br)) = E := ⟨_, rfl⟩
            obtain ⟨Nc21, hNc21⟩ : ∃ N, (if Ec2 = 0 then ns else 0) = N := ⟨_, rfl⟩
            have HNc21 := Lib.hid hNc21
            clear hNc21
            obtain ⟨Nc22, hNc22⟩ : ∃ N, (if Ec2 = 0 then nb + 1 else 0) = N := ⟨_, rfl⟩
            have HNc22 := Lib.hid hNc22
            clear hNc22
            have HEc2 := Lib.hid hEc2
            clear hEc2
            go_wp2_with fail
            (go_at_call 18; refine (addBar_gen HR.out _ _ gv (⟨y0, y1, y2, y3, y4⟩ : Br) _ Ec1 Nc11 Nc12 HEc1.out HNc11.out HNc12.out (HST.out.below (by first | assumption | go_grown)) (HM.out.below (by first | assumption | go_grown)) HZY.out (HML.out.below (by first | assumption | go_grown))).mono ?_; rintro e_ w9 ⟨oc1, cc1, pc1, dc1, rfl, hst, hb⟩)
            have hsw9 := hb.size
            (try simp only [World.size_alloc, World.size_setCell] at hsw9)
            have zzw9 : w.heap.size < w9.heap.size := by omega
            have hPw9 : Below w8.heap.size w8 w9 := below_step (w := w8) (by first | exact Below.refl _ _ | go_grown) hb
            have zsw9 : w.heap.size < w9.heap.size := by omega
            have s0w9 : w9.cell? ⟨w.heap.size, 0, none⟩ = some (.slice oa ns ca) := (hPw9.cell (p := ⟨_, _, none⟩) zsw8).trans s0w8
            have s1w9 : w9.cell? ⟨w.heap.size, 1, none⟩ = some (.slice ob nb cb) := (hPw9.cell (p := ⟨_, _, none⟩) zsw8).trans s1w8
            have zmw9 : w.heap.size + 1 < w9.heap.size := by omega
            have m0w9 : w9.cell? ⟨w.heap.size + 1, 0, none⟩ = some (.slice om m.ng cm) := (hPw9.cell (p := ⟨_, _, none⟩) zmw8).trans m0w8
            have m1w9 : w9.cell? ⟨w.heap.size + 1, 1, none⟩ = some (.slice ot m.ns ct) := (hPw9.cell (p := ⟨_, _, none⟩) zmw8).trans m1w8
            have zgw9 : w.heap.size + 1 + 1 < w9.heap.size := by omega
            have g0w9 : w9.cell? ⟨w.heap.size + 1 + 1, 0, none⟩ = some (.string x0) := (hPw9.cell (p := ⟨_, _, none⟩) zgw8).trans g0w8
            have g1w9 : w9.cell? ⟨w.heap.size + 1 + 1, 1, none⟩ = some (.string x1) := (hPw9.cell (p := ⟨_, _, none⟩) zgw8).trans g1w8
            have g2w9 : w9.cell? ⟨w.heap.size + 1 + 1, 2, none⟩ = some (.int .i64 x2) := (hPw9.cell (p := ⟨_, _, none⟩) zgw8).trans g2w8
            have g3w9 : w9.cell? ⟨w.heap.size + 1 + 1, 3, none⟩ = some (.int .i64 x3) := (hPw9.cell (p := ⟨_, _, none⟩) zgw8).trans g3w8
            have g4w9 : w9.cell? ⟨w.heap.size + 1 + 1, 4, none⟩ = some (.int .i64 x4) := (hPw9.cell (p := ⟨_, _, none⟩) zgw8).trans g4w8
            have g5w9 : w9.cell? ⟨w.heap.size + 1 + 1, 5, none⟩ = some (.string x5) := (hPw9.cell (p := ⟨_, _, none⟩) zgw8).trans g5w8
            have g6w9 : w9.cell? ⟨w.heap.size + 1 + 1, 6, none⟩ = some (.string y0) := (hPw9.cell (p := ⟨_, _, none⟩) zgw8).trans g6w8
            have g7w9 : w9.cell? ⟨w.heap.size + 1 + 1, 7, none⟩ = some (.string y1) := (hPw9.cell (p := ⟨_, _, none⟩) zgw8).trans g7w8
            have g8w9 : w9.cell? ⟨w.heap.size + 1 + 1, 8, none⟩ = some (.string y2) := (hPw9.cell (p := ⟨_, _, none⟩) zgw8).trans g8w8
            have g9w9 : w9.cell? ⟨w.heap.size + 1 + 1, 9, none⟩ = some (.int .i64 y3) := (hPw9.cell (p := ⟨_, _, none⟩) zgw8).trans g9w8
            have g10w9 : w9.cell? ⟨w.heap.size + 1 + 1, 10, none⟩ = some (.string y4) := (hPw9.cell (p := ⟨_, _, none⟩) zgw8).trans g10w8
            have g11w9 : w9.cell? ⟨w.heap.size + 1 + 1, 11, none⟩ = some (.string p0) := (hPw9.cell (p := ⟨_, _, none⟩) zgw8).trans g11w8
            have g12w9 : w9.cell? ⟨w.heap.size + 1 + 1, 12, none⟩ = some (.string p1) := (hPw9.cell (p := ⟨_, _, none⟩) zgw8).trans g12w8
            have g13w9 : w9.cell? ⟨w.heap.size + 1 + 1, 13, none⟩ = some (.int .i64 p2) := (hPw9.cell (p := ⟨_, _, none⟩) zgw8).trans g13w8
            have g14w9 : w9.cell? ⟨w.heap.size + 1 + 1, 14, none⟩ = some (.int .i64 p3) := (hPw9.cell (p := ⟨_, _, none⟩) zgw8).trans g14w8
            have g15w9 : w9.cell? ⟨w.heap.size + 1 + 1, 15, none⟩ = some (.int .i64 p4) := (hPw9.cell (p := ⟨_, _, none⟩) zgw8).trans g15w8
            have g16w9 : w9.cell? ⟨w.heap.size + 1 + 1, 16, none⟩ = some (.string p5) := (hPw9.cell (p := ⟨_, _, none⟩) zgw8).trans g16w8
            have g17w9 : w9.cell? ⟨w.heap.size + 1 + 1, 17, none⟩ = some (.string q0) := (hPw9.cell (p := ⟨_, _, none⟩) zgw8).trans g17w8
            have g18w9 : w9.cell? ⟨w.heap.size + 1 + 1, 18, none⟩ = some (.string q1) := (hPw9.cell (p := ⟨_, _, none⟩) zgw8).trans g18w8
            have g19w9 : w9.cell? ⟨w.heap.size + 1 + 1, 19, none⟩ = some (.string q2) := (hPw9.cell (p := ⟨_, _, none⟩) zgw8).trans g19w8
            have g20w9 : w9.cell? ⟨w.heap.size + 1 + 1, 20, none⟩ = some (.int .i64 q3) := (hPw9.cell (p := ⟨_, _, none⟩) zgw8).trans g20w8
            have g21w9 : w9.cell? ⟨w.heap.size + 1 + 1, 21, none⟩ = some (.string q4) := (hPw9.cell (p := ⟨_, _, none⟩) zgw8).trans g21w8
            replace Ha1 := Lib.hid (Ha1.out.below hPw9)
            replace Ha2 := Lib.hid (Ha2.out.below hPw9)
            replace Ha3 := Lib.hid (Ha3.out.below hPw9)
            replace Ha4 := Lib.hid (Ha4.out.below hPw9)
            have hBw9 : Below w.heap.size w w9 := below_step (w := w) (by first | assumption | go_grown) hb
            have Hc1 := Lib.hid hst
            clear hst
            clear hb hsw9 hPw9
            clear zsw8 zmw8 zgw8 s0w8 s1w8 m0w8 m1w8 g0w8 g1w8 g2w8 g3w8 g4w8 g5w8 g6w8 g7w8 g8w8 g9w8 g10w8 g11w8 g12w8 g13w8 g14w8 g15w8 g16w8 g17w8 g18w8 g19w8 g20w8 g21w8
            go_wp2_with fail
            (go_at_call 18; refine (addBar_gen HR.out _ _ gv (⟨q0, q1, q2, q3, q4⟩ : Br) _ Ec2 Nc21 Nc22 HEc2.out HNc21.out HNc22.out (HST.out.below (by first | assumption | go_grown)) (HM.out.below (by first | assumption | go_grown)) HZQ.out (HML.out.below (by first | assumption | go_grown))).mono ?_; rintro e_ w10 ⟨oc2, cc2, pc2, dc2, rfl, hst, hb⟩)
            have hsw10 := hb.size
            (try simp only [World.size_alloc, World.size_setCell] at hsw10)
            have zzw10 : w.heap.size < w10.heap.size := by omega
            have hPw10 : Below w9.heap.size w9 w10 := below_step (w := w9) (by first | exact Below.refl _ _ | go_grown) hb
            have zsw10 : w.heap.size < w10.heap.size := by omega
            have s0w10 : w10.cell? ⟨w.heap.size, 0, none⟩ = some (.slice oa ns ca) := (hPw10.cell (p := ⟨_, _, none⟩) zsw9).trans s0w9
            have s1w10 : w10.cell? ⟨w.heap.size, 1, none⟩ = some (.slice ob nb cb) := (hPw10.cell (p := ⟨_, _, none⟩) zsw9).trans s1w9
            have zmw10 : w.heap.size + 1 < w10.heap.size := by omega
            have m0w10 : w10.cell? ⟨w.heap.size + 1, 0, none⟩ = some (.slice om m.ng cm) := (hPw10.cell (p := ⟨_, _, none⟩) zmw9).trans m0w9
            have m1w10 : w10.cell? ⟨w.heap.size + 1, 1, none⟩ = some (.slice ot m.ns ct) := (hPw10.cell (p := ⟨_, _, none⟩) zmw9).trans m1w9
            have zgw10 : w.heap.size + 1 + 1 < w10.heap.size := by omega
            have g0w10 : w10.cell? ⟨w.heap.size + 1 + 1, 0, none⟩ = some (.string x0) := (hPw10.cell (p := ⟨_, _, none⟩) zgw9).trans g0w9
            have g1w10 : w10.cell? ⟨w.heap.size + 1 + 1, 1, none⟩ = some (.string x1) := (hPw10.cell (p := ⟨_, _, none⟩) zgw9).trans g1w9
            have g2w10 : w10.cell? ⟨w.heap.size + 1 + 1, 2, none⟩ = some (.int .i64 x2) := (hPw10.cell (p := ⟨_, _, none⟩) zgw9).trans g2w9
            have g3w10 : w10.cell? ⟨w.heap.size + 1 + 1, 3, none⟩ = some (.int .i64 x3) := (hPw10.cell (p := ⟨_, _, none⟩) zgw9).trans g3w9
            have g4w10 : w10.cell? ⟨w.heap.size + 1 + 1, 4, none⟩ = some (.int .i64 x4) := (hPw10.cell (p := ⟨_, _, none⟩) zgw9).trans g4w9
            have g5w10 : w10.cell? ⟨w.heap.size + 1 + 1, 5, none⟩ = some (.string x5) := (hPw10.cell (p := ⟨_, _, none⟩) zgw9).trans g5w9
            have g6w10 : w10.cell? ⟨w.heap.size + 1 + 1, 6, none⟩ = some (.string y0) := (hPw10.cell (p := ⟨_, _, none⟩) zgw9).trans g6w9
            have g7w10 : w10.cell? ⟨w.heap.size + 1 + 1, 7, none⟩ = some (.string y1) := (hPw10.cell (p := ⟨_, _, none⟩) zgw9).trans g7w9
            have g8w10 : w10.cell? ⟨w.heap.size + 1 + 1, 8, none⟩ = some (.string y2) := (hPw10.cell (p := ⟨_, _, none⟩) zgw9).trans g8w9
            have g9w10 : w10.cell? ⟨w.heap.size + 1 + 1, 9, none⟩ = some (.int .i64 y3) := (hPw10.cell (p := ⟨_, _, none⟩) zgw9).trans g9w9
            have g10w10 : w10.cell? ⟨w.heap.size + 1 + 1, 10, none⟩ = some (.string y4) := (hPw10.cell (p := ⟨_, _, none⟩) zgw9).trans g10w9
            have g11w10 : w10.cell? ⟨w.heap.size + 1 + 1, 11, none⟩ = some (.string p0) := (hPw10.cell (p := ⟨_, _, none⟩) zgw9).trans g11w9
            have g12w10 : w10.cell? ⟨w.heap.size + 1 + 1, 12, none⟩ = some (.string p1) := (hPw10.cell (p := ⟨_, _, none⟩) zgw9).trans g12w9
            have g13w10 : w10.cell? ⟨w.heap.size + 1 + 1, 13, none⟩ = some (.int .i64 p2) := (hPw10.cell (p := ⟨_, _, none⟩) zgw9).trans g13w9
            have g14w10 : w10.cell? ⟨w.heap.size + 1 + 1, 14, none⟩ = some (.int .i64 p3) := (hPw10.cell (p := ⟨_, _, none⟩) zgw9).trans g14w9
            have g15w10 : w10.cell? ⟨w.heap.size + 1 + 1, 15, none⟩ = some (.int .i64 p4) := (hPw10.cell (p := ⟨_, _, none⟩) zgw9).trans g15w9
            have g16w10 : w10.cell? ⟨w.heap.size + 1 + 1, 16, none⟩ = some (.string p5) := (hPw10.cell (p := ⟨_, _, none⟩) zgw9).trans g16w9
            have g17w10 : w10.cell? ⟨w.heap.size + 1 + 1, 17, none⟩ = some (.string q0) := (hPw10.cell (p := ⟨_, _, none⟩) zgw9).trans g17w9
            have g18w10 : w10.cell? ⟨w.heap.size + 1 + 1, 18, none⟩ = some (.string q1) := (hPw10.cell (p := ⟨_, _, none⟩) zgw9).trans g18w9
            have g19w10 : w10.cell? ⟨w.heap.size + 1 + 1, 19, none⟩ = some (.string q2) := (hPw10.cell (p := ⟨_, _, none⟩) zgw9).trans g19w9
            have g20w10 : w10.cell? ⟨w.heap.size + 1 + 1, 20, none⟩ = some (.int .i64 q3) := (hPw10.cell (p := ⟨_, _, none⟩) zgw9).trans g20w9
            have g21w10 : w10.cell? ⟨w.heap.size + 1 + 1, 21, none⟩ = some (.string q4) := (hPw10.cell (p := ⟨_, _, none⟩) zgw9).trans g21w9
            have zc1w10 : w9.heap.size < w10.heap.size := by omega
            have c10w10 : w10.cell? ⟨w9.heap.size, 0, none⟩ = some (.slice oc1 Nc11 cc1) := (hb.cell (p := ⟨_, _, none⟩) (by simp <;> omega)).trans (by simp [go_sem])
            have c11w10 : w10.cell? ⟨w9.heap.size, 1, none⟩ = some (.slice pc1 Nc12 dc1) := (hb.cell (p := ⟨_, _, none⟩) (by simp <;> omega)).trans (by simp [go_sem])
            replace Ha1 := Lib.hid (Ha1.out.below hPw10)
            replace Ha2 := Lib.hid (Ha2.out.below hPw10)
            replace Ha3 := Lib.hid (Ha3.out.below hPw10)
            replace Ha4 := Lib.hid (Ha4.out.below hPw10)
            replace Hc1 := Lib.hid (Hc1.out.below hPw10)
            have hBw10 : Below w.heap.size w w10 := below_step (w := w) (by first | assumption | go_grown) hb
            have Hc2 := Lib.hid hst
            clear hst
            clear hb hsw10 hPw10
            clear zsw9 zmw9 zgw9 s0w9 s1w9 m0w9 m1w9 g0w9 g1w9 g2w9 g3w9 g4w9 g5w9 g6w9 g7w9 g8w9 g9w9 g10w9 g11w9 g12w9 g13w9 g14w9 g15w9 g16w9 g17w9 g18w9 g19w9 g20w9 g21w9
            by_cases hc1 : Ec1 = 0
            · have hn1 : ns = Nc11 := by rw [← HNc11.out, if_pos hc1]
              have hn2 : nb + 1 = Nc12 := by rw [← HNc12.out, if_pos hc1]
              clear HNc11 HNc12
              subst hc1 hn1 hn2
              by_cases hc2 : Ec2 = 0
              · have hn1 : ns = Nc21 := by rw [← HNc21.out, if_pos hc2]
                have hn2 : nb + 1 = Nc22 := by rw [← HNc22.out, if_pos hc2]
                clear HNc21 HNc22
                subst hc2 hn1 hn2
                obtain ⟨Gc, hGc⟩ : ∃ E, secE Br.id eb nb (⟨y0, y1, y2, y3, y4⟩ : Br) (⟨q0, q1, q2, q3, q4⟩ : Br) = E := ⟨_, rfl⟩
                have HGc := Lib.hid hGc
                obtain ⟨Mc1, hMc1⟩ : ∃ N, (if Gc = 0 then ns else 0) = N := ⟨_, rfl⟩
                have HMc1 := Lib.hid hMc1
                clear hMc1
                obtain ⟨Mc2, hMc2⟩ : ∃ N, (if Gc = 0 then nb + 1 + 1 else 0) = N := ⟨_, rfl⟩
                have HMc2 := Lib.hid hMc2
                clear hMc2
                clear hGc
                go_wp2_with fail
                (go_at_call 18; refine (addBar_sec HR.out _ _ gv (⟨y0, y1, y2, y3, y4⟩ : Br) (⟨q0, q1, q2, q3, q4⟩ : Br) _ Gc Mc1 Mc2 HEc1.out HEc2.out HGc.out HMc1.out HMc2.out (Hc1.out.below (by first | exact Below.refl _ _ | go_grown)) (HM.out.below (by first | assumption | go_grown)) HZQ.out (HML.out.below (by first | assumption | go_grown))).mono ?_; rintro e_ w11 ⟨oc3, cc3, pc3, dc3, rfl, hst, hb⟩)
                have hsw11 := hb.size
                (try simp only [World.size_alloc, World.size_setCell] at hsw11)
                have zzw11 : w.heap.size < w11.heap.size := by omega
                have hPw11 : Below w10.heap.size w10 w11 := below_step (w := w10) (by first | exact Below.refl _ _ | go_grown) hb
                have zsw11 : w.heap.size < w11.heap.size := by omega
                have s0w11 : w11.cell? ⟨w.heap.size, 0, none⟩ = some (.slice oa ns ca) := (hPw11.cell (p := ⟨_, _, none⟩) zsw10).trans s0w10
                have s1w11 : w11.cell? ⟨w.heap.size, 1, none⟩ = some (.slice ob nb cb) := (hPw11.cell (p := ⟨_, _, none⟩) zsw10).trans s1w10
                have zmw11 : w.heap.size + 1 < w11.heap.size := by omega
                have m0w11 : w11.cell? ⟨w.heap.size + 1, 0, none⟩ = some (.slice om m.ng cm) := (hPw11.cell (p := ⟨_, _, none⟩) zmw10).trans m0w10
                have m1w11 : w11.cell? ⟨w.heap.size + 1, 1, none⟩ = some (.slice ot m.ns ct) := (hPw11.cell (p := ⟨_, _, none⟩) zmw10).trans m1w10
                have zgw11 : w.heap.size + 1 + 1 < w11.heap.size := by omega
                have g0w11 : w11.cell? ⟨w.heap.size + 1 + 1, 0, none⟩ = some (.string x0) := (hPw11.cell (p := ⟨_, _, none⟩) zgw10).trans g0w10
                have g1w11 : w11.cell? ⟨w.heap.size + 1 + 1, 1, none⟩ = some (.string x1) := (hPw11.cell (p := ⟨_, _, none⟩) zgw10).trans g1w10
                have g2w11 : w11.cell? ⟨w.heap.size + 1 + 1, 2, none⟩ = some (.int .i64 x2) := (hPw11.cell (p := ⟨_, _, none⟩) zgw10).trans g2w10
                have g3w11 : w11.cell? ⟨w.heap.size + 1 + 1, 3, none⟩ = some (.int .i64 x3) := (hPw11.cell (p := ⟨_, _, none⟩) zgw10).trans g3w10
                have g4w11 : w11.cell? ⟨w.heap.size + 1 + 1, 4, none⟩ = some (.int .i64 x4) := (hPw11.cell (p := ⟨_, _, none⟩) zgw10).trans g4w10
                have g5w11 : w11.cell? ⟨w.heap.size + 1 + 1, 5, none⟩ = some (.string x5) := (hPw11.cell (p := ⟨_, _, none⟩) zgw10).trans g5w10
                have g6w11 : w11.cell? ⟨w.heap.size + 1 + 1, 6, none⟩ = some (.string y0) := (hPw11.cell (p := ⟨_, _, none⟩) zgw10).trans g6w10
                have g7w11 : w11.cell? ⟨w.heap.size + 1 + 1, 7, none⟩ = some (.string y1) := (hPw11.cell (p := ⟨_, _, none⟩) zgw10).trans g7w10
                have g8w11 : w11.cell? ⟨w.heap.size + 1 + 1, 8, none⟩ = some (.string y2) := (hPw11.cell (p := ⟨_, _, none⟩) zgw10).trans g8w10
                have g9w11 : w11.cell? ⟨w.heap.size + 1 + 1, 9, none⟩ = some (.int .i64 y3) := (hPw11.cell (p := ⟨_, _, none⟩) zgw10).trans g9w10
                have g10w11 : w11.cell? ⟨w.heap.size + 1 + 1, 10, none⟩ = some (.string y4) := (hPw11.cell (p := ⟨_, _, none⟩) zgw10).trans g10w10
                have g11w11 : w11.cell? ⟨w.heap.size + 1 + 1, 11, none⟩ = some (.string p0) := (hPw11.cell (p := ⟨_, _, none⟩) zgw10).trans g11w10
                have g12w11 : w11.cell? ⟨w.heap.size + 1 + 1, 12, none⟩ = some (.string p1) := (hPw11.cell (p := ⟨_, _, none⟩) zgw10).trans g12w10
                have g13w11 : w11.cell? ⟨w.heap.size + 1 + 1, 13, none⟩ = some (.int .i64 p2) := (hPw11.cell (p := ⟨_, _, none⟩) zgw10).trans g13w10
                have g14w11 : w11.cell? ⟨w.heap.size + 1 + 1, 14, none⟩ = some (.int .i64 p3) := (hPw11.cell (p := ⟨_, _, none⟩) zgw10).trans g14w10
                have g15w11 : w11.cell? ⟨w.heap.size + 1 + 1, 15, none⟩ = some (.int .i64 p4) := (hPw11.cell (p := ⟨_, _, none⟩) zgw10).trans g15w10
                have g16w11 : w11.cell? ⟨w.heap.size + 1 + 1, 16, none⟩ = some (.string p5) := (hPw11.cell (p := ⟨_, _, none⟩) zgw10).trans g16w10
                have g17w11 : w11.cell? ⟨w.heap.size + 1 + 1, 17, none⟩ = some (.string q0) := (hPw11.cell (p := ⟨_, _, none⟩) zgw10).trans g17w10
                have g18w11 : w11.cell? ⟨w.heap.size + 1 + 1, 18, none⟩ = some (.string q1) := (hPw11.cell (p := ⟨_, _, none⟩) zgw10).trans g18w10
                have g19w11 : w11.cell? ⟨w.heap.size + 1 + 1, 19, none⟩ = some (.string q2) := (hPw11.cell (p := ⟨_, _, none⟩) zgw10).trans g19w10
                have g20w11 : w11.cell? ⟨w.heap.size + 1 + 1, 20, none⟩ = some (.int .i64 q3) := (hPw11.cell (p := ⟨_, _, none⟩) zgw10).trans g20w10
                have g21w11 : w11.cell? ⟨w.heap.size + 1 + 1, 21, none⟩ = some (.string q4) := (hPw11.cell (p := ⟨_, _, none⟩) zgw10).trans g21w10
                have zc1w11 : w9.heap.size < w11.heap.size := by omega
                have c10w11 : w11.cell? ⟨w9.heap.size, 0, none⟩ = some (.slice oc1 ns cc1) := (hPw11.cell (p := ⟨_, _, none⟩) zc1w10).trans c10w10
                have c11w11 : w11.cell? ⟨w9.heap.size, 1, none⟩ = some (.slice pc1 (nb + 1) dc1) := (hPw11.cell (p := ⟨_, _, none⟩) zc1w10).trans c11w10
                have zc2w11 : w10.heap.size < w11.heap.size := by omega
                have c20w11 : w11.cell? ⟨w10.heap.size, 0, none⟩ = some (.slice oc2 ns cc2) := (hb.cell (p := ⟨_, _, none⟩) (by simp <;> omega)).trans (by simp [go_sem])
                have c21w11 : w11.cell? ⟨w10.heap.size, 1, none⟩ = some (.slice pc2 (nb + 1) dc2) := (hb.cell (p := ⟨_, _, none⟩) (by simp <;> omega)).trans (by simp [go_sem])
                replace Ha1 := Lib.hid (Ha1.out.below hPw11)
                replace Ha2 := Lib.hid (Ha2.out.below hPw11)
                replace Ha3 := Lib.hid (Ha3.out.below hPw11)
                replace Ha4 := Lib.hid (Ha4.out.below hPw11)
                replace Hc1 := Lib.hid (Hc1.out.below hPw11)
                replace Hc2 := Lib.hid (Hc2.out.below hPw11)
                have hBw11 : Below w.heap.size w w11 := below_step (w := w) (by first | assumption | go_grown) hb
                have Hc3 := Lib.hid hst
                clear hst
                clear hb hsw11 hPw11
                clear zsw10 zmw10 zgw10 zc1w10 s0w10 s1w10 m0w10 m1w10 g0w10 g1w10 g2w10 g3w10 g4w10 g5w10 g6w10 g7w10 g8w10 g9w10 g10w10 g11w10 g12w10 g13w10 g14w10 g15w10 g16w10 g17w10 g18w10 g19w10 g20w10 g21w10 c10w10 c11w10
                go_wp2_with fail
                (go_at_call 18; refine (addBar_sec2 HR.out _ _ gv (⟨y0, y1, y2, y3, y4⟩ : Br) (⟨q0, q1, q2, q3, q4⟩ : Br) _ Gc Mc1 Mc2 HEc1.out HEc2.out HGc.out HMc1.out HMc2.out (Hc2.out.below (by first | exact Below.refl _ _ | go_grown)) (HM.out.below (by first | assumption | go_grown)) HZY.out (HML.out.below (by first | assumption | go_grown))).mono ?_; rintro e_ w12 ⟨oc4, cc4, pc4, dc4, rfl, hst, hb⟩)
                have hsw12 := hb.size
                (try simp only [World.size_alloc, World.size_setCell] at hsw12)
                have zzw12 : w.heap.size < w12.heap.size := by omega
                have hPw12 : Below w11.heap.size w11 w12 := below_step (w := w11) (by first | exact Below.refl _ _ | go_grown) hb
                have zsw12 : w.heap.size < w12.heap.size := by omega
                have s0w12 : w12.cell? ⟨w.heap.size, 0, none⟩ = some (.slice oa ns ca) := (hPw12.cell (p := ⟨_, _, none⟩) zsw11).trans s0w11
                have s1w12 : w12.cell? ⟨w.heap.size, 1, none⟩ = some (.slice ob nb cb) := (hPw12.cell (p := ⟨_, _, none⟩) zsw11).trans s1w11
                have zmw12 : w.heap.size + 1 < w12.heap.size := by omega
                have m0w12 : w12.cell? ⟨w.heap.size + 1, 0, none⟩ = some (.slice om m.ng cm) := (hPw12.cell (p := ⟨_, _, none⟩) zmw11).trans m0w11
                have m1w12 : w12.cell? ⟨w.heap.size + 1, 1, none⟩ = some (.slice ot m.ns ct) := (hPw12.cell (p := ⟨_, _, none⟩) zmw11).trans m1w11
                have zgw12 : w.heap.size + 1 + 1 < w12.heap.size := by omega
                have g0w12 : w12.cell? ⟨w.heap.size + 1 + 1, 0, none⟩ = some (.string x0) := (hPw12.cell (p := ⟨_, _, none⟩) zgw11).trans g0w11
                have g1w12 : w12.cell? ⟨w.heap.size + 1 + 1, 1, none⟩ = some (.string x1) := (hPw12.cell (p := ⟨_, _, none⟩) zgw11).trans g1w11
                have g2w12 : w12.cell? ⟨w.heap.size + 1 + 1, 2, none⟩ = some (.int .i64 x2) := (hPw12.cell (p := ⟨_, _, none⟩) zgw11).trans g2w11
                have g3w12 : w12.cell? ⟨w.heap.size + 1 + 1, 3, none⟩ = some (.int .i64 x3) := (hPw12.cell (p := ⟨_, _, none⟩) zgw11).trans g3w11
                have g4w12 : w12.cell? ⟨w.heap.size + 1 + 1, 4, none⟩ = some (.int .i64 x4) := (hPw12.cell (p := ⟨_, _, none⟩) zgw11).trans g4w11
                have g5w12 : w12.cell? ⟨w.heap.size + 1 + 1, 5, none⟩ = some (.string x5) := (hPw12.cell (p := ⟨_, _, none⟩) zgw11).trans g5w11
                have g6w12 : w12.cell? ⟨w.heap.size + 1 + 1, 6, none⟩ = some (.string y0) := (hPw12.cell (p := ⟨_, _, none⟩) zgw11).trans g6w11
                have g7w12 : w12.cell? ⟨w.heap.size + 1 + 1, 7, none⟩ = some (.string y1) := (hPw12.cell (p := ⟨_, _, none⟩) zgw11).trans g7w11
                have g8w12 : w12.cell? ⟨w.heap.size + 1 + 1, 8, none⟩ = some (.string y2) := (hPw12.cell (p := ⟨_, _, none⟩) zgw11).trans g8w11
                have g9w12 : w12.cell? ⟨w.heap.size + 1 + 1, 9, none⟩ = some (.int .i64 y3) := (hPw12.cell (p := ⟨_, _, none⟩) zgw11).trans g9w11
                have g10w12 : w12.cell? ⟨w.heap.size + 1 + 1, 10, none⟩ = some (.string y4) := (hPw12.cell (p := ⟨_, _, none⟩) zgw11).trans g10w11
                have g11w12 : w12.cell? ⟨w.heap.size + 1 + 1, 11, none⟩ = some (.string p0) := (hPw12.cell (p := ⟨_, _, none⟩) zgw11).trans g11w11
                have g12w12 : w12.cell? ⟨w.heap.size + 1 + 1, 12, none⟩ = some (.string p1) := (hPw12.cell (p := ⟨_, _, none⟩) zgw11).trans g12w11
                have g13w12 : w12.cell? ⟨w.heap.size + 1 + 1, 13, none⟩ = some (.int .i64 p2) := (hPw12.cell (p := ⟨_, _, none⟩) zgw11).trans g13w11
                have g14w12 : w12.cell? ⟨w.heap.size + 1 + 1, 14, none⟩ = some (.int .i64 p3) := (hPw12.cell (p := ⟨_, _, none⟩) zgw11).trans g14w11
                have g15w12 : w12.cell? ⟨w.heap.size + 1 + 1, 15, none⟩ = some (.int .i64 p4) := (hPw12.cell (p := ⟨_, _, none⟩) zgw11).trans g15w11
                have g16w12 : w12.cell? ⟨w.heap.size + 1 + 1, 16, none⟩ = some (.string p5) := (hPw12.cell (p := ⟨_, _, none⟩) zgw11).trans g16w11
                have g17w12 : w12.cell? ⟨w.heap.size + 1 + 1, 17, none⟩ = some (.string q0) := (hPw12.cell (p := ⟨_, _, none⟩) zgw11).trans g17w11
                have g18w12 : w12.cell? ⟨w.heap.size + 1 + 1, 18, none⟩ = some (.string q1) := (hPw12.cell (p := ⟨_, _, none⟩) zgw11).trans g18w11
                have g19w12 : w12.cell? ⟨w.heap.size + 1 + 1, 19, none⟩ = some (.string q2) := (hPw12.cell (p := ⟨_, _, none⟩) zgw11).trans g19w11
                have g20w12 : w12.cell? ⟨w.heap.size + 1 + 1, 20, none⟩ = some (.int .i64 q3) := (hPw12.cell (p := ⟨_, _, none⟩) zgw11).trans g20w11
                have g21w12 : w12.cell? ⟨w.heap.size + 1 + 1, 21, none⟩ = some (.string q4) := (hPw12.cell (p := ⟨_, _, none⟩) zgw11).trans g21w11
                have zc1w12 : w9.heap.size < w12.heap.size := by omega
                have c10w12 : w12.cell? ⟨w9.heap.size, 0, none⟩ = some (.slice oc1 ns cc1) := (hPw12.cell (p := ⟨_, _, none⟩) zc1w11).trans c10w11
                have c11w12 : w12.cell? ⟨w9.heap.size, 1, none⟩ = some (.slice pc1 (nb + 1) dc1) := (hPw12.cell (p := ⟨_, _, none⟩) zc1w11).trans c11w11
                have zc2w12 : w10.heap.size < w12.heap.size := by omega
                have c20w12 : w12.cell? ⟨w10.heap.size, 0, none⟩ = some (.slice oc2 ns cc2) := (hPw12.cell (p := ⟨_, _, none⟩) zc2w11).trans c20w11
                have c21w12 : w12.cell? ⟨w10.heap.size, 1, none⟩ = some (.slice pc2 (nb + 1) dc2) := (hPw12.cell (p := ⟨_, _, none⟩) zc2w11).trans c21w11
                have zc3w12 : w11.heap.size < w12.heap.size := by omega
                have c30w12 : w12.cell? ⟨w11.heap.size, 0, none⟩ = some (.slice oc3 Mc1 cc3) := (hb.cell (p := ⟨_, _, none⟩) (by simp <;> omega)).trans (by simp [go_sem])
                have c31w12 : w12.cell? ⟨w11.heap.size, 1, none⟩ = some (.slice pc3 Mc2 dc3) := (hb.cell (p := ⟨_, _, none⟩) (by simp <;> omega)).trans (by simp [go_sem])
                replace Ha1 := Lib.hid (Ha1.out.below hPw12)
                replace Ha2 := Lib.hid (Ha2.out.below hPw12)
                replace Ha3 := Lib.hid (Ha3.out.below hPw12)
                replace Ha4 := Lib.hid (Ha4.out.below hPw12)
                replace Hc1 := Lib.hid (Hc1.out.below hPw12)
                replace Hc2 := Lib.hid (Hc2.out.below hPw12)
                replace Hc3 := Lib.hid (Hc3.out.below hPw12)
                have hBw12 : Below w.heap.size w w12 := below_step (w := w) (by first | assumption | go_grown) hb
                have Hc4 := Lib.hid hst
                clear hst
                clear hb hsw12 hPw12
                clear zsw11 zmw11 zgw11 zc1w11 zc2w11 s0w11 s1w11 m0w11 m1w11 g0w11 g1w11 g2w11 g3w11 g4w11 g5w11 g6w11 g7w11 g8w11 g9w11 g10w11 g11w11 g12w11 g13w11 g14w11 g15w11 g16w11 g17w11 g18w11 g19w11 g20w11 g21w11 c10w11 c11w11 c20w11 c21w11
                go_wp2_with fail
                (go_at_call 13; refine (rsame_self _ (Hc3.out.below (by first | exact Below.refl _ _ | go_grown)) (Hc4.out.below (by first | exact Below.refl _ _ | go_grown))).mono ?_; rintro e_ w13 ⟨rfl, hb⟩)
                have hsw13 := hb.size
                (try simp only [World.size_alloc, World.size_setCell] at hsw13)
                have zzw13 : w.heap.size < w13.heap.size := by omega
                have hPw13 : Below w12.heap.size w12 w13 := below_step (w := w12) (by first | exact Below.refl _ _ | go_grown) hb
                have zsw13 : w.heap.size < w13.heap.size := by omega
                have s0w13 : w13.cell? ⟨w.heap.size, 0, none⟩ = some (.slice oa ns ca) := (hPw13.cell (p := ⟨_, _, none⟩) zsw12).trans s0w12
                have s1w13 : w13.cell? ⟨w.heap.size, 1, none⟩ = some (.slice ob nb cb) := (hPw13.cell (p := ⟨_, _, none⟩) zsw12).trans s1w12
                have zmw13 : w.heap.size + 1 < w13.heap.size := by omega
                have m0w13 : w13.cell? ⟨w.heap.size + 1, 0, none⟩ = some (.slice om m.ng cm) := (hPw13.cell (p := ⟨_, _, none⟩) zmw12).trans m0w12
                have m1w13 : w13.cell? ⟨w.heap.size + 1, 1, none⟩ = some (.slice ot m.ns ct) := (hPw13.cell (p := ⟨_, _, none⟩) zmw12).trans m1w12
                have zgw13 : w.heap.size + 1 + 1 < w13.heap.size := by omega
                have g0w13 : w13.cell? ⟨w.heap.size + 1 + 1, 0, none⟩ = some (.string x0) := (hPw13.cell (p := ⟨_, _, none⟩) zgw12).trans g0w12
                have g1w13 : w13.cell? ⟨w.heap.size + 1 + 1, 1, none⟩ = some (.string x1) := (hPw13.cell (p := ⟨_, _, none⟩) zgw12).trans g1w12
                have g2w13 : w13.cell? ⟨w.heap.size + 1 + 1, 2, none⟩ = some (.int .i64 x2) := (hPw13.cell (p := ⟨_, _, none⟩) zgw12).trans g2w12
                have g3w13 : w13.cell? ⟨w.heap.size + 1 + 1, 3, none⟩ = some (.int .i64 x3) := (hPw13.cell (p := ⟨_, _, none⟩) zgw12).trans g3w12
                have g4w13 : w13.cell? ⟨w.heap.size + 1 + 1, 4, none⟩ = some (.int .i64 x4) := (hPw13.cell (p := ⟨_, _, none⟩) zgw12).trans g4w12
                have g5w13 : w13.cell? ⟨w.heap.size + 1 + 1, 5, none⟩ = some (.string x5) := (hPw13.cell (p := ⟨_, _, none⟩) zgw12).trans g5w12
                have g6w13 : w13.cell? ⟨w.heap.size + 1 + 1, 6, none⟩ = some (.string y0) := (hPw13.cell (p := ⟨_, _, none⟩) zgw12).trans g6w12
                have g7w13 : w13.cell? ⟨w.heap.size + 1 + 1, 7, none⟩ = some (.string y1) := (hPw13.cell (p := ⟨_, _, none⟩) zgw12).trans g7w12
                have g8w13 : w13.cell? ⟨w.heap.size + 1 + 1, 8, none⟩ = some (.string y2) := (hPw13.cell (p := ⟨_, _, none⟩) zgw12).trans g8w12
                have g9w13 : w13.cell? ⟨w.heap.size + 1 + 1, 9, none⟩ = some (.int .i64 y3) := (hPw13.cell (p := ⟨_, _, none⟩) zgw12).trans g9w12
                have g10w13 : w13.cell? ⟨w.heap.size + 1 + 1, 10, none⟩ = some (.string y4) := (hPw13.cell (p := ⟨_, _, none⟩) zgw12).trans g10w12
                have g11w13 : w13.cell? ⟨w.heap.size + 1 + 1, 11, none⟩ = some (.string p0) := (hPw13.cell (p := ⟨_, _, none⟩) zgw12).trans g11w12
                have g12w13 : w13.cell? ⟨w.heap.size + 1 + 1, 12, none⟩ = some (.string p1) := (hPw13.cell (p := ⟨_, _, none⟩) zgw12).trans g12w12
                have g13w13 : w13.cell? ⟨w.heap.size + 1 + 1, 13, none⟩ = some (.int .i64 p2) := (hPw13.cell (p := ⟨_, _, none⟩) zgw12).trans g13w12
                have g14w13 : w13.cell? ⟨w.heap.size + 1 + 1, 14, none⟩ = some (.int .i64 p3) := (hPw13.cell (p := ⟨_, _, none⟩) zgw12).trans g14w12
                have g15w13 : w13.cell? ⟨w.heap.size + 1 + 1, 15, none⟩ = some (.int .i64 p4) := (hPw13.cell (p := ⟨_, _, none⟩) zgw12).trans g15w12
                have g16w13 : w13.cell? ⟨w.heap.size + 1 + 1, 16, none⟩ = some (.string p5) := (hPw13.cell (p := ⟨_, _, none⟩) zgw12).trans g16w12
                have g17w13 : w13.cell? ⟨w.heap.size + 1 + 1, 17, none⟩ = some (.string q0) := (hPw13.cell (p := ⟨_, _, none⟩) zgw12).trans g17w12
                have g18w13 : w13.cell? ⟨w.heap.size + 1 + 1, 18, none⟩ = some (.string q1) := (hPw13.cell (p := ⟨_, _, none⟩) zgw12).trans g18w12
                have g19w13 : w13.cell? ⟨w.heap.size + 1 + 1, 19, none⟩ = some (.string q2) := (hPw13.cell (p := ⟨_, _, none⟩) zgw12).trans g19w12
                have g20w13 : w13.cell? ⟨w.heap.size + 1 + 1, 20, none⟩ = some (.int .i64 q3) := (hPw13.cell (p := ⟨_, _, none⟩) zgw12).trans g20w12
                have g21w13 : w13.cell? ⟨w.heap.size + 1 + 1, 21, none⟩ = some (.string q4) := (hPw13.cell (p := ⟨_, _, none⟩) zgw12).trans g21w12
                have zc1w13 : w9.heap.size < w13.heap.size := by omega
                have c10w13 : w13.cell? ⟨w9.heap.size, 0, none⟩ = some (.slice oc1 ns cc1) := (hPw13.cell (p := ⟨_, _, none⟩) zc1w12).trans c10w12
                have c11w13 : w13.cell? ⟨w9.heap.size, 1, none⟩ = some (.slice pc1 (nb + 1) dc1) := (hPw13.cell (p := ⟨_, _, none⟩) zc1w12).trans c11w12
                have zc2w13 : w10.heap.size < w13.heap.size := by omega
                have c20w13 : w13.cell? ⟨w10.heap.size, 0, none⟩ = some (.slice oc2 ns cc2) := (hPw13.cell (p := ⟨_, _, none⟩) zc2w12).trans c20w12
                have c21w13 : w13.cell? ⟨w10.heap.size, 1, none⟩ = some (.slice pc2 (nb + 1) dc2) := (hPw13.cell (p := ⟨_, _, none⟩) zc2w12).trans c21w12
                have zc3w13 : w11.heap.size < w13.heap.size := by omega
                have c30w13 : w13.cell? ⟨w11.heap.size, 0, none⟩ = some (.slice oc3 Mc1 cc3) := (hPw13.cell (p := ⟨_, _, none⟩) zc3w12).trans c30w12
                have c31w13 : w13.cell? ⟨w11.heap.size, 1, none⟩ = some (.slice pc3 Mc2 dc3) := (hPw13.cell (p := ⟨_, _, none⟩) zc3w12).trans c31w12
                have zc4w13 : w12.heap.size < w13.heap.size := by omega
                have c40w13 : w13.cell? ⟨w12.heap.size, 0, none⟩ = some (.slice oc4 Mc1 cc4) := (hb.cell (p := ⟨_, _, none⟩) (by simp <;> omega)).trans (by simp [go_sem])
                have c41w13 : w13.cell? ⟨w12.heap.size, 1, none⟩ = some (.slice pc4 Mc2 dc4) := (hb.cell (p := ⟨_, _, none⟩) (by simp <;> omega)).trans (by simp [go_sem])
                replace Ha1 := Lib.hid (Ha1.out.below hPw13)
                replace Ha2 := Lib.hid (Ha2.out.below hPw13)
                replace Ha3 := Lib.hid (Ha3.out.below hPw13)
                replace Ha4 := Lib.hid (Ha4.out.below hPw13)
                replace Hc1 := Lib.hid (Hc1.out.below hPw13)
                replace Hc2 := Lib.hid (Hc2.out.below hPw13)
                replace Hc3 := Lib.hid (Hc3.out.below hPw13)
                replace Hc4 := Lib.hid (Hc4.out.below hPw13)
                have hBw13 : Below w.heap.size w w13 := below_step (w := w) (by first | assumption | go_grown) hb
                clear hb hsw13 hPw13
                clear zsw12 zmw12 zgw12 zc1w12 zc2w12 zc3w12 s0w12 s1w12 m0w12 m1w12 g0w12 g1w12 g2w12 g3w12 g4w12 g5w12 g6w12 g7w12 g8w12 g9w12 g10w12 g11w12 g12w12 g13w12 g14w12 g15w12 g16w12 g17w12 g18w12 g19w12 g20w12 g21w12 c10w12 c11w12 c20w12 c21w12 c30w12 c31w12
                clear zc1w13 c10w13 c11w13
                clear zc2w13 c20w13 c21w13
                clear zc3w13 c30w13 c31w13
                clear zc4w13 c40w13 c41w13
                go_wp2_with fail
                (go_at_call 9; refine (awake_any _ (HML.out.below (by first | assumption | go_grown))).mono ?_; rintro e_ w14 ⟨rfl, hb⟩)
                have hsw14 := hb.size
                (try simp only [World.size_alloc, World.size_setCell] at hsw14)
                have zzw14 : w.heap.size < w14.heap.size := by omega
                have hPw14 : Below w13.heap.size w13 w14 := below_step (w := w13) (by first | exact Below.refl _ _ | go_grown) hb
                have zsw14 : w.heap.size < w14.heap.size := by omega
                have s0w14 : w14.cell? ⟨w.heap.size, 0, none⟩ = some (.slice oa ns ca) := (hPw14.cell (p := ⟨_, _, none⟩) zsw13).trans s0w13
                have s1w14 : w14.cell? ⟨w.heap.size, 1, none⟩ = some (.slice ob nb cb) := (hPw14.cell (p := ⟨_, _, none⟩) zsw13).trans s1w13
                have zmw14 : w.heap.size + 1 < w14.heap.size := by omega
                have m0w14 : w14.cell? ⟨w.heap.size + 1, 0, none⟩ = some (.slice om m.ng cm) := (hPw14.cell (p := ⟨_, _, none⟩) zmw13).trans m0w13
                have m1w14 : w14.cell? ⟨w.heap.size + 1, 1, none⟩ = some (.slice ot m.ns ct) := (hPw14.cell (p := ⟨_, _, none⟩) zmw13).trans m1w13
                have zgw14 : w.heap.size + 1 + 1 < w14.heap.size := by omega
                have g0w14 : w14.cell? ⟨w.heap.size + 1 + 1, 0, none⟩ = some (.string x0) := (hPw14.cell (p := ⟨_, _, none⟩) zgw13).trans g0w13
                have g1w14 : w14.cell? ⟨w.heap.size + 1 + 1, 1, none⟩ = some (.string x1) := (hPw14.cell (p := ⟨_, _, none⟩) zgw13).trans g1w13
                have g2w14 : w14.cell? ⟨w.heap.size + 1 + 1, 2, none⟩ = some (.int .i64 x2) := (hPw14.cell (p := ⟨_, _, none⟩) zgw13).trans g2w13
                have g3w14 : w14.cell? ⟨w.heap.size + 1 + 1, 3, none⟩ = some (.int .i64 x3) := (hPw14.cell (p := ⟨_, _, none⟩) zgw13).trans g3w13
                have g4w14 : w14.cell? ⟨w.heap.size + 1 + 1, 4, none⟩ = some (.int .i64 x4) := (hPw14.cell (p := ⟨_, _, none⟩) zgw13).trans g4w13
                have g5w14 : w14.cell? ⟨w.heap.size + 1 + 1, 5, none⟩ = some (.string x5) := (hPw14.cell (p := ⟨_, _, none⟩) zgw13).trans g5w13
                have g6w14 : w14.cell? ⟨w.heap.size + 1 + 1, 6, none⟩ = some (.string y0) := (hPw14.cell (p := ⟨_, _, none⟩) zgw13).trans g6w13
                have g7w14 : w14.cell? ⟨w.heap.size + 1 + 1, 7, none⟩ = some (.string y1) := (hPw14.cell (p := ⟨_, _, none⟩) zgw13).trans g7w13
                have g8w14 : w14.cell? ⟨w.heap.size + 1 + 1, 8, none⟩ = some (.string y2) := (hPw14.cell (p := ⟨_, _, none⟩) zgw13).trans g8w13
                have g9w14 : w14.cell? ⟨w.heap.size + 1 + 1, 9, none⟩ = some (.int .i64 y3) := (hPw14.cell (p := ⟨_, _, none⟩) zgw13).trans g9w13
                have g10w14 : w14.cell? ⟨w.heap.size + 1 + 1, 10, none⟩ = some (.string y4) := (hPw14.cell (p := ⟨_, _, none⟩) zgw13).trans g10w13
                have g11w14 : w14.cell? ⟨w.heap.size + 1 + 1, 11, none⟩ = some (.string p0) := (hPw14.cell (p := ⟨_, _, none⟩) zgw13).trans g11w13
                have g12w14 : w14.cell? ⟨w.heap.size + 1 + 1, 12, none⟩ = some (.string p1) := (hPw14.cell (p := ⟨_, _, none⟩) zgw13).trans g12w13
                have g13w14 : w14.cell? ⟨w.heap.size + 1 + 1, 13, none⟩ = some (.int .i64 p2) := (hPw14.cell (p := ⟨_, _, none⟩) zgw13).trans g13w13
                have g14w14 : w14.cell? ⟨w.heap.size + 1 + 1, 14, none⟩ = some (.int .i64 p3) := (hPw14.cell (p := ⟨_, _, none⟩) zgw13).trans g14w13
                have g15w14 : w14.cell? ⟨w.heap.size + 1 + 1, 15, none⟩ = some (.int .i64 p4) := (hPw14.cell (p := ⟨_, _, none⟩) zgw13).trans g15w13
                have g16w14 : w14.cell? ⟨w.heap.size + 1 + 1, 16, none⟩ = some (.string p5) := (hPw14.cell (p := ⟨_, _, none⟩) zgw13).trans g16w13
                have g17w14 : w14.cell? ⟨w.heap.size + 1 + 1, 17, none⟩ = some (.string q0) := (hPw14.cell (p := ⟨_, _, none⟩) zgw13).trans g17w13
                have g18w14 : w14.cell? ⟨w.heap.size + 1 + 1, 18, none⟩ = some (.string q1) := (hPw14.cell (p := ⟨_, _, none⟩) zgw13).trans g18w13
                have g19w14 : w14.cell? ⟨w.heap.size + 1 + 1, 19, none⟩ = some (.string q2) := (hPw14.cell (p := ⟨_, _, none⟩) zgw13).trans g19w13
                have g20w14 : w14.cell? ⟨w.heap.size + 1 + 1, 20, none⟩ = some (.int .i64 q3) := (hPw14.cell (p := ⟨_, _, none⟩) zgw13).trans g20w13
                have g21w14 : w14.cell? ⟨w.heap.size + 1 + 1, 21, none⟩ = some (.string q4) := (hPw14.cell (p := ⟨_, _, none⟩) zgw13).trans g21w13
                replace Ha1 := Lib.hid (Ha1.out.below hPw14)
                replace Ha2 := Lib.hid (Ha2.out.below hPw14)
                replace Ha3 := Lib.hid (Ha3.out.below hPw14)
                replace Ha4 := Lib.hid (Ha4.out.below hPw14)
                replace Hc1 := Lib.hid (Hc1.out.below hPw14)
                replace Hc2 := Lib.hid (Hc2.out.below hPw14)
                replace Hc3 := Lib.hid (Hc3.out.below hPw14)
                replace Hc4 := Lib.hid (Hc4.out.below hPw14)
                have hBw14 : Below w.heap.size w w14 := below_step (w := w) (by first | assumption | go_grown) hb
                clear hb hsw14 hPw14
                clear zsw13 zmw13 zgw13 s0w13 s1w13 m0w13 m1w13 g0w13 g1w13 g2w13 g3w13 g4w13 g5w13 g6w13 g7w13 g8w13 g9w13 g10w13 g11w13 g12w13 g13w13 g14w13 g15w13 g16w13 g17w13 g18w13 g19w13 g20w13 g21w13
                go_wp2
                go_returns
                exact ⟨rfl, by assumption⟩
              · have kc2 : (Ec2 == 0) = false := by simpa using hc2
                clear hc2
                go_wp2_with fail
                (go_at_call 9; refine (awake_any _ (HML.out.below (by first | assumption | go_grown))).mono ?_; rintro e_ w11 ⟨rfl, hb⟩)
                have hsw11 := hb.size
                (try simp only [World.size_alloc, World.size_setCell] at hsw11)
                have zzw11 : w.heap.size < w11.heap.size := by omega
                have hPw11 : Below w10.heap.size w10 w11 := below_step (w := w10) (by first | exact Below.refl _ _ | go_grown) hb
                have zsw11 : w.heap.size < w11.heap.size := by omega
                have s0w11 : w11.cell? ⟨w.heap.size, 0, none⟩ = some (.slice oa ns ca) := (hPw11.cell (p := ⟨_, _, none⟩) zsw10).trans s0w10
                have s1w11 : w11.cell? ⟨w.heap.size, 1, none⟩ = some (.slice ob nb cb) := (hPw11.cell (p := ⟨_, _, none⟩) zsw10).trans s1w10
                have zmw11 : w.heap.size + 1 < w11.heap.size := by omega
                have m0w11 : w11.cell? ⟨w.heap.size + 1, 0, none⟩ = some (.slice om m.ng cm) := (hPw11.cell (p := ⟨_, _, none⟩) zmw10).trans m0w10
                have m1w11 : w11.cell? ⟨w.heap.size + 1, 1, none⟩ = some (.slice ot m.ns ct) := (hPw11.cell (p := ⟨_, _, none⟩) zmw10).trans m1w10
                have zgw11 : w.heap.size + 1 + 1 < w11.heap.size := by omega
                have g0w11 : w11.cell? ⟨w.heap.size + 1 + 1, 0, none⟩ = some (.string x0) := (hPw11.cell (p := ⟨_, _, none⟩) zgw10).trans g0w10
                have g1w11 : w11.cell? ⟨w.heap.size + 1 + 1, 1, none⟩ = some (.string x1) := (hPw11.cell (p := ⟨_, _, none⟩) zgw10).trans g1w10
                have g2w11 : w11.cell? ⟨w.heap.size + 1 + 1, 2, none⟩ = some (.int .i64 x2) := (hPw11.cell (p := ⟨_, _, none⟩) zgw10).trans g2w10
                have g3w11 : w11.cell? ⟨w.heap.size + 1 + 1, 3, none⟩ = some (.int .i64 x3) := (hPw11.cell (p := ⟨_, _, none⟩) zgw10).trans g3w10
                have g4w11 : w11.cell? ⟨w.heap.size + 1 + 1, 4, none⟩ = some (.int .i64 x4) := (hPw11.cell (p := ⟨_, _, none⟩) zgw10).trans g4w10
                have g5w11 : w11.cell? ⟨w.heap.size + 1 + 1, 5, none⟩ = some (.string x5) := (hPw11.cell (p := ⟨_, _, none⟩) zgw10).trans g5w10
                have g6w11 : w11.cell? ⟨w.heap.size + 1 + 1, 6, none⟩ = some (.string y0) := (hPw11.cell (p := ⟨_, _, none⟩) zgw10).trans g6w10
                have g7w11 : w11.cell? ⟨w.heap.size + 1 + 1, 7, none⟩ = some (.string y1) := (hPw11.cell (p := ⟨_, _, none⟩) zgw10).trans g7w10
                have g8w11 : w11.cell? ⟨w.heap.size + 1 + 1, 8, none⟩ = some (.string y2) := (hPw11.cell (p := ⟨_, _, none⟩) zgw10).trans g8w10
                have g9w11 : w11.cell? ⟨w.heap.size + 1 + 1, 9, none⟩ = some (.int .i64 y3) := (hPw11.cell (p := ⟨_, _, none⟩) zgw10).trans g9w10
                have g10w11 : w11.cell? ⟨w.heap.size + 1 + 1, 10, none⟩ = some (.string y4) := (hPw11.cell (p := ⟨_, _, none⟩) zgw10).trans g10w10
                have g11w11 : w11.cell? ⟨w.heap.size + 1 + 1, 11, none⟩ = some (.string p0) := (hPw11.cell (p := ⟨_, _, none⟩) zgw10).trans g11w10
                have g12w11 : w11.cell? ⟨w.heap.size + 1 + 1, 12, none⟩ = some (.string p1) := (hPw11.cell (p := ⟨_, _, none⟩) zgw10).trans g12w10
                have g13w11 : w11.cell? ⟨w.heap.size + 1 + 1, 13, none⟩ = some (.int .i64 p2) := (hPw11.cell (p := ⟨_, _, none⟩) zgw10).trans g13w10
                have g14w11 : w11.cell? ⟨w.heap.size + 1 + 1, 14, none⟩ = some (.int .i64 p3) := (hPw11.cell (p := ⟨_, _, none⟩) zgw10).trans g14w10
                have g15w11 : w11.cell? ⟨w.heap.size + 1 + 1, 15, none⟩ = some (.int .i64 p4) := (hPw11.cell (p := ⟨_, _, none⟩) zgw10).trans g15w10
                have g16w11 : w11.cell? ⟨w.heap.size + 1 + 1, 16, none⟩ = some (.string p5) := (hPw11.cell (p := ⟨_, _, none⟩) zgw10).trans g16w10
                have g17w11 : w11.cell? ⟨w.heap.size + 1 + 1, 17, none⟩ = some (.string q0) := (hPw11.cell (p := ⟨_, _, none⟩) zgw10).trans g17w10
                have g18w11 : w11.cell? ⟨w.heap.size + 1 + 1, 18, none⟩ = some (.string q1) := (hPw11.cell (p := ⟨_, _, none⟩) zgw10).trans g18w10
                have g19w11 : w11.cell? ⟨w.heap.size + 1 + 1, 19, none⟩ = some (.string q2) := (hPw11.cell (p := ⟨_, _, none⟩) zgw10).trans g19w10
                have g20w11 : w11.cell? ⟨w.heap.size + 1 + 1, 20, none⟩ = some (.int .i64 q3) := (hPw11.cell (p := ⟨_, _, none⟩) zgw10).trans g20w10
                have g21w11 : w11.cell? ⟨w.heap.size + 1 + 1, 21, none⟩ = some (.string q4) := (hPw11.cell (p := ⟨_, _, none⟩) zgw10).trans g21w10
                have zc1w11 : w9.heap.size < w11.heap.size := by omega
                have c10w11 : w11.cell? ⟨w9.heap.size, 0, none⟩ = some (.slice oc1 ns cc1) := (hPw11.cell (p := ⟨_, _, none⟩) zc1w10).trans c10w10
                have c11w11 : w11.cell? ⟨w9.heap.size, 1, none⟩ = some (.slice pc1 (nb + 1) dc1) := (hPw11.cell (p := ⟨_, _, none⟩) zc1w10).trans c11w10
                have zc2w11 : w10.heap.size < w11.heap.size := by omega
                have c20w11 : w11.cell? ⟨w10.heap.size, 0, none⟩ = some (.slice oc2 Nc21 cc2) := (hb.cell (p := ⟨_, _, none⟩) (by simp <;> omega)).trans (by simp [go_sem])
                have c21w11 : w11.cell? ⟨w10.heap.size, 1, none⟩ = some (.slice pc2 Nc22 dc2) := (hb.cell (p := ⟨_, _, none⟩) (by simp <;> omega)).trans (by simp [go_sem])
                replace Ha1 := Lib.hid (Ha1.out.below hPw11)
                replace Ha2 := Lib.hid (Ha2.out.below hPw11)
                replace Ha3 := Lib.hid (Ha3.out.below hPw11)
                replace Ha4 := Lib.hid (Ha4.out.below hPw11)
                replace Hc1 := Lib.hid (Hc1.out.below hPw11)
                replace Hc2 := Lib.hid (Hc2.out.below hPw11)
                have hBw11 : Below w.heap.size w w11 := below_step (w := w) (by first | assumption | go_grown) hb
                clear hb hsw11 hPw11
                clear zsw10 zmw10 zgw10 zc1w10 s0w10 s1w10 m0w10 m1w10 g0w10 g1w10 g2w10 g3w10 g4w10 g5w10 g6w10 g7w10 g8w10 g9w10 g10w10 g11w10 g12w10 g13w10 g14w10 g15w10 g16w10 g17w10 g18w10 g19w10 g20w10 g21w10 c10w10 c11w10
                go_wp2
                go_returns
                exact ⟨rfl, by assumption⟩
            · have kc1 : (Ec1 == 0) = false := by simpa using hc1
              clear hc1
              go_wp2_with fail
              (go_at_call 9; refine (awake_any _ (HML.out.below (by first | assumption | go_grown))).mono ?_; rintro e_ w11 ⟨rfl, hb⟩)
              have hsw11 := hb.size
              (try simp only [World.size_alloc, World.size_setCell] at hsw11)
              have zzw11 : w.heap.size < w11.heap.size := by omega
              have hPw11 : Below w10.heap.size w10 w11 := below_step (w := w10) (by first | exact Below.refl _ _ | go_grown) hb
              have zsw11 : w.heap.size < w11.heap.size := by omega
              have s0w11 : w11.cell? ⟨w.heap.size, 0, none⟩ = some (.slice oa ns ca) := (hPw11.cell (p := ⟨_, _, none⟩) zsw10).trans s0w10
              have s1w11 : w11.cell? ⟨w.heap.size, 1, none⟩ = some (.slice ob nb cb) := (hPw11.cell (p := ⟨_, _, none⟩) zsw10).trans s1w10
              have zmw11 : w.heap.size + 1 < w11.heap.size := by omega
              have m0w11 : w11.cell? ⟨w.heap.size + 1, 0, none⟩ = some (.slice om m.ng cm) := (hPw11.cell (p := ⟨_, _, none⟩) zmw10).trans m0w10
              have m1w11 : w11.cell? ⟨w.heap.size + 1, 1, none⟩ = some (.slice ot m.ns ct) := (hPw11.cell (p := ⟨_, _, none⟩) zmw10).trans m1w10
              have zgw11 : w.heap.size + 1 + 1 < w11.heap.size := by omega
              have g0w11 : w11.cell? ⟨w.heap.size + 1 + 1, 0, none⟩ = some (.string x0) := (hPw11.cell (p := ⟨_, _, none⟩) zgw10).trans g0w10
              have g1w11 : w11.cell? ⟨w.heap.size + 1 + 1, 1, none⟩ = some (.string x1) := (hPw11.cell (p := ⟨_, _, none⟩) zgw10).trans g1w10
              have g2w11 : w11.cell? ⟨w.heap.size + 1 + 1, 2, none⟩ = some (.int .i64 x2) := (hPw11.cell (p := ⟨_, _, none⟩) zgw10).trans g2w10
              have g3w11 : w11.cell? ⟨w.heap.size + 1 + 1, 3, none⟩ = some (.int .i64 x3) := (hPw11.cell (p := ⟨_, _, none⟩) zgw10).trans g3w10
              have g4w11 : w11.cell? ⟨w.heap.size + 1 + 1, 4, none⟩ = some (.int .i64 x4) := (hPw11.cell (p := ⟨_, _, none⟩) zgw10).trans g4w10
              have g5w11 : w11.cell? ⟨w.heap.size + 1 + 1, 5, none⟩ = some (.string x5) := (hPw11.cell (p := ⟨_, _, none⟩) zgw10).trans g5w10
              have g6w11 : w11.cell? ⟨w.heap.size + 1 + 1, 6, none⟩ = some (.string y0) := (hPw11.cell (p := ⟨_, _, none⟩) zgw10).trans g6w10
              have g7w11 : w11.cell? ⟨w.heap.size + 1 + 1, 7, none⟩ = some (.string y1) := (hPw11.cell (p := ⟨_, _, none⟩) zgw10).trans g7w10
              have g8w11 : w11.cell? ⟨w.heap.size + 1 + 1, 8, none⟩ = some (.string y2) := (hPw11.cell (p := ⟨_, _, none⟩) zgw10).trans g8w10
              have g9w11 : w11.cell? ⟨w.heap.size + 1 + 1, 9, none⟩ = some (.int .i64 y3) := (hPw11.cell (p := ⟨_, _, none⟩) zgw10).trans g9w10
              have g10w11 : w11.cell? ⟨w.heap.size + 1 + 1, 10, none⟩ = some (.string y4) := (hPw11.cell (p := ⟨_, _, none⟩) zgw10).trans g10w10
              have g11w11 : w11.cell? ⟨w.heap.size + 1 + 1, 11, none⟩ = some (.string p0) := (hPw11.cell (p := ⟨_, _, none⟩) zgw10).trans g11w10
              have g12w11 : w11.cell? ⟨w.heap.size + 1 + 1, 12, none⟩ = some (.string p1) := (hPw11.cell (p := ⟨_, _, none⟩) zgw10).trans g12w10
              have g13w11 : w11.cell? ⟨w.heap.size + 1 + 1, 13, none⟩ = some (.int .i64 p2) := (hPw11.cell (p := ⟨_, _, none⟩) zgw10).trans g13w10
              have g14w11 : w11.cell? ⟨w.heap.size + 1 + 1, 14, none⟩ = some (.int .i64 p3) := (hPw11.cell (p := ⟨_, _, none⟩) zgw10).trans g14w10
              have g15w11 : w11.cell? ⟨w.heap.size + 1 + 1, 15, none⟩ = some (.int .i64 p4) := (hPw11.cell (p := ⟨_, _, none⟩) zgw10).trans g15w10
              have g16w11 : w11.cell? ⟨w.heap.size + 1 + 1, 16, none⟩ = some (.string p5) := (hPw11.cell (p := ⟨_, _, none⟩) zgw10).trans g16w10
              have g17w11 : w11.cell? ⟨w.heap.size + 1 + 1, 17, none⟩ = some (.string q0) := (hPw11.cell (p := ⟨_, _, none⟩) zgw10).trans g17w10
              have g18w11 : w11.cell? ⟨w.heap.size + 1 + 1, 18, none⟩ = some (.string q1) := (hPw11.cell (p := ⟨_, _, none⟩) zgw10).trans g18w10
              have g19w11 : w11.cell? ⟨w.heap.size + 1 + 1, 19, none⟩ = some (.string q2) := (hPw11.cell (p := ⟨_, _, none⟩) zgw10).trans g19w10
              have g20w11 : w11.cell? ⟨w.heap.size + 1 + 1, 20, none⟩ = some (.int .i64 q3) := (hPw11.cell (p := ⟨_, _, none⟩) zgw10).trans g20w10
              have g21w11 : w11.cell? ⟨w.heap.size + 1 + 1, 21, none⟩ = some (.string q4) := (hPw11.cell (p := ⟨_, _, none⟩) zgw10).trans g21w10
              have zc1w11 : w9.heap.size < w11.heap.size := by omega
              have c10w11 : w11.cell? ⟨w9.heap.size, 0, none⟩ = some (.slice oc1 Nc11 cc1) := (hPw11.cell (p := ⟨_, _, none⟩) zc1w10).trans c10w10
              have c11w11 : w11.cell? ⟨w9.heap.size, 1, none⟩ = some (.slice pc1 Nc12 dc1) := (hPw11.cell (p := ⟨_, _, none⟩) zc1w10).trans c11w10
              have zc2w11 : w10.heap.size < w11.heap.size := by omega
              have c20w11 : w11.cell? ⟨w10.heap.size, 0, none⟩ = some (.slice oc2 Nc21 cc2) := (hb.cell (p := ⟨_, _, none⟩) (by simp <;> omega)).trans (by simp [go_sem])
              have c21w11 : w11.cell? ⟨w10.heap.size, 1, none⟩ = some (.slice pc2 Nc22 dc2) := (hb.cell (p := ⟨_, _, none⟩) (by simp <;> omega)).trans (by simp [go_sem])
              replace Ha1 := Lib.hid (Ha1.out.below hPw11)
              replace Ha2 := Lib.hid (Ha2.out.below hPw11)
              replace Ha3 := Lib.hid (Ha3.out.below hPw11)
              replace Ha4 := Lib.hid (Ha4.out.below hPw11)
              replace Hc1 := Lib.hid (Hc1.out.below hPw11)
              replace Hc2 := Lib.hid (Hc2.out.below hPw11)
              have hBw11 : Below w.heap.size w w11 := below_step (w := w) (by first | assumption | go_grown) hb
              clear hb hsw11 hPw11
              clear zsw10 zmw10 zgw10 zc1w10 s0w10 s1w10 m0w10 m1w10 g0w10 g1w10 g2w10 g3w10 g4w10 g5w10 g6w10 g7w10 g8w10 g9w10 g10w10 g11w10 g12w10 g13w10 g14w10 g15w10 g16w10 g17w10 g18w10 g19w10 g20w10 g21w10 c10w10 c11w10
              go_wp2
              go_returns
              exact ⟨rfl, by assumption⟩
          · have ka2 : (Ea2 == 0) = false := by simpa using ha2
            clear ha2
            obtain ⟨Ec1, hEc1⟩ : ∃ E, addS (barE m (⟨y0, y1, y2, y3, y4⟩ : Br)) (addE Br.id eb nb (⟨y0, y1, y2, y3, y4⟩ : Br)) = E := ⟨_, rfl⟩
            obtain ⟨Nc11, hNc11⟩ : ∃ N, (if Ec1 = 0 then ns else 0) = N := ⟨_, rfl⟩
            have HNc11 := Lib.hid hNc11
            clear hNc11
            obtain ⟨Nc12, hNc12⟩ : ∃ N, (if Ec1 = 0 then nb + 1 else 0) = N := ⟨_, rfl⟩
            have HNc12 := Lib.hid hNc12
            clear hNc12
            have HEc1 := Lib.hid hEc1
            clear hEc1
            obtain ⟨Ec2, hEc2⟩ : ∃ E, addS (barE m (⟨q0, q1, q2, q3, q4⟩ : Br)) (addE Br.id eb nb (⟨q0, q1, q2, q3, q4⟩ : Br)) = E := ⟨_, rfl⟩
            obtain ⟨Nc21, hNc21⟩ : ∃ N, (if Ec2 = 0 then ns else 0) = N := ⟨_, rfl⟩
            have HNc21 := Lib.hid hNc21
            clear hNc21
            obtain ⟨Nc22, hNc22⟩ : ∃ N, (if Ec2 = 0 then nb + 1 else 0) = N := ⟨_, rfl⟩
            have HNc22 := Lib.hid hNc22
            clear hNc22
            have HEc2 := Lib.hid hEc2
            clear hEc2
            go_wp2_with fail
            (go_at_call 18; refine (addBar_gen HR.out _ _ gv (⟨y0, y1, y2, y3, y4⟩ : Br) _ Ec1 Nc11 Nc12 HEc1.out HNc11.out HNc12.out (HST.out.below (by first | assumption | go_grown)) (HM.out.below (by first | assumption | go_grown)) HZY.out (HML.out.below (by first | assumption | go_grown))).mono ?_; rintro e_ w6 ⟨oc1, cc1, pc1, dc1, rfl, hst, hb⟩)
            have hsw6 := hb.size
            (try simp only [World.size_alloc, World.size_setCell] at hsw6)
            have zzw6 : w.heap.size < w6.heap.size := by omega
            have hPw6 : Below w5.heap.size w5 w6 := below_step (w := w5) (by first | exact Below.refl _ _ | go_grown) hb
            have zsw6 : w.heap.size < w6.heap.size := by omega
            have s0w6 : w6.cell? ⟨w.heap.size, 0, none⟩ = some (.slice oa ns ca) := (hPw6.cell (p := ⟨_, _, none⟩) zsw5).trans s0w5
            have s1w6 : w6.cell? ⟨w.heap.size, 1, none⟩ = some (.slice ob nb cb) := (hPw6.cell (p := ⟨_, _, none⟩) zsw5).trans s1w5
            have zmw6 : w.heap.size + 1 < w6.heap.size := by omega
            have m0w6 : w6.cell? ⟨w.heap.size + 1, 0, none⟩ = some (.slice om m.ng cm) := (hPw6.cell (p := ⟨_, _, none⟩) zmw5).trans m0w5
            have m1w6 : w6.cell? ⟨w.heap.size + 1, 1, none⟩ = some (.slice ot m.ns ct) := (hPw6.cell (p := ⟨_, _, none⟩) zmw5).trans m1w5
            have zgw6 : w.heap.size + 1 + 1 < w6.heap.size := by omega
            have g0w6 : w6.cell? ⟨w.heap.size + 1 + 1, 0, none⟩ = some (.string x0) := (hPw6.cell (p := ⟨_, _, none⟩) zgw5).trans g0w5
            have g1w6 : w6.cell? ⟨w.heap.size + 1 + 1, 1, none⟩ = some (.string x1) := (hPw6.cell (p := ⟨_, _, none⟩) zgw5).trans g1w5
            have g2w6 : w6.cell? ⟨w.heap.size + 1 + 1, 2, none⟩ = some (.int .i64 x2) := (hPw6.cell (p := ⟨_, _, none⟩) zgw5).trans g2w5
            have g3w6 : w6.cell? ⟨w.heap.size + 1 + 1, 3, none⟩ = some (.int .i64 x3) := (hPw6.cell (p := ⟨_, _, none⟩) zgw5).trans g3w5
            have g4w6 : w6.cell? ⟨w.heap.size + 1 + 1, 4, none⟩ = some (.int .i64 x4) := (hPw6.cell (p := ⟨_, _, none⟩) zgw5).trans g4w5
            have g5w6 : w6.cell? ⟨w.heap.size + 1 + 1, 5, none⟩ = some (.string x5) := (hPw6.cell (p := ⟨_, _, none⟩) zgw5).trans g5w5
            have g6w6 : w6.cell? ⟨w.heap.size + 1 + 1, 6, none⟩ = some (.string y0) := (hPw6.cell (p := ⟨_, _, none⟩) zgw5).trans g6w5
            have g7w6 : w6.cell? ⟨w.heap.size + 1 + 1, 7, none⟩ = some (.string y1) := (hPw6.cell (p := ⟨_, _, none⟩) zgw5).trans g7w5
            have g8w6 : w6.cell? ⟨w.heap.size + 1 + 1, 8, none⟩ = some (.string y2) := (hPw6.cell (p := ⟨_, _, none⟩) zgw5).trans g8w5
            have g9w6 : w6.cell? ⟨w.heap.size + 1 + 1, 9, none⟩ = some (.int .i64 y3) := (hPw6.cell (p := ⟨_, _, none⟩) zgw5).trans g9w5
            have g10w6 : w6.cell? ⟨w.heap.size + 1 + 1, 10, none⟩ = some (.string y4) := (hPw6.cell (p := ⟨_, _, none⟩) zgw5).trans g10w5
            have g11w6 : w6.cell? ⟨w.heap.size + 1 + 1, 11, none⟩ = some (.string p0) := (hPw6.cell (p := ⟨_, _, none⟩) zgw5).trans g11w5
            have g12w6 : w6.cell? ⟨w.heap.size + 1 + 1, 12, none⟩ = some (.string p1) := (hPw6.cell (p := ⟨_, _, none⟩) zgw5).trans g12w5
            have g13w6 : w6.cell? ⟨w.heap.size + 1 + 1, 13, none⟩ = some (.int .i64 p2) := (hPw6.cell (p := ⟨_, _, none⟩) zgw5).trans g13w5
            have g14w6 : w6.cell? ⟨w.heap.size + 1 + 1, 14, none⟩ = some (.int .i64 p3) := (hPw6.cell (p := ⟨_, _, none⟩) zgw5).trans g14w5
            have g15w6 : w6.cell? ⟨w.heap.size + 1 + 1, 15, none⟩ = some (.int .i64 p4) := (hPw6.cell (p := ⟨_, _, none⟩) zgw5).trans g15w5
            have g16w6 : w6.cell? ⟨w.heap.size + 1 + 1, 16, none⟩ = some (.string p5) := (hPw6.cell (p := ⟨_, _, none⟩) zgw5).trans g16w5
            have g17w6 : w6.cell? ⟨w.heap.size + 1 + 1, 17, none⟩ = some (.string q0) := (hPw6.cell (p := ⟨_, _, none⟩) zgw5).trans g17w5
            have g18w6 : w6.cell? ⟨w.heap.size + 1 + 1, 18, none⟩ = some (.string q1) := (hPw6.cell (p := ⟨_, _, none⟩) zgw5).trans g18w5
            have g19w6 : w6.cell? ⟨w.heap.size + 1 + 1, 19, none⟩ = some (.string q2) := (hPw6.cell (p := ⟨_, _, none⟩) zgw5).trans g19w5
            have g20w6 : w6.cell? ⟨w.heap.size + 1 + 1, 20, none⟩ = some (.int .i64 q3) := (hPw6.cell (p := ⟨_, _, none⟩) zgw5).trans g20w5
            have g21w6 : w6.cell? ⟨w.heap.size + 1 + 1, 21, none⟩ = some (.string q4) := (hPw6.cell (p := ⟨_, _, none⟩) zgw5).trans g21w5
            have za1w6 : w4.heap.size < w6.heap.size := by omega
            have a10w6 : w6.cell? ⟨w4.heap.size, 0, none⟩ = some (.slice oa1 (ns + 1) ca1) := (hPw6.cell (p := ⟨_, _, none⟩) za1w5).trans a10w5
            have a11w6 : w6.cell? ⟨w4.heap.size, 1, none⟩ = some (.slice pa1 nb da1) := (hPw6.cell (p := ⟨_, _, none⟩) za1w5).trans a11w5
            have za2w6 : w5.heap.size < w6.heap.size := by omega
            have a20w6 : w6.cell? ⟨w5.heap.size, 0, none⟩ = some (.slice oa2 Na21 ca2) := (hb.cell (p := ⟨_, _, none⟩) (by simp <;> omega)).trans (by simp [go_sem])
            have a21w6 : w6.cell? ⟨w5.heap.size, 1, none⟩ = some (.slice pa2 Na22 da2) := (hb.cell (p := ⟨_, _, none⟩) (by simp <;> omega)).trans (by simp [go_sem])
            replace Ha1 := Lib.hid (Ha1.out.below hPw6)
            replace Ha2 := Lib.hid (Ha2.out.below hPw6)
            have hBw6 : Below w.heap.size w w6 := below_step (w := w) (by first | assumption | go_grown) hb
            have Hc1 := Lib.hid hst
            clear hst
            clear hb hsw6 hPw6
            clear zsw5 zmw5 zgw5 za1w5 s0w5 s1w5 m0w5 m1w5 g0w5 g1w5 g2w5 g3w5 g4w5 g5w5 g6w5 g7w5 g8w5 g9w5 g10w5 g11w5 g12w5 g13w5 g14w5 g15w5 g16w5 g17w5 g18w5 g19w5 g20w5 g21w5 a10w5 a11w5
            go_wp2_with fail
            (go_at_call 18; refine (addBar_gen HR.out _ _ gv (⟨q0, q1, q2, q3, q4⟩ : Br) _ Ec2 Nc21 Nc22 HEc2.out HNc21.out HNc22.out (HST.out.below (by first | assumption | go_grown)) (HM.out.below (by first | assumption | go_grown)) HZQ.out (HML.out.below (by first | assumption | go_grown))).mono ?_; rintro e_ w7 ⟨oc2, cc2, pc2, dc2, rfl, hst, hb⟩)
            have hsw7 := hb.size
            (try simp only [World.size_alloc, World.size_setCell] at hsw7)
            have zzw7 : w.heap.size < w7.heap.size := by omega
            have hPw7 : Below w6.heap.size w6 w7 := below_step (w := w6) (by first | exact Below.refl _ _ | go_grown) hb
            have zsw7 : w.heap.size < w7.heap.size := by omega
            have s0w7 : w7.cell? ⟨w.heap.size, 0, none⟩ = some (.slice oa ns ca) := (hPw7.cell (p := ⟨_, _, none⟩) zsw6).trans s0w6
            have s1w7 : w7.cell? ⟨w.heap.size, 1, none⟩ = some (.slice ob nb cb) := (hPw7.cell (p := ⟨_, _, none⟩) zsw6).trans s1w6
            have zmw7 : w.heap.size + 1 < w7.heap.size := by omega
            have m0w7 : w7.cell? ⟨w.heap.size + 1, 0, none⟩ = some (.slice om m.ng cm) := (hPw7.cell (p := ⟨_, _, none⟩) zmw6).trans m0w6
            have m1w7 : w7.cell? ⟨w.heap.size + 1, 1, none⟩ = some (.slice ot m.ns ct) := (hPw7.cell (p := ⟨_, _, none⟩) zmw6).trans m1w6
            have zgw7 : w.heap.size + 1 + 1 < w7.heap.size := by omega
            have g0w7 : w7.cell? ⟨w.heap.size + 1 + 1, 0, none⟩ = some (.string x0) := (hPw7.cell (p := ⟨_, _, none⟩) zgw6).trans g0w6
            have g1w7 : w7.cell? ⟨w.heap.size + 1 + 1, 1, none⟩ = some (.string x1) := (hPw7.cell (p := ⟨_, _, none⟩) zgw6).trans g1w6
            have g2w7 : w7.cell? ⟨w.heap.size + 1 + 1, 2, none⟩ = some (.int .i64 x2) := (hPw7.cell (p := ⟨_, _, none⟩) zgw6).trans g2w6
            have g3w7 : w7.cell? ⟨w.heap.size + 1 + 1, 3, none⟩ = some (.int .i64 x3) := (hPw7.cell (p := ⟨_, _, none⟩) zgw6).trans g3w6
            have g4w7 : w7.cell? ⟨w.heap.size + 1 + 1, 4, none⟩ = some (.int .i64 x4) := (hPw7.cell (p := ⟨_, _, none⟩) zgw6).trans g4w6
            have g5w7 : w7.cell? ⟨w.heap.size + 1 + 1, 5, none⟩ = some (.string x5) := (hPw7.cell (p := ⟨_, _, none⟩) zgw6).trans g5w6
            have g6w7 : w7.cell? ⟨w.heap.size + 1 + 1, 6, none⟩ = some (.string y0) := (hPw7.cell (p := ⟨_, _, none⟩) zgw6).trans g6w6
            have g7w7 : w7.cell? ⟨w.heap.size + 1 + 1, 7, none⟩ = some (.string y1) := (hPw7.cell (p := ⟨_, _, none⟩) zgw6).trans g7w6
            have g8w7 : w7.cell? ⟨w.heap.size + 1 + 1, 8, none⟩ = some (.string y2) := (hPw7.cell (p := ⟨_, _, none⟩) zgw6).trans g8w6
            have g9w7 : w7.cell? ⟨w.heap.size + 1 + 1, 9, none⟩ = some (.int .i64 y3) := (hPw7.cell (p := ⟨_, _, none⟩) zgw6).trans g9w6
            have g10w7 : w7.cell? ⟨w.heap.size + 1 + 1, 10, none⟩ = some (.string y4) := (hPw7.cell (p := ⟨_, _, none⟩) zgw6).trans g10w6
            have g11w7 : w7.cell? ⟨w.heap.size + 1 + 1, 11, none⟩ = some (.string p0) := (hPw7.cell (p := ⟨_, _, none⟩) zgw6).trans g11w6
            have g12w7 : w7.cell? ⟨w.heap.size + 1 + 1, 12, none⟩ = some (.string p1) := (hPw7.cell (p := ⟨_, _, none⟩) zgw6).trans g12w6
            have g13w7 : w7.cell? ⟨w.heap.size + 1 + 1, 13, none⟩ = some (.int .i64 p2) := (hPw7.cell (p := ⟨_, _, none⟩) zgw6).trans g13w6
            have g14w7 : w7.cell? ⟨w.heap.size + 1 + 1, 14, none⟩ = some (.int .i64 p3) := (hPw7.cell (p := ⟨_, _, none⟩) zgw6).trans g14w6
            have g15w7 : w7.cell? ⟨w.heap.size + 1 + 1, 15, none⟩ = some (.int .i64 p4) := (hPw7.cell (p := ⟨_, _, none⟩) zgw6).trans g15w6
            have g16w7 : w7.cell? ⟨w.heap.size + 1 + 1, 16, none⟩ = some (.string p5) := (hPw7.cell (p := ⟨_, _, none⟩) zgw6).trans g16w6
            have g17w7 : w7.cell? ⟨w.heap.size + 1 + 1, 17, none⟩ = some (.string q0) := (hPw7.cell (p := ⟨_, _, none⟩) zgw6).trans g17w6
            have g18w7 : w7.cell? ⟨w.heap.size + 1 + 1, 18, none⟩ = some (.string q1) := (hPw7.cell (p := ⟨_, _, none⟩) zgw6).trans g18w6
            have g19w7 : w7.cell? ⟨w.heap.size + 1 + 1, 19, none⟩ = some (.string q2) := (hPw7.cell (p := ⟨_, _, none⟩) zgw6).trans g19w6
            have g20w7 : w7.cell? ⟨w.heap.size + 1 + 1, 20, none⟩ = some (.int .i64 q3) := (hPw7.cell (p := ⟨_, _, none⟩) zgw6).trans g20w6
            have g21w7 : w7.cell? ⟨w.heap.size + 1 + 1, 21, none⟩ = some (.string q4) := (hPw7.cell (p := ⟨_, _, none⟩) zgw6).trans g21w6
            have za1w7 : w4.heap.size < w7.heap.size := by omega
            have a10w7 : w7.cell? ⟨w4.heap.size, 0, none⟩ = some (.slice oa1 (ns + 1) ca1) := (hPw7.cell (p := ⟨_, _, none⟩) za1w6).trans a10w6
            have a11w7 : w7.cell? ⟨w4.heap.size, 1, none⟩ = some (.slice pa1 nb da1) := (hPw7.cell (p := ⟨_, _, none⟩) za1w6).trans a11w6
            have za2w7 : w5.heap.size < w7.heap.size := by omega
            have a20w7 : w7.cell? ⟨w5.heap.size, 0, none⟩ = some (.slice oa2 Na21 ca2) := (hPw7.cell (p := ⟨_, _, none⟩) za2w6).trans a20w6
            have a21w7 : w7.cell? ⟨w5.heap.size, 1, none⟩ = some (.slice pa2 Na22 da2) := (hPw7.cell (p := ⟨_, _, none⟩) za2w6).trans a21w6
            have zc1w7 : w6.heap.size < w7.heap.size := by omega
            have c10w7 : w7.cell? ⟨w6.heap.size, 0, none⟩ = some (.slice oc1 Nc11 cc1) := (hb.cell (p := ⟨_, _, none⟩) (by simp <;> omega)).trans (by simp [go_sem])
            have c11w7 : w7.cell? ⟨w6.heap.size, 1, none⟩ = some (.slice pc1 Nc12 dc1) := (hb.cell (p := ⟨_, _, none⟩) (by simp <;> omega)).trans (by simp [go_sem])
            replace Ha1 := Lib.hid (Ha1.out.below hPw7)
            replace Ha2 := Lib.hid (Ha2.out.below hPw7)
            replace Hc1 := Lib.hid (Hc1.out.below hPw7)
            have hBw7 : Below w.heap.size w w7 := below_step (w := w) (by first | assumption | go_grown) hb
            have Hc2 := Lib.hid hst
            clear hst
            clear hb hsw7 hPw7
            clear zsw6 zmw6 zgw6 za1w6 za2w6 s0w6 s1w6 m0w6 m1w6 g0w6 g1w6 g2w6 g3w6 g4w6 g5w6 g6w6 g7w6 g8w6 g9w6 g10w6 g11w6 g12w6 g13w6 g14w6 g15w6 g16w6 g17w6 g18w6 g19w6 g20w6 g21w6 a10w6 a11w6 a20w6 a21w6
            by_cases hc1 : Ec1 = 0
            · have hn1 : ns = Nc11 := by rw [← HNc11.out, if_pos hc1]
              have hn2 : nb + 1 = Nc12 := by rw [← HNc12.out, if_pos hc1]
              clear HNc11 HNc12
              subst hc1 hn1 hn2
              by_cases hc2 : Ec2 = 0
              · have hn1 : ns = Nc21 := by rw [← HNc21.out, if_pos hc2]
                have hn2 : nb + 1 = Nc22 := by rw [← HNc22.out, if_pos hc2]
                clear HNc21 HNc22
                subst hc2 hn1 hn2
                obtain ⟨Gc, hGc⟩ : ∃ E, secE Br.id eb nb (⟨y0, y1, y2, y3, y4⟩ : Br) (⟨q0, q1, q2, q3, q4⟩ : Br) = E := ⟨_, rfl⟩
                have HGc := Lib.hid hGc
                obtain ⟨Mc1, hMc1⟩ : ∃ N, (if Gc = 0 then ns else 0) = N := ⟨_, rfl⟩
                have HMc1 := Lib.hid hMc1
                clear hMc1
                obtain ⟨Mc2, hMc2⟩ : ∃ N, (if Gc = 0 then nb + 1 + 1 else 0) = N := ⟨_, rfl⟩
                have HMc2 := Lib.hid hMc2
                clear hMc2
                clear hGc
                go_wp2_with fail
                (go_at_call 18; refine (addBar_sec HR.out _ _ gv (⟨y0, y1, y2, y3, y4⟩ : Br) (⟨q0, q1, q2, q3, q4⟩ : Br) _ Gc Mc1 Mc2 HEc1.out HEc2.out HGc.out HMc1.out HMc2.out (Hc1.out.below (by first | exact Below.refl _ _ | go_grown)) (HM.out.below (by first | assumption | go_grown)) HZQ.out (HML.out.below (by first | assumption | go_grown))).mono ?_; rintro e_ w8 ⟨oc3, cc3, pc3, dc3, rfl, hst, hb⟩)
                have hsw8 := hb.size
                (try simp only [World.size_alloc, World.size_setCell] at hsw8)
                have zzw8 : w.heap.size < w8.heap.size := by omega
                have hPw8 : Below w7.heap.size w7 w8 := below_step (w := w7) (by first | exact Below.refl _ _ | go_grown) hb
                have zsw8 : w.heap.size < w8.heap.size := by omega
                have s0w8 : w8.cell? ⟨w.heap.size, 0, none⟩ = some (.slice oa ns ca) := (hPw8.cell (p := ⟨_, _, none⟩) zsw7).trans s0w7
                have s1w8 : w8.cell? ⟨w.heap.size, 1, none⟩ = some (.slice ob nb cb) := (hPw8.cell (p := ⟨_, _, none⟩) zsw7).trans s1w7
                have zmw8 : w.heap.size + 1 < w8.heap.size := by omega
                have m0w8 : w8.cell? ⟨w.heap.size + 1, 0, none⟩ = some (.slice om m.ng cm) := (hPw8.cell (p := ⟨_, _, none⟩) zmw7).trans m0w7
                have m1w8 : w8.cell? ⟨w.heap.size + 1, 1, none⟩ = some (.slice ot m.ns ct) := (hPw8.cell (p := ⟨_, _, none⟩) zmw7).trans m1w7
                have zgw8 : w.heap.size + 1 + 1 < w8.heap.size := by omega
                have g0w8 : w8.cell? ⟨w.heap.size + 1 + 1, 0, none⟩ = some (.string x0) := (hPw8.cell (p := ⟨_, _, none⟩) zgw7).trans g0w7
                have g1w8 : w8.cell? ⟨w.heap.size + 1 + 1, 1, none⟩ = some (.string x1) := (hPw8.cell (p := ⟨_, _, none⟩) zgw7).trans g1w7
                have g2w8 : w8.cell? ⟨w.heap.size + 1 + 1, 2, none⟩ = some (.int .i64 x2) := (hPw8.cell (p := ⟨_, _, none⟩) zgw7).trans g2w7
                have g3w8 : w8.cell? ⟨w.heap.size + 1 + 1, 3, none⟩ = some (.int .i64 x3) := (hPw8.cell (p := ⟨_, _, none⟩) zgw7).trans g3w7
                have g4w8 : w8.cell? ⟨w.heap.size + 1 + 1, 4, none⟩ = some (.int .i64 x4) := (hPw8.cell (p := ⟨_, _, none⟩) zgw7).trans g4w7
                have g5w8 : w8.cell? ⟨w.heap.size + 1 + 1, 5, none⟩ = some (.string x5) := (hPw8.cell (p := ⟨_, _, none⟩) zgw7).trans g5w7
                have g6w8 : w8.cell? ⟨w.heap.size + 1 + 1, 6, none⟩ = some (.string y0) := (hPw8.cell (p := ⟨_, _, none⟩) zgw7).trans g6w7
                have g7w8 : w8.cell? ⟨w.heap.size + 1 + 1, 7, none⟩ = some (.string y1) := (hPw8.cell (p := ⟨_, _, none⟩) zgw7).trans g7w7
                have g8w8 : w8.cell? ⟨w.heap.size + 1 + 1, 8, none⟩ = some (.string y2) := (hPw8.cell (p := ⟨_, _, none⟩) zgw7).trans g8w7
                have g9w8 : w8.cell? ⟨w.heap.size + 1 + 1, 9, none⟩ = some (.int .i64 y3) := (hPw8.cell (p := ⟨_, _, none⟩) zgw7).trans g9w7
                have g10w8 : w8.cell? ⟨w.heap.size + 1 + 1, 10, none⟩ = some (.string y4) := (hPw8.cell (p := ⟨_, _, none⟩) zgw7).trans g10w7
                have g11w8 : w8.cell? ⟨w.heap.size + 1 + 1, 11, none⟩ = some (.string p0) := (hPw8.cell (p := ⟨_, _, none⟩) zgw7).trans g11w7
                have g12w8 : w8.cell? ⟨w.heap.size + 1 + 1, 12, none⟩ = some (.string p1) := (hPw8.cell (p := ⟨_, _, none⟩) zgw7).trans g12w7
                have g13w8 : w8.cell? ⟨w.heap.size + 1 + 1, 13, none⟩ = some (.int .i64 p2) := (hPw8.cell (p := ⟨_, _, none⟩) zgw7).trans g13w7
                have g14w8 : w8.cell? ⟨w.heap.size + 1 + 1, 14, none⟩ = some (.int .i64 p3) := (hPw8.cell (p := ⟨_, _, none⟩) zgw7).trans g14w7
                have g15w8 : w8.cell? ⟨w.heap.size + 1 + 1, 15, none⟩ = some (.int .i64 p4) := (hPw8.cell (p := ⟨_, _, none⟩) zgw7).trans g15w7
                have g16w8 : w8.cell? ⟨w.heap.size + 1 + 1, 16, none⟩ = some (.string p5) := (hPw8.cell (p := ⟨_, _, none⟩) zgw7).trans g16w7
                have g17w8 : w8.cell? ⟨w.heap.size + 1 + 1, 17, none⟩ = some (.string q0) := (hPw8.cell (p := ⟨_, _, none⟩) zgw7).trans g17w7
                have g18w8 : w8.cell? ⟨w.heap.size + 1 + 1, 18, none⟩ = some (.string q1) := (hPw8.cell (p := ⟨_, _, none⟩) zgw7).trans g18w7
                have g19w8 : w8.cell? ⟨w.heap.size + 1 + 1, 19, none⟩ = some (.string q2) := (hPw8.cell (p := ⟨_, _, none⟩) zgw7).trans g19w7
                have g20w8 : w8.cell? ⟨w.heap.size + 1 + 1, 20, none⟩ = some (.int .i64 q3) := (hPw8.cell (p := ⟨_, _, none⟩) zgw7).trans g20w7
                have g21w8 : w8.cell? ⟨w.heap.size + 1 + 1, 21, none⟩ = some (.string q4) := (hPw8.cell (p := ⟨_, _, none⟩) zgw7).trans g21w7
                have za1w8 : w4.heap.size < w8.heap.size := by omega
                have a10w8 : w8.cell? ⟨w4.heap.size, 0, none⟩ = some (.slice oa1 (ns + 1) ca1) := (hPw8.cell (p := ⟨_, _, none⟩) za1w7).trans a10w7
                have a11w8 : w8.cell? ⟨w4.heap.size, 1, none⟩ = some (.slice pa1 nb da1) := (hPw8.cell (p := ⟨_, _, none⟩) za1w7).trans a11w7
                have za2w8 : w5.heap.size < w8.heap.size := by omega
                have a20w8 : w8.cell? ⟨w5.heap.size, 0, none⟩ = some (.slice oa2 Na21 ca2) := (hPw8.cell (p := ⟨_, _, none⟩) za2w7).trans a20w7
                have a21w8 : w8.cell? ⟨w5.heap.size, 1, none⟩ = some (.slice pa2 Na22 da2) := (hPw8.cell (p := ⟨_, _, none⟩) za2w7).trans a21w7
                have zc1w8 : w6.heap.size < w8.heap.size := by omega
                have c10w8 : w8.cell? ⟨w6.heap.size, 0, none⟩ = some (.slice oc1 ns cc1) := (hPw8.cell (p := ⟨_, _, none⟩) zc1w7).trans c10w7
                have c11w8 : w8.cell? ⟨w6.heap.size, 1, none⟩ = some (.slice pc1 (nb + 1) dc1) := (hPw8.cell (p := ⟨_, _, none⟩) zc1w7).trans c11w7
                have zc2w8 : w7.heap.size < w8.heap.size := by omega
                have c20w8 : w8.cell? ⟨w7.heap.size, 0, none⟩ = some (.slice oc2 ns cc2) := (hb.cell (p := ⟨_, _, none⟩) (by simp <;> omega)).trans (by simp [go_sem])
                have c21w8 : w8.cell? ⟨w7.heap.size, 1, none⟩ = some (.slice pc2 (nb + 1) dc2) := (hb.cell (p := ⟨_, _, none⟩) (by simp <;> omega)).trans (by simp [go_sem])
                replace Ha1 := Lib.hid (Ha1.out.below hPw8)
                replace Ha2 := Lib.hid (Ha2.out.below hPw8)
                replace Hc1 := Lib.hid (Hc1.out.below hPw8)
                replace Hc2 := Lib.hid (Hc2.out.below hPw8)
                have hBw8 : Below w.heap.size w w8 := below_step (w := w) (by first | assumption | go_grown) hb
                have Hc3 := Lib.hid hst
                clear hst
                clear hb hsw8 hPw8
                clear zsw7 zmw7 zgw7 za1w7 za2w7 zc1w7 s0w7 s1w7 m0w7 m1w7 g0w7 g1w7 g2w7 g3w7 g4w7 g5w7 g6w7 g7w7 g8w7 g9w7 g10w7 g11w7 g12w7 g13w7 g14w7 g15w7 g16w7 g17w7 g18w7 g19w7 g20w7 g21w7 a10w7 a11w7 a20w7 a21w7 c10w7 c11w7
                go_wp2_with fail
                (go_at_call 18; refine (addBar_sec2 HR.out _ _ gv (⟨y0, y1, y2, y3, y4⟩ : Br) (⟨q0, q1, q2, q3, q4⟩ : Br) _ Gc Mc1 Mc2 HEc1.out HEc2.out HGc.out HMc1.out HMc2.out (Hc2.out.below (by first | exact Below.refl _ _ | go_grown)) (HM.out.below (by first | assumption | go_grown)) HZY.out (HML.out.below (by first | assumption | go_grown))).mono ?_; rintro e_ w9 ⟨oc4, cc4, pc4, dc4, rfl, hst, hb⟩)
                have hsw9 := hb.size
                (try simp only [World.size_alloc, World.size_setCell] at hsw9)
                have zzw9 : w.heap.size < w9.heap.size := by omega
                have hPw9 : Below w8.heap.size w8 w9 := below_step (w := w8) (by first | exact Below.refl _ _ | go_grown) hb
                have zsw9 : w.heap.size < w9.heap.size := by omega
                have s0w9 : w9.cell? ⟨w.heap.size, 0, none⟩ = some (.slice oa ns ca) := (hPw9.cell (p := ⟨_, _, none⟩) zsw8).trans s0w8
                have s1w9 : w9.cell? ⟨w.heap.size, 1, none⟩ = some (.slice ob nb cb) := (hPw9.cell (p := ⟨_, _, none⟩) zsw8).trans s1w8
                have zmw9 : w.heap.size + 1 < w9.heap.size := by omega
                have m0w9 : w9.cell? ⟨w.heap.size + 1, 0, none⟩ = some (.slice om m.ng cm) := (hPw9.cell (p := ⟨_, _, none⟩) zmw8).trans m0w8
                have m1w9 : w9.cell? ⟨w.heap.size + 1, 1, none⟩ = some (.slice ot m.ns ct) := (hPw9.cell (p := ⟨_, _, none⟩) zmw8).trans m1w8
                have zgw9 : w.heap.size + 1 + 1 < w9.heap.size := by omega
                have g0w9 : w9.cell? ⟨w.heap.size + 1 + 1, 0, none⟩ = some (.string x0) := (hPw9.cell (p := ⟨_, _, none⟩) zgw8).trans g0w8
                have g1w9 : w9.cell? ⟨w.heap.size + 1 + 1, 1, none⟩ = some (.string x1) := (hPw9.cell (p := ⟨_, _, none⟩) zgw8).trans g1w8
                have g2w9 : w9.cell? ⟨w.heap.size + 1 + 1, 2, none⟩ = some (.int .i64 x2) := (hPw9.cell (p := ⟨_, _, none⟩) zgw8).trans g2w8
                have g3w9 : w9.cell? ⟨w.heap.size + 1 + 1, 3, none⟩ = some (.int .i64 x3) := (hPw9.cell (p := ⟨_, _, none⟩) zgw8).trans g3w8
                have g4w9 : w9.cell? ⟨w.heap.size + 1 + 1, 4, none⟩ = some (.int .i64 x4) := (hPw9.cell (p := ⟨_, _, none⟩) zgw8).trans g4w8
                have g5w9 : w9.cell? ⟨w.heap.size + 1 + 1, 5, none⟩ = some (.string x5) := (hPw9.cell (p := ⟨_, _, none⟩) zgw8).trans g5w8
                have g6w9 : w9.cell? ⟨w.heap.size + 1 + 1, 6, none⟩ = some (.string y0) := (hPw9.cell (p := ⟨_, _, none⟩) zgw8).trans g6w8
                have g7w9 : w9.cell? ⟨w.heap.size + 1 + 1, 7, none⟩ = some (.string y1) := (hPw9.cell (p := ⟨_, _, none⟩) zgw8).trans g7w8
                have g8w9 : w9.cell? ⟨w.heap.size + 1 + 1, 8, none⟩ = some (.string y2) := (hPw9.cell (p := ⟨_, _, none⟩) zgw8).trans g8w8
                have g9w9 : w9.cell? ⟨w.heap.size + 1 + 1, 9, none⟩ = some (.int .i64 y3) := (hPw9.cell (p := ⟨_, _, none⟩) zgw8).trans g9w8
                have g10w9 : w9.cell? ⟨w.heap.size + 1 + 1, 10, none⟩ = some (.string y4) := (hPw9.cell (p := ⟨_, _, none⟩) zgw8).trans g10w8
                have g11w9 : w9.cell? ⟨w.heap.size + 1 + 1, 11, none⟩ = some (.string p0) := (hPw9.cell (p := ⟨_, _, none⟩) zgw8).trans g11w8
                have g12w9 : w9.cell? ⟨w.heap.size + 1 + 1, 12, none⟩ = some (.string p1) := (hPw9.cell (p := ⟨_, _, none⟩) zgw8).trans g12w8
                have g13w9 : w9.cell? ⟨w.heap.size + 1 + 1, 13, none⟩ = some (.int .i64 p2) := (hPw9.cell (p := ⟨_, _, none⟩) zgw8).trans g13w8
                have g14w9 : w9.cell? ⟨w.heap.size + 1 + 1, 14, none⟩ = some (.int .i64 p3) := (hPw9.cell (p := ⟨_, _, none⟩) zgw8).trans g14w8
                have g15w9 : w9.cell? ⟨w.heap.size + 1 + 1, 15, none⟩ = some (.int .i64 p4) := (hPw9.cell (p := ⟨_, _, none⟩) zgw8).trans g15w8
                have g16w9 : w9.cell? ⟨w.heap.size + 1 + 1, 16, none⟩ = some (.string p5) := (hPw9.cell (p := ⟨_, _, none⟩) zgw8).trans g16w8
                have g17w9 : w9.cell? ⟨w.heap.size + 1 + 1, 17, none⟩ = some (.string q0) := (hPw9.cell (p := ⟨_, _, none⟩) zgw8).trans g17w8
                have g18w9 : w9.cell? ⟨w.heap.size + 1 + 1, 18, none⟩ = some (.string q1) := (hPw9.cell (p := ⟨_, _, none⟩) zgw8).trans g18w8
                have g19w9 : w9.cell? ⟨w.heap.size + 1 + 1, 19, none⟩ = some (.string q2) := (hPw9.cell (p := ⟨_, _, none⟩) zgw8).trans g19w8
                have g20w9 : w9.cell? ⟨w.heap.size + 1 + 1, 20, none⟩ = some (.int .i64 q3) := (hPw9.cell (p := ⟨_, _, none⟩) zgw8).trans g20w8
                have g21w9 : w9.cell? ⟨w.heap.size + 1 + 1, 21, none⟩ = some (.string q4) := (hPw9.cell (p := ⟨_, _, none⟩) zgw8).trans g21w8
                have za1w9 : w4.heap.size < w9.heap.size := by omega
                have a10w9 : w9.cell? ⟨w4.heap.size, 0, none⟩ = some (.slice oa1 (ns + 1) ca1) := (hPw9.cell (p := ⟨_, _, none⟩) za1w8).trans a10w8
                have a11w9 : w9.cell? ⟨w4.heap.size, 1, none⟩ = some (.slice pa1 nb da1) := (hPw9.cell (p := ⟨_, _, none⟩) za1w8).trans a11w8
                have za2w9 : w5.heap.size < w9.heap.size := by omega
                have a20w9 : w9.cell? ⟨w5.heap.size, 0, none⟩ = some (.slice oa2 Na21 ca2) := (hPw9.cell (p := ⟨_, _, none⟩) za2w8).trans a20w8
                have a21w9 : w9.cell? ⟨w5.heap.size, 1, none⟩ = some (.slice pa2 Na22 da2) := (hPw9.cell (p := ⟨_, _, none⟩) za2w8).trans a21w8
                have zc1w9 : w6.heap.size < w9.heap.size := by omega
                have c10w9 : w9.cell? ⟨w6.heap.size, 0, none⟩ = some (.slice oc1 ns cc1) := (hPw9.cell (p := ⟨_, _, none⟩) zc1w8).trans c10w8
                have c11w9 : w9.cell? ⟨w6.heap.size, 1, none⟩ = some (.slice pc1 (nb + 1) dc1) := (hPw9.cell (p := ⟨_, _, none⟩) zc1w8).trans c11w8
                have zc2w9 : w7.heap.size < w9.heap.size := by omega
                have c20w9 : w9.cell? ⟨w7.heap.size, 0, none⟩ = some (.slice oc2 ns cc2) := (hPw9.cell (p := ⟨_, _, none⟩) zc2w8).trans c20w8
                have c21w9 : w9.cell? ⟨w7.heap.size, 1, none⟩ = some (.slice pc2 (nb + 1) dc2) := (hPw9.cell (p := ⟨_, _, none⟩) zc2w8).trans c21w8
                have zc3w9 : w8.heap.size < w9.heap.size := by omega
                have c30w9 : w9.cell? ⟨w8.heap.size, 0, none⟩ = some (.slice oc3 Mc1 cc3) := (hb.cell (p := ⟨_, _, none⟩) (by simp <;> omega)).trans (by simp [go_sem])
                have c31w9 : w9.cell? ⟨w8.heap.size, 1, none⟩ = some (.slice pc3 Mc2 dc3) := (hb.cell (p := ⟨_, _, none⟩) (by simp <;> omega)).trans (by simp [go_sem])
                replace Ha1 := Lib.hid (Ha1.out.below hPw9)
                replace Ha2 := Lib.hid (Ha2.out.below hPw9)
                replace Hc1 := Lib.hid (Hc1.out.below hPw9)
                replace Hc2 := Lib.hid (Hc2.out.below hPw9)
                replace Hc3 := Lib.hid (Hc3.out.below hPw9)
                have hBw9 : Below w.heap.size w w9 := below_step (w := w) (by first | assumption | go_grown) hb
                have Hc4 := Lib.hid hst
                clear hst
                clear hb hsw9 hPw9
                clear zsw8 zmw8 zgw8 za1w8 za2w8 zc1w8 zc2w8 s0w8 s1w8 m0w8 m1w8 g0w8 g1w8 g2w8 g3w8 g4w8 g5w8 g6w8 g7w8 g8w8 g9w8 g10w8 g11w8 g12w8 g13w8 g14w8 g15w8 g16w8 g17w8 g18w8 g19w8 g20w8 g21w8 a10w8 a11w8 a20w8 a21w8 c10w8 c11w8 c20w8 c21w8
                go_wp2_with fail
                (go_at_call 13; refine (rsame_self _ (Hc3.out.below (by first | exact Below.refl _ _ | go_grown)) (Hc4.out.below (by first | exact Below.refl _ _ | go_grown))).mono ?_; rintro e_ w10 ⟨rfl, hb⟩)
                have hsw10 := hb.size
                (try simp only [World.size_alloc, World.size_setCell] at hsw10)
                have zzw10 : w.heap.size < w10.heap.size := by omega
                have hPw10 : Below w9.heap.size w9 w10 := below_step (w := w9) (by first | exact Below.refl _ _ | go_grown) hb
                have zsw10 : w.heap.size < w10.heap.size := by omega
                have s0w10 : w10.cell? ⟨w.heap.size, 0, none⟩ = some (.slice oa ns ca) := (hPw10.cell (p := ⟨_, _, none⟩) zsw9).trans s0w9
                have s1w10 : w10.cell? ⟨w.heap.size, 1, none⟩ = some (.slice ob nb cb) := (hPw10.cell (p := ⟨_, _, none⟩) zsw9).trans s1w9
                have zmw10 : w.heap.size + 1 < w10.heap.size := by omega
                have m0w10 : w10.cell? ⟨w.heap.size + 1, 0, none⟩ = some (.slice om m.ng cm) := (hPw10.cell (p := ⟨_, _, none⟩) zmw9).trans m0w9
                have m1w10 : w10.cell? ⟨w.heap.size + 1, 1, none⟩ = some (.slice ot m.ns ct) := (hPw10.cell (p := ⟨_, _, none⟩) zmw9).trans m1w9
                have zgw10 : w.heap.size + 1 + 1 < w10.heap.size := by omega
                have g0w10 : w10.cell? ⟨w.heap.size + 1 + 1, 0, none⟩ = some (.string x0) := (hPw10.cell (p := ⟨_, _, none⟩) zgw9).trans g0w9
                have g1w10 : w10.cell? ⟨w.heap.size + 1 + 1, 1, none⟩ = some (.string x1) := (hPw10.cell (p := ⟨_, _, none⟩) zgw9).trans g1w9
                have g2w10 : w10.cell? ⟨w.heap.size + 1 + 1, 2, none⟩ = some (.int .i64 x2) := (hPw10.cell (p := ⟨_, _, none⟩) zgw9).trans g2w9
                have g3w10 : w10.cell? ⟨w.heap.size + 1 + 1, 3, none⟩ = some (.int .i64 x3) := (hPw10.cell (p := ⟨_, _, none⟩) zgw9).trans g3w9
                have g4w10 : w10.cell? ⟨w.heap.size + 1 + 1, 4, none⟩ = some (.int .i64 x4) := (hPw10.cell (p := ⟨_, _, none⟩) zgw9).trans g4w9
                have g5w10 : w10.cell? ⟨w.heap.size + 1 + 1, 5, none⟩ = some (.string x5) := (hPw10.cell (p := ⟨_, _, none⟩) zgw9).trans g5w9
                have g6w10 : w10.cell? ⟨w.heap.size + 1 + 1, 6, none⟩ = some (.string y0) := (hPw10.cell (p := ⟨_, _, none⟩) zgw9).trans g6w9
                have g7w10 : w10.cell? ⟨w.heap.size + 1 + 1, 7, none⟩ = some (.string y1) := (hPw10.cell (p := ⟨_, _, none⟩) zgw9).trans g7w9
                have g8w10 : w10.cell? ⟨w.heap.size + 1 + 1, 8, none⟩ = some (.string y2) := (hPw10.cell (p := ⟨_, _, none⟩) zgw9).trans g8w9
                have g9w10 : w10.cell? ⟨w.heap.size + 1 + 1, 9, none⟩ = some (.int .i64 y3) := (hPw10.cell (p := ⟨_, _, none⟩) zgw9).trans g9w9
                have g10w10 : w10.cell? ⟨w.heap.size + 1 + 1, 10, none⟩ = some (.string y4) := (hPw10.cell (p := ⟨_, _, none⟩) zgw9).trans g10w9
                have g11w10 : w10.cell? ⟨w.heap.size + 1 + 1, 11, none⟩ = some (.string p0) := (hPw10.cell (p := ⟨_, _, none⟩) zgw9).trans g11w9
                have g12w10 : w10.cell? ⟨w.heap.size + 1 + 1, 12, none⟩ = some (.string p1) := (hPw10.cell (p := ⟨_, _, none⟩) zgw9).trans g12w9
                have g13w10 : w10.cell? ⟨w.heap.size + 1 + 1, 13, none⟩ = some (.int .i64 p2) := (hPw10.cell (p := ⟨_, _, none⟩) zgw9).trans g13w9
                have g14w10 : w10.cell? ⟨w.heap.size + 1 + 1, 14, none⟩ = some (.int .i64 p3) := (hPw10.cell (p := ⟨_, _, none⟩) zgw9).trans g14w9
                have g15w10 : w10.cell? ⟨w.heap.size + 1 + 1, 15, none⟩ = some (.int .i64 p4) := (hPw10.cell (p := ⟨_, _, none⟩) zgw9).trans g15w9
                have g16w10 : w10.cell? ⟨w.heap.size + 1 + 1, 16, none⟩ = some (.string p5) := (hPw10.cell (p := ⟨_, _, none⟩) zgw9).trans g16w9
                have g17w10 : w10.cell? ⟨w.heap.size + 1 + 1, 17, none⟩ = some (.string q0) := (hPw10.cell (p := ⟨_, _, none⟩) zgw9).trans g17w9
                have g18w10 : w10.cell? ⟨w.heap.size + 1 + 1, 18, none⟩ = some (.string q1) := (hPw10.cell (p := ⟨_, _, none⟩) zgw9).trans g18w9
                have g19w10 : w10.cell? ⟨w.heap.size + 1 + 1, 19, none⟩ = some (.string q2) := (hPw10.cell (p := ⟨_, _, none⟩) zgw9).trans g19w9
                have g20w10 : w10.cell? ⟨w.heap.size + 1 + 1, 20, none⟩ = some (.int .i64 q3) := (hPw10.cell (p := ⟨_, _, none⟩) zgw9).trans g20w9
                have g21w10 : w10.cell? ⟨w.heap.size + 1 + 1, 21, none⟩ = some (.string q4) := (hPw10.cell (p := ⟨_, _, none⟩) zgw9).trans g21w9
                have za1w10 : w4.heap.size < w10.heap.size := by omega
                have a10w10 : w10.cell? ⟨w4.heap.size, 0, none⟩ = some (.slice oa1 (ns + 1) ca1) := (hPw10.cell (p := ⟨_, _, none⟩) za1w9).trans a10w9
                have a11w10 : w10.cell? ⟨w4.heap.size, 1, none⟩ = some (.slice pa1 nb da1) := (hPw10.cell (p := ⟨_, _, none⟩) za1w9).trans a11w9
                have za2w10 : w5.heap.size < w10.heap.size := by omega
                have a20w10 : w10.cell? ⟨w5.heap.size, 0, none⟩ = some (.slice oa2 Na21 ca2) := (hPw10.cell (p := ⟨_, _, none⟩) za2w9).trans a20w9
                have a21w10 : w10.cell? ⟨w5.heap.size, 1, none⟩ = some (.slice pa2 Na22 da2) := (hPw10.cell (p := ⟨_, _, none⟩) za2w9).trans a21w9
                have zc1w10 : w6.heap.size < w10.heap.size := by omega
                have c10w10 : w10.cell? ⟨w6.heap.size, 0, none⟩ = some (.slice oc1 ns cc1) := (hPw10.cell (p := ⟨_, _, none⟩) zc1w9).trans c10w9
                have c11w10 : w10.cell? ⟨w6.heap.size, 1, none⟩ = some (.slice pc1 (nb + 1) dc1) := (hPw10.cell (p := ⟨_, _, none⟩) zc1w9).trans c11w9
                have zc2w10 : w7.heap.size < w10.heap.size := by omega
                have c20w10 : w10.cell? ⟨w7.heap.size, 0, none⟩ = some (.slice oc2 ns cc2) := (hPw10.cell (p := ⟨_, _, none⟩) zc2w9).trans c20w9
                have c21w10 : w10.cell? ⟨w7.heap.size, 1, none⟩ = some (.slice pc2 (nb + 1) dc2) := (hPw10.cell (p := ⟨_, _, none⟩) zc2w9).trans c21w9
                have zc3w10 : w8.heap.size < w10.heap.size := by omega
                have c30w10 : w10.cell? ⟨w8.heap.size, 0, none⟩ = some (.slice oc3 Mc1 cc3) := (hPw10.cell (p := ⟨_, _, none⟩) zc3w9).trans c30w9
                have c31w10 : w10.cell? ⟨w8.heap.size, 1, none⟩ = some (.slice pc3 Mc2 dc3) := (hPw10.cell (p := ⟨_, _, none⟩) zc3w9).trans c31w9
                have zc4w10 : w9.heap.size < w10.heap.size := by omega
                have c40w10 : w10.cell? ⟨w9.heap.size, 0, none⟩ = some (.slice oc4 Mc1 cc4) := (hb.cell (p := ⟨_, _, none⟩) (by simp <;> omega)).trans (by simp [go_sem])
                have c41w10 : w10.cell? ⟨w9.heap.size, 1, none⟩ = some (.slice pc4 Mc2 dc4) := (hb.cell (p := ⟨_, _, none⟩) (by simp <;> omega)).trans (by simp [go_sem])
                replace Ha1 := Lib.hid (Ha1.out.below hPw10)
                replace Ha2 := Lib.hid (Ha2.out.below hPw10)
                replace Hc1 := Lib.hid (Hc1.out.below hPw10)
                replace Hc2 := Lib.hid (Hc2.out.below hPw10)
                replace Hc3 := Lib.hid (Hc3.out.below hPw10)
                replace Hc4 := Lib.hid (Hc4.out.below hPw10)
                have hBw10 : Below w.heap.size w w10 := below_step (w := w) (by first | assumption | go_grown) hb
                clear hb hsw10 hPw10
                clear zsw9 zmw9 zgw9 za1w9 za2w9 zc1w9 zc2w9 zc3w9 s0w9 s1w9 m0w9 m1w9 g0w9 g1w9 g2w9 g3w9 g4w9 g5w9 g6w9 g7w9 g8w9 g9w9 g10w9 g11w9 g12w9 g13w9 g14w9 g15w9 g16w9 g17w9 g18w9 g19w9 g20w9 g21w9 a10w9 a11w9 a20w9 a21w9 c10w9 c11w9 c20w9 c21w9 c30w9 c31w9
                clear zc1w10 c10w10 c11w10
                clear zc2w10 c20w10 c21w10
                clear zc3w10 c30w10 c31w10
                clear zc4w10 c40w10 c41w10
                go_wp2_with fail
                (go_at_call 9; refine (awake_any _ (HML.out.below (by first | assumption | go_grown))).mono ?_; rintro e_ w11 ⟨rfl, hb⟩)
                have hsw11 := hb.size
                (try simp only [World.size_alloc, World.size_setCell] at hsw11)
                have zzw11 : w.heap.size < w11.heap.size := by omega
                have hPw11 : Below w10.heap.size w10 w11 := below_step (w := w10) (by first | exact Below.refl _ _ | go_grown) hb
                have zsw11 : w.heap.size < w11.heap.size := by omega
                have s0w11 : w11.cell? ⟨w.heap.size, 0, none⟩ = some (.slice oa ns ca) := (hPw11.cell (p := ⟨_, _, none⟩) zsw10).trans s0w10
                have s1w11 : w11.cell? ⟨w.heap.size, 1, none⟩ = some (.slice ob nb cb) := (hPw11.cell (p := ⟨_, _, none⟩) zsw10).trans s1w10
                have zmw11 : w.heap.size + 1 < w11.heap.size := by omega
                have m0w11 : w11.cell? ⟨w.heap.size + 1, 0, none⟩ = some (.slice om m.ng cm) := (hPw11.cell (p := ⟨_, _, none⟩) zmw10).trans m0w10
                have m1w11 : w11.cell? ⟨w.heap.size + 1, 1, none⟩ = some (.slice ot m.ns ct) := (hPw11.cell (p := ⟨_, _, none⟩) zmw10).trans m1w10
                have zgw11 : w.heap.size + 1 + 1 < w11.heap.size := by omega
                have g0w11 : w11.cell? ⟨w.heap.size + 1 + 1, 0, none⟩ = some (.string x0) := (hPw11.cell (p := ⟨_, _, none⟩) zgw10).trans g0w10
                have g1w11 : w11.cell? ⟨w.heap.size + 1 + 1, 1, none⟩ = some (.string x1) := (hPw11.cell (p := ⟨_, _, none⟩) zgw10).trans g1w10
                have g2w11 : w11.cell? ⟨w.heap.size + 1 + 1, 2, none⟩ = some (.int .i64 x2) := (hPw11.cell (p := ⟨_, _, none⟩) zgw10).trans g2w10
                have g3w11 : w11.cell? ⟨w.heap.size + 1 + 1, 3, none⟩ = some (.int .i64 x3) := (hPw11.cell (p := ⟨_, _, none⟩) zgw10).trans g3w10
                have g4w11 : w11.cell? ⟨w.heap.size + 1 + 1, 4, none⟩ = some (.int .i64 x4) := (hPw11.cell (p := ⟨_, _, none⟩) zgw10).trans g4w10
                have g5w11 : w11.cell? ⟨w.heap.size + 1 + 1, 5, none⟩ = some (.string x5) := (hPw11.cell (p := ⟨_, _, none⟩) zgw10).trans g5w10
                have g6w11 : w11.cell? ⟨w.heap.size + 1 + 1, 6, none⟩ = some (.string y0) := (hPw11.cell (p := ⟨_, _, none⟩) zgw10).trans g6w10
                have g7w11 : w11.cell? ⟨w.heap.size + 1 + 1, 7, none⟩ = some (.string y1) := (hPw11.cell (p := ⟨_, _, none⟩) zgw10).trans g7w10
                have g8w11 : w11.cell? ⟨w.heap.size + 1 + 1, 8, none⟩ = some (.string y2) := (hPw11.cell (p := ⟨_, _, none⟩) zgw10).trans g8w10
                have g9w11 : w11.cell? ⟨w.heap.size + 1 + 1, 9, none⟩ = some (.int .i64 y3) := (hPw11.cell (p := ⟨_, _, none⟩) zgw10).trans g9w10
                have g10w11 : w11.cell? ⟨w.heap.size + 1 + 1, 10, none⟩ = some (.string y4) := (hPw11.cell (p := ⟨_, _, none⟩) zgw10).trans g10w10
                have g11w11 : w11.cell? ⟨w.heap.size + 1 + 1, 11, none⟩ = some (.string p0) := (hPw11.cell (p := ⟨_, _, none⟩) zgw10).trans g11w10
                have g12w11 : w11.cell? ⟨w.heap.size + 1 + 1, 12, none⟩ = some (.string p1) := (hPw11.cell (p := ⟨_, _, none⟩) zgw10).trans g12w10
                have g13w11 : w11.cell? ⟨w.heap.size + 1 + 1, 13, none⟩ = some (.int .i64 p2) := (hPw11.cell (p := ⟨_, _, none⟩) zgw10).trans g13w10
                have g14w11 : w11.cell? ⟨w.heap.size + 1 + 1, 14, none⟩ = some (.int .i64 p3) := (hPw11.cell (p := ⟨_, _, none⟩) zgw10).trans g14w10
                have g15w11 : w11.cell? ⟨w.heap.size + 1 + 1, 15, none⟩ = some (.int .i64 p4) := (hPw11.cell (p := ⟨_, _, none⟩) zgw10).trans g15w10
                have g16w11 : w11.cell? ⟨w.heap.size + 1 + 1, 16, none⟩ = some (.string p5) := (hPw11.cell (p := ⟨_, _, none⟩) zgw10).trans g16w10
                have g17w11 : w11.cell? ⟨w.heap.size + 1 + 1, 17, none⟩ = some (.string q0) := (hPw11.cell (p := ⟨_, _, none⟩) zgw10).trans g17w10
                have g18w11 : w11.cell? ⟨w.heap.size + 1 + 1, 18, none⟩ = some (.string q1) := (hPw11.cell (p := ⟨_, _, none⟩) zgw10).trans g18w10
                have g19w11 : w11.cell? ⟨w.heap.size + 1 + 1, 19, none⟩ = some (.string q2) := (hPw11.cell (p := ⟨_, _, none⟩) zgw10).trans g19w10
                have g20w11 : w11.cell? ⟨w.heap.size + 1 + 1, 20, none⟩ = some (.int .i64 q3) := (hPw11.cell (p := ⟨_, _, none⟩) zgw10).trans g20w10
                have g21w11 : w11.cell? ⟨w.heap.size + 1 + 1, 21, none⟩ = some (.string q4) := (hPw11.cell (p := ⟨_, _, none⟩) zgw10).trans g21w10
                have za1w11 : w4.heap.size < w11.heap.size := by omega
                have a10w11 : w11.cell? ⟨w4.heap.size, 0, none⟩ = some (.slice oa1 (ns + 1) ca1) := (hPw11.cell (p := ⟨_, _, none⟩) za1w10).trans a10w10
                have a11w11 : w11.cell? ⟨w4.heap.size, 1, none⟩ = some (.slice pa1 nb da1) := (hPw11.cell (p := ⟨_, _, none⟩) za1w10).trans a11w10
                have za2w11 : w5.heap.size < w11.heap.size := by omega
                have a20w11 : w11.cell? ⟨w5.heap.size, 0, none⟩ = some (.slice oa2 Na21 ca2) := (hPw11.cell (p := ⟨_, _, none⟩) za2w10).trans a20w10
                have a21w11 : w11.cell? ⟨w5.heap.size, 1, none⟩ = some (.slice pa2 Na22 da2) := (hPw11.cell (p := ⟨_, _, none⟩) za2w10).trans a21w10
                replace Ha1 := Lib.hid (Ha1.out.below hPw11)
                replace Ha2 := Lib.hid (Ha2.out.below hPw11)
                replace Hc1 := Lib.hid (Hc1.out.below hPw11)
                replace Hc2 := Lib.hid (Hc2.out.below hPw11)
                replace Hc3 := Lib.hid (Hc3.out.below hPw11)
                replace Hc4 := Lib.hid (Hc4.out.below hPw11)
                have hBw11 : Below w.heap.size w w11 := below_step (w := w) (by first | assumption | go_grown) hb
                clear hb hsw11 hPw11
                clear zsw10 zmw10 zgw10 za1w10 za2w10 s0w10 s1w10 m0w10 m1w10 g0w10 g1w10 g2w10 g3w10 g4w10 g5w10 g6w10 g7w10 g8w10 g9w10 g10w10 g11w10 g12w10 g13w10 g14w10 g15w10 g16w10 g17w10 g18w10 g19w10 g20w10 g21w10 a10w10 a11w10 a20w10 a21w10
                go_wp2
                go_returns
                exact ⟨rfl, by assumption⟩
              · have kc2 : (Ec2 == 0) = false := by simpa using hc2
                clear hc2
                go_wp2_with fail
                (go_at_call 9; refine (awake_any _ (HML.out.below (by first | assumption | go_grown))).mono ?_; rintro e_ w8 ⟨rfl, hb⟩)
                have hsw8 := hb.size
                (try simp only [World.size_alloc, World.size_setCell] at hsw8)
                have zzw8 : w.heap.size < w8.heap.size := by omega
                have hPw8 : Below w7.heap.size w7 w8 := below_step (w := w7) (by first | exact Below.refl _ _ | go_grown) hb
                have zsw8 : w.heap.size < w8.heap.size := by omega
                have s0w8 : w8.cell? ⟨w.heap.size, 0, none⟩ = some (.slice oa ns ca) := (hPw8.cell (p := ⟨_, _, none⟩) zsw7).trans s0w7
                have s1w8 : w8.cell? ⟨w.heap.size, 1, none⟩ = some (.slice ob nb cb) := (hPw8.cell (p := ⟨_, _, none⟩) zsw7).trans s1w7
                have zmw8 : w.heap.size + 1 < w8.heap.size := by omega
                have m0w8 : w8.cell? ⟨w.heap.size + 1, 0, none⟩ = some (.slice om m.ng cm) := (hPw8.cell (p := ⟨_, _, none⟩) zmw7).trans m0w7
                have m1w8 : w8.cell? ⟨w.heap.size + 1, 1, none⟩ = some (.slice ot m.ns ct) := (hPw8.cell (p := ⟨_, _, none⟩) zmw7).trans m1w7
                have zgw8 : w.heap.size + 1 + 1 < w8.heap.size := by omega
                have g0w8 : w8.cell? ⟨w.heap.size + 1 + 1, 0, none⟩ = some (.string x0) := (hPw8.cell (p := ⟨_, _, none⟩) zgw7).trans g0w7
                have g1w8 : w8.cell? ⟨w.heap.size + 1 + 1, 1, none⟩ = some (.string x1) := (hPw8.cell (p := ⟨_, _, none⟩) zgw7).trans g1w7
                have g2w8 : w8.cell? ⟨w.heap.size + 1 + 1, 2, none⟩ = some (.int .i64 x2) := (hPw8.cell (p := ⟨_, _, none⟩) zgw7).trans g2w7
                have g3w8 : w8.cell? ⟨w.heap.size + 1 + 1, 3, none⟩ = some (.int .i64 x3) := (hPw8.cell (p := ⟨_, _, none⟩) zgw7).trans g3w7
                have g4w8 : w8.cell? ⟨w.heap.size + 1 + 1, 4, none⟩ = some (.int .i64 x4) := (hPw8.cell (p := ⟨_, _, none⟩) zgw7).trans g4w7
                have g5w8 : w8.cell? ⟨w.heap.size + 1 + 1, 5, none⟩ = some (.string x5) := (hPw8.cell (p := ⟨_, _, none⟩) zgw7).trans g5w7
                have g6w8 : w8.cell? ⟨w.heap.size + 1 + 1, 6, none⟩ = some (.string y0) := (hPw8.cell (p := ⟨_, _, none⟩) zgw7).trans g6w7
                have g7w8 : w8.cell? ⟨w.heap.size + 1 + 1, 7, none⟩ = some (.string y1) := (hPw8.cell (p := ⟨_, _, none⟩) zgw7).trans g7w7
                have g8w8 : w8.cell? ⟨w.heap.size + 1 + 1, 8, none⟩ = some (.string y2) := (hPw8.cell (p := ⟨_, _, none⟩) zgw7).trans g8w7
                have g9w8 : w8.cell? ⟨w.heap.size + 1 + 1, 9, none⟩ = some (.int .i64 y3) := (hPw8.cell (p := ⟨_, _, none⟩) zgw7).trans g9w7
                have g10w8 : w8.cell? ⟨w.heap.size + 1 + 1, 10, none⟩ = some (.string y4) := (hPw8.cell (p := ⟨_, _, none⟩) zgw7).trans g10w7
                have g11w8 : w8.cell? ⟨w.heap.size + 1 + 1, 11, none⟩ = some (.string p0) := (hPw8.cell (p := ⟨_, _, none⟩) zgw7).trans g11w7
                have g12w8 : w8.cell? ⟨w.heap.size + 1 + 1, 12, none⟩ = some (.string p1) := (hPw8.cell (p := ⟨_, _, none⟩) zgw7).trans g12w7
                have g13w8 : w8.cell? ⟨w.heap.size + 1 + 1, 13, none⟩ = some (.int .i64 p2) := (hPw8.cell (p := ⟨_, _, none⟩) zgw7).trans g13w7
                have g14w8 : w8.cell? ⟨w.heap.size + 1 + 1, 14, none⟩ = some (.int .i64 p3) := (hPw8.cell (p := ⟨_, _, none⟩) zgw7).trans g14w7
                have g15w8 : w8.cell? ⟨w.heap.size + 1 + 1, 15, none⟩ = some (.int .i64 p4) := (hPw8.cell (p := ⟨_, _, none⟩) zgw7).trans g15w7
                have g16w8 : w8.cell? ⟨w.heap.size + 1 + 1, 16, none⟩ = some (.string p5) := (hPw8.cell (p := ⟨_, _, none⟩) zgw7).trans g16w7
                have g17w8 : w8.cell? ⟨w.heap.size + 1 + 1, 17, none⟩ = some (.string q0) := (hPw8.cell (p := ⟨_, _, none⟩) zgw7).trans g17w7
                have g18w8 : w8.cell? ⟨w.heap.size + 1 + 1, 18, none⟩ = some (.string q1) := (hPw8.cell (p := ⟨_, _, none⟩) zgw7).trans g18w7
                have g19w8 : w8.cell? ⟨w.heap.size + 1 + 1, 19, none⟩ = some (.string q2) := (hPw8.cell (p := ⟨_, _, none⟩) zgw7).trans g19w7
                have g20w8 : w8.cell? ⟨w.heap.size + 1 + 1, 20, none⟩ = some (.int .i64 q3) := (hPw8.cell (p := ⟨_, _, none⟩) zgw7).trans g20w7
                have g21w8 : w8.cell? ⟨w.heap.size + 1 + 1, 21, none⟩ = some (.string q4) := (hPw8.cell (p := ⟨_, _, none⟩) zgw7).trans g21w7
                have za1w8 : w4.heap.size < w8.heap.size := by omega
                have a10w8 : w8.cell? ⟨w4.heap.size, 0, none⟩ = some (.slice oa1 (ns + 1) ca1) := (hPw8.cell (p := ⟨_, _, none⟩) za1w7).trans a10w7
                have a11w8 : w8.cell? ⟨w4.heap.size, 1, none⟩ = some (.slice pa1 nb da1) := (hPw8.cell (p := ⟨_, _, none⟩) za1w7).trans a11w7
                have za2w8 : w5.heap.size < w8.heap.size := by omega
                have a20w8 : w8.cell? ⟨w5.heap.size, 0, none⟩ = some (.slice oa2 Na21 ca2) := (hPw8.cell (p := ⟨_, _, none⟩) za2w7).trans a20w7
                have a21w8 : w8.cell? ⟨w5.heap.size, 1, none⟩ = some (.slice pa2 Na22 da2) := (hPw8.cell (p := ⟨_, _, none⟩) za2w7).trans a21w7
                have zc1w8 : w6.heap.size < w8.heap.size := by omega
                have c10w8 : w8.cell? ⟨w6.heap.size, 0, none⟩ = some (.slice oc1 ns cc1) := (hPw8.cell (p := ⟨_, _, none⟩) zc1w7).trans c10w7
                have c11w8 : w8.cell? ⟨w6.heap.size, 1, none⟩ = some (.slice pc1 (nb + 1) dc1) := (hPw8.cell (p := ⟨_, _, none⟩) zc1w7).trans c11w7
                have zc2w8 : w7.heap.size < w8.heap.size := by omega
                have c20w8 : w8.cell? ⟨w7.heap.size, 0, none⟩ = some (.slice oc2 Nc21 cc2) := (hb.cell (p := ⟨_, _, none⟩) (by simp <;> omega)).trans (by simp [go_sem])
                have c21w8 : w8.cell? ⟨w7.heap.size, 1, none⟩ = some (.slice pc2 Nc22 dc2) := (hb.cell (p := ⟨_, _, none⟩) (by simp <;> omega)).trans (by simp [go_sem])
                replace Ha1 := Lib.hid (Ha1.out.below hPw8)
                replace Ha2 := Lib.hid (Ha2.out.below hPw8)
                replace Hc1 := Lib.hid (Hc1.out.below hPw8)
                replace Hc2 := Lib.hid (Hc2.out.below hPw8)
                have hBw8 : Below w.heap.size w w8 := below_step (w := w) (by first | assumption | go_grown) hb
                clear hb hsw8 hPw8
                clear zsw7 zmw7 zgw7 za1w7 za2w7 zc1w7 s0w7 s1w7 m0w7 m1w7 g0w7 g1w7 g2w7 g3w7 g4w7 g5w7 g6w7 g7w7 g8w7 g9w7 g10w7 g11w7 g12w7 g13w7 g14w7 g15w7 g16w7 g17w7 g18w7 g19w7 g20w7 g21w7 a10w7 a11w7 a20w7 a21w7 c10w7 c11w7
                go_wp2
                go_returns
                exact ⟨rfl, by assumption⟩
            · have kc1 : (Ec1 == 0) = false := by simpa using hc1
              clear hc1
              go_wp2_with fail
              (go_at_call 9; refine (awake_any _ (HML.out.below (by first | assumption | go_grown))).mono ?_; rintro e_ w8 ⟨rfl, hb⟩)
              have hsw8 := hb.size
              (try simp only [World.size_alloc, World.size_setCell] at hsw8)
              have zzw8 : w.heap.size < w8.heap.size := by omega
              have hPw8 : Below w7.heap.size w7 w8 := below_step (w := w7) (by first | exact Below.refl _ _ | go_grown) hb
              have zsw8 : w.heap.size < w8.heap.size := by omega
              have s0w8 : w8.cell? ⟨w.heap.size, 0, none⟩ = some (.slice oa ns ca) := (hPw8.cell (p := ⟨_, _, none⟩) zsw7).trans s0w7
              have s1w8 : w8.cell? ⟨w.heap.size, 1, none⟩ = some (.slice ob nb cb) := (hPw8.cell (p := ⟨_, _, none⟩) zsw7).trans s1w7
              have zmw8 : w.heap.size + 1 < w8.heap.size := by omega
              have m0w8 : w8.cell? ⟨w.heap.size + 1, 0, none⟩ = some (.slice om m.ng cm) := (hPw8.cell (p := ⟨_, _, none⟩) zmw7).trans m0w7
              have m1w8 : w8.cell? ⟨w.heap.size + 1, 1, none⟩ = some (.slice ot m.ns ct) := (hPw8.cell (p := ⟨_, _, none⟩) zmw7).trans m1w7
              have zgw8 : w.heap.size + 1 + 1 < w8.heap.size := by omega
              have g0w8 : w8.cell? ⟨w.heap.size + 1 + 1, 0, none⟩ = some (.string x0) := (hPw8.cell (p := ⟨_, _, none⟩) zgw7).trans g0w7
              have g1w8 : w8.cell? ⟨w.heap.size + 1 + 1, 1, none⟩ = some (.string x1) := (hPw8.cell (p := ⟨_, _, none⟩) zgw7).trans g1w7
              have g2w8 : w8.cell? ⟨w.heap.size + 1 + 1, 2, none⟩ = some (.int .i64 x2) := (hPw8.cell (p := ⟨_, _, none⟩) zgw7).trans g2w7
              have g3w8 : w8.cell? ⟨w.heap.size + 1 + 1, 3, none⟩ = some (.int .i64 x3) := (hPw8.cell (p := ⟨_, _, none⟩) zgw7).trans g3w7
              have g4w8 : w8.cell? ⟨w.heap.size + 1 + 1, 4, none⟩ = some (.int .i64 x4) := (hPw8.cell (p := ⟨_, _, none⟩) zgw7).trans g4w7
              have g5w8 : w8.cell? ⟨w.heap.size + 1 + 1, 5, none⟩ = some (.string x5) := (hPw8.cell (p := ⟨_, _, none⟩) zgw7).trans g5w7
              have g6w8 : w8.cell? ⟨w.heap.size + 1 + 1, 6, none⟩ = some (.string y0) := (hPw8.cell (p := ⟨_, _, none⟩) zgw7).trans g6w7
              have g7w8 : w8.cell? ⟨w.heap.size + 1 + 1, 7, none⟩ = some (.string y1) := (hPw8.cell (p := ⟨_, _, none⟩) zgw7).trans g7w7
              have g8w8 : w8.cell? ⟨w.heap.size + 1 + 1, 8, none⟩ = some (.string y2) := (hPw8.cell (p := ⟨_, _, none⟩) zgw7).trans g8w7
              have g9w8 : w8.cell? ⟨w.heap.size + 1 + 1, 9, none⟩ = some (.int .i64 y3) := (hPw8.cell (p := ⟨_, _, none⟩) zgw7).trans g9w7
              have g10w8 : w8.cell? ⟨w.heap.size + 1 + 1, 10, none⟩ = some (.string y4) := (hPw8.cell (p := ⟨_, _, none⟩) zgw7).trans g10w7
              have g11w8 : w8.cell? ⟨w.heap.size + 1 + 1, 11, none⟩ = some (.string p0) := (hPw8.cell (p := ⟨_, _, none⟩) zgw7).trans g11w7
              have g12w8 : w8.cell? ⟨w.heap.size + 1 + 1, 12, none⟩ = some (.string p1) := (hPw8.cell (p := ⟨_, _, none⟩) zgw7).trans g12w7
              have g13w8 : w8.cell? ⟨w.heap.size + 1 + 1, 13, none⟩ = some (.int .i64 p2) := (hPw8.cell (p := ⟨_, _, none⟩) zgw7).trans g13w7
              have g14w8 : w8.cell? ⟨w.heap.size + 1 + 1, 14, none⟩ = some (.int .i64 p3) := (hPw8.cell (p := ⟨_, _, none⟩) zgw7).trans g14w7
              have g15w8 : w8.cell? ⟨w.heap.size + 1 + 1, 15, none⟩ = some (.int .i64 p4) := (hPw8.cell (p := ⟨_, _, none⟩) zgw7).trans g15w7
              have g16w8 : w8.cell? ⟨w.heap.size + 1 + 1, 16, none⟩ = some (.string p5) := (hPw8.cell (p := ⟨_, _, none⟩) zgw7).trans g16w7
              have g17w8 : w8.cell? ⟨w.heap.size + 1 + 1, 17, none⟩ = some (.string q0) := (hPw8.cell (p := ⟨_, _, none⟩) zgw7).trans g17w7
              have g18w8 : w8.cell? ⟨w.heap.size + 1 + 1, 18, none⟩ = some (.string q1) := (hPw8.cell (p := ⟨_, _, none⟩) zgw7).trans g18w7
              have g19w8 : w8.cell? ⟨w.heap.size + 1 + 1, 19, none⟩ = some (.string q2) := (hPw8.cell (p := ⟨_, _, none⟩) zgw7).trans g19w7
              have g20w8 : w8.cell? ⟨w.heap.size + 1 + 1, 20, none⟩ = some (.int .i64 q3) := (hPw8.cell (p := ⟨_, _, none⟩) zgw7).trans g20w7
              have g21w8 : w8.cell? ⟨w.heap.size + 1 + 1, 21, none⟩ = some (.string q4) := (hPw8.cell (p := ⟨_, _, none⟩) zgw7).trans g21w7
              have za1w8 : w4.heap.size < w8.heap.size := by omega
              have a10w8 : w8.cell? ⟨w4.heap.size, 0, none⟩ = some (.slice oa1 (ns + 1) ca1) := (hPw8.cell (p := ⟨_, _, none⟩) za1w7).trans a10w7
              have a11w8 : w8.cell? ⟨w4.heap.size, 1, none⟩ = some (.slice pa1 nb da1) := (hPw8.cell (p := ⟨_, _, none⟩) za1w7).trans a11w7
              have za2w8 : w5.heap.size < w8.heap.size := by omega
              have a20w8 : w8.cell? ⟨w5.heap.size, 0, none⟩ = some (.slice oa2 Na21 ca2) := (hPw8.cell (p := ⟨_, _, none⟩) za2w7).trans a20w7
              have a21w8 : w8.cell? ⟨w5.heap.size, 1, none⟩ = some (.slice pa2 Na22 da2) := (hPw8.cell (p := ⟨_, _, none⟩) za2w7).trans a21w7
              have zc1w8 : w6.heap.size < w8.heap.size := by omega
              have c10w8 : w8.cell? ⟨w6.heap.size, 0, none⟩ = some (.slice oc1 Nc11 cc1) := (hPw8.cell (p := ⟨_, _, none⟩) zc1w7).trans c10w7
              have c11w8 : w8.cell? ⟨w6.heap.size, 1, none⟩ = some (.slice pc1 Nc12 dc1) := (hPw8.cell (p := ⟨_, _, none⟩) zc1w7).trans c11w7
              have zc2w8 : w7.heap.size < w8.heap.size := by omega
              have c20w8 : w8.cell? ⟨w7.heap.size, 0, none⟩ = some (.slice oc2 Nc21 cc2) := (hb.cell (p := ⟨_, _, none⟩) (by simp <;> omega)).trans (by simp [go_sem])
              have c21w8 : w8.cell? ⟨w7.heap.size, 1, none⟩ = some (.slice pc2 Nc22 dc2) := (hb.cell (p := ⟨_, _, none⟩) (by simp <;> omega)).trans (by simp [go_sem])
              replace Ha1 := Lib.hid (Ha1.out.below hPw8)
              replace Ha2 := Lib.hid (Ha2.out.below hPw8)
              replace Hc1 := Lib.hid (Hc1.out.below hPw8)
              replace Hc2 := Lib.hid (Hc2.out.below hPw8)
              have hBw8 : Below w.heap.size w w8 := below_step (w := w) (by first | assumption | go_grown) hb
              clear hb hsw8 hPw8
              clear zsw7 zmw7 zgw7 za1w7 za2w7 zc1w7 s0w7 s1w7 m0w7 m1w7 g0w7 g1w7 g2w7 g3w7 g4w7 g5w7 g6w7 g7w7 g8w7 g9w7 g10w7 g11w7 g12w7 g13w7 g14w7 g15w7 g16w7 g17w7 g18w7 g19w7 g20w7 g21w7 a10w7 a11w7 a20w7 a21w7 c10w7 c11w7
              go_wp2
              go_returns
              exact ⟨rfl, by assumption⟩
        · have ka1 : (Ea1 == 0) = false := by simpa using ha1
          clear ha1
          obtain ⟨Ec1, hEc1⟩ : ∃ E, addS (barE m (⟨y0, y1, y2, y3, y4⟩ : Br)) (addE Br.id eb nb (⟨y0, y1, y2, y3, y4⟩ : Br)) = E := ⟨_, rfl⟩
          obtain ⟨Nc11, hNc11⟩ : ∃ N, (if Ec1 = 0 then ns else 0) = N := ⟨_, rfl⟩
          have HNc11 := Lib.hid hNc11
          clear hNc11
          obtain ⟨Nc12, hNc12⟩ : ∃ N, (if Ec1 = 0 then nb + 1 else 0) = N := ⟨_, rfl⟩
          have HNc12 := Lib.hid hNc12
          clear hNc12
          have HEc1 := Lib.hid hEc1
          clear hEc1
          obtain ⟨Ec2, hEc2⟩ : ∃ E, addS (barE m (⟨q0, q1, q2, q3, q4⟩ : Br)) (addE Br.id eb nb (⟨q0, q1, q2, q3, q4⟩ : Br)) = E := ⟨_, rfl⟩
          obtain ⟨Nc21, hNc21⟩ : ∃ N, (if Ec2 = 0 then ns else 0) = N := ⟨_, rfl⟩
          have HNc21 := Lib.hid hNc21
          clear hNc21
          obtain ⟨Nc22, hNc22⟩ : ∃ N, (if Ec2 = 0 then nb + 1 else 0) = N := ⟨_, rfl⟩
          have HNc22 := Lib.hid hNc22
          clear hNc22
          have HEc2 := Lib.hid hEc2
          clear hEc2
          go_wp2_with fail
          (go_at_call 18; refine (addBar_gen HR.out _ _ gv (⟨y0, y1, y2, y3, y4⟩ : Br) _ Ec1 Nc11 Nc12 HEc1.out HNc11.out HNc12.out (HST.out.below (by first | assumption | go_grown)) (HM.out.below (by first | assumption | go_grown)) HZY.out (HML.out.below (by first | assumption | go_grown))).mono ?_; rintro e_ w6 ⟨oc1, cc1, pc1, dc1, rfl, hst, hb⟩)
          have hsw6 := hb.size
          (try simp only [World.size_alloc, World.size_setCell] at hsw6)
          have zzw6 : w.heap.size < w6.heap.size := by omega
          have hPw6 : Below w5.heap.size w5 w6 := below_step (w := w5) (by first | exact Below.refl _ _ | go_grown) hb
          have zsw6 : w.heap.size < w6.heap.size := by omega
          have s0w6 : w6.cell? ⟨w.heap.size, 0, none⟩ = some (.slice oa ns ca) := (hPw6.cell (p := ⟨_, _, none⟩) zsw5).trans s0w5
          have s1w6 : w6.cell? ⟨w.heap.size, 1, none⟩ = some (.slice ob nb cb) := (hPw6.cell (p := ⟨_, _, none⟩) zsw5).trans s1w5
          have zmw6 : w.heap.size + 1 < w6.heap.size := by omega
          have m0w6 : w6.cell? ⟨w.heap.size + 1, 0, none⟩ = some (.slice om m.ng cm) := (hPw6.cell (p := ⟨_, _, none⟩) zmw5).trans m0w5
          have m1w6 : w6.cell? ⟨w.heap.size + 1, 1, none⟩ = some (.slice ot m.ns ct) := (hPw6.cell (p := ⟨_, _, none⟩) zmw5).trans m1w5
          have zgw6 : w.heap.size + 1 + 1 < w6.heap.size := by omega
          have g0w6 : w6.cell? ⟨w.heap.size + 1 + 1, 0, none⟩ = some (.string x0) := (hPw6.cell (p := ⟨_, _, none⟩) zgw5).trans g0w5
          have g1w6 : w6.cell? ⟨w.heap.size + 1 + 1, 1, none⟩ = some (.string x1) := (hPw6.cell (p := ⟨_, _, none⟩) zgw5).trans g1w5
          have g2w6 : w6.cell? ⟨w.heap.size + 1 + 1, 2, none⟩ = some (.int .i64 x2) := (hPw6.cell (p := ⟨_, _, none⟩) zgw5).trans g2w5
          have g3w6 : w6.cell? ⟨w.heap.size + 1 + 1, 3, none⟩ = some (.int .i64 x3) := (hPw6.cell (p := ⟨_, _, none⟩) zgw5).trans g3w5
          have g4w6 : w6.cell? ⟨w.heap.size + 1 + 1, 4, none⟩ = some (.int .i64 x4) := (hPw6.cell (p := ⟨_, _, none⟩) zgw5).trans g4w5
          have g5w6 : w6.cell? ⟨w.heap.size + 1 + 1, 5, none⟩ = some (.string x5) := (hPw6.cell (p := ⟨_, _, none⟩) zgw5).trans g5w5
          have g6w6 : w6.cell? ⟨w.heap.size + 1 + 1, 6, none⟩ = some (.string y0) := (hPw6.cell (p := ⟨_, _, none⟩) zgw5).trans g6w5
          have g7w6 : w6.cell? ⟨w.heap.size + 1 + 1, 7, none⟩ = some (.string y1) := (hPw6.cell (p := ⟨_, _, none⟩) zgw5).trans g7w5
          have g8w6 : w6.cell? ⟨w.heap.size + 1 + 1, 8, none⟩ = some (.string y2) := (hPw6.cell (p := ⟨_, _, none⟩) zgw5).trans g8w5
          have g9w6 : w6.cell? ⟨w.heap.size + 1 + 1, 9, none⟩ = some (.int .i64 y3) := (hPw6.cell (p := ⟨_, _, none⟩) zgw5).trans g9w5
          have g10w6 : w6.cell? ⟨w.heap.size + 1 + 1, 10, none⟩ = some (.string y4) := (hPw6.cell (p := ⟨_, _, none⟩) zgw5).trans g10w5
          have g11w6 : w6.cell? ⟨w.heap.size + 1 + 1, 11, none⟩ = some (.string p0) := (hPw6.cell (p := ⟨_, _, none⟩) zgw5).trans g11w5
          have g12w6 : w6.cell? ⟨w.heap.size + 1 + 1, 12, none⟩ = some (.string p1) := (hPw6.cell (p := ⟨_, _, none⟩) zgw5).trans g12w5
          have g13w6 : w6.cell? ⟨w.heap.size + 1 + 1, 13, none⟩ = some (.int .i64 p2) := (hPw6.cell (p := ⟨_, _, none⟩) zgw5).trans g13w5
          have g14w6 : w6.cell? ⟨w.heap.size + 1 + 1, 14, none⟩ = some (.int .i64 p3) := (hPw6.cell (p := ⟨_, _, none⟩) zgw5).trans g14w5
          have g15w6 : w6.cell? ⟨w.heap.size + 1 + 1, 15, none⟩ = some (.int .i64 p4) := (hPw6.cell (p := ⟨_, _, none⟩) zgw5).trans g15w5
          have g16w6 : w6.cell? ⟨w.heap.size + 1 + 1, 16, none⟩ = some (.string p5) := (hPw6.cell (p := ⟨_, _, none⟩) zgw5).trans g16w5
          have g17w6 : w6.cell? ⟨w.heap.size + 1 + 1, 17, none⟩ = some (.string q0) := (hPw6.cell (p := ⟨_, _, none⟩) zgw5).trans g17w5
          have g18w6 : w6.cell? ⟨w.heap.size + 1 + 1, 18, none⟩ = some (.string q1) := (hPw6.cell (p := ⟨_, _, none⟩) zgw5).trans g18w5
          have g19w6 : w6.cell? ⟨w.heap.size + 1 + 1, 19, none⟩ = some (.string q2) := (hPw6.cell (p := ⟨_, _, none⟩) zgw5).trans g19w5
          have g20w6 : w6.cell? ⟨w.heap.size + 1 + 1, 20, none⟩ = some (.int .i64 q3) := (hPw6.cell (p := ⟨_, _, none⟩) zgw5).trans g20w5
          have g21w6 : w6.cell? ⟨w.heap.size + 1 + 1, 21, none⟩ = some (.string q4) := (hPw6.cell (p := ⟨_, _, none⟩) zgw5).trans g21w5
          have za1w6 : w4.heap.size < w6.heap.size := by omega
          have a10w6 : w6.cell? ⟨w4.heap.size, 0, none⟩ = some (.slice oa1 Na11 ca1) := (hPw6.cell (p := ⟨_, _, none⟩) za1w5).trans a10w5
          have a11w6 : w6.cell? ⟨w4.heap.size, 1, none⟩ = some (.slice pa1 Na12 da1) := (hPw6.cell (p := ⟨_, _, none⟩) za1w5).trans a11w5
          have za2w6 : w5.heap.size < w6.heap.size := by omega
          have a20w6 : w6.cell? ⟨w5.heap.size, 0, none⟩ = some (.slice oa2 Na21 ca2) := (hb.cell (p := ⟨_, _, none⟩) (by simp <;> omega)).trans (by simp [go_sem])
          have a21w6 : w6.cell? ⟨w5.heap.size, 1, none⟩ = some (.slice pa2 Na22 da2) := (hb.cell (p := ⟨_, _, none⟩) (by simp <;> omega)).trans (by simp [go_sem])
          replace Ha1 := Lib.hid (Ha1.out.below hPw6)
          replace Ha2 := Lib.hid (Ha2.out.below hPw6)
          have hBw6 : Below w.heap.size w w6 := below_step (w := w) (by first | assumption | go_grown) hb
          have Hc1 := Lib.hid hst
          clear hst
          clear hb hsw6 hPw6
          clear zsw5 zmw5 zgw5 za1w5 s0w5 s1w5 m0w5 m1w5 g0w5 g1w5 g2w5 g3w5 g4w5 g5w5 g6w5 g7w5 g8w5 g9w5 g10w5 g11w5 g12w5 g13w5 g14w5 g15w5 g16w5 g17w5 g18w5 g19w5 g20w5 g21w5 a10w5 a11w5
          go_wp2_with fail
          (go_at_call 18; refine (addBar_gen HR.out _ _ gv (⟨q0, q1, q2, q3, q4⟩ : Br) _ Ec2 Nc21 Nc22 HEc2.out HNc21.out HNc22.out (HST.out.below (by first | assumption | go_grown)) (HM.out.below (by first | assumption | go_grown)) HZQ.out (HML.out.below (by first | assumption | go_grown))).mono ?_; rintro e_ w7 ⟨oc2, cc2, pc2, dc2, rfl, hst, hb⟩)
          have hsw7 := hb.size
          (try simp only [World.size_alloc, World.size_setCell] at hsw7)
          have zzw7 : w.heap.size < w7.heap.size := by omega
          have hPw7 : Below w6.heap.size w6 w7 := below_step (w := w6) (by first | exact Below.refl _ _ | go_grown) hb
          have zsw7 : w.heap.size < w7.heap.size := by omega
          have s0w7 : w7.cell? ⟨w.heap.size, 0, none⟩ = some (.slice oa ns ca) := (hPw7.cell (p := ⟨_, _, none⟩) zsw6).trans s0w6
          have s1w7 : w7.cell? ⟨w.heap.size, 1, none⟩ = some (.slice ob nb cb) := (hPw7.cell (p := ⟨_, _, none⟩) zsw6).trans s1w6
          have zmw7 : w.heap.size + 1 < w7.heap.size := by omega
          have m0w7 : w7.cell? ⟨w.heap.size + 1, 0, none⟩ = some (.slice om m.ng cm) := (hPw7.cell (p := ⟨_, _, none⟩) zmw6).trans m0w6
          have m1w7 : w7.cell? ⟨w.heap.size + 1, 1, none⟩ = some (.slice ot m.ns ct) := (hPw7.cell (p := ⟨_, _, none⟩) zmw6).trans m1w6
          have zgw7 : w.heap.size + 1 + 1 < w7.heap.size := by omega
          have g0w7 : w7.cell? ⟨w.heap.size + 1 + 1, 0, none⟩ = some (.string x0) := (hPw7.cell (p := ⟨_, _, none⟩) zgw6).trans g0w6
          have g1w7 : w7.cell? ⟨w.heap.size + 1 + 1, 1, none⟩ = some (.string x1) := (hPw7.cell (p := ⟨_, _, none⟩) zgw6).trans g1w6
          have g2w7 : w7.cell? ⟨w.heap.size + 1 + 1, 2, none⟩ = some (.int .i64 x2) := (hPw7.cell (p := ⟨_, _, none⟩) zgw6).trans g2w6
          have g3w7 : w7.cell? ⟨w.heap.size + 1 + 1, 3, none⟩ = some (.int .i64 x3) := (hPw7.cell (p := ⟨_, _, none⟩) zgw6).trans g3w6
          have g4w7 : w7.cell? ⟨w.heap.size + 1 + 1, 4, none⟩ = some (.int .i64 x4) := (hPw7.cell (p := ⟨_, _, none⟩) zgw6).trans g4w6
          have g5w7 : w7.cell? ⟨w.heap.size + 1 + 1, 5, none⟩ = some (.string x5) := (hPw7.cell (p := ⟨_, _, none⟩) zgw6).trans g5w6
          have g6w7 : w7.cell? ⟨w.heap.size + 1 + 1, 6, none⟩ = some (.string y0) := (hPw7.cell (p := ⟨_, _, none⟩) zgw6).trans g6w6
          have g7w7 : w7.cell? ⟨w.heap.size + 1 + 1, 7, none⟩ = some (.string y1) := (hPw7.cell (p := ⟨_, _, none⟩) zgw6).trans g7w6
          have g8w7 : w7.cell? ⟨w.heap.size + 1 + 1, 8, none⟩ = some (.string y2) := (hPw7.cell (p := ⟨_, _, none⟩) zgw6).trans g8w6
          have g9w7 : w7.cell? ⟨w.heap.size + 1 + 1, 9, none⟩ = some (.int .i64 y3) := (hPw7.cell (p := ⟨_, _, none⟩) zgw6).trans g9w6
          have g10w7 : w7.cell? ⟨w.heap.size + 1 + 1, 10, none⟩ = some (.string y4) := (hPw7.cell (p := ⟨_, _, none⟩) zgw6).trans g10w6
          have g11w7 : w7.cell? ⟨w.heap.size + 1 + 1, 11, none⟩ = some (.string p0) := (hPw7.cell (p := ⟨_, _, none⟩) zgw6).trans g11w6
          have g12w7 : w7.cell? ⟨w.heap.size + 1 + 1, 12, none⟩ = some (.string p1) := (hPw7.cell (p := ⟨_, _, none⟩) zgw6).trans g12w6
          have g13w7 : w7.cell? ⟨w.heap.size + 1 + 1, 13, none⟩ = some (.int .i64 p2) := (hPw7.cell (p := ⟨_, _, none⟩) zgw6).trans g13w6
          have g14w7 : w7.cell? ⟨w.heap.size + 1 + 1, 14, none⟩ = some (.int .i64 p3) := (hPw7.cell (p := ⟨_, _, none⟩) zgw6).trans g14w6
          have g15w7 : w7.cell? ⟨w.heap.size + 1 + 1, 15, none⟩ = some (.int .i64 p4) := (hPw7.cell (p := ⟨_, _, none⟩) zgw6).trans g15w6
          have g16w7 : w7.cell? ⟨w.heap.size + 1 + 1, 16, none⟩ = some (.string p5) := (hPw7.cell (p := ⟨_, _, none⟩) zgw6).trans g16w6
          have g17w7 : w7.cell? ⟨w.heap.size + 1 + 1, 17, none⟩ = some (.string q0) := (hPw7.cell (p := ⟨_, _, none⟩) zgw6).trans g17w6
          have g18w7 : w7.cell? ⟨w.heap.size + 1 + 1, 18, none⟩ = some (.string q1) := (hPw7.cell (p := ⟨_, _, none⟩) zgw6).trans g18w6
          have g19w7 : w7.cell? ⟨w.heap.size + 1 + 1, 19, none⟩ = some (.string q2) := (hPw7.cell (p := ⟨_, _, none⟩) zgw6).trans g19w6
          have g20w7 : w7.cell? ⟨w.heap.size + 1 + 1, 20, none⟩ = some (.int .i64 q3) := (hPw7.cell (p := ⟨_, _, none⟩) zgw6).trans g20w6
          have g21w7 : w7.cell? ⟨w.heap.size + 1 + 1, 21, none⟩ = some (.string q4) := (hPw7.cell (p := ⟨_, _, none⟩) zgw6).trans g21w6
          have za1w7 : w4.heap.size < w7.heap.size := by omega
          have a10w7 : w7.cell? ⟨w4.heap.size, 0, none⟩ = some (.slice oa1 Na11 ca1) := (hPw7.cell (p := ⟨_, _, none⟩) za1w6).trans a10w6
          have a11w7 : w7.cell? ⟨w4.heap.size, 1, none⟩ = some (.slice pa1 Na12 da1) := (hPw7.cell (p := ⟨_, _, none⟩) za1w6).trans a11w6
          have za2w7 : w5.heap.size < w7.heap.size := by omega
          have a20w7 : w7.cell? ⟨w5.heap.size, 0, none⟩ = some (.slice oa2 Na21 ca2) := (hPw7.cell (p := ⟨_, _, none⟩) za2w6).trans a20w6
          have a21w7 : w7.cell? ⟨w5.heap.size, 1, none⟩ = some (.slice pa2 Na22 da2) := (hPw7.cell (p := ⟨_, _, none⟩) za2w6).trans a21w6
          have zc1w7 : w6.heap.size < w7.heap.size := by omega
          have c10w7 : w7.cell? ⟨w6.heap.size, 0, none⟩ = some (.slice oc1 Nc11 cc1) := (hb.cell (p := ⟨_, _, none⟩) (by simp <;> omega)).trans (by simp [go_sem])
          have c11w7 : w7.cell? ⟨w6.heap.size, 1, none⟩ = some (.slice pc1 Nc12 dc1) := (hb.cell (p := ⟨_, _, none⟩) (by simp <;> omega)).trans (by simp [go_sem])
          replace Ha1 := Lib.hid (Ha1.out.below hPw7)
          replace Ha2 := Lib.hid (Ha2.out.below hPw7)
          replace Hc1 := Lib.hid (Hc1.out.below hPw7)
          have hBw7 : Below w.heap.size w w7 := below_step (w := w) (by first | assumption | go_grown) hb
          have Hc2 := Lib.hid hst
          clear hst
          clear hb hsw7 hPw7
          clear zsw6 zmw6 zgw6 za1w6 za2w6 s0w6 s1w6 m0w6 m1w6 g0w6 g1w6 g2w6 g3w6 g4w6 g5w6 g6w6 g7w6 g8w6 g9w6 g10w6 g11w6 g12w6 g13w6 g14w6 g15w6 g16w6 g17w6 g18w6 g19w6 g20w6 g21w6 a10w6 a11w6 a20w6 a21w6
          by_cases hc1 : Ec1 = 0
          · have hn1 : ns = Nc11 := by rw [← HNc11.out, if_pos hc1]
            have hn2 : nb + 1 = Nc12 := by rw [← HNc12.out, if_pos hc1]
            clear HNc11 HNc12
            subst hc1 hn1 hn2
            by_cases hc2 : Ec2 = 0
            · have hn1 : ns = Nc21 := by rw [← HNc21.out, if_pos hc2]
              have hn2 : nb + 1 = Nc22 := by rw [← HNc22.out, if_pos hc2]
              clear HNc21 HNc22
              subst hc2 hn1 hn2
              obtain ⟨Gc, hGc⟩ : ∃ E, secE Br.id eb nb (⟨y0, y1, y2, y3, y4⟩ : Br) (⟨q0, q1, q2, q3, q4⟩ : Br) = E := ⟨_, rfl⟩
              have HGc := Lib.hid hGc
              obtain ⟨Mc1, hMc1⟩ : ∃ N, (if Gc = 0 then ns else 0) = N := ⟨_, rfl⟩
              have HMc1 := Lib.hid hMc1
              clear hMc1
              obtain ⟨Mc2, hMc2⟩ : ∃ N, (if Gc = 0 then nb + 1 + 1 else 0) = N := ⟨_, rfl⟩
              have HMc2 := Lib.hid hMc2
              clear hMc2
              clear hGc
              go_wp2_with fail
              (go_at_call 18; refine (addBar_sec HR.out _ _ gv (⟨y0, y1, y2, y3, y4⟩ : Br) (⟨q0, q1, q2, q3, q4⟩ : Br) _ Gc Mc1 Mc2 HEc1.out HEc2.out HGc.out HMc1.out HMc2.out (Hc1.out.below (by first | exact Below.refl _ _ | go_grown)) (HM.out.below (by first | assumption | go_grown)) HZQ.out (HML.out.below (by first | assumption | go_grown))).mono ?_; rintro e_ w8 ⟨oc3, cc3, pc3, dc3, rfl, hst, hb⟩)
              have hsw8 := hb.size
              (try simp only [World.size_alloc, World.size_setCell] at hsw8)
              have zzw8 : w.heap.size < w8.heap.size := by omega
              have hPw8 : Below w7.heap.size w7 w8 := below_step (w := w7) (by first | exact Below.refl _ _ | go_grown) hb
              have zsw8 : w.heap.size < w8.heap.size := by omega
              have s0w8 : w8.cell? ⟨w.heap.size, 0, none⟩ = some (.slice oa ns ca) := (hPw8.cell (p := ⟨_, _, none⟩) zsw7).trans s0w7
              have s1w8 : w8.cell? ⟨w.heap.size, 1, none⟩ = some (.slice ob nb cb) := (hPw8.cell (p := ⟨_, _, none⟩) zsw7).trans s1w7
              have zmw8 : w.heap.size + 1 < w8.heap.size := by omega
              have m0w8 : w8.cell? ⟨w.heap.size + 1, 0, none⟩ = some (.slice om m.ng cm) := (hPw8.cell (p := ⟨_, _, none⟩) zmw7).trans m0w7
              have m1w8 : w8.cell? ⟨w.heap.size + 1, 1, none⟩ = some (.slice ot m.ns ct) := (hPw8.cell (p := ⟨_, _, none⟩) zmw7).trans m1w7
              have zgw8 : w.heap.size + 1 + 1 < w8.heap.size := by omega
              have g0w8 : w8.cell? ⟨w.heap.size + 1 + 1, 0, none⟩ = some (.string x0) := (hPw8.cell (p := ⟨_, _, none⟩) zgw7).trans g0w7
              have g1w8 : w8.cell? ⟨w.heap.size + 1 + 1, 1, none⟩ = some (.string x1) := (hPw8.cell (p := ⟨_, _, none⟩) zgw7).trans g1w7
              have g2w8 : w8.cell? ⟨w.heap.size + 1 + 1, 2, none⟩ = some (.int .i64 x2) := (hPw8.cell (p := ⟨_, _, none⟩) zgw7).trans g2w7
              have g3w8 : w8.cell? ⟨w.heap.size + 1 + 1, 3, none⟩ = some (.int .i64 x3) := (hPw8.cell (p := ⟨_, _, none⟩) zgw7).trans g3w7
              have g4w8 : w8.cell? ⟨w.heap.size + 1 + 1, 4, none⟩ = some (.int .i64 x4) := (hPw8.cell (p := ⟨_, _, none⟩) zgw7).trans g4w7
              have g5w8 : w8.cell? ⟨w.heap.size + 1 + 1, 5, none⟩ = some (.string x5) := (hPw8.cell (p := ⟨_, _, none⟩) zgw7).trans g5w7
              have g6w8 : w8.cell? ⟨w.heap.size + 1 + 1, 6, none⟩ = some (.string y0) := (hPw8.cell (p := ⟨_, _, none⟩) zgw7).trans g6w7
              have g7w8 : w8.cell? ⟨w.heap.size + 1 + 1, 7, none⟩ = some (.string y1) := (hPw8.cell (p := ⟨_, _, none⟩) zgw7).trans g7w7
              have g8w8 : w8.cell? ⟨w.heap.size + 1 + 1, 8, none⟩ = some (.string y2) := (hPw8.cell (p := ⟨_, _, none⟩) zgw7).trans g8w7
              have g9w8 : w8.cell? ⟨w.heap.size + 1 + 1, 9, none⟩ = some (.int .i64 y3) := (hPw8.cell (p := ⟨_, _, none⟩) zgw7).trans g9w7
              have g10w8 : w8.cell? ⟨w.heap.size + 1 + 1, 10, none⟩ = some (.string y4) := (hPw8.cell (p := ⟨_, _, none⟩) zgw7).trans g10w7
              have g11w8 : w8.cell? ⟨w.heap.size + 1 + 1, 11, none⟩ = some (.string p0) := (hPw8.cell (p := ⟨_, _, none⟩) zgw7).trans g11w7
              have g12w8 : w8.cell? ⟨w.heap.size + 1 + 1, 12, none⟩ = some (.string p1) := (hPw8.cell (p := ⟨_, _, none⟩) zgw7).trans g12w7
              have g13w8 : w8.cell? ⟨w.heap.size + 1 + 1, 13, none⟩ = some (.int .i64 p2) := (hPw8.cell (p := ⟨_, _, none⟩) zgw7).trans g13w7
              have g14w8 : w8.cell? ⟨w.heap.size + 1 + 1, 14, none⟩ = some (.int .i64 p3) := (hPw8.cell (p := ⟨_, _, none⟩) zgw7).trans g14w7
              have g15w8 : w8.cell? ⟨w.heap.size + 1 + 1, 15, none⟩ = some (.int .i64 p4) := (hPw8.cell (p := ⟨_, _, none⟩) zgw7).trans g15w7
              have g16w8 : w8.cell? ⟨w.heap.size + 1 + 1, 16, none⟩ = some (.string p5) := (hPw8.cell (p := ⟨_, _, none⟩) zgw7).trans g16w7
              have g17w8 : w8.cell? ⟨w.heap.size + 1 + 1, 17, none⟩ = some (.string q0) := (hPw8.cell (p := ⟨_, _, none⟩) zgw7).trans g17w7
              have g18w8 : w8.cell? ⟨w.heap.size + 1 + 1, 18, none⟩ = some (.string q1) := (hPw8.cell (p := ⟨_, _, none⟩) zgw7).trans g18w7
              have g19w8 : w8.cell? ⟨w.heap.size + 1 + 1, 19, none⟩ = some (.string q2) := (hPw8.cell (p := ⟨_, _, none⟩) zgw7).trans g19w7
              have g20w8 : w8.cell? ⟨w.heap.size + 1 + 1, 20, none⟩ = some (.int .i64 q3) := (hPw8.cell (p := ⟨_, _, none⟩) zgw7).trans g20w7
              have g21w8 : w8.cell? ⟨w.heap.size + 1 + 1, 21, none⟩ = some (.string q4) := (hPw8.cell (p := ⟨_, _, none⟩) zgw7).trans g21w7
              have za1w8 : w4.heap.size < w8.heap.size := by omega
              have a10w8 : w8.cell? ⟨w4.heap.size, 0, none⟩ = some (.slice oa1 Na11 ca1) := (hPw8.cell (p := ⟨_, _, none⟩) za1w7).trans a10w7
              have a11w8 : w8.cell? ⟨w4.heap.size, 1, none⟩ = some (.slice pa1 Na12 da1) := (hPw8.cell (p := ⟨_, _, none⟩) za1w7).trans a11w7
              have za2w8 : w5.heap.size < w8.heap.size := by omega
              have a20w8 : w8.cell? ⟨w5.heap.size, 0, none⟩ = some (.slice oa2 Na21 ca2) := (hPw8.cell (p := ⟨_, _, none⟩) za2w7).trans a20w7
              have a21w8 : w8.cell? ⟨w5.heap.size, 1, none⟩ = some (.slice pa2 Na22 da2) := (hPw8.cell (p := ⟨_, _, none⟩) za2w7).trans a21w7
              have zc1w8 : w6.heap.size < w8.heap.size := by omega
              have c10w8 : w8.cell? ⟨w6.heap.size, 0, none⟩ = some (.slice oc1 ns cc1) := (hPw8.cell (p := ⟨_, _, none⟩) zc1w7).trans c10w7
              have c11w8 : w8.cell? ⟨w6.heap.size, 1, none⟩ = some (.slice pc1 (nb + 1) dc1) := (hPw8.cell (p := ⟨_, _, none⟩) zc1w7).trans c11w7
              have zc2w8 : w7.heap.size < w8.heap.size := by omega
              have c20w8 : w8.cell? ⟨w7.heap.size, 0, none⟩ = some (.slice oc2 ns cc2) := (hb.cell (p := ⟨_, _, none⟩) (by simp <;> omega)).trans (by simp [go_sem])
              have c21w8 : w8.cell? ⟨w7.heap.size, 1, none⟩ = some (.slice pc2 (nb + 1) dc2) := (hb.cell (p := ⟨_, _, none⟩) (by simp <;> omega)).trans (by simp [go_sem])
              replace Ha1 := Lib.hid (Ha1.out.below hPw8)
              replace Ha2 := Lib.hid (Ha2.out.below hPw8)
              replace Hc1 := Lib.hid (Hc1.out.below hPw8)
              replace Hc2 := Lib.hid (Hc2.out.below hPw8)
              have hBw8 : Below w.heap.size w w8 := below_step (w := w) (by first | assumption | go_grown) hb
              have Hc3 := Lib.hid hst
              clear hst
              clear hb hsw8 hPw8
              clear zsw7 zmw7 zgw7 za1w7 za2w7 zc1w7 s0w7 s1w7 m0w7 m1w7 g0w7 g1w7 g2w7 g3w7 g4w7 g5w7 g6w7 g7w7 g8w7 g9w7 g10w7 g11w7 g12w7 g13w7 g14w7 g15w7 g16w7 g17w7 g18w7 g19w7 g20w7 g21w7 a10w7 a11w7 a20w7 a21w7 c10w7 c11w7
              go_wp2_with fail
              (go_at_call 18; refine (addBar_sec2 HR.out _ _ gv (⟨y0, y1, y2, y3, y4⟩ : Br) (⟨q0, q1, q2, q3, q4⟩ : Br) _ Gc Mc1 Mc2 HEc1.out HEc2.out HGc.out HMc1.out HMc2.out (Hc2.out.below (by first | exact Below.refl _ _ | go_grown)) (HM.out.below (by first | assumption | go_grown)) HZY.out (HML.out.below (by first | assumption | go_grown))).mono ?_; rintro e_ w9 ⟨oc4, cc4, pc4, dc4, rfl, hst, hb⟩)
              have hsw9 := hb.size
              (try simp only [World.size_alloc, World.size_setCell] at hsw9)
              have zzw9 : w.heap.size < w9.heap.size := by omega
              have hPw9 : Below w8.heap.size w8 w9 := below_step (w := w8) (by first | exact Below.refl _ _ | go_grown) hb
              have zsw9 : w.heap.size < w9.heap.size := by omega
              have s0w9 : w9.cell? ⟨w.heap.size, 0, none⟩ = some (.slice oa ns ca) := (hPw9.cell (p := ⟨_, _, none⟩) zsw8).trans s0w8
              have s1w9 : w9.cell? ⟨w.heap.size, 1, none⟩ = some (.slice ob nb cb) := (hPw9.cell (p := ⟨_, _, none⟩) zsw8).trans s1w8
              have zmw9 : w.heap.size + 1 < w9.heap.size := by omega
              have m0w9 : w9.cell? ⟨w.heap.size + 1, 0, none⟩ = some (.slice om m.ng cm) := (hPw9.cell (p := ⟨_, _, none⟩) zmw8).trans m0w8
              have m1w9 : w9.cell? ⟨w.heap.size + 1, 1, none⟩ = some (.slice ot m.ns ct) := (hPw9.cell (p := ⟨_, _, none⟩) zmw8).trans m1w8
              have zgw9 : w.heap.size + 1 + 1 < w9.heap.size := by omega
              have g0w9 : w9.cell? ⟨w.heap.size + 1 + 1, 0, none⟩ = some (.string x0) := (hPw9.cell (p := ⟨_, _, none⟩) zgw8).trans g0w8
              have g1w9 : w9.cell? ⟨w.heap.size + 1 + 1, 1, none⟩ = some (.string x1) := (hPw9.cell (p := ⟨_, _, none⟩) zgw8).trans g1w8
              have g2w9 : w9.cell? ⟨w.heap.size + 1 + 1, 2, none⟩ = some (.int .i64 x2) := (hPw9.cell (p := ⟨_, _, none⟩) zgw8).trans g2w8
              have g3w9 : w9.cell? ⟨w.heap.size + 1 + 1, 3, none⟩ = some (.int .i64 x3) := (hPw9.cell (p := ⟨_, _, none⟩) zgw8).trans g3w8
              have g4w9 : w9.cell? ⟨w.heap.size + 1 + 1, 4, none⟩ = some (.int .i64 x4) := (hPw9.cell (p := ⟨_, _, none⟩) zgw8).trans g4w8
              have g5w9 : w9.cell? ⟨w.heap.size + 1 + 1, 5, none⟩ = some (.string x5) := (hPw9.cell (p := ⟨_, _, none⟩) zgw8).trans g5w8
              have g6w9 : w9.cell? ⟨w.heap.size + 1 + 1, 6, none⟩ = some (.string y0) := (hPw9.cell (p := ⟨_, _, none⟩) zgw8).trans g6w8
              have g7w9 : w9.cell? ⟨w.heap.size + 1 + 1, 7, none⟩ = some (.string y1) := (hPw9.cell (p := ⟨_, _, none⟩) zgw8).trans g7w8
              have g8w9 : w9.cell? ⟨w.heap.size + 1 + 1, 8, none⟩ = some (.string y2) := (hPw9.cell (p := ⟨_, _, none⟩) zgw8).trans g8w8
              have g9w9 : w9.cell? ⟨w.heap.size + 1 + 1, 9, none⟩ = some (.int .i64 y3) := (hPw9.cell (p := ⟨_, _, none⟩) zgw8).trans g9w8
              have g10w9 : w9.cell? ⟨w.heap.size + 1 + 1, 10, none⟩ = some (.string y4) := (hPw9.cell (p := ⟨_, _, none⟩) zgw8).trans g10w8
              have g11w9 : w9.cell? ⟨w.heap.size + 1 + 1, 11, none⟩ = some (.string p0) := (hPw9.cell (p := ⟨_, _, none⟩) zgw8).trans g11w8
              have g12w9 : w9.cell? ⟨w.heap.size + 1 + 1, 12, none⟩ = some (.string p1) := (hPw9.cell (p := ⟨_, _, none⟩) zgw8).trans g12w8
              have g13w9 : w9.cell? ⟨w.heap.size + 1 + 1, 13, none⟩ = some (.int .i64 p2) := (hPw9.cell (p := ⟨_, _, none⟩) zgw8).trans g13w8
              have g14w9 : w9.cell? ⟨w.heap.size + 1 + 1, 14, none⟩ = some (.int .i64 p3) := (hPw9.cell (p := ⟨_, _, none⟩) zgw8).trans g14w8
              have g15w9 : w9.cell? ⟨w.heap.size + 1 + 1, 15, none⟩ = some (.int .i64 p4) := (hPw9.cell (p := ⟨_, _, none⟩) zgw8).trans g15w8
              have g16w9 : w9.cell? ⟨w.heap.size + 1 + 1, 16, none⟩ = some (.string p5) := (hPw9.cell (p := ⟨_, _, none⟩) zgw8).trans g16w8
              have g17w9 : w9.cell? ⟨w.heap.size + 1 + 1, 17, none⟩ = some (.string q0) := (hPw9.cell (p := ⟨_, _, none⟩) zgw8).trans g17w8
              have g18w9 : w9.cell? ⟨w.heap.size + 1 + 1, 18, none⟩ = some (.string q1) := (hPw9.cell (p := ⟨_, _, none⟩) zgw8).trans g18w8
              have g19w9 : w9.cell? ⟨w.heap.size + 1 + 1, 19, none⟩ = some (.string q2) := (hPw9.cell (p := ⟨_, _, none⟩) zgw8).trans g19w8
              have g20w9 : w9.cell? ⟨w.heap.size + 1 + 1, 20, none⟩ = some (.int .i64 q3) := (hPw9.cell (p := ⟨_, _, none⟩) zgw8).trans g20w8
              have g21w9 : w9.cell? ⟨w.heap.size + 1 + 1, 21, none⟩ = some (.string q4) := (hPw9.cell (p := ⟨_, _, none⟩) zgw8).trans g21w8
              have za1w9 : w4.heap.size < w9.heap.size := by omega
              have a10w9 : w9.cell? ⟨w4.heap.size, 0, none⟩ = some (.slice oa1 Na11 ca1) := (hPw9.cell (p := ⟨_, _, none⟩) za1w8).trans a10w8
              have a11w9 : w9.cell? ⟨w4.heap.size, 1, none⟩ = some (.slice pa1 Na12 da1) := (hPw9.cell (p := ⟨_, _, none⟩) za1w8).trans a11w8
              have za2w9 : w5.heap.size < w9.heap.size := by omega
              have a20w9 : w9.cell? ⟨w5.heap.size, 0, none⟩ = some (.slice oa2 Na21 ca2) := (hPw9.cell (p := ⟨_, _, none⟩) za2w8).trans a20w8
              have a21w9 : w9.cell? ⟨w5.heap.size, 1, none⟩ = some (.slice pa2 Na22 da2) := (hPw9.cell (p := ⟨_, _, none⟩) za2w8).trans a21w8
              have zc1w9 : w6.heap.size < w9.heap.size := by omega
              have c10w9 : w9.cell? ⟨w6.heap.size, 0, none⟩ = some (.slice oc1 ns cc1) := (hPw9.cell (p := ⟨_, _, none⟩) zc1w8).trans c10w8
              have c11w9 : w9.cell? ⟨w6.heap.size, 1, none⟩ = some (.slice pc1 (nb + 1) dc1) := (hPw9.cell (p := ⟨_, _, none⟩) zc1w8).trans c11w8
              have zc2w9 : w7.heap.size < w9.heap.size := by omega
              have c20w9 : w9.cell? ⟨w7.heap.size, 0, none⟩ = some (.slice oc2 ns cc2) := (hPw9.cell (p := ⟨_, _, none⟩) zc2w8).trans c20w8
              have c21w9 : w9.cell? ⟨w7.heap.size, 1, none⟩ = some (.slice pc2 (nb + 1) dc2) := (hPw9.cell (p := ⟨_, _, none⟩) zc2w8).trans c21w8
              have zc3w9 : w8.heap.size < w9.heap.size := by omega
              have c30w9 : w9.cell? ⟨w8.heap.size, 0, none⟩ = some (.slice oc3 Mc1 cc3) := (hb.cell (p := ⟨_, _, none⟩) (by simp <;> omega)).trans (by simp [go_sem])
              have c31w9 : w9.cell? ⟨w8.heap.size, 1, none⟩ = some (.slice pc3 Mc2 dc3) := (hb.cell (p := ⟨_, _, none⟩) (by simp <;> omega)).trans (by simp [go_sem])
              replace Ha1 := Lib.hid (Ha1.out.below hPw9)
              replace Ha2 := Lib.hid (Ha2.out.below hPw9)
              replace Hc1 := Lib.hid (Hc1.out.below hPw9)
              replace Hc2 := Lib.hid (Hc2.out.below hPw9)
              replace Hc3 := Lib.hid (Hc3.out.below hPw9)
              have hBw9 : Below w.heap.size w w9 := below_step (w := w) (by first | assumption | go_grown) hb
              have Hc4 := Lib.hid hst
              clear hst
              clear hb hsw9 hPw9
              clear zsw8 zmw8 zgw8 za1w8 za2w8 zc1w8 zc2w8 s0w8 s1w8 m0w8 m1w8 g0w8 g1w8 g2w8 g3w8 g4w8 g5w8 g6w8 g7w8 g8w8 g9w8 g10w8 g11w8 g12w8 g13w8 g14w8 g15w8 g16w8 g17w8 g18w8 g19w8 g20w8 g21w8 a10w8 a11w8 a20w8 a21w8 c10w8 c11w8 c20w8 c21w8
              go_wp2_with fail
              (go_at_call 13; refine (rsame_self _ (Hc3.out.below (by first | exact Below.refl _ _ | go_grown)) (Hc4.out.below (by first | exact Below.refl _ _ | go_grown))).mono ?_; rintro e_ w10 ⟨rfl, hb⟩)
              have hsw10 := hb.size
              (try simp only [World.size_alloc, World.size_setCell] at hsw10)
              have zzw10 : w.heap.size < w10.heap.size := by omega
              have hPw10 : Below w9.heap.size w9 w10 := below_step (w := w9) (by first | exact Below.refl _ _ | go_grown) hb
              have zsw10 : w.heap.size < w10.heap.size := by omega
              have s0w10 : w10.cell? ⟨w.heap.size, 0, none⟩ = some (.slice oa ns ca) := (hPw10.cell (p := ⟨_, _, none⟩) zsw9).trans s0w9
              have s1w10 : w10.cell? ⟨w.heap.size, 1, none⟩ = some (.slice ob nb cb) := (hPw10.cell (p := ⟨_, _, none⟩) zsw9).trans s1w9
              have zmw10 : w.heap.size + 1 < w10.heap.size := by omega
              have m0w10 : w10.cell? ⟨w.heap.size + 1, 0, none⟩ = some (.slice om m.ng cm) := (hPw10.cell (p := ⟨_, _, none⟩) zmw9).trans m0w9
              have m1w10 : w10.cell? ⟨w.heap.size + 1, 1, none⟩ = some (.slice ot m.ns ct) := (hPw10.cell (p := ⟨_, _, none⟩) zmw9).trans m1w9
              have zgw10 : w.heap.size + 1 + 1 < w10.heap.size := by omega
              have g0w10 : w10.cell? ⟨w.heap.size + 1 + 1, 0, none⟩ = some (.string x0) := (hPw10.cell (p := ⟨_, _, none⟩) zgw9).trans g0w9
              have g1w10 : w10.cell? ⟨w.heap.size + 1 + 1, 1, none⟩ = some (.string x1) := (hPw10.cell (p := ⟨_, _, none⟩) zgw9).trans g1w9
              have g2w10 : w10.cell? ⟨w.heap.size + 1 + 1, 2, none⟩ = some (.int .i64 x2) := (hPw10.cell (p := ⟨_, _, none⟩) zgw9).trans g2w9
              have g3w10 : w10.cell? ⟨w.heap.size + 1 + 1, 3, none⟩ = some (.int .i64 x3) := (hPw10.cell (p := ⟨_, _, none⟩) zgw9).trans g3w9
              have g4w10 : w10.cell? ⟨w.heap.size + 1 + 1, 4, none⟩ = some (.int .i64 x4) := (hPw10.cell (p := ⟨_, _, none⟩) zgw9).trans g4w9
              have g5w10 : w10.cell? ⟨w.heap.size + 1 + 1, 5, none⟩ = some (.string x5) := (hPw10.cell (p := ⟨_, _, none⟩) zgw9).trans g5w9
              have g6w10 : w10.cell? ⟨w.heap.size + 1 + 1, 6, none⟩ = some (.string y0) := (hPw10.cell (p := ⟨_, _, none⟩) zgw9).trans g6w9
              have g7w10 : w10.cell? ⟨w.heap.size + 1 + 1, 7, none⟩ = some (.string y1) := (hPw10.cell (p := ⟨_, _, none⟩) zgw9).trans g7w9
              have g8w10 : w10.cell? ⟨w.heap.size + 1 + 1, 8, none⟩ = some (.string y2) := (hPw10.cell (p := ⟨_, _, none⟩) zgw9).trans g8w9
              have g9w10 : w10.cell? ⟨w.heap.size + 1 + 1, 9, none⟩ = some (.int .i64 y3) := (hPw10.cell (p := ⟨_, _, none⟩) zgw9).trans g9w9
              have g10w10 : w10.cell? ⟨w.heap.size + 1 + 1, 10, none⟩ = some (.string y4) := (hPw10.cell (p := ⟨_, _, none⟩) zgw9).trans g10w9
              have g11w10 : w10.cell? ⟨w.heap.size + 1 + 1, 11, none⟩ = some (.string p0) := (hPw10.cell (p := ⟨_, _, none⟩) zgw9).trans g11w9
              have g12w10 : w10.cell? ⟨w.heap.size + 1 + 1, 12, none⟩ = some (.string p1) := (hPw10.cell (p := ⟨_, _, none⟩) zgw9).trans g12w9
              have g13w10 : w10.cell? ⟨w.heap.size + 1 + 1, 13, none⟩ = some (.int .i64 p2) := (hPw10.cell (p := ⟨_, _, none⟩) zgw9).trans g13w9
              have g14w10 : w10.cell? ⟨w.heap.size + 1 + 1, 14, none⟩ = some (.int .i64 p3) := (hPw10.cell (p := ⟨_, _, none⟩) zgw9).trans g14w9
              have g15w10 : w10.cell? ⟨w.heap.size + 1 + 1, 15, none⟩ = some (.int .i64 p4) := (hPw10.cell (p := ⟨_, _, none⟩) zgw9).trans g15w9
              have g16w10 : w10.cell? ⟨w.heap.size + 1 + 1, 16, none⟩ = some (.string p5) := (hPw10.cell (p := ⟨_, _, none⟩) zgw9).trans g16w9
              have g17w10 : w10.cell? ⟨w.heap.size + 1 + 1, 17, none⟩ = some (.string q0) := (hPw10.cell (p := ⟨_, _, none⟩) zgw9).trans g17w9
              have g18w10 : w10.cell? ⟨w.heap.size + 1 + 1, 18, none⟩ = some (.string q1) := (hPw10.cell (p := ⟨_, _, none⟩) zgw9).trans g18w9
              have g19w10 : w10.cell? ⟨w.heap.size + 1 + 1, 19, none⟩ = some (.string q2) := (hPw10.cell (p := ⟨_, _, none⟩) zgw9).trans g19w9
              have g20w10 : w10.cell? ⟨w.heap.size + 1 + 1, 20, none⟩ = some (.int .i64 q3) := (hPw10.cell (p := ⟨_, _, none⟩) zgw9).trans g20w9
              have g21w10 : w10.cell? ⟨w.heap.size + 1 + 1, 21, none⟩ = some (.string q4) := (hPw10.cell (p := ⟨_, _, none⟩) zgw9).trans g21w9
              have za1w10 : w4.heap.size < w10.heap.size := by omega
              have a10w10 : w10.cell? ⟨w4.heap.size, 0, none⟩ = some (.slice oa1 Na11 ca1) := (hPw10.cell (p := ⟨_, _, none⟩) za1w9).trans a10w9
              have a11w10 : w10.cell? ⟨w4.heap.size, 1, none⟩ = some (.slice pa1 Na12 da1) := (hPw10.cell (p := ⟨_, _, none⟩) za1w9).trans a11w9
              have za2w10 : w5.heap.size < w10.heap.size := by omega
              have a20w10 : w10.cell? ⟨w5.heap.size, 0, none⟩ = some (.slice oa2 Na21 ca2) := (hPw10.cell (p := ⟨_, _, none⟩) za2w9).trans a20w9
              have a21w10 : w10.cell? ⟨w5.heap.size, 1, none⟩ = some (.slice pa2 Na22 da2) := (hPw10.cell (p := ⟨_, _, none⟩) za2w9).trans a21w9
              have zc1w10 : w6.heap.size < w10.heap.size := by omega
              have c10w10 : w10.cell? ⟨w6.heap.size, 0, none⟩ = some (.slice oc1 ns cc1) := (hPw10.cell (p := ⟨_, _, none⟩) zc1w9).trans c10w9
              have c11w10 : w10.cell? ⟨w6.heap.size, 1, none⟩ = some (.slice pc1 (nb + 1) dc1) := (hPw10.cell (p := ⟨_, _, none⟩) zc1w9).trans c11w9
              have zc2w10 : w7.heap.size < w10.heap.size := by omega
              have c20w10 : w10.cell? ⟨w7.heap.size, 0, none⟩ = some (.slice oc2 ns cc2) := (hPw10.cell (p := ⟨_, _, none⟩) zc2w9).trans c20w9
              have c21w10 : w10.cell? ⟨w7.heap.size, 1, none⟩ = some (.slice pc2 (nb + 1) dc2) := (hPw10.cell (p := ⟨_, _, none⟩) zc2w9).trans c21w9
              have zc3w10 : w8.heap.size < w10.heap.size := by omega
              have c30w10 : w10.cell? ⟨w8.heap.size, 0, none⟩ = some (.slice oc3 Mc1 cc3) := (hPw10.cell (p := ⟨_, _, none⟩) zc3w9).trans c30w9
              have c31w10 : w10.cell? ⟨w8.heap.size, 1, none⟩ = some (.slice pc3 Mc2 dc3) := (hPw10.cell (p := ⟨_, _, none⟩) zc3w9).trans c31w9
              have zc4w10 : w9.heap.size < w10.heap.size := by omega
              have c40w10 : w10.cell? ⟨w9.heap.size, 0, none⟩ = some (.slice oc4 Mc1 cc4) := (hb.cell (p := ⟨_, _, none⟩) (by simp <;> omega)).trans (by simp [go_sem])
              have c41w10 : w10.cell? ⟨w9.heap.size, 1, none⟩ = some (.slice pc4 Mc2 dc4) := (hb.cell (p := ⟨_, _, none⟩) (by simp <;> omega)).trans (by simp [go_sem])
              replace Ha1 := Lib.hid (Ha1.out.below hPw10)
              replace Ha2 := Lib.hid (Ha2.out.below hPw10)
              replace Hc1 := Lib.hid (Hc1.out.below hPw10)
              replace Hc2 := Lib.hid (Hc2.out.below hPw10)
              replace Hc3 := Lib.hid (Hc3.out.below hPw10)
              replace Hc4 := Lib.hid (Hc4.out.below hPw10)
              have hBw10 : Below w.heap.size w w10 := below_step (w := w) (by first | assumption | go_grown) hb
              clear hb hsw10 hPw10
              clear zsw9 zmw9 zgw9 za1w9 za2w9 zc1w9 zc2w9 zc3w9 s0w9 s1w9 m0w9 m1w9 g0w9 g1w9 g2w9 g3w9 g4w9 g5w9 g6w9 g7w9 g8w9 g9w9 g10w9 g11w9 g12w9 g13w9 g14w9 g15w9 g16w9 g17w9 g18w9 g19w9 g20w9 g21w9 a10w9 a11w9 a20w9 a21w9 c10w9 c11w9 c20w9 c21w9 c30w9 c31w9
              clear zc1w10 c10w10 c11w10
              clear zc2w10 c20w10 c21w10
              clear zc3w10 c30w10 c31w10
              clear zc4w10 c40w10 c41w10
              go_wp2_with fail
              (go_at_call 9; refine (awake_any _ (HML.out.below (by first | assumption | go_grown))).mono ?_; rintro e_ w11 ⟨rfl, hb⟩)
              have hsw11 := hb.size
              (try simp only [World.size_alloc, World.size_setCell] at hsw11)
              have zzw11 : w.heap.size < w11.heap.size := by omega
              have hPw11 : Below w10.heap.size w10 w11 := below_step (w := w10) (by first | exact Below.refl _ _ | go_grown) hb
              have zsw11 : w.heap.size < w11.heap.size := by omega
              have s0w11 : w11.cell? ⟨w.heap.size, 0, none⟩ = some (.slice oa ns ca) := (hPw11.cell (p := ⟨_, _, none⟩) zsw10).trans s0w10
              have s1w11 : w11.cell? ⟨w.heap.size, 1, none⟩ = some (.slice ob nb cb) := (hPw11.cell (p := ⟨_, _, none⟩) zsw10).trans s1w10
              have zmw11 : w.heap.size + 1 < w11.heap.size := by omega
              have m0w11 : w11.cell? ⟨w.heap.size + 1, 0, none⟩ = some (.slice om m.ng cm) := (hPw11.cell (p := ⟨_, _, none⟩) zmw10).trans m0w10
              have m1w11 : w11.cell? ⟨w.heap.size + 1, 1, none⟩ = some (.slice ot m.ns ct) := (hPw11.cell (p := ⟨_, _, none⟩) zmw10).trans m1w10
              have zgw11 : w.heap.size + 1 + 1 < w11.heap.size := by omega
              have g0w11 : w11.cell? ⟨w.heap.size + 1 + 1, 0, none⟩ = some (.string x0) := (hPw11.cell (p := ⟨_, _, none⟩) zgw10).trans g0w10
              have g1w11 : w11.cell? ⟨w.heap.size + 1 + 1, 1, none⟩ = some (.string x1) := (hPw11.cell (p := ⟨_, _, none⟩) zgw10).trans g1w10
              have g2w11 : w11.cell? ⟨w.heap.size + 1 + 1, 2, none⟩ = some (.int .i64 x2) := (hPw11.cell (p := ⟨_, _, none⟩) zgw10).trans g2w10
              have g3w11 : w11.cell? ⟨w.heap.size + 1 + 1, 3, none⟩ = some (.int .i64 x3) := (hPw11.cell (p := ⟨_, _, none⟩) zgw10).trans g3w10
              have g4w11 : w11.cell? ⟨w.heap.size + 1 + 1, 4, none⟩ = some (.int .i64 x4) := (hPw11.cell (p := ⟨_, _, none⟩) zgw10).trans g4w10
              have g5w11 : w11.cell? ⟨w.heap.size + 1 + 1, 5, none⟩ = some (.string x5) := (hPw11.cell (p := ⟨_, _, none⟩) zgw10).trans g5w10
              have g6w11 : w11.cell? ⟨w.heap.size + 1 + 1, 6, none⟩ = some (.string y0) := (hPw11.cell (p := ⟨_, _, none⟩) zgw10).trans g6w10
              have g7w11 : w11.cell? ⟨w.heap.size + 1 + 1, 7, none⟩ = some (.string y1) := (hPw11.cell (p := ⟨_, _, none⟩) zgw10).trans g7w10
              have g8w11 : w11.cell? ⟨w.heap.size + 1 + 1, 8, none⟩ = some (.string y2) := (hPw11.cell (p := ⟨_, _, none⟩) zgw10).trans g8w10
              have g9w11 : w11.cell? ⟨w.heap.size + 1 + 1, 9, none⟩ = some (.int .i64 y3) := (hPw11.cell (p := ⟨_, _, none⟩) zgw10).trans g9w10
              have g10w11 : w11.cell? ⟨w.heap.size + 1 + 1, 10, none⟩ = some (.string y4) := (hPw11.cell (p := ⟨_, _, none⟩) zgw10).trans g10w10
              have g11w11 : w11.cell? ⟨w.heap.size + 1 + 1, 11, none⟩ = some (.string p0) := (hPw11.cell (p := ⟨_, _, none⟩) zgw10).trans g11w10
              have g12w11 : w11.cell? ⟨w.heap.size + 1 + 1, 12, none⟩ = some (.string p1) := (hPw11.cell (p := ⟨_, _, none⟩) zgw10).trans g12w10
              have g13w11 : w11.cell? ⟨w.heap.size + 1 + 1, 13, none⟩ = some (.int .i64 p2) := (hPw11.cell (p := ⟨_, _, none⟩) zgw10).trans g13w10
              have g14w11 : w11.cell? ⟨w.heap.size + 1 + 1, 14, none⟩ = some (.int .i64 p3) := (hPw11.cell (p := ⟨_, _, none⟩) zgw10).trans g14w10
              have g15w11 : w11.cell? ⟨w.heap.size + 1 + 1, 15, none⟩ = some (.int .i64 p4) := (hPw11.cell (p := ⟨_, _, none⟩) zgw10).trans g15w10
              have g16w11 : w11.cell? ⟨w.heap.size + 1 + 1, 16, none⟩ = some (.string p5) := (hPw11.cell (p := ⟨_, _, none⟩) zgw10).trans g16w10
              have g17w11 : w11.cell? ⟨w.heap.size + 1 + 1, 17, none⟩ = some (.string q0) := (hPw11.cell (p := ⟨_, _, none⟩) zgw10).trans g17w10
              have g18w11 : w11.cell? ⟨w.heap.size + 1 + 1, 18, none⟩ = some (.string q1) := (hPw11.cell (p := ⟨_, _, none⟩) zgw10).trans g18w10
              have g19w11 : w11.cell? ⟨w.heap.size + 1 + 1, 19, none⟩ = some (.string q2) := (hPw11.cell (p := ⟨_, _, none⟩) zgw10).trans g19w10
              have g20w11 : w11.cell? ⟨w.heap.size + 1 + 1, 20, none⟩ = some (.int .i64 q3) := (hPw11.cell (p := ⟨_, _, none⟩) zgw10).trans g20w10
              have g21w11 : w11.cell? ⟨w.heap.size + 1 + 1, 21, none⟩ = some (.string q4) := (hPw11.cell (p := ⟨_, _, none⟩) zgw10).trans g21w10
              have za1w11 : w4.heap.size < w11.heap.size := by omega
              have a10w11 : w11.cell? ⟨w4.heap.size, 0, none⟩ = some (.slice oa1 Na11 ca1) := (hPw11.cell (p := ⟨_, _, none⟩) za1w10).trans a10w10
              have a11w11 : w11.cell? ⟨w4.heap.size, 1, none⟩ = some (.slice pa1 Na12 da1) := (hPw11.cell (p := ⟨_, _, none⟩) za1w10).trans a11w10
              have za2w11 : w5.heap.size < w11.heap.size := by omega
              have a20w11 : w11.cell? ⟨w5.heap.size, 0, none⟩ = some (.slice oa2 Na21 ca2) := (hPw11.cell (p := ⟨_, _, none⟩) za2w10).trans a20w10
              have a21w11 : w11.cell? ⟨w5.heap.size, 1, none⟩ = some (.slice pa2 Na22 da2) := (hPw11.cell (p := ⟨_, _, none⟩) za2w10).trans a21w10
              replace Ha1 := Lib.hid (Ha1.out.below hPw11)
              replace Ha2 := Lib.hid (Ha2.out.below hPw11)
              replace Hc1 := Lib.hid (Hc1.out.below hPw11)
              replace Hc2 := Lib.hid (Hc2.out.below hPw11)
              replace Hc3 := Lib.hid (Hc3.out.below hPw11)
              replace Hc4 := Lib.hid (Hc4.out.below hPw11)
              have hBw11 : Below w.heap.size w w11 := below_step (w := w) (by first | assumption | go_grown) hb
              clear hb hsw11 hPw11
              clear zsw10 zmw10 zgw10 za1w10 za2w10 s0w10 s1w10 m0w10 m1w10 g0w10 g1w10 g2w10 g3w10 g4w10 g5w10 g6w10 g7w10 g8w10 g9w10 g10w10 g11w10 g12w10 g13w10 g14w10 g15w10 g16w10 g17w10 g18w10 g19w10 g20w10 g21w10 a10w10 a11w10 a20w10 a21w10
              go_wp2
              go_returns
              exact ⟨rfl, by assumption⟩
            · have kc2 : (Ec2 == 0) = false := by simpa using hc2
              clear hc2
              go_wp2_with fail
              (go_at_call 9; refine (awake_any _ (HML.out.below (by first | assumption | go_grown))).mono ?_; rintro e_ w8 ⟨rfl, hb⟩)
              have hsw8 := hb.size
              (try simp only [World.size_alloc, World.size_setCell] at hsw8)
              have zzw8 : w.heap.size < w8.heap.size := by omega
              have hPw8 : Below w7.heap.size w7 w8 := below_step (w := w7) (by first | exact Below.refl _ _ | go_grown) hb
              have zsw8 : w.heap.size < w8.heap.size := by omega
              have s0w8 : w8.cell? ⟨w.heap.size, 0, none⟩ = some (.slice oa ns ca) := (hPw8.cell (p := ⟨_, _, none⟩) zsw7).trans s0w7
              have s1w8 : w8.cell? ⟨w.heap.size, 1, none⟩ = some (.slice ob nb cb) := (hPw8.cell (p := ⟨_, _, none⟩) zsw7).trans s1w7
              have zmw8 : w.heap.size + 1 < w8.heap.size := by omega
              have m0w8 : w8.cell? ⟨w.heap.size + 1, 0, none⟩ = some (.slice om m.ng cm) := (hPw8.cell (p := ⟨_, _, none⟩) zmw7).trans m0w7
              have m1w8 : w8.cell? ⟨w.heap.size + 1, 1, none⟩ = some (.slice ot m.ns ct) := (hPw8.cell (p := ⟨_, _, none⟩) zmw7).trans m1w7
              have zgw8 : w.heap.size + 1 + 1 < w8.heap.size := by omega
              have g0w8 : w8.cell? ⟨w.heap.size + 1 + 1, 0, none⟩ = some (.string x0) := (hPw8.cell (p := ⟨_, _, none⟩) zgw7).trans g0w7
              have g1w8 : w8.cell? ⟨w.heap.size + 1 + 1, 1, none⟩ = some (.string x1) := (hPw8.cell (p := ⟨_, _, none⟩) zgw7).trans g1w7
              have g2w8 : w8.cell? ⟨w.heap.size + 1 + 1, 2, none⟩ = some (.int .i64 x2) := (hPw8.cell (p := ⟨_, _, none⟩) zgw7).trans g2w7
              have g3w8 : w8.cell? ⟨w.heap.size + 1 + 1, 3, none⟩ = some (.int .i64 x3) := (hPw8.cell (p := ⟨_, _, none⟩) zgw7).trans g3w7
              have g4w8 : w8.cell? ⟨w.heap.size + 1 + 1, 4, none⟩ = some (.int .i64 x4) := (hPw8.cell (p := ⟨_, _, none⟩) zgw7).trans g4w7
              have g5w8 : w8.cell? ⟨w.heap.size + 1 + 1, 5, none⟩ = some (.string x5) := (hPw8.cell (p := ⟨_, _, none⟩) zgw7).trans g5w7
              have g6w8 : w8.cell? ⟨w.heap.size + 1 + 1, 6, none⟩ = some (.string y0) := (hPw8.cell (p := ⟨_, _, none⟩) zgw7).trans g6w7
              have g7w8 : w8.cell? ⟨w.heap.size + 1 + 1, 7, none⟩ = some (.string y1) := (hPw8.cell (p := ⟨_, _, none⟩) zgw7).trans g7w7
              have g8w8 : w8.cell? ⟨w.heap.size + 1 + 1, 8, none⟩ = some (.string y2) := (hPw8.cell (p := ⟨_, _, none⟩) zgw7).trans g8w7
              have g9w8 : w8.cell? ⟨w.heap.size + 1 + 1, 9, none⟩ = some (.int .i64 y3) := (hPw8.cell (p := ⟨_, _, none⟩) zgw7).trans g9w7
              have g10w8 : w8.cell? ⟨w.heap.size + 1 + 1, 10, none⟩ = some (.string y4) := (hPw8.cell (p := ⟨_, _, none⟩) zgw7).trans g10w7
              have g11w8 : w8.cell? ⟨w.heap.size + 1 + 1, 11, none⟩ = some (.string p0) := (hPw8.cell (p := ⟨_, _, none⟩) zgw7).trans g11w7
              have g12w8 : w8.cell? ⟨w.heap.size + 1 + 1, 12, none⟩ = some (.string p1) := (hPw8.cell (p := ⟨_, _, none⟩) zgw7).trans g12w7
              have g13w8 : w8.cell? ⟨w.heap.size + 1 + 1, 13, none⟩ = some (.int .i64 p2) := (hPw8.cell (p := ⟨_, _, none⟩) zgw7).trans g13w7
              have g14w8 : w8.cell? ⟨w.heap.size + 1 + 1, 14, none⟩ = some (.int .i64 p3) := (hPw8.cell (p := ⟨_, _, none⟩) zgw7).trans g14w7
              have g15w8 : w8.cell? ⟨w.heap.size + 1 + 1, 15, none⟩ = some (.int .i64 p4) := (hPw8.cell (p := ⟨_, _, none⟩) zgw7).trans g15w7
              have g16w8 : w8.cell? ⟨w.heap.size + 1 + 1, 16, none⟩ = some (.string p5) := (hPw8.cell (p := ⟨_, _, none⟩) zgw7).trans g16w7
              have g17w8 : w8.cell? ⟨w.heap.size + 1 + 1, 17, none⟩ = some (.string q0) := (hPw8.cell (p := ⟨_, _, none⟩) zgw7).trans g17w7
              have g18w8 : w8.cell? ⟨w.heap.size + 1 + 1, 18, none⟩ = some (.string q1) := (hPw8.cell (p := ⟨_, _, none⟩) zgw7).trans g18w7
              have g19w8 : w8.cell? ⟨w.heap.size + 1 + 1, 19, none⟩ = some (.string q2) := (hPw8.cell (p := ⟨_, _, none⟩) zgw7).trans g19w7
              have g20w8 : w8.cell? ⟨w.heap.size + 1 + 1, 20, none⟩ = some (.int .i64 q3) := (hPw8.cell (p := ⟨_, _, none⟩) zgw7).trans g20w7
              have g21w8 : w8.cell? ⟨w.heap.size + 1 + 1, 21, none⟩ = some (.string q4) := (hPw8.cell (p := ⟨_, _, none⟩) zgw7).trans g21w7
              have za1w8 : w4.heap.size < w8.heap.size := by omega
              have a10w8 : w8.cell? ⟨w4.heap.size, 0, none⟩ = some (.slice oa1 Na11 ca1) := (hPw8.cell (p := ⟨_, _, none⟩) za1w7).trans a10w7
              have a11w8 : w8.cell? ⟨w4.heap.size, 1, none⟩ = some (.slice pa1 Na12 da1) := (hPw8.cell (p := ⟨_, _, none⟩) za1w7).trans a11w7
              have za2w8 : w5.heap.size < w8.heap.size := by omega
              have a20w8 : w8.cell? ⟨w5.heap.size, 0, none⟩ = some (.slice oa2 Na21 ca2) := (hPw8.cell (p := ⟨_, _, none⟩) za2w7).trans a20w7
              have a21w8 : w8.cell? ⟨w5.heap.size, 1, none⟩ = some (.slice pa2 Na22 da2) := (hPw8.cell (p := ⟨_, _, none⟩) za2w7).trans a21w7
              have zc1w8 : w6.heap.size < w8.heap.size := by omega
              have c10w8 : w8.cell? ⟨w6.heap.size, 0, none⟩ = some (.slice oc1 ns cc1) := (hPw8.cell (p := ⟨_, _, none⟩) zc1w7).trans c10w7
              have c11w8 : w8.cell? ⟨w6.heap.size, 1, none⟩ = some (.slice pc1 (nb + 1) dc1) := (hPw8.cell (p := ⟨_, _, none⟩) zc1w7).trans c11w7
              have zc2w8 : w7.heap.size < w8.heap.size := by omega
              have c20w8 : w8.cell? ⟨w7.heap.size, 0, none⟩ = some (.slice oc2 Nc21 cc2) := (hb.cell (p := ⟨_, _, none⟩) (by simp <;> omega)).trans (by simp [go_sem])
              have c21w8 : w8.cell? ⟨w7.heap.size, 1, none⟩ = some (.slice pc2 Nc22 dc2) := (hb.cell (p := ⟨_, _, none⟩) (by simp <;> omega)).trans (by simp [go_sem])
              replace Ha1 := Lib.hid (Ha1.out.below hPw8)
              replace Ha2 := Lib.hid (Ha2.out.below hPw8)
              replace Hc1 := Lib.hid (Hc1.out.below hPw8)
              replace Hc2 := Lib.hid (Hc2.out.below hPw8)
              have hBw8 : Below w.heap.size w w8 := below_step (w := w) (by first | assumption | go_grown) hb
              clear hb hsw8 hPw8
              clear zsw7 zmw7 zgw7 za1w7 za2w7 zc1w7 s0w7 s1w7 m0w7 m1w7 g0w7 g1w7 g2w7 g3w7 g4w7 g5w7 g6w7 g7w7 g8w7 g9w7 g10w7 g11w7 g12w7 g13w7 g14w7 g15w7 g16w7 g17w7 g18w7 g19w7 g20w7 g21w7 a10w7 a11w7 a20w7 a21w7 c10w7 c11w7
              go_wp2
              go_returns
              exact ⟨rfl, by assumption⟩
          · have kc1 : (Ec1 == 0) = false := by simpa using hc1
            clear hc1
            go_wp2_with fail
            (go_at_call 9; refine (awake_any _ (HML.out.below (by first | assumption | go_grown))).mono ?_; rintro e_ w8 ⟨rfl, hb⟩)
            have hsw8 := hb.size
            (try simp only [World.size_alloc, World.size_setCell] at hsw8)
            have zzw8 : w.heap.size < w8.heap.size := by omega
            have hPw8 : Below w7.heap.size w7 w8 := below_step (w := w7) (by first | exact Below.refl _ _ | go_grown) hb
            have zsw8 : w.heap.size < w8.heap.size := by omega
            have s0w8 : w8.cell? ⟨w.heap.size, 0, none⟩ = some (.slice oa ns ca) := (hPw8.cell (p := ⟨_, _, none⟩) zsw7).trans s0w7
            have s1w8 : w8.cell? ⟨w.heap.size, 1, none⟩ = some (.slice ob nb cb) := (hPw8.cell (p := ⟨_, _, none⟩) zsw7).trans s1w7
            have zmw8 : w.heap.size + 1 < w8.heap.size := by omega
            have m0w8 : w8.cell? ⟨w.heap.size + 1, 0, none⟩ = some (.slice om m.ng cm) := (hPw8.cell (p := ⟨_, _, none⟩) zmw7).trans m0w7
            have m1w8 : w8.cell? ⟨w.heap.size + 1, 1, none⟩ = some (.slice ot m.ns ct) := (hPw8.cell (p := ⟨_, _, none⟩) zmw7).trans m1w7
            have zgw8 : w.heap.size + 1 + 1 < w8.heap.size := by omega
            have g0w8 : w8.cell? ⟨w.heap.size + 1 + 1, 0, none⟩ = some (.string x0) := (hPw8.cell (p := ⟨_, _, none⟩) zgw7).trans g0w7
            have g1w8 : w8.cell? ⟨w.heap.size + 1 + 1, 1, none⟩ = some (.string x1) := (hPw8.cell (p := ⟨_, _, none⟩) zgw7).trans g1w7
            have g2w8 : w8.cell? ⟨w.heap.size + 1 + 1, 2, none⟩ = some (.int .i64 x2) := (hPw8.cell (p := ⟨_, _, none⟩) zgw7).trans g2w7
            have g3w8 : w8.cell? ⟨w.heap.size + 1 + 1, 3, none⟩ = some (.int .i64 x3) := (hPw8.cell (p := ⟨_, _, none⟩) zgw7).trans g3w7
            have g4w8 : w8.cell? ⟨w.heap.size + 1 + 1, 4, none⟩ = some (.int .i64 x4) := (hPw8.cell (p := ⟨_, _, none⟩) zgw7).trans g4w7
            have g5w8 : w8.cell? ⟨w.heap.size + 1 + 1, 5, none⟩ = some (.string x5) := (hPw8.cell (p := ⟨_, _, none⟩) zgw7).trans g5w7
            have g6w8 : w8.cell? ⟨w.heap.size + 1 + 1, 6, none⟩ = some (.string y0) := (hPw8.cell (p := ⟨_, _, none⟩) zgw7).trans g6w7
            have g7w8 : w8.cell? ⟨w.heap.size + 1 + 1, 7, none⟩ = some (.string y1) := (hPw8.cell (p := ⟨_, _, none⟩) zgw7).trans g7w7
            have g8w8 : w8.cell? ⟨w.heap.size + 1 + 1, 8, none⟩ = some (.string y2) := (hPw8.cell (p := ⟨_, _, none⟩) zgw7).trans g8w7
            have g9w8 : w8.cell? ⟨w.heap.size + 1 + 1, 9, none⟩ = some (.int .i64 y3) := (hPw8.cell (p := ⟨_, _, none⟩) zgw7).trans g9w7
            have g10w8 : w8.cell? ⟨w.heap.size + 1 + 1, 10, none⟩ = some (.string y4) := (hPw8.cell (p := ⟨_, _, none⟩) zgw7).trans g10w7
            have g11w8 : w8.cell? ⟨w.heap.size + 1 + 1, 11, none⟩ = some (.string p0) := (hPw8.cell (p := ⟨_, _, none⟩) zgw7).trans g11w7
            have g12w8 : w8.cell? ⟨w.heap.size + 1 + 1, 12, none⟩ = some (.string p1) := (hPw8.cell (p := ⟨_, _, none⟩) zgw7).trans g12w7
            have g13w8 : w8.cell? ⟨w.heap.size + 1 + 1, 13, none⟩ = some (.int .i64 p2) := (hPw8.cell (p := ⟨_, _, none⟩) zgw7).trans g13w7
            have g14w8 : w8.cell? ⟨w.heap.size + 1 + 1, 14, none⟩ = some (.int .i64 p3) := (hPw8.cell (p := ⟨_, _, none⟩) zgw7).trans g14w7
            have g15w8 : w8.cell? ⟨w.heap.size + 1 + 1, 15, none⟩ = some (.int .i64 p4) := (hPw8.cell (p := ⟨_, _, none⟩) zgw7).trans g15w7
            have g16w8 : w8.cell? ⟨w.heap.size + 1 + 1, 16, none⟩ = some (.string p5) := (hPw8.cell (p := ⟨_, _, none⟩) zgw7).trans g16w7
            have g17w8 : w8.cell? ⟨w.heap.size + 1 + 1, 17, none⟩ = some (.string q0) := (hPw8.cell (p := ⟨_, _, none⟩) zgw7).trans g17w7
            have g18w8 : w8.cell? ⟨w.heap.size + 1 + 1, 18, none⟩ = some (.string q1) := (hPw8.cell (p := ⟨_, _, none⟩) zgw7).trans g18w7
            have g19w8 : w8.cell? ⟨w.heap.size + 1 + 1, 19, none⟩ = some (.string q2) := (hPw8.cell (p := ⟨_, _, none⟩) zgw7).trans g19w7
            have g20w8 : w8.cell? ⟨w.heap.size + 1 + 1, 20, none⟩ = some (.int .i64 q3) := (hPw8.cell (p := ⟨_, _, none⟩) zgw7).trans g20w7
            have g21w8 : w8.cell? ⟨w.heap.size + 1 + 1, 21, none⟩ = some (.string q4) := (hPw8.cell (p := ⟨_, _, none⟩) zgw7).trans g21w7
            have za1w8 : w4.heap.size < w8.heap.size := by omega
            have a10w8 : w8.cell? ⟨w4.heap.size, 0, none⟩ = some (.slice oa1 Na11 ca1) := (hPw8.cell (p := ⟨_, _, none⟩) za1w7).trans a10w7
            have a11w8 : w8.cell? ⟨w4.heap.size, 1, none⟩ = some (.slice pa1 Na12 da1) := (hPw8.cell (p := ⟨_, _, none⟩) za1w7).trans a11w7
            have za2w8 : w5.heap.size < w8.heap.size := by omega
            have a20w8 : w8.cell? ⟨w5.heap.size, 0, none⟩ = some (.slice oa2 Na21 ca2) := (hPw8.cell (p := ⟨_, _, none⟩) za2w7).trans a20w7
            have a21w8 : w8.cell? ⟨w5.heap.size, 1, none⟩ = some (.slice pa2 Na22 da2) := (hPw8.cell (p := ⟨_, _, none⟩) za2w7).trans a21w7
            have zc1w8 : w6.heap.size < w8.heap.size := by omega
            have c10w8 : w8.cell? ⟨w6.heap.size, 0, none⟩ = some (.slice oc1 Nc11 cc1) := (hPw8.cell (p := ⟨_, _, none⟩) zc1w7).trans c10w7
            have c11w8 : w8.cell? ⟨w6.heap.size, 1, none⟩ = some (.slice pc1 Nc12 dc1) := (hPw8.cell (p := ⟨_, _, none⟩) zc1w7).trans c11w7
            have zc2w8 : w7.heap.size < w8.heap.size := by omega
            have c20w8 : w8.cell? ⟨w7.heap.size, 0, none⟩ = some (.slice oc2 Nc21 cc2) := (hb.cell (p := ⟨_, _, none⟩) (by simp <;> omega)).trans (by simp [go_sem])
            have c21w8 : w8.cell? ⟨w7.heap.size, 1, none⟩ = some (.slice pc2 Nc22 dc2) := (hb.cell (p := ⟨_, _, none⟩) (by simp <;> omega)).trans (by simp [go_sem])
            replace Ha1 := Lib.hid (Ha1.out.below hPw8)
            replace Ha2 := Lib.hid (Ha2.out.below hPw8)
            replace Hc1 := Lib.hid (Hc1.out.below hPw8)
            replace Hc2 := Lib.hid (Hc2.out.below hPw8)
            have hBw8 : Below w.heap.size w w8 := below_step (w := w) (by first | assumption | go_grown) hb
            clear hb hsw8 hPw8
            clear zsw7 zmw7 zgw7 za1w7 za2w7 zc1w7 s0w7 s1w7 m0w7 m1w7 g0w7 g1w7 g2w7 g3w7 g4w7 g5w7 g6w7 g7w7 g8w7 g9w7 g10w7 g11w7 g12w7 g13w7 g14w7 g15w7 g16w7 g17w7 g18w7 g19w7 g20w7 g21w7 a10w7 a11w7 a20w7 a21w7 c10w7 c11w7
            go_wp2
            go_returns
            exact ⟨rfl, by assumption⟩

set_option maxRecDepth 100000 in
theorem stockOrders_contract (H : Type) (enc : TypeId × Value → H) (W : World) (base : Nat) (args : Array Value) (ds gs : List (DataW H)) (before : List MemPlace)
    (hval : ∀ (j : Nat) t v, Tryd.f6.params[j]? = some t → args[j]? = some v → Value.okWide Tryd.prog W .any base t v)
    (hW : DataW.Whole enc Tryd.prog Tryd.f6.params.toList Rows.stockOrdersSpec.vars false W args.toList ds gs before) (hL : laidMetH Tryd.prog Rows.stockOrdersRow.laid W) (hSh : W.ShapedOpen Tryd.prog) :
    Calls Tryd.prog 6 args W fun e W' => ∃ v, e = .returned v ∧ Rows.stockOrdersSpec.post enc Tryd.prog Tryd.f6 false true false false W args v W' := by
  have hW' := hW
  obtain ⟨p, q, hA0, hV, rfl, hfz, hnd⟩ := hW
  have hA : DataW.TrodAll enc Tryd.prog W 0 (fun _ => true) true Tryd.f6.params.toList args.toList ds p := hA0
  rw [Tryd.params6] at hA hval
  obtain ⟨v0, vs0, d0, ds0, p0, q0, hargs, rfl, rfl, h0, r0⟩ := trodAll_cons hA
  obtain ⟨v1, vs1, d1, ds1, p1, q1, rfl, rfl, rfl, h1, r1⟩ := trodAll_cons r0
  obtain ⟨v2, vs2, d2, ds2, p2, q2, rfl, rfl, rfl, h2, r2⟩ := trodAll_cons r1
  obtain ⟨rfl, rfl, rfl⟩ := trodAll_nil r2
  obtain rfl : args = #[v0, v1, v2] := by cases args; simp_all
  obtain ⟨ns0, es0, nb0, eb0, hst0⟩ := stock_arg (hval 0 25 v0 rfl rfl) h0
  obtain ⟨vg, vs, m, gv, rfl, hG, hS⟩ := mat_arg (hval 1 29 v1 rfl rfl) h1
  obtain ⟨x0, x1, x2, x3, x4, x5, y0, y1, y2, y3, y4, p0, p1, p2, p3, p4, p5, q0, q1, q2, q3, q4, rfl⟩ := goods2_arg (hval 2 59 v2 rfl rfl) h2
  refine (stockOrders_walk _ ns0 es0 nb0 eb0 vg vs m gv x0 x1 x2 x3 x4 x5 y0 y1 y2 y3 y4 p0 p1 p2 p3 p4 p5 q0 q1 q2 q3 q4 W hst0 hG hS (maxLen_of W hSh)).mono fun e W' ⟨he, hb⟩ => ?_
  subst he
  exact ⟨_, rfl, law_post laidOut (by kernel_rfl) (by kernel_rfl) Tryd.underlying4 rfl hW' (fun _ => rfl) hb⟩
theorem stockOrders_laid (os : Os) : laidMet Tryd.prog Rows.stockOrdersRow.laid ((laidWorld os).forCall (fun _ _ => 0) ⟨#[], #[.agg #[.slice none 0 0, .slice none 0 0], .agg #[.slice none 0 0, .slice none 0 0], .agg #[.string ⟨#[]⟩, .string ⟨#[]⟩, .int .i64 0, .int .i64 0, .int .i64 0, .string ⟨#[]⟩, .string ⟨#[]⟩, .string ⟨#[]⟩, .string ⟨#[]⟩, .int .i64 0, .string ⟨#[]⟩, .string ⟨#[]⟩, .string ⟨#[]⟩, .int .i64 0, .int .i64 0, .int .i64 0, .string ⟨#[]⟩, .string ⟨#[]⟩, .string ⟨#[]⟩, .string ⟨#[]⟩, .int .i64 0, .string ⟨#[]⟩]], []⟩).memory := laidMet_of_run' 8 (by kernel_rfl) (by kernel_rfl)
theorem stockOrders_reads (os : Os) {H : Type} (enc : TypeId × Value → H) : ∃ places, DataW.whole enc Tryd.prog ((laidWorld os).forCall (fun _ _ => 0) ⟨#[], #[.agg #[.slice none 0 0, .slice none 0 0], .agg #[.slice none 0 0, .slice none 0 0], .agg #[.string ⟨#[]⟩, .string ⟨#[]⟩, .int .i64 0, .int .i64 0, .int .i64 0, .string ⟨#[]⟩, .string ⟨#[]⟩, .string ⟨#[]⟩, .string ⟨#[]⟩, .int .i64 0, .string ⟨#[]⟩, .string ⟨#[]⟩, .string ⟨#[]⟩, .int .i64 0, .int .i64 0, .int .i64 0, .string ⟨#[]⟩, .string ⟨#[]⟩, .string ⟨#[]⟩, .string ⟨#[]⟩, .int .i64 0, .string ⟨#[]⟩]], []⟩).memory Tryd.f6.params.toList Rows.stockOrdersSpec.vars false (#[.agg #[.slice none 0 0, .slice none 0 0], .agg #[.slice none 0 0, .slice none 0 0], .agg #[.string ⟨#[]⟩, .string ⟨#[]⟩, .int .i64 0, .int .i64 0, .int .i64 0, .string ⟨#[]⟩, .string ⟨#[]⟩, .string ⟨#[]⟩, .string ⟨#[]⟩, .int .i64 0, .string ⟨#[]⟩, .string ⟨#[]⟩, .string ⟨#[]⟩, .int .i64 0, .int .i64 0, .int .i64 0, .string ⟨#[]⟩, .string ⟨#[]⟩, .string ⟨#[]⟩, .string ⟨#[]⟩, .int .i64 0, .string ⟨#[]⟩]] : Array Value).toList 8 = some ([.agg [.nil, .nil], .agg [.nil, .nil], .agg [.agg [.agg [.lit (.string []), .lit (.string []), .lit (.int .i64 0), .lit (.int .i64 0), .lit (.int .i64 0), .lit (.string [])], .agg [.lit (.string []), .lit (.string []), .lit (.string []), .lit (.int .i64 0), .lit (.string [])]], .agg [.agg [.lit (.string []), .lit (.string []), .lit (.int .i64 0), .lit (.int .i64 0), .lit (.int .i64 0), .lit (.string [])], .agg [.lit (.string []), .lit (.string []), .lit (.string []), .lit (.int .i64 0), .lit (.string [])]]]], [], places) := ⟨[], by kernel_rfl⟩
set_option maxRecDepth 100000 in
theorem stockOrders_lifted (os : Os) (started : os.Started) (H : Type) (enc : TypeId × Value → H) (F : Stop.Interp) :
    ReturnsInHanded {} Tryd.checked os 6 .any ((OpenSpec.ofChange Rows.stockOrdersSpec).preRow enc Tryd.prog Tryd.f6 Rows.stockOrdersRow.domain false Rows.stockOrdersRow.laid) (((OpenSpec.ofChange Rows.stockOrdersSpec).at F).post enc Tryd.prog Tryd.f6 false true false false) := by
  obtain ⟨places, hx⟩ := stockOrders_reads os enc
  refine returnsInHanded_of_row (C := Tryd.checked) (s := OpenSpec.ofChange Rows.stockOrdersSpec) own started (by kernel_rfl) Tryd.func6
    (witness_row_at (enc := enc) (C := Tryd.checked) false (laidWorld os) #[.agg #[.slice none 0 0, .slice none 0 0], .agg #[.slice none 0 0, .slice none 0 0], .agg #[.string ⟨#[]⟩, .string ⟨#[]⟩, .int .i64 0, .int .i64 0, .int .i64 0, .string ⟨#[]⟩, .string ⟨#[]⟩, .string ⟨#[]⟩, .string ⟨#[]⟩, .int .i64 0, .string ⟨#[]⟩, .string ⟨#[]⟩, .string ⟨#[]⟩, .int .i64 0, .int .i64 0, .int .i64 0, .string ⟨#[]⟩, .string ⟨#[]⟩, .string ⟨#[]⟩, .string ⟨#[]⟩, .int .i64 0, .string ⟨#[]⟩]] rfl (by kernel_rfl) (by kernel_rfl) (by kernel_rfl)
      (OpenSpec.preRow_of_cond 8 hx (by kernel_rfl) (fun k hk => by cases hk) (by kernel_rfl) (stockOrders_laid os))) ?_
  intro W base args ds gs before hval hW _ _ _ hL hSh _
  exact stockOrders_contract H enc W base args ds gs before hval hW hL hSh
theorem stockOrders_said : Rows.StockOrdersSaid :=
  OpenClaim.holds_of_cond 6 Tryd.f6 rfl rfl rfl rfl rfl rfl rfl ⟨rfl, rfl, rfl, rfl, rfl⟩ rfl rfl rfl rfl rfl (by kernel_rfl) Tryd.func6 (by kernel_rfl)
    (of_decide_eq_true (by kernel_rfl)) (by unfold Func.isWrapper; rw [if_neg (of_decide_eq_false (by kernel_rfl))]; exact ⟨rfl, rfl⟩)
    (fun os started H enc _ F => by rw [OpenClaim.pre_eq_preRow]; exact stockOrders_lifted os started H enc F)
theorem stockOrders_plain (f : FuncId) (fn : Func) (hf : Tryd.pinned.checked.prog.funcNamed "shipyard/shipyardlaw29.StockOrders" = some f) (hfn : Tryd.pinned.checked.prog.funcs[f]? = some fn) :
    false = Tryd.pinned.checked.prog.looks [] ∧ ∀ (j : Nat) t, fn.params[j]? = some t → Tryd.pinned.checked.prog.wantsStandIn t = false := by
  obtain rfl : f = 6 := Option.some.inj ((show Tryd.prog.funcNamed "shipyard/shipyardlaw29.StockOrders" = some 6 by kernel_rfl).symm.trans hf) |>.symm
  obtain rfl : fn = Tryd.f6 := (Option.some.inj (Tryd.func6.symm.trans hfn)).symm
  refine ⟨by kernel_rfl, fun j t ht => ?_⟩
  rw [Tryd.params6] at ht
  have hm : t ∈ [25, 29, 59] := by simpa using Array.mem_of_getElem? ht
  have hall : ([25, 29, 59].all fun u => !Tryd.prog.wantsStandIn u) = true := by kernel_rfl
  exact (show Tryd.prog.wantsStandIn t = false by simpa using List.all_eq_true.1 hall t hm)
/-- the card -/
theorem stockOrders_card : Rows.StockOrdersCardSaid :=
  Claim7.holds_tied_plain_at .later [] _ _ _ _ stockOrders_said (fun _ h => by cases h) (by kernel_rfl) (fun _ h => by cases h) stockOrders_row_tie rfl ⟨rfl, rfl⟩ (by kernel_rfl) rfl stockOrders_plain (by kernel_rfl)
#print axioms stockOrders_card
end Go.Proofs.YtiddpaaihloopaaDoor
