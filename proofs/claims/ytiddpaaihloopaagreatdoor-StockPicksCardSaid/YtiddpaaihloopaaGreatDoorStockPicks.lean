/-
  PickSheet and PickBar return what the reference returns, for any right stock and any wish. Conditions: none (the card ties the two tables of unicode/utf8 to the program's text). By an AI agent.
-/
import Derived.Test.YtiddpaaihloopaaGreatDoorRPick
namespace Go.Proofs.YtiddpaaihloopaaGreatDoor
open Go Go.ChangeShapes Go.WideShapes Go.RowKit Go.ChangeAt
set_option linter.unusedSimpArgs false
set_option linter.unusedVariables false

section
variable {m : Mat} {ns nb : Nat} {es : Nat → Sh} {eb : Nat → Br} (R : Right m ns es nb eb)
include R
theorem rpickSheet_at {g : ByteArray} {t l d : Int} {ID : ByteArray} {OK : Bool} (h1 : (pickFS g t l d es ns).1 = ID) (h2 : (pickFS g t l d es ns).2 = OK) (v : Value) (w : World) (h : StAt w v ns es nb eb) :
    Calls Tryz.prog 19 #[v, .string g, .int .i64 t, .int .i64 l, .int .i64 d] w fun e w' => e = .returned (.tuple #[.string ID, .bool OK]) ∧ Below w.heap.size w w' := by
  have := RPickSheet_any v ns es nb eb g t l d w h R.sides
  rwa [h1, h2] at this
theorem rpickBar_at {sc g : ByteArray} {l : Int} {ID : ByteArray} {OK : Bool} (h1 : (pickFB sc g l eb nb).1 = ID) (h2 : (pickFB sc g l eb nb).2 = OK) (v : Value) (w : World) (h : StAt w v ns es nb eb) :
    Calls Tryz.prog 21 #[v, .string sc, .string g, .int .i64 l] w fun e w' => e = .returned (.tuple #[.string ID, .bool OK]) ∧ Below w.heap.size w w' := by
  have := RPickBar_any v ns es nb eb sc g l w h R.bsides
  rwa [h1, h2] at this
end
set_option maxRecDepth 100000 in
set_option maxHeartbeats 16000000 in
theorem stockPicks_walk (v : Value) (ns : Nat) (es : Nat → Sh) (nb : Nat) (eb : Nat → Br) (vg vs : Value) (m : Mat) (gv : Nat → Value) (g sc : ByteArray) (t l d : Int) (w : World) (h : StAt w v ns es nb eb) (hG : GrAt w vg m gv) (hS : SeAt w vs m) (hml : MaxLenIs w) :
    Calls Tryz.prog 5 #[v, .agg #[vg, vs], .agg #[.string g, .string sc, .int .i64 t, .int .i64 l, .int .i64 d]] w fun e w' => e = .returned (.bool true) ∧ Below w.heap.size w w' := by
  have HML := Lib.hid hml
  have HST := Lib.hid h
  have HG := Lib.hid hG
  have HS := Lib.hid hS
  obtain ⟨oa, ca, ob, cb, rfl⟩ := h.slices
  obtain ⟨om, cm, rfl, -, -⟩ := hG.form
  obtain ⟨ot, ct, rfl, -, -⟩ := hS.form
  clear h hml hG hS
  obtain ⟨R1, hR1⟩ : ∃ R, rightB m ns es nb eb = R := ⟨_, rfl⟩
  have HR1 := Lib.hid hR1
  clear hR1
  go_enter Tryz.func5, Tryz.ntmps5
  go_wp2_with fail
  (go_at_call 6; refine (right_any _ ns es nb eb _ _ m gv _ (HST.out.below (by first | assumption | go_grown)) (HG.out.below (by first | assumption | go_grown)) (HS.out.below (by first | assumption | go_grown)) (HML.out.below (by first | assumption | go_grown))).mono ?_; rintro e_ w1 ⟨rfl, hb⟩)
  rw [HR1.out]
  have hsw1 := hb.size
  (try simp only [World.size_alloc, World.size_setCell] at hsw1)
  have zzw1 : w.heap.size < w1.heap.size := by omega
  have hPw1 : Below w.heap.size w w1 := below_step (w := w) (by first | exact Below.refl _ _ | go_grown) hb
  have zsw1 : w.heap.size < w1.heap.size := by omega
  have s0w1 : w1.cell? ⟨w.heap.size, 0, none⟩ = some (.slice oa ns ca) := (hb.cell (p := ⟨_, _, none⟩) (by simp <;> omega)).trans (by simp [go_sem])
  have s1w1 : w1.cell? ⟨w.heap.size, 1, none⟩ = some (.slice ob nb cb) := (hb.cell (p := ⟨_, _, none⟩) (by simp <;> omega)).trans (by simp [go_sem])
  have zmw1 : w.heap.size + 1 < w1.heap.size := by omega
  have m0w1 : w1.cell? ⟨w.heap.size + 1, 0, none⟩ = some (.slice om m.ng cm) := (hb.cell (p := ⟨_, _, none⟩) (by simp <;> omega)).trans (by simp [go_sem])
  have m1w1 : w1.cell? ⟨w.heap.size + 1, 1, none⟩ = some (.slice ot m.ns ct) := (hb.cell (p := ⟨_, _, none⟩) (by simp <;> omega)).trans (by simp [go_sem])
  have zgw1 : w.heap.size + 1 + 1 < w1.heap.size := by omega
  have g0w1 : w1.cell? ⟨w.heap.size + 1 + 1, 0, none⟩ = some (.string g) := (hb.cell (p := ⟨_, _, none⟩) (by simp <;> omega)).trans (by simp [go_sem])
  have g1w1 : w1.cell? ⟨w.heap.size + 1 + 1, 1, none⟩ = some (.string sc) := (hb.cell (p := ⟨_, _, none⟩) (by simp <;> omega)).trans (by simp [go_sem])
  have g2w1 : w1.cell? ⟨w.heap.size + 1 + 1, 2, none⟩ = some (.int .i64 t) := (hb.cell (p := ⟨_, _, none⟩) (by simp <;> omega)).trans (by simp [go_sem])
  have g3w1 : w1.cell? ⟨w.heap.size + 1 + 1, 3, none⟩ = some (.int .i64 l) := (hb.cell (p := ⟨_, _, none⟩) (by simp <;> omega)).trans (by simp [go_sem])
  have g4w1 : w1.cell? ⟨w.heap.size + 1 + 1, 4, none⟩ = some (.int .i64 d) := (hb.cell (p := ⟨_, _, none⟩) (by simp <;> omega)).trans (by simp [go_sem])
  have hBw1 : Below w.heap.size w w1 := below_step (w := w) (by first | assumption | go_grown) hb
  clear hb hsw1 hPw1
  cases R1 with
  | false =>
    go_wp2_with fail
    (go_at_call 8; refine (awake_any _ (HML.out.below (by first | assumption | go_grown))).mono ?_; rintro e_ w2 ⟨rfl, hb⟩)
    have hsw2 := hb.size
    (try simp only [World.size_alloc, World.size_setCell] at hsw2)
    have zzw2 : w.heap.size < w2.heap.size := by omega
    have hPw2 : Below w1.heap.size w1 w2 := below_step (w := w1) (by first | exact Below.refl _ _ | go_grown) hb
    have zsw2 : w.heap.size < w2.heap.size := by omega
    have s0w2 : w2.cell? ⟨w.heap.size, 0, none⟩ = some (.slice oa ns ca) := (hPw2.cell (p := ⟨_, _, none⟩) zsw1).trans s0w1
    have s1w2 : w2.cell? ⟨w.heap.size, 1, none⟩ = some (.slice ob nb cb) := (hPw2.cell (p := ⟨_, _, none⟩) zsw1).trans s1w1
    have zmw2 : w.heap.size + 1 < w2.heap.size := by omega
    have m0w2 : w2.cell? ⟨w.heap.size + 1, 0, none⟩ = some (.slice om m.ng cm) := (hPw2.cell (p := ⟨_, _, none⟩) zmw1).trans m0w1
    have m1w2 : w2.cell? ⟨w.heap.size + 1, 1, none⟩ = some (.slice ot m.ns ct) := (hPw2.cell (p := ⟨_, _, none⟩) zmw1).trans m1w1
    have zgw2 : w.heap.size + 1 + 1 < w2.heap.size := by omega
    have g0w2 : w2.cell? ⟨w.heap.size + 1 + 1, 0, none⟩ = some (.string g) := (hPw2.cell (p := ⟨_, _, none⟩) zgw1).trans g0w1
    have g1w2 : w2.cell? ⟨w.heap.size + 1 + 1, 1, none⟩ = some (.string sc) := (hPw2.cell (p := ⟨_, _, none⟩) zgw1).trans g1w1
    have g2w2 : w2.cell? ⟨w.heap.size + 1 + 1, 2, none⟩ = some (.int .i64 t) := (hPw2.cell (p := ⟨_, _, none⟩) zgw1).trans g2w1
    have g3w2 : w2.cell? ⟨w.heap.size + 1 + 1, 3, none⟩ = some (.int .i64 l) := (hPw2.cell (p := ⟨_, _, none⟩) zgw1).trans g3w1
    have g4w2 : w2.cell? ⟨w.heap.size + 1 + 1, 4, none⟩ = some (.int .i64 d) := (hPw2.cell (p := ⟨_, _, none⟩) zgw1).trans g4w1
    have hBw2 : Below w.heap.size w w2 := below_step (w := w) (by first | assumption | go_grown) hb
    clear hb hsw2 hPw2
    clear zsw1 zmw1 zgw1 s0w1 s1w1 m0w1 m1w1 g0w1 g1w1 g2w1 g3w1 g4w1
    go_wp2
    go_returns
    exact ⟨rfl, by assumption⟩
  | true =>
    have HR := Lib.hid (right_is HR1.out)
    have HM := Lib.hid (mfew_mat HR.out.mfew HG.out HS.out)
    clear HR1
    obtain ⟨Ia, hIa⟩ : ∃ x, (pickFS g t l d es ns).1 = x := ⟨_, rfl⟩
    obtain ⟨Ka, hKa⟩ : ∃ x, (pickFS g t l d es ns).2 = x := ⟨_, rfl⟩
    have HIa := Lib.hid hIa
    clear hIa
    have HKa := Lib.hid hKa
    clear hKa
    go_wp2_with fail
    (go_at_call 18; refine (pickSheet_at HR.out HIa.out HKa.out _ _ (HST.out.below (by first | assumption | go_grown))).mono ?_; rintro e_ w2 ⟨rfl, hb⟩)
    have hsw2 := hb.size
    (try simp only [World.size_alloc, World.size_setCell] at hsw2)
    have zzw2 : w.heap.size < w2.heap.size := by omega
    have hPw2 : Below w1.heap.size w1 w2 := below_step (w := w1) (by first | exact Below.refl _ _ | go_grown) hb
    have zsw2 : w.heap.size < w2.heap.size := by omega
    have s0w2 : w2.cell? ⟨w.heap.size, 0, none⟩ = some (.slice oa ns ca) := (hPw2.cell (p := ⟨_, _, none⟩) zsw1).trans s0w1
    have s1w2 : w2.cell? ⟨w.heap.size, 1, none⟩ = some (.slice ob nb cb) := (hPw2.cell (p := ⟨_, _, none⟩) zsw1).trans s1w1
    have zmw2 : w.heap.size + 1 < w2.heap.size := by omega
    have m0w2 : w2.cell? ⟨w.heap.size + 1, 0, none⟩ = some (.slice om m.ng cm) := (hPw2.cell (p := ⟨_, _, none⟩) zmw1).trans m0w1
    have m1w2 : w2.cell? ⟨w.heap.size + 1, 1, none⟩ = some (.slice ot m.ns ct) := (hPw2.cell (p := ⟨_, _, none⟩) zmw1).trans m1w1
    have zgw2 : w.heap.size + 1 + 1 < w2.heap.size := by omega
    have g0w2 : w2.cell? ⟨w.heap.size + 1 + 1, 0, none⟩ = some (.string g) := (hPw2.cell (p := ⟨_, _, none⟩) zgw1).trans g0w1
    have g1w2 : w2.cell? ⟨w.heap.size + 1 + 1, 1, none⟩ = some (.string sc) := (hPw2.cell (p := ⟨_, _, none⟩) zgw1).trans g1w1
    have g2w2 : w2.cell? ⟨w.heap.size + 1 + 1, 2, none⟩ = some (.int .i64 t) := (hPw2.cell (p := ⟨_, _, none⟩) zgw1).trans g2w1
    have g3w2 : w2.cell? ⟨w.heap.size + 1 + 1, 3, none⟩ = some (.int .i64 l) := (hPw2.cell (p := ⟨_, _, none⟩) zgw1).trans g3w1
    have g4w2 : w2.cell? ⟨w.heap.size + 1 + 1, 4, none⟩ = some (.int .i64 d) := (hPw2.cell (p := ⟨_, _, none⟩) zgw1).trans g4w1
    have hBw2 : Below w.heap.size w w2 := below_step (w := w) (by first | assumption | go_grown) hb
    clear hb hsw2 hPw2
    clear zsw1 zmw1 zgw1 s0w1 s1w1 m0w1 m1w1 g0w1 g1w1 g2w1 g3w1 g4w1
    go_wp2_with fail
    (go_at_call 19; refine (rpickSheet_at HR.out HIa.out HKa.out _ _ (HST.out.below (by first | assumption | go_grown))).mono ?_; rintro e_ w3 ⟨rfl, hb⟩)
    have hsw3 := hb.size
    (try simp only [World.size_alloc, World.size_setCell] at hsw3)
    have zzw3 : w.heap.size < w3.heap.size := by omega
    have hPw3 : Below w2.heap.size w2 w3 := below_step (w := w2) (by first | exact Below.refl _ _ | go_grown) hb
    have zsw3 : w.heap.size < w3.heap.size := by omega
    have s0w3 : w3.cell? ⟨w.heap.size, 0, none⟩ = some (.slice oa ns ca) := (hPw3.cell (p := ⟨_, _, none⟩) zsw2).trans s0w2
    have s1w3 : w3.cell? ⟨w.heap.size, 1, none⟩ = some (.slice ob nb cb) := (hPw3.cell (p := ⟨_, _, none⟩) zsw2).trans s1w2
    have zmw3 : w.heap.size + 1 < w3.heap.size := by omega
    have m0w3 : w3.cell? ⟨w.heap.size + 1, 0, none⟩ = some (.slice om m.ng cm) := (hPw3.cell (p := ⟨_, _, none⟩) zmw2).trans m0w2
    have m1w3 : w3.cell? ⟨w.heap.size + 1, 1, none⟩ = some (.slice ot m.ns ct) := (hPw3.cell (p := ⟨_, _, none⟩) zmw2).trans m1w2
    have zgw3 : w.heap.size + 1 + 1 < w3.heap.size := by omega
    have g0w3 : w3.cell? ⟨w.heap.size + 1 + 1, 0, none⟩ = some (.string g) := (hPw3.cell (p := ⟨_, _, none⟩) zgw2).trans g0w2
    have g1w3 : w3.cell? ⟨w.heap.size + 1 + 1, 1, none⟩ = some (.string sc) := (hPw3.cell (p := ⟨_, _, none⟩) zgw2).trans g1w2
    have g2w3 : w3.cell? ⟨w.heap.size + 1 + 1, 2, none⟩ = some (.int .i64 t) := (hPw3.cell (p := ⟨_, _, none⟩) zgw2).trans g2w2
    have g3w3 : w3.cell? ⟨w.heap.size + 1 + 1, 3, none⟩ = some (.int .i64 l) := (hPw3.cell (p := ⟨_, _, none⟩) zgw2).trans g3w2
    have g4w3 : w3.cell? ⟨w.heap.size + 1 + 1, 4, none⟩ = some (.int .i64 d) := (hPw3.cell (p := ⟨_, _, none⟩) zgw2).trans g4w2
    have hBw3 : Below w.heap.size w w3 := below_step (w := w) (by first | assumption | go_grown) hb
    clear hb hsw3 hPw3
    clear zsw2 zmw2 zgw2 s0w2 s1w2 m0w2 m1w2 g0w2 g1w2 g2w2 g3w2 g4w2
    obtain ⟨Ic, hIc⟩ : ∃ x, (pickFB sc g l eb nb).1 = x := ⟨_, rfl⟩
    obtain ⟨Kc, hKc⟩ : ∃ x, (pickFB sc g l eb nb).2 = x := ⟨_, rfl⟩
    have HIc := Lib.hid hIc
    clear hIc
    have HKc := Lib.hid hKc
    clear hKc
    go_wp2_with fail
    (go_at_call 20; refine (pickBar_at HR.out HIc.out HKc.out _ _ (HST.out.below (by first | assumption | go_grown))).mono ?_; rintro e_ w4 ⟨rfl, hb⟩)
    have hsw4 := hb.size
    (try simp only [World.size_alloc, World.size_setCell] at hsw4)
    have zzw4 : w.heap.size < w4.heap.size := by omega
    have hPw4 : Below w3.heap.size w3 w4 := below_step (w := w3) (by first | exact Below.refl _ _ | go_grown) hb
    have zsw4 : w.heap.size < w4.heap.size := by omega
    have s0w4 : w4.cell? ⟨w.heap.size, 0, none⟩ = some (.slice oa ns ca) := (hPw4.cell (p := ⟨_, _, none⟩) zsw3).trans s0w3
    have s1w4 : w4.cell? ⟨w.heap.size, 1, none⟩ = some (.slice ob nb cb) := (hPw4.cell (p := ⟨_, _, none⟩) zsw3).trans s1w3
    have zmw4 : w.heap.size + 1 < w4.heap.size := by omega
    have m0w4 : w4.cell? ⟨w.heap.size + 1, 0, none⟩ = some (.slice om m.ng cm) := (hPw4.cell (p := ⟨_, _, none⟩) zmw3).trans m0w3
    have m1w4 : w4.cell? ⟨w.heap.size + 1, 1, none⟩ = some (.slice ot m.ns ct) := (hPw4.cell (p := ⟨_, _, none⟩) zmw3).trans m1w3
    have zgw4 : w.heap.size + 1 + 1 < w4.heap.size := by omega
    have g0w4 : w4.cell? ⟨w.heap.size + 1 + 1, 0, none⟩ = some (.string g) := (hPw4.cell (p := ⟨_, _, none⟩) zgw3).trans g0w3
    have g1w4 : w4.cell? ⟨w.heap.size + 1 + 1, 1, none⟩ = some (.string sc) := (hPw4.cell (p := ⟨_, _, none⟩) zgw3).trans g1w3
    have g2w4 : w4.cell? ⟨w.heap.size + 1 + 1, 2, none⟩ = some (.int .i64 t) := (hPw4.cell (p := ⟨_, _, none⟩) zgw3).trans g2w3
    have g3w4 : w4.cell? ⟨w.heap.size + 1 + 1, 3, none⟩ = some (.int .i64 l) := (hPw4.cell (p := ⟨_, _, none⟩) zgw3).trans g3w3
    have g4w4 : w4.cell? ⟨w.heap.size + 1 + 1, 4, none⟩ = some (.int .i64 d) := (hPw4.cell (p := ⟨_, _, none⟩) zgw3).trans g4w3
    have hBw4 : Below w.heap.size w w4 := below_step (w := w) (by first | assumption | go_grown) hb
    clear hb hsw4 hPw4
    clear zsw3 zmw3 zgw3 s0w3 s1w3 m0w3 m1w3 g0w3 g1w3 g2w3 g3w3 g4w3
    go_wp2_with fail
    (go_at_call 21; refine (rpickBar_at HR.out HIc.out HKc.out _ _ (HST.out.below (by first | assumption | go_grown))).mono ?_; rintro e_ w5 ⟨rfl, hb⟩)
    have hsw5 := hb.size
    (try simp only [World.size_alloc, World.size_setCell] at hsw5)
    have zzw5 : w.heap.size < w5.heap.size := by omega
    have hPw5 : Below w4.heap.size w4 w5 := below_step (w := w4) (by first | exact Below.refl _ _ | go_grown) hb
    have zsw5 : w.heap.size < w5.heap.size := by omega
    have s0w5 : w5.cell? ⟨w.heap.size, 0, none⟩ = some (.slice oa ns ca) := (hPw5.cell (p := ⟨_, _, none⟩) zsw4).trans s0w4
    have s1w5 : w5.cell? ⟨w.heap.size, 1, none⟩ = some (.slice ob nb cb) := (hPw5.cell (p := ⟨_, _, none⟩) zsw4).trans s1w4
    have zmw5 : w.heap.size + 1 < w5.heap.size := by omega
    have m0w5 : w5.cell? ⟨w.heap.size + 1, 0, none⟩ = some (.slice om m.ng cm) := (hPw5.cell (p := ⟨_, _, none⟩) zmw4).trans m0w4
    have m1w5 : w5.cell? ⟨w.heap.size + 1, 1, none⟩ = some (.slice ot m.ns ct) := (hPw5.cell (p := ⟨_, _, none⟩) zmw4).trans m1w4
    have zgw5 : w.heap.size + 1 + 1 < w5.heap.size := by omega
    have g0w5 : w5.cell? ⟨w.heap.size + 1 + 1, 0, none⟩ = some (.string g) := (hPw5.cell (p := ⟨_, _, none⟩) zgw4).trans g0w4
    have g1w5 : w5.cell? ⟨w.heap.size + 1 + 1, 1, none⟩ = some (.string sc) := (hPw5.cell (p := ⟨_, _, none⟩) zgw4).trans g1w4
    have g2w5 : w5.cell? ⟨w.heap.size + 1 + 1, 2, none⟩ = some (.int .i64 t) := (hPw5.cell (p := ⟨_, _, none⟩) zgw4).trans g2w4
    have g3w5 : w5.cell? ⟨w.heap.size + 1 + 1, 3, none⟩ = some (.int .i64 l) := (hPw5.cell (p := ⟨_, _, none⟩) zgw4).trans g3w4
    have g4w5 : w5.cell? ⟨w.heap.size + 1 + 1, 4, none⟩ = some (.int .i64 d) := (hPw5.cell (p := ⟨_, _, none⟩) zgw4).trans g4w4
    have hBw5 : Below w.heap.size w w5 := below_step (w := w) (by first | assumption | go_grown) hb
    clear hb hsw5 hPw5
    clear zsw4 zmw4 zgw4 s0w4 s1w4 m0w4 m1w4 g0w4 g1w4 g2w4 g3w4 g4w4
    go_wp2_with fail
    (go_at_call 8; refine (awake_any _ (HML.out.below (by first | assumption | go_grown))).mono ?_; rintro e_ w6 ⟨rfl, hb⟩)
    have hsw6 := hb.size
    (try simp only [World.size_alloc, World.size_setCell] at hsw6)
    have zzw6 : w.heap.size < w6.heap.size := by omega
    have hPw6 : Below w5.heap.size w5 w6 := below_step (w := w5) (by first | exact Below.refl _ _ | go_grown) hb
    have zsw6 : w.heap.size < w6.heap.size := by omega
    have s0w6 : w6.cell? ⟨w.heap.size, 0, none⟩ = some (.slice oa ns ca) := (hPw6.cell (p := ⟨_, _, none⟩) zsw5).trans s0w5
    have s1w6 : w6.cell? ⟨w.heap.size, 1, none⟩ = some (.slice ob nb cb) := (hPw6.cell (p := ⟨_, _, none⟩) zsw5).trans s1w5
    have zmw6 : w.heap.size + 1 < w6.heap.size := by omega
    have m0w6 : w6.cell? ⟨w.heap.size + 1, 0, none⟩ = some (.slice om m.ng cm) := (hPw6.cell (p := ⟨_, _, none⟩) zmw5).trans m0w5
    have m1w6 : w6.cell? ⟨w.heap.size + 1, 1, none⟩ = some (.slice ot m.ns ct) := (hPw6.cell (p := ⟨_, _, none⟩) zmw5).trans m1w5
    have zgw6 : w.heap.size + 1 + 1 < w6.heap.size := by omega
    have g0w6 : w6.cell? ⟨w.heap.size + 1 + 1, 0, none⟩ = some (.string g) := (hPw6.cell (p := ⟨_, _, none⟩) zgw5).trans g0w5
    have g1w6 : w6.cell? ⟨w.heap.size + 1 + 1, 1, none⟩ = some (.string sc) := (hPw6.cell (p := ⟨_, _, none⟩) zgw5).trans g1w5
    have g2w6 : w6.cell? ⟨w.heap.size + 1 + 1, 2, none⟩ = some (.int .i64 t) := (hPw6.cell (p := ⟨_, _, none⟩) zgw5).trans g2w5
    have g3w6 : w6.cell? ⟨w.heap.size + 1 + 1, 3, none⟩ = some (.int .i64 l) := (hPw6.cell (p := ⟨_, _, none⟩) zgw5).trans g3w5
    have g4w6 : w6.cell? ⟨w.heap.size + 1 + 1, 4, none⟩ = some (.int .i64 d) := (hPw6.cell (p := ⟨_, _, none⟩) zgw5).trans g4w5
    have hBw6 : Below w.heap.size w w6 := below_step (w := w) (by first | assumption | go_grown) hb
    clear hb hsw6 hPw6
    clear zsw5 zmw5 zgw5 s0w5 s1w5 m0w5 m1w5 g0w5 g1w5 g2w5 g3w5 g4w5
    go_wp2
    go_returns
    exact ⟨rfl, by assumption⟩

set_option maxRecDepth 100000 in
theorem stockPicks_contract (H : Type) (enc : TypeId × Value → H) (W : World) (base : Nat) (args : Array Value) (ds gs : List (DataW H)) (before : List MemPlace)
    (hval : ∀ (j : Nat) t v, Tryz.f5.params[j]? = some t → args[j]? = some v → Value.okWide Tryz.prog W .any base t v)
    (hW : DataW.Whole enc Tryz.prog Tryz.f5.params.toList Rows.stockPicksSpec.vars false W args.toList ds gs before) (hL : laidMetH Tryz.prog Rows.stockPicksRow.laid W) (hSh : W.ShapedOpen Tryz.prog) :
    Calls Tryz.prog 5 args W fun e W' => ∃ v, e = .returned v ∧ Rows.stockPicksSpec.post enc Tryz.prog Tryz.f5 false true false false W args v W' := by
  have hW' := hW
  obtain ⟨p, q, hA0, hV, rfl, hfz, hnd⟩ := hW
  have hA : DataW.TrodAll enc Tryz.prog W 0 (fun _ => true) true Tryz.f5.params.toList args.toList ds p := hA0
  rw [Tryz.params5] at hA hval
  obtain ⟨v0, vs0, d0, ds0, p0, q0, hargs, rfl, rfl, h0, r0⟩ := trodAll_cons hA
  obtain ⟨v1, vs1, d1, ds1, p1, q1, rfl, rfl, rfl, h1, r1⟩ := trodAll_cons r0
  obtain ⟨v2, vs2, d2, ds2, p2, q2, rfl, rfl, rfl, h2, r2⟩ := trodAll_cons r1
  obtain ⟨rfl, rfl, rfl⟩ := trodAll_nil r2
  obtain rfl : args = #[v0, v1, v2] := by cases args; simp_all
  obtain ⟨ns0, es0, nb0, eb0, hst0⟩ := stock_arg (hval 0 25 v0 rfl rfl) h0
  obtain ⟨vg, vs, m, gv, rfl, hG, hS⟩ := mat_arg (hval 1 29 v1 rfl rfl) h1
  obtain ⟨g, sc, t, l, d, rfl⟩ := wish_arg (hval 2 51 v2 rfl rfl) h2
  refine (stockPicks_walk _ ns0 es0 nb0 eb0 vg vs m gv g sc t l d W hst0 hG hS (maxLen_of W hSh)).mono fun e W' ⟨he, hb⟩ => ?_
  subst he
  exact ⟨_, rfl, law_post laidOut (by kernel_rfl) (by kernel_rfl) Tryz.underlying4 rfl hW' (fun _ => rfl) hb⟩
theorem stockPicks_laid (os : Os) : laidMet Tryz.prog Rows.stockPicksRow.laid ((laidWorld os).forCall (fun _ _ => 0) ⟨#[], #[.agg #[.slice none 0 0, .slice none 0 0], .agg #[.slice none 0 0, .slice none 0 0], .agg #[.string ⟨#[]⟩, .string ⟨#[]⟩, .int .i64 0, .int .i64 0, .int .i64 0]], []⟩).memory := laidMet_of_run' 8 (by kernel_rfl) (by kernel_rfl)
theorem stockPicks_reads (os : Os) {H : Type} (enc : TypeId × Value → H) : ∃ places, DataW.whole enc Tryz.prog ((laidWorld os).forCall (fun _ _ => 0) ⟨#[], #[.agg #[.slice none 0 0, .slice none 0 0], .agg #[.slice none 0 0, .slice none 0 0], .agg #[.string ⟨#[]⟩, .string ⟨#[]⟩, .int .i64 0, .int .i64 0, .int .i64 0]], []⟩).memory Tryz.f5.params.toList Rows.stockPicksSpec.vars false (#[.agg #[.slice none 0 0, .slice none 0 0], .agg #[.slice none 0 0, .slice none 0 0], .agg #[.string ⟨#[]⟩, .string ⟨#[]⟩, .int .i64 0, .int .i64 0, .int .i64 0]] : Array Value).toList 8 = some ([.agg [.nil, .nil], .agg [.nil, .nil], .agg [.lit (.string []), .lit (.string []), .lit (.int .i64 0), .lit (.int .i64 0), .lit (.int .i64 0)]], [], places) := ⟨[], by kernel_rfl⟩
set_option maxRecDepth 100000 in
theorem stockPicks_lifted (os : Os) (started : os.Started) (H : Type) (enc : TypeId × Value → H) (F : Stop.Interp) :
    ReturnsInHanded {} Tryz.checked os 5 .any ((OpenSpec.ofChange Rows.stockPicksSpec).preRow enc Tryz.prog Tryz.f5 Rows.stockPicksRow.domain false Rows.stockPicksRow.laid) (((OpenSpec.ofChange Rows.stockPicksSpec).at F).post enc Tryz.prog Tryz.f5 false true false false) := by
  obtain ⟨places, hx⟩ := stockPicks_reads os enc
  refine returnsInHanded_of_row (C := Tryz.checked) (s := OpenSpec.ofChange Rows.stockPicksSpec) own started (by kernel_rfl) Tryz.func5
    (witness_row_at (enc := enc) (C := Tryz.checked) false (laidWorld os) #[.agg #[.slice none 0 0, .slice none 0 0], .agg #[.slice none 0 0, .slice none 0 0], .agg #[.string ⟨#[]⟩, .string ⟨#[]⟩, .int .i64 0, .int .i64 0, .int .i64 0]] rfl (by kernel_rfl) (by kernel_rfl) (by kernel_rfl)
      (OpenSpec.preRow_of_cond 8 hx (by kernel_rfl) (fun k hk => by cases hk) (by kernel_rfl) (stockPicks_laid os))) ?_
  intro W base args ds gs before hval hW _ _ _ hL hSh _
  exact stockPicks_contract H enc W base args ds gs before hval hW hL hSh
theorem stockPicks_said : Rows.StockPicksSaid :=
  OpenClaim.holds_of_cond 5 Tryz.f5 rfl rfl rfl rfl rfl rfl rfl ⟨rfl, rfl, rfl, rfl, rfl⟩ rfl rfl rfl rfl rfl (by kernel_rfl) Tryz.func5 (by kernel_rfl)
    (of_decide_eq_true (by kernel_rfl)) (by unfold Func.isWrapper; rw [if_neg (of_decide_eq_false (by kernel_rfl))]; exact ⟨rfl, rfl⟩)
    (fun os started H enc _ F => by rw [OpenClaim.pre_eq_preRow]; exact stockPicks_lifted os started H enc F)
theorem stockPicks_plain (f : FuncId) (fn : Func) (hf : Tryz.pinned.checked.prog.funcNamed "shipyard/shipyardlaw29.StockPicks" = some f) (hfn : Tryz.pinned.checked.prog.funcs[f]? = some fn) :
    false = Tryz.pinned.checked.prog.looks [] ∧ ∀ (j : Nat) t, fn.params[j]? = some t → Tryz.pinned.checked.prog.wantsStandIn t = false := by
  obtain rfl : f = 5 := Option.some.inj ((show Tryz.prog.funcNamed "shipyard/shipyardlaw29.StockPicks" = some 5 by kernel_rfl).symm.trans hf) |>.symm
  obtain rfl : fn = Tryz.f5 := (Option.some.inj (Tryz.func5.symm.trans hfn)).symm
  refine ⟨by kernel_rfl, fun j t ht => ?_⟩
  rw [Tryz.params5] at ht
  have hm : t ∈ [25, 29, 51] := by simpa using Array.mem_of_getElem? ht
  have hall : ([25, 29, 51].all fun u => !Tryz.prog.wantsStandIn u) = true := by kernel_rfl
  exact (show Tryz.prog.wantsStandIn t = false by simpa using List.all_eq_true.1 hall t hm)
/-- the card -/
theorem stockPicks_card : Rows.StockPicksCardSaid :=
  Claim7.holds_tied_plain_at .later [] _ _ _ _ stockPicks_said (fun _ h => by cases h) (by kernel_rfl) (fun _ h => by cases h) stockPicks_row_tie rfl ⟨rfl, rfl⟩ (by kernel_rfl) rfl stockPicks_plain (by kernel_rfl)
#print axioms stockPicks_card
end Go.Proofs.YtiddpaaihloopaaGreatDoor
