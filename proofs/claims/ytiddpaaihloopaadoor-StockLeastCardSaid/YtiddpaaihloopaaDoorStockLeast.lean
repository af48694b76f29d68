/-
  What is picked is large enough, and none that is large enough is smaller; if nothing is picked, none is large enough. Conditions: none (the card ties the two tables of unicode/utf8 to the program's text). By an AI agent.
-/
import Derived.Test.YtiddpaaihloopaaDoorStockS
namespace Go.Proofs.YtiddpaaihloopaaDoor
open Go Go.ChangeShapes Go.WideShapes Go.RowKit Go.ChangeAt
set_option linter.unusedSimpArgs false
set_option linter.unusedVariables false
set_option maxRecDepth 100000 in
set_option maxHeartbeats 32000000 in
theorem stockLeast_walk (v : Value) (ns : Nat) (es : Nat → Sh) (nb : Nat) (eb : Nat → Br) (vg vs : Value) (m : Mat) (gv : Nat → Value) (g sc : ByteArray) (t l d : Int) (w : World) (h : StAt w v ns es nb eb) (hG : GrAt w vg m gv) (hS : SeAt w vs m) (hml : MaxLenIs w) :
    Calls Tryd.prog 5 #[v, .agg #[vg, vs], .agg #[.string g, .string sc, .int .i64 t, .int .i64 l, .int .i64 d]] w fun e w' => e = .returned (.bool true) ∧ Below w.heap.size w w' := by
  have hST0 := h
  have HML := Lib.hid hml
  have HST := Lib.hid h
  have HG := Lib.hid hG
  have HS := Lib.hid hS
  obtain ⟨oa, ca, ob, cb, rfl⟩ := h.slices
  obtain ⟨om, cm, rfl, -, -⟩ := hG.form
  obtain ⟨ot, ct, rfl, -, -⟩ := hS.form
  clear h hml hG hS
  obtain ⟨R1, hR1⟩ : ∃ R, rightB m ns es nb eb = R := ⟨_, rfl⟩
  have HR1 := Lib.hid hR1
  clear hR1
  obtain ⟨va0, vb0, he0, hSh0, hBr0⟩ := hST0
  cases he0
  obtain ⟨oa', ca', he0, -, -, hela⟩ := hSh0.form
  cases he0
  obtain ⟨ob', cb', he0, -, -, helb⟩ := hBr0.form
  cases he0
  have HELa := Lib.hid hela
  have HELc := Lib.hid helb
  clear hela helb hSh0 hBr0
  go_enter Tryd.func5, Tryd.ntmps5
  go_wp2_with fail
  (go_at_call 14; refine (right_any _ ns es nb eb _ _ m gv _ (HST.out.below (by first | assumption | go_grown)) (HG.out.below (by first | assumption | go_grown)) (HS.out.below (by first | assumption | go_grown)) (HML.out.below (by first | assumption | go_grown))).mono ?_; rintro e_ w1 ⟨rfl, hb⟩)
  rw [HR1.out]
  have hsw1 := hb.size
  (try simp only [World.size_alloc, World.size_setCell] at hsw1)
  have zzw1 : w.heap.size < w1.heap.size := by omega
  have hPw1 : Below w.heap.size w w1 := below_step (w := w) (by first | exact Below.refl _ _ | go_grown) hb
  have zsw1 : w.heap.size < w1.heap.size := by omega
  have s0w1 : w1.cell? ⟨w.heap.size, 0, none⟩ = some (.slice oa ns ca) := (hb.cell (p := ⟨_, _, none⟩) (by simp <;> omega)).trans (by simp [go_sem])
  have s1w1 : w1.cell? ⟨w.heap.size, 1, none⟩ = some (.slice ob nb cb) := (hb.cell (p := ⟨_, _, none⟩) (by simp <;> omega)).trans (by simp [go_sem])
  have zmw1 : w.heap.size + 1 < w1.heap.size := by omega
  have m0w1 : w1.cell? ⟨w.heap.size + 1, 0, none⟩ = some (.slice om m.ng cm) := (hb.cell (p := ⟨_, _, none⟩) (by simp <;> omega)).trans (by simp [go_sem])
  have m1w1 : w1.cell? ⟨w.heap.size + 1, 1, none⟩ = some (.slice ot m.ns ct) := (hb.cell (p := ⟨_, _, none⟩) (by simp <;> omega)).trans (by simp [go_sem])
  have zgw1 : w.heap.size + 1 + 1 < w1.heap.size := by omega
  have g0w1 : w1.cell? ⟨w.heap.size + 1 + 1, 0, none⟩ = some (.string g) := (hb.cell (p := ⟨_, _, none⟩) (by simp <;> omega)).trans (by simp [go_sem])
  have g1w1 : w1.cell? ⟨w.heap.size + 1 + 1, 1, none⟩ = some (.string sc) := (hb.cell (p := ⟨_, _, none⟩) (by simp <;> omega)).trans (by simp [go_sem])
  have g2w1 : w1.cell? ⟨w.heap.size + 1 + 1, 2, none⟩ = some (.int .i64 t) := (hb.cell (p := ⟨_, _, none⟩) (by simp <;> omega)).trans (by simp [go_sem])
  have g3w1 : w1.cell? ⟨w.heap.size + 1 + 1, 3, none⟩ = some (.int .i64 l) := (hb.cell (p := ⟨_, _, none⟩) (by simp <;> omega)).trans (by simp [go_sem])
  have g4w1 : w1.cell? ⟨w.heap.size + 1 + 1, 4, none⟩ = some (.int .i64 d) := (hb.cell (p := ⟨_, _, none⟩) (by simp <;> omega)).trans (by simp [go_sem])
  have hBw1 : Below w.heap.size w w1 := below_step (w := w) (by first | assumption | go_grown) hb
  clear hb hsw1 hPw1
  cases R1 with
  | false =>
    go_wp2_with fail
    (go_at_call 9; refine (awake_any _ (HML.out.below (by first | assumption | go_grown))).mono ?_; rintro e_ w2 ⟨rfl, hb⟩)
    have hsw2 := hb.size
    (try simp only [World.size_alloc, World.size_setCell] at hsw2)
    have zzw2 : w.heap.size < w2.heap.size := by omega
    have hPw2 : Below w1.heap.size w1 w2 := below_step (w := w1) (by first | exact Below.refl _ _ | go_grown) hb
    have zsw2 : w.heap.size < w2.heap.size := by omega
    have s0w2 : w2.cell? ⟨w.heap.size, 0, none⟩ = some (.slice oa ns ca) := (hPw2.cell (p := ⟨_, _, none⟩) zsw1).trans s0w1
    have s1w2 : w2.cell? ⟨w.heap.size, 1, none⟩ = some (.slice ob nb cb) := (hPw2.cell (p := ⟨_, _, none⟩) zsw1).trans s1w1
    have zmw2 : w.heap.size + 1 < w2.heap.size := by omega
    have m0w2 : w2.cell? ⟨w.heap.size + 1, 0, none⟩ = some (.slice om m.ng cm) := (hPw2.cell (p := ⟨_, _, none⟩) zmw1).trans m0w1
    have m1w2 : w2.cell? ⟨w.heap.size + 1, 1, none⟩ = some (.slice ot m.ns ct) := (hPw2.cell (p := ⟨_, _, none⟩) zmw1).trans m1w1
    have zgw2 : w.heap.size + 1 + 1 < w2.heap.size := by omega
    have g0w2 : w2.cell? ⟨w.heap.size + 1 + 1, 0, none⟩ = some (.string g) := (hPw2.cell (p := ⟨_, _, none⟩) zgw1).trans g0w1
    have g1w2 : w2.cell? ⟨w.heap.size + 1 + 1, 1, none⟩ = some (.string sc) := (hPw2.cell (p := ⟨_, _, none⟩) zgw1).trans g1w1
    have g2w2 : w2.cell? ⟨w.heap.size + 1 + 1, 2, none⟩ = some (.int .i64 t) := (hPw2.cell (p := ⟨_, _, none⟩) zgw1).trans g2w1
    have g3w2 : w2.cell? ⟨w.heap.size + 1 + 1, 3, none⟩ = some (.int .i64 l) := (hPw2.cell (p := ⟨_, _, none⟩) zgw1).trans g3w1
    have g4w2 : w2.cell? ⟨w.heap.size + 1 + 1, 4, none⟩ = some (.int .i64 d) := (hPw2.cell (p := ⟨_, _, none⟩) zgw1).trans g4w1
    have hBw2 : Below w.heap.size w w2 := below_step (w := w) (by first | assumption | go_grown) hb
    clear hb hsw2 hPw2
    clear zsw1 zmw1 zgw1 s0w1 s1w1 m0w1 m1w1 g0w1 g1w1 g2w1 g3w1 g4w1
    go_wp2
    go_returns
    exact ⟨rfl, by assumption⟩
  | true =>
    have HR := Lib.hid (right_is HR1.out)
    have HM := Lib.hid (mfew_mat HR.out.mfew HG.out HS.out)
    clear HR1
    by_cases hl : l < 1
    · have k1 : decide (l < 1) = true := decide_eq_true hl
      go_wp2_with fail
      (go_at_call 9; refine (awake_any _ (HML.out.below (by first | assumption | go_grown))).mono ?_; rintro e_ w2 ⟨rfl, hb⟩)
      have hsw2 := hb.size
      (try simp only [World.size_alloc, World.size_setCell] at hsw2)
      have zzw2 : w.heap.size < w2.heap.size := by omega
      have hPw2 : Below w1.heap.size w1 w2 := below_step (w := w1) (by first | exact Below.refl _ _ | go_grown) hb
      have zsw2 : w.heap.size < w2.heap.size := by omega
      have s0w2 : w2.cell? ⟨w.heap.size, 0, none⟩ = some (.slice oa ns ca) := (hPw2.cell (p := ⟨_, _, none⟩) zsw1).trans s0w1
      have s1w2 : w2.cell? ⟨w.heap.size, 1, none⟩ = some (.slice ob nb cb) := (hPw2.cell (p := ⟨_, _, none⟩) zsw1).trans s1w1
      have zmw2 : w.heap.size + 1 < w2.heap.size := by omega
      have m0w2 : w2.cell? ⟨w.heap.size + 1, 0, none⟩ = some (.slice om m.ng cm) := (hPw2.cell (p := ⟨_, _, none⟩) zmw1).trans m0w1
      have m1w2 : w2.cell? ⟨w.heap.size + 1, 1, none⟩ = some (.slice ot m.ns ct) := (hPw2.cell (p := ⟨_, _, none⟩) zmw1).trans m1w1
      have zgw2 : w.heap.size + 1 + 1 < w2.heap.size := by omega
      have g0w2 : w2.cell? ⟨w.heap.size + 1 + 1, 0, none⟩ = some (.string g) := (hPw2.cell (p := ⟨_, _, none⟩) zgw1).trans g0w1
      have g1w2 : w2.cell? ⟨w.heap.size + 1 + 1, 1, none⟩ = some (.string sc) := (hPw2.cell (p := ⟨_, _, none⟩) zgw1).trans g1w1
      have g2w2 : w2.cell? ⟨w.heap.size + 1 + 1, 2, none⟩ = some (.int .i64 t) := (hPw2.cell (p := ⟨_, _, none⟩) zgw1).trans g2w1
      have g3w2 : w2.cell? ⟨w.heap.size + 1 + 1, 3, none⟩ = some (.int .i64 l) := (hPw2.cell (p := ⟨_, _, none⟩) zgw1).trans g3w1
      have g4w2 : w2.cell? ⟨w.heap.size + 1 + 1, 4, none⟩ = some (.int .i64 d) := (hPw2.cell (p := ⟨_, _, none⟩) zgw1).trans g4w1
      have hBw2 : Below w.heap.size w w2 := below_step (w := w) (by first | assumption | go_grown) hb
      clear hb hsw2 hPw2
      clear zsw1 zmw1 zgw1 s0w1 s1w1 m0w1 m1w1 g0w1 g1w1 g2w1 g3w1 g4w1
      go_wp2
      go_returns
      exact ⟨rfl, by assumption⟩
    have k1 : decide (l < 1) = false := decide_eq_false hl
    by_cases hd : d < 1
    · have k2 : decide (d < 1) = true := decide_eq_true hd
      go_wp2_with fail
      (go_at_call 9; refine (awake_any _ (HML.out.below (by first | assumption | go_grown))).mono ?_; rintro e_ w2 ⟨rfl, hb⟩)
      have hsw2 := hb.size
      (try simp only [World.size_alloc, World.size_setCell] at hsw2)
      have zzw2 : w.heap.size < w2.heap.size := by omega
      have hPw2 : Below w1.heap.size w1 w2 := below_step (w := w1) (by first | exact Below.refl _ _ | go_grown) hb
      have zsw2 : w.heap.size < w2.heap.size := by omega
      have s0w2 : w2.cell? ⟨w.heap.size, 0, none⟩ = some (.slice oa ns ca) := (hPw2.cell (p := ⟨_, _, none⟩) zsw1).trans s0w1
      have s1w2 : w2.cell? ⟨w.heap.size, 1, none⟩ = some (.slice ob nb cb) := (hPw2.cell (p := ⟨_, _, none⟩) zsw1).trans s1w1
      have zmw2 : w.heap.size + 1 < w2.heap.size := by omega
      have m0w2 : w2.cell? ⟨w.heap.size + 1, 0, none⟩ = some (.slice om m.ng cm) := (hPw2.cell (p := ⟨_, _, none⟩) zmw1).trans m0w1
      have m1w2 : w2.cell? ⟨w.heap.size + 1, 1, none⟩ = some (.slice ot m.ns ct) := (hPw2.cell (p := ⟨_, _, none⟩) zmw1).trans m1w1
      have zgw2 : w.heap.size + 1 + 1 < w2.heap.size := by omega
      have g0w2 : w2.cell? ⟨w.heap.size + 1 + 1, 0, none⟩ = some (.string g) := (hPw2.cell (p := ⟨_, _, none⟩) zgw1).trans g0w1
      have g1w2 : w2.cell? ⟨w.heap.size + 1 + 1, 1, none⟩ = some (.string sc) := (hPw2.cell (p := ⟨_, _, none⟩) zgw1).trans g1w1
      have g2w2 : w2.cell? ⟨w.heap.size + 1 + 1, 2, none⟩ = some (.int .i64 t) := (hPw2.cell (p := ⟨_, _, none⟩) zgw1).trans g2w1
      have g3w2 : w2.cell? ⟨w.heap.size + 1 + 1, 3, none⟩ = some (.int .i64 l) := (hPw2.cell (p := ⟨_, _, none⟩) zgw1).trans g3w1
      have g4w2 : w2.cell? ⟨w.heap.size + 1 + 1, 4, none⟩ = some (.int .i64 d) := (hPw2.cell (p := ⟨_, _, none⟩) zgw1).trans g4w1
      have hBw2 : Below w.heap.size w w2 := below_step (w := w) (by first | assumption | go_grown) hb
      clear hb hsw2 hPw2
      clear zsw1 zmw1 zgw1 s0w1 s1w1 m0w1 m1w1 g0w1 g1w1 g2w1 g3w1 g4w1
      go_wp2
      go_returns
      exact ⟨rfl, by assumption⟩
    have k2 : decide (d < 1) = false := decide_eq_false hd
    have HLD : Hid (¬ l < 1 ∧ ¬ d < 1) := ⟨hl, hd⟩
    clear hl hd
    have hn9a : ns ≤ 128 := HR.out.n1
    obtain ⟨Ia, hIa⟩ : ∃ x, (pickFS g t l d es ns).1 = x := ⟨_, rfl⟩
    obtain ⟨Ka, hKa⟩ : ∃ x, (pickFS g t l d es ns).2 = x := ⟨_, rfl⟩
    obtain ⟨Xa, hXa⟩ : ∃ x, takeV Sh.id Sh.none es ns Ia = x := ⟨_, rfl⟩
    obtain ⟨Ea, hEa⟩ : ∃ x, takeE Sh.id es ns Ia = x := ⟨_, rfl⟩
    have HLa := Lib.hid (least_Sheet HR.out (by have := HLD.out; omega) (by have := HLD.out; omega) hIa hKa hXa hEa)
    have HIa := Lib.hid hIa
    clear hIa
    have HKa := Lib.hid hKa
    clear hKa
    have HXa := Lib.hid hXa
    clear hXa
    have HEa := Lib.hid hEa
    clear hEa
    go_wp2_with fail
    (go_at_call 20; refine (pickSheet_at HR.out HIa.out HKa.out _ _ (HST.out.below (by first | assumption | go_grown))).mono ?_; rintro e_ w2 ⟨rfl, hb⟩)
    have hsw2 := hb.size
    (try simp only [World.size_alloc, World.size_setCell] at hsw2)
    have zzw2 : w.heap.size < w2.heap.size := by omega
    have hPw2 : Below w1.heap.size w1 w2 := below_step (w := w1) (by first | exact Below.refl _ _ | go_grown) hb
    have zsw2 : w.heap.size < w2.heap.size := by omega
    have s0w2 : w2.cell? ⟨w.heap.size, 0, none⟩ = some (.slice oa ns ca) := (hPw2.cell (p := ⟨_, _, none⟩) zsw1).trans s0w1
    have s1w2 : w2.cell? ⟨w.heap.size, 1, none⟩ = some (.slice ob nb cb) := (hPw2.cell (p := ⟨_, _, none⟩) zsw1).trans s1w1
    have zmw2 : w.heap.size + 1 < w2.heap.size := by omega
    have m0w2 : w2.cell? ⟨w.heap.size + 1, 0, none⟩ = some (.slice om m.ng cm) := (hPw2.cell (p := ⟨_, _, none⟩) zmw1).trans m0w1
    have m1w2 : w2.cell? ⟨w.heap.size + 1, 1, none⟩ = some (.slice ot m.ns ct) := (hPw2.cell (p := ⟨_, _, none⟩) zmw1).trans m1w1
    have zgw2 : w.heap.size + 1 + 1 < w2.heap.size := by omega
    have g0w2 : w2.cell? ⟨w.heap.size + 1 + 1, 0, none⟩ = some (.string g) := (hPw2.cell (p := ⟨_, _, none⟩) zgw1).trans g0w1
    have g1w2 : w2.cell? ⟨w.heap.size + 1 + 1, 1, none⟩ = some (.string sc) := (hPw2.cell (p := ⟨_, _, none⟩) zgw1).trans g1w1
    have g2w2 : w2.cell? ⟨w.heap.size + 1 + 1, 2, none⟩ = some (.int .i64 t) := (hPw2.cell (p := ⟨_, _, none⟩) zgw1).trans g2w1
    have g3w2 : w2.cell? ⟨w.heap.size + 1 + 1, 3, none⟩ = some (.int .i64 l) := (hPw2.cell (p := ⟨_, _, none⟩) zgw1).trans g3w1
    have g4w2 : w2.cell? ⟨w.heap.size + 1 + 1, 4, none⟩ = some (.int .i64 d) := (hPw2.cell (p := ⟨_, _, none⟩) zgw1).trans g4w1
    have hBw2 : Below w.heap.size w w2 := below_step (w := w) (by first | assumption | go_grown) hb
    clear hb hsw2 hPw2
    clear zsw1 zmw1 zgw1 s0w1 s1w1 m0w1 m1w1 g0w1 g1w1 g2w1 g3w1 g4w1
    go_wp2_with fail
    (go_at_call 17; refine (takeSheet_at HR.out HXa.out HEa.out _ _ (HST.out.below (by first | assumption | go_grown))).mono ?_; rintro e_ w3 ⟨oa9, na9, ca9, pa9, ma9, da9, rfl, hb⟩)
    have hsw3 := hb.size
    (try simp only [World.size_alloc, World.size_setCell] at hsw3)
    have zzw3 : w.heap.size < w3.heap.size := by omega
    have hPw3 : Below w2.heap.size w2 w3 := below_step (w := w2) (by first | exact Below.refl _ _ | go_grown) hb
    have zsw3 : w.heap.size < w3.heap.size := by omega
    have s0w3 : w3.cell? ⟨w.heap.size, 0, none⟩ = some (.slice oa ns ca) := (hPw3.cell (p := ⟨_, _, none⟩) zsw2).trans s0w2
    have s1w3 : w3.cell? ⟨w.heap.size, 1, none⟩ = some (.slice ob nb cb) := (hPw3.cell (p := ⟨_, _, none⟩) zsw2).trans s1w2
    have zmw3 : w.heap.size + 1 < w3.heap.size := by omega
    have m0w3 : w3.cell? ⟨w.heap.size + 1, 0, none⟩ = some (.slice om m.ng cm) := (hPw3.cell (p := ⟨_, _, none⟩) zmw2).trans m0w2
    have m1w3 : w3.cell? ⟨w.heap.size + 1, 1, none⟩ = some (.slice ot m.ns ct) := (hPw3.cell (p := ⟨_, _, none⟩) zmw2).trans m1w2
    have zgw3 : w.heap.size + 1 + 1 < w3.heap.size := by omega
    have g0w3 : w3.cell? ⟨w.heap.size + 1 + 1, 0, none⟩ = some (.string g) := (hPw3.cell (p := ⟨_, _, none⟩) zgw2).trans g0w2
    have g1w3 : w3.cell? ⟨w.heap.size + 1 + 1, 1, none⟩ = some (.string sc) := (hPw3.cell (p := ⟨_, _, none⟩) zgw2).trans g1w2
    have g2w3 : w3.cell? ⟨w.heap.size + 1 + 1, 2, none⟩ = some (.int .i64 t) := (hPw3.cell (p := ⟨_, _, none⟩) zgw2).trans g2w2
    have g3w3 : w3.cell? ⟨w.heap.size + 1 + 1, 3, none⟩ = some (.int .i64 l) := (hPw3.cell (p := ⟨_, _, none⟩) zgw2).trans g3w2
    have g4w3 : w3.cell? ⟨w.heap.size + 1 + 1, 4, none⟩ = some (.int .i64 d) := (hPw3.cell (p := ⟨_, _, none⟩) zgw2).trans g4w2
    have hBw3 : Below w.heap.size w w3 := below_step (w := w) (by first | assumption | go_grown) hb
    dsimp only [Sh.val]
    clear hb hsw3 hPw3
    clear zsw2 zmw2 zgw2 s0w2 s1w2 m0w2 m1w2 g0w2 g1w2 g2w2 g3w2 g4w2
    cases Ka with
    | false =>
      have hid := (HLa.out.no rfl).1
      subst hid
      go_wp2_with fail
      go_loopw [12, 13] (fun i _ wr => ∃ j : Nat, j ≤ ns ∧ i = .int .i64 j ∧ Below w3.heap.size w3 wr) (fun i _ _ => ns - (intOf i).toNat)
      case atStart => exact ⟨0, by omega, rfl, by first | exact Below.refl _ _ | go_grown⟩
      case round =>
        obtain ⟨w4, rfl⟩ : ∃ x : World, x = wr := ⟨_, rfl⟩
        obtain ⟨j, hj, rfl, hb⟩ := hrel
        have hsw4 := hb.size
        have zzw4 : w.heap.size < w4.heap.size := by omega
        have zsw4 : w.heap.size < w4.heap.size := by omega
        have s0w4 : w4.cell? ⟨w.heap.size, 0, none⟩ = some (.slice oa ns ca) := (hb.cell (p := ⟨_, _, none⟩) zsw3).trans s0w3
        have s1w4 : w4.cell? ⟨w.heap.size, 1, none⟩ = some (.slice ob nb cb) := (hb.cell (p := ⟨_, _, none⟩) zsw3).trans s1w3
        have zmw4 : w.heap.size + 1 < w4.heap.size := by omega
        have m0w4 : w4.cell? ⟨w.heap.size + 1, 0, none⟩ = some (.slice om m.ng cm) := (hb.cell (p := ⟨_, _, none⟩) zmw3).trans m0w3
        have m1w4 : w4.cell? ⟨w.heap.size + 1, 1, none⟩ = some (.slice ot m.ns ct) := (hb.cell (p := ⟨_, _, none⟩) zmw3).trans m1w3
        have zgw4 : w.heap.size + 1 + 1 < w4.heap.size := by omega
        have g0w4 : w4.cell? ⟨w.heap.size + 1 + 1, 0, none⟩ = some (.string g) := (hb.cell (p := ⟨_, _, none⟩) zgw3).trans g0w3
        have g1w4 : w4.cell? ⟨w.heap.size + 1 + 1, 1, none⟩ = some (.string sc) := (hb.cell (p := ⟨_, _, none⟩) zgw3).trans g1w3
        have g2w4 : w4.cell? ⟨w.heap.size + 1 + 1, 2, none⟩ = some (.int .i64 t) := (hb.cell (p := ⟨_, _, none⟩) zgw3).trans g2w3
        have g3w4 : w4.cell? ⟨w.heap.size + 1 + 1, 3, none⟩ = some (.int .i64 l) := (hb.cell (p := ⟨_, _, none⟩) zgw3).trans g3w3
        have g4w4 : w4.cell? ⟨w.heap.size + 1 + 1, 4, none⟩ = some (.int .i64 d) := (hb.cell (p := ⟨_, _, none⟩) zgw3).trans g4w3
        have hBw4 : Below w.heap.size w w4 := below_step (w := w) (by first | assumption | go_grown) hb
        have HBL := Lib.hid hb
        have hlew4 : w3.heap.size ≤ w4.heap.size := hb.size
        clear hb hsw4
        by_cases hlt : j < ns
        · obtain ⟨b1, f1, rfl, hbl1, hcl1⟩ := HELa.out j hlt
          have c0 : w4.cell? ⟨b1, f1 + j * 6, none⟩ = some (.string (es j).id) := (hBw4.cell (p := ⟨_, _, none⟩) hbl1).trans (hcl1 j hlt).1
          have c1 : w4.cell? ⟨b1, f1 + j * 6 + 1, none⟩ = some (.string (es j).grade) := (hBw4.cell (p := ⟨_, _, none⟩) hbl1).trans (hcl1 j hlt).2.1
          have c2 : w4.cell? ⟨b1, f1 + j * 6 + 2, none⟩ = some (.int .i64 (es j).thick) := (hBw4.cell (p := ⟨_, _, none⟩) hbl1).trans (hcl1 j hlt).2.2.1
          have c3 : w4.cell? ⟨b1, f1 + j * 6 + 3, none⟩ = some (.int .i64 (es j).len) := (hBw4.cell (p := ⟨_, _, none⟩) hbl1).trans (hcl1 j hlt).2.2.2.1
          have c4 : w4.cell? ⟨b1, f1 + j * 6 + 4, none⟩ = some (.int .i64 (es j).wid) := (hBw4.cell (p := ⟨_, _, none⟩) hbl1).trans (hcl1 j hlt).2.2.2.2.1
          have c5 : w4.cell? ⟨b1, f1 + j * 6 + 5, none⟩ = some (.string (es j).heat) := (hBw4.cell (p := ⟨_, _, none⟩) hbl1).trans (hcl1 j hlt).2.2.2.2.2
          have hbr : b1 < w4.heap.size := by omega
          clear hcl1
          by_cases ha : ((es j).grade.toList == g.toList) = true
          · by_cases hb : ((es j).thick == t) = true
            · have hFV : fitsB (es j) l d = false := by rw [← mS_last (l := l) (d := d) ha hb]; exact (HLa.out.no rfl).2 j hlt
              go_wp2_with fail
              (go_at_call 21; refine (fits_any (es j) l d _).mono ?_; rintro e_ w5 ⟨rfl, hb⟩)
              rw [hFV]
              have hsw5 := hb.size
              (try simp only [World.size_alloc, World.size_setCell] at hsw5)
              have zzw5 : w.heap.size < w5.heap.size := by omega
              have hPw5 : Below w4.heap.size w4 w5 := below_step (w := w4) (by first | exact Below.refl _ _ | go_grown) hb
              have zsw5 : w.heap.size < w5.heap.size := by omega
              have s0w5 : w5.cell? ⟨w.heap.size, 0, none⟩ = some (.slice (some ⟨b1, f1, none⟩) ns ca) := (hPw5.cell (p := ⟨_, _, none⟩) zsw4).trans s0w4
              have s1w5 : w5.cell? ⟨w.heap.size, 1, none⟩ = some (.slice ob nb cb) := (hPw5.cell (p := ⟨_, _, none⟩) zsw4).trans s1w4
              have zmw5 : w.heap.size + 1 < w5.heap.size := by omega
              have m0w5 : w5.cell? ⟨w.heap.size + 1, 0, none⟩ = some (.slice om m.ng cm) := (hPw5.cell (p := ⟨_, _, none⟩) zmw4).trans m0w4
              have m1w5 : w5.cell? ⟨w.heap.size + 1, 1, none⟩ = some (.slice ot m.ns ct) := (hPw5.cell (p := ⟨_, _, none⟩) zmw4).trans m1w4
              have zgw5 : w.heap.size + 1 + 1 < w5.heap.size := by omega
              have g0w5 : w5.cell? ⟨w.heap.size + 1 + 1, 0, none⟩ = some (.string g) := (hPw5.cell (p := ⟨_, _, none⟩) zgw4).trans g0w4
              have g1w5 : w5.cell? ⟨w.heap.size + 1 + 1, 1, none⟩ = some (.string sc) := (hPw5.cell (p := ⟨_, _, none⟩) zgw4).trans g1w4
              have g2w5 : w5.cell? ⟨w.heap.size + 1 + 1, 2, none⟩ = some (.int .i64 t) := (hPw5.cell (p := ⟨_, _, none⟩) zgw4).trans g2w4
              have g3w5 : w5.cell? ⟨w.heap.size + 1 + 1, 3, none⟩ = some (.int .i64 l) := (hPw5.cell (p := ⟨_, _, none⟩) zgw4).trans g3w4
              have g4w5 : w5.cell? ⟨w.heap.size + 1 + 1, 4, none⟩ = some (.int .i64 d) := (hPw5.cell (p := ⟨_, _, none⟩) zgw4).trans g4w4
              have zyw5 : w4.heap.size < w5.heap.size := by omega
              have y0w5 : w5.cell? ⟨w4.heap.size, 0, none⟩ = some (.string (es j).id) := (hb.cell (p := ⟨_, _, none⟩) (by simp <;> omega)).trans (by simp [go_sem])
              have y1w5 : w5.cell? ⟨w4.heap.size, 1, none⟩ = some (.string (es j).grade) := (hb.cell (p := ⟨_, _, none⟩) (by simp <;> omega)).trans (by simp [go_sem])
              have y2w5 : w5.cell? ⟨w4.heap.size, 2, none⟩ = some (.int .i64 (es j).thick) := (hb.cell (p := ⟨_, _, none⟩) (by simp <;> omega)).trans (by simp [go_sem])
              have y3w5 : w5.cell? ⟨w4.heap.size, 3, none⟩ = some (.int .i64 (es j).len) := (hb.cell (p := ⟨_, _, none⟩) (by simp <;> omega)).trans (by simp [go_sem])
              have y4w5 : w5.cell? ⟨w4.heap.size, 4, none⟩ = some (.int .i64 (es j).wid) := (hb.cell (p := ⟨_, _, none⟩) (by simp <;> omega)).trans (by simp [go_sem])
              have y5w5 : w5.cell? ⟨w4.heap.size, 5, none⟩ = some (.string (es j).heat) := (hb.cell (p := ⟨_, _, none⟩) (by simp <;> omega)).trans (by simp [go_sem])
              have hBw5 : Below w.heap.size w w5 := below_step (w := w) (by first | assumption | go_grown) hb
              have HBF := Lib.hid (below_step (w := w3) HBL.out hPw5)
              clear hb hsw5 hPw5
              clear zsw4 zmw4 zgw4 s0w4 s1w4 m0w4 m1w4 g0w4 g1w4 g2w4 g3w4 g4w4
              clear hFV
              go_wp2
              go_roundw
              case rel => exact ⟨j + 1, by omega, by go_num, HBF.out⟩
              case measure => simp [intOf]; omega
            · have khb := Bool.eq_false_iff.2 hb
              go_wp2
              go_roundw
              case rel => exact ⟨j + 1, by omega, by go_num, by first | exact HBL.out | (have hbl := HBL.out; go_grown)⟩
              case measure => simp [intOf]; omega
          · have kha := Bool.eq_false_iff.2 ha
            go_wp2
            go_roundw
            case rel => exact ⟨j + 1, by omega, by go_num, by first | exact HBL.out | (have hbl := HBL.out; go_grown)⟩
            case measure => simp [intOf]; omega
        · obtain rfl : ns = j := by omega
          clear HBL
          have hn9c : nb ≤ 128 := HR.out.n2
          obtain ⟨Ic, hIc⟩ : ∃ x, (pickFB sc g l eb nb).1 = x := ⟨_, rfl⟩
          obtain ⟨Kc, hKc⟩ : ∃ x, (pickFB sc g l eb nb).2 = x := ⟨_, rfl⟩
          obtain ⟨Xc, hXc⟩ : ∃ x, takeV Br.id Br.none eb nb Ic = x := ⟨_, rfl⟩
          obtain ⟨Ec, hEc⟩ : ∃ x, takeE Br.id eb nb Ic = x := ⟨_, rfl⟩
          have HLc := Lib.hid (least_Bar HR.out (by have := HLD.out; omega) hIc hKc hXc hEc)
          have HIc := Lib.hid hIc
          clear hIc
          have HKc := Lib.hid hKc
          clear hKc
          have HXc := Lib.hid hXc
          clear hXc
          have HEc := Lib.hid hEc
          clear hEc
          go_wp2_with fail
          (go_at_call 22; refine (pickBar_at HR.out HIc.out HKc.out _ _ (HST.out.below (by first | assumption | go_grown))).mono ?_; rintro e_ w5 ⟨rfl, hb⟩)
          have hsw5 := hb.size
          (try simp only [World.size_alloc, World.size_setCell] at hsw5)
          have zzw5 : w.heap.size < w5.heap.size := by omega
          have hPw5 : Below w4.heap.size w4 w5 := below_step (w := w4) (by first | exact Below.refl _ _ | go_grown) hb
          have zsw5 : w.heap.size < w5.heap.size := by omega
          have s0w5 : w5.cell? ⟨w.heap.size, 0, none⟩ = some (.slice oa ns ca) := (hPw5.cell (p := ⟨_, _, none⟩) zsw4).trans s0w4
          have s1w5 : w5.cell? ⟨w.heap.size, 1, none⟩ = some (.slice ob nb cb) := (hPw5.cell (p := ⟨_, _, none⟩) zsw4).trans s1w4
          have zmw5 : w.heap.size + 1 < w5.heap.size := by omega
          have m0w5 : w5.cell? ⟨w.heap.size + 1, 0, none⟩ = some (.slice om m.ng cm) := (hPw5.cell (p := ⟨_, _, none⟩) zmw4).trans m0w4
          have m1w5 : w5.cell? ⟨w.heap.size + 1, 1, none⟩ = some (.slice ot m.ns ct) := (hPw5.cell (p := ⟨_, _, none⟩) zmw4).trans m1w4
          have zgw5 : w.heap.size + 1 + 1 < w5.heap.size := by omega
          have g0w5 : w5.cell? ⟨w.heap.size + 1 + 1, 0, none⟩ = some (.string g) := (hPw5.cell (p := ⟨_, _, none⟩) zgw4).trans g0w4
          have g1w5 : w5.cell? ⟨w.heap.size + 1 + 1, 1, none⟩ = some (.string sc) := (hPw5.cell (p := ⟨_, _, none⟩) zgw4).trans g1w4
          have g2w5 : w5.cell? ⟨w.heap.size + 1 + 1, 2, none⟩ = some (.int .i64 t) := (hPw5.cell (p := ⟨_, _, none⟩) zgw4).trans g2w4
          have g3w5 : w5.cell? ⟨w.heap.size + 1 + 1, 3, none⟩ = some (.int .i64 l) := (hPw5.cell (p := ⟨_, _, none⟩) zgw4).trans g3w4
          have g4w5 : w5.cell? ⟨w.heap.size + 1 + 1, 4, none⟩ = some (.int .i64 d) := (hPw5.cell (p := ⟨_, _, none⟩) zgw4).trans g4w4
          have hBw5 : Below w.heap.size w w5 := below_step (w := w) (by first | assumption | go_grown) hb
          clear hb hsw5 hPw5
          clear zsw4 zmw4 zgw4 s0w4 s1w4 m0w4 m1w4 g0w4 g1w4 g2w4 g3w4 g4w4
          go_wp2_with fail
          (go_at_call 19; refine (takeBar_at HR.out HXc.out HEc.out _ _ (HST.out.below (by first | assumption | go_grown))).mono ?_; rintro e_ w6 ⟨oc9, nc9, cc9, pc9, mc9, dc9, rfl, hb⟩)
          have hsw6 := hb.size
          (try simp only [World.size_alloc, World.size_setCell] at hsw6)
          have zzw6 : w.heap.size < w6.heap.size := by omega
          have hPw6 : Below w5.heap.size w5 w6 := below_step (w := w5) (by first | exact Below.refl _ _ | go_grown) hb
          have zsw6 : w.heap.size < w6.heap.size := by omega
          have s0w6 : w6.cell? ⟨w.heap.size, 0, none⟩ = some (.slice oa ns ca) := (hPw6.cell (p := ⟨_, _, none⟩) zsw5).trans s0w5
          have s1w6 : w6.cell? ⟨w.heap.size, 1, none⟩ = some (.slice ob nb cb) := (hPw6.cell (p := ⟨_, _, none⟩) zsw5).trans s1w5
          have zmw6 : w.heap.size + 1 < w6.heap.size := by omega
          have m0w6 : w6.cell? ⟨w.heap.size + 1, 0, none⟩ = some (.slice om m.ng cm) := (hPw6.cell (p := ⟨_, _, none⟩) zmw5).trans m0w5
          have m1w6 : w6.cell? ⟨w.heap.size + 1, 1, none⟩ = some (.slice ot m.ns ct) := (hPw6.cell (p := ⟨_, _, none⟩) zmw5).trans m1w5
          have zgw6 : w.heap.size + 1 + 1 < w6.heap.size := by omega
          have g0w6 : w6.cell? ⟨w.heap.size + 1 + 1, 0, none⟩ = some (.string g) := (hPw6.cell (p := ⟨_, _, none⟩) zgw5).trans g0w5
          have g1w6 : w6.cell? ⟨w.heap.size + 1 + 1, 1, none⟩ = some (.string sc) := (hPw6.cell (p := ⟨_, _, none⟩) zgw5).trans g1w5
          have g2w6 : w6.cell? ⟨w.heap.size + 1 + 1, 2, none⟩ = some (.int .i64 t) := (hPw6.cell (p := ⟨_, _, none⟩) zgw5).trans g2w5
          have g3w6 : w6.cell? ⟨w.heap.size + 1 + 1, 3, none⟩ = some (.int .i64 l) := (hPw6.cell (p := ⟨_, _, none⟩) zgw5).trans g3w5
          have g4w6 : w6.cell? ⟨w.heap.size + 1 + 1, 4, none⟩ = some (.int .i64 d) := (hPw6.cell (p := ⟨_, _, none⟩) zgw5).trans g4w5
          have hBw6 : Below w.heap.size w w6 := below_step (w := w) (by first | assumption | go_grown) hb
          dsimp only [Br.val]
          clear hb hsw6 hPw6
          clear zsw5 zmw5 zgw5 s0w5 s1w5 m0w5 m1w5 g0w5 g1w5 g2w5 g3w5 g4w5
          cases Kc with
          | false =>
            have hid := (HLc.out.no rfl).1
            subst hid
            go_wp2_with fail
            go_loopw [19, 20] (fun i _ wr => ∃ j : Nat, j ≤ nb ∧ i = .int .i64 j ∧ Below w6.heap.size w6 wr) (fun i _ _ => nb - (intOf i).toNat)
            case atStart => exact ⟨0, by omega, rfl, by first | exact Below.refl _ _ | go_grown⟩
            case round =>
              obtain ⟨w7, rfl⟩ : ∃ x : World, x = wr := ⟨_, rfl⟩
              obtain ⟨j, hj, rfl, hb⟩ := hrel
              have hsw7 := hb.size
              have zzw7 : w.heap.size < w7.heap.size := by omega
              have zsw7 : w.heap.size < w7.heap.size := by omega
              have s0w7 : w7.cell? ⟨w.heap.size, 0, none⟩ = some (.slice oa ns ca) := (hb.cell (p := ⟨_, _, none⟩) zsw6).trans s0w6
              have s1w7 : w7.cell? ⟨w.heap.size, 1, none⟩ = some (.slice ob nb cb) := (hb.cell (p := ⟨_, _, none⟩) zsw6).trans s1w6
              have zmw7 : w.heap.size + 1 < w7.heap.size := by omega
              have m0w7 : w7.cell? ⟨w.heap.size + 1, 0, none⟩ = some (.slice om m.ng cm) := (hb.cell (p := ⟨_, _, none⟩) zmw6).trans m0w6
              have m1w7 : w7.cell? ⟨w.heap.size + 1, 1, none⟩ = some (.slice ot m.ns ct) := (hb.cell (p := ⟨_, _, none⟩) zmw6).trans m1w6
              have zgw7 : w.heap.size + 1 + 1 < w7.heap.size := by omega
              have g0w7 : w7.cell? ⟨w.heap.size + 1 + 1, 0, none⟩ = some (.string g) := (hb.cell (p := ⟨_, _, none⟩) zgw6).trans g0w6
              have g1w7 : w7.cell? ⟨w.heap.size + 1 + 1, 1, none⟩ = some (.string sc) := (hb.cell (p := ⟨_, _, none⟩) zgw6).trans g1w6
              have g2w7 : w7.cell? ⟨w.heap.size + 1 + 1, 2, none⟩ = some (.int .i64 t) := (hb.cell (p := ⟨_, _, none⟩) zgw6).trans g2w6
              have g3w7 : w7.cell? ⟨w.heap.size + 1 + 1, 3, none⟩ = some (.int .i64 l) := (hb.cell (p := ⟨_, _, none⟩) zgw6).trans g3w6
              have g4w7 : w7.cell? ⟨w.heap.size + 1 + 1, 4, none⟩ = some (.int .i64 d) := (hb.cell (p := ⟨_, _, none⟩) zgw6).trans g4w6
              have hBw7 : Below w.heap.size w w7 := below_step (w := w) (by first | assumption | go_grown) hb
              have HBL := Lib.hid hb
              have hlew7 : w6.heap.size ≤ w7.heap.size := hb.size
              clear hb hsw7
              by_cases hlt : j < nb
              · obtain ⟨b1, f1, rfl, hbl1, hcl1⟩ := HELc.out j hlt
                have c0 : w7.cell? ⟨b1, f1 + j * 5, none⟩ = some (.string (eb j).id) := (hBw7.cell (p := ⟨_, _, none⟩) hbl1).trans (hcl1 j hlt).1
                have c1 : w7.cell? ⟨b1, f1 + j * 5 + 1, none⟩ = some (.string (eb j).sect) := (hBw7.cell (p := ⟨_, _, none⟩) hbl1).trans (hcl1 j hlt).2.1
                have c2 : w7.cell? ⟨b1, f1 + j * 5 + 2, none⟩ = some (.string (eb j).grade) := (hBw7.cell (p := ⟨_, _, none⟩) hbl1).trans (hcl1 j hlt).2.2.1
                have c3 : w7.cell? ⟨b1, f1 + j * 5 + 3, none⟩ = some (.int .i64 (eb j).len) := (hBw7.cell (p := ⟨_, _, none⟩) hbl1).trans (hcl1 j hlt).2.2.2.1
                have c4 : w7.cell? ⟨b1, f1 + j * 5 + 4, none⟩ = some (.string (eb j).heat) := (hBw7.cell (p := ⟨_, _, none⟩) hbl1).trans (hcl1 j hlt).2.2.2.2
                have hbr : b1 < w7.heap.size := by omega
                clear hcl1
                by_cases ha : ((eb j).sect.toList == sc.toList) = true
                · by_cases hb : ((eb j).grade.toList == g.toList) = true
                  · have kc : decide (l ≤ (eb j).len) = false := by rw [← mB_last (l := l) ha hb]; exact (HLc.out.no rfl).2 j hlt
                    go_wp2
                    go_roundw
                    case rel => exact ⟨j + 1, by omega, by go_num, by first | exact HBL.out | (have hbl := HBL.out; go_grown)⟩
                    case measure => simp [intOf]; omega
                  · have khb := Bool.eq_false_iff.2 hb
                    go_wp2
                    go_roundw
                    case rel => exact ⟨j + 1, by omega, by go_num, by first | exact HBL.out | (have hbl := HBL.out; go_grown)⟩
                    case measure => simp [intOf]; omega
                · have kha := Bool.eq_false_iff.2 ha
                  go_wp2
                  go_roundw
                  case rel => exact ⟨j + 1, by omega, by go_num, by first | exact HBL.out | (have hbl := HBL.out; go_grown)⟩
                  case measure => simp [intOf]; omega
              · obtain rfl : nb = j := by omega
                clear HBL
                go_wp2_with fail
                (go_at_call 9; refine (awake_any _ (HML.out.below (by first | assumption | go_grown))).mono ?_; rintro e_ w8 ⟨rfl, hb⟩)
                have hsw8 := hb.size
                (try simp only [World.size_alloc, World.size_setCell] at hsw8)
                have zzw8 : w.heap.size < w8.heap.size := by omega
                have hPw8 : Below w7.heap.size w7 w8 := below_step (w := w7) (by first | exact Below.refl _ _ | go_grown) hb
                have zsw8 : w.heap.size < w8.heap.size := by omega
                have s0w8 : w8.cell? ⟨w.heap.size, 0, none⟩ = some (.slice oa ns ca) := (hPw8.cell (p := ⟨_, _, none⟩) zsw7).trans s0w7
                have s1w8 : w8.cell? ⟨w.heap.size, 1, none⟩ = some (.slice ob nb cb) := (hPw8.cell (p := ⟨_, _, none⟩) zsw7).trans s1w7
                have zmw8 : w.heap.size + 1 < w8.heap.size := by omega
                have m0w8 : w8.cell? ⟨w.heap.size + 1, 0, none⟩ = some (.slice om m.ng cm) := (hPw8.cell (p := ⟨_, _, none⟩) zmw7).trans m0w7
                have m1w8 : w8.cell? ⟨w.heap.size + 1, 1, none⟩ = some (.slice ot m.ns ct) := (hPw8.cell (p := ⟨_, _, none⟩) zmw7).trans m1w7
                have zgw8 : w.heap.size + 1 + 1 < w8.heap.size := by omega
                have g0w8 : w8.cell? ⟨w.heap.size + 1 + 1, 0, none⟩ = some (.string g) := (hPw8.cell (p := ⟨_, _, none⟩) zgw7).trans g0w7
                have g1w8 : w8.cell? ⟨w.heap.size + 1 + 1, 1, none⟩ = some (.string sc) := (hPw8.cell (p := ⟨_, _, none⟩) zgw7).trans g1w7
                have g2w8 : w8.cell? ⟨w.heap.size + 1 + 1, 2, none⟩ = some (.int .i64 t) := (hPw8.cell (p := ⟨_, _, none⟩) zgw7).trans g2w7
                have g3w8 : w8.cell? ⟨w.heap.size + 1 + 1, 3, none⟩ = some (.int .i64 l) := (hPw8.cell (p := ⟨_, _, none⟩) zgw7).trans g3w7
                have g4w8 : w8.cell? ⟨w.heap.size + 1 + 1, 4, none⟩ = some (.int .i64 d) := (hPw8.cell (p := ⟨_, _, none⟩) zgw7).trans g4w7
                have hBw8 : Below w.heap.size w w8 := below_step (w := w) (by first | assumption | go_grown) hb
                clear hb hsw8 hPw8
                clear zsw7 zmw7 zgw7 s0w7 s1w7 m0w7 m1w7 g0w7 g1w7 g2w7 g3w7 g4w7
                go_wp2
                go_returns
                exact ⟨rfl, by assumption⟩
          | true =>
            obtain ⟨hE0, hM, -⟩ := HLc.out.yes rfl
            subst hE0
            obtain ⟨kg, kt, kf⟩ := mB_split hM
            clear hM
            obtain ⟨Xc0, Xc1, Xc2, Xc3, Xc4⟩ := Xc
            obtain rfl : sc = Xc1 := (toList_inj (beq_iff_eq.1 kg)).symm
            obtain rfl : g = Xc2 := (toList_inj (beq_iff_eq.1 kt)).symm
            clear kg kt
            dsimp only
            have kz : decide (Xc3 < l) = false := decide_eq_false (by have := of_decide_eq_true kf; dsimp only at this; omega)
            clear kf
            go_wp2_with fail
            go_loopw [19, 20] (fun i _ wr => ∃ j : Nat, j ≤ nb ∧ i = .int .i64 j ∧ Below w6.heap.size w6 wr ∧ wr.cell? ⟨w6.heap.size + 1, 3, none⟩ = some (.int .i64 Xc3) ∧ w6.heap.size + 1 < wr.heap.size) (fun i _ _ => nb - (intOf i).toNat)
            case atStart => exact ⟨0, by omega, rfl, by first | exact Below.refl _ _ | go_grown, by simp [go_sem], by simp <;> omega⟩
            case round =>
              obtain ⟨w7, rfl⟩ : ∃ x : World, x = wr := ⟨_, rfl⟩
              obtain ⟨j, hj, rfl, hb, hx3, hxz⟩ := hrel
              have hsw7 := hb.size
              have zzw7 : w.heap.size < w7.heap.size := by omega
              have zsw7 : w.heap.size < w7.heap.size := by omega
              have s0w7 : w7.cell? ⟨w.heap.size, 0, none⟩ = some (.slice oa ns ca) := (hb.cell (p := ⟨_, _, none⟩) zsw6).trans s0w6
              have s1w7 : w7.cell? ⟨w.heap.size, 1, none⟩ = some (.slice ob nb cb) := (hb.cell (p := ⟨_, _, none⟩) zsw6).trans s1w6
              have zmw7 : w.heap.size + 1 < w7.heap.size := by omega
              have m0w7 : w7.cell? ⟨w.heap.size + 1, 0, none⟩ = some (.slice om m.ng cm) := (hb.cell (p := ⟨_, _, none⟩) zmw6).trans m0w6
              have m1w7 : w7.cell? ⟨w.heap.size + 1, 1, none⟩ = some (.slice ot m.ns ct) := (hb.cell (p := ⟨_, _, none⟩) zmw6).trans m1w6
              have zgw7 : w.heap.size + 1 + 1 < w7.heap.size := by omega
              have g0w7 : w7.cell? ⟨w.heap.size + 1 + 1, 0, none⟩ = some (.string g) := (hb.cell (p := ⟨_, _, none⟩) zgw6).trans g0w6
              have g1w7 : w7.cell? ⟨w.heap.size + 1 + 1, 1, none⟩ = some (.string sc) := (hb.cell (p := ⟨_, _, none⟩) zgw6).trans g1w6
              have g2w7 : w7.cell? ⟨w.heap.size + 1 + 1, 2, none⟩ = some (.int .i64 t) := (hb.cell (p := ⟨_, _, none⟩) zgw6).trans g2w6
              have g3w7 : w7.cell? ⟨w.heap.size + 1 + 1, 3, none⟩ = some (.int .i64 l) := (hb.cell (p := ⟨_, _, none⟩) zgw6).trans g3w6
              have g4w7 : w7.cell? ⟨w.heap.size + 1 + 1, 4, none⟩ = some (.int .i64 d) := (hb.cell (p := ⟨_, _, none⟩) zgw6).trans g4w6
              have hBw7 : Below w.heap.size w w7 := below_step (w := w) (by first | assumption | go_grown) hb
              have HBL := Lib.hid hb
              have hlew7 : w6.heap.size ≤ w7.heap.size := hb.size
              clear hb hsw7
              by_cases hlt : j < nb
              · obtain ⟨b1, f1, rfl, hbl1, hcl1⟩ := HELc.out j hlt
                have c0 : w7.cell? ⟨b1, f1 + j * 5, none⟩ = some (.string (eb j).id) := (hBw7.cell (p := ⟨_, _, none⟩) hbl1).trans (hcl1 j hlt).1
                have c1 : w7.cell? ⟨b1, f1 + j * 5 + 1, none⟩ = some (.string (eb j).sect) := (hBw7.cell (p := ⟨_, _, none⟩) hbl1).trans (hcl1 j hlt).2.1
                have c2 : w7.cell? ⟨b1, f1 + j * 5 + 2, none⟩ = some (.string (eb j).grade) := (hBw7.cell (p := ⟨_, _, none⟩) hbl1).trans (hcl1 j hlt).2.2.1
                have c3 : w7.cell? ⟨b1, f1 + j * 5 + 3, none⟩ = some (.int .i64 (eb j).len) := (hBw7.cell (p := ⟨_, _, none⟩) hbl1).trans (hcl1 j hlt).2.2.2.1
                have c4 : w7.cell? ⟨b1, f1 + j * 5 + 4, none⟩ = some (.string (eb j).heat) := (hBw7.cell (p := ⟨_, _, none⟩) hbl1).trans (hcl1 j hlt).2.2.2.2
                have hbr : b1 < w7.heap.size := by omega
                clear hcl1
                by_cases ha : ((eb j).sect.toList == sc.toList) = true
                · by_cases hb : ((eb j).grade.toList == g.toList) = true
                  · by_cases hc : l ≤ (eb j).len
                    · have kc : decide (l ≤ (eb j).len) = true := decide_eq_true hc
                      have kl : decide ((eb j).len < Xc3) = false := by
                        have := (HLc.out.yes rfl).2.2 j hlt (by rw [mB_last ha hb, kc])
                        dsimp only at this
                        exact decide_eq_false (by omega)
                      go_wp2
                      go_roundw
                      case rel => exact ⟨j + 1, by omega, by go_num, by first | exact HBL.out | (have hbl := HBL.out; go_grown), by first | assumption | exact (((Below.refl _ _).alloc (Nat.le_refl _) _).cell (p := ⟨_, _, none⟩) hxz).trans hx3, by first | omega | (simp <;> omega)⟩
                      case measure => simp [intOf]; omega
                    · have kc : decide (l ≤ (eb j).len) = false := decide_eq_false hc
                      go_wp2
                      go_roundw
                      case rel => exact ⟨j + 1, by omega, by go_num, by first | exact HBL.out | (have hbl := HBL.out; go_grown), by first | assumption | exact (((Below.refl _ _).alloc (Nat.le_refl _) _).cell (p := ⟨_, _, none⟩) hxz).trans hx3, by first | omega | (simp <;> omega)⟩
                      case measure => simp [intOf]; omega
                  · have khb := Bool.eq_false_iff.2 hb
                    go_wp2
                    go_roundw
                    case rel => exact ⟨j + 1, by omega, by go_num, by first | exact HBL.out | (have hbl := HBL.out; go_grown), by first | assumption | exact (((Below.refl _ _).alloc (Nat.le_refl _) _).cell (p := ⟨_, _, none⟩) hxz).trans hx3, by first | omega | (simp <;> omega)⟩
                    case measure => simp [intOf]; omega
                · have kha := Bool.eq_false_iff.2 ha
                  go_wp2
                  go_roundw
                  case rel => exact ⟨j + 1, by omega, by go_num, by first | exact HBL.out | (have hbl := HBL.out; go_grown), by first | assumption | exact (((Below.refl _ _).alloc (Nat.le_refl _) _).cell (p := ⟨_, _, none⟩) hxz).trans hx3, by first | omega | (simp <;> omega)⟩
                  case measure => simp [intOf]; omega
              · obtain rfl : nb = j := by omega
                clear hx3 hxz
                clear HBL
                go_wp2_with fail
                (go_at_call 9; refine (awake_any _ (HML.out.below (by first | assumption | go_grown))).mono ?_; rintro e_ w8 ⟨rfl, hb⟩)
                have hsw8 := hb.size
                (try simp only [World.size_alloc, World.size_setCell] at hsw8)
                have zzw8 : w.heap.size < w8.heap.size := by omega
                have hPw8 : Below w7.heap.size w7 w8 := below_step (w := w7) (by first | exact Below.refl _ _ | go_grown) hb
                have zsw8 : w.heap.size < w8.heap.size := by omega
                have s0w8 : w8.cell? ⟨w.heap.size, 0, none⟩ = some (.slice oa ns ca) := (hPw8.cell (p := ⟨_, _, none⟩) zsw7).trans s0w7
                have s1w8 : w8.cell? ⟨w.heap.size, 1, none⟩ = some (.slice ob nb cb) := (hPw8.cell (p := ⟨_, _, none⟩) zsw7).trans s1w7
                have zmw8 : w.heap.size + 1 < w8.heap.size := by omega
                have m0w8 : w8.cell? ⟨w.heap.size + 1, 0, none⟩ = some (.slice om m.ng cm) := (hPw8.cell (p := ⟨_, _, none⟩) zmw7).trans m0w7
                have m1w8 : w8.cell? ⟨w.heap.size + 1, 1, none⟩ = some (.slice ot m.ns ct) := (hPw8.cell (p := ⟨_, _, none⟩) zmw7).trans m1w7
                have zgw8 : w.heap.size + 1 + 1 < w8.heap.size := by omega
                have g0w8 : w8.cell? ⟨w.heap.size + 1 + 1, 0, none⟩ = some (.string g) := (hPw8.cell (p := ⟨_, _, none⟩) zgw7).trans g0w7
                have g1w8 : w8.cell? ⟨w.heap.size + 1 + 1, 1, none⟩ = some (.string sc) := (hPw8.cell (p := ⟨_, _, none⟩) zgw7).trans g1w7
                have g2w8 : w8.cell? ⟨w.heap.size + 1 + 1, 2, none⟩ = some (.int .i64 t) := (hPw8.cell (p := ⟨_, _, none⟩) zgw7).trans g2w7
                have g3w8 : w8.cell? ⟨w.heap.size + 1 + 1, 3, none⟩ = some (.int .i64 l) := (hPw8.cell (p := ⟨_, _, none⟩) zgw7).trans g3w7
                have g4w8 : w8.cell? ⟨w.heap.size + 1 + 1, 4, none⟩ = some (.int .i64 d) := (hPw8.cell (p := ⟨_, _, none⟩) zgw7).trans g4w7
                have hBw8 : Below w.heap.size w w8 := below_step (w := w) (by first | assumption | go_grown) hb
                clear hb hsw8 hPw8
                clear zsw7 zmw7 zgw7 s0w7 s1w7 m0w7 m1w7 g0w7 g1w7 g2w7 g3w7 g4w7
                go_wp2
                go_returns
                exact ⟨rfl, by assumption⟩
    | true =>
      obtain ⟨hE0, hM, -⟩ := HLa.out.yes rfl
      subst hE0
      obtain ⟨kg, kt, kf⟩ := mS_split hM
      clear hM
      obtain ⟨Xa0, Xa1, Xa2, Xa3, Xa4, Xa5⟩ := Xa
      obtain rfl : g = Xa1 := (toList_inj (beq_iff_eq.1 kg)).symm
      obtain rfl : t = Xa2 := (beq_iff_eq.1 kt).symm
      clear kg kt
      dsimp only
      have HKF := Lib.hid kf
      clear kf
      go_wp2_with fail
      (go_at_call 21; refine (fits_any (⟨Xa0, g, t, Xa3, Xa4, Xa5⟩ : Sh) l d _).mono ?_; rintro e_ w4 ⟨rfl, hb⟩)
      rw [HKF.out]
      have hsw4 := hb.size
      (try simp only [World.size_alloc, World.size_setCell] at hsw4)
      have zzw4 : w.heap.size < w4.heap.size := by omega
      have hPw4 : Below w3.heap.size w3 w4 := below_step (w := w3) (by first | exact Below.refl _ _ | go_grown) hb
      have zsw4 : w.heap.size < w4.heap.size := by omega
      have s0w4 : w4.cell? ⟨w.heap.size, 0, none⟩ = some (.slice oa ns ca) := (hPw4.cell (p := ⟨_, _, none⟩) zsw3).trans s0w3
      have s1w4 : w4.cell? ⟨w.heap.size, 1, none⟩ = some (.slice ob nb cb) := (hPw4.cell (p := ⟨_, _, none⟩) zsw3).trans s1w3
      have zmw4 : w.heap.size + 1 < w4.heap.size := by omega
      have m0w4 : w4.cell? ⟨w.heap.size + 1, 0, none⟩ = some (.slice om m.ng cm) := (hPw4.cell (p := ⟨_, _, none⟩) zmw3).trans m0w3
      have m1w4 : w4.cell? ⟨w.heap.size + 1, 1, none⟩ = some (.slice ot m.ns ct) := (hPw4.cell (p := ⟨_, _, none⟩) zmw3).trans m1w3
      have zgw4 : w.heap.size + 1 + 1 < w4.heap.size := by omega
      have g0w4 : w4.cell? ⟨w.heap.size + 1 + 1, 0, none⟩ = some (.string g) := (hPw4.cell (p := ⟨_, _, none⟩) zgw3).trans g0w3
      have g1w4 : w4.cell? ⟨w.heap.size + 1 + 1, 1, none⟩ = some (.string sc) := (hPw4.cell (p := ⟨_, _, none⟩) zgw3).trans g1w3
      have g2w4 : w4.cell? ⟨w.heap.size + 1 + 1, 2, none⟩ = some (.int .i64 t) := (hPw4.cell (p := ⟨_, _, none⟩) zgw3).trans g2w3
      have g3w4 : w4.cell? ⟨w.heap.size + 1 + 1, 3, none⟩ = some (.int .i64 l) := (hPw4.cell (p := ⟨_, _, none⟩) zgw3).trans g3w3
      have g4w4 : w4.cell? ⟨w.heap.size + 1 + 1, 4, none⟩ = some (.int .i64 d) := (hPw4.cell (p := ⟨_, _, none⟩) zgw3).trans g4w3
      have zaxw4 : w3.heap.size + 1 < w4.heap.size := by omega
      have ax0w4 : w4.cell? ⟨w3.heap.size + 1, 0, none⟩ = some (.string Xa0) := (hb.cell (p := ⟨_, _, none⟩) (by simp <;> omega)).trans (by simp [go_sem])
      have ax1w4 : w4.cell? ⟨w3.heap.size + 1, 1, none⟩ = some (.string g) := (hb.cell (p := ⟨_, _, none⟩) (by simp <;> omega)).trans (by simp [go_sem])
      have ax2w4 : w4.cell? ⟨w3.heap.size + 1, 2, none⟩ = some (.int .i64 t) := (hb.cell (p := ⟨_, _, none⟩) (by simp <;> omega)).trans (by simp [go_sem])
      have ax3w4 : w4.cell? ⟨w3.heap.size + 1, 3, none⟩ = some (.int .i64 Xa3) := (hb.cell (p := ⟨_, _, none⟩) (by simp <;> omega)).trans (by simp [go_sem])
      have ax4w4 : w4.cell? ⟨w3.heap.size + 1, 4, none⟩ = some (.int .i64 Xa4) := (hb.cell (p := ⟨_, _, none⟩) (by simp <;> omega)).trans (by simp [go_sem])
      have ax5w4 : w4.cell? ⟨w3.heap.size + 1, 5, none⟩ = some (.string Xa5) := (hb.cell (p := ⟨_, _, none⟩) (by simp <;> omega)).trans (by simp [go_sem])
      have hBw4 : Below w.heap.size w w4 := below_step (w := w) (by first | assumption | go_grown) hb
      clear hb hsw4 hPw4
      clear zsw3 zmw3 zgw3 s0w3 s1w3 m0w3 m1w3 g0w3 g1w3 g2w3 g3w3 g4w3
      have HWX := Lib.hid (ar_wrap (x := (⟨Xa0, g, t, Xa3, Xa4, Xa5⟩ : Sh)) (HR.out.none_or HLa.out.mem))
      go_wp2_with fail
      go_loopw [12, 13] (fun i _ wr => ∃ j : Nat, j ≤ ns ∧ i = .int .i64 j ∧ Below w4.heap.size w4 wr) (fun i _ _ => ns - (intOf i).toNat)
      case atStart => exact ⟨0, by omega, rfl, by first | exact Below.refl _ _ | go_grown⟩
      case round =>
        obtain ⟨w5, rfl⟩ : ∃ x : World, x = wr := ⟨_, rfl⟩
        obtain ⟨j, hj, rfl, hb⟩ := hrel
        have hsw5 := hb.size
        have zzw5 : w.heap.size < w5.heap.size := by omega
        have zsw5 : w.heap.size < w5.heap.size := by omega
        have s0w5 : w5.cell? ⟨w.heap.size, 0, none⟩ = some (.slice oa ns ca) := (hb.cell (p := ⟨_, _, none⟩) zsw4).trans s0w4
        have s1w5 : w5.cell? ⟨w.heap.size, 1, none⟩ = some (.slice ob nb cb) := (hb.cell (p := ⟨_, _, none⟩) zsw4).trans s1w4
        have zmw5 : w.heap.size + 1 < w5.heap.size := by omega
        have m0w5 : w5.cell? ⟨w.heap.size + 1, 0, none⟩ = some (.slice om m.ng cm) := (hb.cell (p := ⟨_, _, none⟩) zmw4).trans m0w4
        have m1w5 : w5.cell? ⟨w.heap.size + 1, 1, none⟩ = some (.slice ot m.ns ct) := (hb.cell (p := ⟨_, _, none⟩) zmw4).trans m1w4
        have zgw5 : w.heap.size + 1 + 1 < w5.heap.size := by omega
        have g0w5 : w5.cell? ⟨w.heap.size + 1 + 1, 0, none⟩ = some (.string g) := (hb.cell (p := ⟨_, _, none⟩) zgw4).trans g0w4
        have g1w5 : w5.cell? ⟨w.heap.size + 1 + 1, 1, none⟩ = some (.string sc) := (hb.cell (p := ⟨_, _, none⟩) zgw4).trans g1w4
        have g2w5 : w5.cell? ⟨w.heap.size + 1 + 1, 2, none⟩ = some (.int .i64 t) := (hb.cell (p := ⟨_, _, none⟩) zgw4).trans g2w4
        have g3w5 : w5.cell? ⟨w.heap.size + 1 + 1, 3, none⟩ = some (.int .i64 l) := (hb.cell (p := ⟨_, _, none⟩) zgw4).trans g3w4
        have g4w5 : w5.cell? ⟨w.heap.size + 1 + 1, 4, none⟩ = some (.int .i64 d) := (hb.cell (p := ⟨_, _, none⟩) zgw4).trans g4w4
        have zaxw5 : w3.heap.size + 1 < w5.heap.size := by omega
        have ax0w5 : w5.cell? ⟨w3.heap.size + 1, 0, none⟩ = some (.string Xa0) := (hb.cell (p := ⟨_, _, none⟩) zaxw4).trans ax0w4
        have ax1w5 : w5.cell? ⟨w3.heap.size + 1, 1, none⟩ = some (.string g) := (hb.cell (p := ⟨_, _, none⟩) zaxw4).trans ax1w4
        have ax2w5 : w5.cell? ⟨w3.heap.size + 1, 2, none⟩ = some (.int .i64 t) := (hb.cell (p := ⟨_, _, none⟩) zaxw4).trans ax2w4
        have ax3w5 : w5.cell? ⟨w3.heap.size + 1, 3, none⟩ = some (.int .i64 Xa3) := (hb.cell (p := ⟨_, _, none⟩) zaxw4).trans ax3w4
        have ax4w5 : w5.cell? ⟨w3.heap.size + 1, 4, none⟩ = some (.int .i64 Xa4) := (hb.cell (p := ⟨_, _, none⟩) zaxw4).trans ax4w4
        have ax5w5 : w5.cell? ⟨w3.heap.size + 1, 5, none⟩ = some (.string Xa5) := (hb.cell (p := ⟨_, _, none⟩) zaxw4).trans ax5w4
        have hBw5 : Below w.heap.size w w5 := below_step (w := w) (by first | assumption | go_grown) hb
        have HBL := Lib.hid hb
        have hlew5 : w4.heap.size ≤ w5.heap.size := hb.size
        clear hb hsw5
        by_cases hlt : j < ns
        · obtain ⟨b1, f1, rfl, hbl1, hcl1⟩ := HELa.out j hlt
          have c0 : w5.cell? ⟨b1, f1 + j * 6, none⟩ = some (.string (es j).id) := (hBw5.cell (p := ⟨_, _, none⟩) hbl1).trans (hcl1 j hlt).1
          have c1 : w5.cell? ⟨b1, f1 + j * 6 + 1, none⟩ = some (.string (es j).grade) := (hBw5.cell (p := ⟨_, _, none⟩) hbl1).trans (hcl1 j hlt).2.1
          have c2 : w5.cell? ⟨b1, f1 + j * 6 + 2, none⟩ = some (.int .i64 (es j).thick) := (hBw5.cell (p := ⟨_, _, none⟩) hbl1).trans (hcl1 j hlt).2.2.1
          have c3 : w5.cell? ⟨b1, f1 + j * 6 + 3, none⟩ = some (.int .i64 (es j).len) := (hBw5.cell (p := ⟨_, _, none⟩) hbl1).trans (hcl1 j hlt).2.2.2.1
          have c4 : w5.cell? ⟨b1, f1 + j * 6 + 4, none⟩ = some (.int .i64 (es j).wid) := (hBw5.cell (p := ⟨_, _, none⟩) hbl1).trans (hcl1 j hlt).2.2.2.2.1
          have c5 : w5.cell? ⟨b1, f1 + j * 6 + 5, none⟩ = some (.string (es j).heat) := (hBw5.cell (p := ⟨_, _, none⟩) hbl1).trans (hcl1 j hlt).2.2.2.2.2
          have hbr : b1 < w5.heap.size := by omega
          clear hcl1
          by_cases ha : ((es j).grade.toList == g.toList) = true
          · by_cases hb : ((es j).thick == t) = true
            · obtain ⟨FV, hFV⟩ : ∃ x, fitsB (es j) l d = x := ⟨_, rfl⟩
              have HMIN : Hid (FV = true → decide (arS (es j) < arS (⟨Xa0, g, t, Xa3, Xa4, Xa5⟩ : Sh)) = false) := by
                show _ → _
                intro h
                have := (HLa.out.yes rfl).2.2 j hlt (by rw [mS_last ha hb, hFV, h])
                exact decide_eq_false (by omega)
              have HWE := Lib.hid (ar_wrap (x := (es j)) (by have := HR.out.sides j hlt; omega))
              go_wp2_with fail
              (go_at_call 21; refine (fits_any (es j) l d _).mono ?_; rintro e_ w6 ⟨rfl, hb⟩)
              rw [hFV]
              have hsw6 := hb.size
              (try simp only [World.size_alloc, World.size_setCell] at hsw6)
              have zzw6 : w.heap.size < w6.heap.size := by omega
              have hPw6 : Below w5.heap.size w5 w6 := below_step (w := w5) (by first | exact Below.refl _ _ | go_grown) hb
              have zsw6 : w.heap.size < w6.heap.size := by omega
              have s0w6 : w6.cell? ⟨w.heap.size, 0, none⟩ = some (.slice (some ⟨b1, f1, none⟩) ns ca) := (hPw6.cell (p := ⟨_, _, none⟩) zsw5).trans s0w5
              have s1w6 : w6.cell? ⟨w.heap.size, 1, none⟩ = some (.slice ob nb cb) := (hPw6.cell (p := ⟨_, _, none⟩) zsw5).trans s1w5
              have zmw6 : w.heap.size + 1 < w6.heap.size := by omega
              have m0w6 : w6.cell? ⟨w.heap.size + 1, 0, none⟩ = some (.slice om m.ng cm) := (hPw6.cell (p := ⟨_, _, none⟩) zmw5).trans m0w5
              have m1w6 : w6.cell? ⟨w.heap.size + 1, 1, none⟩ = some (.slice ot m.ns ct) := (hPw6.cell (p := ⟨_, _, none⟩) zmw5).trans m1w5
              have zgw6 : w.heap.size + 1 + 1 < w6.heap.size := by omega
              have g0w6 : w6.cell? ⟨w.heap.size + 1 + 1, 0, none⟩ = some (.string g) := (hPw6.cell (p := ⟨_, _, none⟩) zgw5).trans g0w5
              have g1w6 : w6.cell? ⟨w.heap.size + 1 + 1, 1, none⟩ = some (.string sc) := (hPw6.cell (p := ⟨_, _, none⟩) zgw5).trans g1w5
              have g2w6 : w6.cell? ⟨w.heap.size + 1 + 1, 2, none⟩ = some (.int .i64 t) := (hPw6.cell (p := ⟨_, _, none⟩) zgw5).trans g2w5
              have g3w6 : w6.cell? ⟨w.heap.size + 1 + 1, 3, none⟩ = some (.int .i64 l) := (hPw6.cell (p := ⟨_, _, none⟩) zgw5).trans g3w5
              have g4w6 : w6.cell? ⟨w.heap.size + 1 + 1, 4, none⟩ = some (.int .i64 d) := (hPw6.cell (p := ⟨_, _, none⟩) zgw5).trans g4w5
              have zaxw6 : w3.heap.size + 1 < w6.heap.size := by omega
              have ax0w6 : w6.cell? ⟨w3.heap.size + 1, 0, none⟩ = some (.string Xa0) := (hPw6.cell (p := ⟨_, _, none⟩) zaxw5).trans ax0w5
              have ax1w6 : w6.cell? ⟨w3.heap.size + 1, 1, none⟩ = some (.string g) := (hPw6.cell (p := ⟨_, _, none⟩) zaxw5).trans ax1w5
              have ax2w6 : w6.cell? ⟨w3.heap.size + 1, 2, none⟩ = some (.int .i64 t) := (hPw6.cell (p := ⟨_, _, none⟩) zaxw5).trans ax2w5
              have ax3w6 : w6.cell? ⟨w3.heap.size + 1, 3, none⟩ = some (.int .i64 Xa3) := (hPw6.cell (p := ⟨_, _, none⟩) zaxw5).trans ax3w5
              have ax4w6 : w6.cell? ⟨w3.heap.size + 1, 4, none⟩ = some (.int .i64 Xa4) := (hPw6.cell (p := ⟨_, _, none⟩) zaxw5).trans ax4w5
              have ax5w6 : w6.cell? ⟨w3.heap.size + 1, 5, none⟩ = some (.string Xa5) := (hPw6.cell (p := ⟨_, _, none⟩) zaxw5).trans ax5w5
              have zyw6 : w5.heap.size < w6.heap.size := by omega
              have y0w6 : w6.cell? ⟨w5.heap.size, 0, none⟩ = some (.string (es j).id) := (hb.cell (p := ⟨_, _, none⟩) (by simp <;> omega)).trans (by simp [go_sem])
              have y1w6 : w6.cell? ⟨w5.heap.size, 1, none⟩ = some (.string (es j).grade) := (hb.cell (p := ⟨_, _, none⟩) (by simp <;> omega)).trans (by simp [go_sem])
              have y2w6 : w6.cell? ⟨w5.heap.size, 2, none⟩ = some (.int .i64 (es j).thick) := (hb.cell (p := ⟨_, _, none⟩) (by simp <;> omega)).trans (by simp [go_sem])
              have y3w6 : w6.cell? ⟨w5.heap.size, 3, none⟩ = some (.int .i64 (es j).len) := (hb.cell (p := ⟨_, _, none⟩) (by simp <;> omega)).trans (by simp [go_sem])
              have y4w6 : w6.cell? ⟨w5.heap.size, 4, none⟩ = some (.int .i64 (es j).wid) := (hb.cell (p := ⟨_, _, none⟩) (by simp <;> omega)).trans (by simp [go_sem])
              have y5w6 : w6.cell? ⟨w5.heap.size, 5, none⟩ = some (.string (es j).heat) := (hb.cell (p := ⟨_, _, none⟩) (by simp <;> omega)).trans (by simp [go_sem])
              have hBw6 : Below w.heap.size w w6 := below_step (w := w) (by first | assumption | go_grown) hb
              have HBF := Lib.hid (below_step (w := w4) HBL.out hPw6)
              clear hb hsw6 hPw6
              clear zsw5 zmw5 zgw5 zaxw5 s0w5 s1w5 m0w5 m1w5 g0w5 g1w5 g2w5 g3w5 g4w5 ax0w5 ax1w5 ax2w5 ax3w5 ax4w5 ax5w5
              clear hFV
              cases FV with
              | false =>
                go_wp2
                go_roundw
                case rel => exact ⟨j + 1, by omega, by go_num, HBF.out⟩
                case measure => simp [intOf]; omega
              | true =>
                have hmin := HMIN.out rfl
                have hwe := HWE.out
                have hwx := HWX.out
                clear HMIN
                go_wp2
                go_roundw
                case rel => exact ⟨j + 1, by omega, by go_num, HBF.out⟩
                case measure => simp [intOf]; omega
            · have khb := Bool.eq_false_iff.2 hb
              go_wp2
              go_roundw
              case rel => exact ⟨j + 1, by omega, by go_num, by first | exact HBL.out | (have hbl := HBL.out; go_grown)⟩
              case measure => simp [intOf]; omega
          · have kha := Bool.eq_false_iff.2 ha
            go_wp2
            go_roundw
            case rel => exact ⟨j + 1, by omega, by go_num, by first | exact HBL.out | (have hbl := HBL.out; go_grown)⟩
            case measure => simp [intOf]; omega
        · obtain rfl : ns = j := by omega
          clear HBL
          have hn9c : nb ≤ 128 := HR.out.n2
          obtain ⟨Ic, hIc⟩ : ∃ x, (pickFB sc g l eb nb).1 = x := ⟨_, rfl⟩
          obtain ⟨Kc, hKc⟩ : ∃ x, (pickFB sc g l eb nb).2 = x := ⟨_, rfl⟩
          obtain ⟨Xc, hXc⟩ : ∃ x, takeV Br.id Br.none eb nb Ic = x := ⟨_, rfl⟩
          obtain ⟨Ec, hEc⟩ : ∃ x, takeE Br.id eb nb Ic = x := ⟨_, rfl⟩
          have HLc := Lib.hid (least_Bar HR.out (by have := HLD.out; omega) hIc hKc hXc hEc)
          have HIc := Lib.hid hIc
          clear hIc
          have HKc := Lib.hid hKc
          clear hKc
          have HXc := Lib.hid hXc
          clear hXc
          have HEc := Lib.hid hEc
          clear hEc
          go_wp2_with fail
          (go_at_call 22; refine (pickBar_at HR.out HIc.out HKc.out _ _ (HST.out.below (by first | assumption | go_grown))).mono ?_; rintro e_ w6 ⟨rfl, hb⟩)
          have hsw6 := hb.size
          (try simp only [World.size_alloc, World.size_setCell] at hsw6)
          have zzw6 : w.heap.size < w6.heap.size := by omega
          have hPw6 : Below w5.heap.size w5 w6 := below_step (w := w5) (by first | exact Below.refl _ _ | go_grown) hb
          have zsw6 : w.heap.size < w6.heap.size := by omega
          have s0w6 : w6.cell? ⟨w.heap.size, 0, none⟩ = some (.slice oa ns ca) := (hPw6.cell (p := ⟨_, _, none⟩) zsw5).trans s0w5
          have s1w6 : w6.cell? ⟨w.heap.size, 1, none⟩ = some (.slice ob nb cb) := (hPw6.cell (p := ⟨_, _, none⟩) zsw5).trans s1w5
          have zmw6 : w.heap.size + 1 < w6.heap.size := by omega
          have m0w6 : w6.cell? ⟨w.heap.size + 1, 0, none⟩ = some (.slice om m.ng cm) := (hPw6.cell (p := ⟨_, _, none⟩) zmw5).trans m0w5
          have m1w6 : w6.cell? ⟨w.heap.size + 1, 1, none⟩ = some (.slice ot m.ns ct) := (hPw6.cell (p := ⟨_, _, none⟩) zmw5).trans m1w5
          have zgw6 : w.heap.size + 1 + 1 < w6.heap.size := by omega
          have g0w6 : w6.cell? ⟨w.heap.size + 1 + 1, 0, none⟩ = some (.string g) := (hPw6.cell (p := ⟨_, _, none⟩) zgw5).trans g0w5
          have g1w6 : w6.cell? ⟨w.heap.size + 1 + 1, 1, none⟩ = some (.string sc) := (hPw6.cell (p := ⟨_, _, none⟩) zgw5).trans g1w5
          have g2w6 : w6.cell? ⟨w.heap.size + 1 + 1, 2, none⟩ = some (.int .i64 t) := (hPw6.cell (p := ⟨_, _, none⟩) zgw5).trans g2w5
          have g3w6 : w6.cell? ⟨w.heap.size + 1 + 1, 3, none⟩ = some (.int .i64 l) := (hPw6.cell (p := ⟨_, _, none⟩) zgw5).trans g3w5
          have g4w6 : w6.cell? ⟨w.heap.size + 1 + 1, 4, none⟩ = some (.int .i64 d) := (hPw6.cell (p := ⟨_, _, none⟩) zgw5).trans g4w5
          have zaxw6 : w3.heap.size + 1 < w6.heap.size := by omega
          have ax0w6 : w6.cell? ⟨w3.heap.size + 1, 0, none⟩ = some (.string Xa0) := (hPw6.cell (p := ⟨_, _, none⟩) zaxw5).trans ax0w5
          have ax1w6 : w6.cell? ⟨w3.heap.size + 1, 1, none⟩ = some (.string g) := (hPw6.cell (p := ⟨_, _, none⟩) zaxw5).trans ax1w5
          have ax2w6 : w6.cell? ⟨w3.heap.size + 1, 2, none⟩ = some (.int .i64 t) := (hPw6.cell (p := ⟨_, _, none⟩) zaxw5).trans ax2w5
          have ax3w6 : w6.cell? ⟨w3.heap.size + 1, 3, none⟩ = some (.int .i64 Xa3) := (hPw6.cell (p := ⟨_, _, none⟩) zaxw5).trans ax3w5
          have ax4w6 : w6.cell? ⟨w3.heap.size + 1, 4, none⟩ = some (.int .i64 Xa4) := (hPw6.cell (p := ⟨_, _, none⟩) zaxw5).trans ax4w5
          have ax5w6 : w6.cell? ⟨w3.heap.size + 1, 5, none⟩ = some (.string Xa5) := (hPw6.cell (p := ⟨_, _, none⟩) zaxw5).trans ax5w5
          have hBw6 : Below w.heap.size w w6 := below_step (w := w) (by first | assumption | go_grown) hb
          clear hb hsw6 hPw6
          clear zsw5 zmw5 zgw5 zaxw5 s0w5 s1w5 m0w5 m1w5 g0w5 g1w5 g2w5 g3w5 g4w5 ax0w5 ax1w5 ax2w5 ax3w5 ax4w5 ax5w5
          go_wp2_with fail
          (go_at_call 19; refine (takeBar_at HR.out HXc.out HEc.out _ _ (HST.out.below (by first | assumption | go_grown))).mono ?_; rintro e_ w7 ⟨oc9, nc9, cc9, pc9, mc9, dc9, rfl, hb⟩)
          have hsw7 := hb.size
          (try simp only [World.size_alloc, World.size_setCell] at hsw7)
          have zzw7 : w.heap.size < w7.heap.size := by omega
          have hPw7 : Below w6.heap.size w6 w7 := below_step (w := w6) (by first | exact Below.refl _ _ | go_grown) hb
          have zsw7 : w.heap.size < w7.heap.size := by omega
          have s0w7 : w7.cell? ⟨w.heap.size, 0, none⟩ = some (.slice oa ns ca) := (hPw7.cell (p := ⟨_, _, none⟩) zsw6).trans s0w6
          have s1w7 : w7.cell? ⟨w.heap.size, 1, none⟩ = some (.slice ob nb cb) := (hPw7.cell (p := ⟨_, _, none⟩) zsw6).trans s1w6
          have zmw7 : w.heap.size + 1 < w7.heap.size := by omega
          have m0w7 : w7.cell? ⟨w.heap.size + 1, 0, none⟩ = some (.slice om m.ng cm) := (hPw7.cell (p := ⟨_, _, none⟩) zmw6).trans m0w6
          have m1w7 : w7.cell? ⟨w.heap.size + 1, 1, none⟩ = some (.slice ot m.ns ct) := (hPw7.cell (p := ⟨_, _, none⟩) zmw6).trans m1w6
          have zgw7 : w.heap.size + 1 + 1 < w7.heap.size := by omega
          have g0w7 : w7.cell? ⟨w.heap.size + 1 + 1, 0, none⟩ = some (.string g) := (hPw7.cell (p := ⟨_, _, none⟩) zgw6).trans g0w6
          have g1w7 : w7.cell? ⟨w.heap.size + 1 + 1, 1, none⟩ = some (.string sc) := (hPw7.cell (p := ⟨_, _, none⟩) zgw6).trans g1w6
          have g2w7 : w7.cell? ⟨w.heap.size + 1 + 1, 2, none⟩ = some (.int .i64 t) := (hPw7.cell (p := ⟨_, _, none⟩) zgw6).trans g2w6
          have g3w7 : w7.cell? ⟨w.heap.size + 1 + 1, 3, none⟩ = some (.int .i64 l) := (hPw7.cell (p := ⟨_, _, none⟩) zgw6).trans g3w6
          have g4w7 : w7.cell? ⟨w.heap.size + 1 + 1, 4, none⟩ = some (.int .i64 d) := (hPw7.cell (p := ⟨_, _, none⟩) zgw6).trans g4w6
          have zaxw7 : w3.heap.size + 1 < w7.heap.size := by omega
          have ax0w7 : w7.cell? ⟨w3.heap.size + 1, 0, none⟩ = some (.string Xa0) := (hPw7.cell (p := ⟨_, _, none⟩) zaxw6).trans ax0w6
          have ax1w7 : w7.cell? ⟨w3.heap.size + 1, 1, none⟩ = some (.string g) := (hPw7.cell (p := ⟨_, _, none⟩) zaxw6).trans ax1w6
          have ax2w7 : w7.cell? ⟨w3.heap.size + 1, 2, none⟩ = some (.int .i64 t) := (hPw7.cell (p := ⟨_, _, none⟩) zaxw6).trans ax2w6
          have ax3w7 : w7.cell? ⟨w3.heap.size + 1, 3, none⟩ = some (.int .i64 Xa3) := (hPw7.cell (p := ⟨_, _, none⟩) zaxw6).trans ax3w6
          have ax4w7 : w7.cell? ⟨w3.heap.size + 1, 4, none⟩ = some (.int .i64 Xa4) := (hPw7.cell (p := ⟨_, _, none⟩) zaxw6).trans ax4w6
          have ax5w7 : w7.cell? ⟨w3.heap.size + 1, 5, none⟩ = some (.string Xa5) := (hPw7.cell (p := ⟨_, _, none⟩) zaxw6).trans ax5w6
          have hBw7 : Below w.heap.size w w7 := below_step (w := w) (by first | assumption | go_grown) hb
          dsimp only [Br.val]
          clear hb hsw7 hPw7
          clear zsw6 zmw6 zgw6 zaxw6 s0w6 s1w6 m0w6 m1w6 g0w6 g1w6 g2w6 g3w6 g4w6 ax0w6 ax1w6 ax2w6 ax3w6 ax4w6 ax5w6
          cases Kc with
          | false =>
            have hid := (HLc.out.no rfl).1
            subst hid
            go_wp2_with fail
            go_loopw [19, 20] (fun i _ wr => ∃ j : Nat, j ≤ nb ∧ i = .int .i64 j ∧ Below w7.heap.size w7 wr) (fun i _ _ => nb - (intOf i).toNat)
            case atStart => exact ⟨0, by omega, rfl, by first | exact Below.refl _ _ | go_grown⟩
            case round =>
              obtain ⟨w8, rfl⟩ : ∃ x : World, x = wr := ⟨_, rfl⟩
              obtain ⟨j, hj, rfl, hb⟩ := hrel
              have hsw8 := hb.size
              have zzw8 : w.heap.size < w8.heap.size := by omega
              have zsw8 : w.heap.size < w8.heap.size := by omega
              have s0w8 : w8.cell? ⟨w.heap.size, 0, none⟩ = some (.slice oa ns ca) := (hb.cell (p := ⟨_, _, none⟩) zsw7).trans s0w7
              have s1w8 : w8.cell? ⟨w.heap.size, 1, none⟩ = some (.slice ob nb cb) := (hb.cell (p := ⟨_, _, none⟩) zsw7).trans s1w7
              have zmw8 : w.heap.size + 1 < w8.heap.size := by omega
              have m0w8 : w8.cell? ⟨w.heap.size + 1, 0, none⟩ = some (.slice om m.ng cm) := (hb.cell (p := ⟨_, _, none⟩) zmw7).trans m0w7
              have m1w8 : w8.cell? ⟨w.heap.size + 1, 1, none⟩ = some (.slice ot m.ns ct) := (hb.cell (p := ⟨_, _, none⟩) zmw7).trans m1w7
              have zgw8 : w.heap.size + 1 + 1 < w8.heap.size := by omega
              have g0w8 : w8.cell? ⟨w.heap.size + 1 + 1, 0, none⟩ = some (.string g) := (hb.cell (p := ⟨_, _, none⟩) zgw7).trans g0w7
              have g1w8 : w8.cell? ⟨w.heap.size + 1 + 1, 1, none⟩ = some (.string sc) := (hb.cell (p := ⟨_, _, none⟩) zgw7).trans g1w7
              have g2w8 : w8.cell? ⟨w.heap.size + 1 + 1, 2, none⟩ = some (.int .i64 t) := (hb.cell (p := ⟨_, _, none⟩) zgw7).trans g2w7
              have g3w8 : w8.cell? ⟨w.heap.size + 1 + 1, 3, none⟩ = some (.int .i64 l) := (hb.cell (p := ⟨_, _, none⟩) zgw7).trans g3w7
              have g4w8 : w8.cell? ⟨w.heap.size + 1 + 1, 4, none⟩ = some (.int .i64 d) := (hb.cell (p := ⟨_, _, none⟩) zgw7).trans g4w7
              have zaxw8 : w3.heap.size + 1 < w8.heap.size := by omega
              have ax0w8 : w8.cell? ⟨w3.heap.size + 1, 0, none⟩ = some (.string Xa0) := (hb.cell (p := ⟨_, _, none⟩) zaxw7).trans ax0w7
              have ax1w8 : w8.cell? ⟨w3.heap.size + 1, 1, none⟩ = some (.string g) := (hb.cell (p := ⟨_, _, none⟩) zaxw7).trans ax1w7
              have ax2w8 : w8.cell? ⟨w3.heap.size + 1, 2, none⟩ = some (.int .i64 t) := (hb.cell (p := ⟨_, _, none⟩) zaxw7).trans ax2w7
              have ax3w8 : w8.cell? ⟨w3.heap.size + 1, 3, none⟩ = some (.int .i64 Xa3) := (hb.cell (p := ⟨_, _, none⟩) zaxw7).trans ax3w7
              have ax4w8 : w8.cell? ⟨w3.heap.size + 1, 4, none⟩ = some (.int .i64 Xa4) := (hb.cell (p := ⟨_, _, none⟩) zaxw7).trans ax4w7
              have ax5w8 : w8.cell? ⟨w3.heap.size + 1, 5, none⟩ = some (.string Xa5) := (hb.cell (p := ⟨_, _, none⟩) zaxw7).trans ax5w7
              have hBw8 : Below w.heap.size w w8 := below_step (w := w) (by first | assumption | go_grown) hb
              have HBL := Lib.hid hb
              have hlew8 : w7.heap.size ≤ w8.heap.size := hb.size
              clear hb hsw8
              by_cases hlt : j < nb
              · obtain ⟨b1, f1, rfl, hbl1, hcl1⟩ := HELc.out j hlt
                have c0 : w8.cell? ⟨b1, f1 + j * 5, none⟩ = some (.string (eb j).id) := (hBw8.cell (p := ⟨_, _, none⟩) hbl1).trans (hcl1 j hlt).1
                have c1 : w8.cell? ⟨b1, f1 + j * 5 + 1, none⟩ = some (.string (eb j).sect) := (hBw8.cell (p := ⟨_, _, none⟩) hbl1).trans (hcl1 j hlt).2.1
                have c2 : w8.cell? ⟨b1, f1 + j * 5 + 2, none⟩ = some (.string (eb j).grade) := (hBw8.cell (p := ⟨_, _, none⟩) hbl1).trans (hcl1 j hlt).2.2.1
                have c3 : w8.cell? ⟨b1, f1 + j * 5 + 3, none⟩ = some (.int .i64 (eb j).len) := (hBw8.cell (p := ⟨_, _, none⟩) hbl1).trans (hcl1 j hlt).2.2.2.1
                have c4 : w8.cell? ⟨b1, f1 + j * 5 + 4, none⟩ = some (.string (eb j).heat) := (hBw8.cell (p := ⟨_, _, none⟩) hbl1).trans (hcl1 j hlt).2.2.2.2
                have hbr : b1 < w8.heap.size := by omega
                clear hcl1
                by_cases ha : ((eb j).sect.toList == sc.toList) = true
                · by_cases hb : ((eb j).grade.toList == g.toList) = true
                  · have kc : decide (l ≤ (eb j).len) = false := by rw [← mB_last (l := l) ha hb]; exact (HLc.out.no rfl).2 j hlt
                    go_wp2
                    go_roundw
                    case rel => exact ⟨j + 1, by omega, by go_num, by first | exact HBL.out | (have hbl := HBL.out; go_grown)⟩
                    case measure => simp [intOf]; omega
                  · have khb := Bool.eq_false_iff.2 hb
                    go_wp2
                    go_roundw
                    case rel => exact ⟨j + 1, by omega, by go_num, by first | exact HBL.out | (have hbl := HBL.out; go_grown)⟩
                    case measure => simp [intOf]; omega
                · have kha := Bool.eq_false_iff.2 ha
                  go_wp2
                  go_roundw
                  case rel => exact ⟨j + 1, by omega, by go_num, by first | exact HBL.out | (have hbl := HBL.out; go_grown)⟩
                  case measure => simp [intOf]; omega
              · obtain rfl : nb = j := by omega
                clear HBL
                go_wp2_with fail
                (go_at_call 9; refine (awake_any _ (HML.out.below (by first | assumption | go_grown))).mono ?_; rintro e_ w9 ⟨rfl, hb⟩)
                have hsw9 := hb.size
                (try simp only [World.size_alloc, World.size_setCell] at hsw9)
                have zzw9 : w.heap.size < w9.heap.size := by omega
                have hPw9 : Below w8.heap.size w8 w9 := below_step (w := w8) (by first | exact Below.refl _ _ | go_grown) hb
                have zsw9 : w.heap.size < w9.heap.size := by omega
                have s0w9 : w9.cell? ⟨w.heap.size, 0, none⟩ = some (.slice oa ns ca) := (hPw9.cell (p := ⟨_, _, none⟩) zsw8).trans s0w8
                have s1w9 : w9.cell? ⟨w.heap.size, 1, none⟩ = some (.slice ob nb cb) := (hPw9.cell (p := ⟨_, _, none⟩) zsw8).trans s1w8
                have zmw9 : w.heap.size + 1 < w9.heap.size := by omega
                have m0w9 : w9.cell? ⟨w.heap.size + 1, 0, none⟩ = some (.slice om m.ng cm) := (hPw9.cell (p := ⟨_, _, none⟩) zmw8).trans m0w8
                have m1w9 : w9.cell? ⟨w.heap.size + 1, 1, none⟩ = some (.slice ot m.ns ct) := (hPw9.cell (p := ⟨_, _, none⟩) zmw8).trans m1w8
                have zgw9 : w.heap.size + 1 + 1 < w9.heap.size := by omega
                have g0w9 : w9.cell? ⟨w.heap.size + 1 + 1, 0, none⟩ = some (.string g) := (hPw9.cell (p := ⟨_, _, none⟩) zgw8).trans g0w8
                have g1w9 : w9.cell? ⟨w.heap.size + 1 + 1, 1, none⟩ = some (.string sc) := (hPw9.cell (p := ⟨_, _, none⟩) zgw8).trans g1w8
                have g2w9 : w9.cell? ⟨w.heap.size + 1 + 1, 2, none⟩ = some (.int .i64 t) := (hPw9.cell (p := ⟨_, _, none⟩) zgw8).trans g2w8
                have g3w9 : w9.cell? ⟨w.heap.size + 1 + 1, 3, none⟩ = some (.int .i64 l) := (hPw9.cell (p := ⟨_, _, none⟩) zgw8).trans g3w8
                have g4w9 : w9.cell? ⟨w.heap.size + 1 + 1, 4, none⟩ = some (.int .i64 d) := (hPw9.cell (p := ⟨_, _, none⟩) zgw8).trans g4w8
                have zaxw9 : w3.heap.size + 1 < w9.heap.size := by omega
                have ax0w9 : w9.cell? ⟨w3.heap.size + 1, 0, none⟩ = some (.string Xa0) := (hPw9.cell (p := ⟨_, _, none⟩) zaxw8).trans ax0w8
                have ax1w9 : w9.cell? ⟨w3.heap.size + 1, 1, none⟩ = some (.string g) := (hPw9.cell (p := ⟨_, _, none⟩) zaxw8).trans ax1w8
                have ax2w9 : w9.cell? ⟨w3.heap.size + 1, 2, none⟩ = some (.int .i64 t) := (hPw9.cell (p := ⟨_, _, none⟩) zaxw8).trans ax2w8
                have ax3w9 : w9.cell? ⟨w3.heap.size + 1, 3, none⟩ = some (.int .i64 Xa3) := (hPw9.cell (p := ⟨_, _, none⟩) zaxw8).trans ax3w8
                have ax4w9 : w9.cell? ⟨w3.heap.size + 1, 4, none⟩ = some (.int .i64 Xa4) := (hPw9.cell (p := ⟨_, _, none⟩) zaxw8).trans ax4w8
                have ax5w9 : w9.cell? ⟨w3.heap.size + 1, 5, none⟩ = some (.string Xa5) := (hPw9.cell (p := ⟨_, _, none⟩) zaxw8).trans ax5w8
                have hBw9 : Below w.heap.size w w9 := below_step (w := w) (by first | assumption | go_grown) hb
                clear hb hsw9 hPw9
                clear zsw8 zmw8 zgw8 zaxw8 s0w8 s1w8 m0w8 m1w8 g0w8 g1w8 g2w8 g3w8 g4w8 ax0w8 ax1w8 ax2w8 ax3w8 ax4w8 ax5w8
                go_wp2
                go_returns
                exact ⟨rfl, by assumption⟩
          | true =>
            obtain ⟨hE0, hM, -⟩ := HLc.out.yes rfl
            subst hE0
            obtain ⟨kg, kt, kf⟩ := mB_split hM
            clear hM
            obtain ⟨Xc0, Xc1, Xc2, Xc3, Xc4⟩ := Xc
            obtain rfl : sc = Xc1 := (toList_inj (beq_iff_eq.1 kg)).symm
            obtain rfl : g = Xc2 := (toList_inj (beq_iff_eq.1 kt)).symm
            clear kg kt
            dsimp only
            have kz : decide (Xc3 < l) = false := decide_eq_false (by have := of_decide_eq_true kf; dsimp only at this; omega)
            clear kf
            go_wp2_with fail
            go_loopw [19, 20] (fun i _ wr => ∃ j : Nat, j ≤ nb ∧ i = .int .i64 j ∧ Below w7.heap.size w7 wr ∧ wr.cell? ⟨w7.heap.size + 1, 3, none⟩ = some (.int .i64 Xc3) ∧ w7.heap.size + 1 < wr.heap.size) (fun i _ _ => nb - (intOf i).toNat)
            case atStart => exact ⟨0, by omega, rfl, by first | exact Below.refl _ _ | go_grown, by simp [go_sem], by simp <;> omega⟩
            case round =>
              obtain ⟨w8, rfl⟩ : ∃ x : World, x = wr := ⟨_, rfl⟩
              obtain ⟨j, hj, rfl, hb, hx3, hxz⟩ := hrel
              have hsw8 := hb.size
              have zzw8 : w.heap.size < w8.heap.size := by omega
              have zsw8 : w.heap.size < w8.heap.size := by omega
              have s0w8 : w8.cell? ⟨w.heap.size, 0, none⟩ = some (.slice oa ns ca) := (hb.cell (p := ⟨_, _, none⟩) zsw7).trans s0w7
              have s1w8 : w8.cell? ⟨w.heap.size, 1, none⟩ = some (.slice ob nb cb) := (hb.cell (p := ⟨_, _, none⟩) zsw7).trans s1w7
              have zmw8 : w.heap.size + 1 < w8.heap.size := by omega
              have m0w8 : w8.cell? ⟨w.heap.size + 1, 0, none⟩ = some (.slice om m.ng cm) := (hb.cell (p := ⟨_, _, none⟩) zmw7).trans m0w7
              have m1w8 : w8.cell? ⟨w.heap.size + 1, 1, none⟩ = some (.slice ot m.ns ct) := (hb.cell (p := ⟨_, _, none⟩) zmw7).trans m1w7
              have zgw8 : w.heap.size + 1 + 1 < w8.heap.size := by omega
              have g0w8 : w8.cell? ⟨w.heap.size + 1 + 1, 0, none⟩ = some (.string g) := (hb.cell (p := ⟨_, _, none⟩) zgw7).trans g0w7
              have g1w8 : w8.cell? ⟨w.heap.size + 1 + 1, 1, none⟩ = some (.string sc) := (hb.cell (p := ⟨_, _, none⟩) zgw7).trans g1w7
              have g2w8 : w8.cell? ⟨w.heap.size + 1 + 1, 2, none⟩ = some (.int .i64 t) := (hb.cell (p := ⟨_, _, none⟩) zgw7).trans g2w7
              have g3w8 : w8.cell? ⟨w.heap.size + 1 + 1, 3, none⟩ = some (.int .i64 l) := (hb.cell (p := ⟨_, _, none⟩) zgw7).trans g3w7
              have g4w8 : w8.cell? ⟨w.heap.size + 1 + 1, 4, none⟩ = some (.int .i64 d) := (hb.cell (p := ⟨_, _, none⟩) zgw7).trans g4w7
              have zaxw8 : w3.heap.size + 1 < w8.heap.size := by omega
              have ax0w8 : w8.cell? ⟨w3.heap.size + 1, 0, none⟩ = some (.string Xa0) := (hb.cell (p := ⟨_, _, none⟩) zaxw7).trans ax0w7
              have ax1w8 : w8.cell? ⟨w3.heap.size + 1, 1, none⟩ = some (.string g) := (hb.cell (p := ⟨_, _, none⟩) zaxw7).trans ax1w7
              have ax2w8 : w8.cell? ⟨w3.heap.size + 1, 2, none⟩ = some (.int .i64 t) := (hb.cell (p := ⟨_, _, none⟩) zaxw7).trans ax2w7
              have ax3w8 : w8.cell? ⟨w3.heap.size + 1, 3, none⟩ = some (.int .i64 Xa3) := (hb.cell (p := ⟨_, _, none⟩) zaxw7).trans ax3w7
              have ax4w8 : w8.cell? ⟨w3.heap.size + 1, 4, none⟩ = some (.int .i64 Xa4) := (hb.cell (p := ⟨_, _, none⟩) zaxw7).trans ax4w7
              have ax5w8 : w8.cell? ⟨w3.heap.size + 1, 5, none⟩ = some (.string Xa5) := (hb.cell (p := ⟨_, _, none⟩) zaxw7).trans ax5w7
              have hBw8 : Below w.heap.size w w8 := below_step (w := w) (by first | assumption | go_grown) hb
              have HBL := Lib.hid hb
              have hlew8 : w7.heap.size ≤ w8.heap.size := hb.size
              clear hb hsw8
              by_cases hlt : j < nb
              · obtain ⟨b1, f1, rfl, hbl1, hcl1⟩ := HELc.out j hlt
                have c0 : w8.cell? ⟨b1, f1 + j * 5, none⟩ = some (.string (eb j).id) := (hBw8.cell (p := ⟨_, _, none⟩) hbl1).trans (hcl1 j hlt).1
                have c1 : w8.cell? ⟨b1, f1 + j * 5 + 1, none⟩ = some (.string (eb j).sect) := (hBw8.cell (p := ⟨_, _, none⟩) hbl1).trans (hcl1 j hlt).2.1
                have c2 : w8.cell? ⟨b1, f1 + j * 5 + 2, none⟩ = some (.string (eb j).grade) := (hBw8.cell (p := ⟨_, _, none⟩) hbl1).trans (hcl1 j hlt).2.2.1
                have c3 : w8.cell? ⟨b1, f1 + j * 5 + 3, none⟩ = some (.int .i64 (eb j).len) := (hBw8.cell (p := ⟨_, _, none⟩) hbl1).trans (hcl1 j hlt).2.2.2.1
                have c4 : w8.cell? ⟨b1, f1 + j * 5 + 4, none⟩ = some (.string (eb j).heat) := (hBw8.cell (p := ⟨_, _, none⟩) hbl1).trans (hcl1 j hlt).2.2.2.2
                have hbr : b1 < w8.heap.size := by omega
                clear hcl1
                by_cases ha : ((eb j).sect.toList == sc.toList) = true
                · by_cases hb : ((eb j).grade.toList == g.toList) = true
                  · by_cases hc : l ≤ (eb j).len
                    · have kc : decide (l ≤ (eb j).len) = true := decide_eq_true hc
                      have kl : decide ((eb j).len < Xc3) = false := by
                        have := (HLc.out.yes rfl).2.2 j hlt (by rw [mB_last ha hb, kc])
                        dsimp only at this
                        exact decide_eq_false (by omega)
                      go_wp2
                      go_roundw
                      case rel => exact ⟨j + 1, by omega, by go_num, by first | exact HBL.out | (have hbl := HBL.out; go_grown), by first | assumption | exact (((Below.refl _ _).alloc (Nat.le_refl _) _).cell (p := ⟨_, _, none⟩) hxz).trans hx3, by first | omega | (simp <;> omega)⟩
                      case measure => simp [intOf]; omega
                    · have kc : decide (l ≤ (eb j).len) = false := decide_eq_false hc
                      go_wp2
                      go_roundw
                      case rel => exact ⟨j + 1, by omega, by go_num, by first | exact HBL.out | (have hbl := HBL.out; go_grown), by first | assumption | exact (((Below.refl _ _).alloc (Nat.le_refl _) _).cell (p := ⟨_, _, none⟩) hxz).trans hx3, by first | omega | (simp <;> omega)⟩
                      case measure => simp [intOf]; omega
                  · have khb := Bool.eq_false_iff.2 hb
                    go_wp2
                    go_roundw
                    case rel => exact ⟨j + 1, by omega, by go_num, by first | exact HBL.out | (have hbl := HBL.out; go_grown), by first | assumption | exact (((Below.refl _ _).alloc (Nat.le_refl _) _).cell (p := ⟨_, _, none⟩) hxz).trans hx3, by first | omega | (simp <;> omega)⟩
                    case measure => simp [intOf]; omega
                · have kha := Bool.eq_false_iff.2 ha
                  go_wp2
                  go_roundw
                  case rel => exact ⟨j + 1, by omega, by go_num, by first | exact HBL.out | (have hbl := HBL.out; go_grown), by first | assumption | exact (((Below.refl _ _).alloc (Nat.le_refl _) _).cell (p := ⟨_, _, none⟩) hxz).trans hx3, by first | omega | (simp <;> omega)⟩
                  case measure => simp [intOf]; omega
              · obtain rfl : nb = j := by omega
                clear hx3 hxz
                clear HBL
                go_wp2_with fail
                (go_at_call 9; refine (awake_any _ (HML.out.below (by first | assumption | go_grown))).mono ?_; rintro e_ w9 ⟨rfl, hb⟩)
                have hsw9 := hb.size
                (try simp only [World.size_alloc, World.size_setCell] at hsw9)
                have zzw9 : w.heap.size < w9.heap.size := by omega
                have hPw9 : Below w8.heap.size w8 w9 := below_step (w := w8) (by first | exact Below.refl _ _ | go_grown) hb
                have zsw9 : w.heap.size < w9.heap.size := by omega
                have s0w9 : w9.cell? ⟨w.heap.size, 0, none⟩ = some (.slice oa ns ca) := (hPw9.cell (p := ⟨_, _, none⟩) zsw8).trans s0w8
                have s1w9 : w9.cell? ⟨w.heap.size, 1, none⟩ = some (.slice ob nb cb) := (hPw9.cell (p := ⟨_, _, none⟩) zsw8).trans s1w8
                have zmw9 : w.heap.size + 1 < w9.heap.size := by omega
                have m0w9 : w9.cell? ⟨w.heap.size + 1, 0, none⟩ = some (.slice om m.ng cm) := (hPw9.cell (p := ⟨_, _, none⟩) zmw8).trans m0w8
                have m1w9 : w9.cell? ⟨w.heap.size + 1, 1, none⟩ = some (.slice ot m.ns ct) := (hPw9.cell (p := ⟨_, _, none⟩) zmw8).trans m1w8
                have zgw9 : w.heap.size + 1 + 1 < w9.heap.size := by omega
                have g0w9 : w9.cell? ⟨w.heap.size + 1 + 1, 0, none⟩ = some (.string g) := (hPw9.cell (p := ⟨_, _, none⟩) zgw8).trans g0w8
                have g1w9 : w9.cell? ⟨w.heap.size + 1 + 1, 1, none⟩ = some (.string sc) := (hPw9.cell (p := ⟨_, _, none⟩) zgw8).trans g1w8
                have g2w9 : w9.cell? ⟨w.heap.size + 1 + 1, 2, none⟩ = some (.int .i64 t) := (hPw9.cell (p := ⟨_, _, none⟩) zgw8).trans g2w8
                have g3w9 : w9.cell? ⟨w.heap.size + 1 + 1, 3, none⟩ = some (.int .i64 l) := (hPw9.cell (p := ⟨_, _, none⟩) zgw8).trans g3w8
                have g4w9 : w9.cell? ⟨w.heap.size + 1 + 1, 4, none⟩ = some (.int .i64 d) := (hPw9.cell (p := ⟨_, _, none⟩) zgw8).trans g4w8
                have zaxw9 : w3.heap.size + 1 < w9.heap.size := by omega
                have ax0w9 : w9.cell? ⟨w3.heap.size + 1, 0, none⟩ = some (.string Xa0) := (hPw9.cell (p := ⟨_, _, none⟩) zaxw8).trans ax0w8
                have ax1w9 : w9.cell? ⟨w3.heap.size + 1, 1, none⟩ = some (.string g) := (hPw9.cell (p := ⟨_, _, none⟩) zaxw8).trans ax1w8
                have ax2w9 : w9.cell? ⟨w3.heap.size + 1, 2, none⟩ = some (.int .i64 t) := (hPw9.cell (p := ⟨_, _, none⟩) zaxw8).trans ax2w8
                have ax3w9 : w9.cell? ⟨w3.heap.size + 1, 3, none⟩ = some (.int .i64 Xa3) := (hPw9.cell (p := ⟨_, _, none⟩) zaxw8).trans ax3w8
                have ax4w9 : w9.cell? ⟨w3.heap.size + 1, 4, none⟩ = some (.int .i64 Xa4) := (hPw9.cell (p := ⟨_, _, none⟩) zaxw8).trans ax4w8
                have ax5w9 : w9.cell? ⟨w3.heap.size + 1, 5, none⟩ = some (.string Xa5) := (hPw9.cell (p := ⟨_, _, none⟩) zaxw8).trans ax5w8
                have hBw9 : Below w.heap.size w w9 := below_step (w := w) (by first | assumption | go_grown) hb
                clear hb hsw9 hPw9
                clear zsw8 zmw8 zgw8 zaxw8 s0w8 s1w8 m0w8 m1w8 g0w8 g1w8 g2w8 g3w8 g4w8 ax0w8 ax1w8 ax2w8 ax3w8 ax4w8 ax5w8
                go_wp2
                go_returns
                exact ⟨rfl, by assumption⟩

set_option maxRecDepth 100000 in
theorem stockLeast_contract (H : Type) (enc : TypeId × Value → H) (W : World) (base : Nat) (args : Array Value) (ds gs : List (DataW H)) (before : List MemPlace)
    (hval : ∀ (j : Nat) t v, Tryd.f5.params[j]? = some t → args[j]? = some v → Value.okWide Tryd.prog W .any base t v)
    (hW : DataW.Whole enc Tryd.prog Tryd.f5.params.toList Rows.stockLeastSpec.vars false W args.toList ds gs before) (hL : laidMetH Tryd.prog Rows.stockLeastRow.laid W) (hSh : W.ShapedOpen Tryd.prog) :
    Calls Tryd.prog 5 args W fun e W' => ∃ v, e = .returned v ∧ Rows.stockLeastSpec.post enc Tryd.prog Tryd.f5 false true false false W args v W' := by
  have hW' := hW
  obtain ⟨p, q, hA0, hV, rfl, hfz, hnd⟩ := hW
  have hA : DataW.TrodAll enc Tryd.prog W 0 (fun _ => true) true Tryd.f5.params.toList args.toList ds p := hA0
  rw [Tryd.params5] at hA hval
  obtain ⟨v0, vs0, d0, ds0, p0, q0, hargs, rfl, rfl, h0, r0⟩ := trodAll_cons hA
  obtain ⟨v1, vs1, d1, ds1, p1, q1, rfl, rfl, rfl, h1, r1⟩ := trodAll_cons r0
  obtain ⟨v2, vs2, d2, ds2, p2, q2, rfl, rfl, rfl, h2, r2⟩ := trodAll_cons r1
  obtain ⟨rfl, rfl, rfl⟩ := trodAll_nil r2
  obtain rfl : args = #[v0, v1, v2] := by cases args; simp_all
  obtain ⟨ns0, es0, nb0, eb0, hst0⟩ := stock_arg (hval 0 25 v0 rfl rfl) h0
  obtain ⟨vg, vs, m, gv, rfl, hG, hS⟩ := mat_arg (hval 1 29 v1 rfl rfl) h1
  obtain ⟨g, sc, t, l, d, rfl⟩ := wish_arg (hval 2 53 v2 rfl rfl) h2
  refine (stockLeast_walk _ ns0 es0 nb0 eb0 vg vs m gv g sc t l d W hst0 hG hS (maxLen_of W hSh)).mono fun e W' ⟨he, hb⟩ => ?_
  subst he
  exact ⟨_, rfl, law_post laidOut (by kernel_rfl) (by kernel_rfl) Tryd.underlying4 rfl hW' (fun _ => rfl) hb⟩
theorem stockLeast_laid (os : Os) : laidMet Tryd.prog Rows.stockLeastRow.laid ((laidWorld os).forCall (fun _ _ => 0) ⟨#[], #[.agg #[.slice none 0 0, .slice none 0 0], .agg #[.slice none 0 0, .slice none 0 0], .agg #[.string ⟨#[]⟩, .string ⟨#[]⟩, .int .i64 0, .int .i64 0, .int .i64 0]], []⟩).memory := laidMet_of_run' 8 (by kernel_rfl) (by kernel_rfl)
theorem stockLeast_reads (os : Os) {H : Type} (enc : TypeId × Value → H) : ∃ places, DataW.whole enc Tryd.prog ((laidWorld os).forCall (fun _ _ => 0) ⟨#[], #[.agg #[.slice none 0 0, .slice none 0 0], .agg #[.slice none 0 0, .slice none 0 0], .agg #[.string ⟨#[]⟩, .string ⟨#[]⟩, .int .i64 0, .int .i64 0, .int .i64 0]], []⟩).memory Tryd.f5.params.toList Rows.stockLeastSpec.vars false (#[.agg #[.slice none 0 0, .slice none 0 0], .agg #[.slice none 0 0, .slice none 0 0], .agg #[.string ⟨#[]⟩, .string ⟨#[]⟩, .int .i64 0, .int .i64 0, .int .i64 0]] : Array Value).toList 8 = some ([.agg [.nil, .nil], .agg [.nil, .nil], .agg [.lit (.string []), .lit (.string []), .lit (.int .i64 0), .lit (.int .i64 0), .lit (.int .i64 0)]], [], places) := ⟨[], by kernel_rfl⟩
set_option maxRecDepth 100000 in
theorem stockLeast_lifted (os : Os) (started : os.Started) (H : Type) (enc : TypeId × Value → H) (F : Stop.Interp) :
    ReturnsInHanded {} Tryd.checked os 5 .any ((OpenSpec.ofChange Rows.stockLeastSpec).preRow enc Tryd.prog Tryd.f5 Rows.stockLeastRow.domain false Rows.stockLeastRow.laid) (((OpenSpec.ofChange Rows.stockLeastSpec).at F).post enc Tryd.prog Tryd.f5 false true false false) := by
  obtain ⟨places, hx⟩ := stockLeast_reads os enc
  refine returnsInHanded_of_row (C := Tryd.checked) (s := OpenSpec.ofChange Rows.stockLeastSpec) own started (by kernel_rfl) Tryd.func5
    (witness_row_at (enc := enc) (C := Tryd.checked) false (laidWorld os) #[.agg #[.slice none 0 0, .slice none 0 0], .agg #[.slice none 0 0, .slice none 0 0], .agg #[.string ⟨#[]⟩, .string ⟨#[]⟩, .int .i64 0, .int .i64 0, .int .i64 0]] rfl (by kernel_rfl) (by kernel_rfl) (by kernel_rfl)
      (OpenSpec.preRow_of_cond 8 hx (by kernel_rfl) (fun k hk => by cases hk) (by kernel_rfl) (stockLeast_laid os))) ?_
  intro W base args ds gs before hval hW _ _ _ hL hSh _
  exact stockLeast_contract H enc W base args ds gs before hval hW hL hSh
theorem stockLeast_said : Rows.StockLeastSaid :=
  OpenClaim.holds_of_cond 5 Tryd.f5 rfl rfl rfl rfl rfl rfl rfl ⟨rfl, rfl, rfl, rfl, rfl⟩ rfl rfl rfl rfl rfl (by kernel_rfl) Tryd.func5 (by kernel_rfl)
    (of_decide_eq_true (by kernel_rfl)) (by unfold Func.isWrapper; rw [if_neg (of_decide_eq_false (by kernel_rfl))]; exact ⟨rfl, rfl⟩)
    (fun os started H enc _ F => by rw [OpenClaim.pre_eq_preRow]; exact stockLeast_lifted os started H enc F)
theorem stockLeast_plain (f : FuncId) (fn : Func) (hf : Tryd.pinned.checked.prog.funcNamed "shipyard/shipyardlaw29.StockLeast" = some f) (hfn : Tryd.pinned.checked.prog.funcs[f]? = some fn) :
    false = Tryd.pinned.checked.prog.looks [] ∧ ∀ (j : Nat) t, fn.params[j]? = some t → Tryd.pinned.checked.prog.wantsStandIn t = false := by
  obtain rfl : f = 5 := Option.some.inj ((show Tryd.prog.funcNamed "shipyard/shipyardlaw29.StockLeast" = some 5 by kernel_rfl).symm.trans hf) |>.symm
  obtain rfl : fn = Tryd.f5 := (Option.some.inj (Tryd.func5.symm.trans hfn)).symm
  refine ⟨by kernel_rfl, fun j t ht => ?_⟩
  rw [Tryd.params5] at ht
  have hm : t ∈ [25, 29, 53] := by simpa using Array.mem_of_getElem? ht
  have hall : ([25, 29, 53].all fun u => !Tryd.prog.wantsStandIn u) = true := by kernel_rfl
  exact (show Tryd.prog.wantsStandIn t = false by simpa using List.all_eq_true.1 hall t hm)
/-- the card -/
theorem stockLeast_card : Rows.StockLeastCardSaid :=
  Claim7.holds_tied_plain_at .later [] _ _ _ _ stockLeast_said (fun _ h => by cases h) (by kernel_rfl) (fun _ h => by cases h) stockLeast_row_tie rfl ⟨rfl, rfl⟩ (by kernel_rfl) rfl stockLeast_plain (by kernel_rfl)
#print axioms stockLeast_card
end Go.Proofs.YtiddpaaihloopaaDoor
