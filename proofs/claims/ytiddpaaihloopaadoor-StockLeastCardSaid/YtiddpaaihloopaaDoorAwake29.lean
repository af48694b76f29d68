/-
  The examples of the chapter, by a walk. Conditions: none. By an AI agent.
-/
import Derived.Test.YtiddpaaihloopaaDoorAwkA
namespace Go.Proofs.YtiddpaaihloopaaDoor
open Go Go.ChangeShapes Go.WideShapes Go.RowKit Go.ChangeAt
set_option linter.unusedVariables false
set_option linter.unusedSimpArgs false
set_option maxRecDepth 100000
set_option maxHeartbeats 8000000 in
theorem awake_any (w : World) (hml : MaxLenIs w) : Calls Tryd.prog 9 #[] w fun e w' => e = .returned (.bool true) ∧ Below w.heap.size w w' := by
  have HML := Lib.hid hml
  clear hml
  go_enter Tryd.func9, Tryd.ntmps9
  go_wp2_with fail
  (go_at_call 24; refine (steel_any _).mono ?_; rintro e_ w1 ⟨oM, cM, oN, cN, gv, rfl, hm, hb⟩)
  have hB1 := hb
  have hsw1 := hb.size
  have HM := Lib.hid hm
  have hBw1 : Below w.heap.size w w1 := hb
  clear hm hb hB1
  go_wp2_with fail
  (go_at_call 16; refine (aw1 _ _ gv _ (St_zero _ _ _) (HM.out.below (by first | exact Below.refl _ _ | assumption | go_grown)) (HML.out.below (by first | assumption | go_grown))).mono ?_; rintro e_ w2 ⟨o1, c1, p1, d1, rfl, hst, hnw, hb⟩)
  have hsw2 := hb.size
  (try simp only [World.size_alloc, World.size_setCell] at hsw2)
  have hPw2 : Below w1.heap.size w1 w2 := below_step (w := w1) (by first | exact Below.refl _ _ | go_grown) hb
  have zmw2 : w1.heap.size < w2.heap.size := by omega
  have m0w2 : w2.cell? ⟨w1.heap.size, 0, none⟩ = some (.slice oM 1 cM) := (hb.cell (p := ⟨_, _, none⟩) (by simp <;> omega)).trans (by simp [go_sem])
  have m1w2 : w2.cell? ⟨w1.heap.size, 1, none⟩ = some (.slice oN 1 cN) := (hb.cell (p := ⟨_, _, none⟩) (by simp <;> omega)).trans (by simp [go_sem])
  have zaw2 : w1.heap.size + 1 < w2.heap.size := by omega
  have a0w2 : w2.cell? ⟨w1.heap.size + 1, 0, none⟩ = some (.string ⟨#[80, 49]⟩) := (hb.cell (p := ⟨_, _, none⟩) (by simp <;> omega)).trans (by simp [go_sem])
  have a1w2 : w2.cell? ⟨w1.heap.size + 1, 1, none⟩ = some (.string ⟨#[65]⟩) := (hb.cell (p := ⟨_, _, none⟩) (by simp <;> omega)).trans (by simp [go_sem])
  have a2w2 : w2.cell? ⟨w1.heap.size + 1, 2, none⟩ = some (.int .i64 10) := (hb.cell (p := ⟨_, _, none⟩) (by simp <;> omega)).trans (by simp [go_sem])
  have a3w2 : w2.cell? ⟨w1.heap.size + 1, 3, none⟩ = some (.int .i64 6000) := (hb.cell (p := ⟨_, _, none⟩) (by simp <;> omega)).trans (by simp [go_sem])
  have a4w2 : w2.cell? ⟨w1.heap.size + 1, 4, none⟩ = some (.int .i64 2000) := (hb.cell (p := ⟨_, _, none⟩) (by simp <;> omega)).trans (by simp [go_sem])
  have a5w2 : w2.cell? ⟨w1.heap.size + 1, 5, none⟩ = some (.string ⟨#[72]⟩) := (hb.cell (p := ⟨_, _, none⟩) (by simp <;> omega)).trans (by simp [go_sem])
  have af2w2 : w2.frozen? ⟨w1.heap.size + 1, 2, none⟩ = false := (hb.frozen (p := ⟨_, _, none⟩) (by simp <;> omega)).trans (by simp [go_sem])
  have zbw2 : w1.heap.size + 1 + 1 < w2.heap.size := by omega
  have b0w2 : w2.cell? ⟨w1.heap.size + 1 + 1, 0, none⟩ = some (.string ⟨#[80, 50]⟩) := (hb.cell (p := ⟨_, _, none⟩) (by simp <;> omega)).trans (by simp [go_sem])
  have b1w2 : w2.cell? ⟨w1.heap.size + 1 + 1, 1, none⟩ = some (.string ⟨#[65]⟩) := (hb.cell (p := ⟨_, _, none⟩) (by simp <;> omega)).trans (by simp [go_sem])
  have b2w2 : w2.cell? ⟨w1.heap.size + 1 + 1, 2, none⟩ = some (.int .i64 10) := (hb.cell (p := ⟨_, _, none⟩) (by simp <;> omega)).trans (by simp [go_sem])
  have b3w2 : w2.cell? ⟨w1.heap.size + 1 + 1, 3, none⟩ = some (.int .i64 3000) := (hb.cell (p := ⟨_, _, none⟩) (by simp <;> omega)).trans (by simp [go_sem])
  have b4w2 : w2.cell? ⟨w1.heap.size + 1 + 1, 4, none⟩ = some (.int .i64 5000) := (hb.cell (p := ⟨_, _, none⟩) (by simp <;> omega)).trans (by simp [go_sem])
  have b5w2 : w2.cell? ⟨w1.heap.size + 1 + 1, 5, none⟩ = some (.string ⟨#[72]⟩) := (hb.cell (p := ⟨_, _, none⟩) (by simp <;> omega)).trans (by simp [go_sem])
  have hQw2 : Below w1.heap.size w1 w2 := below_step (w := w1) (by first | exact Below.refl _ _ | assumption | go_grown) hb
  have hBw2 : Below w.heap.size w w2 := below_step (w := w) (by first | assumption | go_grown) hb
  have HS := Lib.hid hst
  have HSN := Lib.hid (show StNew (w1.heap.size + 1 + 1) _ from by obtain ⟨x, y, h1, h2, h3⟩ := hnw; exact ⟨x, y, h1, h2.mono (by simp <;> omega), h3.mono (by simp <;> omega)⟩)
  clear hst hnw
  clear hb hsw2 hPw2
  go_wp2_with fail
  (go_at_call 16; refine (aw2 _ _ gv _ (HS.out.below (by first | exact Below.refl _ _ | go_grown)) (HM.out.below (by first | exact Below.refl _ _ | assumption | go_grown)) (HML.out.below (by first | assumption | go_grown))).mono ?_; rintro e_ w3 ⟨o2, c2, p2, d2, rfl, hst, hnw, hb⟩)
  have hsw3 := hb.size
  (try simp only [World.size_alloc, World.size_setCell] at hsw3)
  have hPw3 : Below w2.heap.size w2 w3 := below_step (w := w2) (by first | exact Below.refl _ _ | go_grown) hb
  have zmw3 : w1.heap.size < w3.heap.size := by omega
  have m0w3 : w3.cell? ⟨w1.heap.size, 0, none⟩ = some (.slice oM 1 cM) := (hPw3.cell (p := ⟨_, _, none⟩) zmw2).trans m0w2
  have m1w3 : w3.cell? ⟨w1.heap.size, 1, none⟩ = some (.slice oN 1 cN) := (hPw3.cell (p := ⟨_, _, none⟩) zmw2).trans m1w2
  have zaw3 : w1.heap.size + 1 < w3.heap.size := by omega
  have a0w3 : w3.cell? ⟨w1.heap.size + 1, 0, none⟩ = some (.string ⟨#[80, 49]⟩) := (hPw3.cell (p := ⟨_, _, none⟩) zaw2).trans a0w2
  have a1w3 : w3.cell? ⟨w1.heap.size + 1, 1, none⟩ = some (.string ⟨#[65]⟩) := (hPw3.cell (p := ⟨_, _, none⟩) zaw2).trans a1w2
  have a2w3 : w3.cell? ⟨w1.heap.size + 1, 2, none⟩ = some (.int .i64 10) := (hPw3.cell (p := ⟨_, _, none⟩) zaw2).trans a2w2
  have a3w3 : w3.cell? ⟨w1.heap.size + 1, 3, none⟩ = some (.int .i64 6000) := (hPw3.cell (p := ⟨_, _, none⟩) zaw2).trans a3w2
  have a4w3 : w3.cell? ⟨w1.heap.size + 1, 4, none⟩ = some (.int .i64 2000) := (hPw3.cell (p := ⟨_, _, none⟩) zaw2).trans a4w2
  have a5w3 : w3.cell? ⟨w1.heap.size + 1, 5, none⟩ = some (.string ⟨#[72]⟩) := (hPw3.cell (p := ⟨_, _, none⟩) zaw2).trans a5w2
  have af2w3 : w3.frozen? ⟨w1.heap.size + 1, 2, none⟩ = false := (hPw3.frozen (p := ⟨_, _, none⟩) zaw2).trans af2w2
  have zbw3 : w1.heap.size + 1 + 1 < w3.heap.size := by omega
  have b0w3 : w3.cell? ⟨w1.heap.size + 1 + 1, 0, none⟩ = some (.string ⟨#[80, 50]⟩) := (hPw3.cell (p := ⟨_, _, none⟩) zbw2).trans b0w2
  have b1w3 : w3.cell? ⟨w1.heap.size + 1 + 1, 1, none⟩ = some (.string ⟨#[65]⟩) := (hPw3.cell (p := ⟨_, _, none⟩) zbw2).trans b1w2
  have b2w3 : w3.cell? ⟨w1.heap.size + 1 + 1, 2, none⟩ = some (.int .i64 10) := (hPw3.cell (p := ⟨_, _, none⟩) zbw2).trans b2w2
  have b3w3 : w3.cell? ⟨w1.heap.size + 1 + 1, 3, none⟩ = some (.int .i64 3000) := (hPw3.cell (p := ⟨_, _, none⟩) zbw2).trans b3w2
  have b4w3 : w3.cell? ⟨w1.heap.size + 1 + 1, 4, none⟩ = some (.int .i64 5000) := (hPw3.cell (p := ⟨_, _, none⟩) zbw2).trans b4w2
  have b5w3 : w3.cell? ⟨w1.heap.size + 1 + 1, 5, none⟩ = some (.string ⟨#[72]⟩) := (hPw3.cell (p := ⟨_, _, none⟩) zbw2).trans b5w2
  have zsw3 : w2.heap.size < w3.heap.size := by omega
  have s0w3 : w3.cell? ⟨w2.heap.size, 0, none⟩ = some (.slice o1 1 c1) := (hb.cell (p := ⟨_, _, none⟩) (by simp <;> omega)).trans (by simp [go_sem])
  have s1w3 : w3.cell? ⟨w2.heap.size, 1, none⟩ = some (.slice p1 0 d1) := (hb.cell (p := ⟨_, _, none⟩) (by simp <;> omega)).trans (by simp [go_sem])
  replace HS := Lib.hid (HS.out.below hPw3)
  have hQw3 : Below w1.heap.size w1 w3 := below_step (w := w1) (by first | exact Below.refl _ _ | assumption | go_grown) hb
  have hBw3 : Below w.heap.size w w3 := below_step (w := w) (by first | assumption | go_grown) hb
  have hw13 : w1.heap.size + 1 < w3.heap.size := by omega
  obtain ⟨bt, ft, ho2⟩ : ∃ b f, o2 = some ⟨b, f, none⟩ := by
    obtain ⟨x, y, he, h1, h2⟩ := hst
    cases he
    obtain ⟨x1, x2, he, -, -, hel⟩ := h1.form
    cases he
    obtain ⟨b, f, h3, -⟩ := hel 0 (by decide)
    exact ⟨b, f, h3⟩
  subst ho2
  have HT := Lib.hid hst
  have HTN := Lib.hid (show StNew (w1.heap.size + 1 + 1) _ from by obtain ⟨x, y, h1, h2, h3⟩ := hnw; exact ⟨x, y, h1, h2.mono (by simp <;> omega), h3.mono (by simp <;> omega)⟩)
  clear hst hnw
  clear hb hsw3 hPw3
  clear zmw2 zaw2 zbw2 m0w2 m1w2 a0w2 a1w2 a2w2 a3w2 a4w2 a5w2 b0w2 b1w2 b2w2 b3w2 b4w2 b5w2
  go_wp2_with fail
  (go_at_call 18; refine (aw3 _ _ gv _ (HT.out.below (by first | exact Below.refl _ _ | go_grown)) (HM.out.below (by first | exact Below.refl _ _ | assumption | go_grown)) (HML.out.below (by first | assumption | go_grown))).mono ?_; rintro e_ w4 ⟨o3, c3, p3, d3, rfl, hst, hnw, hb⟩)
  have hsw4 := hb.size
  (try simp only [World.size_alloc, World.size_setCell] at hsw4)
  have hPw4 : Below w3.heap.size w3 w4 := below_step (w := w3) (by first | exact Below.refl _ _ | go_grown) hb
  have zmw4 : w1.heap.size < w4.heap.size := by omega
  have m0w4 : w4.cell? ⟨w1.heap.size, 0, none⟩ = some (.slice oM 1 cM) := (hPw4.cell (p := ⟨_, _, none⟩) zmw3).trans m0w3
  have m1w4 : w4.cell? ⟨w1.heap.size, 1, none⟩ = some (.slice oN 1 cN) := (hPw4.cell (p := ⟨_, _, none⟩) zmw3).trans m1w3
  have zaw4 : w1.heap.size + 1 < w4.heap.size := by omega
  have a0w4 : w4.cell? ⟨w1.heap.size + 1, 0, none⟩ = some (.string ⟨#[80, 49]⟩) := (hPw4.cell (p := ⟨_, _, none⟩) zaw3).trans a0w3
  have a1w4 : w4.cell? ⟨w1.heap.size + 1, 1, none⟩ = some (.string ⟨#[65]⟩) := (hPw4.cell (p := ⟨_, _, none⟩) zaw3).trans a1w3
  have a2w4 : w4.cell? ⟨w1.heap.size + 1, 2, none⟩ = some (.int .i64 10) := (hPw4.cell (p := ⟨_, _, none⟩) zaw3).trans a2w3
  have a3w4 : w4.cell? ⟨w1.heap.size + 1, 3, none⟩ = some (.int .i64 6000) := (hPw4.cell (p := ⟨_, _, none⟩) zaw3).trans a3w3
  have a4w4 : w4.cell? ⟨w1.heap.size + 1, 4, none⟩ = some (.int .i64 2000) := (hPw4.cell (p := ⟨_, _, none⟩) zaw3).trans a4w3
  have a5w4 : w4.cell? ⟨w1.heap.size + 1, 5, none⟩ = some (.string ⟨#[72]⟩) := (hPw4.cell (p := ⟨_, _, none⟩) zaw3).trans a5w3
  have af2w4 : w4.frozen? ⟨w1.heap.size + 1, 2, none⟩ = false := (hPw4.frozen (p := ⟨_, _, none⟩) zaw3).trans af2w3
  have zbw4 : w1.heap.size + 1 + 1 < w4.heap.size := by omega
  have b0w4 : w4.cell? ⟨w1.heap.size + 1 + 1, 0, none⟩ = some (.string ⟨#[80, 50]⟩) := (hPw4.cell (p := ⟨_, _, none⟩) zbw3).trans b0w3
  have b1w4 : w4.cell? ⟨w1.heap.size + 1 + 1, 1, none⟩ = some (.string ⟨#[65]⟩) := (hPw4.cell (p := ⟨_, _, none⟩) zbw3).trans b1w3
  have b2w4 : w4.cell? ⟨w1.heap.size + 1 + 1, 2, none⟩ = some (.int .i64 10) := (hPw4.cell (p := ⟨_, _, none⟩) zbw3).trans b2w3
  have b3w4 : w4.cell? ⟨w1.heap.size + 1 + 1, 3, none⟩ = some (.int .i64 3000) := (hPw4.cell (p := ⟨_, _, none⟩) zbw3).trans b3w3
  have b4w4 : w4.cell? ⟨w1.heap.size + 1 + 1, 4, none⟩ = some (.int .i64 5000) := (hPw4.cell (p := ⟨_, _, none⟩) zbw3).trans b4w3
  have b5w4 : w4.cell? ⟨w1.heap.size + 1 + 1, 5, none⟩ = some (.string ⟨#[72]⟩) := (hPw4.cell (p := ⟨_, _, none⟩) zbw3).trans b5w3
  have zsw4 : w2.heap.size < w4.heap.size := by omega
  have s0w4 : w4.cell? ⟨w2.heap.size, 0, none⟩ = some (.slice o1 1 c1) := (hPw4.cell (p := ⟨_, _, none⟩) zsw3).trans s0w3
  have s1w4 : w4.cell? ⟨w2.heap.size, 1, none⟩ = some (.slice p1 0 d1) := (hPw4.cell (p := ⟨_, _, none⟩) zsw3).trans s1w3
  have ztw4 : w3.heap.size < w4.heap.size := by omega
  have t0w4 : w4.cell? ⟨w3.heap.size, 0, none⟩ = some (.slice (some ⟨bt, ft, none⟩) 2 c2) := (hb.cell (p := ⟨_, _, none⟩) (by simp <;> omega)).trans (by simp [go_sem])
  have t1w4 : w4.cell? ⟨w3.heap.size, 1, none⟩ = some (.slice p2 0 d2) := (hb.cell (p := ⟨_, _, none⟩) (by simp <;> omega)).trans (by simp [go_sem])
  replace HS := Lib.hid (HS.out.below hPw4)
  replace HT := Lib.hid (HT.out.below hPw4)
  have hQw4 : Below w1.heap.size w1 w4 := below_step (w := w1) (by first | exact Below.refl _ _ | assumption | go_grown) hb
  have hBw4 : Below w.heap.size w w4 := below_step (w := w) (by first | assumption | go_grown) hb
  have HU := Lib.hid hst
  have HUN := Lib.hid (show StNew (w1.heap.size + 1 + 1) _ from by obtain ⟨x, y, h1, h2, h3⟩ := hnw; exact ⟨x, y, h1, h2.mono (by simp <;> omega), h3.mono (by simp <;> omega)⟩)
  clear hst hnw
  clear hb hsw4 hPw4
  clear zmw3 zaw3 zbw3 zsw3 m0w3 m1w3 a0w3 a1w3 a2w3 a3w3 a4w3 a5w3 b0w3 b1w3 b2w3 b3w3 b4w3 b5w3 s0w3 s1w3
  go_wp2_with fail
  (go_at_call 16; refine (aw4 _ _ gv _ ((st_set HS.out HSN.out (w1.heap.size + 1) 2 (.int .i64 9) (by omega)).below (by go_grown)) (HM.out.below (by first | exact Below.refl _ _ | assumption | go_grown)) (HML.out.below (by first | assumption | go_grown))).mono ?_; rintro e_ w5 ⟨o4, c4, p4, d4, rfl, hst, hnw, hb⟩)
  have hsw5 := hb.size
  (try simp only [World.size_alloc, World.size_setCell] at hsw5)
  have hPs : Below (w4.setCell ⟨w1.heap.size + 1, 2, none⟩ (.int .i64 9)).heap.size (w4.setCell ⟨w1.heap.size + 1, 2, none⟩ (.int .i64 9)) w5 := below_step (w := w4.setCell ⟨w1.heap.size + 1, 2, none⟩ (.int .i64 9)) (by first | exact Below.refl _ _ | go_grown) hb
  replace HT := Lib.hid ((st_set HT.out HTN.out (w1.heap.size + 1) 2 (.int .i64 9) (by omega)).below hPs)
  replace HU := Lib.hid ((st_set HU.out HUN.out (w1.heap.size + 1) 2 (.int .i64 9) (by omega)).below hPs)
  have zmw5 : w1.heap.size < w5.heap.size := by omega
  have m0w5 : w5.cell? ⟨w1.heap.size, 0, none⟩ = some (.slice oM 1 cM) := (hb.cell (p := ⟨_, _, none⟩) (by simp <;> omega)).trans ((World.cell?_alloc_lt _ _ _ (by simp; omega)).trans ((World.cell?_setCell_other _ _ _ _ (by intro he; have := congrArg Addr.block he; dsimp only at this; omega)).trans m0w4))
  have m1w5 : w5.cell? ⟨w1.heap.size, 1, none⟩ = some (.slice oN 1 cN) := (hb.cell (p := ⟨_, _, none⟩) (by simp <;> omega)).trans ((World.cell?_alloc_lt _ _ _ (by simp; omega)).trans ((World.cell?_setCell_other _ _ _ _ (by intro he; have := congrArg Addr.block he; dsimp only at this; omega)).trans m1w4))
  have ztw5 : w3.heap.size < w5.heap.size := by omega
  have t0w5 : w5.cell? ⟨w3.heap.size, 0, none⟩ = some (.slice (some ⟨bt, ft, none⟩) 2 c2) := (hb.cell (p := ⟨_, _, none⟩) (by simp <;> omega)).trans ((World.cell?_alloc_lt _ _ _ (by simp; omega)).trans ((World.cell?_setCell_other _ _ _ _ (by intro he; have := congrArg Addr.block he; dsimp only at this; omega)).trans t0w4))
  have t1w5 : w5.cell? ⟨w3.heap.size, 1, none⟩ = some (.slice p2 0 d2) := (hb.cell (p := ⟨_, _, none⟩) (by simp <;> omega)).trans ((World.cell?_alloc_lt _ _ _ (by simp; omega)).trans ((World.cell?_setCell_other _ _ _ _ (by intro he; have := congrArg Addr.block he; dsimp only at this; omega)).trans t1w4))
  have zuw5 : w4.heap.size < w5.heap.size := by omega
  have u0w5 : w5.cell? ⟨w4.heap.size, 0, none⟩ = some (.slice o3 2 c3) := (hb.cell (p := ⟨_, _, none⟩) (by simp <;> omega)).trans (by simp [go_sem])
  have u1w5 : w5.cell? ⟨w4.heap.size, 1, none⟩ = some (.slice p3 1 d3) := (hb.cell (p := ⟨_, _, none⟩) (by simp <;> omega)).trans (by simp [go_sem])
  have hQw5 : Below w1.heap.size w1 w5 := below_step (w := w1) (by first | exact Below.refl _ _ | assumption | go_grown) hb
  have hBw5 : Below w.heap.size w w5 := below_step (w := w) (by first | assumption | go_grown) hb
  clear hst hnw hPs HS
  clear hb hsw5
  clear zmw4 ztw4 m0w4 m1w4 t0w4 t1w4
  go_wp2_with fail
  (go_at_call 17; refine (aw5 _ _ (HU.out.below (by first | exact Below.refl _ _ | go_grown))).mono ?_; rintro e_ w6 ⟨o5, c5, p5, d5, rfl, hst, hb⟩)
  have hsw6 := hb.size
  (try simp only [World.size_alloc, World.size_setCell] at hsw6)
  have hPw6 : Below w5.heap.size w5 w6 := below_step (w := w5) (by first | exact Below.refl _ _ | go_grown) hb
  have zmw6 : w1.heap.size < w6.heap.size := by omega
  have m0w6 : w6.cell? ⟨w1.heap.size, 0, none⟩ = some (.slice oM 1 cM) := (hPw6.cell (p := ⟨_, _, none⟩) zmw5).trans m0w5
  have m1w6 : w6.cell? ⟨w1.heap.size, 1, none⟩ = some (.slice oN 1 cN) := (hPw6.cell (p := ⟨_, _, none⟩) zmw5).trans m1w5
  have ztw6 : w3.heap.size < w6.heap.size := by omega
  have t0w6 : w6.cell? ⟨w3.heap.size, 0, none⟩ = some (.slice (some ⟨bt, ft, none⟩) 2 c2) := (hPw6.cell (p := ⟨_, _, none⟩) ztw5).trans t0w5
  have t1w6 : w6.cell? ⟨w3.heap.size, 1, none⟩ = some (.slice p2 0 d2) := (hPw6.cell (p := ⟨_, _, none⟩) ztw5).trans t1w5
  have zuw6 : w4.heap.size < w6.heap.size := by omega
  have u0w6 : w6.cell? ⟨w4.heap.size, 0, none⟩ = some (.slice o3 2 c3) := (hPw6.cell (p := ⟨_, _, none⟩) zuw5).trans u0w5
  have u1w6 : w6.cell? ⟨w4.heap.size, 1, none⟩ = some (.slice p3 1 d3) := (hPw6.cell (p := ⟨_, _, none⟩) zuw5).trans u1w5
  replace HT := Lib.hid (HT.out.below hPw6)
  replace HU := Lib.hid (HU.out.below hPw6)
  have hQw6 : Below w1.heap.size w1 w6 := below_step (w := w1) (by first | exact Below.refl _ _ | assumption | go_grown) hb
  have hBw6 : Below w.heap.size w w6 := below_step (w := w) (by first | assumption | go_grown) hb
  have HV := Lib.hid hst
  clear hst
  dsimp only [shA, Sh.val]
  clear hb hsw6 hPw6
  clear zmw5 ztw5 zuw5 m0w5 m1w5 t0w5 t1w5 u0w5 u1w5
  go_wp2_with fail
  (go_at_call 19; refine (aw6 _ _ (HU.out.below (by first | exact Below.refl _ _ | go_grown))).mono ?_; rintro e_ w7 ⟨o6, c6, p6, d6, rfl, hb⟩)
  have hsw7 := hb.size
  (try simp only [World.size_alloc, World.size_setCell] at hsw7)
  have hPw7 : Below w6.heap.size w6 w7 := below_step (w := w6) (by first | exact Below.refl _ _ | go_grown) hb
  have zmw7 : w1.heap.size < w7.heap.size := by omega
  have m0w7 : w7.cell? ⟨w1.heap.size, 0, none⟩ = some (.slice oM 1 cM) := (hPw7.cell (p := ⟨_, _, none⟩) zmw6).trans m0w6
  have m1w7 : w7.cell? ⟨w1.heap.size, 1, none⟩ = some (.slice oN 1 cN) := (hPw7.cell (p := ⟨_, _, none⟩) zmw6).trans m1w6
  have ztw7 : w3.heap.size < w7.heap.size := by omega
  have t0w7 : w7.cell? ⟨w3.heap.size, 0, none⟩ = some (.slice (some ⟨bt, ft, none⟩) 2 c2) := (hPw7.cell (p := ⟨_, _, none⟩) ztw6).trans t0w6
  have t1w7 : w7.cell? ⟨w3.heap.size, 1, none⟩ = some (.slice p2 0 d2) := (hPw7.cell (p := ⟨_, _, none⟩) ztw6).trans t1w6
  have zuw7 : w4.heap.size < w7.heap.size := by omega
  have u0w7 : w7.cell? ⟨w4.heap.size, 0, none⟩ = some (.slice o3 2 c3) := (hPw7.cell (p := ⟨_, _, none⟩) zuw6).trans u0w6
  have u1w7 : w7.cell? ⟨w4.heap.size, 1, none⟩ = some (.slice p3 1 d3) := (hPw7.cell (p := ⟨_, _, none⟩) zuw6).trans u1w6
  have zvw7 : w6.heap.size < w7.heap.size := by omega
  have v0w7 : w7.cell? ⟨w6.heap.size, 0, none⟩ = some (.slice o5 1 c5) := (hb.cell (p := ⟨_, _, none⟩) (by simp <;> omega)).trans (by simp [go_sem])
  have v1w7 : w7.cell? ⟨w6.heap.size, 1, none⟩ = some (.slice p5 1 d5) := (hb.cell (p := ⟨_, _, none⟩) (by simp <;> omega)).trans (by simp [go_sem])
  have zxw7 : w6.heap.size + 1 < w7.heap.size := by omega
  have x0w7 : w7.cell? ⟨w6.heap.size + 1, 0, none⟩ = some (.string ⟨#[80, 49]⟩) := (hb.cell (p := ⟨_, _, none⟩) (by simp <;> omega)).trans (by simp [go_sem])
  have x1w7 : w7.cell? ⟨w6.heap.size + 1, 1, none⟩ = some (.string ⟨#[65]⟩) := (hb.cell (p := ⟨_, _, none⟩) (by simp <;> omega)).trans (by simp [go_sem])
  have x2w7 : w7.cell? ⟨w6.heap.size + 1, 2, none⟩ = some (.int .i64 10) := (hb.cell (p := ⟨_, _, none⟩) (by simp <;> omega)).trans (by simp [go_sem])
  have x3w7 : w7.cell? ⟨w6.heap.size + 1, 3, none⟩ = some (.int .i64 6000) := (hb.cell (p := ⟨_, _, none⟩) (by simp <;> omega)).trans (by simp [go_sem])
  have x4w7 : w7.cell? ⟨w6.heap.size + 1, 4, none⟩ = some (.int .i64 2000) := (hb.cell (p := ⟨_, _, none⟩) (by simp <;> omega)).trans (by simp [go_sem])
  have x5w7 : w7.cell? ⟨w6.heap.size + 1, 5, none⟩ = some (.string ⟨#[72]⟩) := (hb.cell (p := ⟨_, _, none⟩) (by simp <;> omega)).trans (by simp [go_sem])
  replace HT := Lib.hid (HT.out.below hPw7)
  replace HU := Lib.hid (HU.out.below hPw7)
  replace HV := Lib.hid (HV.out.below hPw7)
  have hQw7 : Below w1.heap.size w1 w7 := below_step (w := w1) (by first | exact Below.refl _ _ | assumption | go_grown) hb
  have hBw7 : Below w.heap.size w w7 := below_step (w := w) (by first | assumption | go_grown) hb
  dsimp only [Br.none, Br.val]
  clear hb hsw7 hPw7
  clear zmw6 ztw6 zuw6 m0w6 m1w6 t0w6 t1w6 u0w6 u1w6
  go_wp2_with fail
  (go_at_call 20; refine (aw7 _ _ (HU.out.below (by first | exact Below.refl _ _ | go_grown))).mono ?_; rintro e_ w8 ⟨rfl, hb⟩)
  have hsw8 := hb.size
  (try simp only [World.size_alloc, World.size_setCell] at hsw8)
  have hPw8 : Below w7.heap.size w7 w8 := below_step (w := w7) (by first | exact Below.refl _ _ | go_grown) hb
  have zmw8 : w1.heap.size < w8.heap.size := by omega
  have m0w8 : w8.cell? ⟨w1.heap.size, 0, none⟩ = some (.slice oM 1 cM) := (hPw8.cell (p := ⟨_, _, none⟩) zmw7).trans m0w7
  have m1w8 : w8.cell? ⟨w1.heap.size, 1, none⟩ = some (.slice oN 1 cN) := (hPw8.cell (p := ⟨_, _, none⟩) zmw7).trans m1w7
  have ztw8 : w3.heap.size < w8.heap.size := by omega
  have t0w8 : w8.cell? ⟨w3.heap.size, 0, none⟩ = some (.slice (some ⟨bt, ft, none⟩) 2 c2) := (hPw8.cell (p := ⟨_, _, none⟩) ztw7).trans t0w7
  have t1w8 : w8.cell? ⟨w3.heap.size, 1, none⟩ = some (.slice p2 0 d2) := (hPw8.cell (p := ⟨_, _, none⟩) ztw7).trans t1w7
  have zuw8 : w4.heap.size < w8.heap.size := by omega
  have u0w8 : w8.cell? ⟨w4.heap.size, 0, none⟩ = some (.slice o3 2 c3) := (hPw8.cell (p := ⟨_, _, none⟩) zuw7).trans u0w7
  have u1w8 : w8.cell? ⟨w4.heap.size, 1, none⟩ = some (.slice p3 1 d3) := (hPw8.cell (p := ⟨_, _, none⟩) zuw7).trans u1w7
  have zvw8 : w6.heap.size < w8.heap.size := by omega
  have v0w8 : w8.cell? ⟨w6.heap.size, 0, none⟩ = some (.slice o5 1 c5) := (hPw8.cell (p := ⟨_, _, none⟩) zvw7).trans v0w7
  have v1w8 : w8.cell? ⟨w6.heap.size, 1, none⟩ = some (.slice p5 1 d5) := (hPw8.cell (p := ⟨_, _, none⟩) zvw7).trans v1w7
  have zxw8 : w6.heap.size + 1 < w8.heap.size := by omega
  have x0w8 : w8.cell? ⟨w6.heap.size + 1, 0, none⟩ = some (.string ⟨#[80, 49]⟩) := (hPw8.cell (p := ⟨_, _, none⟩) zxw7).trans x0w7
  have x1w8 : w8.cell? ⟨w6.heap.size + 1, 1, none⟩ = some (.string ⟨#[65]⟩) := (hPw8.cell (p := ⟨_, _, none⟩) zxw7).trans x1w7
  have x2w8 : w8.cell? ⟨w6.heap.size + 1, 2, none⟩ = some (.int .i64 10) := (hPw8.cell (p := ⟨_, _, none⟩) zxw7).trans x2w7
  have x3w8 : w8.cell? ⟨w6.heap.size + 1, 3, none⟩ = some (.int .i64 6000) := (hPw8.cell (p := ⟨_, _, none⟩) zxw7).trans x3w7
  have x4w8 : w8.cell? ⟨w6.heap.size + 1, 4, none⟩ = some (.int .i64 2000) := (hPw8.cell (p := ⟨_, _, none⟩) zxw7).trans x4w7
  have x5w8 : w8.cell? ⟨w6.heap.size + 1, 5, none⟩ = some (.string ⟨#[72]⟩) := (hPw8.cell (p := ⟨_, _, none⟩) zxw7).trans x5w7
  replace HT := Lib.hid (HT.out.below hPw8)
  replace HU := Lib.hid (HU.out.below hPw8)
  replace HV := Lib.hid (HV.out.below hPw8)
  have hQw8 : Below w1.heap.size w1 w8 := below_step (w := w1) (by first | exact Below.refl _ _ | assumption | go_grown) hb
  have hBw8 : Below w.heap.size w w8 := below_step (w := w) (by first | assumption | go_grown) hb
  clear hb hsw8 hPw8
  clear zmw7 ztw7 zuw7 zvw7 zxw7 m0w7 m1w7 t0w7 t1w7 u0w7 u1w7 v0w7 v1w7 x0w7 x1w7 x2w7 x3w7 x4w7 x5w7
  go_wp2_with fail
  (go_at_call 22; refine (aw8 _ _ (HU.out.below (by first | exact Below.refl _ _ | go_grown))).mono ?_; rintro e_ w9 ⟨rfl, hb⟩)
  have hsw9 := hb.size
  (try simp only [World.size_alloc, World.size_setCell] at hsw9)
  have hPw9 : Below w8.heap.size w8 w9 := below_step (w := w8) (by first | exact Below.refl _ _ | go_grown) hb
  have zmw9 : w1.heap.size < w9.heap.size := by omega
  have m0w9 : w9.cell? ⟨w1.heap.size, 0, none⟩ = some (.slice oM 1 cM) := (hPw9.cell (p := ⟨_, _, none⟩) zmw8).trans m0w8
  have m1w9 : w9.cell? ⟨w1.heap.size, 1, none⟩ = some (.slice oN 1 cN) := (hPw9.cell (p := ⟨_, _, none⟩) zmw8).trans m1w8
  have ztw9 : w3.heap.size < w9.heap.size := by omega
  have t0w9 : w9.cell? ⟨w3.heap.size, 0, none⟩ = some (.slice (some ⟨bt, ft, none⟩) 2 c2) := (hPw9.cell (p := ⟨_, _, none⟩) ztw8).trans t0w8
  have t1w9 : w9.cell? ⟨w3.heap.size, 1, none⟩ = some (.slice p2 0 d2) := (hPw9.cell (p := ⟨_, _, none⟩) ztw8).trans t1w8
  have zuw9 : w4.heap.size < w9.heap.size := by omega
  have u0w9 : w9.cell? ⟨w4.heap.size, 0, none⟩ = some (.slice o3 2 c3) := (hPw9.cell (p := ⟨_, _, none⟩) zuw8).trans u0w8
  have u1w9 : w9.cell? ⟨w4.heap.size, 1, none⟩ = some (.slice p3 1 d3) := (hPw9.cell (p := ⟨_, _, none⟩) zuw8).trans u1w8
  have zvw9 : w6.heap.size < w9.heap.size := by omega
  have v0w9 : w9.cell? ⟨w6.heap.size, 0, none⟩ = some (.slice o5 1 c5) := (hPw9.cell (p := ⟨_, _, none⟩) zvw8).trans v0w8
  have v1w9 : w9.cell? ⟨w6.heap.size, 1, none⟩ = some (.slice p5 1 d5) := (hPw9.cell (p := ⟨_, _, none⟩) zvw8).trans v1w8
  have zxw9 : w6.heap.size + 1 < w9.heap.size := by omega
  have x0w9 : w9.cell? ⟨w6.heap.size + 1, 0, none⟩ = some (.string ⟨#[80, 49]⟩) := (hPw9.cell (p := ⟨_, _, none⟩) zxw8).trans x0w8
  have x1w9 : w9.cell? ⟨w6.heap.size + 1, 1, none⟩ = some (.string ⟨#[65]⟩) := (hPw9.cell (p := ⟨_, _, none⟩) zxw8).trans x1w8
  have x2w9 : w9.cell? ⟨w6.heap.size + 1, 2, none⟩ = some (.int .i64 10) := (hPw9.cell (p := ⟨_, _, none⟩) zxw8).trans x2w8
  have x3w9 : w9.cell? ⟨w6.heap.size + 1, 3, none⟩ = some (.int .i64 6000) := (hPw9.cell (p := ⟨_, _, none⟩) zxw8).trans x3w8
  have x4w9 : w9.cell? ⟨w6.heap.size + 1, 4, none⟩ = some (.int .i64 2000) := (hPw9.cell (p := ⟨_, _, none⟩) zxw8).trans x4w8
  have x5w9 : w9.cell? ⟨w6.heap.size + 1, 5, none⟩ = some (.string ⟨#[72]⟩) := (hPw9.cell (p := ⟨_, _, none⟩) zxw8).trans x5w8
  replace HT := Lib.hid (HT.out.below hPw9)
  replace HU := Lib.hid (HU.out.below hPw9)
  replace HV := Lib.hid (HV.out.below hPw9)
  have hQw9 : Below w1.heap.size w1 w9 := below_step (w := w1) (by first | exact Below.refl _ _ | assumption | go_grown) hb
  have hBw9 : Below w.heap.size w w9 := below_step (w := w) (by first | assumption | go_grown) hb
  clear hb hsw9 hPw9
  clear zmw8 ztw8 zuw8 zvw8 zxw8 m0w8 m1w8 t0w8 t1w8 u0w8 u1w8 v0w8 v1w8 x0w8 x1w8 x2w8 x3w8 x4w8 x5w8
  go_wp2_with fail
  (go_at_call 10; refine (aw9 _ _ gv _ (HU.out.below (by first | exact Below.refl _ _ | go_grown)) (HM.out.below (by first | exact Below.refl _ _ | assumption | go_grown)) (HML.out.below (by first | assumption | go_grown))).mono ?_; rintro e_ w10 ⟨rfl, hb⟩)
  have hsw10 := hb.size
  (try simp only [World.size_alloc, World.size_setCell] at hsw10)
  have hPw10 : Below w9.heap.size w9 w10 := below_step (w := w9) (by first | exact Below.refl _ _ | go_grown) hb
  have zmw10 : w1.heap.size < w10.heap.size := by omega
  have m0w10 : w10.cell? ⟨w1.heap.size, 0, none⟩ = some (.slice oM 1 cM) := (hPw10.cell (p := ⟨_, _, none⟩) zmw9).trans m0w9
  have m1w10 : w10.cell? ⟨w1.heap.size, 1, none⟩ = some (.slice oN 1 cN) := (hPw10.cell (p := ⟨_, _, none⟩) zmw9).trans m1w9
  have ztw10 : w3.heap.size < w10.heap.size := by omega
  have t0w10 : w10.cell? ⟨w3.heap.size, 0, none⟩ = some (.slice (some ⟨bt, ft, none⟩) 2 c2) := (hPw10.cell (p := ⟨_, _, none⟩) ztw9).trans t0w9
  have t1w10 : w10.cell? ⟨w3.heap.size, 1, none⟩ = some (.slice p2 0 d2) := (hPw10.cell (p := ⟨_, _, none⟩) ztw9).trans t1w9
  have zuw10 : w4.heap.size < w10.heap.size := by omega
  have u0w10 : w10.cell? ⟨w4.heap.size, 0, none⟩ = some (.slice o3 2 c3) := (hPw10.cell (p := ⟨_, _, none⟩) zuw9).trans u0w9
  have u1w10 : w10.cell? ⟨w4.heap.size, 1, none⟩ = some (.slice p3 1 d3) := (hPw10.cell (p := ⟨_, _, none⟩) zuw9).trans u1w9
  have zvw10 : w6.heap.size < w10.heap.size := by omega
  have v0w10 : w10.cell? ⟨w6.heap.size, 0, none⟩ = some (.slice o5 1 c5) := (hPw10.cell (p := ⟨_, _, none⟩) zvw9).trans v0w9
  have v1w10 : w10.cell? ⟨w6.heap.size, 1, none⟩ = some (.slice p5 1 d5) := (hPw10.cell (p := ⟨_, _, none⟩) zvw9).trans v1w9
  have zxw10 : w6.heap.size + 1 < w10.heap.size := by omega
  have x0w10 : w10.cell? ⟨w6.heap.size + 1, 0, none⟩ = some (.string ⟨#[80, 49]⟩) := (hPw10.cell (p := ⟨_, _, none⟩) zxw9).trans x0w9
  have x1w10 : w10.cell? ⟨w6.heap.size + 1, 1, none⟩ = some (.string ⟨#[65]⟩) := (hPw10.cell (p := ⟨_, _, none⟩) zxw9).trans x1w9
  have x2w10 : w10.cell? ⟨w6.heap.size + 1, 2, none⟩ = some (.int .i64 10) := (hPw10.cell (p := ⟨_, _, none⟩) zxw9).trans x2w9
  have x3w10 : w10.cell? ⟨w6.heap.size + 1, 3, none⟩ = some (.int .i64 6000) := (hPw10.cell (p := ⟨_, _, none⟩) zxw9).trans x3w9
  have x4w10 : w10.cell? ⟨w6.heap.size + 1, 4, none⟩ = some (.int .i64 2000) := (hPw10.cell (p := ⟨_, _, none⟩) zxw9).trans x4w9
  have x5w10 : w10.cell? ⟨w6.heap.size + 1, 5, none⟩ = some (.string ⟨#[72]⟩) := (hPw10.cell (p := ⟨_, _, none⟩) zxw9).trans x5w9
  replace HT := Lib.hid (HT.out.below hPw10)
  replace HU := Lib.hid (HU.out.below hPw10)
  replace HV := Lib.hid (HV.out.below hPw10)
  have hQw10 : Below w1.heap.size w1 w10 := below_step (w := w1) (by first | exact Below.refl _ _ | assumption | go_grown) hb
  have hBw10 : Below w.heap.size w w10 := below_step (w := w) (by first | assumption | go_grown) hb
  clear hb hsw10 hPw10
  clear zmw9 ztw9 zuw9 zvw9 zxw9 m0w9 m1w9 t0w9 t1w9 u0w9 u1w9 v0w9 v1w9 x0w9 x1w9 x2w9 x3w9 x4w9 x5w9
  go_wp2_with fail
  (go_at_call 12; refine (aw10 _ _ (HU.out.below (by first | exact Below.refl _ _ | go_grown))).mono ?_; rintro e_ w11 ⟨rfl, hb⟩)
  have hsw11 := hb.size
  (try simp only [World.size_alloc, World.size_setCell] at hsw11)
  have hPw11 : Below w10.heap.size w10 w11 := below_step (w := w10) (by first | exact Below.refl _ _ | go_grown) hb
  have zmw11 : w1.heap.size < w11.heap.size := by omega
  have m0w11 : w11.cell? ⟨w1.heap.size, 0, none⟩ = some (.slice oM 1 cM) := (hPw11.cell (p := ⟨_, _, none⟩) zmw10).trans m0w10
  have m1w11 : w11.cell? ⟨w1.heap.size, 1, none⟩ = some (.slice oN 1 cN) := (hPw11.cell (p := ⟨_, _, none⟩) zmw10).trans m1w10
  have ztw11 : w3.heap.size < w11.heap.size := by omega
  have t0w11 : w11.cell? ⟨w3.heap.size, 0, none⟩ = some (.slice (some ⟨bt, ft, none⟩) 2 c2) := (hPw11.cell (p := ⟨_, _, none⟩) ztw10).trans t0w10
  have t1w11 : w11.cell? ⟨w3.heap.size, 1, none⟩ = some (.slice p2 0 d2) := (hPw11.cell (p := ⟨_, _, none⟩) ztw10).trans t1w10
  have zuw11 : w4.heap.size < w11.heap.size := by omega
  have u0w11 : w11.cell? ⟨w4.heap.size, 0, none⟩ = some (.slice o3 2 c3) := (hPw11.cell (p := ⟨_, _, none⟩) zuw10).trans u0w10
  have u1w11 : w11.cell? ⟨w4.heap.size, 1, none⟩ = some (.slice p3 1 d3) := (hPw11.cell (p := ⟨_, _, none⟩) zuw10).trans u1w10
  have zvw11 : w6.heap.size < w11.heap.size := by omega
  have v0w11 : w11.cell? ⟨w6.heap.size, 0, none⟩ = some (.slice o5 1 c5) := (hPw11.cell (p := ⟨_, _, none⟩) zvw10).trans v0w10
  have v1w11 : w11.cell? ⟨w6.heap.size, 1, none⟩ = some (.slice p5 1 d5) := (hPw11.cell (p := ⟨_, _, none⟩) zvw10).trans v1w10
  have zxw11 : w6.heap.size + 1 < w11.heap.size := by omega
  have x0w11 : w11.cell? ⟨w6.heap.size + 1, 0, none⟩ = some (.string ⟨#[80, 49]⟩) := (hPw11.cell (p := ⟨_, _, none⟩) zxw10).trans x0w10
  have x1w11 : w11.cell? ⟨w6.heap.size + 1, 1, none⟩ = some (.string ⟨#[65]⟩) := (hPw11.cell (p := ⟨_, _, none⟩) zxw10).trans x1w10
  have x2w11 : w11.cell? ⟨w6.heap.size + 1, 2, none⟩ = some (.int .i64 10) := (hPw11.cell (p := ⟨_, _, none⟩) zxw10).trans x2w10
  have x3w11 : w11.cell? ⟨w6.heap.size + 1, 3, none⟩ = some (.int .i64 6000) := (hPw11.cell (p := ⟨_, _, none⟩) zxw10).trans x3w10
  have x4w11 : w11.cell? ⟨w6.heap.size + 1, 4, none⟩ = some (.int .i64 2000) := (hPw11.cell (p := ⟨_, _, none⟩) zxw10).trans x4w10
  have x5w11 : w11.cell? ⟨w6.heap.size + 1, 5, none⟩ = some (.string ⟨#[72]⟩) := (hPw11.cell (p := ⟨_, _, none⟩) zxw10).trans x5w10
  replace HT := Lib.hid (HT.out.below hPw11)
  replace HU := Lib.hid (HU.out.below hPw11)
  replace HV := Lib.hid (HV.out.below hPw11)
  have hQw11 : Below w1.heap.size w1 w11 := below_step (w := w1) (by first | exact Below.refl _ _ | assumption | go_grown) hb
  have hBw11 : Below w.heap.size w w11 := below_step (w := w) (by first | assumption | go_grown) hb
  clear hb hsw11 hPw11
  clear zmw10 ztw10 zuw10 zvw10 zxw10 m0w10 m1w10 t0w10 t1w10 u0w10 u1w10 v0w10 v1w10 x0w10 x1w10 x2w10 x3w10 x4w10 x5w10
  go_wp2_with fail
  (go_at_call 12; refine (aw11 _ _ _ (HU.out.below (by first | exact Below.refl _ _ | go_grown)) (HV.out.below (by first | exact Below.refl _ _ | go_grown))).mono ?_; rintro e_ w12 ⟨rfl, hb⟩)
  have hsw12 := hb.size
  (try simp only [World.size_alloc, World.size_setCell] at hsw12)
  have hPw12 : Below w11.heap.size w11 w12 := below_step (w := w11) (by first | exact Below.refl _ _ | go_grown) hb
  have zmw12 : w1.heap.size < w12.heap.size := by omega
  have m0w12 : w12.cell? ⟨w1.heap.size, 0, none⟩ = some (.slice oM 1 cM) := (hPw12.cell (p := ⟨_, _, none⟩) zmw11).trans m0w11
  have m1w12 : w12.cell? ⟨w1.heap.size, 1, none⟩ = some (.slice oN 1 cN) := (hPw12.cell (p := ⟨_, _, none⟩) zmw11).trans m1w11
  have ztw12 : w3.heap.size < w12.heap.size := by omega
  have t0w12 : w12.cell? ⟨w3.heap.size, 0, none⟩ = some (.slice (some ⟨bt, ft, none⟩) 2 c2) := (hPw12.cell (p := ⟨_, _, none⟩) ztw11).trans t0w11
  have t1w12 : w12.cell? ⟨w3.heap.size, 1, none⟩ = some (.slice p2 0 d2) := (hPw12.cell (p := ⟨_, _, none⟩) ztw11).trans t1w11
  have zuw12 : w4.heap.size < w12.heap.size := by omega
  have u0w12 : w12.cell? ⟨w4.heap.size, 0, none⟩ = some (.slice o3 2 c3) := (hPw12.cell (p := ⟨_, _, none⟩) zuw11).trans u0w11
  have u1w12 : w12.cell? ⟨w4.heap.size, 1, none⟩ = some (.slice p3 1 d3) := (hPw12.cell (p := ⟨_, _, none⟩) zuw11).trans u1w11
  have zvw12 : w6.heap.size < w12.heap.size := by omega
  have v0w12 : w12.cell? ⟨w6.heap.size, 0, none⟩ = some (.slice o5 1 c5) := (hPw12.cell (p := ⟨_, _, none⟩) zvw11).trans v0w11
  have v1w12 : w12.cell? ⟨w6.heap.size, 1, none⟩ = some (.slice p5 1 d5) := (hPw12.cell (p := ⟨_, _, none⟩) zvw11).trans v1w11
  have zxw12 : w6.heap.size + 1 < w12.heap.size := by omega
  have x0w12 : w12.cell? ⟨w6.heap.size + 1, 0, none⟩ = some (.string ⟨#[80, 49]⟩) := (hPw12.cell (p := ⟨_, _, none⟩) zxw11).trans x0w11
  have x1w12 : w12.cell? ⟨w6.heap.size + 1, 1, none⟩ = some (.string ⟨#[65]⟩) := (hPw12.cell (p := ⟨_, _, none⟩) zxw11).trans x1w11
  have x2w12 : w12.cell? ⟨w6.heap.size + 1, 2, none⟩ = some (.int .i64 10) := (hPw12.cell (p := ⟨_, _, none⟩) zxw11).trans x2w11
  have x3w12 : w12.cell? ⟨w6.heap.size + 1, 3, none⟩ = some (.int .i64 6000) := (hPw12.cell (p := ⟨_, _, none⟩) zxw11).trans x3w11
  have x4w12 : w12.cell? ⟨w6.heap.size + 1, 4, none⟩ = some (.int .i64 2000) := (hPw12.cell (p := ⟨_, _, none⟩) zxw11).trans x4w11
  have x5w12 : w12.cell? ⟨w6.heap.size + 1, 5, none⟩ = some (.string ⟨#[72]⟩) := (hPw12.cell (p := ⟨_, _, none⟩) zxw11).trans x5w11
  replace HT := Lib.hid (HT.out.below hPw12)
  replace HU := Lib.hid (HU.out.below hPw12)
  replace HV := Lib.hid (HV.out.below hPw12)
  have hQw12 : Below w1.heap.size w1 w12 := below_step (w := w1) (by first | exact Below.refl _ _ | assumption | go_grown) hb
  have hBw12 : Below w.heap.size w w12 := below_step (w := w) (by first | assumption | go_grown) hb
  clear hb hsw12 hPw12
  clear zmw11 ztw11 zuw11 zvw11 zxw11 m0w11 m1w11 t0w11 t1w11 u0w11 u1w11 v0w11 v1w11 x0w11 x1w11 x2w11 x3w11 x4w11 x5w11
  have hT0 : w12.cell? ⟨bt, ft, none⟩ = some (.string ⟨#[80, 49]⟩) ∧ bt < w12.heap.size := by
    obtain ⟨x, y, he, h1, h2⟩ := HT.out
    cases he
    obtain ⟨x1, x2, he, -, -, hel⟩ := h1.form
    cases he
    obtain ⟨b, f, h3, h4, h5⟩ := hel 0 (by decide)
    cases h3
    have h6 := (h5 0 (by decide)).1
    have h7 : (e2 0).id = ⟨#[80, 49]⟩ := by decide +kernel
    rw [h7] at h6
    exact ⟨by simpa using h6, h4⟩
  obtain ⟨hT1, hT2⟩ := hT0
  go_wp2
  go_returns
  exact ⟨rfl, by assumption⟩
end Go.Proofs.YtiddpaaihloopaaDoor
