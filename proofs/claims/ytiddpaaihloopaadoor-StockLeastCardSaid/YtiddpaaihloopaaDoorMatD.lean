/-
  Rolled, the program's and the reference's; the error of a plate and of a bar, the program's and the reference's, by walks. Conditions: a catalog of at most 10^6 entries and gauges, identifiers of at most 2^31 bytes. By an AI agent.
-/
import Derived.Test.YtiddpaaihloopaaDoorMatC
import Derived.Test.YtiddpaaihloopaaDoorIdB
namespace Go.Proofs.YtiddpaaihloopaaDoor
open Go Go.ChangeShapes Go.WideShapes Go.RowKit Go.ChangeAt
set_option linter.unusedVariables false
set_option linter.unusedSimpArgs false
set_option maxRecDepth 100000

theorem rolled_eq (m : Mat) (s : ByteArray) (t : Int) : m.rolled s t = decide (firstIn (m.gf (m.gi s)) (m.gl s) t < m.gl s) := by
  unfold Mat.rolled Mat.gl
  cases h : m.hasG s with
  | false => simp
  | true => simp only [Bool.true_and, if_true]; rfl
set_option maxHeartbeats 4000000 in
theorem rolled_any (v : Value) (m : Mat) (gv : Nat → Value) (s : ByteArray) (t : Int) (w : World) (h : MatAt w v m gv) :
    Calls Tryd.prog 44 #[v, .string s, .int .i64 t] w fun e w' => e = .returned (.bool (m.rolled s t)) ∧ Below w.heap.size w w' := by
  have HM := Lib.hid h
  obtain ⟨vg, vs, rfl, hG, hS, -, -, -⟩ := h
  obtain ⟨oa, ca, rfl, -, -⟩ := hG.form
  obtain ⟨ob, cb, rfl, -, -⟩ := hS.form
  clear hG hS
  obtain ⟨D, hD⟩ : ∃ D, m.hasG s = D := ⟨_, rfl⟩
  have HD := Lib.hid hD
  obtain ⟨L, hL⟩ : ∃ L, m.gl s = L := ⟨_, rfl⟩
  have HL := Lib.hid hL
  obtain ⟨f, hf⟩ : ∃ f, m.gf (m.gi s) = f := ⟨_, rfl⟩
  have HF := Lib.hid hf
  obtain ⟨R, hR⟩ : ∃ R, m.rolled s t = R := ⟨_, rfl⟩
  have HR : Hid (decide (firstIn f L t < L) = R) := by show _ = _; rw [← hR, rolled_eq, hf, hL]
  have HR2 : Hid (D = false → R = false) := fun h0 => by rw [← hR]; unfold Mat.rolled; rw [hD, h0]; rfl
  rw [hR]
  clear hD hL hf hR
  go_enter Tryd.func44, Tryd.ntmps44
  go_wp2_with fail
  (go_at_call 48; refine (grade_any _ m gv s _ (HM.out.below (by go_grown))).mono ?_; rintro e w1 ⟨s', d, y, gv', rfl, hI, hB⟩)
  rw [HD.out]
  rw [HL.out, HF.out] at hI
  have HI := Lib.hid hI
  obtain ⟨oc, cc, rfl, -, -⟩ := hI.form
  have HB1 : Hid (Below w.heap.size w w1) := by
    show Below _ _ _
    exact below_step (w := w) (by go_grown) hB
  have hs1 := hB.size
  (try simp only [World.size_alloc, World.size_setCell] at hs1)
  have z1 : w.heap.size < w1.heap.size := by omega
  have hbw1 := HB1.out
  clear hI hB hs1
  cases D with
  | false =>
    have HR3 := Lib.hid (HR2.out rfl)
    go_wp2
    go_returns
    rw [HR3.out]
    exact ⟨rfl, by go_grown⟩
  | true =>
    go_wp2_with fail
    (go_at_call 64; refine (contains_int _ L f t _ (HI.out.below (by go_grown))).mono ?_; rintro e w2 ⟨rfl, hB⟩)
    rw [HR.out]
    have HB2 : Hid (Below w.heap.size w w2) := by
      show Below _ _ _
      exact below_step (w := w) (by first | assumption | go_grown) hB
    clear hB
    go_wp2
    go_returns
    exact ⟨rfl, HB2.out⟩
set_option maxHeartbeats 4000000 in
theorem rrolled_any (v : Value) (m : Mat) (gv : Nat → Value) (s : ByteArray) (t : Int) (w : World) (h : MatAt w v m gv) :
    Calls Tryd.prog 50 #[v, .string s, .int .i64 t] w fun e w' => e = .returned (.bool (m.rolled s t)) ∧ Below w.heap.size w w' := by
  have HM := Lib.hid h
  obtain ⟨vg, vs, rfl, hG, hS, -, -, -⟩ := h
  obtain ⟨oa, ca, rfl, -, -⟩ := hG.form
  obtain ⟨ob, cb, rfl, -, -⟩ := hS.form
  clear hG hS
  obtain ⟨D, hD⟩ : ∃ D, m.hasG s = D := ⟨_, rfl⟩
  have HD := Lib.hid hD
  obtain ⟨L, hL⟩ : ∃ L, m.gl s = L := ⟨_, rfl⟩
  have HL := Lib.hid hL
  obtain ⟨f, hf⟩ : ∃ f, m.gf (m.gi s) = f := ⟨_, rfl⟩
  have HF := Lib.hid hf
  obtain ⟨R, hR⟩ : ∃ R, m.rolled s t = R := ⟨_, rfl⟩
  have HR : Hid (decide (firstFrom (fun j => f j == t) L 0 < L) = R) := by show _ = _; rw [← hR, rolled_eq, hf, hL]; rfl
  obtain ⟨K, hK⟩ : ∃ K, firstFrom (fun j => f j == t) L 0 = K := ⟨_, rfl⟩
  have HK := Lib.hid hK
  rw [hK] at HR
  rw [hR]
  clear hD hL hf hR hK
  go_enter Tryd.func50, Tryd.ntmps50
  go_wp2_with fail
  (go_at_call 53; refine (rgrade_any _ m gv s _ (HM.out.below (by go_grown))).mono ?_; rintro e w1 ⟨s', d, y, gv', rfl, hI, hB⟩)
  rw [HD.out]
  rw [HL.out, HF.out] at hI
  have HI := Lib.hid hI
  obtain ⟨oc, cc, rfl, hLb, hel⟩ := hI.form
  have HEL := Lib.hid hel
  have HB1 : Hid (Below w.heap.size w w1) := by
    show Below _ _ _
    exact below_step (w := w) (by go_grown) hB
  have hs1 := hB.size
  (try simp only [World.size_alloc, World.size_setCell] at hs1)
  have z1 : w.heap.size < w1.heap.size := by omega
  have hbw1 := HB1.out
  clear hI hB hs1 hel
  go_wp2
  go_loopw [9] (fun i wr => ∃ j : Nat, j ≤ L ∧ i = .int .i64 j ∧ Hid (firstFrom (fun j => f j == t) (L - j) j = K) ∧ wr.cell? ⟨w1.heap.size, 3, none⟩ = some (.slice oc L cc) ∧ Below w1.heap.size w1 wr ∧ w1.heap.size < wr.heap.size) (fun i _ => L - (intOf i).toNat)
  case atStart => exact ⟨0, by omega, rfl, HK.out, by simp [go_sem], by go_grown, by simp⟩
  case round =>
    obtain ⟨j, hj, rfl, hq, hc3, hB, hsz⟩ := hrel
    have HBr := Lib.hid (below_step HB1.out hB)
    by_cases hlt : j < L
    · obtain ⟨b1, f1, rfl, hbl1, hcl1⟩ := HEL.out j hlt
      have c0 : wr.cell? ⟨b1, f1 + j, none⟩ = some (.int .i64 (f j)) := (hB.cell (p := ⟨_, _, none⟩) hbl1).trans (hcl1 j hlt)
      have hbr : b1 < wr.heap.size := by omega
      have HBB := Lib.hid hB
      clear hcl1 hB
      by_cases h1 : f j = t
      · have hR0 : R = true := by
          have hFj : K = j := hq.out.symm.trans (firstFrom_hit hlt (by simpa using h1))
          rw [← HR.out, hFj]; exact decide_eq_true hlt
        have HR0 := Lib.hid hR0
        have e1 : (f j == t) = true := by simpa using h1
        clear hR0 h1
        go_wp2
        go_returns
        rw [HR0.out]
        exact ⟨rfl, HBr.out⟩
      have hq2 : Hid (firstFrom (fun j => f j == t) (L - (j + 1)) (j + 1) = K) := (firstFrom_miss hlt (by simpa using h1)).symm.trans hq.out
      have e1 : (f j == t) = false := by simpa using h1
      clear h1
      go_wp2
      go_roundw
      case rel => exact ⟨j + 1, by omega, by go_num, hq2, hc3, HBB.out, hsz⟩
      case measure => simp [intOf]; omega
    · have hR0 : R = false := by
        have hFj : K = L := hq.out.symm.trans (firstFrom_end hj hlt)
        rw [← HR.out, hFj]; exact decide_eq_false (by omega)
      have HR0 := Lib.hid hR0
      clear hR0 hB
      go_wp2
      go_returns
      rw [HR0.out]
      exact ⟨rfl, HBr.out⟩

theorem side_any (n : Int) (w : World) : Calls Tryd.prog 45 #[.int .i64 n] w fun e w' => e = .returned (.bool (sideB n)) ∧ Below w.heap.size w w' := by
  by_cases h1 : 1 ≤ n
  · by_cases h2 : n ≤ 32768
    · have E : Hid (sideB n = true) := by show _ = _; unfold sideB; rw [decide_eq_true h1, decide_eq_true h2]; rfl
      go_enter Tryd.func45, Tryd.ntmps45
      go_wp2
      go_returns
      exact ⟨by rw [E.out]; rfl, by go_grown⟩
    · have E : Hid (sideB n = false) := by show _ = _; unfold sideB; rw [decide_eq_false h2, Bool.and_false]
      go_enter Tryd.func45, Tryd.ntmps45
      go_wp2
      go_returns
      exact ⟨by rw [E.out]; rfl, by go_grown⟩
  · have E : Hid (sideB n = false) := by show _ = _; unfold sideB; rw [decide_eq_false h1, Bool.false_and]
    go_enter Tryd.func45, Tryd.ntmps45
    go_wp2
    go_returns
    exact ⟨by rw [E.out]; rfl, by go_grown⟩

theorem rin_any (n : Int) (w : World) : Calls Tryd.prog 51 #[.int .i64 n] w fun e w' => e = .returned (.bool (sideB n)) ∧ Below w.heap.size w w' := by
  by_cases h1 : 1 ≤ n
  · by_cases h2 : n ≤ 32768
    · have E : Hid (sideB n = true) := by show _ = _; unfold sideB; rw [decide_eq_true h1, decide_eq_true h2]; rfl
      go_enter Tryd.func51, Tryd.ntmps51
      go_wp2
      go_returns
      exact ⟨by rw [E.out]; rfl, by go_grown⟩
    · have E : Hid (sideB n = false) := by show _ = _; unfold sideB; rw [decide_eq_false h2, Bool.and_false]
      go_enter Tryd.func51, Tryd.ntmps51
      go_wp2
      go_returns
      exact ⟨by rw [E.out]; rfl, by go_grown⟩
  · have E : Hid (sideB n = false) := by show _ = _; unfold sideB; rw [decide_eq_false h1, Bool.false_and]
    go_enter Tryd.func51, Tryd.ntmps51
    go_wp2
    go_returns
    exact ⟨by rw [E.out]; rfl, by go_grown⟩

set_option maxHeartbeats 4000000 in
theorem sheet_any (x : Sh) (v : Value) (m : Mat) (gv : Nat → Value) (w : World) (h : MatAt w v m gv) (hi : x.id.size ≤ 2147483648) (hh : x.heat.size ≤ 2147483648) (hml : MaxLenIs w) :
    Calls Tryd.prog 28 #[x.val, v] w fun e w' => e = .returned (.int .i64 (sheetE m x)) ∧ Below w.heap.size w w' := by
  have HM := Lib.hid h
  have HML := Lib.hid hml
  obtain ⟨vg, vs, rfl, hG, hS, -, -, -⟩ := h
  obtain ⟨oa, ca, rfl, -, -⟩ := hG.form
  obtain ⟨ob, cb, rfl, -, -⟩ := hS.form
  clear hG hS hml
  obtain ⟨id', grade', thick', len', wid', heat'⟩ := x
  have H2i : Hid (id'.size ≤ 2147483648) := hi
  have H2h : Hid (heat'.size ≤ 2147483648) := hh
  have H1i : Hid (id'.size ≤ 9223372036854775807) := Nat.le_trans H2i.out (by decide)
  have H1h : Hid (heat'.size ≤ 9223372036854775807) := Nat.le_trans H2h.out (by decide)
  clear hi hh
  obtain ⟨EE, hEE⟩ : ∃ EE, sheetE m (⟨id', grade', thick', len', wid', heat'⟩ : Sh) = EE := ⟨_, rfl⟩
  obtain ⟨A, hA⟩ : ∃ A, idB id' = A := ⟨_, rfl⟩
  have HA := Lib.hid hA
  obtain ⟨B, hB⟩ : ∃ B, idB heat' = B := ⟨_, rfl⟩
  have HB := Lib.hid hB
  obtain ⟨C, hC⟩ : ∃ C, m.rolled grade' thick' = C := ⟨_, rfl⟩
  have HC := Lib.hid hC
  obtain ⟨D1, hD1⟩ : ∃ D, sideB len' = D := ⟨_, rfl⟩
  have HD1 := Lib.hid hD1
  obtain ⟨D2, hD2⟩ : ∃ D, sideB wid' = D := ⟨_, rfl⟩
  have HD2 := Lib.hid hD2
  have HE : Hid ((if (A && B) = false then (6 : Int) else if C = false then 23 else if (D1 && D2) = false then 9 else 0) = EE) := by show _ = _; rw [← hEE, ← hA, ← hB, ← hC, ← hD1, ← hD2]; rfl
  show Calls Tryd.prog 28 #[.agg #[.string id', .string grade', .int .i64 thick', .int .i64 len', .int .i64 wid', .string heat'], .agg #[.slice oa m.ng ca, .slice ob m.ns cb]] w fun e w' => e = .returned (.int .i64 (sheetE m (⟨id', grade', thick', len', wid', heat'⟩ : Sh))) ∧ Below w.heap.size w w'
  rw [hEE]
  clear hEE hA hB hC hD1 hD2
  go_enter Tryd.func28, Tryd.ntmps28
  go_wp2_with fail
  (go_at_call 43; refine (isId_any id' _ H1i.out (HML.out.below (by first | assumption | go_grown))).mono ?_; rintro e_ w1 ⟨rfl, hb⟩)
  rw [HA.out]
  have hsw1 := hb.size
  (try simp only [World.size_alloc, World.size_setCell] at hsw1)
  have zww1 : w.heap.size < w1.heap.size := by omega
  have zxw1 : w.heap.size < w1.heap.size := by omega
  have x0w1 : w1.cell? ⟨w.heap.size, 0, none⟩ = some (.string id') := (hb.cell (p := ⟨_, _, none⟩) (by simp <;> omega)).trans (by simp [go_sem])
  have x1w1 : w1.cell? ⟨w.heap.size, 1, none⟩ = some (.string grade') := (hb.cell (p := ⟨_, _, none⟩) (by simp <;> omega)).trans (by simp [go_sem])
  have x2w1 : w1.cell? ⟨w.heap.size, 2, none⟩ = some (.int .i64 thick') := (hb.cell (p := ⟨_, _, none⟩) (by simp <;> omega)).trans (by simp [go_sem])
  have x3w1 : w1.cell? ⟨w.heap.size, 3, none⟩ = some (.int .i64 len') := (hb.cell (p := ⟨_, _, none⟩) (by simp <;> omega)).trans (by simp [go_sem])
  have x4w1 : w1.cell? ⟨w.heap.size, 4, none⟩ = some (.int .i64 wid') := (hb.cell (p := ⟨_, _, none⟩) (by simp <;> omega)).trans (by simp [go_sem])
  have x5w1 : w1.cell? ⟨w.heap.size, 5, none⟩ = some (.string heat') := (hb.cell (p := ⟨_, _, none⟩) (by simp <;> omega)).trans (by simp [go_sem])
  have zmw1 : w.heap.size + 1 < w1.heap.size := by omega
  have m0w1 : w1.cell? ⟨w.heap.size + 1, 0, none⟩ = some (.slice oa m.ng ca) := (hb.cell (p := ⟨_, _, none⟩) (by simp <;> omega)).trans (by simp [go_sem])
  have m1w1 : w1.cell? ⟨w.heap.size + 1, 1, none⟩ = some (.slice ob m.ns cb) := (hb.cell (p := ⟨_, _, none⟩) (by simp <;> omega)).trans (by simp [go_sem])
  have hBw1 : Below w.heap.size w w1 := below_step (w := w) (by first | assumption | go_grown) hb
  clear hb hsw1
  cases A with
  | false =>
    have HZ : Hid (EE = 6) := by show _ = _; rw [← HE.out]; rfl
    go_wp2
    go_returns
    rw [HZ.out]
    exact ⟨rfl, by first | assumption | go_grown⟩
  | true =>
    go_wp2_with fail
    (go_at_call 43; refine (isId_any heat' _ H1h.out (HML.out.below (by first | assumption | go_grown))).mono ?_; rintro e_ w2 ⟨rfl, hb⟩)
    rw [HB.out]
    have hsw2 := hb.size
    (try simp only [World.size_alloc, World.size_setCell] at hsw2)
    have zww2 : w.heap.size < w2.heap.size := by omega
    have hPw2 : Below w1.heap.size w1 w2 := below_step (w := w1) (by first | exact Below.refl _ _ | go_grown) hb
    have zxw2 : w.heap.size < w2.heap.size := by omega
    have x0w2 : w2.cell? ⟨w.heap.size, 0, none⟩ = some (.string id') := (hPw2.cell (p := ⟨_, _, none⟩) zxw1).trans x0w1
    have x1w2 : w2.cell? ⟨w.heap.size, 1, none⟩ = some (.string grade') := (hPw2.cell (p := ⟨_, _, none⟩) zxw1).trans x1w1
    have x2w2 : w2.cell? ⟨w.heap.size, 2, none⟩ = some (.int .i64 thick') := (hPw2.cell (p := ⟨_, _, none⟩) zxw1).trans x2w1
    have x3w2 : w2.cell? ⟨w.heap.size, 3, none⟩ = some (.int .i64 len') := (hPw2.cell (p := ⟨_, _, none⟩) zxw1).trans x3w1
    have x4w2 : w2.cell? ⟨w.heap.size, 4, none⟩ = some (.int .i64 wid') := (hPw2.cell (p := ⟨_, _, none⟩) zxw1).trans x4w1
    have x5w2 : w2.cell? ⟨w.heap.size, 5, none⟩ = some (.string heat') := (hPw2.cell (p := ⟨_, _, none⟩) zxw1).trans x5w1
    have zmw2 : w.heap.size + 1 < w2.heap.size := by omega
    have m0w2 : w2.cell? ⟨w.heap.size + 1, 0, none⟩ = some (.slice oa m.ng ca) := (hPw2.cell (p := ⟨_, _, none⟩) zmw1).trans m0w1
    have m1w2 : w2.cell? ⟨w.heap.size + 1, 1, none⟩ = some (.slice ob m.ns cb) := (hPw2.cell (p := ⟨_, _, none⟩) zmw1).trans m1w1
    have hBw2 : Below w.heap.size w w2 := below_step (w := w) (by first | assumption | go_grown) hb
    clear hb hsw2
    clear hPw2
    clear zxw1 zmw1 x0w1 x1w1 x2w1 x3w1 x4w1 x5w1 m0w1 m1w1
    cases B with
    | false =>
      have HZ : Hid (EE = 6) := by show _ = _; rw [← HE.out]; rfl
      go_wp2
      go_returns
      rw [HZ.out]
      exact ⟨rfl, by first | assumption | go_grown⟩
    | true =>
      go_wp2_with fail
      (go_at_call 44; refine (rolled_any _ m gv grade' thick' _ (HM.out.below (by first | assumption | go_grown))).mono ?_; rintro e_ w3 ⟨rfl, hb⟩)
      rw [HC.out]
      have hsw3 := hb.size
      (try simp only [World.size_alloc, World.size_setCell] at hsw3)
      have zww3 : w.heap.size < w3.heap.size := by omega
      have hPw3 : Below w2.heap.size w2 w3 := below_step (w := w2) (by first | exact Below.refl _ _ | go_grown) hb
      have zxw3 : w.heap.size < w3.heap.size := by omega
      have x0w3 : w3.cell? ⟨w.heap.size, 0, none⟩ = some (.string id') := (hPw3.cell (p := ⟨_, _, none⟩) zxw2).trans x0w2
      have x1w3 : w3.cell? ⟨w.heap.size, 1, none⟩ = some (.string grade') := (hPw3.cell (p := ⟨_, _, none⟩) zxw2).trans x1w2
      have x2w3 : w3.cell? ⟨w.heap.size, 2, none⟩ = some (.int .i64 thick') := (hPw3.cell (p := ⟨_, _, none⟩) zxw2).trans x2w2
      have x3w3 : w3.cell? ⟨w.heap.size, 3, none⟩ = some (.int .i64 len') := (hPw3.cell (p := ⟨_, _, none⟩) zxw2).trans x3w2
      have x4w3 : w3.cell? ⟨w.heap.size, 4, none⟩ = some (.int .i64 wid') := (hPw3.cell (p := ⟨_, _, none⟩) zxw2).trans x4w2
      have x5w3 : w3.cell? ⟨w.heap.size, 5, none⟩ = some (.string heat') := (hPw3.cell (p := ⟨_, _, none⟩) zxw2).trans x5w2
      have zmw3 : w.heap.size + 1 < w3.heap.size := by omega
      have m0w3 : w3.cell? ⟨w.heap.size + 1, 0, none⟩ = some (.slice oa m.ng ca) := (hPw3.cell (p := ⟨_, _, none⟩) zmw2).trans m0w2
      have m1w3 : w3.cell? ⟨w.heap.size + 1, 1, none⟩ = some (.slice ob m.ns cb) := (hPw3.cell (p := ⟨_, _, none⟩) zmw2).trans m1w2
      have hBw3 : Below w.heap.size w w3 := below_step (w := w) (by first | assumption | go_grown) hb
      clear hb hsw3
      clear hPw3
      clear zxw2 zmw2 x0w2 x1w2 x2w2 x3w2 x4w2 x5w2 m0w2 m1w2
      cases C with
      | false =>
        have HZ : Hid (EE = 23) := by show _ = _; rw [← HE.out]; rfl
        go_wp2
        go_returns
        rw [HZ.out]
        exact ⟨rfl, by first | assumption | go_grown⟩
      | true =>
        go_wp2_with fail
        (go_at_call 45; refine (side_any len' _).mono ?_; rintro e_ w4 ⟨rfl, hb⟩)
        rw [HD1.out]
        have hsw4 := hb.size
        (try simp only [World.size_alloc, World.size_setCell] at hsw4)
        have zww4 : w.heap.size < w4.heap.size := by omega
        have hPw4 : Below w3.heap.size w3 w4 := below_step (w := w3) (by first | exact Below.refl _ _ | go_grown) hb
        have zxw4 : w.heap.size < w4.heap.size := by omega
        have x0w4 : w4.cell? ⟨w.heap.size, 0, none⟩ = some (.string id') := (hPw4.cell (p := ⟨_, _, none⟩) zxw3).trans x0w3
        have x1w4 : w4.cell? ⟨w.heap.size, 1, none⟩ = some (.string grade') := (hPw4.cell (p := ⟨_, _, none⟩) zxw3).trans x1w3
        have x2w4 : w4.cell? ⟨w.heap.size, 2, none⟩ = some (.int .i64 thick') := (hPw4.cell (p := ⟨_, _, none⟩) zxw3).trans x2w3
        have x3w4 : w4.cell? ⟨w.heap.size, 3, none⟩ = some (.int .i64 len') := (hPw4.cell (p := ⟨_, _, none⟩) zxw3).trans x3w3
        have x4w4 : w4.cell? ⟨w.heap.size, 4, none⟩ = some (.int .i64 wid') := (hPw4.cell (p := ⟨_, _, none⟩) zxw3).trans x4w3
        have x5w4 : w4.cell? ⟨w.heap.size, 5, none⟩ = some (.string heat') := (hPw4.cell (p := ⟨_, _, none⟩) zxw3).trans x5w3
        have zmw4 : w.heap.size + 1 < w4.heap.size := by omega
        have m0w4 : w4.cell? ⟨w.heap.size + 1, 0, none⟩ = some (.slice oa m.ng ca) := (hPw4.cell (p := ⟨_, _, none⟩) zmw3).trans m0w3
        have m1w4 : w4.cell? ⟨w.heap.size + 1, 1, none⟩ = some (.slice ob m.ns cb) := (hPw4.cell (p := ⟨_, _, none⟩) zmw3).trans m1w3
        have hBw4 : Below w.heap.size w w4 := below_step (w := w) (by first | assumption | go_grown) hb
        clear hb hsw4
        clear hPw4
        clear zxw3 zmw3 x0w3 x1w3 x2w3 x3w3 x4w3 x5w3 m0w3 m1w3
        cases D1 with
        | false =>
          have HZ : Hid (EE = 9) := by show _ = _; rw [← HE.out]; rfl
          go_wp2
          go_returns
          rw [HZ.out]
          exact ⟨rfl, by first | assumption | go_grown⟩
        | true =>
          go_wp2_with fail
          (go_at_call 45; refine (side_any wid' _).mono ?_; rintro e_ w5 ⟨rfl, hb⟩)
          rw [HD2.out]
          have hsw5 := hb.size
          (try simp only [World.size_alloc, World.size_setCell] at hsw5)
          have zww5 : w.heap.size < w5.heap.size := by omega
          have hPw5 : Below w4.heap.size w4 w5 := below_step (w := w4) (by first | exact Below.refl _ _ | go_grown) hb
          have zxw5 : w.heap.size < w5.heap.size := by omega
          have x0w5 : w5.cell? ⟨w.heap.size, 0, none⟩ = some (.string id') := (hPw5.cell (p := ⟨_, _, none⟩) zxw4).trans x0w4
          have x1w5 : w5.cell? ⟨w.heap.size, 1, none⟩ = some (.string grade') := (hPw5.cell (p := ⟨_, _, none⟩) zxw4).trans x1w4
          have x2w5 : w5.cell? ⟨w.heap.size, 2, none⟩ = some (.int .i64 thick') := (hPw5.cell (p := ⟨_, _, none⟩) zxw4).trans x2w4
          have x3w5 : w5.cell? ⟨w.heap.size, 3, none⟩ = some (.int .i64 len') := (hPw5.cell (p := ⟨_, _, none⟩) zxw4).trans x3w4
          have x4w5 : w5.cell? ⟨w.heap.size, 4, none⟩ = some (.int .i64 wid') := (hPw5.cell (p := ⟨_, _, none⟩) zxw4).trans x4w4
          have x5w5 : w5.cell? ⟨w.heap.size, 5, none⟩ = some (.string heat') := (hPw5.cell (p := ⟨_, _, none⟩) zxw4).trans x5w4
          have zmw5 : w.heap.size + 1 < w5.heap.size := by omega
          have m0w5 : w5.cell? ⟨w.heap.size + 1, 0, none⟩ = some (.slice oa m.ng ca) := (hPw5.cell (p := ⟨_, _, none⟩) zmw4).trans m0w4
          have m1w5 : w5.cell? ⟨w.heap.size + 1, 1, none⟩ = some (.slice ob m.ns cb) := (hPw5.cell (p := ⟨_, _, none⟩) zmw4).trans m1w4
          have hBw5 : Below w.heap.size w w5 := below_step (w := w) (by first | assumption | go_grown) hb
          clear hb hsw5
          clear hPw5
          clear zxw4 zmw4 x0w4 x1w4 x2w4 x3w4 x4w4 x5w4 m0w4 m1w4
          cases D2 with
          | false =>
            have HZ : Hid (EE = 9) := by show _ = _; rw [← HE.out]; rfl
            go_wp2
            go_returns
            rw [HZ.out]
            exact ⟨rfl, by first | assumption | go_grown⟩
          | true =>
            have HZ : Hid (EE = 0) := by show _ = _; rw [← HE.out]; rfl
            go_wp2
            go_returns
            rw [HZ.out]
            exact ⟨rfl, by first | assumption | go_grown⟩

set_option maxHeartbeats 4000000 in
theorem rsheet_any (x : Sh) (v : Value) (m : Mat) (gv : Nat → Value) (w : World) (h : MatAt w v m gv) (hi : x.id.size ≤ 2147483648) (hh : x.heat.size ≤ 2147483648) (hml : MaxLenIs w) :
    Calls Tryd.prog 33 #[v, x.val] w fun e w' => e = .returned (.int .i64 (sheetE m x)) ∧ Below w.heap.size w w' := by
  have HM := Lib.hid h
  have HML := Lib.hid hml
  obtain ⟨vg, vs, rfl, hG, hS, -, -, -⟩ := h
  obtain ⟨oa, ca, rfl, -, -⟩ := hG.form
  obtain ⟨ob, cb, rfl, -, -⟩ := hS.form
  clear hG hS hml
  obtain ⟨id', grade', thick', len', wid', heat'⟩ := x
  have H2i : Hid (id'.size ≤ 2147483648) := hi
  have H2h : Hid (heat'.size ≤ 2147483648) := hh
  have H1i : Hid (id'.size ≤ 9223372036854775807) := Nat.le_trans H2i.out (by decide)
  have H1h : Hid (heat'.size ≤ 9223372036854775807) := Nat.le_trans H2h.out (by decide)
  clear hi hh
  obtain ⟨EE, hEE⟩ : ∃ EE, sheetE m (⟨id', grade', thick', len', wid', heat'⟩ : Sh) = EE := ⟨_, rfl⟩
  obtain ⟨A, hA⟩ : ∃ A, idB id' = A := ⟨_, rfl⟩
  have HA := Lib.hid hA
  obtain ⟨B, hB⟩ : ∃ B, idB heat' = B := ⟨_, rfl⟩
  have HB := Lib.hid hB
  obtain ⟨C, hC⟩ : ∃ C, m.rolled grade' thick' = C := ⟨_, rfl⟩
  have HC := Lib.hid hC
  obtain ⟨D1, hD1⟩ : ∃ D, sideB len' = D := ⟨_, rfl⟩
  have HD1 := Lib.hid hD1
  obtain ⟨D2, hD2⟩ : ∃ D, sideB wid' = D := ⟨_, rfl⟩
  have HD2 := Lib.hid hD2
  have HE : Hid ((if (A && B) = false then (6 : Int) else if C = false then 23 else if (D1 && D2) = false then 9 else 0) = EE) := by show _ = _; rw [← hEE, ← hA, ← hB, ← hC, ← hD1, ← hD2]; rfl
  show Calls Tryd.prog 33 #[.agg #[.slice oa m.ng ca, .slice ob m.ns cb], .agg #[.string id', .string grade', .int .i64 thick', .int .i64 len', .int .i64 wid', .string heat']] w fun e w' => e = .returned (.int .i64 (sheetE m (⟨id', grade', thick', len', wid', heat'⟩ : Sh))) ∧ Below w.heap.size w w'
  rw [hEE]
  clear hEE hA hB hC hD1 hD2
  go_enter Tryd.func33, Tryd.ntmps33
  go_wp2_with fail
  (go_at_call 49; refine (rIsId_any id' _ H2i.out).mono ?_; rintro e_ w1 ⟨rfl, hb⟩)
  rw [HA.out]
  have hsw1 := hb.size
  (try simp only [World.size_alloc, World.size_setCell] at hsw1)
  have zww1 : w.heap.size < w1.heap.size := by omega
  have zxw1 : w.heap.size + 1 < w1.heap.size := by omega
  have x0w1 : w1.cell? ⟨w.heap.size + 1, 0, none⟩ = some (.string id') := (hb.cell (p := ⟨_, _, none⟩) (by simp <;> omega)).trans (by simp [go_sem])
  have x1w1 : w1.cell? ⟨w.heap.size + 1, 1, none⟩ = some (.string grade') := (hb.cell (p := ⟨_, _, none⟩) (by simp <;> omega)).trans (by simp [go_sem])
  have x2w1 : w1.cell? ⟨w.heap.size + 1, 2, none⟩ = some (.int .i64 thick') := (hb.cell (p := ⟨_, _, none⟩) (by simp <;> omega)).trans (by simp [go_sem])
  have x3w1 : w1.cell? ⟨w.heap.size + 1, 3, none⟩ = some (.int .i64 len') := (hb.cell (p := ⟨_, _, none⟩) (by simp <;> omega)).trans (by simp [go_sem])
  have x4w1 : w1.cell? ⟨w.heap.size + 1, 4, none⟩ = some (.int .i64 wid') := (hb.cell (p := ⟨_, _, none⟩) (by simp <;> omega)).trans (by simp [go_sem])
  have x5w1 : w1.cell? ⟨w.heap.size + 1, 5, none⟩ = some (.string heat') := (hb.cell (p := ⟨_, _, none⟩) (by simp <;> omega)).trans (by simp [go_sem])
  have zmw1 : w.heap.size < w1.heap.size := by omega
  have m0w1 : w1.cell? ⟨w.heap.size, 0, none⟩ = some (.slice oa m.ng ca) := (hb.cell (p := ⟨_, _, none⟩) (by simp <;> omega)).trans (by simp [go_sem])
  have m1w1 : w1.cell? ⟨w.heap.size, 1, none⟩ = some (.slice ob m.ns cb) := (hb.cell (p := ⟨_, _, none⟩) (by simp <;> omega)).trans (by simp [go_sem])
  have hBw1 : Below w.heap.size w w1 := below_step (w := w) (by first | assumption | go_grown) hb
  clear hb hsw1
  cases A with
  | false =>
    have HZ : Hid (EE = 6) := by show _ = _; rw [← HE.out]; rfl
    go_wp2
    go_returns
    rw [HZ.out]
    exact ⟨rfl, by first | assumption | go_grown⟩
  | true =>
    go_wp2_with fail
    (go_at_call 49; refine (rIsId_any heat' _ H2h.out).mono ?_; rintro e_ w2 ⟨rfl, hb⟩)
    rw [HB.out]
    have hsw2 := hb.size
    (try simp only [World.size_alloc, World.size_setCell] at hsw2)
    have zww2 : w.heap.size < w2.heap.size := by omega
    have hPw2 : Below w1.heap.size w1 w2 := below_step (w := w1) (by first | exact Below.refl _ _ | go_grown) hb
    have zxw2 : w.heap.size + 1 < w2.heap.size := by omega
    have x0w2 : w2.cell? ⟨w.heap.size + 1, 0, none⟩ = some (.string id') := (hPw2.cell (p := ⟨_, _, none⟩) zxw1).trans x0w1
    have x1w2 : w2.cell? ⟨w.heap.size + 1, 1, none⟩ = some (.string grade') := (hPw2.cell (p := ⟨_, _, none⟩) zxw1).trans x1w1
    have x2w2 : w2.cell? ⟨w.heap.size + 1, 2, none⟩ = some (.int .i64 thick') := (hPw2.cell (p := ⟨_, _, none⟩) zxw1).trans x2w1
    have x3w2 : w2.cell? ⟨w.heap.size + 1, 3, none⟩ = some (.int .i64 len') := (hPw2.cell (p := ⟨_, _, none⟩) zxw1).trans x3w1
    have x4w2 : w2.cell? ⟨w.heap.size + 1, 4, none⟩ = some (.int .i64 wid') := (hPw2.cell (p := ⟨_, _, none⟩) zxw1).trans x4w1
    have x5w2 : w2.cell? ⟨w.heap.size + 1, 5, none⟩ = some (.string heat') := (hPw2.cell (p := ⟨_, _, none⟩) zxw1).trans x5w1
    have zmw2 : w.heap.size < w2.heap.size := by omega
    have m0w2 : w2.cell? ⟨w.heap.size, 0, none⟩ = some (.slice oa m.ng ca) := (hPw2.cell (p := ⟨_, _, none⟩) zmw1).trans m0w1
    have m1w2 : w2.cell? ⟨w.heap.size, 1, none⟩ = some (.slice ob m.ns cb) := (hPw2.cell (p := ⟨_, _, none⟩) zmw1).trans m1w1
    have hBw2 : Below w.heap.size w w2 := below_step (w := w) (by first | assumption | go_grown) hb
    clear hb hsw2
    clear hPw2
    clear zxw1 zmw1 x0w1 x1w1 x2w1 x3w1 x4w1 x5w1 m0w1 m1w1
    cases B with
    | false =>
      have HZ : Hid (EE = 6) := by show _ = _; rw [← HE.out]; rfl
      go_wp2
      go_returns
      rw [HZ.out]
      exact ⟨rfl, by first | assumption | go_grown⟩
    | true =>
      go_wp2_with fail
      (go_at_call 50; refine (rrolled_any _ m gv grade' thick' _ (HM.out.below (by first | assumption | go_grown))).mono ?_; rintro e_ w3 ⟨rfl, hb⟩)
      rw [HC.out]
      have hsw3 := hb.size
      (try simp only [World.size_alloc, World.size_setCell] at hsw3)
      have zww3 : w.heap.size < w3.heap.size := by omega
      have hPw3 : Below w2.heap.size w2 w3 := below_step (w := w2) (by first | exact Below.refl _ _ | go_grown) hb
      have zxw3 : w.heap.size + 1 < w3.heap.size := by omega
      have x0w3 : w3.cell? ⟨w.heap.size + 1, 0, none⟩ = some (.string id') := (hPw3.cell (p := ⟨_, _, none⟩) zxw2).trans x0w2
      have x1w3 : w3.cell? ⟨w.heap.size + 1, 1, none⟩ = some (.string grade') := (hPw3.cell (p := ⟨_, _, none⟩) zxw2).trans x1w2
      have x2w3 : w3.cell? ⟨w.heap.size + 1, 2, none⟩ = some (.int .i64 thick') := (hPw3.cell (p := ⟨_, _, none⟩) zxw2).trans x2w2
      have x3w3 : w3.cell? ⟨w.heap.size + 1, 3, none⟩ = some (.int .i64 len') := (hPw3.cell (p := ⟨_, _, none⟩) zxw2).trans x3w2
      have x4w3 : w3.cell? ⟨w.heap.size + 1, 4, none⟩ = some (.int .i64 wid') := (hPw3.cell (p := ⟨_, _, none⟩) zxw2).trans x4w2
      have x5w3 : w3.cell? ⟨w.heap.size + 1, 5, none⟩ = some (.string heat') := (hPw3.cell (p := ⟨_, _, none⟩) zxw2).trans x5w2
      have zmw3 : w.heap.size < w3.heap.size := by omega
      have m0w3 : w3.cell? ⟨w.heap.size, 0, none⟩ = some (.slice oa m.ng ca) := (hPw3.cell (p := ⟨_, _, none⟩) zmw2).trans m0w2
      have m1w3 : w3.cell? ⟨w.heap.size, 1, none⟩ = some (.slice ob m.ns cb) := (hPw3.cell (p := ⟨_, _, none⟩) zmw2).trans m1w2
      have hBw3 : Below w.heap.size w w3 := below_step (w := w) (by first | assumption | go_grown) hb
      clear hb hsw3
      clear hPw3
      clear zxw2 zmw2 x0w2 x1w2 x2w2 x3w2 x4w2 x5w2 m0w2 m1w2
      cases C with
      | false =>
        have HZ : Hid (EE = 23) := by show _ = _; rw [← HE.out]; rfl
        go_wp2
        go_returns
        rw [HZ.out]
        exact ⟨rfl, by first | assumption | go_grown⟩
      | true =>
        go_wp2_with fail
        (go_at_call 51; refine (rin_any len' _).mono ?_; rintro e_ w4 ⟨rfl, hb⟩)
        rw [HD1.out]
        have hsw4 := hb.size
        (try simp only [World.size_alloc, World.size_setCell] at hsw4)
        have zww4 : w.heap.size < w4.heap.size := by omega
        have hPw4 : Below w3.heap.size w3 w4 := below_step (w := w3) (by first | exact Below.refl _ _ | go_grown) hb
        have zxw4 : w.heap.size + 1 < w4.heap.size := by omega
        have x0w4 : w4.cell? ⟨w.heap.size + 1, 0, none⟩ = some (.string id') := (hPw4.cell (p := ⟨_, _, none⟩) zxw3).trans x0w3
        have x1w4 : w4.cell? ⟨w.heap.size + 1, 1, none⟩ = some (.string grade') := (hPw4.cell (p := ⟨_, _, none⟩) zxw3).trans x1w3
        have x2w4 : w4.cell? ⟨w.heap.size + 1, 2, none⟩ = some (.int .i64 thick') := (hPw4.cell (p := ⟨_, _, none⟩) zxw3).trans x2w3
        have x3w4 : w4.cell? ⟨w.heap.size + 1, 3, none⟩ = some (.int .i64 len') := (hPw4.cell (p := ⟨_, _, none⟩) zxw3).trans x3w3
        have x4w4 : w4.cell? ⟨w.heap.size + 1, 4, none⟩ = some (.int .i64 wid') := (hPw4.cell (p := ⟨_, _, none⟩) zxw3).trans x4w3
        have x5w4 : w4.cell? ⟨w.heap.size + 1, 5, none⟩ = some (.string heat') := (hPw4.cell (p := ⟨_, _, none⟩) zxw3).trans x5w3
        have zmw4 : w.heap.size < w4.heap.size := by omega
        have m0w4 : w4.cell? ⟨w.heap.size, 0, none⟩ = some (.slice oa m.ng ca) := (hPw4.cell (p := ⟨_, _, none⟩) zmw3).trans m0w3
        have m1w4 : w4.cell? ⟨w.heap.size, 1, none⟩ = some (.slice ob m.ns cb) := (hPw4.cell (p := ⟨_, _, none⟩) zmw3).trans m1w3
        have hBw4 : Below w.heap.size w w4 := below_step (w := w) (by first | assumption | go_grown) hb
        clear hb hsw4
        clear hPw4
        clear zxw3 zmw3 x0w3 x1w3 x2w3 x3w3 x4w3 x5w3 m0w3 m1w3
        cases D1 with
        | false =>
          have HZ : Hid (EE = 9) := by show _ = _; rw [← HE.out]; rfl
          go_wp2
          go_returns
          rw [HZ.out]
          exact ⟨rfl, by first | assumption | go_grown⟩
        | true =>
          go_wp2_with fail
          (go_at_call 51; refine (rin_any wid' _).mono ?_; rintro e_ w5 ⟨rfl, hb⟩)
          rw [HD2.out]
          have hsw5 := hb.size
          (try simp only [World.size_alloc, World.size_setCell] at hsw5)
          have zww5 : w.heap.size < w5.heap.size := by omega
          have hPw5 : Below w4.heap.size w4 w5 := below_step (w := w4) (by first | exact Below.refl _ _ | go_grown) hb
          have zxw5 : w.heap.size + 1 < w5.heap.size := by omega
          have x0w5 : w5.cell? ⟨w.heap.size + 1, 0, none⟩ = some (.string id') := (hPw5.cell (p := ⟨_, _, none⟩) zxw4).trans x0w4
          have x1w5 : w5.cell? ⟨w.heap.size + 1, 1, none⟩ = some (.string grade') := (hPw5.cell (p := ⟨_, _, none⟩) zxw4).trans x1w4
          have x2w5 : w5.cell? ⟨w.heap.size + 1, 2, none⟩ = some (.int .i64 thick') := (hPw5.cell (p := ⟨_, _, none⟩) zxw4).trans x2w4
          have x3w5 : w5.cell? ⟨w.heap.size + 1, 3, none⟩ = some (.int .i64 len') := (hPw5.cell (p := ⟨_, _, none⟩) zxw4).trans x3w4
          have x4w5 : w5.cell? ⟨w.heap.size + 1, 4, none⟩ = some (.int .i64 wid') := (hPw5.cell (p := ⟨_, _, none⟩) zxw4).trans x4w4
          have x5w5 : w5.cell? ⟨w.heap.size + 1, 5, none⟩ = some (.string heat') := (hPw5.cell (p := ⟨_, _, none⟩) zxw4).trans x5w4
          have zmw5 : w.heap.size < w5.heap.size := by omega
          have m0w5 : w5.cell? ⟨w.heap.size, 0, none⟩ = some (.slice oa m.ng ca) := (hPw5.cell (p := ⟨_, _, none⟩) zmw4).trans m0w4
          have m1w5 : w5.cell? ⟨w.heap.size, 1, none⟩ = some (.slice ob m.ns cb) := (hPw5.cell (p := ⟨_, _, none⟩) zmw4).trans m1w4
          have hBw5 : Below w.heap.size w w5 := below_step (w := w) (by first | assumption | go_grown) hb
          clear hb hsw5
          clear hPw5
          clear zxw4 zmw4 x0w4 x1w4 x2w4 x3w4 x4w4 x5w4 m0w4 m1w4
          cases D2 with
          | false =>
            have HZ : Hid (EE = 9) := by show _ = _; rw [← HE.out]; rfl
            go_wp2
            go_returns
            rw [HZ.out]
            exact ⟨rfl, by first | assumption | go_grown⟩
          | true =>
            have HZ : Hid (EE = 0) := by show _ = _; rw [← HE.out]; rfl
            go_wp2
            go_returns
            rw [HZ.out]
            exact ⟨rfl, by first | assumption | go_grown⟩

set_option maxHeartbeats 4000000 in
theorem bar_any (x : Br) (v : Value) (m : Mat) (gv : Nat → Value) (w : World) (h : MatAt w v m gv) (hi : x.id.size ≤ 2147483648) (hh : x.heat.size ≤ 2147483648) (hml : MaxLenIs w) :
    Calls Tryd.prog 32 #[x.val, v] w fun e w' => e = .returned (.int .i64 (barE m x)) ∧ Below w.heap.size w w' := by
  have HM := Lib.hid h
  have HML := Lib.hid hml
  obtain ⟨vg, vs, rfl, hG, hS, -, -, -⟩ := h
  obtain ⟨oa, ca, rfl, -, -⟩ := hG.form
  obtain ⟨ob, cb, rfl, -, -⟩ := hS.form
  clear hG hS hml
  obtain ⟨id', sect', grade', len', heat'⟩ := x
  have H2i : Hid (id'.size ≤ 2147483648) := hi
  have H2h : Hid (heat'.size ≤ 2147483648) := hh
  have H1i : Hid (id'.size ≤ 9223372036854775807) := Nat.le_trans H2i.out (by decide)
  have H1h : Hid (heat'.size ≤ 9223372036854775807) := Nat.le_trans H2h.out (by decide)
  clear hi hh
  obtain ⟨EE, hEE⟩ : ∃ EE, barE m (⟨id', sect', grade', len', heat'⟩ : Br) = EE := ⟨_, rfl⟩
  obtain ⟨A, hA⟩ : ∃ A, idB id' = A := ⟨_, rfl⟩
  have HA := Lib.hid hA
  obtain ⟨B, hB⟩ : ∃ B, idB heat' = B := ⟨_, rfl⟩
  have HB := Lib.hid hB
  obtain ⟨C1, hC1⟩ : ∃ C, m.hasS sect' = C := ⟨_, rfl⟩
  have HC1 := Lib.hid hC1
  obtain ⟨C2, hC2⟩ : ∃ C, m.hasG grade' = C := ⟨_, rfl⟩
  have HC2 := Lib.hid hC2
  obtain ⟨D1, hD1⟩ : ∃ D, sideB len' = D := ⟨_, rfl⟩
  have HD1 := Lib.hid hD1
  have HE : Hid ((if (A && B) = false then (6 : Int) else if (C1 && C2) = false then 23 else if D1 = false then 9 else 0) = EE) := by show _ = _; rw [← hEE, ← hA, ← hB, ← hC1, ← hC2, ← hD1]; rfl
  show Calls Tryd.prog 32 #[.agg #[.string id', .string sect', .string grade', .int .i64 len', .string heat'], .agg #[.slice oa m.ng ca, .slice ob m.ns cb]] w fun e w' => e = .returned (.int .i64 (barE m (⟨id', sect', grade', len', heat'⟩ : Br))) ∧ Below w.heap.size w w'
  rw [hEE]
  clear hEE hA hB hC1 hC2 hD1
  go_enter Tryd.func32, Tryd.ntmps32
  go_wp2_with fail
  (go_at_call 47; refine (section_any _ m gv sect' _ (HM.out.below (by first | assumption | go_grown))).mono ?_; rintro e_ w1 ⟨s1, a1, h1, k1, rfl, hb⟩)
  rw [HC1.out]
  have hsw1 := hb.size
  (try simp only [World.size_alloc, World.size_setCell] at hsw1)
  have zww1 : w.heap.size < w1.heap.size := by omega
  have zxw1 : w.heap.size < w1.heap.size := by omega
  have x0w1 : w1.cell? ⟨w.heap.size, 0, none⟩ = some (.string id') := (hb.cell (p := ⟨_, _, none⟩) (by simp <;> omega)).trans (by simp [go_sem])
  have x1w1 : w1.cell? ⟨w.heap.size, 1, none⟩ = some (.string sect') := (hb.cell (p := ⟨_, _, none⟩) (by simp <;> omega)).trans (by simp [go_sem])
  have x2w1 : w1.cell? ⟨w.heap.size, 2, none⟩ = some (.string grade') := (hb.cell (p := ⟨_, _, none⟩) (by simp <;> omega)).trans (by simp [go_sem])
  have x3w1 : w1.cell? ⟨w.heap.size, 3, none⟩ = some (.int .i64 len') := (hb.cell (p := ⟨_, _, none⟩) (by simp <;> omega)).trans (by simp [go_sem])
  have x4w1 : w1.cell? ⟨w.heap.size, 4, none⟩ = some (.string heat') := (hb.cell (p := ⟨_, _, none⟩) (by simp <;> omega)).trans (by simp [go_sem])
  have zmw1 : w.heap.size + 1 < w1.heap.size := by omega
  have m0w1 : w1.cell? ⟨w.heap.size + 1, 0, none⟩ = some (.slice oa m.ng ca) := (hb.cell (p := ⟨_, _, none⟩) (by simp <;> omega)).trans (by simp [go_sem])
  have m1w1 : w1.cell? ⟨w.heap.size + 1, 1, none⟩ = some (.slice ob m.ns cb) := (hb.cell (p := ⟨_, _, none⟩) (by simp <;> omega)).trans (by simp [go_sem])
  have hBw1 : Below w.heap.size w w1 := below_step (w := w) (by first | assumption | go_grown) hb
  clear hb hsw1
  go_wp2_with fail
  (go_at_call 48; refine (grade_any _ m gv grade' _ (HM.out.below (by first | assumption | go_grown))).mono ?_; rintro e_ w2 ⟨s2, d2, y2, gv2, rfl, hI2, hb⟩)
  rw [HC2.out]
  have hsw2 := hb.size
  (try simp only [World.size_alloc, World.size_setCell] at hsw2)
  have zww2 : w.heap.size < w2.heap.size := by omega
  have hPw2 : Below w1.heap.size w1 w2 := below_step (w := w1) (by first | exact Below.refl _ _ | go_grown) hb
  have zxw2 : w.heap.size < w2.heap.size := by omega
  have x0w2 : w2.cell? ⟨w.heap.size, 0, none⟩ = some (.string id') := (hPw2.cell (p := ⟨_, _, none⟩) zxw1).trans x0w1
  have x1w2 : w2.cell? ⟨w.heap.size, 1, none⟩ = some (.string sect') := (hPw2.cell (p := ⟨_, _, none⟩) zxw1).trans x1w1
  have x2w2 : w2.cell? ⟨w.heap.size, 2, none⟩ = some (.string grade') := (hPw2.cell (p := ⟨_, _, none⟩) zxw1).trans x2w1
  have x3w2 : w2.cell? ⟨w.heap.size, 3, none⟩ = some (.int .i64 len') := (hPw2.cell (p := ⟨_, _, none⟩) zxw1).trans x3w1
  have x4w2 : w2.cell? ⟨w.heap.size, 4, none⟩ = some (.string heat') := (hPw2.cell (p := ⟨_, _, none⟩) zxw1).trans x4w1
  have zmw2 : w.heap.size + 1 < w2.heap.size := by omega
  have m0w2 : w2.cell? ⟨w.heap.size + 1, 0, none⟩ = some (.slice oa m.ng ca) := (hPw2.cell (p := ⟨_, _, none⟩) zmw1).trans m0w1
  have m1w2 : w2.cell? ⟨w.heap.size + 1, 1, none⟩ = some (.slice ob m.ns cb) := (hPw2.cell (p := ⟨_, _, none⟩) zmw1).trans m1w1
  have hBw2 : Below w.heap.size w w2 := below_step (w := w) (by first | assumption | go_grown) hb
  clear hb hsw2
  clear hPw2
  clear zxw1 zmw1 x0w1 x1w1 x2w1 x3w1 x4w1 m0w1 m1w1
  obtain ⟨o2, c2, rfl, -, -⟩ := hI2.form
  clear hI2
  go_wp2_with fail
  (go_at_call 43; refine (isId_any id' _ H1i.out (HML.out.below (by first | assumption | go_grown))).mono ?_; rintro e_ w3 ⟨rfl, hb⟩)
  rw [HA.out]
  have hsw3 := hb.size
  (try simp only [World.size_alloc, World.size_setCell] at hsw3)
  have zww3 : w.heap.size < w3.heap.size := by omega
  have hPw3 : Below w2.heap.size w2 w3 := below_step (w := w2) (by first | exact Below.refl _ _ | go_grown) hb
  have zxw3 : w.heap.size < w3.heap.size := by omega
  have x0w3 : w3.cell? ⟨w.heap.size, 0, none⟩ = some (.string id') := (hPw3.cell (p := ⟨_, _, none⟩) zxw2).trans x0w2
  have x1w3 : w3.cell? ⟨w.heap.size, 1, none⟩ = some (.string sect') := (hPw3.cell (p := ⟨_, _, none⟩) zxw2).trans x1w2
  have x2w3 : w3.cell? ⟨w.heap.size, 2, none⟩ = some (.string grade') := (hPw3.cell (p := ⟨_, _, none⟩) zxw2).trans x2w2
  have x3w3 : w3.cell? ⟨w.heap.size, 3, none⟩ = some (.int .i64 len') := (hPw3.cell (p := ⟨_, _, none⟩) zxw2).trans x3w2
  have x4w3 : w3.cell? ⟨w.heap.size, 4, none⟩ = some (.string heat') := (hPw3.cell (p := ⟨_, _, none⟩) zxw2).trans x4w2
  have zmw3 : w.heap.size + 1 < w3.heap.size := by omega
  have m0w3 : w3.cell? ⟨w.heap.size + 1, 0, none⟩ = some (.slice oa m.ng ca) := (hPw3.cell (p := ⟨_, _, none⟩) zmw2).trans m0w2
  have m1w3 : w3.cell? ⟨w.heap.size + 1, 1, none⟩ = some (.slice ob m.ns cb) := (hPw3.cell (p := ⟨_, _, none⟩) zmw2).trans m1w2
  have hBw3 : Below w.heap.size w w3 := below_step (w := w) (by first | assumption | go_grown) hb
  clear hb hsw3
  clear hPw3
  clear zxw2 zmw2 x0w2 x1w2 x2w2 x3w2 x4w2 m0w2 m1w2
  cases A with
  | false =>
    have HZ : Hid (EE = 6) := by show _ = _; rw [← HE.out]; rfl
    go_wp2
    go_returns
    rw [HZ.out]
    exact ⟨rfl, by first | assumption | go_grown⟩
  | true =>
    go_wp2_with fail
    (go_at_call 43; refine (isId_any heat' _ H1h.out (HML.out.below (by first | assumption | go_grown))).mono ?_; rintro e_ w4 ⟨rfl, hb⟩)
    rw [HB.out]
    have hsw4 := hb.size
    (try simp only [World.size_alloc, World.size_setCell] at hsw4)
    have zww4 : w.heap.size < w4.heap.size := by omega
    have hPw4 : Below w3.heap.size w3 w4 := below_step (w := w3) (by first | exact Below.refl _ _ | go_grown) hb
    have zxw4 : w.heap.size < w4.heap.size := by omega
    have x0w4 : w4.cell? ⟨w.heap.size, 0, none⟩ = some (.string id') := (hPw4.cell (p := ⟨_, _, none⟩) zxw3).trans x0w3
    have x1w4 : w4.cell? ⟨w.heap.size, 1, none⟩ = some (.string sect') := (hPw4.cell (p := ⟨_, _, none⟩) zxw3).trans x1w3
    have x2w4 : w4.cell? ⟨w.heap.size, 2, none⟩ = some (.string grade') := (hPw4.cell (p := ⟨_, _, none⟩) zxw3).trans x2w3
    have x3w4 : w4.cell? ⟨w.heap.size, 3, none⟩ = some (.int .i64 len') := (hPw4.cell (p := ⟨_, _, none⟩) zxw3).trans x3w3
    have x4w4 : w4.cell? ⟨w.heap.size, 4, none⟩ = some (.string heat') := (hPw4.cell (p := ⟨_, _, none⟩) zxw3).trans x4w3
    have zmw4 : w.heap.size + 1 < w4.heap.size := by omega
    have m0w4 : w4.cell? ⟨w.heap.size + 1, 0, none⟩ = some (.slice oa m.ng ca) := (hPw4.cell (p := ⟨_, _, none⟩) zmw3).trans m0w3
    have m1w4 : w4.cell? ⟨w.heap.size + 1, 1, none⟩ = some (.slice ob m.ns cb) := (hPw4.cell (p := ⟨_, _, none⟩) zmw3).trans m1w3
    have hBw4 : Below w.heap.size w w4 := below_step (w := w) (by first | assumption | go_grown) hb
    clear hb hsw4
    clear hPw4
    clear zxw3 zmw3 x0w3 x1w3 x2w3 x3w3 x4w3 m0w3 m1w3
    cases B with
    | false =>
      have HZ : Hid (EE = 6) := by show _ = _; rw [← HE.out]; rfl
      go_wp2
      go_returns
      rw [HZ.out]
      exact ⟨rfl, by first | assumption | go_grown⟩
    | true =>
      cases C1 with
      | false =>
        have HZ : Hid (EE = 23) := by show _ = _; rw [← HE.out]; rfl
        go_wp2
        go_returns
        rw [HZ.out]
        exact ⟨rfl, by first | assumption | go_grown⟩
      | true =>
        cases C2 with
        | false =>
          have HZ : Hid (EE = 23) := by show _ = _; rw [← HE.out]; rfl
          go_wp2
          go_returns
          rw [HZ.out]
          exact ⟨rfl, by first | assumption | go_grown⟩
        | true =>
          go_wp2_with fail
          (go_at_call 45; refine (side_any len' _).mono ?_; rintro e_ w5 ⟨rfl, hb⟩)
          rw [HD1.out]
          have hsw5 := hb.size
          (try simp only [World.size_alloc, World.size_setCell] at hsw5)
          have zww5 : w.heap.size < w5.heap.size := by omega
          have hPw5 : Below w4.heap.size w4 w5 := below_step (w := w4) (by first | exact Below.refl _ _ | go_grown) hb
          have zxw5 : w.heap.size < w5.heap.size := by omega
          have x0w5 : w5.cell? ⟨w.heap.size, 0, none⟩ = some (.string id') := (hPw5.cell (p := ⟨_, _, none⟩) zxw4).trans x0w4
          have x1w5 : w5.cell? ⟨w.heap.size, 1, none⟩ = some (.string sect') := (hPw5.cell (p := ⟨_, _, none⟩) zxw4).trans x1w4
          have x2w5 : w5.cell? ⟨w.heap.size, 2, none⟩ = some (.string grade') := (hPw5.cell (p := ⟨_, _, none⟩) zxw4).trans x2w4
          have x3w5 : w5.cell? ⟨w.heap.size, 3, none⟩ = some (.int .i64 len') := (hPw5.cell (p := ⟨_, _, none⟩) zxw4).trans x3w4
          have x4w5 : w5.cell? ⟨w.heap.size, 4, none⟩ = some (.string heat') := (hPw5.cell (p := ⟨_, _, none⟩) zxw4).trans x4w4
          have zmw5 : w.heap.size + 1 < w5.heap.size := by omega
          have m0w5 : w5.cell? ⟨w.heap.size + 1, 0, none⟩ = some (.slice oa m.ng ca) := (hPw5.cell (p := ⟨_, _, none⟩) zmw4).trans m0w4
          have m1w5 : w5.cell? ⟨w.heap.size + 1, 1, none⟩ = some (.slice ob m.ns cb) := (hPw5.cell (p := ⟨_, _, none⟩) zmw4).trans m1w4
          have hBw5 : Below w.heap.size w w5 := below_step (w := w) (by first | assumption | go_grown) hb
          clear hb hsw5
          clear hPw5
          clear zxw4 zmw4 x0w4 x1w4 x2w4 x3w4 x4w4 m0w4 m1w4
          cases D1 with
          | false =>
            have HZ : Hid (EE = 9) := by show _ = _; rw [← HE.out]; rfl
            go_wp2
            go_returns
            rw [HZ.out]
            exact ⟨rfl, by first | assumption | go_grown⟩
          | true =>
            have HZ : Hid (EE = 0) := by show _ = _; rw [← HE.out]; rfl
            go_wp2
            go_returns
            rw [HZ.out]
            exact ⟨rfl, by first | assumption | go_grown⟩

set_option maxHeartbeats 4000000 in
theorem rbar_any (x : Br) (v : Value) (m : Mat) (gv : Nat → Value) (w : World) (h : MatAt w v m gv) (hi : x.id.size ≤ 2147483648) (hh : x.heat.size ≤ 2147483648) (hml : MaxLenIs w) :
    Calls Tryd.prog 34 #[v, x.val] w fun e w' => e = .returned (.int .i64 (barE m x)) ∧ Below w.heap.size w w' := by
  have HM := Lib.hid h
  have HML := Lib.hid hml
  obtain ⟨vg, vs, rfl, hG, hS, -, -, -⟩ := h
  obtain ⟨oa, ca, rfl, -, -⟩ := hG.form
  obtain ⟨ob, cb, rfl, -, -⟩ := hS.form
  clear hG hS hml
  obtain ⟨id', sect', grade', len', heat'⟩ := x
  have H2i : Hid (id'.size ≤ 2147483648) := hi
  have H2h : Hid (heat'.size ≤ 2147483648) := hh
  have H1i : Hid (id'.size ≤ 9223372036854775807) := Nat.le_trans H2i.out (by decide)
  have H1h : Hid (heat'.size ≤ 9223372036854775807) := Nat.le_trans H2h.out (by decide)
  clear hi hh
  obtain ⟨EE, hEE⟩ : ∃ EE, barE m (⟨id', sect', grade', len', heat'⟩ : Br) = EE := ⟨_, rfl⟩
  obtain ⟨A, hA⟩ : ∃ A, idB id' = A := ⟨_, rfl⟩
  have HA := Lib.hid hA
  obtain ⟨B, hB⟩ : ∃ B, idB heat' = B := ⟨_, rfl⟩
  have HB := Lib.hid hB
  obtain ⟨C1, hC1⟩ : ∃ C, m.hasS sect' = C := ⟨_, rfl⟩
  have HC1 := Lib.hid hC1
  obtain ⟨C2, hC2⟩ : ∃ C, m.hasG grade' = C := ⟨_, rfl⟩
  have HC2 := Lib.hid hC2
  obtain ⟨D1, hD1⟩ : ∃ D, sideB len' = D := ⟨_, rfl⟩
  have HD1 := Lib.hid hD1
  have HE : Hid ((if (A && B) = false then (6 : Int) else if (C1 && C2) = false then 23 else if D1 = false then 9 else 0) = EE) := by show _ = _; rw [← hEE, ← hA, ← hB, ← hC1, ← hC2, ← hD1]; rfl
  show Calls Tryd.prog 34 #[.agg #[.slice oa m.ng ca, .slice ob m.ns cb], .agg #[.string id', .string sect', .string grade', .int .i64 len', .string heat']] w fun e w' => e = .returned (.int .i64 (barE m (⟨id', sect', grade', len', heat'⟩ : Br))) ∧ Below w.heap.size w w'
  rw [hEE]
  clear hEE hA hB hC1 hC2 hD1
  go_enter Tryd.func34, Tryd.ntmps34
  go_wp2_with fail
  (go_at_call 52; refine (rsection_any _ m gv sect' _ (HM.out.below (by first | assumption | go_grown))).mono ?_; rintro e_ w1 ⟨s1, a1, h1, k1, rfl, hb⟩)
  rw [HC1.out]
  have hsw1 := hb.size
  (try simp only [World.size_alloc, World.size_setCell] at hsw1)
  have zww1 : w.heap.size < w1.heap.size := by omega
  have zxw1 : w.heap.size + 1 < w1.heap.size := by omega
  have x0w1 : w1.cell? ⟨w.heap.size + 1, 0, none⟩ = some (.string id') := (hb.cell (p := ⟨_, _, none⟩) (by simp <;> omega)).trans (by simp [go_sem])
  have x1w1 : w1.cell? ⟨w.heap.size + 1, 1, none⟩ = some (.string sect') := (hb.cell (p := ⟨_, _, none⟩) (by simp <;> omega)).trans (by simp [go_sem])
  have x2w1 : w1.cell? ⟨w.heap.size + 1, 2, none⟩ = some (.string grade') := (hb.cell (p := ⟨_, _, none⟩) (by simp <;> omega)).trans (by simp [go_sem])
  have x3w1 : w1.cell? ⟨w.heap.size + 1, 3, none⟩ = some (.int .i64 len') := (hb.cell (p := ⟨_, _, none⟩) (by simp <;> omega)).trans (by simp [go_sem])
  have x4w1 : w1.cell? ⟨w.heap.size + 1, 4, none⟩ = some (.string heat') := (hb.cell (p := ⟨_, _, none⟩) (by simp <;> omega)).trans (by simp [go_sem])
  have zmw1 : w.heap.size < w1.heap.size := by omega
  have m0w1 : w1.cell? ⟨w.heap.size, 0, none⟩ = some (.slice oa m.ng ca) := (hb.cell (p := ⟨_, _, none⟩) (by simp <;> omega)).trans (by simp [go_sem])
  have m1w1 : w1.cell? ⟨w.heap.size, 1, none⟩ = some (.slice ob m.ns cb) := (hb.cell (p := ⟨_, _, none⟩) (by simp <;> omega)).trans (by simp [go_sem])
  have hBw1 : Below w.heap.size w w1 := below_step (w := w) (by first | assumption | go_grown) hb
  clear hb hsw1
  go_wp2_with fail
  (go_at_call 53; refine (rgrade_any _ m gv grade' _ (HM.out.below (by first | assumption | go_grown))).mono ?_; rintro e_ w2 ⟨s2, d2, y2, gv2, rfl, hI2, hb⟩)
  rw [HC2.out]
  have hsw2 := hb.size
  (try simp only [World.size_alloc, World.size_setCell] at hsw2)
  have zww2 : w.heap.size < w2.heap.size := by omega
  have hPw2 : Below w1.heap.size w1 w2 := below_step (w := w1) (by first | exact Below.refl _ _ | go_grown) hb
  have zxw2 : w.heap.size + 1 < w2.heap.size := by omega
  have x0w2 : w2.cell? ⟨w.heap.size + 1, 0, none⟩ = some (.string id') := (hPw2.cell (p := ⟨_, _, none⟩) zxw1).trans x0w1
  have x1w2 : w2.cell? ⟨w.heap.size + 1, 1, none⟩ = some (.string sect') := (hPw2.cell (p := ⟨_, _, none⟩) zxw1).trans x1w1
  have x2w2 : w2.cell? ⟨w.heap.size + 1, 2, none⟩ = some (.string grade') := (hPw2.cell (p := ⟨_, _, none⟩) zxw1).trans x2w1
  have x3w2 : w2.cell? ⟨w.heap.size + 1, 3, none⟩ = some (.int .i64 len') := (hPw2.cell (p := ⟨_, _, none⟩) zxw1).trans x3w1
  have x4w2 : w2.cell? ⟨w.heap.size + 1, 4, none⟩ = some (.string heat') := (hPw2.cell (p := ⟨_, _, none⟩) zxw1).trans x4w1
  have zmw2 : w.heap.size < w2.heap.size := by omega
  have m0w2 : w2.cell? ⟨w.heap.size, 0, none⟩ = some (.slice oa m.ng ca) := (hPw2.cell (p := ⟨_, _, none⟩) zmw1).trans m0w1
  have m1w2 : w2.cell? ⟨w.heap.size, 1, none⟩ = some (.slice ob m.ns cb) := (hPw2.cell (p := ⟨_, _, none⟩) zmw1).trans m1w1
  have hBw2 : Below w.heap.size w w2 := below_step (w := w) (by first | assumption | go_grown) hb
  clear hb hsw2
  clear hPw2
  clear zxw1 zmw1 x0w1 x1w1 x2w1 x3w1 x4w1 m0w1 m1w1
  obtain ⟨o2, c2, rfl, -, -⟩ := hI2.form
  clear hI2
  go_wp2_with fail
  (go_at_call 49; refine (rIsId_any id' _ H2i.out).mono ?_; rintro e_ w3 ⟨rfl, hb⟩)
  rw [HA.out]
  have hsw3 := hb.size
  (try simp only [World.size_alloc, World.size_setCell] at hsw3)
  have zww3 : w.heap.size < w3.heap.size := by omega
  have hPw3 : Below w2.heap.size w2 w3 := below_step (w := w2) (by first | exact Below.refl _ _ | go_grown) hb
  have zxw3 : w.heap.size + 1 < w3.heap.size := by omega
  have x0w3 : w3.cell? ⟨w.heap.size + 1, 0, none⟩ = some (.string id') := (hPw3.cell (p := ⟨_, _, none⟩) zxw2).trans x0w2
  have x1w3 : w3.cell? ⟨w.heap.size + 1, 1, none⟩ = some (.string sect') := (hPw3.cell (p := ⟨_, _, none⟩) zxw2).trans x1w2
  have x2w3 : w3.cell? ⟨w.heap.size + 1, 2, none⟩ = some (.string grade') := (hPw3.cell (p := ⟨_, _, none⟩) zxw2).trans x2w2
  have x3w3 : w3.cell? ⟨w.heap.size + 1, 3, none⟩ = some (.int .i64 len') := (hPw3.cell (p := ⟨_, _, none⟩) zxw2).trans x3w2
  have x4w3 : w3.cell? ⟨w.heap.size + 1, 4, none⟩ = some (.string heat') := (hPw3.cell (p := ⟨_, _, none⟩) zxw2).trans x4w2
  have zmw3 : w.heap.size < w3.heap.size := by omega
  have m0w3 : w3.cell? ⟨w.heap.size, 0, none⟩ = some (.slice oa m.ng ca) := (hPw3.cell (p := ⟨_, _, none⟩) zmw2).trans m0w2
  have m1w3 : w3.cell? ⟨w.heap.size, 1, none⟩ = some (.slice ob m.ns cb) := (hPw3.cell (p := ⟨_, _, none⟩) zmw2).trans m1w2
  have hBw3 : Below w.heap.size w w3 := below_step (w := w) (by first | assumption | go_grown) hb
  clear hb hsw3
  clear hPw3
  clear zxw2 zmw2 x0w2 x1w2 x2w2 x3w2 x4w2 m0w2 m1w2
  cases A with
  | false =>
    have HZ : Hid (EE = 6) := by show _ = _; rw [← HE.out]; rfl
    go_wp2
    go_returns
    rw [HZ.out]
    exact ⟨rfl, by first | assumption | go_grown⟩
  | true =>
    go_wp2_with fail
    (go_at_call 49; refine (rIsId_any heat' _ H2h.out).mono ?_; rintro e_ w4 ⟨rfl, hb⟩)
    rw [HB.out]
    have hsw4 := hb.size
    (try simp only [World.size_alloc, World.size_setCell] at hsw4)
    have zww4 : w.heap.size < w4.heap.size := by omega
    have hPw4 : Below w3.heap.size w3 w4 := below_step (w := w3) (by first | exact Below.refl _ _ | go_grown) hb
    have zxw4 : w.heap.size + 1 < w4.heap.size := by omega
    have x0w4 : w4.cell? ⟨w.heap.size + 1, 0, none⟩ = some (.string id') := (hPw4.cell (p := ⟨_, _, none⟩) zxw3).trans x0w3
    have x1w4 : w4.cell? ⟨w.heap.size + 1, 1, none⟩ = some (.string sect') := (hPw4.cell (p := ⟨_, _, none⟩) zxw3).trans x1w3
    have x2w4 : w4.cell? ⟨w.heap.size + 1, 2, none⟩ = some (.string grade') := (hPw4.cell (p := ⟨_, _, none⟩) zxw3).trans x2w3
    have x3w4 : w4.cell? ⟨w.heap.size + 1, 3, none⟩ = some (.int .i64 len') := (hPw4.cell (p := ⟨_, _, none⟩) zxw3).trans x3w3
    have x4w4 : w4.cell? ⟨w.heap.size + 1, 4, none⟩ = some (.string heat') := (hPw4.cell (p := ⟨_, _, none⟩) zxw3).trans x4w3
    have zmw4 : w.heap.size < w4.heap.size := by omega
    have m0w4 : w4.cell? ⟨w.heap.size, 0, none⟩ = some (.slice oa m.ng ca) := (hPw4.cell (p := ⟨_, _, none⟩) zmw3).trans m0w3
    have m1w4 : w4.cell? ⟨w.heap.size, 1, none⟩ = some (.slice ob m.ns cb) := (hPw4.cell (p := ⟨_, _, none⟩) zmw3).trans m1w3
    have hBw4 : Below w.heap.size w w4 := below_step (w := w) (by first | assumption | go_grown) hb
    clear hb hsw4
    clear hPw4
    clear zxw3 zmw3 x0w3 x1w3 x2w3 x3w3 x4w3 m0w3 m1w3
    cases B with
    | false =>
      have HZ : Hid (EE = 6) := by show _ = _; rw [← HE.out]; rfl
      go_wp2
      go_returns
      rw [HZ.out]
      exact ⟨rfl, by first | assumption | go_grown⟩
    | true =>
      cases C1 with
      | false =>
        have HZ : Hid (EE = 23) := by show _ = _; rw [← HE.out]; rfl
        go_wp2
        go_returns
        rw [HZ.out]
        exact ⟨rfl, by first | assumption | go_grown⟩
      | true =>
        cases C2 with
        | false =>
          have HZ : Hid (EE = 23) := by show _ = _; rw [← HE.out]; rfl
          go_wp2
          go_returns
          rw [HZ.out]
          exact ⟨rfl, by first | assumption | go_grown⟩
        | true =>
          go_wp2_with fail
          (go_at_call 51; refine (rin_any len' _).mono ?_; rintro e_ w5 ⟨rfl, hb⟩)
          rw [HD1.out]
          have hsw5 := hb.size
          (try simp only [World.size_alloc, World.size_setCell] at hsw5)
          have zww5 : w.heap.size < w5.heap.size := by omega
          have hPw5 : Below w4.heap.size w4 w5 := below_step (w := w4) (by first | exact Below.refl _ _ | go_grown) hb
          have zxw5 : w.heap.size + 1 < w5.heap.size := by omega
          have x0w5 : w5.cell? ⟨w.heap.size + 1, 0, none⟩ = some (.string id') := (hPw5.cell (p := ⟨_, _, none⟩) zxw4).trans x0w4
          have x1w5 : w5.cell? ⟨w.heap.size + 1, 1, none⟩ = some (.string sect') := (hPw5.cell (p := ⟨_, _, none⟩) zxw4).trans x1w4
          have x2w5 : w5.cell? ⟨w.heap.size + 1, 2, none⟩ = some (.string grade') := (hPw5.cell (p := ⟨_, _, none⟩) zxw4).trans x2w4
          have x3w5 : w5.cell? ⟨w.heap.size + 1, 3, none⟩ = some (.int .i64 len') := (hPw5.cell (p := ⟨_, _, none⟩) zxw4).trans x3w4
          have x4w5 : w5.cell? ⟨w.heap.size + 1, 4, none⟩ = some (.string heat') := (hPw5.cell (p := ⟨_, _, none⟩) zxw4).trans x4w4
          have zmw5 : w.heap.size < w5.heap.size := by omega
          have m0w5 : w5.cell? ⟨w.heap.size, 0, none⟩ = some (.slice oa m.ng ca) := (hPw5.cell (p := ⟨_, _, none⟩) zmw4).trans m0w4
          have m1w5 : w5.cell? ⟨w.heap.size, 1, none⟩ = some (.slice ob m.ns cb) := (hPw5.cell (p := ⟨_, _, none⟩) zmw4).trans m1w4
          have hBw5 : Below w.heap.size w w5 := below_step (w := w) (by first | assumption | go_grown) hb
          clear hb hsw5
          clear hPw5
          clear zxw4 zmw4 x0w4 x1w4 x2w4 x3w4 x4w4 m0w4 m1w4
          cases D1 with
          | false =>
            have HZ : Hid (EE = 9) := by show _ = _; rw [← HE.out]; rfl
            go_wp2
            go_returns
            rw [HZ.out]
            exact ⟨rfl, by first | assumption | go_grown⟩
          | true =>
            have HZ : Hid (EE = 0) := by show _ = _; rw [← HE.out]; rfl
            go_wp2
            go_returns
            rw [HZ.out]
            exact ⟨rfl, by first | assumption | go_grown⟩
end Go.Proofs.YtiddpaaihloopaaDoor
