/-
  Rolled, the program's and the reference's; the error of a plate and of a bar, the program's and the reference's, by walks. Conditions: a catalog of at most 10^6 entries and gauges, identifiers of at most 2^31 bytes. By an AI agent.
-/
import Derived.Test.YtgbhhjdmochhpaaGreatDoorMatC
import Derived.Test.YtgbhhjdmochhpaaGreatDoorIdB
namespace Go.Proofs.YtgbhhjdmochhpaaGreatDoor
open Go Go.ChangeShapes Go.WideShapes Go.RowKit Go.ChangeAt
set_option linter.unusedVariables false
set_option linter.unusedSimpArgs false
set_option maxRecDepth 100000

theorem rolled_eq (m : Mat) (s : ByteArray) (t : Int) : m.rolled s t = decide (firstIn (m.gf (m.gi s)) (m.gl s) t < m.gl s) := by
  unfold Mat.rolled Mat.gl
  cases h : m.hasG s with
  | false => simp
  | true => simp only [Bool.true_and, if_true]; rfl
set_option maxHeartbeats 4000000 in
theorem rolled_any (v : Value) (m : Mat) (gv : Nat → Value) (s : ByteArray) (t : Int) (w : World) (h : MatAt w v m gv) :
    Calls Tryz.prog 71 #[v, .string s, .int .i64 t] w fun e w' => e = .returned (.bool (m.rolled s t)) ∧ Below w.heap.size w w' := by
  have HM := Lib.hid h
  obtain ⟨vg, vs, rfl, hG, hS, -, -, -⟩ := h
  obtain ⟨oa, ca, rfl, -, -⟩ := hG.form
  obtain ⟨ob, cb, rfl, -, -⟩ := hS.form
  clear hG hS
  obtain ⟨D, hD⟩ : ∃ D, m.hasG s = D := ⟨_, rfl⟩
  have HD := Lib.hid hD
  obtain ⟨L, hL⟩ : ∃ L, m.gl s = L := ⟨_, rfl⟩
  have HL := Lib.hid hL
  obtain ⟨f, hf⟩ : ∃ f, m.gf (m.gi s) = f := ⟨_, rfl⟩
  have HF := Lib.hid hf
  obtain ⟨R, hR⟩ : ∃ R, m.rolled s t = R := ⟨_, rfl⟩
  have HR : Hid (decide (firstIn f L t < L) = R) := by show _ = _; rw [← hR, rolled_eq, hf, hL]
  have HR2 : Hid (D = false → R = false) := fun h0 => by rw [← hR]; unfold Mat.rolled; rw [hD, h0]; rfl
  rw [hR]
  clear hD hL hf hR
  go_enter Tryz.func71, Tryz.ntmps71
  go_wp2_with fail
  (go_at_call 25; refine (grade_any _ m gv s _ (HM.out.below (by go_grown))).mono ?_; rintro e w1 ⟨s', d, y, gv', rfl, -, hI, hB⟩)
  rw [HD.out]
  rw [HL.out, HF.out] at hI
  have HI := Lib.hid hI
  obtain ⟨oc, cc, rfl, -, -⟩ := hI.form
  have HB1 : Hid (Below w.heap.size w w1) := by
    show Below _ _ _
    exact below_step (w := w) (by go_grown) hB
  have hs1 := hB.size
  (try simp only [World.size_alloc, World.size_setCell] at hs1)
  have z1 : w.heap.size < w1.heap.size := by omega
  have hbw1 := HB1.out
  clear hI hB hs1
  cases D with
  | false =>
    have HR3 := Lib.hid (HR2.out rfl)
    go_wp2
    go_returns
    rw [HR3.out]
    exact ⟨rfl, by go_grown⟩
  | true =>
    go_wp2_with fail
    (go_at_call 97; refine (contains_int _ L f t _ (HI.out.below (by go_grown))).mono ?_; rintro e w2 ⟨rfl, hB⟩)
    rw [HR.out]
    have HB2 : Hid (Below w.heap.size w w2) := by
      show Below _ _ _
      exact below_step (w := w) (by first | assumption | go_grown) hB
    clear hB
    go_wp2
    go_returns
    exact ⟨rfl, HB2.out⟩
set_option maxHeartbeats 4000000 in
theorem rrolled_any (v : Value) (m : Mat) (gv : Nat → Value) (s : ByteArray) (t : Int) (w : World) (h : MatAt w v m gv) :
    Calls Tryz.prog 40 #[v, .string s, .int .i64 t] w fun e w' => e = .returned (.bool (m.rolled s t)) ∧ Below w.heap.size w w' := by
  have HM := Lib.hid h
  obtain ⟨vg, vs, rfl, hG, hS, -, -, -⟩ := h
  obtain ⟨oa, ca, rfl, -, -⟩ := hG.form
  obtain ⟨ob, cb, rfl, -, -⟩ := hS.form
  clear hG hS
  obtain ⟨D, hD⟩ : ∃ D, m.hasG s = D := ⟨_, rfl⟩
  have HD := Lib.hid hD
  obtain ⟨L, hL⟩ : ∃ L, m.gl s = L := ⟨_, rfl⟩
  have HL := Lib.hid hL
  obtain ⟨f, hf⟩ : ∃ f, m.gf (m.gi s) = f := ⟨_, rfl⟩
  have HF := Lib.hid hf
  obtain ⟨R, hR⟩ : ∃ R, m.rolled s t = R := ⟨_, rfl⟩
  have HR : Hid (decide (firstFrom (fun j => f j == t) L 0 < L) = R) := by show _ = _; rw [← hR, rolled_eq, hf, hL]; rfl
  obtain ⟨K, hK⟩ : ∃ K, firstFrom (fun j => f j == t) L 0 = K := ⟨_, rfl⟩
  have HK := Lib.hid hK
  rw [hK] at HR
  rw [hR]
  clear hD hL hf hR hK
  go_enter Tryz.func40, Tryz.ntmps40
  go_wp2_with fail
  (go_at_call 39; refine (rgrade_any _ m gv s _ (HM.out.below (by go_grown))).mono ?_; rintro e w1 ⟨s', d, y, gv', rfl, -, hI, hB⟩)
  rw [HD.out]
  rw [HL.out, HF.out] at hI
  have HI := Lib.hid hI
  obtain ⟨oc, cc, rfl, hLb, hel⟩ := hI.form
  have HEL := Lib.hid hel
  have HB1 : Hid (Below w.heap.size w w1) := by
    show Below _ _ _
    exact below_step (w := w) (by go_grown) hB
  have hs1 := hB.size
  (try simp only [World.size_alloc, World.size_setCell] at hs1)
  have z1 : w.heap.size < w1.heap.size := by omega
  have hbw1 := HB1.out
  clear hI hB hs1 hel
  go_wp2
  go_loopw [9] (fun i wr => ∃ j : Nat, j ≤ L ∧ i = .int .i64 j ∧ Hid (firstFrom (fun j => f j == t) (L - j) j = K) ∧ wr.cell? ⟨w1.heap.size, 3, none⟩ = some (.slice oc L cc) ∧ Below w1.heap.size w1 wr ∧ w1.heap.size < wr.heap.size) (fun i _ => L - (intOf i).toNat)
  case atStart => exact ⟨0, by omega, rfl, HK.out, by simp [go_sem], by go_grown, by simp⟩
  case round =>
    obtain ⟨j, hj, rfl, hq, hc3, hB, hsz⟩ := hrel
    have HBr := Lib.hid (below_step HB1.out hB)
    by_cases hlt : j < L
    · obtain ⟨b1, f1, rfl, hbl1, hcl1⟩ := HEL.out j hlt
      have c0 : wr.cell? ⟨b1, f1 + j, none⟩ = some (.int .i64 (f j)) := (hB.cell (p := ⟨_, _, none⟩) hbl1).trans (hcl1 j hlt)
      have hbr : b1 < wr.heap.size := by omega
      have HBB := Lib.hid hB
      clear hcl1 hB
      by_cases h1 : f j = t
      · have hR0 : R = true := by
          have hFj : K = j := hq.out.symm.trans (firstFrom_hit hlt (by simpa using h1))
          rw [← HR.out, hFj]; exact decide_eq_true hlt
        have HR0 := Lib.hid hR0
        have e1 : (f j == t) = true := by simpa using h1
        clear hR0 h1
        go_wp2
        go_returns
        rw [HR0.out]
        exact ⟨rfl, HBr.out⟩
      have hq2 : Hid (firstFrom (fun j => f j == t) (L - (j + 1)) (j + 1) = K) := (firstFrom_miss hlt (by simpa using h1)).symm.trans hq.out
      have e1 : (f j == t) = false := by simpa using h1
      clear h1
      go_wp2
      go_roundw
      case rel => exact ⟨j + 1, by omega, by go_num, hq2, hc3, HBB.out, hsz⟩
      case measure => simp [intOf]; omega
    · have hR0 : R = false := by
        have hFj : K = L := hq.out.symm.trans (firstFrom_end hj hlt)
        rw [← HR.out, hFj]; exact decide_eq_false (by omega)
      have HR0 := Lib.hid hR0
      clear hR0 hB
      go_wp2
      go_returns
      rw [HR0.out]
      exact ⟨rfl, HBr.out⟩

end Go.Proofs.YtgbhhjdmochhpaaGreatDoor
