/-
  The rounded centre. Conditions: none. By an AI agent.
-/
import Derived.Test.YtbfbifogamlepaaDoorRounded
import Derived.Test.YtbfbifogamlepaaDoorSeq
import Derived.Test.YtbfbifogamlepaaDoorStore
namespace Go.Proofs.YtbfbifogamlepaaDoor
open Go Go.ChangeShapes Go.WideShapes Go.RowKit Go.ChangeAt
set_option linter.unusedSimpArgs false
set_option linter.unusedVariables false
theorem vec_under : Tryd.prog.underlying 53 = some (.struct (Tryd.prog.fieldsOf 53)) := by kernel_rfl
theorem vec_size : (Tryd.prog.info? 53).map (fun i => i.size) = some 3 := by kernel_rfl
def roundedV (m x y z v : Int) : Value := .tuple #[.agg #[.int .i64 (if divF m x y z v = 0 then roundF x m else 0), .int .i64 (if divF m x y z v = 0 then roundF y m else 0), .int .i64 (if divF m x y z v = 0 then roundF z m else 0)], .int .i64 (divF m x y z v)]
theorem div_zero {m x y z v : Int} (h : divF m x y z v = 0) : WOk m x y z v ∧ 0 < m := by
  unfold divF at h
  split at h
  · rename_i hw
    split at h
    · cases h
    · exact ⟨hw, by have := hw.1.1; omega⟩
  · cases h
set_option maxRecDepth 20000 in
set_option maxHeartbeats 4000000 in
theorem rounded_any (m x y z v : Int) (w : World) :
    Calls Tryd.prog 21 #[.agg #[.int .i64 m, .int .i64 x, .int .i64 y, .int .i64 z, .int .i64 v]] w fun e w' => e = .returned (roundedV m x y z v) ∧ Below w.heap.size w w' := by
  by_cases h : divF m x y z v = 0
  · obtain ⟨hw, hm0⟩ := div_zero h
    have E : Hid (roundedV m x y z v = .tuple #[.agg #[.int .i64 (roundF x m), .int .i64 (roundF y m), .int .i64 (roundF z m)], .int .i64 0]) := by show _ = _; unfold roundedV; rw [if_pos h, if_pos h, if_pos h, h]
    have HO := Lib.hid h
    have HM : Hid (0 < m ∧ m ≤ 1099511627776) := ⟨hm0, hw.1.2⟩
    have HW := Lib.hid hw
    clear h hw
    obtain ⟨X, hX⟩ : ∃ X, roundF x m = X := ⟨_, rfl⟩
    obtain ⟨Y, hY⟩ : ∃ Y, roundF y m = Y := ⟨_, rfl⟩
    obtain ⟨Z, hZ⟩ : ∃ Z, roundF z m = Z := ⟨_, rfl⟩
    rw [hX, hY, hZ] at E
    have HX := Lib.hid hX
    have HY := Lib.hid hY
    have HZ := Lib.hid hZ
    clear hX hY hZ
    go_enter Tryd.func21, Tryd.ntmps21
    go_wp2_with fail
    (go_at_call 37; refine (div_any _ _ _ _ _ _).mono ?_; rintro e w1 ⟨rfl, hb⟩)
    rw [HO.out]
    have hB1 := below_step (w := w) (by first | assumption | go_grown) hb
    obtain ⟨hc1, hf1⟩ := bcell hb
    have hz1 : w.heap.size < w1.heap.size := by have := hb.size; (try simp only [World.size_alloc, World.size_setCell] at this); omega
    have hy1 : w.heap.size + 1 < w1.heap.size := by have := hb.size; (try simp only [World.size_alloc, World.size_setCell] at this); omega
    have q1 : w1.heap[w.heap.size + 1]? = some (.cells #[.int .i64 0, .int .i64 0, .int .i64 0] 53) := (hb.block _ (by first | omega | (simp <;> omega))).trans (heapA_at (w.alloc _) _ _ (by simp))
    clear hb
    go_wp2_with fail
    (go_at_call 38; refine (round_any _ _ _ HW.out.2.2.1 HM.out).mono ?_; rintro e w2 ⟨rfl, hb⟩)
    rw [HX.out]
    have hB2 := below_step (w := w) (by first | assumption | go_grown) hb
    obtain ⟨hc2, hf2⟩ := bcell hb
    have hz2 : w.heap.size < w2.heap.size := by have := hb.size; (try simp only [World.size_alloc, World.size_setCell] at this); omega
    have hy2 : w.heap.size + 1 < w2.heap.size := by have := hb.size; (try simp only [World.size_alloc, World.size_setCell] at this); omega
    have q2 : w2.heap[w.heap.size + 1]? = some (.cells #[.int .i64 0, .int .i64 0, .int .i64 0] 53) := (hb.block _ (by first | omega | (simp <;> omega))).trans (q1)
    clear hb
    go_wp2_with fail
    (go_at_call 38; refine (round_any _ _ _ HW.out.2.2.2.1 HM.out).mono ?_; rintro e w3 ⟨rfl, hb⟩)
    rw [HY.out]
    have hB3 := below_step (w := w) (by first | assumption | go_grown) hb
    obtain ⟨hc3, hf3⟩ := bcell hb
    have hz3 : w.heap.size < w3.heap.size := by have := hb.size; (try simp only [World.size_alloc, World.size_setCell] at this); omega
    have hy3 : w.heap.size + 1 < w3.heap.size := by have := hb.size; (try simp only [World.size_alloc, World.size_setCell] at this); omega
    have q3 : w3.heap[w.heap.size + 1]? = some (.cells #[.int .i64 X, .int .i64 0, .int .i64 0] 53) := (hb.block _ (by first | omega | (simp <;> omega))).trans (heap_setCell_same w2 (w.heap.size + 1) 0 #[.int .i64 0, .int .i64 0, .int .i64 0] 53 (.int .i64 X) q2)
    clear hb
    go_wp2_with fail
    (go_at_call 38; refine (round_any _ _ _ HW.out.2.2.2.2 HM.out).mono ?_; rintro e w4 ⟨rfl, hb⟩)
    rw [HZ.out]
    have hB4 := below_step (w := w) (by first | assumption | go_grown) hb
    obtain ⟨hc4, hf4⟩ := bcell hb
    have hz4 : w.heap.size < w4.heap.size := by have := hb.size; (try simp only [World.size_alloc, World.size_setCell] at this); omega
    have hy4 : w.heap.size + 1 < w4.heap.size := by have := hb.size; (try simp only [World.size_alloc, World.size_setCell] at this); omega
    have q4 : w4.heap[w.heap.size + 1]? = some (.cells #[.int .i64 X, .int .i64 Y, .int .i64 0] 53) := (hb.block _ (by first | omega | (simp <;> omega))).trans (heap_setCell_same w3 (w.heap.size + 1) 1 #[.int .i64 X, .int .i64 0, .int .i64 0] 53 (.int .i64 Y) q3)
    clear hb
    have d0 : w4.cell? ⟨w.heap.size + 1, 0, none⟩ = some (.int .i64 X) := by rw [cell_of_row _ _ _ _ _ (0, 0) q4]; rfl
    have d1 : w4.cell? ⟨w.heap.size + 1, 1, none⟩ = some (.int .i64 Y) := by rw [cell_of_row _ _ _ _ _ (0, 0) q4]; rfl
    have d2 : w4.cell? ⟨w.heap.size + 1, 2, none⟩ = some (.int .i64 0) := by rw [cell_of_row _ _ _ _ _ (0, 0) q4]; rfl
    go_wp2
    have z0 : (w4.setCell ⟨w.heap.size + 1, 2, none⟩ (.int .i64 Z)).heap[w.heap.size + 1]? = some (.cells #[.int .i64 X, .int .i64 Y, .int .i64 Z] 53) := heap_setCell_same w4 (w.heap.size + 1) 2 #[.int .i64 X, .int .i64 Y, .int .i64 0] 53 (.int .i64 Z) q4
    have z1 : ((w4.setCell ⟨w.heap.size + 1, 2, none⟩ (.int .i64 Z)).setCell ⟨w.heap.size + 1, 0, none⟩ (.int .i64 X)).heap[w.heap.size + 1]? = some (.cells #[.int .i64 X, .int .i64 Y, .int .i64 Z] 53) := heap_setCell_same (w4.setCell ⟨w.heap.size + 1, 2, none⟩ (.int .i64 Z)) (w.heap.size + 1) 0 #[.int .i64 X, .int .i64 Y, .int .i64 Z] 53 (.int .i64 X) z0
    have z2 : (((w4.setCell ⟨w.heap.size + 1, 2, none⟩ (.int .i64 Z)).setCell ⟨w.heap.size + 1, 0, none⟩ (.int .i64 X)).setCell ⟨w.heap.size + 1, 1, none⟩ (.int .i64 Y)).heap[w.heap.size + 1]? = some (.cells #[.int .i64 X, .int .i64 Y, .int .i64 Z] 53) := heap_setCell_same ((w4.setCell ⟨w.heap.size + 1, 2, none⟩ (.int .i64 Z)).setCell ⟨w.heap.size + 1, 0, none⟩ (.int .i64 X)) (w.heap.size + 1) 1 #[.int .i64 X, .int .i64 Y, .int .i64 Z] 53 (.int .i64 Y) z1
    have z3 : ((((w4.setCell ⟨w.heap.size + 1, 2, none⟩ (.int .i64 Z)).setCell ⟨w.heap.size + 1, 0, none⟩ (.int .i64 X)).setCell ⟨w.heap.size + 1, 1, none⟩ (.int .i64 Y)).setCell ⟨w.heap.size + 1, 2, none⟩ (.int .i64 Z)).heap[w.heap.size + 1]? = some (.cells #[.int .i64 X, .int .i64 Y, .int .i64 Z] 53) := heap_setCell_same (((w4.setCell ⟨w.heap.size + 1, 2, none⟩ (.int .i64 Z)).setCell ⟨w.heap.size + 1, 0, none⟩ (.int .i64 X)).setCell ⟨w.heap.size + 1, 1, none⟩ (.int .i64 Y)) (w.heap.size + 1) 2 #[.int .i64 X, .int .i64 Y, .int .i64 Z] 53 (.int .i64 Z) z2
    refine bodyPost_ret (results_cell_tmp rfl rfl z3 vec_under vec_size rfl) rfl ?_
    exact ⟨by rw [E.out]; rfl, by go_grown⟩
  · have E : Hid (roundedV m x y z v = .tuple #[.agg #[.int .i64 0, .int .i64 0, .int .i64 0], .int .i64 (divF m x y z v)]) := by show _ = _; unfold roundedV; rw [if_neg h, if_neg h, if_neg h]
    obtain ⟨D, hD⟩ : ∃ D, divF m x y z v = D := ⟨_, rfl⟩
    rw [hD] at E h
    have k0 : (D != 0) = true := by simpa using h
    have HD := Lib.hid hD
    clear h hD
    go_enter Tryd.func21, Tryd.ntmps21
    go_wp2_with fail
    (go_at_call 37; refine (div_any _ _ _ _ _ _).mono ?_; rintro e w1 ⟨rfl, hb⟩)
    rw [HD.out]
    have hB1 := below_step (w := w) (by first | assumption | go_grown) hb
    obtain ⟨hc1, hf1⟩ := bcell hb
    have hz1 : w.heap.size < w1.heap.size := by have := hb.size; (try simp only [World.size_alloc, World.size_setCell] at this); omega
    have hy1 : w.heap.size + 1 < w1.heap.size := by have := hb.size; (try simp only [World.size_alloc, World.size_setCell] at this); omega
    clear hb
    go_wp2
    all_goals (refine bodyPost_ret (v := .tuple #[.agg #[.int .i64 0, .int .i64 0, .int .i64 0], .int .i64 D]) (by simp [results, Tryd.results21, go_sem, *]) rfl ?_)
    exact ⟨by rw [E.out], by first | assumption | go_grown⟩
set_option maxRecDepth 20000 in
set_option maxHeartbeats 4000000 in
theorem rrounded_any (m x y z v : Int) (w : World) :
    Calls Tryd.prog 34 #[.agg #[.int .i64 m, .int .i64 x, .int .i64 y, .int .i64 z, .int .i64 v]] w fun e w' => e = .returned (roundedV m x y z v) ∧ Below w.heap.size w w' := by
  by_cases h : divF m x y z v = 0
  · obtain ⟨hw, hm0⟩ := div_zero h
    have E : Hid (roundedV m x y z v = .tuple #[.agg #[.int .i64 (roundF x m), .int .i64 (roundF y m), .int .i64 (roundF z m)], .int .i64 0]) := by show _ = _; unfold roundedV; rw [if_pos h, if_pos h, if_pos h, h]
    have HO := Lib.hid h
    have HM : Hid (0 < m ∧ m ≤ 1099511627776) := ⟨hm0, hw.1.2⟩
    have HW := Lib.hid hw
    clear h hw
    obtain ⟨X, hX⟩ : ∃ X, roundF x m = X := ⟨_, rfl⟩
    obtain ⟨Y, hY⟩ : ∃ Y, roundF y m = Y := ⟨_, rfl⟩
    obtain ⟨Z, hZ⟩ : ∃ Z, roundF z m = Z := ⟨_, rfl⟩
    rw [hX, hY, hZ] at E
    have HX := Lib.hid hX
    have HY := Lib.hid hY
    have HZ := Lib.hid hZ
    clear hX hY hZ
    go_enter Tryd.func34, Tryd.ntmps34
    go_wp2_with fail
    (go_at_call 48; refine (rdiv_any _ _ _ _ _ _).mono ?_; rintro e w1 ⟨rfl, hb⟩)
    rw [HO.out]
    have hB1 := below_step (w := w) (by first | assumption | go_grown) hb
    obtain ⟨hc1, hf1⟩ := bcell hb
    have hz1 : w.heap.size < w1.heap.size := by have := hb.size; (try simp only [World.size_alloc, World.size_setCell] at this); omega
    have hy1 : w.heap.size + 1 < w1.heap.size := by have := hb.size; (try simp only [World.size_alloc, World.size_setCell] at this); omega
    clear hb
    go_wp2_with fail
    (go_at_call 49; refine (rround_any _ _ _ HW.out.2.2.1 HM.out).mono ?_; rintro e w2 ⟨rfl, hb⟩)
    rw [HX.out]
    have hB2 := below_step (w := w) (by first | assumption | go_grown) hb
    obtain ⟨hc2, hf2⟩ := bcell hb
    have hz2 : w.heap.size < w2.heap.size := by have := hb.size; (try simp only [World.size_alloc, World.size_setCell] at this); omega
    have hy2 : w.heap.size + 1 < w2.heap.size := by have := hb.size; (try simp only [World.size_alloc, World.size_setCell] at this); omega
    clear hb
    go_wp2_with fail
    (go_at_call 49; refine (rround_any _ _ _ HW.out.2.2.2.1 HM.out).mono ?_; rintro e w3 ⟨rfl, hb⟩)
    rw [HY.out]
    have hB3 := below_step (w := w) (by first | assumption | go_grown) hb
    obtain ⟨hc3, hf3⟩ := bcell hb
    have hz3 : w.heap.size < w3.heap.size := by have := hb.size; (try simp only [World.size_alloc, World.size_setCell] at this); omega
    have hy3 : w.heap.size + 1 < w3.heap.size := by have := hb.size; (try simp only [World.size_alloc, World.size_setCell] at this); omega
    clear hb
    go_wp2_with fail
    (go_at_call 49; refine (rround_any _ _ _ HW.out.2.2.2.2 HM.out).mono ?_; rintro e w4 ⟨rfl, hb⟩)
    rw [HZ.out]
    have hB4 := below_step (w := w) (by first | assumption | go_grown) hb
    obtain ⟨hc4, hf4⟩ := bcell hb
    have hz4 : w.heap.size < w4.heap.size := by have := hb.size; (try simp only [World.size_alloc, World.size_setCell] at this); omega
    have hy4 : w.heap.size + 1 < w4.heap.size := by have := hb.size; (try simp only [World.size_alloc, World.size_setCell] at this); omega
    clear hb
    go_wp2
    all_goals (refine bodyPost_ret (v := .tuple #[.agg #[.int .i64 X, .int .i64 Y, .int .i64 Z], .int .i64 0]) (by simp [results, Tryd.results34, go_sem, *]) rfl ?_)
    exact ⟨by rw [E.out], by go_grown⟩
  · have E : Hid (roundedV m x y z v = .tuple #[.agg #[.int .i64 0, .int .i64 0, .int .i64 0], .int .i64 (divF m x y z v)]) := by show _ = _; unfold roundedV; rw [if_neg h, if_neg h, if_neg h]
    obtain ⟨D, hD⟩ : ∃ D, divF m x y z v = D := ⟨_, rfl⟩
    rw [hD] at E h
    have k0 : (D != 0) = true := by simpa using h
    have HD := Lib.hid hD
    clear h hD
    go_enter Tryd.func34, Tryd.ntmps34
    go_wp2_with fail
    (go_at_call 48; refine (rdiv_any _ _ _ _ _ _).mono ?_; rintro e w1 ⟨rfl, hb⟩)
    rw [HD.out]
    have hB1 := below_step (w := w) (by first | assumption | go_grown) hb
    obtain ⟨hc1, hf1⟩ := bcell hb
    have hz1 : w.heap.size < w1.heap.size := by have := hb.size; (try simp only [World.size_alloc, World.size_setCell] at this); omega
    have hy1 : w.heap.size + 1 < w1.heap.size := by have := hb.size; (try simp only [World.size_alloc, World.size_setCell] at this); omega
    clear hb
    go_wp2
    all_goals (refine bodyPost_ret (v := .tuple #[.agg #[.int .i64 0, .int .i64 0, .int .i64 0], .int .i64 D]) (by simp [results, Tryd.results34, go_sem, *]) rfl ?_)
    exact ⟨by rw [E.out], by first | assumption | go_grown⟩
end Go.Proofs.YtbfbifogamlepaaDoor
