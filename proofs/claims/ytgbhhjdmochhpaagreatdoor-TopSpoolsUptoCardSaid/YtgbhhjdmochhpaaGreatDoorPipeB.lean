/-
  The functions of pipe and of its reference over points. Conditions: none. By an AI agent.
-/
import Derived.Test.YtgbhhjdmochhpaaGreatDoorPipeA
import Derived.Test.YtgbhhjdmochhpaaGreatDoorInts
namespace Go.Proofs.YtgbhhjdmochhpaaGreatDoor
open Go Go.ChangeShapes Go.WideShapes Go.RowKit Go.ChangeAt
set_option linter.unusedSimpArgs false
set_option linter.unusedVariables false

/-- all points within the limit -/
def inP (x y z : Nat → Int) (i : Nat) : Bool := decide (In3 (x i) (y i) (z i))
theorem inP_all {x y z : Nat → Int} {n : Nat} (h : allTo (inP x y z) n = true) : ∀ i, i < n → In3 (x i) (y i) (z i) := fun i hi => of_decide_eq_true (allTo_iff.1 h i hi)
theorem allTo_snoc {f : Nat → Bool} {j : Nat} (h : allTo f j = true) (hf : f j = true) : allTo f (j + 1) = true := by unfold allTo; rw [h, hf]; rfl
set_option maxRecDepth 20000 in
set_option maxHeartbeats 4000000 in
theorem inside_pts (v : Value) (n : Nat) (x y z : Nat → Int) (w : World) (h : VecsAt w v n x y z) :
    Calls Tryz.prog 88 #[v] w fun e w' => e = .returned (.bool (allTo (inP x y z) n)) ∧ Below w.heap.size w w' := by
  obtain ⟨oa, cap, rfl, hn, hel⟩ := h.form
  have HEL := Lib.hid hel
  clear h hel
  obtain ⟨F, hF⟩ : ∃ F, allTo (inP x y z) n = F := ⟨_, rfl⟩
  rw [hF]
  have HF := Lib.hid hF
  clear hF
  go_enter Tryz.func88, Tryz.ntmps88
  go_wp2
  go_loopw [3] (fun i wr => ∃ j : Nat, j ≤ n ∧ i = .int .i64 j ∧ Hid (allTo (inP x y z) j = true) ∧ Below w.heap.size w wr) (fun i _ => n - (intOf i).toNat)
  case atStart => exact ⟨0, by omega, rfl, rfl, Below.refl _ _⟩
  case round =>
    obtain ⟨j, hj, rfl, hq, hb⟩ := hrel
    by_cases hlt : j < n
    · obtain ⟨b, off, rfl, hbl, hcl⟩ := HEL.out j hlt
      have c0 : wr.cell? ⟨b, off + j * 3, none⟩ = some (.int .i64 (x j)) := (hb.cell (p := ⟨_, _, none⟩) hbl).trans (hcl j hlt).1
      have c1 : wr.cell? ⟨b, off + j * 3 + 1, none⟩ = some (.int .i64 (y j)) := (hb.cell (p := ⟨_, _, none⟩) hbl).trans (hcl j hlt).2.1
      have c2 : wr.cell? ⟨b, off + j * 3 + 2, none⟩ = some (.int .i64 (z j)) := (hb.cell (p := ⟨_, _, none⟩) hbl).trans (hcl j hlt).2.2
      have hbr : b < wr.heap.size := Nat.lt_of_lt_of_le hbl hb.size
      have HBr := Lib.hid hb
      clear hcl hb
      have hsz : w.heap.size ≤ wr.heap.size := HBr.out.size
      by_cases hin : In3 (x j) (y j) (z j)
      · have hq2 : Hid (allTo (inP x y z) (j + 1) = true) := allTo_snoc hq.out (decide_eq_true hin)
        go_wp2_with fail
        (go_at_call 15; refine (rValid_yes _ _ _ _ _ hin ⟨by omega, by omega⟩).mono ?_; rintro e w1 ⟨rfl, hb⟩)
        have HB1 := Lib.hid (below_step HBr.out hb)
        clear hb
        go_wp2
        go_roundw
        case rel => exact ⟨j + 1, by omega, by go_num, hq2, HB1.out⟩
        case measure => simp [intOf]; omega
      · have hr : F = false := HF.out.symm.trans (allTo_no hlt (decide_eq_false hin))
        have HR := Lib.hid hr
        clear hr
        go_wp2_with fail
        (go_at_call 15; refine (rValid_no _ _ _ _ _ (fun h => hin h.1)).mono ?_; rintro e w1 ⟨rfl, hb⟩)
        have HB1 := Lib.hid (below_step HBr.out hb)
        clear hb
        go_wp2
        go_returns
        rw [HR.out]
        exact ⟨rfl, HB1.out⟩
    · have e : j = n := by omega
      subst e
      have HR := Lib.hid (HF.out.symm.trans hq.out)
      have HBr := Lib.hid hb
      clear hb
      go_wp2
      go_returns
      rw [HR.out]
      exact ⟨rfl, HBr.out⟩
set_option maxHeartbeats 4000000 in
theorem index_pts (v : Value) (n : Nat) (x y z : Nat → Int) (w : World) (h : VecsAt w v n x y z) :
    Calls Tryz.prog 86 #[v, .func (Fn.func 51) #[] #[]] w fun e w' => ∃ r : Int, e = .returned (.int .i64 r) ∧ decide (0 ≤ r) = !allTo (inP x y z) n ∧ Below w.heap.size w w' := by
  obtain ⟨oa, cap, rfl, hn, hel⟩ := h.form
  have HEL := Lib.hid hel
  clear h hel
  go_enter Tryz.func86, Tryz.ntmps86
  go_wp2
  go_loopw [8] (fun i wr => ∃ j : Nat, j ≤ n ∧ i = .int .i64 j ∧ Hid (allTo (inP x y z) j = true) ∧ Below w.heap.size w wr) (fun i _ => n - (intOf i).toNat)
  case atStart => exact ⟨0, by omega, rfl, rfl, Below.refl _ _⟩
  case round =>
    obtain ⟨j, hj, rfl, hq, hb⟩ := hrel
    by_cases hlt : j < n
    · obtain ⟨b, off, rfl, hbl, hcl⟩ := HEL.out j hlt
      have c0 : wr.cell? ⟨b, off + j * 3, none⟩ = some (.int .i64 (x j)) := (hb.cell (p := ⟨_, _, none⟩) hbl).trans (hcl j hlt).1
      have c1 : wr.cell? ⟨b, off + j * 3 + 1, none⟩ = some (.int .i64 (y j)) := (hb.cell (p := ⟨_, _, none⟩) hbl).trans (hcl j hlt).2.1
      have c2 : wr.cell? ⟨b, off + j * 3 + 2, none⟩ = some (.int .i64 (z j)) := (hb.cell (p := ⟨_, _, none⟩) hbl).trans (hcl j hlt).2.2
      have hbr : b < wr.heap.size := Nat.lt_of_lt_of_le hbl hb.size
      have HBr := Lib.hid hb
      clear hcl hb
      have hsz : w.heap.size ≤ wr.heap.size := HBr.out.size
      by_cases hin : In3 (x j) (y j) (z j)
      · have hq2 : Hid (allTo (inP x y z) (j + 1) = true) := allTo_snoc hq.out (decide_eq_true hin)
        go_wp2_with fail
        (go_at_call 51; refine (far_no _ _ _ _ hin).mono ?_; rintro e w1 ⟨rfl, hb⟩)
        have HB1 := Lib.hid (below_step HBr.out hb)
        clear hb
        go_wp2
        go_roundw
        case rel => exact ⟨j + 1, by omega, by go_num, hq2, HB1.out⟩
        case measure => simp [intOf]; omega
      · have hr : allTo (inP x y z) n = false := allTo_no hlt (decide_eq_false hin)
        have HR := Lib.hid hr
        clear hr
        go_wp2_with fail
        (go_at_call 51; refine (far_yes _ _ _ _ hin).mono ?_; rintro e w1 ⟨rfl, hb⟩)
        have HB1 := Lib.hid (below_step HBr.out hb)
        clear hb
        go_wp2
        go_returns
        exact ⟨_, rfl, by rw [HR.out]; simp, HB1.out⟩
    · have e : j = n := by omega
      subst e
      have HR := Lib.hid hq.out
      have HBr := Lib.hid hb
      clear hb
      go_wp2
      go_returns
      exact ⟨_, rfl, by rw [HR.out]; simp, HBr.out⟩
set_option maxRecDepth 20000 in
set_option maxHeartbeats 1000000 in
theorem contains_pts (v : Value) (n : Nat) (x y z : Nat → Int) (w : World) (h : VecsAt w v n x y z) :
    Calls Tryz.prog 50 #[v, .func (Fn.func 51) #[] #[]] w fun e w' => e = .returned (.bool (!allTo (inP x y z) n)) ∧ Below w.heap.size w w' := by
  go_enter Tryz.func50, Tryz.ntmps50
  go_wp2_with fail
  (go_at_call 86; refine (index_pts _ _ _ _ _ _ h).mono ?_; rintro e w1 ⟨r, rfl, hr, hb⟩)
  have HR := Lib.hid hr
  clear hr
  go_wp2
  go_returns
  exact ⟨by rw [← HR.out]; rfl, hb⟩
set_option maxRecDepth 20000 in
set_option maxHeartbeats 1000000 in
theorem bends_pts (v : Value) (n : Nat) (x y z : Nat → Int) (w : World) (h : VecsAt w v n x y z) :
    Calls Tryz.prog 21 #[v] w fun e w' => e = .returned (.int .i64 (mx ((n : Int) - 2) 0)) ∧ Below w.heap.size w w' := by
  obtain ⟨oa, cap, rfl, hn, hel⟩ := h.form
  have HEL := Lib.hid hel
  clear h hel
  have hmx := run_mx
  have hn0 : (n : Int) ≤ 9223372036854775807 := by omega
  go_enter Tryz.func21, Tryz.ntmps21
  go_wp2
  go_returns
  exact ⟨rfl, by first | assumption | go_grown⟩
set_option maxRecDepth 20000 in
set_option maxHeartbeats 1000000 in
theorem rbends_pts (v : Value) (n : Nat) (x y z : Nat → Int) (w : World) (h : VecsAt w v n x y z) :
    Calls Tryz.prog 57 #[v] w fun e w' => e = .returned (.int .i64 (mx ((n : Int) - 2) 0)) ∧ Below w.heap.size w w' := by
  obtain ⟨oa, cap, rfl, hn, hel⟩ := h.form
  have HEL := Lib.hid hel
  clear h hel
  have hmx := run_mx
  have hn0 : (n : Int) ≤ 9223372036854775807 := by omega
  go_enter Tryz.func57, Tryz.ntmps57
  go_wp2
  go_returns
  exact ⟨rfl, by first | assumption | go_grown⟩
set_option maxRecDepth 20000 in
set_option maxHeartbeats 1000000 in
theorem magnitude_in (k : Int) (w : World) (hk : -4611686018427387904 ≤ k ∧ k ≤ 4611686018427387904) :
    Calls Tryz.prog 90 #[.int .i64 k] w fun e w' => e = .returned (.int .i64 (mx k (-k))) ∧ Below w.heap.size w w' := by
  have hmx := run_mx
  obtain ⟨hk0, hk1⟩ := hk
  go_enter Tryz.func90, Tryz.ntmps90
  go_wp2
  go_returns
  exact ⟨rfl, by first | assumption | go_grown⟩
theorem sgn_ref (d : Int) : mx (-1) (mn 1 d) = sgn d := by
  rw [sgn_def]
  unfold mx mn
  repeat' split
  all_goals omega
set_option maxRecDepth 20000 in
set_option maxHeartbeats 1000000 in
theorem rdirection_in (a b c x y z : Int) (w : World) (h : In3 a b c) (h2 : In3 x y z) :
    Calls Tryz.prog 24 #[.agg #[.int .i64 a, .int .i64 b, .int .i64 c], .agg #[.int .i64 x, .int .i64 y, .int .i64 z]] w fun e w' => e = .returned (.agg #[.int .i64 (sgn (x - a)), .int .i64 (sgn (y - b)), .int .i64 (sgn (z - c))]) ∧ Below w.heap.size w w' := by
  have hmx := run_mx
  have hmn := run_mn
  have hsr := sgn_ref
  go_enter Tryz.func24, Tryz.ntmps24
  go_wp2_with fail
  (go_at_call 61; refine (rSub_in _ h2 h).mono ?_; rintro e w1 ⟨rfl, hb⟩)
  have hB1 := below_step (w := w) (by first | assumption | go_grown) hb
  have hz1 := hb.size
  (try simp only [World.size_alloc, World.size_setCell] at hz1)
  have hz1a : w.heap.size < w1.heap.size := by omega
  have hz1b : w.heap.size + 1 < w1.heap.size := by omega
  have hz1c : w.heap.size + 1 + 1 < w1.heap.size := by omega
  have HH1 := Lib.hid hb.block
  obtain ⟨hc1, hf1⟩ := bcell hb
  clear hb hz1
  go_wp2
  all_goals (refine bodyPost_ret (v := .agg #[.int .i64 (sgn (x - a)), .int .i64 (sgn (y - b)), .int .i64 (sgn (z - c))]) (by simp [results, Tryz.results24, go_sem, *]) rfl ?_)
  all_goals (exact ⟨rfl, by first | assumption | go_grown⟩)
/-- the axis of a difference: 1, 2 or 3; 0 for none -/
def axisF (x y z : Int) : Int := if x ≠ 0 ∧ y = 0 ∧ z = 0 then 1 else if x = 0 ∧ y ≠ 0 ∧ z = 0 then 2 else if x = 0 ∧ y = 0 ∧ z ≠ 0 then 3 else 0
set_option maxRecDepth 20000 in
set_option maxHeartbeats 4000000 in
theorem axis_in (a b c x y z : Int) (w : World) (h : In3 a b c) (h2 : In3 x y z) :
    Calls Tryz.prog 89 #[.agg #[.int .i64 a, .int .i64 b, .int .i64 c], .agg #[.int .i64 x, .int .i64 y, .int .i64 z]] w fun e w' => e = .returned (.int .i64 (axisF (x - a) (y - b) (z - c))) ∧ Below w.heap.size w w' := by
  obtain ⟨R, hR⟩ : ∃ R, axisF (x - a) (y - b) (z - c) = R := ⟨_, rfl⟩
  rw [hR]
  have HR := Lib.hid hR
  clear hR
  by_cases gx : x - a = 0
  · have cx : (x - a = 0) = True := by simp; omega
    by_cases gy : y - b = 0
    · have cy : (y - b = 0) = True := by simp; omega
      by_cases gz : z - c = 0
      · have cz : (z - c = 0) = True := by simp; omega
        have kx : (x - a == 0) = true := by simp; omega
        have mx : (x - a != 0) = false := by simp; omega
        have ky : (y - b == 0) = true := by simp; omega
        have my : (y - b != 0) = false := by simp; omega
        have kz : (z - c == 0) = true := by simp; omega
        have mz : (z - c != 0) = false := by simp; omega
        have hr : R = 0 := HR.out.symm.trans (by unfold axisF; simp only [cx, cy, cz, ne_eq, not_true_eq_false, not_false_eq_true, and_true, true_and, and_false, false_and, and_self, if_true, if_false])
        subst hr
        clear cx cy cz
        go_enter Tryz.func89, Tryz.ntmps89
        go_wp2_with fail
        (go_at_call 61; refine (rSub_in _ h2 h).mono ?_; rintro e w1 ⟨rfl, hb⟩)
        have hB1 := below_step (w := w) (by first | assumption | go_grown) hb
        have hz1 := hb.size
        (try simp only [World.size_alloc, World.size_setCell] at hz1)
        have hz1a : w.heap.size < w1.heap.size := by omega
        have hz1b : w.heap.size + 1 < w1.heap.size := by omega
        have HH1 := Lib.hid hb.block
        obtain ⟨hc1, hf1⟩ := bcell hb
        clear hb hz1
        go_wp2
        go_returns
        exact ⟨rfl, by first | assumption | go_grown⟩
      · have cz : (z - c = 0) = False := by simp; omega
        have kx : (x - a == 0) = true := by simp; omega
        have mx : (x - a != 0) = false := by simp; omega
        have ky : (y - b == 0) = true := by simp; omega
        have my : (y - b != 0) = false := by simp; omega
        have kz : (z - c == 0) = false := by simp; omega
        have mz : (z - c != 0) = true := by simp; omega
        have hr : R = 3 := HR.out.symm.trans (by unfold axisF; simp only [cx, cy, cz, ne_eq, not_true_eq_false, not_false_eq_true, and_true, true_and, and_false, false_and, and_self, if_true, if_false])
        subst hr
        clear cx cy cz
        go_enter Tryz.func89, Tryz.ntmps89
        go_wp2_with fail
        (go_at_call 61; refine (rSub_in _ h2 h).mono ?_; rintro e w1 ⟨rfl, hb⟩)
        have hB1 := below_step (w := w) (by first | assumption | go_grown) hb
        have hz1 := hb.size
        (try simp only [World.size_alloc, World.size_setCell] at hz1)
        have hz1a : w.heap.size < w1.heap.size := by omega
        have hz1b : w.heap.size + 1 < w1.heap.size := by omega
        have HH1 := Lib.hid hb.block
        obtain ⟨hc1, hf1⟩ := bcell hb
        clear hb hz1
        go_wp2
        go_returns
        exact ⟨rfl, by first | assumption | go_grown⟩
    · have cy : (y - b = 0) = False := by simp; omega
      by_cases gz : z - c = 0
      · have cz : (z - c = 0) = True := by simp; omega
        have kx : (x - a == 0) = true := by simp; omega
        have mx : (x - a != 0) = false := by simp; omega
        have ky : (y - b == 0) = false := by simp; omega
        have my : (y - b != 0) = true := by simp; omega
        have kz : (z - c == 0) = true := by simp; omega
        have mz : (z - c != 0) = false := by simp; omega
        have hr : R = 2 := HR.out.symm.trans (by unfold axisF; simp only [cx, cy, cz, ne_eq, not_true_eq_false, not_false_eq_true, and_true, true_and, and_false, false_and, and_self, if_true, if_false])
        subst hr
        clear cx cy cz
        go_enter Tryz.func89, Tryz.ntmps89
        go_wp2_with fail
        (go_at_call 61; refine (rSub_in _ h2 h).mono ?_; rintro e w1 ⟨rfl, hb⟩)
        have hB1 := below_step (w := w) (by first | assumption | go_grown) hb
        have hz1 := hb.size
        (try simp only [World.size_alloc, World.size_setCell] at hz1)
        have hz1a : w.heap.size < w1.heap.size := by omega
        have hz1b : w.heap.size + 1 < w1.heap.size := by omega
        have HH1 := Lib.hid hb.block
        obtain ⟨hc1, hf1⟩ := bcell hb
        clear hb hz1
        go_wp2
        go_returns
        exact ⟨rfl, by first | assumption | go_grown⟩
      · have cz : (z - c = 0) = False := by simp; omega
        have kx : (x - a == 0) = true := by simp; omega
        have mx : (x - a != 0) = false := by simp; omega
        have ky : (y - b == 0) = false := by simp; omega
        have my : (y - b != 0) = true := by simp; omega
        have kz : (z - c == 0) = false := by simp; omega
        have mz : (z - c != 0) = true := by simp; omega
        have hr : R = 0 := HR.out.symm.trans (by unfold axisF; simp only [cx, cy, cz, ne_eq, not_true_eq_false, not_false_eq_true, and_true, true_and, and_false, false_and, and_self, if_true, if_false])
        subst hr
        clear cx cy cz
        go_enter Tryz.func89, Tryz.ntmps89
        go_wp2_with fail
        (go_at_call 61; refine (rSub_in _ h2 h).mono ?_; rintro e w1 ⟨rfl, hb⟩)
        have hB1 := below_step (w := w) (by first | assumption | go_grown) hb
        have hz1 := hb.size
        (try simp only [World.size_alloc, World.size_setCell] at hz1)
        have hz1a : w.heap.size < w1.heap.size := by omega
        have hz1b : w.heap.size + 1 < w1.heap.size := by omega
        have HH1 := Lib.hid hb.block
        obtain ⟨hc1, hf1⟩ := bcell hb
        clear hb hz1
        go_wp2
        go_returns
        exact ⟨rfl, by first | assumption | go_grown⟩
  · have cx : (x - a = 0) = False := by simp; omega
    by_cases gy : y - b = 0
    · have cy : (y - b = 0) = True := by simp; omega
      by_cases gz : z - c = 0
      · have cz : (z - c = 0) = True := by simp; omega
        have kx : (x - a == 0) = false := by simp; omega
        have mx : (x - a != 0) = true := by simp; omega
        have ky : (y - b == 0) = true := by simp; omega
        have my : (y - b != 0) = false := by simp; omega
        have kz : (z - c == 0) = true := by simp; omega
        have mz : (z - c != 0) = false := by simp; omega
        have hr : R = 1 := HR.out.symm.trans (by unfold axisF; simp only [cx, cy, cz, ne_eq, not_true_eq_false, not_false_eq_true, and_true, true_and, and_false, false_and, and_self, if_true, if_false])
        subst hr
        clear cx cy cz
        go_enter Tryz.func89, Tryz.ntmps89
        go_wp2_with fail
        (go_at_call 61; refine (rSub_in _ h2 h).mono ?_; rintro e w1 ⟨rfl, hb⟩)
        have hB1 := below_step (w := w) (by first | assumption | go_grown) hb
        have hz1 := hb.size
        (try simp only [World.size_alloc, World.size_setCell] at hz1)
        have hz1a : w.heap.size < w1.heap.size := by omega
        have hz1b : w.heap.size + 1 < w1.heap.size := by omega
        have HH1 := Lib.hid hb.block
        obtain ⟨hc1, hf1⟩ := bcell hb
        clear hb hz1
        go_wp2
        go_returns
        exact ⟨rfl, by first | assumption | go_grown⟩
      · have cz : (z - c = 0) = False := by simp; omega
        have kx : (x - a == 0) = false := by simp; omega
        have mx : (x - a != 0) = true := by simp; omega
        have ky : (y - b == 0) = true := by simp; omega
        have my : (y - b != 0) = false := by simp; omega
        have kz : (z - c == 0) = false := by simp; omega
        have mz : (z - c != 0) = true := by simp; omega
        have hr : R = 0 := HR.out.symm.trans (by unfold axisF; simp only [cx, cy, cz, ne_eq, not_true_eq_false, not_false_eq_true, and_true, true_and, and_false, false_and, and_self, if_true, if_false])
        subst hr
        clear cx cy cz
        go_enter Tryz.func89, Tryz.ntmps89
        go_wp2_with fail
        (go_at_call 61; refine (rSub_in _ h2 h).mono ?_; rintro e w1 ⟨rfl, hb⟩)
        have hB1 := below_step (w := w) (by first | assumption | go_grown) hb
        have hz1 := hb.size
        (try simp only [World.size_alloc, World.size_setCell] at hz1)
        have hz1a : w.heap.size < w1.heap.size := by omega
        have hz1b : w.heap.size + 1 < w1.heap.size := by omega
        have HH1 := Lib.hid hb.block
        obtain ⟨hc1, hf1⟩ := bcell hb
        clear hb hz1
        go_wp2
        go_returns
        exact ⟨rfl, by first | assumption | go_grown⟩
    · have cy : (y - b = 0) = False := by simp; omega
      by_cases gz : z - c = 0
      · have cz : (z - c = 0) = True := by simp; omega
        have kx : (x - a == 0) = false := by simp; omega
        have mx : (x - a != 0) = true := by simp; omega
        have ky : (y - b == 0) = false := by simp; omega
        have my : (y - b != 0) = true := by simp; omega
        have kz : (z - c == 0) = true := by simp; omega
        have mz : (z - c != 0) = false := by simp; omega
        have hr : R = 0 := HR.out.symm.trans (by unfold axisF; simp only [cx, cy, cz, ne_eq, not_true_eq_false, not_false_eq_true, and_true, true_and, and_false, false_and, and_self, if_true, if_false])
        subst hr
        clear cx cy cz
        go_enter Tryz.func89, Tryz.ntmps89
        go_wp2_with fail
        (go_at_call 61; refine (rSub_in _ h2 h).mono ?_; rintro e w1 ⟨rfl, hb⟩)
        have hB1 := below_step (w := w) (by first | assumption | go_grown) hb
        have hz1 := hb.size
        (try simp only [World.size_alloc, World.size_setCell] at hz1)
        have hz1a : w.heap.size < w1.heap.size := by omega
        have hz1b : w.heap.size + 1 < w1.heap.size := by omega
        have HH1 := Lib.hid hb.block
        obtain ⟨hc1, hf1⟩ := bcell hb
        clear hb hz1
        go_wp2
        go_returns
        exact ⟨rfl, by first | assumption | go_grown⟩
      · have cz : (z - c = 0) = False := by simp; omega
        have kx : (x - a == 0) = false := by simp; omega
        have mx : (x - a != 0) = true := by simp; omega
        have ky : (y - b == 0) = false := by simp; omega
        have my : (y - b != 0) = true := by simp; omega
        have kz : (z - c == 0) = false := by simp; omega
        have mz : (z - c != 0) = true := by simp; omega
        have hr : R = 0 := HR.out.symm.trans (by unfold axisF; simp only [cx, cy, cz, ne_eq, not_true_eq_false, not_false_eq_true, and_true, true_and, and_false, false_and, and_self, if_true, if_false])
        subst hr
        clear cx cy cz
        go_enter Tryz.func89, Tryz.ntmps89
        go_wp2_with fail
        (go_at_call 61; refine (rSub_in _ h2 h).mono ?_; rintro e w1 ⟨rfl, hb⟩)
        have hB1 := below_step (w := w) (by first | assumption | go_grown) hb
        have hz1 := hb.size
        (try simp only [World.size_alloc, World.size_setCell] at hz1)
        have hz1a : w.heap.size < w1.heap.size := by omega
        have hz1b : w.heap.size + 1 < w1.heap.size := by omega
        have HH1 := Lib.hid hb.block
        obtain ⟨hc1, hf1⟩ := bcell hb
        clear hb hz1
        go_wp2
        go_returns
        exact ⟨rfl, by first | assumption | go_grown⟩
end Go.Proofs.YtgbhhjdmochhpaaGreatDoor
