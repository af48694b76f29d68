/-
  A point is in the common box exactly if it is in both boxes. Conditions: none (the card ties the variable probe to the program's text). By an AI agent.
-/
import Derived.Test.YtcfohnhieajhnaaDoorRow
import Derived.Test.YtcfohnhieajhnaaDoorLaws2
namespace Go.Proofs.YtcfohnhieajhnaaDoor
open Go.ChangeShapes Go.WideShapes Go.ChangeAt Go.RowKit
set_option linter.unusedSimpArgs false
set_option linter.unusedVariables false

theorem Meet_not (a1 a2 a3 a4 a5 a6 b1 b2 b3 b4 b5 b6 : Int) (w : World) (h : ¬ (mx a1 b1 ≤ mn a4 b4 ∧ mx a2 b2 ≤ mn a5 b5 ∧ mx a3 b3 ≤ mn a6 b6)) :
    Calls Tryd.prog 16 #[.agg #[.int .i64 a1, .int .i64 a2, .int .i64 a3, .int .i64 a4, .int .i64 a5, .int .i64 a6], .agg #[.int .i64 b1, .int .i64 b2, .int .i64 b3, .int .i64 b4, .int .i64 b5, .int .i64 b6]] w fun e w' => e = .returned (.tuple #[.agg #[.int .i64 0, .int .i64 0, .int .i64 0, .int .i64 0, .int .i64 0, .int .i64 0], .bool false]) ∧ Below w.heap.size w w' := by
  have h1 := Meet_any a1 a2 a3 a4 a5 a6 b1 b2 b3 b4 b5 b6 w
  rw [show meetF a1 a2 a3 a4 a5 a6 b1 b2 b3 b4 b5 b6 = (zeroV, zeroV) from if_neg h, show meetsF a1 a2 a3 a4 a5 a6 b1 b2 b3 b4 b5 b6 = false from decide_eq_false h] at h1
  exact h1

set_option maxRecDepth 100000 in
set_option maxHeartbeats 2000000 in
theorem vecBoxes_m1 (a1 a2 a3 a4 a5 a6 b1 b2 b3 b4 b5 b6 x y z : Int) (w : World) (hp : ProbeIs w) (hm : mx a1 b1 ≤ mn a4 b4 ∧ mx a2 b2 ≤ mn a5 b5 ∧ mx a3 b3 ≤ mn a6 b6) (hA : InBox a1 a2 a3 a4 a5 a6 x y z) (hB : InBox b1 b2 b3 b4 b5 b6 x y z) :
    Calls Tryd.prog 8 #[.agg #[.int .i64 a1, .int .i64 a2, .int .i64 a3, .int .i64 a4, .int .i64 a5, .int .i64 a6], .agg #[.int .i64 b1, .int .i64 b2, .int .i64 b3, .int .i64 b4, .int .i64 b5, .int .i64 b6], .agg #[.int .i64 x, .int .i64 y, .int .i64 z]] w fun e w' => e = .returned (.bool true) ∧ Below w.heap.size w w' := by
  have him : InBox (mx a1 b1) (mx a2 b2) (mx a3 b3) (mn a4 b4) (mn a5 b5) (mn a6 b6) x y z := box_both.2 ⟨hA, hB⟩
  have hm' := hm
  obtain ⟨g1, g2, g3⟩ := hm'
  have hlo : InBox (mx a1 b1) (mx a2 b2) (mx a3 b3) (mn a4 b4) (mn a5 b5) (mn a6 b6) (mx a1 b1) (mx a2 b2) (mx a3 b3) := by unfold InBox; omega
  have hhi : InBox (mx a1 b1) (mx a2 b2) (mx a3 b3) (mn a4 b4) (mn a5 b5) (mn a6 b6) (mn a4 b4) (mn a5 b5) (mn a6 b6) := by unfold InBox; omega
  have HM := Lib.hid hm
  clear hm g1 g2 g3
  have HI := Lib.hid him
  clear him
  have Hhlo := Lib.hid hlo
  clear hlo
  have Hhhi := Lib.hid hhi
  clear hhi
  have HhA := Lib.hid hA
  clear hA
  have HhB := Lib.hid hB
  clear hB
  have hpc := past_cell
  have HP := Lib.hid hp
  clear hp
  go_enter Tryd.func8, Tryd.ntmps8
  go_wp2_with fail
  (go_at_call 16; refine (Meet_yes _ _ _ _ _ _ _ _ _ _ _ _ _  HM.out.1 HM.out.2.1 HM.out.2.2).mono ?_; rintro e w1 ⟨rfl, hb⟩)
  have hB1 := below_step (w := w) (by first | assumption | go_grown) hb
  have hz1 := hb.size
  (try simp only [World.size_alloc, World.size_setCell] at hz1)
  have hz1a : w.heap.size < w1.heap.size := by omega
  have hz1b : w.heap.size + 1 < w1.heap.size := by omega
  have hz1c : w.heap.size + 1 + 1 < w1.heap.size := by omega
  obtain ⟨hc1, hf1⟩ := bcell hb
  clear hb hz1
  go_wp2_with fail
  (go_at_call 25; refine (inside_yes _ _ _ _ _ _ _ _ _ _ HhA.out).mono ?_; rintro e w2 ⟨rfl, hb⟩)
  have hB2 := below_step (w := w) (by first | assumption | go_grown) hb
  have hz2 := hb.size
  (try simp only [World.size_alloc, World.size_setCell] at hz2)
  have hz2a : w.heap.size < w2.heap.size := by omega
  have hz2b : w.heap.size + 1 < w2.heap.size := by omega
  have hz2c : w.heap.size + 1 + 1 < w2.heap.size := by omega
  have hz2d : w1.heap.size < w2.heap.size := by omega
  obtain ⟨hc2, hf2⟩ := bcell hb
  clear hb hz2
  go_wp2_with fail
  (go_at_call 25; refine (inside_yes _ _ _ _ _ _ _ _ _ _ HhB.out).mono ?_; rintro e w3 ⟨rfl, hb⟩)
  have hB3 := below_step (w := w) (by first | assumption | go_grown) hb
  have hz3 := hb.size
  (try simp only [World.size_alloc, World.size_setCell] at hz3)
  have hz3a : w.heap.size < w3.heap.size := by omega
  have hz3b : w.heap.size + 1 < w3.heap.size := by omega
  have hz3c : w.heap.size + 1 + 1 < w3.heap.size := by omega
  have hz3d : w1.heap.size < w3.heap.size := by omega
  obtain ⟨hc3, hf3⟩ := bcell hb
  clear hb hz3
  go_wp2_with fail
  (go_at_call 25; refine (inside_yes _ _ _ _ _ _ _ _ _ _ HI.out).mono ?_; rintro e w4 ⟨rfl, hb⟩)
  have hB4 := below_step (w := w) (by first | assumption | go_grown) hb
  have hz4 := hb.size
  (try simp only [World.size_alloc, World.size_setCell] at hz4)
  have hz4a : w.heap.size < w4.heap.size := by omega
  have hz4b : w.heap.size + 1 < w4.heap.size := by omega
  have hz4c : w.heap.size + 1 + 1 < w4.heap.size := by omega
  have hz4d : w1.heap.size < w4.heap.size := by omega
  obtain ⟨hc4, hf4⟩ := bcell hb
  clear hb hz4
  go_wp2_with fail
  (go_at_call 25; refine (inside_yes _ _ _ _ _ _ _ _ _ _ Hhlo.out).mono ?_; rintro e w5 ⟨rfl, hb⟩)
  have hB5 := below_step (w := w) (by first | assumption | go_grown) hb
  have hz5 := hb.size
  (try simp only [World.size_alloc, World.size_setCell] at hz5)
  have hz5a : w.heap.size < w5.heap.size := by omega
  have hz5b : w.heap.size + 1 < w5.heap.size := by omega
  have hz5c : w.heap.size + 1 + 1 < w5.heap.size := by omega
  have hz5d : w1.heap.size < w5.heap.size := by omega
  obtain ⟨hc5, hf5⟩ := bcell hb
  clear hb hz5
  go_wp2_with fail
  (go_at_call 25; refine (inside_yes _ _ _ _ _ _ _ _ _ _ Hhhi.out).mono ?_; rintro e w6 ⟨rfl, hb⟩)
  have hB6 := below_step (w := w) (by first | assumption | go_grown) hb
  have hz6 := hb.size
  (try simp only [World.size_alloc, World.size_setCell] at hz6)
  have hz6a : w.heap.size < w6.heap.size := by omega
  have hz6b : w.heap.size + 1 < w6.heap.size := by omega
  have hz6c : w.heap.size + 1 + 1 < w6.heap.size := by omega
  have hz6d : w1.heap.size < w6.heap.size := by omega
  obtain ⟨hc6, hf6⟩ := bcell hb
  clear hb hz6
  go_wp2_with fail
  (go_at_call 15; refine (awake_any _ (HP.out.below (by first | assumption | go_grown))).mono ?_; rintro e w9 ⟨rfl, hb9⟩; have hB9 := below_step (w := w) (by first | assumption | go_grown) hb9; clear hb9)
  go_wp2
  go_returns
  exact ⟨rfl, by first | assumption | go_grown⟩

set_option maxRecDepth 100000 in
set_option maxHeartbeats 2000000 in
theorem vecBoxes_m2 (a1 a2 a3 a4 a5 a6 b1 b2 b3 b4 b5 b6 x y z : Int) (w : World) (hp : ProbeIs w) (hm : mx a1 b1 ≤ mn a4 b4 ∧ mx a2 b2 ≤ mn a5 b5 ∧ mx a3 b3 ≤ mn a6 b6) (hA : InBox a1 a2 a3 a4 a5 a6 x y z) (hB : ¬ InBox b1 b2 b3 b4 b5 b6 x y z) :
    Calls Tryd.prog 8 #[.agg #[.int .i64 a1, .int .i64 a2, .int .i64 a3, .int .i64 a4, .int .i64 a5, .int .i64 a6], .agg #[.int .i64 b1, .int .i64 b2, .int .i64 b3, .int .i64 b4, .int .i64 b5, .int .i64 b6], .agg #[.int .i64 x, .int .i64 y, .int .i64 z]] w fun e w' => e = .returned (.bool true) ∧ Below w.heap.size w w' := by
  have him : ¬ InBox (mx a1 b1) (mx a2 b2) (mx a3 b3) (mn a4 b4) (mn a5 b5) (mn a6 b6) x y z := fun h => hB (box_both.1 h).2
  have hm' := hm
  obtain ⟨g1, g2, g3⟩ := hm'
  have hlo : InBox (mx a1 b1) (mx a2 b2) (mx a3 b3) (mn a4 b4) (mn a5 b5) (mn a6 b6) (mx a1 b1) (mx a2 b2) (mx a3 b3) := by unfold InBox; omega
  have hhi : InBox (mx a1 b1) (mx a2 b2) (mx a3 b3) (mn a4 b4) (mn a5 b5) (mn a6 b6) (mn a4 b4) (mn a5 b5) (mn a6 b6) := by unfold InBox; omega
  have HM := Lib.hid hm
  clear hm g1 g2 g3
  have HI := Lib.hid him
  clear him
  have Hhlo := Lib.hid hlo
  clear hlo
  have Hhhi := Lib.hid hhi
  clear hhi
  have HhA := Lib.hid hA
  clear hA
  have HhB := Lib.hid hB
  clear hB
  have hpc := past_cell
  have HP := Lib.hid hp
  clear hp
  go_enter Tryd.func8, Tryd.ntmps8
  go_wp2_with fail
  (go_at_call 16; refine (Meet_yes _ _ _ _ _ _ _ _ _ _ _ _ _  HM.out.1 HM.out.2.1 HM.out.2.2).mono ?_; rintro e w1 ⟨rfl, hb⟩)
  have hB1 := below_step (w := w) (by first | assumption | go_grown) hb
  have hz1 := hb.size
  (try simp only [World.size_alloc, World.size_setCell] at hz1)
  have hz1a : w.heap.size < w1.heap.size := by omega
  have hz1b : w.heap.size + 1 < w1.heap.size := by omega
  have hz1c : w.heap.size + 1 + 1 < w1.heap.size := by omega
  obtain ⟨hc1, hf1⟩ := bcell hb
  clear hb hz1
  go_wp2_with fail
  (go_at_call 25; refine (inside_yes _ _ _ _ _ _ _ _ _ _ HhA.out).mono ?_; rintro e w2 ⟨rfl, hb⟩)
  have hB2 := below_step (w := w) (by first | assumption | go_grown) hb
  have hz2 := hb.size
  (try simp only [World.size_alloc, World.size_setCell] at hz2)
  have hz2a : w.heap.size < w2.heap.size := by omega
  have hz2b : w.heap.size + 1 < w2.heap.size := by omega
  have hz2c : w.heap.size + 1 + 1 < w2.heap.size := by omega
  have hz2d : w1.heap.size < w2.heap.size := by omega
  obtain ⟨hc2, hf2⟩ := bcell hb
  clear hb hz2
  go_wp2_with fail
  (go_at_call 25; refine (inside_no _ _ _ _ _ _ _ _ _ _ HhB.out).mono ?_; rintro e w3 ⟨rfl, hb⟩)
  have hB3 := below_step (w := w) (by first | assumption | go_grown) hb
  have hz3 := hb.size
  (try simp only [World.size_alloc, World.size_setCell] at hz3)
  have hz3a : w.heap.size < w3.heap.size := by omega
  have hz3b : w.heap.size + 1 < w3.heap.size := by omega
  have hz3c : w.heap.size + 1 + 1 < w3.heap.size := by omega
  have hz3d : w1.heap.size < w3.heap.size := by omega
  obtain ⟨hc3, hf3⟩ := bcell hb
  clear hb hz3
  go_wp2_with fail
  (go_at_call 25; refine (inside_no _ _ _ _ _ _ _ _ _ _ HI.out).mono ?_; rintro e w4 ⟨rfl, hb⟩)
  have hB4 := below_step (w := w) (by first | assumption | go_grown) hb
  have hz4 := hb.size
  (try simp only [World.size_alloc, World.size_setCell] at hz4)
  have hz4a : w.heap.size < w4.heap.size := by omega
  have hz4b : w.heap.size + 1 < w4.heap.size := by omega
  have hz4c : w.heap.size + 1 + 1 < w4.heap.size := by omega
  have hz4d : w1.heap.size < w4.heap.size := by omega
  obtain ⟨hc4, hf4⟩ := bcell hb
  clear hb hz4
  go_wp2_with fail
  (go_at_call 25; refine (inside_yes _ _ _ _ _ _ _ _ _ _ Hhlo.out).mono ?_; rintro e w5 ⟨rfl, hb⟩)
  have hB5 := below_step (w := w) (by first | assumption | go_grown) hb
  have hz5 := hb.size
  (try simp only [World.size_alloc, World.size_setCell] at hz5)
  have hz5a : w.heap.size < w5.heap.size := by omega
  have hz5b : w.heap.size + 1 < w5.heap.size := by omega
  have hz5c : w.heap.size + 1 + 1 < w5.heap.size := by omega
  have hz5d : w1.heap.size < w5.heap.size := by omega
  obtain ⟨hc5, hf5⟩ := bcell hb
  clear hb hz5
  go_wp2_with fail
  (go_at_call 25; refine (inside_yes _ _ _ _ _ _ _ _ _ _ Hhhi.out).mono ?_; rintro e w6 ⟨rfl, hb⟩)
  have hB6 := below_step (w := w) (by first | assumption | go_grown) hb
  have hz6 := hb.size
  (try simp only [World.size_alloc, World.size_setCell] at hz6)
  have hz6a : w.heap.size < w6.heap.size := by omega
  have hz6b : w.heap.size + 1 < w6.heap.size := by omega
  have hz6c : w.heap.size + 1 + 1 < w6.heap.size := by omega
  have hz6d : w1.heap.size < w6.heap.size := by omega
  obtain ⟨hc6, hf6⟩ := bcell hb
  clear hb hz6
  go_wp2_with fail
  (go_at_call 15; refine (awake_any _ (HP.out.below (by first | assumption | go_grown))).mono ?_; rintro e w9 ⟨rfl, hb9⟩; have hB9 := below_step (w := w) (by first | assumption | go_grown) hb9; clear hb9)
  go_wp2
  go_returns
  exact ⟨rfl, by first | assumption | go_grown⟩

set_option maxRecDepth 100000 in
set_option maxHeartbeats 2000000 in
theorem vecBoxes_m3 (a1 a2 a3 a4 a5 a6 b1 b2 b3 b4 b5 b6 x y z : Int) (w : World) (hp : ProbeIs w) (hm : mx a1 b1 ≤ mn a4 b4 ∧ mx a2 b2 ≤ mn a5 b5 ∧ mx a3 b3 ≤ mn a6 b6) (hA : ¬ InBox a1 a2 a3 a4 a5 a6 x y z) :
    Calls Tryd.prog 8 #[.agg #[.int .i64 a1, .int .i64 a2, .int .i64 a3, .int .i64 a4, .int .i64 a5, .int .i64 a6], .agg #[.int .i64 b1, .int .i64 b2, .int .i64 b3, .int .i64 b4, .int .i64 b5, .int .i64 b6], .agg #[.int .i64 x, .int .i64 y, .int .i64 z]] w fun e w' => e = .returned (.bool true) ∧ Below w.heap.size w w' := by
  have him : ¬ InBox (mx a1 b1) (mx a2 b2) (mx a3 b3) (mn a4 b4) (mn a5 b5) (mn a6 b6) x y z := fun h => hA (box_both.1 h).1
  have hm' := hm
  obtain ⟨g1, g2, g3⟩ := hm'
  have hlo : InBox (mx a1 b1) (mx a2 b2) (mx a3 b3) (mn a4 b4) (mn a5 b5) (mn a6 b6) (mx a1 b1) (mx a2 b2) (mx a3 b3) := by unfold InBox; omega
  have hhi : InBox (mx a1 b1) (mx a2 b2) (mx a3 b3) (mn a4 b4) (mn a5 b5) (mn a6 b6) (mn a4 b4) (mn a5 b5) (mn a6 b6) := by unfold InBox; omega
  have HM := Lib.hid hm
  clear hm g1 g2 g3
  have HI := Lib.hid him
  clear him
  have Hhlo := Lib.hid hlo
  clear hlo
  have Hhhi := Lib.hid hhi
  clear hhi
  have HhA := Lib.hid hA
  clear hA
  have hpc := past_cell
  have HP := Lib.hid hp
  clear hp
  go_enter Tryd.func8, Tryd.ntmps8
  go_wp2_with fail
  (go_at_call 16; refine (Meet_yes _ _ _ _ _ _ _ _ _ _ _ _ _  HM.out.1 HM.out.2.1 HM.out.2.2).mono ?_; rintro e w1 ⟨rfl, hb⟩)
  have hB1 := below_step (w := w) (by first | assumption | go_grown) hb
  have hz1 := hb.size
  (try simp only [World.size_alloc, World.size_setCell] at hz1)
  have hz1a : w.heap.size < w1.heap.size := by omega
  have hz1b : w.heap.size + 1 < w1.heap.size := by omega
  have hz1c : w.heap.size + 1 + 1 < w1.heap.size := by omega
  obtain ⟨hc1, hf1⟩ := bcell hb
  clear hb hz1
  go_wp2_with fail
  (go_at_call 25; refine (inside_no _ _ _ _ _ _ _ _ _ _ HhA.out).mono ?_; rintro e w2 ⟨rfl, hb⟩)
  have hB2 := below_step (w := w) (by first | assumption | go_grown) hb
  have hz2 := hb.size
  (try simp only [World.size_alloc, World.size_setCell] at hz2)
  have hz2a : w.heap.size < w2.heap.size := by omega
  have hz2b : w.heap.size + 1 < w2.heap.size := by omega
  have hz2c : w.heap.size + 1 + 1 < w2.heap.size := by omega
  have hz2d : w1.heap.size < w2.heap.size := by omega
  obtain ⟨hc2, hf2⟩ := bcell hb
  clear hb hz2
  go_wp2_with fail
  (go_at_call 25; refine (inside_no _ _ _ _ _ _ _ _ _ _ HI.out).mono ?_; rintro e w3 ⟨rfl, hb⟩)
  have hB3 := below_step (w := w) (by first | assumption | go_grown) hb
  have hz3 := hb.size
  (try simp only [World.size_alloc, World.size_setCell] at hz3)
  have hz3a : w.heap.size < w3.heap.size := by omega
  have hz3b : w.heap.size + 1 < w3.heap.size := by omega
  have hz3c : w.heap.size + 1 + 1 < w3.heap.size := by omega
  have hz3d : w1.heap.size < w3.heap.size := by omega
  obtain ⟨hc3, hf3⟩ := bcell hb
  clear hb hz3
  go_wp2_with fail
  (go_at_call 25; refine (inside_yes _ _ _ _ _ _ _ _ _ _ Hhlo.out).mono ?_; rintro e w4 ⟨rfl, hb⟩)
  have hB4 := below_step (w := w) (by first | assumption | go_grown) hb
  have hz4 := hb.size
  (try simp only [World.size_alloc, World.size_setCell] at hz4)
  have hz4a : w.heap.size < w4.heap.size := by omega
  have hz4b : w.heap.size + 1 < w4.heap.size := by omega
  have hz4c : w.heap.size + 1 + 1 < w4.heap.size := by omega
  have hz4d : w1.heap.size < w4.heap.size := by omega
  obtain ⟨hc4, hf4⟩ := bcell hb
  clear hb hz4
  go_wp2_with fail
  (go_at_call 25; refine (inside_yes _ _ _ _ _ _ _ _ _ _ Hhhi.out).mono ?_; rintro e w5 ⟨rfl, hb⟩)
  have hB5 := below_step (w := w) (by first | assumption | go_grown) hb
  have hz5 := hb.size
  (try simp only [World.size_alloc, World.size_setCell] at hz5)
  have hz5a : w.heap.size < w5.heap.size := by omega
  have hz5b : w.heap.size + 1 < w5.heap.size := by omega
  have hz5c : w.heap.size + 1 + 1 < w5.heap.size := by omega
  have hz5d : w1.heap.size < w5.heap.size := by omega
  obtain ⟨hc5, hf5⟩ := bcell hb
  clear hb hz5
  go_wp2_with fail
  (go_at_call 15; refine (awake_any _ (HP.out.below (by first | assumption | go_grown))).mono ?_; rintro e w9 ⟨rfl, hb9⟩; have hB9 := below_step (w := w) (by first | assumption | go_grown) hb9; clear hb9)
  go_wp2
  go_returns
  exact ⟨rfl, by first | assumption | go_grown⟩

set_option maxRecDepth 100000 in
set_option maxHeartbeats 2000000 in
theorem vecBoxes_n2 (a1 a2 a3 a4 a5 a6 b1 b2 b3 b4 b5 b6 x y z : Int) (w : World) (hp : ProbeIs w) (hm : ¬ (mx a1 b1 ≤ mn a4 b4 ∧ mx a2 b2 ≤ mn a5 b5 ∧ mx a3 b3 ≤ mn a6 b6)) (hA : InBox a1 a2 a3 a4 a5 a6 x y z) (hB : ¬ InBox b1 b2 b3 b4 b5 b6 x y z) :
    Calls Tryd.prog 8 #[.agg #[.int .i64 a1, .int .i64 a2, .int .i64 a3, .int .i64 a4, .int .i64 a5, .int .i64 a6], .agg #[.int .i64 b1, .int .i64 b2, .int .i64 b3, .int .i64 b4, .int .i64 b5, .int .i64 b6], .agg #[.int .i64 x, .int .i64 y, .int .i64 z]] w fun e w' => e = .returned (.bool true) ∧ Below w.heap.size w w' := by
  have HM := Lib.hid hm
  clear hm
  have HhA := Lib.hid hA
  clear hA
  have HhB := Lib.hid hB
  clear hB
  have hpc := past_cell
  have HP := Lib.hid hp
  clear hp
  go_enter Tryd.func8, Tryd.ntmps8
  go_wp2_with fail
  (go_at_call 16; refine (Meet_not _ _ _ _ _ _ _ _ _ _ _ _ _  HM.out).mono ?_; rintro e w1 ⟨rfl, hb⟩)
  have hB1 := below_step (w := w) (by first | assumption | go_grown) hb
  have hz1 := hb.size
  (try simp only [World.size_alloc, World.size_setCell] at hz1)
  have hz1a : w.heap.size < w1.heap.size := by omega
  have hz1b : w.heap.size + 1 < w1.heap.size := by omega
  have hz1c : w.heap.size + 1 + 1 < w1.heap.size := by omega
  obtain ⟨hc1, hf1⟩ := bcell hb
  clear hb hz1
  go_wp2_with fail
  (go_at_call 25; refine (inside_yes _ _ _ _ _ _ _ _ _ _ HhA.out).mono ?_; rintro e w2 ⟨rfl, hb⟩)
  have hB2 := below_step (w := w) (by first | assumption | go_grown) hb
  have hz2 := hb.size
  (try simp only [World.size_alloc, World.size_setCell] at hz2)
  have hz2a : w.heap.size < w2.heap.size := by omega
  have hz2b : w.heap.size + 1 < w2.heap.size := by omega
  have hz2c : w.heap.size + 1 + 1 < w2.heap.size := by omega
  have hz2d : w1.heap.size < w2.heap.size := by omega
  obtain ⟨hc2, hf2⟩ := bcell hb
  clear hb hz2
  go_wp2_with fail
  (go_at_call 25; refine (inside_no _ _ _ _ _ _ _ _ _ _ HhB.out).mono ?_; rintro e w3 ⟨rfl, hb⟩)
  have hB3 := below_step (w := w) (by first | assumption | go_grown) hb
  have hz3 := hb.size
  (try simp only [World.size_alloc, World.size_setCell] at hz3)
  have hz3a : w.heap.size < w3.heap.size := by omega
  have hz3b : w.heap.size + 1 < w3.heap.size := by omega
  have hz3c : w.heap.size + 1 + 1 < w3.heap.size := by omega
  have hz3d : w1.heap.size < w3.heap.size := by omega
  obtain ⟨hc3, hf3⟩ := bcell hb
  clear hb hz3
  go_wp2_with fail
  (go_at_call 15; refine (awake_any _ (HP.out.below (by first | assumption | go_grown))).mono ?_; rintro e w9 ⟨rfl, hb9⟩; have hB9 := below_step (w := w) (by first | assumption | go_grown) hb9; clear hb9)
  go_wp2
  go_returns
  exact ⟨rfl, by first | assumption | go_grown⟩

set_option maxRecDepth 100000 in
set_option maxHeartbeats 2000000 in
theorem vecBoxes_n3 (a1 a2 a3 a4 a5 a6 b1 b2 b3 b4 b5 b6 x y z : Int) (w : World) (hp : ProbeIs w) (hm : ¬ (mx a1 b1 ≤ mn a4 b4 ∧ mx a2 b2 ≤ mn a5 b5 ∧ mx a3 b3 ≤ mn a6 b6)) (hA : ¬ InBox a1 a2 a3 a4 a5 a6 x y z) :
    Calls Tryd.prog 8 #[.agg #[.int .i64 a1, .int .i64 a2, .int .i64 a3, .int .i64 a4, .int .i64 a5, .int .i64 a6], .agg #[.int .i64 b1, .int .i64 b2, .int .i64 b3, .int .i64 b4, .int .i64 b5, .int .i64 b6], .agg #[.int .i64 x, .int .i64 y, .int .i64 z]] w fun e w' => e = .returned (.bool true) ∧ Below w.heap.size w w' := by
  have HM := Lib.hid hm
  clear hm
  have HhA := Lib.hid hA
  clear hA
  have hpc := past_cell
  have HP := Lib.hid hp
  clear hp
  go_enter Tryd.func8, Tryd.ntmps8
  go_wp2_with fail
  (go_at_call 16; refine (Meet_not _ _ _ _ _ _ _ _ _ _ _ _ _  HM.out).mono ?_; rintro e w1 ⟨rfl, hb⟩)
  have hB1 := below_step (w := w) (by first | assumption | go_grown) hb
  have hz1 := hb.size
  (try simp only [World.size_alloc, World.size_setCell] at hz1)
  have hz1a : w.heap.size < w1.heap.size := by omega
  have hz1b : w.heap.size + 1 < w1.heap.size := by omega
  have hz1c : w.heap.size + 1 + 1 < w1.heap.size := by omega
  obtain ⟨hc1, hf1⟩ := bcell hb
  clear hb hz1
  go_wp2_with fail
  (go_at_call 25; refine (inside_no _ _ _ _ _ _ _ _ _ _ HhA.out).mono ?_; rintro e w2 ⟨rfl, hb⟩)
  have hB2 := below_step (w := w) (by first | assumption | go_grown) hb
  have hz2 := hb.size
  (try simp only [World.size_alloc, World.size_setCell] at hz2)
  have hz2a : w.heap.size < w2.heap.size := by omega
  have hz2b : w.heap.size + 1 < w2.heap.size := by omega
  have hz2c : w.heap.size + 1 + 1 < w2.heap.size := by omega
  have hz2d : w1.heap.size < w2.heap.size := by omega
  obtain ⟨hc2, hf2⟩ := bcell hb
  clear hb hz2
  go_wp2_with fail
  (go_at_call 15; refine (awake_any _ (HP.out.below (by first | assumption | go_grown))).mono ?_; rintro e w9 ⟨rfl, hb9⟩; have hB9 := below_step (w := w) (by first | assumption | go_grown) hb9; clear hb9)
  go_wp2
  go_returns
  exact ⟨rfl, by first | assumption | go_grown⟩

set_option maxRecDepth 100000 in
set_option maxHeartbeats 1000000 in
theorem vecBoxes_walk (a1 a2 a3 a4 a5 a6 b1 b2 b3 b4 b5 b6 x y z : Int) (w : World) (hp : ProbeIs w) :
    Calls Tryd.prog 8 #[.agg #[.int .i64 a1, .int .i64 a2, .int .i64 a3, .int .i64 a4, .int .i64 a5, .int .i64 a6], .agg #[.int .i64 b1, .int .i64 b2, .int .i64 b3, .int .i64 b4, .int .i64 b5, .int .i64 b6], .agg #[.int .i64 x, .int .i64 y, .int .i64 z]] w fun e w' => e = .returned (.bool true) ∧ Below w.heap.size w w' := by
  by_cases hm : mx a1 b1 ≤ mn a4 b4 ∧ mx a2 b2 ≤ mn a5 b5 ∧ mx a3 b3 ≤ mn a6 b6
  · by_cases hA : InBox a1 a2 a3 a4 a5 a6 x y z
    · by_cases hB : InBox b1 b2 b3 b4 b5 b6 x y z
      · exact vecBoxes_m1 a1 a2 a3 a4 a5 a6 b1 b2 b3 b4 b5 b6 x y z w hp hm hA hB
      · exact vecBoxes_m2 a1 a2 a3 a4 a5 a6 b1 b2 b3 b4 b5 b6 x y z w hp hm hA hB
    · exact vecBoxes_m3 a1 a2 a3 a4 a5 a6 b1 b2 b3 b4 b5 b6 x y z w hp hm hA
  · by_cases hA : InBox a1 a2 a3 a4 a5 a6 x y z
    · by_cases hB : InBox b1 b2 b3 b4 b5 b6 x y z
      · exact absurd (box_meets hA hB) hm
      · exact vecBoxes_n2 a1 a2 a3 a4 a5 a6 b1 b2 b3 b4 b5 b6 x y z w hp hm hA hB
    · exact vecBoxes_n3 a1 a2 a3 a4 a5 a6 b1 b2 b3 b4 b5 b6 x y z w hp hm hA

set_option maxRecDepth 100000 in
theorem vecBoxes_contract (H : Type) (enc : TypeId × Value → H) (W : World) (base : Nat) (args : Array Value) (ds gs : List (DataW H)) (before : List MemPlace)
    (hval : ∀ (j : Nat) t v, Tryd.f8.params[j]? = some t → args[j]? = some v → Value.okWide Tryd.prog W .any base t v)
    (hW : DataW.Whole enc Tryd.prog Tryd.f8.params.toList Rows.vecBoxesSpec.vars false W args.toList ds gs before) (hL : laidMetH Tryd.prog Rows.vecBoxesRow.laid W) :
    Calls Tryd.prog 8 args W fun e W' => ∃ v, e = .returned v ∧ Rows.vecBoxesSpec.post enc Tryd.prog Tryd.f8 false true false false W args v W' := by
  have hW' := hW
  obtain ⟨p, q, hA0, hV, rfl, hfz, hnd⟩ := hW
  have hA : DataW.TrodAll enc Tryd.prog W 0 (fun _ => true) true Tryd.f8.params.toList args.toList ds p := hA0
  rw [Tryd.params8] at hA hval
  obtain ⟨v0, vs0, d0, ds0, p0, q0, hargs, rfl, rfl, h0, r0⟩ := trodAll_cons hA
  obtain ⟨v1, vs1, d1, ds1, p1, q1, rfl, rfl, rfl, h1, r1⟩ := trodAll_cons r0
  obtain ⟨v2, vs2, d2, ds2, p2, q2, rfl, rfl, rfl, h2, r2⟩ := trodAll_cons r1
  obtain ⟨rfl, rfl, rfl⟩ := trodAll_nil r2
  obtain rfl : args = #[v0, v1, v2] := by cases args; simp_all
  obtain ⟨zs0, rfl, hl0, hb0⟩ := flat_open (n := 8) (fs := Tryd.prog.fieldsOf 29) (by kernel_rfl) (by kernel_rfl) (by kernel_rfl) (hval 0 29 v0 rfl rfl) h0
  obtain ⟨a1, a2, a3, a4, a5, a6, rfl⟩ := list6 hl0
  obtain ⟨zs1, rfl, hl1, hb1⟩ := flat_open (n := 8) (fs := Tryd.prog.fieldsOf 29) (by kernel_rfl) (by kernel_rfl) (by kernel_rfl) (hval 1 29 v1 rfl rfl) h1
  obtain ⟨b1, b2, b3, b4, b5, b6, rfl⟩ := list6 hl1
  obtain ⟨zs2, rfl, hl2, hb2⟩ := flat_open (n := 8) (fs := Tryd.prog.fieldsOf 27) (by kernel_rfl) (by kernel_rfl) (by kernel_rfl) (hval 2 27 v2 rfl rfl) h2
  obtain ⟨x, y, z, rfl⟩ := list3 hl2
  refine (vecBoxes_walk a1 a2 a3 a4 a5 a6 b1 b2 b3 b4 b5 b6 x y z W (probe_of_laid hL)).mono fun e W' ⟨he, hb⟩ => ?_
  subst he
  exact ⟨_, rfl, law_post laidOut (by kernel_rfl) (by kernel_rfl) Tryd.underlying4 rfl hW' (fun _ => rfl) hb⟩
theorem vecBoxes_laid (os : Os) : laidMet Tryd.prog Rows.vecBoxesRow.laid ((laidWorld os).forCall (fun _ _ => 0) ⟨#[], #[.agg #[.int .i64 0, .int .i64 0, .int .i64 0, .int .i64 0, .int .i64 0, .int .i64 0], .agg #[.int .i64 0, .int .i64 0, .int .i64 0, .int .i64 0, .int .i64 0, .int .i64 0], .agg #[.int .i64 0, .int .i64 0, .int .i64 0]], []⟩).memory := laidMet_of_run' 8 (by kernel_rfl) (by kernel_rfl)
theorem vecBoxes_reads (os : Os) {H : Type} (enc : TypeId × Value → H) : ∃ places, DataW.whole enc Tryd.prog ((laidWorld os).forCall (fun _ _ => 0) ⟨#[], #[.agg #[.int .i64 0, .int .i64 0, .int .i64 0, .int .i64 0, .int .i64 0, .int .i64 0], .agg #[.int .i64 0, .int .i64 0, .int .i64 0, .int .i64 0, .int .i64 0, .int .i64 0], .agg #[.int .i64 0, .int .i64 0, .int .i64 0]], []⟩).memory Tryd.f8.params.toList Rows.vecBoxesSpec.vars false (#[.agg #[.int .i64 0, .int .i64 0, .int .i64 0, .int .i64 0, .int .i64 0, .int .i64 0], .agg #[.int .i64 0, .int .i64 0, .int .i64 0, .int .i64 0, .int .i64 0, .int .i64 0], .agg #[.int .i64 0, .int .i64 0, .int .i64 0]] : Array Value).toList 8 = some ([.agg [.agg [.lit (.int .i64 0), .lit (.int .i64 0), .lit (.int .i64 0)], .agg [.lit (.int .i64 0), .lit (.int .i64 0), .lit (.int .i64 0)]], .agg [.agg [.lit (.int .i64 0), .lit (.int .i64 0), .lit (.int .i64 0)], .agg [.lit (.int .i64 0), .lit (.int .i64 0), .lit (.int .i64 0)]], .agg [.lit (.int .i64 0), .lit (.int .i64 0), .lit (.int .i64 0)]], [], places) := ⟨[], by kernel_rfl⟩
set_option maxRecDepth 100000 in
theorem vecBoxes_lifted (os : Os) (started : os.Started) (H : Type) (enc : TypeId × Value → H) (F : Stop.Interp) :
    ReturnsInHanded {} Tryd.checked os 8 .any ((OpenSpec.ofChange Rows.vecBoxesSpec).preRow enc Tryd.prog Tryd.f8 Rows.vecBoxesRow.domain false Rows.vecBoxesRow.laid) (((OpenSpec.ofChange Rows.vecBoxesSpec).at F).post enc Tryd.prog Tryd.f8 false true false false) := by
  obtain ⟨places, hx⟩ := vecBoxes_reads os enc
  refine returnsInHanded_of_row (C := Tryd.checked) (s := OpenSpec.ofChange Rows.vecBoxesSpec) own started (by kernel_rfl) Tryd.func8
    (witness_row_at (enc := enc) (C := Tryd.checked) false (laidWorld os) #[.agg #[.int .i64 0, .int .i64 0, .int .i64 0, .int .i64 0, .int .i64 0, .int .i64 0], .agg #[.int .i64 0, .int .i64 0, .int .i64 0, .int .i64 0, .int .i64 0, .int .i64 0], .agg #[.int .i64 0, .int .i64 0, .int .i64 0]] rfl (by kernel_rfl) (by kernel_rfl) (by kernel_rfl)
      (OpenSpec.preRow_of_cond 8 hx (by kernel_rfl) (fun k hk => by cases hk) (by kernel_rfl) (vecBoxes_laid os))) ?_
  intro W base args ds gs before hval hW _ _ _ hL _ _
  exact vecBoxes_contract H enc W base args ds gs before hval hW hL
theorem vecBoxes_said : Rows.VecBoxesSaid :=
  OpenClaim.holds_of_cond 8 Tryd.f8 rfl rfl rfl rfl rfl rfl rfl ⟨rfl, rfl, rfl, rfl, rfl⟩ rfl rfl rfl rfl rfl (by kernel_rfl) Tryd.func8 (by kernel_rfl)
    (of_decide_eq_true (by kernel_rfl)) (by unfold Func.isWrapper; rw [if_neg (of_decide_eq_false (by kernel_rfl))]; exact ⟨rfl, rfl⟩)
    (fun os started H enc _ F => by rw [OpenClaim.pre_eq_preRow]; exact vecBoxes_lifted os started H enc F)
theorem vecBoxes_plain (f : FuncId) (fn : Func) (hf : Tryd.pinned.checked.prog.funcNamed "shipyard/shipyardlaw11.VecBoxes" = some f) (hfn : Tryd.pinned.checked.prog.funcs[f]? = some fn) :
    false = Tryd.pinned.checked.prog.looks [] ∧ ∀ (j : Nat) t, fn.params[j]? = some t → Tryd.pinned.checked.prog.wantsStandIn t = false := by
  obtain rfl : f = 8 := Option.some.inj ((show Tryd.prog.funcNamed "shipyard/shipyardlaw11.VecBoxes" = some 8 by kernel_rfl).symm.trans hf) |>.symm
  obtain rfl : fn = Tryd.f8 := (Option.some.inj (Tryd.func8.symm.trans hfn)).symm
  refine ⟨by kernel_rfl, fun j t ht => ?_⟩
  rw [Tryd.params8] at ht
  have hm : t ∈ [29, 29, 27] := by simpa using Array.mem_of_getElem? ht
  have hall : ([29, 29, 27].all fun u => !Tryd.prog.wantsStandIn u) = true := by kernel_rfl
  exact (show Tryd.prog.wantsStandIn t = false by simpa using List.all_eq_true.1 hall t hm)
/-- the card -/
theorem vecBoxes_card : Rows.VecBoxesCardSaid :=
  Claim7.holds_tied_plain_at .later [] _ _ _ _ vecBoxes_said (fun _ h => by cases h) (by kernel_rfl) (fun _ h => by cases h) vecBoxes_row_tie rfl ⟨rfl, rfl⟩ (by kernel_rfl) rfl vecBoxes_plain (by kernel_rfl)
#print axioms vecBoxes_card
end Go.Proofs.YtcfohnhieajhnaaDoor
