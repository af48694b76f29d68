/-
  Then places twice, and Inverse undoes a placement (coordinates to 2^38). Conditions: none (the card ties the variable probe to the program's text). By an AI agent.
-/
import Derived.Test.YtcfohnhieajhnaaDoorRow
import Derived.Test.YtcfohnhieajhnaaDoorLaws2
namespace Go.Proofs.YtcfohnhieajhnaaDoor
open Go.ChangeShapes Go.WideShapes Go.ChangeAt Go.RowKit
set_option linter.unusedSimpArgs false
set_option linter.unusedVariables false

theorem near_ok : (0 : Int) ≤ 274877906944 ∧ (274877906944 : Int) ≤ 2199023255552 := by decide

set_option maxRecDepth 100000 in
set_option maxHeartbeats 1000000 in
theorem vecChains_no1 (a b c k x y z m r s t : Int) (w : World) (hp : ProbeIs w) (h1 : ¬ InB 274877906944 (a, b, c)) :
    Calls Tryd.prog 7 #[.agg #[.int .i64 a, .int .i64 b, .int .i64 c, .int .i64 k], .agg #[.int .i64 x, .int .i64 y, .int .i64 z, .int .i64 m], .agg #[.int .i64 r, .int .i64 s, .int .i64 t]] w fun e w' => e = .returned (.bool true) ∧ Below w.heap.size w w' := by
  have hpc := past_cell
  have HP := Lib.hid hp
  clear hp
  go_enter Tryd.func7, Tryd.ntmps7
  go_wp2_with fail
  (go_at_call 18; refine (near_no _ _ _ _ _ near_ok h1).mono ?_; rintro e w1 ⟨rfl, hb⟩)
  have hB1 := below_step (w := w) (by first | assumption | go_grown) hb
  have hz1 := hb.size
  (try simp only [World.size_alloc, World.size_setCell] at hz1)
  have hz1a : w.heap.size < w1.heap.size := by omega
  have hz1b : w.heap.size + 1 < w1.heap.size := by omega
  have hz1c : w.heap.size + 1 + 1 < w1.heap.size := by omega
  obtain ⟨hc1, hf1⟩ := bcell hb
  clear hb hz1
  go_wp2_with fail
  (go_at_call 15; refine (awake_any _ (HP.out.below (by first | assumption | go_grown))).mono ?_; rintro e w9 ⟨rfl, hb9⟩; have hB9 := below_step (w := w) (by first | assumption | go_grown) hb9; clear hb9)
  go_wp2
  go_returns
  exact ⟨rfl, by first | assumption | go_grown⟩

set_option maxRecDepth 100000 in
set_option maxHeartbeats 1000000 in
theorem vecChains_no2 (a b c k x y z m r s t : Int) (w : World) (hp : ProbeIs w) (h1 : InB 274877906944 (a, b, c)) (h2 : ¬ InB 274877906944 (x, y, z)) :
    Calls Tryd.prog 7 #[.agg #[.int .i64 a, .int .i64 b, .int .i64 c, .int .i64 k], .agg #[.int .i64 x, .int .i64 y, .int .i64 z, .int .i64 m], .agg #[.int .i64 r, .int .i64 s, .int .i64 t]] w fun e w' => e = .returned (.bool true) ∧ Below w.heap.size w w' := by
  have hpc := past_cell
  have HP := Lib.hid hp
  clear hp
  go_enter Tryd.func7, Tryd.ntmps7
  go_wp2_with fail
  (go_at_call 18; refine (near_yes _ _ _ _ _ near_ok h1).mono ?_; rintro e w1 ⟨rfl, hb⟩)
  have hB1 := below_step (w := w) (by first | assumption | go_grown) hb
  have hz1 := hb.size
  (try simp only [World.size_alloc, World.size_setCell] at hz1)
  have hz1a : w.heap.size < w1.heap.size := by omega
  have hz1b : w.heap.size + 1 < w1.heap.size := by omega
  have hz1c : w.heap.size + 1 + 1 < w1.heap.size := by omega
  obtain ⟨hc1, hf1⟩ := bcell hb
  clear hb hz1
  go_wp2_with fail
  (go_at_call 18; refine (near_no _ _ _ _ _ near_ok h2).mono ?_; rintro e w2 ⟨rfl, hb⟩)
  have hB2 := below_step (w := w) (by first | assumption | go_grown) hb
  have hz2 := hb.size
  (try simp only [World.size_alloc, World.size_setCell] at hz2)
  have hz2a : w.heap.size < w2.heap.size := by omega
  have hz2b : w.heap.size + 1 < w2.heap.size := by omega
  have hz2c : w.heap.size + 1 + 1 < w2.heap.size := by omega
  obtain ⟨hc2, hf2⟩ := bcell hb
  clear hb hz2
  go_wp2_with fail
  (go_at_call 15; refine (awake_any _ (HP.out.below (by first | assumption | go_grown))).mono ?_; rintro e w9 ⟨rfl, hb9⟩; have hB9 := below_step (w := w) (by first | assumption | go_grown) hb9; clear hb9)
  go_wp2
  go_returns
  exact ⟨rfl, by first | assumption | go_grown⟩

set_option maxRecDepth 100000 in
set_option maxHeartbeats 1000000 in
theorem vecChains_no3 (a b c k x y z m r s t : Int) (w : World) (hp : ProbeIs w) (h1 : InB 274877906944 (a, b, c)) (h2 : InB 274877906944 (x, y, z)) (h3 : ¬ InB 274877906944 (r, s, t)) :
    Calls Tryd.prog 7 #[.agg #[.int .i64 a, .int .i64 b, .int .i64 c, .int .i64 k], .agg #[.int .i64 x, .int .i64 y, .int .i64 z, .int .i64 m], .agg #[.int .i64 r, .int .i64 s, .int .i64 t]] w fun e w' => e = .returned (.bool true) ∧ Below w.heap.size w w' := by
  have hpc := past_cell
  have HP := Lib.hid hp
  clear hp
  go_enter Tryd.func7, Tryd.ntmps7
  go_wp2_with fail
  (go_at_call 18; refine (near_yes _ _ _ _ _ near_ok h1).mono ?_; rintro e w1 ⟨rfl, hb⟩)
  have hB1 := below_step (w := w) (by first | assumption | go_grown) hb
  have hz1 := hb.size
  (try simp only [World.size_alloc, World.size_setCell] at hz1)
  have hz1a : w.heap.size < w1.heap.size := by omega
  have hz1b : w.heap.size + 1 < w1.heap.size := by omega
  have hz1c : w.heap.size + 1 + 1 < w1.heap.size := by omega
  obtain ⟨hc1, hf1⟩ := bcell hb
  clear hb hz1
  go_wp2_with fail
  (go_at_call 18; refine (near_yes _ _ _ _ _ near_ok h2).mono ?_; rintro e w2 ⟨rfl, hb⟩)
  have hB2 := below_step (w := w) (by first | assumption | go_grown) hb
  have hz2 := hb.size
  (try simp only [World.size_alloc, World.size_setCell] at hz2)
  have hz2a : w.heap.size < w2.heap.size := by omega
  have hz2b : w.heap.size + 1 < w2.heap.size := by omega
  have hz2c : w.heap.size + 1 + 1 < w2.heap.size := by omega
  obtain ⟨hc2, hf2⟩ := bcell hb
  clear hb hz2
  go_wp2_with fail
  (go_at_call 18; refine (near_no _ _ _ _ _ near_ok h3).mono ?_; rintro e w3 ⟨rfl, hb⟩)
  have hB3 := below_step (w := w) (by first | assumption | go_grown) hb
  have hz3 := hb.size
  (try simp only [World.size_alloc, World.size_setCell] at hz3)
  have hz3a : w.heap.size < w3.heap.size := by omega
  have hz3b : w.heap.size + 1 < w3.heap.size := by omega
  have hz3c : w.heap.size + 1 + 1 < w3.heap.size := by omega
  obtain ⟨hc3, hf3⟩ := bcell hb
  clear hb hz3
  go_wp2_with fail
  (go_at_call 15; refine (awake_any _ (HP.out.below (by first | assumption | go_grown))).mono ?_; rintro e w9 ⟨rfl, hb9⟩; have hB9 := below_step (w := w) (by first | assumption | go_grown) hb9; clear hb9)
  go_wp2
  go_returns
  exact ⟨rfl, by first | assumption | go_grown⟩

set_option maxRecDepth 100000 in
set_option maxHeartbeats 2000000 in
theorem vecChains_yes (a b c k x y z m r s t : Int) (w : World) (hp : ProbeIs w) (h1 : InB 274877906944 (a, b, c)) (h2 : InB 274877906944 (x, y, z)) (h3 : InB 274877906944 (r, s, t)) :
    Calls Tryd.prog 7 #[.agg #[.int .i64 a, .int .i64 b, .int .i64 c, .int .i64 k], .agg #[.int .i64 x, .int .i64 y, .int .i64 z, .int .i64 m], .agg #[.int .i64 r, .int .i64 s, .int .i64 t]] w fun e w' => e = .returned (.bool true) ∧ Below w.heap.size w w' := by
  have e1 : ∀ W, (binOp .eql 27 (.agg #[.int .i64 (applyF ((thenF (a, b, c) k (x, y, z) m).1.1, (thenF (a, b, c) k (x, y, z) m).1.2.1, (thenF (a, b, c) k (x, y, z) m).1.2.2) (thenF (a, b, c) k (x, y, z) m).2 (r, s, t)).1, .int .i64 (applyF ((thenF (a, b, c) k (x, y, z) m).1.1, (thenF (a, b, c) k (x, y, z) m).1.2.1, (thenF (a, b, c) k (x, y, z) m).1.2.2) (thenF (a, b, c) k (x, y, z) m).2 (r, s, t)).2.1, .int .i64 (applyF ((thenF (a, b, c) k (x, y, z) m).1.1, (thenF (a, b, c) k (x, y, z) m).1.2.1, (thenF (a, b, c) k (x, y, z) m).1.2.2) (thenF (a, b, c) k (x, y, z) m).2 (r, s, t)).2.2]) (.agg #[.int .i64 (applyF (x, y, z) m ((applyF (a, b, c) k (r, s, t)).1, (applyF (a, b, c) k (r, s, t)).2.1, (applyF (a, b, c) k (r, s, t)).2.2)).1, .int .i64 (applyF (x, y, z) m ((applyF (a, b, c) k (r, s, t)).1, (applyF (a, b, c) k (r, s, t)).2.1, (applyF (a, b, c) k (r, s, t)).2.2)).2.1, .int .i64 (applyF (x, y, z) m ((applyF (a, b, c) k (r, s, t)).1, (applyF (a, b, c) k (r, s, t)).2.1, (applyF (a, b, c) k (r, s, t)).2.2)).2.2])).run Tryd.prog W = .ok (.bool true) W := fun W => by
    have h := eql_vec ((applyF ((thenF (a, b, c) k (x, y, z) m).1.1, (thenF (a, b, c) k (x, y, z) m).1.2.1, (thenF (a, b, c) k (x, y, z) m).1.2.2) (thenF (a, b, c) k (x, y, z) m).2 (r, s, t)).1) ((applyF ((thenF (a, b, c) k (x, y, z) m).1.1, (thenF (a, b, c) k (x, y, z) m).1.2.1, (thenF (a, b, c) k (x, y, z) m).1.2.2) (thenF (a, b, c) k (x, y, z) m).2 (r, s, t)).2.1) ((applyF ((thenF (a, b, c) k (x, y, z) m).1.1, (thenF (a, b, c) k (x, y, z) m).1.2.1, (thenF (a, b, c) k (x, y, z) m).1.2.2) (thenF (a, b, c) k (x, y, z) m).2 (r, s, t)).2.2) ((applyF (x, y, z) m ((applyF (a, b, c) k (r, s, t)).1, (applyF (a, b, c) k (r, s, t)).2.1, (applyF (a, b, c) k (r, s, t)).2.2)).1) ((applyF (x, y, z) m ((applyF (a, b, c) k (r, s, t)).1, (applyF (a, b, c) k (r, s, t)).2.1, (applyF (a, b, c) k (r, s, t)).2.2)).2.1) ((applyF (x, y, z) m ((applyF (a, b, c) k (r, s, t)).1, (applyF (a, b, c) k (r, s, t)).2.1, (applyF (a, b, c) k (r, s, t)).2.2)).2.2) W
    rw [decide_eq_true (show ((applyF ((thenF (a, b, c) k (x, y, z) m).1.1, (thenF (a, b, c) k (x, y, z) m).1.2.1, (thenF (a, b, c) k (x, y, z) m).1.2.2) (thenF (a, b, c) k (x, y, z) m).2 (r, s, t)).1, (applyF ((thenF (a, b, c) k (x, y, z) m).1.1, (thenF (a, b, c) k (x, y, z) m).1.2.1, (thenF (a, b, c) k (x, y, z) m).1.2.2) (thenF (a, b, c) k (x, y, z) m).2 (r, s, t)).2.1, (applyF ((thenF (a, b, c) k (x, y, z) m).1.1, (thenF (a, b, c) k (x, y, z) m).1.2.1, (thenF (a, b, c) k (x, y, z) m).1.2.2) (thenF (a, b, c) k (x, y, z) m).2 (r, s, t)).2.2) = ((applyF (x, y, z) m ((applyF (a, b, c) k (r, s, t)).1, (applyF (a, b, c) k (r, s, t)).2.1, (applyF (a, b, c) k (r, s, t)).2.2)).1, (applyF (x, y, z) m ((applyF (a, b, c) k (r, s, t)).1, (applyF (a, b, c) k (r, s, t)).2.1, (applyF (a, b, c) k (r, s, t)).2.2)).2.1, (applyF (x, y, z) m ((applyF (a, b, c) k (r, s, t)).1, (applyF (a, b, c) k (r, s, t)).2.1, (applyF (a, b, c) k (r, s, t)).2.2)).2.2) from chain_then k m h1 h2 h3)] at h
    exact h
  have e2 : ∀ W, (binOp .eql 27 (.agg #[.int .i64 (applyF ((inverseF (a, b, c) k).1.1, (inverseF (a, b, c) k).1.2.1, (inverseF (a, b, c) k).1.2.2) (inverseF (a, b, c) k).2 ((applyF (a, b, c) k (r, s, t)).1, (applyF (a, b, c) k (r, s, t)).2.1, (applyF (a, b, c) k (r, s, t)).2.2)).1, .int .i64 (applyF ((inverseF (a, b, c) k).1.1, (inverseF (a, b, c) k).1.2.1, (inverseF (a, b, c) k).1.2.2) (inverseF (a, b, c) k).2 ((applyF (a, b, c) k (r, s, t)).1, (applyF (a, b, c) k (r, s, t)).2.1, (applyF (a, b, c) k (r, s, t)).2.2)).2.1, .int .i64 (applyF ((inverseF (a, b, c) k).1.1, (inverseF (a, b, c) k).1.2.1, (inverseF (a, b, c) k).1.2.2) (inverseF (a, b, c) k).2 ((applyF (a, b, c) k (r, s, t)).1, (applyF (a, b, c) k (r, s, t)).2.1, (applyF (a, b, c) k (r, s, t)).2.2)).2.2]) (.agg #[.int .i64 r, .int .i64 s, .int .i64 t])).run Tryd.prog W = .ok (.bool true) W := fun W => by
    have h := eql_vec ((applyF ((inverseF (a, b, c) k).1.1, (inverseF (a, b, c) k).1.2.1, (inverseF (a, b, c) k).1.2.2) (inverseF (a, b, c) k).2 ((applyF (a, b, c) k (r, s, t)).1, (applyF (a, b, c) k (r, s, t)).2.1, (applyF (a, b, c) k (r, s, t)).2.2)).1) ((applyF ((inverseF (a, b, c) k).1.1, (inverseF (a, b, c) k).1.2.1, (inverseF (a, b, c) k).1.2.2) (inverseF (a, b, c) k).2 ((applyF (a, b, c) k (r, s, t)).1, (applyF (a, b, c) k (r, s, t)).2.1, (applyF (a, b, c) k (r, s, t)).2.2)).2.1) ((applyF ((inverseF (a, b, c) k).1.1, (inverseF (a, b, c) k).1.2.1, (inverseF (a, b, c) k).1.2.2) (inverseF (a, b, c) k).2 ((applyF (a, b, c) k (r, s, t)).1, (applyF (a, b, c) k (r, s, t)).2.1, (applyF (a, b, c) k (r, s, t)).2.2)).2.2) (r) (s) (t) W
    rw [decide_eq_true (show ((applyF ((inverseF (a, b, c) k).1.1, (inverseF (a, b, c) k).1.2.1, (inverseF (a, b, c) k).1.2.2) (inverseF (a, b, c) k).2 ((applyF (a, b, c) k (r, s, t)).1, (applyF (a, b, c) k (r, s, t)).2.1, (applyF (a, b, c) k (r, s, t)).2.2)).1, (applyF ((inverseF (a, b, c) k).1.1, (inverseF (a, b, c) k).1.2.1, (inverseF (a, b, c) k).1.2.2) (inverseF (a, b, c) k).2 ((applyF (a, b, c) k (r, s, t)).1, (applyF (a, b, c) k (r, s, t)).2.1, (applyF (a, b, c) k (r, s, t)).2.2)).2.1, (applyF ((inverseF (a, b, c) k).1.1, (inverseF (a, b, c) k).1.2.1, (inverseF (a, b, c) k).1.2.2) (inverseF (a, b, c) k).2 ((applyF (a, b, c) k (r, s, t)).1, (applyF (a, b, c) k (r, s, t)).2.1, (applyF (a, b, c) k (r, s, t)).2.2)).2.2) = (r, s, t) from chain_back k h1 h3)] at h
    exact h
  have e3 : ∀ W, (binOp .eql 44 (.agg #[.int .i64 (inverseF ((inverseF (a, b, c) k).1.1, (inverseF (a, b, c) k).1.2.1, (inverseF (a, b, c) k).1.2.2) (inverseF (a, b, c) k).2).1.1, .int .i64 (inverseF ((inverseF (a, b, c) k).1.1, (inverseF (a, b, c) k).1.2.1, (inverseF (a, b, c) k).1.2.2) (inverseF (a, b, c) k).2).1.2.1, .int .i64 (inverseF ((inverseF (a, b, c) k).1.1, (inverseF (a, b, c) k).1.2.1, (inverseF (a, b, c) k).1.2.2) (inverseF (a, b, c) k).2).1.2.2, .int .i64 (inverseF ((inverseF (a, b, c) k).1.1, (inverseF (a, b, c) k).1.2.1, (inverseF (a, b, c) k).1.2.2) (inverseF (a, b, c) k).2).2]) (.agg #[.int .i64 a, .int .i64 b, .int .i64 c, .int .i64 (composeV 0 k)])).run Tryd.prog W = .ok (.bool true) W := fun W => by
    have h := eql_place (inverseF ((inverseF (a, b, c) k).1.1, (inverseF (a, b, c) k).1.2.1, (inverseF (a, b, c) k).1.2.2) (inverseF (a, b, c) k).2).1.1 (inverseF ((inverseF (a, b, c) k).1.1, (inverseF (a, b, c) k).1.2.1, (inverseF (a, b, c) k).1.2.2) (inverseF (a, b, c) k).2).1.2.1 (inverseF ((inverseF (a, b, c) k).1.1, (inverseF (a, b, c) k).1.2.1, (inverseF (a, b, c) k).1.2.2) (inverseF (a, b, c) k).2).1.2.2 (inverseF ((inverseF (a, b, c) k).1.1, (inverseF (a, b, c) k).1.2.1, (inverseF (a, b, c) k).1.2.2) (inverseF (a, b, c) k).2).2 a b c (composeV 0 k) W
    rw [decide_eq_true (show (((inverseF ((inverseF (a, b, c) k).1.1, (inverseF (a, b, c) k).1.2.1, (inverseF (a, b, c) k).1.2.2) (inverseF (a, b, c) k).2).1.1, (inverseF ((inverseF (a, b, c) k).1.1, (inverseF (a, b, c) k).1.2.1, (inverseF (a, b, c) k).1.2.2) (inverseF (a, b, c) k).2).1.2.1, (inverseF ((inverseF (a, b, c) k).1.1, (inverseF (a, b, c) k).1.2.1, (inverseF (a, b, c) k).1.2.2) (inverseF (a, b, c) k).2).1.2.2), (inverseF ((inverseF (a, b, c) k).1.1, (inverseF (a, b, c) k).1.2.1, (inverseF (a, b, c) k).1.2.2) (inverseF (a, b, c) k).2).2) = ((a, b, c), composeV 0 k) from chain_inverse k h1)] at h
    exact h
  have hpc := past_cell
  have HP := Lib.hid hp
  clear hp
  go_enter Tryd.func7, Tryd.ntmps7
  go_wp2_with fail
  (go_at_call 18; refine (near_yes _ _ _ _ _ near_ok h1).mono ?_; rintro e w1 ⟨rfl, hb⟩)
  have hB1 := below_step (w := w) (by first | assumption | go_grown) hb
  have hz1 := hb.size
  (try simp only [World.size_alloc, World.size_setCell] at hz1)
  have hz1a : w.heap.size < w1.heap.size := by omega
  have hz1b : w.heap.size + 1 < w1.heap.size := by omega
  have hz1c : w.heap.size + 1 + 1 < w1.heap.size := by omega
  obtain ⟨hc1, hf1⟩ := bcell hb
  clear hb hz1
  go_wp2_with fail
  (go_at_call 18; refine (near_yes _ _ _ _ _ near_ok h2).mono ?_; rintro e w2 ⟨rfl, hb⟩)
  have hB2 := below_step (w := w) (by first | assumption | go_grown) hb
  have hz2 := hb.size
  (try simp only [World.size_alloc, World.size_setCell] at hz2)
  have hz2a : w.heap.size < w2.heap.size := by omega
  have hz2b : w.heap.size + 1 < w2.heap.size := by omega
  have hz2c : w.heap.size + 1 + 1 < w2.heap.size := by omega
  obtain ⟨hc2, hf2⟩ := bcell hb
  clear hb hz2
  go_wp2_with fail
  (go_at_call 18; refine (near_yes _ _ _ _ _ near_ok h3).mono ?_; rintro e w3 ⟨rfl, hb⟩)
  have hB3 := below_step (w := w) (by first | assumption | go_grown) hb
  have hz3 := hb.size
  (try simp only [World.size_alloc, World.size_setCell] at hz3)
  have hz3a : w.heap.size < w3.heap.size := by omega
  have hz3b : w.heap.size + 1 < w3.heap.size := by omega
  have hz3c : w.heap.size + 1 + 1 < w3.heap.size := by omega
  obtain ⟨hc3, hf3⟩ := bcell hb
  clear hb hz3
  go_wp2_with fail
  (go_at_call 22; refine (Apply_any _ _ _ _ _ _ _ _ ).mono ?_; rintro e w4 ⟨rfl, hb⟩)
  have hB4 := below_step (w := w) (by first | assumption | go_grown) hb
  have hz4 := hb.size
  (try simp only [World.size_alloc, World.size_setCell] at hz4)
  have hz4a : w.heap.size < w4.heap.size := by omega
  have hz4b : w.heap.size + 1 < w4.heap.size := by omega
  have hz4c : w.heap.size + 1 + 1 < w4.heap.size := by omega
  obtain ⟨hc4, hf4⟩ := bcell hb
  clear hb hz4
  go_wp2_with fail
  refine wp_region_past (by kernel_rfl) (by kernel_rfl) ?_
  iterate 2 go_big_quiet_step (fail)
  go_big_quiet_step ((go_at_call 23; exact past_of (Then_any _ _ _ _ _ _ _ _ _  ((HP.out.below (by first | assumption | go_grown)).below (Past.h _)))))
  iterate 1 go_big_quiet_step (fail)
  go_big_quiet_step ((go_at_call 22; exact past_of (Apply_any _ _ _ _ _ _ _ _ )))
  iterate 2 go_big_quiet_step (fail)
  go_big_quiet_step ((go_at_call 22; exact past_of (Apply_any _ _ _ _ _ _ _ _ )))
  iterate 3 go_big_quiet_step (fail)
  go_big_quiet_step ((go_at_call 24; exact past_of (Inverse_any _ _ _ _ _ ((HP.out.below (by first | assumption | go_grown)).below (Past.h _)))))
  iterate 1 go_big_quiet_step (fail)
  go_big_quiet_step ((go_at_call 22; exact past_of (Apply_any _ _ _ _ _ _ _ _ )))
  iterate 5 go_big_quiet_step (fail)
  go_big_quiet_step ((go_at_call 24; exact past_of (Inverse_any _ _ _ _ _ ((HP.out.below (by first | assumption | go_grown)).below (Past.h _)))))
  go_big_quiet_step ((go_at_call 24; exact past_of (Inverse_any _ _ _ _ _ ((HP.out.below (by first | assumption | go_grown)).below (Past.h _)))))
  iterate 4 go_big_quiet_step (fail)
  go_big_quiet_step ((go_at_call 11; exact past_of (Compose_any _ _ _ ((HP.out.below (by first | assumption | go_grown)).below (Past.h _)))))
  iterate 4 go_big_quiet_step (fail)
  go_big_quiet_step ((go_at_call 15; exact past_of (awake_any _ ((HP.out.below (by first | assumption | go_grown)).below (Past.h _)))))
  iterate 2 go_big_quiet_step (fail)
  refine wpQuiet_nil ?_
  intro w5 hw'
  have hb := past_out hw'
  clear hw'
  have hB5 := below_step (w := w) (by first | assumption | go_grown) hb
  clear hb
  go_wp2
  go_returns
  exact ⟨rfl, by first | assumption | go_grown⟩

set_option maxRecDepth 100000 in
set_option maxHeartbeats 1000000 in
theorem vecChains_walk (a b c k x y z m r s t : Int) (w : World) (hp : ProbeIs w) :
    Calls Tryd.prog 7 #[.agg #[.int .i64 a, .int .i64 b, .int .i64 c, .int .i64 k], .agg #[.int .i64 x, .int .i64 y, .int .i64 z, .int .i64 m], .agg #[.int .i64 r, .int .i64 s, .int .i64 t]] w fun e w' => e = .returned (.bool true) ∧ Below w.heap.size w w' := by
  by_cases h1 : InB 274877906944 (a, b, c)
  · by_cases h2 : InB 274877906944 (x, y, z)
    · by_cases h3 : InB 274877906944 (r, s, t)
      · exact vecChains_yes a b c k x y z m r s t w hp h1 h2 h3
      · exact vecChains_no3 a b c k x y z m r s t w hp h1 h2 h3
    · exact vecChains_no2 a b c k x y z m r s t w hp h1 h2
  · exact vecChains_no1 a b c k x y z m r s t w hp h1

set_option maxRecDepth 100000 in
theorem vecChains_contract (H : Type) (enc : TypeId × Value → H) (W : World) (base : Nat) (args : Array Value) (ds gs : List (DataW H)) (before : List MemPlace)
    (hval : ∀ (j : Nat) t v, Tryd.f7.params[j]? = some t → args[j]? = some v → Value.okWide Tryd.prog W .any base t v)
    (hW : DataW.Whole enc Tryd.prog Tryd.f7.params.toList Rows.vecChainsSpec.vars false W args.toList ds gs before) (hL : laidMetH Tryd.prog Rows.vecChainsRow.laid W) :
    Calls Tryd.prog 7 args W fun e W' => ∃ v, e = .returned v ∧ Rows.vecChainsSpec.post enc Tryd.prog Tryd.f7 false true false false W args v W' := by
  have hW' := hW
  obtain ⟨p, q, hA0, hV, rfl, hfz, hnd⟩ := hW
  have hA : DataW.TrodAll enc Tryd.prog W 0 (fun _ => true) true Tryd.f7.params.toList args.toList ds p := hA0
  rw [Tryd.params7] at hA hval
  obtain ⟨v0, vs0, d0, ds0, p0, q0, hargs, rfl, rfl, h0, r0⟩ := trodAll_cons hA
  obtain ⟨v1, vs1, d1, ds1, p1, q1, rfl, rfl, rfl, h1, r1⟩ := trodAll_cons r0
  obtain ⟨v2, vs2, d2, ds2, p2, q2, rfl, rfl, rfl, h2, r2⟩ := trodAll_cons r1
  obtain ⟨rfl, rfl, rfl⟩ := trodAll_nil r2
  obtain rfl : args = #[v0, v1, v2] := by cases args; simp_all
  obtain ⟨zs0, rfl, hl0, hb0⟩ := flat_open (n := 8) (fs := Tryd.prog.fieldsOf 44) (by kernel_rfl) (by kernel_rfl) (by kernel_rfl) (hval 0 44 v0 rfl rfl) h0
  obtain ⟨a, b, c, k, rfl⟩ := list4 hl0
  obtain ⟨zs1, rfl, hl1, hb1⟩ := flat_open (n := 8) (fs := Tryd.prog.fieldsOf 44) (by kernel_rfl) (by kernel_rfl) (by kernel_rfl) (hval 1 44 v1 rfl rfl) h1
  obtain ⟨x, y, z, m, rfl⟩ := list4 hl1
  obtain ⟨zs2, rfl, hl2, hb2⟩ := flat_open (n := 8) (fs := Tryd.prog.fieldsOf 27) (by kernel_rfl) (by kernel_rfl) (by kernel_rfl) (hval 2 27 v2 rfl rfl) h2
  obtain ⟨r, s, t, rfl⟩ := list3 hl2
  refine (vecChains_walk a b c k x y z m r s t W (probe_of_laid hL)).mono fun e W' ⟨he, hb⟩ => ?_
  subst he
  exact ⟨_, rfl, law_post laidOut (by kernel_rfl) (by kernel_rfl) Tryd.underlying4 rfl hW' (fun _ => rfl) hb⟩
theorem vecChains_laid (os : Os) : laidMet Tryd.prog Rows.vecChainsRow.laid ((laidWorld os).forCall (fun _ _ => 0) ⟨#[], #[.agg #[.int .i64 0, .int .i64 0, .int .i64 0, .int .i64 0], .agg #[.int .i64 0, .int .i64 0, .int .i64 0, .int .i64 0], .agg #[.int .i64 0, .int .i64 0, .int .i64 0]], []⟩).memory := laidMet_of_run' 8 (by kernel_rfl) (by kernel_rfl)
theorem vecChains_reads (os : Os) {H : Type} (enc : TypeId × Value → H) : ∃ places, DataW.whole enc Tryd.prog ((laidWorld os).forCall (fun _ _ => 0) ⟨#[], #[.agg #[.int .i64 0, .int .i64 0, .int .i64 0, .int .i64 0], .agg #[.int .i64 0, .int .i64 0, .int .i64 0, .int .i64 0], .agg #[.int .i64 0, .int .i64 0, .int .i64 0]], []⟩).memory Tryd.f7.params.toList Rows.vecChainsSpec.vars false (#[.agg #[.int .i64 0, .int .i64 0, .int .i64 0, .int .i64 0], .agg #[.int .i64 0, .int .i64 0, .int .i64 0, .int .i64 0], .agg #[.int .i64 0, .int .i64 0, .int .i64 0]] : Array Value).toList 8 = some ([.agg [.agg [.lit (.int .i64 0), .lit (.int .i64 0), .lit (.int .i64 0)], .lit (.int .i64 0)], .agg [.agg [.lit (.int .i64 0), .lit (.int .i64 0), .lit (.int .i64 0)], .lit (.int .i64 0)], .agg [.lit (.int .i64 0), .lit (.int .i64 0), .lit (.int .i64 0)]], [], places) := ⟨[], by kernel_rfl⟩
set_option maxRecDepth 100000 in
theorem vecChains_lifted (os : Os) (started : os.Started) (H : Type) (enc : TypeId × Value → H) (F : Stop.Interp) :
    ReturnsInHanded {} Tryd.checked os 7 .any ((OpenSpec.ofChange Rows.vecChainsSpec).preRow enc Tryd.prog Tryd.f7 Rows.vecChainsRow.domain false Rows.vecChainsRow.laid) (((OpenSpec.ofChange Rows.vecChainsSpec).at F).post enc Tryd.prog Tryd.f7 false true false false) := by
  obtain ⟨places, hx⟩ := vecChains_reads os enc
  refine returnsInHanded_of_row (C := Tryd.checked) (s := OpenSpec.ofChange Rows.vecChainsSpec) own started (by kernel_rfl) Tryd.func7
    (witness_row_at (enc := enc) (C := Tryd.checked) false (laidWorld os) #[.agg #[.int .i64 0, .int .i64 0, .int .i64 0, .int .i64 0], .agg #[.int .i64 0, .int .i64 0, .int .i64 0, .int .i64 0], .agg #[.int .i64 0, .int .i64 0, .int .i64 0]] rfl (by kernel_rfl) (by kernel_rfl) (by kernel_rfl)
      (OpenSpec.preRow_of_cond 8 hx (by kernel_rfl) (fun k hk => by cases hk) (by kernel_rfl) (vecChains_laid os))) ?_
  intro W base args ds gs before hval hW _ _ _ hL _ _
  exact vecChains_contract H enc W base args ds gs before hval hW hL
theorem vecChains_said : Rows.VecChainsSaid :=
  OpenClaim.holds_of_cond 7 Tryd.f7 rfl rfl rfl rfl rfl rfl rfl ⟨rfl, rfl, rfl, rfl, rfl⟩ rfl rfl rfl rfl rfl (by kernel_rfl) Tryd.func7 (by kernel_rfl)
    (of_decide_eq_true (by kernel_rfl)) (by unfold Func.isWrapper; rw [if_neg (of_decide_eq_false (by kernel_rfl))]; exact ⟨rfl, rfl⟩)
    (fun os started H enc _ F => by rw [OpenClaim.pre_eq_preRow]; exact vecChains_lifted os started H enc F)
theorem vecChains_plain (f : FuncId) (fn : Func) (hf : Tryd.pinned.checked.prog.funcNamed "shipyard/shipyardlaw11.VecChains" = some f) (hfn : Tryd.pinned.checked.prog.funcs[f]? = some fn) :
    false = Tryd.pinned.checked.prog.looks [] ∧ ∀ (j : Nat) t, fn.params[j]? = some t → Tryd.pinned.checked.prog.wantsStandIn t = false := by
  obtain rfl : f = 7 := Option.some.inj ((show Tryd.prog.funcNamed "shipyard/shipyardlaw11.VecChains" = some 7 by kernel_rfl).symm.trans hf) |>.symm
  obtain rfl : fn = Tryd.f7 := (Option.some.inj (Tryd.func7.symm.trans hfn)).symm
  refine ⟨by kernel_rfl, fun j t ht => ?_⟩
  rw [Tryd.params7] at ht
  have hm : t ∈ [44, 44, 27] := by simpa using Array.mem_of_getElem? ht
  have hall : ([44, 44, 27].all fun u => !Tryd.prog.wantsStandIn u) = true := by kernel_rfl
  exact (show Tryd.prog.wantsStandIn t = false by simpa using List.all_eq_true.1 hall t hm)
/-- the card -/
theorem vecChains_card : Rows.VecChainsCardSaid :=
  Claim7.holds_tied_plain_at .later [] _ _ _ _ vecChains_said (fun _ h => by cases h) (by kernel_rfl) (fun _ h => by cases h) vecChains_row_tie rfl ⟨rfl, rfl⟩ (by kernel_rfl) rfl vecChains_plain (by kernel_rfl)
#print axioms vecChains_card
end Go.Proofs.YtcfohnhieajhnaaDoor
