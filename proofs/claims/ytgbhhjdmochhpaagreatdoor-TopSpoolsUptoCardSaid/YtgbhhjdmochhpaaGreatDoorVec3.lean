/-
  What Turn, Compose, Back, Apply, Then, Inverse, Valid, Add, Sub and Meet of package vec return, by walks. Conditions: the bounds that each theorem names; probe holds (1, 2, 3). By an AI agent.
-/
import Derived.Test.YtgbhhjdmochhpaaGreatDoorVec2
namespace Go.Proofs.YtgbhhjdmochhpaaGreatDoor
open Go.RowKit

theorem inB_mono {B B' : Int} {v : V} (h : InB B v) (hB : B ≤ B') : InB B' v := by unfold InB at *; omega
theorem plus_in {a b c x y z : Int} {w : World} (h : InB 2199023255552 (a, b, c)) (h2 : InB 2199023255552 (x, y, z)) :
    Calls Tryz.prog 84 #[.agg #[.int .i64 a, .int .i64 b, .int .i64 c], .agg #[.int .i64 x, .int .i64 y, .int .i64 z]] w fun e w' => e = .returned (.agg #[.int .i64 (a + x), .int .i64 (b + y), .int .i64 (c + z)]) ∧ Below w.heap.size w w' :=
  plus_any a b c x y z w ⟨h.1, h.2.1⟩ ⟨h.2.2.1, h.2.2.2.1⟩ ⟨h.2.2.2.2.1, h.2.2.2.2.2⟩ ⟨h2.1, h2.2.1⟩ ⟨h2.2.2.1, h2.2.2.2.1⟩ ⟨h2.2.2.2.2.1, h2.2.2.2.2.2⟩
theorem opp_in {a b c : Int} {w : World} (h : InB 2199023255552 (a, b, c)) :
    Calls Tryz.prog 85 #[.agg #[.int .i64 a, .int .i64 b, .int .i64 c]] w fun e w' => e = .returned (.agg #[.int .i64 (-a), .int .i64 (-b), .int .i64 (-c)]) ∧ Below w.heap.size w w' :=
  opposite_any a b c w ⟨h.1, h.2.1⟩ ⟨h.2.2.1, h.2.2.2.1⟩ ⟨h.2.2.2.2.1, h.2.2.2.2.2⟩
theorem small_ok : (0 : Int) ≤ 1099511627776 ∧ (1099511627776 : Int) ≤ 2199023255552 := by decide
theorem coord_ok : (0 : Int) ≤ 524288 ∧ (524288 : Int) ≤ 2199023255552 := by decide
theorem small_big {v : V} (h : InB 1099511627776 v) : InB 2199023255552 v := inB_mono h (by decide)
theorem neg_bd {B : Int} {v : V} (h : InB B v) : InB B (negV v) := by unfold InB negV at *; simp; omega
theorem probe_turn (k : Int) : InB 2199023255552 ((turnV (1, 2, 3) k).1, (turnV (1, 2, 3) k).2.1, (turnV (1, 2, 3) k).2.2) := turn_bd k probe_in
theorem probe_turn2 (k m : Int) : InB 2199023255552 ((turnV ((turnV (1, 2, 3) k).1, (turnV (1, 2, 3) k).2.1, (turnV (1, 2, 3) k).2.2) m).1, (turnV ((turnV (1, 2, 3) k).1, (turnV (1, 2, 3) k).2.1, (turnV (1, 2, 3) k).2.2) m).2.1, (turnV ((turnV (1, 2, 3) k).1, (turnV (1, 2, 3) k).2.1, (turnV (1, 2, 3) k).2.2) m).2.2) := turn_bd m (probe_turn k)

set_option maxHeartbeats 1000000 in
theorem Turn_yes (a b c k : Int) (w : World) (h : InB 1099511627776 (a, b, c)) :
    Calls Tryz.prog 17 #[.agg #[.int .i64 a, .int .i64 b, .int .i64 c], .int .i64 k] w fun e w' => e = .returned (.agg #[.int .i64 (turnV (a, b, c) k).1, .int .i64 (turnV (a, b, c) k).2.1, .int .i64 (turnV (a, b, c) k).2.2]) ∧ Below w.heap.size w w' := by
  go_enter Tryz.func17, Tryz.ntmps17
  go_wp2_with fail
  (go_at_call 48; (refine (within_yes _ _ _ _ _ small_ok h).mono ?_; rintro e w1 ⟨rfl, hb⟩; have hB := below_step (w := w) (by go_grown) hb; have hz := hb.size; (try simp only [World.size_alloc] at hz); have hz0 : w.heap.size < w1.heap.size := (by omega); have hz1 : w.heap.size + 1 < w1.heap.size := (by omega); obtain ⟨hc, hf⟩ := bcell hb; clear hb hz))
  go_wp2_with fail
  (go_at_call 49; (refine (turned_any _ _ _ _ _ (small_big h)).mono ?_; rintro e w21 ⟨rfl, hb⟩; have hB2 := below_step (w := w) (by go_grown) hb; have hz2 := hb.size; (try simp only [World.size_alloc] at hz2); have hz20 : w.heap.size < w21.heap.size := (by omega); have hz21 : w.heap.size + 1 < w21.heap.size := (by omega); obtain ⟨hc2, hf2⟩ := bcell hb; clear hb hz2))
  go_wp2
  all_goals (refine bodyPost_ret (v := .agg #[.int .i64 (turnV (a, b, c) k).1, .int .i64 (turnV (a, b, c) k).2.1, .int .i64 (turnV (a, b, c) k).2.2]) (by simp [results, Tryz.results17, go_sem, *]) rfl ⟨rfl, by go_grown⟩)
set_option maxHeartbeats 1000000 in
theorem Turn_no (a b c k : Int) (w : World) (h : ¬ InB 1099511627776 (a, b, c)) :
    Calls Tryz.prog 17 #[.agg #[.int .i64 a, .int .i64 b, .int .i64 c], .int .i64 k] w fun e w' => e = .returned (.agg #[.int .i64 0, .int .i64 0, .int .i64 0]) ∧ Below w.heap.size w w' := by
  go_enter Tryz.func17, Tryz.ntmps17
  go_wp2_with fail
  (go_at_call 48; (refine (within_no _ _ _ _ _ small_ok h).mono ?_; rintro e w1 ⟨rfl, hb⟩; have hB := below_step (w := w) (by go_grown) hb; have hz := hb.size; (try simp only [World.size_alloc] at hz); have hz0 : w.heap.size < w1.heap.size := (by omega); have hz1 : w.heap.size + 1 < w1.heap.size := (by omega); obtain ⟨hc, hf⟩ := bcell hb; clear hb hz))
  go_wp2
  all_goals (refine bodyPost_ret (v := .agg #[.int .i64 0, .int .i64 0, .int .i64 0]) (by simp [results, Tryz.results17, go_sem, *]) rfl ⟨rfl, by go_grown⟩)
set_option maxHeartbeats 1000000 in
theorem Turn_any (a b c k : Int) (w : World)  :
    Calls Tryz.prog 17 #[.agg #[.int .i64 a, .int .i64 b, .int .i64 c], .int .i64 k] w fun e w' => e = .returned (.agg #[.int .i64 (turnF (a, b, c) k).1, .int .i64 (turnF (a, b, c) k).2.1, .int .i64 (turnF (a, b, c) k).2.2]) ∧ Below w.heap.size w w' := by
  by_cases h : InB 1099511627776 (a, b, c)
  · rw [show turnF (a, b, c) k = turnV (a, b, c) k from if_pos h]; exact Turn_yes a b c k w h
  · rw [show turnF (a, b, c) k = zeroV from if_neg h]; exact Turn_no a b c k w h
set_option maxHeartbeats 1000000 in
theorem Sub_yes (a b c x y z : Int) (w : World) (hp : InB 1099511627776 (a, b, c)) (hv : InB 1099511627776 (x, y, z)) :
    Calls Tryz.prog 46 #[.agg #[.int .i64 a, .int .i64 b, .int .i64 c], .agg #[.int .i64 x, .int .i64 y, .int .i64 z]] w fun e w' => e = .returned (.agg #[.int .i64 (a + -x), .int .i64 (b + -y), .int .i64 (c + -z)]) ∧ Below w.heap.size w w' := by
  have hpc := past_cell
  go_enter Tryz.func46, Tryz.ntmps46
  go_wp2_with fail
  (go_at_call 48; (refine (within_yes _ _ _ _ _ small_ok hp).mono ?_; rintro e w1 ⟨rfl, hb⟩; have hB := below_step (w := w) (by go_grown) hb; have hz := hb.size; (try simp only [World.size_alloc] at hz); have hz0 : w.heap.size < w1.heap.size := (by omega); have hz1 : w.heap.size + 1 < w1.heap.size := (by omega); have hz2 : w.heap.size + 1 + 1 < w1.heap.size := (by omega); obtain ⟨hc, hf⟩ := bcell hb; clear hb hz))
  go_wp2_with fail
  (go_at_call 48; (refine (within_yes _ _ _ _ _ small_ok hv).mono ?_; rintro e w21 ⟨rfl, hb⟩; have hB2 := below_step (w := w) (by go_grown) hb; have hz2 := hb.size; (try simp only [World.size_alloc] at hz2); have hz20 : w.heap.size < w21.heap.size := (by omega); have hz21 : w.heap.size + 1 < w21.heap.size := (by omega); have hz22 : w.heap.size + 1 + 1 < w21.heap.size := (by omega); obtain ⟨hc2, hf2⟩ := bcell hb; clear hb hz2))
  go_wp2_with fail
  refine wp_region_past_tail 4 (by kernel_rfl) (by kernel_rfl) ?_
  simp only [List.take_succ_cons, List.take_zero, List.drop_succ_cons, List.drop_zero]
  iterate 4 go_big_quiet_step (first | ((go_at_call 85; exact past_of (opp_in (small_big hv)))) | ((go_at_call 84; exact past_of (plus_in (small_big hp) (neg_bd (small_big hv))))))
  refine wpQuiet_nil ?_
  intro w31 hw'
  have hb := past_out hw'
  clear hw'
  have hB3 := below_step (w := w) (by go_grown) hb
  have hz3 := hb.size
  (try simp only [World.size_alloc] at hz3)
  have hz30 : w.heap.size < w31.heap.size := by omega
  have hz31 : w.heap.size + 1 < w31.heap.size := by omega
  have hz32 : w.heap.size + 1 + 1 < w31.heap.size := by omega
  obtain ⟨hc3, hf3⟩ := bcell hb
  clear hb hz3
  go_wp2
  all_goals (refine bodyPost_ret (v := .agg #[.int .i64 (a + -x), .int .i64 (b + -y), .int .i64 (c + -z)]) (by simp [results, Tryz.results46, go_sem, *]) rfl ⟨rfl, by go_grown⟩)
set_option maxHeartbeats 1000000 in
theorem Sub_no1 (a b c x y z : Int) (w : World) (hp : ¬ InB 1099511627776 (a, b, c)) :
    Calls Tryz.prog 46 #[.agg #[.int .i64 a, .int .i64 b, .int .i64 c], .agg #[.int .i64 x, .int .i64 y, .int .i64 z]] w fun e w' => e = .returned (.agg #[.int .i64 0, .int .i64 0, .int .i64 0]) ∧ Below w.heap.size w w' := by
  go_enter Tryz.func46, Tryz.ntmps46
  go_wp2_with fail
  (go_at_call 48; (refine (within_no _ _ _ _ _ small_ok hp).mono ?_; rintro e w1 ⟨rfl, hb⟩; have hB := below_step (w := w) (by go_grown) hb; have hz := hb.size; (try simp only [World.size_alloc] at hz); have hz0 : w.heap.size < w1.heap.size := (by omega); have hz1 : w.heap.size + 1 < w1.heap.size := (by omega); have hz2 : w.heap.size + 1 + 1 < w1.heap.size := (by omega); obtain ⟨hc, hf⟩ := bcell hb; clear hb hz))
  go_wp2
  all_goals (refine bodyPost_ret (v := .agg #[.int .i64 0, .int .i64 0, .int .i64 0]) (by simp [results, Tryz.results46, go_sem, *]) rfl ⟨rfl, by go_grown⟩)
set_option maxHeartbeats 1000000 in
theorem Sub_no2 (a b c x y z : Int) (w : World) (hp : InB 1099511627776 (a, b, c)) (hv : ¬ InB 1099511627776 (x, y, z)) :
    Calls Tryz.prog 46 #[.agg #[.int .i64 a, .int .i64 b, .int .i64 c], .agg #[.int .i64 x, .int .i64 y, .int .i64 z]] w fun e w' => e = .returned (.agg #[.int .i64 0, .int .i64 0, .int .i64 0]) ∧ Below w.heap.size w w' := by
  go_enter Tryz.func46, Tryz.ntmps46
  go_wp2_with fail
  (go_at_call 48; (refine (within_yes _ _ _ _ _ small_ok hp).mono ?_; rintro e w1 ⟨rfl, hb⟩; have hB := below_step (w := w) (by go_grown) hb; have hz := hb.size; (try simp only [World.size_alloc] at hz); have hz0 : w.heap.size < w1.heap.size := (by omega); have hz1 : w.heap.size + 1 < w1.heap.size := (by omega); have hz2 : w.heap.size + 1 + 1 < w1.heap.size := (by omega); obtain ⟨hc, hf⟩ := bcell hb; clear hb hz))
  go_wp2_with fail
  (go_at_call 48; (refine (within_no _ _ _ _ _ small_ok hv).mono ?_; rintro e w21 ⟨rfl, hb⟩; have hB2 := below_step (w := w) (by go_grown) hb; have hz2 := hb.size; (try simp only [World.size_alloc] at hz2); have hz20 : w.heap.size < w21.heap.size := (by omega); have hz21 : w.heap.size + 1 < w21.heap.size := (by omega); have hz22 : w.heap.size + 1 + 1 < w21.heap.size := (by omega); obtain ⟨hc2, hf2⟩ := bcell hb; clear hb hz2))
  go_wp2
  all_goals (refine bodyPost_ret (v := .agg #[.int .i64 0, .int .i64 0, .int .i64 0]) (by simp [results, Tryz.results46, go_sem, *]) rfl ⟨rfl, by go_grown⟩)
set_option maxHeartbeats 1000000 in
theorem Sub_any (a b c x y z : Int) (w : World)  :
    Calls Tryz.prog 46 #[.agg #[.int .i64 a, .int .i64 b, .int .i64 c], .agg #[.int .i64 x, .int .i64 y, .int .i64 z]] w fun e w' => e = .returned (.agg #[.int .i64 (subF (a, b, c) (x, y, z)).1, .int .i64 (subF (a, b, c) (x, y, z)).2.1, .int .i64 (subF (a, b, c) (x, y, z)).2.2]) ∧ Below w.heap.size w w' := by
  by_cases hp : InB 1099511627776 (a, b, c)
  · by_cases hv : InB 1099511627776 (x, y, z)
    · rw [show subF (a, b, c) (x, y, z) = addV (a, b, c) (negV (x, y, z)) from if_pos ⟨hp, hv⟩]; exact Sub_yes a b c x y z w hp hv
    · rw [show subF (a, b, c) (x, y, z) = zeroV from if_neg (fun h => hv h.2)]; exact Sub_no2 a b c x y z w hp hv
  · rw [show subF (a, b, c) (x, y, z) = zeroV from if_neg (fun h => hp h.1)]; exact Sub_no1 a b c x y z w hp
set_option maxHeartbeats 1000000 in
theorem Valid_yes (a b c k : Int) (w : World) (hp : InB 524288 (a, b, c)) (hk : (k == numT k) = true) :
    Calls Tryz.prog 35 #[.agg #[.int .i64 a, .int .i64 b, .int .i64 c, .int .i64 k]] w fun e w' => e = .returned (.bool true) ∧ Below w.heap.size w w' := by
  have hpc := past_cell
  go_enter Tryz.func35, Tryz.ntmps35
  go_wp2_with fail
  refine wp_region_past (by kernel_rfl) (by kernel_rfl) ?_
  iterate 12 go_big_quiet_step (first | ((go_at_call 48; exact past_of (within_yes _ _ _ _ _ coord_ok hp))) | ((go_at_call 75; exact past_of ((number_any _ _).mono fun _ _ ⟨he, hw⟩ => ⟨he, hw ▸ Below.refl _ _⟩))))
  refine wpQuiet_nil ?_
  intro w1 hw'
  have hb := past_out hw'
  clear hw'
  have hB := below_step (w := w) (by go_grown) hb
  have hz := hb.size
  (try simp only [World.size_alloc] at hz)
  have hz0 : w.heap.size < w1.heap.size := by omega
  obtain ⟨hc, hf⟩ := bcell hb
  clear hb hz
  go_wp2
  go_returns
  exact ⟨rfl, by go_grown⟩
set_option maxHeartbeats 1000000 in
theorem Valid_no2 (a b c k : Int) (w : World) (hp : InB 524288 (a, b, c)) (hk : (k == numT k) = false) :
    Calls Tryz.prog 35 #[.agg #[.int .i64 a, .int .i64 b, .int .i64 c, .int .i64 k]] w fun e w' => e = .returned (.bool false) ∧ Below w.heap.size w w' := by
  have hpc := past_cell
  go_enter Tryz.func35, Tryz.ntmps35
  go_wp2_with fail
  refine wp_region_past (by kernel_rfl) (by kernel_rfl) ?_
  iterate 12 go_big_quiet_step (first | ((go_at_call 48; exact past_of (within_yes _ _ _ _ _ coord_ok hp))) | ((go_at_call 75; exact past_of ((number_any _ _).mono fun _ _ ⟨he, hw⟩ => ⟨he, hw ▸ Below.refl _ _⟩))))
  refine wpQuiet_nil ?_
  intro w1 hw'
  have hb := past_out hw'
  clear hw'
  have hB := below_step (w := w) (by go_grown) hb
  have hz := hb.size
  (try simp only [World.size_alloc] at hz)
  have hz0 : w.heap.size < w1.heap.size := by omega
  obtain ⟨hc, hf⟩ := bcell hb
  clear hb hz
  go_wp2
  go_returns
  exact ⟨rfl, by go_grown⟩
set_option maxHeartbeats 1000000 in
theorem Valid_no1 (a b c k : Int) (w : World) (hp : ¬ InB 524288 (a, b, c)) :
    Calls Tryz.prog 35 #[.agg #[.int .i64 a, .int .i64 b, .int .i64 c, .int .i64 k]] w fun e w' => e = .returned (.bool false) ∧ Below w.heap.size w w' := by
  have hpc := past_cell
  go_enter Tryz.func35, Tryz.ntmps35
  go_wp2_with fail
  refine wp_region_past (by kernel_rfl) (by kernel_rfl) ?_
  iterate 12 go_big_quiet_step (first | ((go_at_call 48; exact past_of (within_no _ _ _ _ _ coord_ok hp))))
  refine wpQuiet_nil ?_
  intro w1 hw'
  have hb := past_out hw'
  clear hw'
  have hB := below_step (w := w) (by go_grown) hb
  have hz := hb.size
  (try simp only [World.size_alloc] at hz)
  have hz0 : w.heap.size < w1.heap.size := by omega
  obtain ⟨hc, hf⟩ := bcell hb
  clear hb hz
  go_wp2
  go_returns
  exact ⟨rfl, by go_grown⟩
set_option maxHeartbeats 1000000 in
theorem Valid_any (a b c k : Int) (w : World)  :
    Calls Tryz.prog 35 #[.agg #[.int .i64 a, .int .i64 b, .int .i64 c, .int .i64 k]] w fun e w' => e = .returned (.bool (validF (a, b, c) k)) ∧ Below w.heap.size w w' := by
  by_cases hp : InB 524288 (a, b, c)
  · by_cases hk : k = numT k
    · rw [show validF (a, b, c) k = true by unfold validF; simp [hp, ← hk]]; exact Valid_yes a b c k w hp (by simpa using hk)
    · rw [show validF (a, b, c) k = false by unfold validF; simp [hk]]; exact Valid_no2 a b c k w hp (by simpa using hk)
  · rw [show validF (a, b, c) k = false by unfold validF; simp [hp]]; exact Valid_no1 a b c k w hp
end Go.Proofs.YtgbhhjdmochhpaaGreatDoor
