/-
  What the functions of the reference of chapter 11 return, by walks: the same as package vec's. Conditions: the bounds that each theorem names. By an AI agent.
-/
import Derived.Test.YtgbhhjdmochhpaaGreatDoorVec3
import Derived.Test.YtgbhhjdmochhpaaGreatDoorRel
namespace Go.Proofs.YtgbhhjdmochhpaaGreatDoor
open Go.RowKit
set_option linter.unusedSimpArgs false

set_option maxHeartbeats 400000 in
theorem rotation_any (k : Int) (w : World) :
    Calls Tryz.prog 60 #[.int .i64 k] w fun e w' => e = .returned (.int .i64 (numT k)) ∧ Below w.heap.size w w' := by
  by_cases h0 : k < 0
  · go_enter Tryz.func60, Tryz.ntmps60
    go_wp2
    go_ret
    exact ⟨by unfold numT; rw [if_pos h0]; rfl, by go_grown⟩
  · by_cases h1 : 23 < k
    · go_enter Tryz.func60, Tryz.ntmps60
      go_wp2
      go_ret
      exact ⟨by unfold numT; rw [if_neg (by omega), if_pos (by omega)]; rfl, by go_grown⟩
    · go_enter Tryz.func60, Tryz.ntmps60
      go_wp2
      go_ret
      exact ⟨by unfold numT; rw [if_neg (by omega), if_neg (by omega)]; rfl, by go_grown⟩
set_option maxHeartbeats 1000000 in
theorem small_yes (a b c : Int) (w : World) (h : InB 1099511627776 (a, b, c)) :
    Calls Tryz.prog 58 #[.agg #[.int .i64 a, .int .i64 b, .int .i64 c]] w fun e w' => e = .returned (.bool true) ∧ Below w.heap.size w w' := by
  obtain ⟨hx0, hx1, hy0, hy1, hz0, hz1⟩ := h
  simp only at hx0 hx1 hy0 hy1 hz0 hz1
  go_enter Tryz.func58, Tryz.ntmps58
  go_wp2
  go_returns
  exact ⟨rfl, by go_grown⟩
set_option maxHeartbeats 1000000 in
theorem small_no (a b c : Int) (w : World) (h : ¬ InB 1099511627776 (a, b, c)) :
    Calls Tryz.prog 58 #[.agg #[.int .i64 a, .int .i64 b, .int .i64 c]] w fun e w' => e = .returned (.bool false) ∧ Below w.heap.size w w' := by
  have H : Hid (¬ InB 1099511627776 (a, b, c)) := Lib.hid h
  clear h
  go_enter Tryz.func58, Tryz.ntmps58
  go_wp2
  all_goals go_returns
  all_goals refine ⟨?_, by go_grown⟩
  all_goals (first | rfl | (rw [decide_eq_false (fun h => H.out ⟨by simp; omega, by simp; omega, by simp; omega, by simp; omega, by simp; omega, by simp; omega⟩)]; rfl))
set_option maxHeartbeats 1000000 in
theorem quarter_any (a b c n : Int) (w : World) (ha : InB 2199023255552 (a, b, c)) (hn : 0 ≤ n ∧ n ≤ 3) :
    Calls Tryz.prog 92 #[.agg #[.int .i64 a, .int .i64 b, .int .i64 c], .int .i64 n] w fun e w' => e = .returned (vecVal (qn n.toNat (a, b, c))) ∧ Below w.heap.size w w' := by
  obtain ⟨hn0, hn1⟩ := hn
  have HQ := Lib.hid (qn_bd ha)
  clear ha
  go_enter Tryz.func92, Tryz.ntmps92
  go_wp2
  go_loopw [5] (fun i wr => ∃ (j : Nat) (x y z : Int), (j : Int) ≤ n ∧ i = .int .i64 j ∧ Hid (qn j (a, b, c) = (x, y, z)) ∧ wr = (w.alloc (.cells #[.int .i64 x, .int .i64 y, .int .i64 z] 39)).alloc (.cells #[.int .i64 0, .int .i64 0, .int .i64 0] 39)) (fun i _ => 4 - (intOf i).toNat)
  case atStart => exact ⟨0, a, b, c, by omega, rfl, rfl, rfl⟩
  case round =>
    obtain ⟨j, x, y, z, hj, rfl, hq, rfl⟩ := hrel
    have hb := HQ.out j
    rw [hq.out] at hb
    obtain ⟨hx0, hx1, hy0, hy1, hz0, hz1⟩ := hb
    simp only at hx0 hx1 hy0 hy1 hz0 hz1
    by_cases hlt : (j : Int) < n
    · go_wp2
      go_roundw
      case rel => exact ⟨j + 1, -y, x, z, by omega, by go_num, by show qt (qn j (a, b, c)) = _; rw [hq.out]; rfl, rfl⟩
      case measure => simp [intOf]; omega
    · have hjm : n.toNat = j := by omega
      have HK : Hid (qn n.toNat (a, b, c) = (x, y, z)) := by show qn n.toNat (a, b, c) = _; rw [hjm, hq.out]
      clear hjm
      go_wp2
      go_returns
      rw [HK.out]
      exact ⟨rfl, by go_grown⟩
set_option maxHeartbeats 1000000 in
theorem tilt_any (x y z n : Int) (w : World) (ha : InB 2199023255552 (x, y, z)) :
    Calls Tryz.prog 91 #[.agg #[.int .i64 x, .int .i64 y, .int .i64 z], .int .i64 n] w fun e w' => e = .returned (vecVal (tiltV n (x, y, z))) ∧ Below w.heap.size w w' := by
  obtain ⟨hx0, hx1, hy0, hy1, hz0, hz1⟩ := ha
  simp only at hx0 hx1 hy0 hy1 hz0 hz1
  go_enter Tryz.func91, Tryz.ntmps91
  go_wp2
  all_goals go_returns
  all_goals (refine ⟨?_, by go_grown⟩)
  all_goals (first | exact tl1 ‹_› | exact tl2 ‹_› ‹_› | exact tl3 ‹_› ‹_› ‹_› | exact tl4 ‹_› ‹_› ‹_› ‹_› | exact tl5 ‹_› ‹_› ‹_› ‹_› ‹_› | exact tl6 ‹_› ‹_› ‹_› ‹_› ‹_›)
theorem quarter_agg (a b c n : Int) (w : World) (ha : InB 2199023255552 (a, b, c)) (hn : 0 ≤ n ∧ n ≤ 3) :
    Calls Tryz.prog 92 #[.agg #[.int .i64 a, .int .i64 b, .int .i64 c], .int .i64 n] w fun e w' => e = .returned (.agg #[.int .i64 (qn n.toNat (a, b, c)).1, .int .i64 (qn n.toNat (a, b, c)).2.1, .int .i64 (qn n.toNat (a, b, c)).2.2]) ∧ Below w.heap.size w w' := quarter_any a b c n w ha hn
theorem tilt_agg (x y z n : Int) (w : World) (ha : InB 2199023255552 (x, y, z)) :
    Calls Tryz.prog 91 #[.agg #[.int .i64 x, .int .i64 y, .int .i64 z], .int .i64 n] w fun e w' => e = .returned (.agg #[.int .i64 (tiltV n (x, y, z)).1, .int .i64 (tiltV n (x, y, z)).2.1, .int .i64 (tiltV n (x, y, z)).2.2]) ∧ Below w.heap.size w w' := tilt_any x y z n w ha
set_option maxHeartbeats 1000000 in
theorem rturned_num (a b c k : Int) (w : World) (ha : InB 2199023255552 (a, b, c)) :
    Calls Tryz.prog 59 #[.agg #[.int .i64 a, .int .i64 b, .int .i64 c], .int .i64 (numT k)] w fun e w' => e = .returned (.agg #[.int .i64 (turnV (a, b, c) k).1, .int .i64 (turnV (a, b, c) k).2.1, .int .i64 (turnV (a, b, c) k).2.2]) ∧ Below w.heap.size w w' := by
  obtain ⟨hn0, hn1⟩ := num_bd k
  have HQ := Lib.hid (qn_bd ha (numT k % 4).toNat)
  go_enter Tryz.func59, Tryz.ntmps59
  go_wp2_with fail
  (go_at_call 92; (refine (quarter_agg _ _ _ _ _ ha ⟨by omega, by omega⟩).mono ?_; rintro e w1 ⟨rfl, hb⟩; have hB := below_step (w := w) (by go_grown) hb; have hz := hb.size; (try simp only [World.size_alloc] at hz); have hz0 : w.heap.size < w1.heap.size := (by omega); have hz1 : w.heap.size + 1 < w1.heap.size := (by omega); obtain ⟨hc, hf⟩ := bcell hb; clear hb hz))
  go_wp2_with fail
  (go_at_call 91; (refine (tilt_agg _ _ _ _ _ HQ.out).mono ?_; rintro e w21 ⟨rfl, hb⟩; have hB2 := below_step (w := w) (by go_grown) hb; have hz2 := hb.size; (try simp only [World.size_alloc] at hz2); have hz20 : w.heap.size < w21.heap.size := (by omega); have hz21 : w.heap.size + 1 < w21.heap.size := (by omega); obtain ⟨hc2, hf2⟩ := bcell hb; clear hb hz2))
  go_wp2
  all_goals (refine bodyPost_ret (v := .agg #[.int .i64 (tiltV (numT k / 4) ((qn (numT k % 4).toNat (a, b, c)).1, (qn (numT k % 4).toNat (a, b, c)).2.1, (qn (numT k % 4).toNat (a, b, c)).2.2)).1, .int .i64 (tiltV (numT k / 4) ((qn (numT k % 4).toNat (a, b, c)).1, (qn (numT k % 4).toNat (a, b, c)).2.1, (qn (numT k % 4).toNat (a, b, c)).2.2)).2.1, .int .i64 (tiltV (numT k / 4) ((qn (numT k % 4).toNat (a, b, c)).1, (qn (numT k % 4).toNat (a, b, c)).2.1, (qn (numT k % 4).toNat (a, b, c)).2.2)).2.2]) (by simp [results, Tryz.results59, go_sem, *]) rfl ⟨rfl, by go_grown⟩)
set_option maxHeartbeats 1000000 in
theorem rturned_in (a b c k : Int) (w : World) (ha : InB 2199023255552 (a, b, c)) (hk : 0 ≤ k ∧ k ≤ 23) :
    Calls Tryz.prog 59 #[.agg #[.int .i64 a, .int .i64 b, .int .i64 c], .int .i64 k] w fun e w' => e = .returned (.agg #[.int .i64 (turnV (a, b, c) k).1, .int .i64 (turnV (a, b, c) k).2.1, .int .i64 (turnV (a, b, c) k).2.2]) ∧ Below w.heap.size w w' := by
  have h := rturned_num a b c k w ha
  rw [num_in hk.1 hk.2] at h
  exact h
set_option maxHeartbeats 400000 in
theorem rminus {a b c x y z : Int} {w : World} (h : InB 2199023255552 (a, b, c)) (h2 : InB 2199023255552 (x, y, z)) :
    Calls Tryz.prog 93 #[.agg #[.int .i64 a, .int .i64 b, .int .i64 c], .agg #[.int .i64 x, .int .i64 y, .int .i64 z]] w fun e w' => e = .returned (.agg #[.int .i64 (a - x), .int .i64 (b - y), .int .i64 (c - z)]) ∧ Below w.heap.size w w' := by
  obtain ⟨ha0, ha1, hb0, hb1, hc0, hc1⟩ := h
  obtain ⟨hx0, hx1, hy0, hy1, hz0, hz1⟩ := h2
  simp only at ha0 ha1 hb0 hb1 hc0 hc1 hx0 hx1 hy0 hy1 hz0 hz1
  go_enter Tryz.func93, Tryz.ntmps93
  go_wp2
  go_returns
  exact ⟨rfl, by go_grown⟩
set_option maxHeartbeats 1000000 in
theorem rTurn_yes (a b c k : Int) (w : World) (h : InB 1099511627776 (a, b, c)) :
    Calls Tryz.prog 23 #[.agg #[.int .i64 a, .int .i64 b, .int .i64 c], .int .i64 k] w fun e w' => e = .returned (.agg #[.int .i64 (turnV (a, b, c) k).1, .int .i64 (turnV (a, b, c) k).2.1, .int .i64 (turnV (a, b, c) k).2.2]) ∧ Below w.heap.size w w' := by
  have hpc := past_cell
  go_enter Tryz.func23, Tryz.ntmps23
  go_wp2_with fail
  (go_at_call 58; (refine (small_yes _ _ _ _ h).mono ?_; rintro e w1 ⟨rfl, hb⟩; have hB := below_step (w := w) (by go_grown) hb; have hz := hb.size; (try simp only [World.size_alloc] at hz); have hz0 : w.heap.size < w1.heap.size := (by omega); have hz1 : w.heap.size + 1 < w1.heap.size := (by omega); obtain ⟨hc, hf⟩ := bcell hb; clear hb hz))
  go_wp2_with fail
  refine wp_region_past_tail 4 (by kernel_rfl) (by kernel_rfl) ?_
  simp only [List.take_succ_cons, List.take_zero, List.drop_succ_cons, List.drop_zero]
  iterate 4 go_big_quiet_step (first | ((go_at_call 60; exact past_of (rotation_any _ _))) | ((go_at_call 59; exact past_of (rturned_num _ _ _ _ _ (small_big h)))))
  refine wpQuiet_nil ?_
  intro w21 hw'
  have hb := past_out hw'
  clear hw'
  have hB2 := below_step (w := w) (by go_grown) hb
  have hz2 := hb.size
  (try simp only [World.size_alloc] at hz2)
  have hz20 : w.heap.size < w21.heap.size := by omega
  have hz21 : w.heap.size + 1 < w21.heap.size := by omega
  obtain ⟨hc2, hf2⟩ := bcell hb
  clear hb hz2
  go_wp2
  all_goals (refine bodyPost_ret (v := .agg #[.int .i64 (turnV (a, b, c) k).1, .int .i64 (turnV (a, b, c) k).2.1, .int .i64 (turnV (a, b, c) k).2.2]) (by simp [results, Tryz.results23, go_sem, *]) rfl ⟨rfl, by go_grown⟩)
set_option maxHeartbeats 1000000 in
theorem rTurn_no (a b c k : Int) (w : World) (h : ¬ InB 1099511627776 (a, b, c)) :
    Calls Tryz.prog 23 #[.agg #[.int .i64 a, .int .i64 b, .int .i64 c], .int .i64 k] w fun e w' => e = .returned (.agg #[.int .i64 0, .int .i64 0, .int .i64 0]) ∧ Below w.heap.size w w' := by
  go_enter Tryz.func23, Tryz.ntmps23
  go_wp2_with fail
  (go_at_call 58; (refine (small_no _ _ _ _ h).mono ?_; rintro e w1 ⟨rfl, hb⟩; have hB := below_step (w := w) (by go_grown) hb; have hz := hb.size; (try simp only [World.size_alloc] at hz); have hz0 : w.heap.size < w1.heap.size := (by omega); have hz1 : w.heap.size + 1 < w1.heap.size := (by omega); obtain ⟨hc, hf⟩ := bcell hb; clear hb hz))
  go_wp2
  all_goals (refine bodyPost_ret (v := .agg #[.int .i64 0, .int .i64 0, .int .i64 0]) (by simp [results, Tryz.results23, go_sem, *]) rfl ⟨rfl, by go_grown⟩)
set_option maxHeartbeats 1000000 in
theorem rTurn_any (a b c k : Int) (w : World)  :
    Calls Tryz.prog 23 #[.agg #[.int .i64 a, .int .i64 b, .int .i64 c], .int .i64 k] w fun e w' => e = .returned (.agg #[.int .i64 (turnF (a, b, c) k).1, .int .i64 (turnF (a, b, c) k).2.1, .int .i64 (turnF (a, b, c) k).2.2]) ∧ Below w.heap.size w w' := by
  by_cases h : InB 1099511627776 (a, b, c)
  · rw [show turnF (a, b, c) k = turnV (a, b, c) k from if_pos h]; exact rTurn_yes a b c k w h
  · rw [show turnF (a, b, c) k = zeroV from if_neg h]; exact rTurn_no a b c k w h

def rcV (a b : Int) (B : Nat) (i : Nat) (v : Value) (w : World) : Prop :=
  match i with
  | 0 => v = .agg #[.int .i64 1, .int .i64 2, .int .i64 3]
  | 1 => v = .int .i64 a
  | 2 => v = .int .i64 (numT a)
  | 3 => v = .agg #[.int .i64 ((turnV (1, 2, 3) a)).1, .int .i64 ((turnV (1, 2, 3) a)).2.1, .int .i64 ((turnV (1, 2, 3) a)).2.2]
  | 4 => v = .int .i64 b
  | 5 => v = .int .i64 (numT b)
  | 6 => v = .agg #[.int .i64 ((turnV ((turnV (1, 2, 3) a).1, (turnV (1, 2, 3) a).2.1, (turnV (1, 2, 3) a).2.2) b)).1, .int .i64 ((turnV ((turnV (1, 2, 3) a).1, (turnV (1, 2, 3) a).2.1, (turnV (1, 2, 3) a).2.2) b)).2.1, .int .i64 ((turnV ((turnV (1, 2, 3) a).1, (turnV (1, 2, 3) a).2.1, (turnV (1, 2, 3) a).2.2) b)).2.2]
  | _ => NewCells B #[.int .i64 0, .int .i64 0, .int .i64 0] 39 v w
set_option maxHeartbeats 1000000 in
theorem rSub_yes (a b c x y z : Int) (w : World) (hp : InB 1099511627776 (a, b, c)) (hv : InB 1099511627776 (x, y, z)) :
    Calls Tryz.prog 61 #[.agg #[.int .i64 a, .int .i64 b, .int .i64 c], .agg #[.int .i64 x, .int .i64 y, .int .i64 z]] w fun e w' => e = .returned (.agg #[.int .i64 (a - x), .int .i64 (b - y), .int .i64 (c - z)]) ∧ Below w.heap.size w w' := by
  go_enter Tryz.func61, Tryz.ntmps61
  go_wp2_with fail
  (go_at_call 58; (refine (small_yes _ _ _ _ hp).mono ?_; rintro e w1 ⟨rfl, hb⟩; have hB := below_step (w := w) (by go_grown) hb; have hz := hb.size; (try simp only [World.size_alloc] at hz); have hz0 : w.heap.size < w1.heap.size := (by omega); have hz1 : w.heap.size + 1 < w1.heap.size := (by omega); have hz2 : w.heap.size + 1 + 1 < w1.heap.size := (by omega); obtain ⟨hc, hf⟩ := bcell hb; clear hb hz))
  go_wp2_with fail
  (go_at_call 58; (refine (small_yes _ _ _ _ hv).mono ?_; rintro e w21 ⟨rfl, hb⟩; have hB2 := below_step (w := w) (by go_grown) hb; have hz2 := hb.size; (try simp only [World.size_alloc] at hz2); have hz20 : w.heap.size < w21.heap.size := (by omega); have hz21 : w.heap.size + 1 < w21.heap.size := (by omega); have hz22 : w.heap.size + 1 + 1 < w21.heap.size := (by omega); obtain ⟨hc2, hf2⟩ := bcell hb; clear hb hz2))
  go_wp2_with fail
  (go_at_call 93; (refine (rminus (small_big hp) (small_big hv)).mono ?_; rintro e w31 ⟨rfl, hb⟩; have hB3 := below_step (w := w) (by go_grown) hb; have hz3 := hb.size; (try simp only [World.size_alloc] at hz3); have hz30 : w.heap.size < w31.heap.size := (by omega); have hz31 : w.heap.size + 1 < w31.heap.size := (by omega); have hz32 : w.heap.size + 1 + 1 < w31.heap.size := (by omega); obtain ⟨hc3, hf3⟩ := bcell hb; clear hb hz3))
  go_wp2
  all_goals (refine bodyPost_ret (v := .agg #[.int .i64 (a - x), .int .i64 (b - y), .int .i64 (c - z)]) (by simp [results, Tryz.results61, go_sem, *]) rfl ⟨rfl, by go_grown⟩)
set_option maxHeartbeats 1000000 in
theorem rSub_no1 (a b c x y z : Int) (w : World) (hp : ¬ InB 1099511627776 (a, b, c)) :
    Calls Tryz.prog 61 #[.agg #[.int .i64 a, .int .i64 b, .int .i64 c], .agg #[.int .i64 x, .int .i64 y, .int .i64 z]] w fun e w' => e = .returned (.agg #[.int .i64 0, .int .i64 0, .int .i64 0]) ∧ Below w.heap.size w w' := by
  go_enter Tryz.func61, Tryz.ntmps61
  go_wp2_with fail
  (go_at_call 58; (refine (small_no _ _ _ _ hp).mono ?_; rintro e w1 ⟨rfl, hb⟩; have hB := below_step (w := w) (by go_grown) hb; have hz := hb.size; (try simp only [World.size_alloc] at hz); have hz0 : w.heap.size < w1.heap.size := (by omega); have hz1 : w.heap.size + 1 < w1.heap.size := (by omega); have hz2 : w.heap.size + 1 + 1 < w1.heap.size := (by omega); obtain ⟨hc, hf⟩ := bcell hb; clear hb hz))
  go_wp2
  all_goals (refine bodyPost_ret (v := .agg #[.int .i64 0, .int .i64 0, .int .i64 0]) (by simp [results, Tryz.results61, go_sem, *]) rfl ⟨rfl, by go_grown⟩)
set_option maxHeartbeats 1000000 in
theorem rSub_no2 (a b c x y z : Int) (w : World) (hp : InB 1099511627776 (a, b, c)) (hv : ¬ InB 1099511627776 (x, y, z)) :
    Calls Tryz.prog 61 #[.agg #[.int .i64 a, .int .i64 b, .int .i64 c], .agg #[.int .i64 x, .int .i64 y, .int .i64 z]] w fun e w' => e = .returned (.agg #[.int .i64 0, .int .i64 0, .int .i64 0]) ∧ Below w.heap.size w w' := by
  go_enter Tryz.func61, Tryz.ntmps61
  go_wp2_with fail
  (go_at_call 58; (refine (small_yes _ _ _ _ hp).mono ?_; rintro e w1 ⟨rfl, hb⟩; have hB := below_step (w := w) (by go_grown) hb; have hz := hb.size; (try simp only [World.size_alloc] at hz); have hz0 : w.heap.size < w1.heap.size := (by omega); have hz1 : w.heap.size + 1 < w1.heap.size := (by omega); have hz2 : w.heap.size + 1 + 1 < w1.heap.size := (by omega); obtain ⟨hc, hf⟩ := bcell hb; clear hb hz))
  go_wp2_with fail
  (go_at_call 58; (refine (small_no _ _ _ _ hv).mono ?_; rintro e w21 ⟨rfl, hb⟩; have hB2 := below_step (w := w) (by go_grown) hb; have hz2 := hb.size; (try simp only [World.size_alloc] at hz2); have hz20 : w.heap.size < w21.heap.size := (by omega); have hz21 : w.heap.size + 1 < w21.heap.size := (by omega); have hz22 : w.heap.size + 1 + 1 < w21.heap.size := (by omega); obtain ⟨hc2, hf2⟩ := bcell hb; clear hb hz2))
  go_wp2
  all_goals (refine bodyPost_ret (v := .agg #[.int .i64 0, .int .i64 0, .int .i64 0]) (by simp [results, Tryz.results61, go_sem, *]) rfl ⟨rfl, by go_grown⟩)
set_option maxHeartbeats 1000000 in
theorem rSub_any (a b c x y z : Int) (w : World)  :
    Calls Tryz.prog 61 #[.agg #[.int .i64 a, .int .i64 b, .int .i64 c], .agg #[.int .i64 x, .int .i64 y, .int .i64 z]] w fun e w' => e = .returned (.agg #[.int .i64 (subF (a, b, c) (x, y, z)).1, .int .i64 (subF (a, b, c) (x, y, z)).2.1, .int .i64 (subF (a, b, c) (x, y, z)).2.2]) ∧ Below w.heap.size w w' := by
  by_cases hp : InB 1099511627776 (a, b, c)
  · by_cases hv : InB 1099511627776 (x, y, z)
    · rw [show subF (a, b, c) (x, y, z) = addV (a, b, c) (negV (x, y, z)) from if_pos ⟨hp, hv⟩]; exact rSub_yes a b c x y z w hp hv
    · rw [show subF (a, b, c) (x, y, z) = zeroV from if_neg (fun h => hv h.2)]; exact rSub_no2 a b c x y z w hp hv
  · rw [show subF (a, b, c) (x, y, z) = zeroV from if_neg (fun h => hp h.1)]; exact rSub_no1 a b c x y z w hp
set_option maxHeartbeats 1000000 in
theorem rValid_yes (a b c k : Int) (w : World) (hp : InB 524288 (a, b, c)) (hk : 0 ≤ k ∧ k ≤ 23) :
    Calls Tryz.prog 15 #[.agg #[.int .i64 a, .int .i64 b, .int .i64 c, .int .i64 k]] w fun e w' => e = .returned (.bool true) ∧ Below w.heap.size w w' := by
  obtain ⟨hx0, hx1, hy0, hy1, hz0, hz1⟩ := hp
  simp only at hx0 hx1 hy0 hy1 hz0 hz1
  obtain ⟨hk0, hk1⟩ := hk
  go_enter Tryz.func15, Tryz.ntmps15
  go_wp2
  go_returns
  exact ⟨rfl, by go_grown⟩
set_option maxHeartbeats 1000000 in
theorem rValid_no (a b c k : Int) (w : World) (hp : ¬ (InB 524288 (a, b, c) ∧ 0 ≤ k ∧ k ≤ 23)) :
    Calls Tryz.prog 15 #[.agg #[.int .i64 a, .int .i64 b, .int .i64 c, .int .i64 k]] w fun e w' => e = .returned (.bool false) ∧ Below w.heap.size w w' := by
  have H := Lib.hid hp
  clear hp
  go_enter Tryz.func15, Tryz.ntmps15
  go_wp2
  all_goals go_returns
  all_goals refine ⟨?_, by go_grown⟩
  all_goals (first | rfl | (exfalso; exact H.out ⟨⟨by simp; omega, by simp; omega, by simp; omega, by simp; omega, by simp; omega, by simp; omega⟩, by omega, by omega⟩) | (rw [decide_eq_false (fun h => H.out ⟨⟨by simp; omega, by simp; omega, by simp; omega, by simp; omega, by simp; omega, by simp; omega⟩, by omega, by omega⟩)]; rfl))
set_option maxHeartbeats 1000000 in
theorem rValid_any (a b c k : Int) (w : World)  :
    Calls Tryz.prog 15 #[.agg #[.int .i64 a, .int .i64 b, .int .i64 c, .int .i64 k]] w fun e w' => e = .returned (.bool (validF (a, b, c) k)) ∧ Below w.heap.size w w' := by
  by_cases h : InB 524288 (a, b, c) ∧ 0 ≤ k ∧ k ≤ 23
  · rw [show validF (a, b, c) k = true by unfold validF; simp [h.1, num_in h.2.1 h.2.2]]; exact rValid_yes a b c k w h.1 h.2
  · rw [show validF (a, b, c) k = false by
      unfold validF
      rw [Bool.and_eq_false_iff]
      by_cases hp : InB 524288 (a, b, c)
      · exact .inr (decide_eq_false fun hk => h ⟨hp, by have := num_bd k; omega⟩)
      · exact .inl (decide_eq_false hp)]
    exact rValid_no a b c k w h
end Go.Proofs.YtgbhhjdmochhpaaGreatDoor
