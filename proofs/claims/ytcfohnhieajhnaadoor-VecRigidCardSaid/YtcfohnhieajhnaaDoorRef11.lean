/-
  What the functions of the reference of chapter 11 return, by walks: the same as package vec's. Conditions: the bounds that each theorem names. By an AI agent.
-/
import Derived.Test.YtcfohnhieajhnaaDoorVec3
import Derived.Test.YtcfohnhieajhnaaDoorRel
namespace Go.Proofs.YtcfohnhieajhnaaDoor
open Go.RowKit
set_option linter.unusedSimpArgs false

set_option maxHeartbeats 400000 in
theorem rotation_any (k : Int) (w : World) :
    Calls Tryd.prog 39 #[.int .i64 k] w fun e w' => e = .returned (.int .i64 (numT k)) ∧ Below w.heap.size w w' := by
  by_cases h0 : k < 0
  · go_enter Tryd.func39, Tryd.ntmps39
    go_wp2
    go_ret
    exact ⟨by unfold numT; rw [if_pos h0]; rfl, by go_grown⟩
  · by_cases h1 : 23 < k
    · go_enter Tryd.func39, Tryd.ntmps39
      go_wp2
      go_ret
      exact ⟨by unfold numT; rw [if_neg (by omega), if_pos (by omega)]; rfl, by go_grown⟩
    · go_enter Tryd.func39, Tryd.ntmps39
      go_wp2
      go_ret
      exact ⟨by unfold numT; rw [if_neg (by omega), if_neg (by omega)]; rfl, by go_grown⟩
set_option maxHeartbeats 1000000 in
theorem small_yes (a b c : Int) (w : World) (h : InB 1099511627776 (a, b, c)) :
    Calls Tryd.prog 44 #[.agg #[.int .i64 a, .int .i64 b, .int .i64 c]] w fun e w' => e = .returned (.bool true) ∧ Below w.heap.size w w' := by
  obtain ⟨hx0, hx1, hy0, hy1, hz0, hz1⟩ := h
  simp only at hx0 hx1 hy0 hy1 hz0 hz1
  go_enter Tryd.func44, Tryd.ntmps44
  go_wp2
  go_returns
  exact ⟨rfl, by go_grown⟩
set_option maxHeartbeats 1000000 in
theorem small_no (a b c : Int) (w : World) (h : ¬ InB 1099511627776 (a, b, c)) :
    Calls Tryd.prog 44 #[.agg #[.int .i64 a, .int .i64 b, .int .i64 c]] w fun e w' => e = .returned (.bool false) ∧ Below w.heap.size w w' := by
  have H : Hid (¬ InB 1099511627776 (a, b, c)) := Lib.hid h
  clear h
  go_enter Tryd.func44, Tryd.ntmps44
  go_wp2
  all_goals go_returns
  all_goals refine ⟨?_, by go_grown⟩
  all_goals (first | rfl | (rw [decide_eq_false (fun h => H.out ⟨by simp; omega, by simp; omega, by simp; omega, by simp; omega, by simp; omega, by simp; omega⟩)]; rfl))
set_option maxHeartbeats 1000000 in
theorem quarter_any (a b c n : Int) (w : World) (ha : InB 2199023255552 (a, b, c)) (hn : 0 ≤ n ∧ n ≤ 3) :
    Calls Tryd.prog 48 #[.agg #[.int .i64 a, .int .i64 b, .int .i64 c], .int .i64 n] w fun e w' => e = .returned (vecVal (qn n.toNat (a, b, c))) ∧ Below w.heap.size w w' := by
  obtain ⟨hn0, hn1⟩ := hn
  have HQ := Lib.hid (qn_bd ha)
  clear ha
  go_enter Tryd.func48, Tryd.ntmps48
  go_wp2
  go_loopw [5] (fun i wr => ∃ (j : Nat) (x y z : Int), (j : Int) ≤ n ∧ i = .int .i64 j ∧ Hid (qn j (a, b, c) = (x, y, z)) ∧ wr = (w.alloc (.cells #[.int .i64 x, .int .i64 y, .int .i64 z] 27)).alloc (.cells #[.int .i64 0, .int .i64 0, .int .i64 0] 27)) (fun i _ => 4 - (intOf i).toNat)
  case atStart => exact ⟨0, a, b, c, by omega, rfl, rfl, rfl⟩
  case round =>
    obtain ⟨j, x, y, z, hj, rfl, hq, rfl⟩ := hrel
    have hb := HQ.out j
    rw [hq.out] at hb
    obtain ⟨hx0, hx1, hy0, hy1, hz0, hz1⟩ := hb
    simp only at hx0 hx1 hy0 hy1 hz0 hz1
    by_cases hlt : (j : Int) < n
    · go_wp2
      go_roundw
      case rel => exact ⟨j + 1, -y, x, z, by omega, by go_num, by show qt (qn j (a, b, c)) = _; rw [hq.out]; rfl, rfl⟩
      case measure => simp [intOf]; omega
    · have hjm : n.toNat = j := by omega
      have HK : Hid (qn n.toNat (a, b, c) = (x, y, z)) := by show qn n.toNat (a, b, c) = _; rw [hjm, hq.out]
      clear hjm
      go_wp2
      go_returns
      rw [HK.out]
      exact ⟨rfl, by go_grown⟩
set_option maxHeartbeats 1000000 in
theorem tilt_any (x y z n : Int) (w : World) (ha : InB 2199023255552 (x, y, z)) :
    Calls Tryd.prog 47 #[.agg #[.int .i64 x, .int .i64 y, .int .i64 z], .int .i64 n] w fun e w' => e = .returned (vecVal (tiltV n (x, y, z))) ∧ Below w.heap.size w w' := by
  obtain ⟨hx0, hx1, hy0, hy1, hz0, hz1⟩ := ha
  simp only at hx0 hx1 hy0 hy1 hz0 hz1
  go_enter Tryd.func47, Tryd.ntmps47
  go_wp2
  all_goals go_returns
  all_goals (refine ⟨?_, by go_grown⟩)
  all_goals (first | exact tl1 ‹_› | exact tl2 ‹_› ‹_› | exact tl3 ‹_› ‹_› ‹_› | exact tl4 ‹_› ‹_› ‹_› ‹_› | exact tl5 ‹_› ‹_› ‹_› ‹_› ‹_› | exact tl6 ‹_› ‹_› ‹_› ‹_› ‹_›)
theorem quarter_agg (a b c n : Int) (w : World) (ha : InB 2199023255552 (a, b, c)) (hn : 0 ≤ n ∧ n ≤ 3) :
    Calls Tryd.prog 48 #[.agg #[.int .i64 a, .int .i64 b, .int .i64 c], .int .i64 n] w fun e w' => e = .returned (.agg #[.int .i64 (qn n.toNat (a, b, c)).1, .int .i64 (qn n.toNat (a, b, c)).2.1, .int .i64 (qn n.toNat (a, b, c)).2.2]) ∧ Below w.heap.size w w' := quarter_any a b c n w ha hn
theorem tilt_agg (x y z n : Int) (w : World) (ha : InB 2199023255552 (x, y, z)) :
    Calls Tryd.prog 47 #[.agg #[.int .i64 x, .int .i64 y, .int .i64 z], .int .i64 n] w fun e w' => e = .returned (.agg #[.int .i64 (tiltV n (x, y, z)).1, .int .i64 (tiltV n (x, y, z)).2.1, .int .i64 (tiltV n (x, y, z)).2.2]) ∧ Below w.heap.size w w' := tilt_any x y z n w ha
set_option maxHeartbeats 1000000 in
theorem rturned_num (a b c k : Int) (w : World) (ha : InB 2199023255552 (a, b, c)) :
    Calls Tryd.prog 38 #[.agg #[.int .i64 a, .int .i64 b, .int .i64 c], .int .i64 (numT k)] w fun e w' => e = .returned (.agg #[.int .i64 (turnV (a, b, c) k).1, .int .i64 (turnV (a, b, c) k).2.1, .int .i64 (turnV (a, b, c) k).2.2]) ∧ Below w.heap.size w w' := by
  obtain ⟨hn0, hn1⟩ := num_bd k
  have HQ := Lib.hid (qn_bd ha (numT k % 4).toNat)
  go_enter Tryd.func38, Tryd.ntmps38
  go_wp2_with fail
  (go_at_call 48; (refine (quarter_agg _ _ _ _ _ ha ⟨by omega, by omega⟩).mono ?_; rintro e w1 ⟨rfl, hb⟩; have hB := below_step (w := w) (by go_grown) hb; have hz := hb.size; (try simp only [World.size_alloc] at hz); have hz0 : w.heap.size < w1.heap.size := (by omega); have hz1 : w.heap.size + 1 < w1.heap.size := (by omega); obtain ⟨hc, hf⟩ := bcell hb; clear hb hz))
  go_wp2_with fail
  (go_at_call 47; (refine (tilt_agg _ _ _ _ _ HQ.out).mono ?_; rintro e w21 ⟨rfl, hb⟩; have hB2 := below_step (w := w) (by go_grown) hb; have hz2 := hb.size; (try simp only [World.size_alloc] at hz2); have hz20 : w.heap.size < w21.heap.size := (by omega); have hz21 : w.heap.size + 1 < w21.heap.size := (by omega); obtain ⟨hc2, hf2⟩ := bcell hb; clear hb hz2))
  go_wp2
  all_goals (refine bodyPost_ret (v := .agg #[.int .i64 (tiltV (numT k / 4) ((qn (numT k % 4).toNat (a, b, c)).1, (qn (numT k % 4).toNat (a, b, c)).2.1, (qn (numT k % 4).toNat (a, b, c)).2.2)).1, .int .i64 (tiltV (numT k / 4) ((qn (numT k % 4).toNat (a, b, c)).1, (qn (numT k % 4).toNat (a, b, c)).2.1, (qn (numT k % 4).toNat (a, b, c)).2.2)).2.1, .int .i64 (tiltV (numT k / 4) ((qn (numT k % 4).toNat (a, b, c)).1, (qn (numT k % 4).toNat (a, b, c)).2.1, (qn (numT k % 4).toNat (a, b, c)).2.2)).2.2]) (by simp [results, Tryd.results38, go_sem, *]) rfl ⟨rfl, by go_grown⟩)
set_option maxHeartbeats 1000000 in
theorem rturned_in (a b c k : Int) (w : World) (ha : InB 2199023255552 (a, b, c)) (hk : 0 ≤ k ∧ k ≤ 23) :
    Calls Tryd.prog 38 #[.agg #[.int .i64 a, .int .i64 b, .int .i64 c], .int .i64 k] w fun e w' => e = .returned (.agg #[.int .i64 (turnV (a, b, c) k).1, .int .i64 (turnV (a, b, c) k).2.1, .int .i64 (turnV (a, b, c) k).2.2]) ∧ Below w.heap.size w w' := by
  have h := rturned_num a b c k w ha
  rw [num_in hk.1 hk.2] at h
  exact h
set_option maxHeartbeats 400000 in
theorem rplus {a b c x y z : Int} {w : World} (h : InB 2199023255552 (a, b, c)) (h2 : InB 2199023255552 (x, y, z)) :
    Calls Tryd.prog 45 #[.agg #[.int .i64 a, .int .i64 b, .int .i64 c], .agg #[.int .i64 x, .int .i64 y, .int .i64 z]] w fun e w' => e = .returned (.agg #[.int .i64 (a + x), .int .i64 (b + y), .int .i64 (c + z)]) ∧ Below w.heap.size w w' := by
  obtain ⟨ha0, ha1, hb0, hb1, hc0, hc1⟩ := h
  obtain ⟨hx0, hx1, hy0, hy1, hz0, hz1⟩ := h2
  simp only at ha0 ha1 hb0 hb1 hc0 hc1 hx0 hx1 hy0 hy1 hz0 hz1
  go_enter Tryd.func45, Tryd.ntmps45
  go_wp2
  go_returns
  exact ⟨rfl, by go_grown⟩
set_option maxHeartbeats 400000 in
theorem rminus {a b c x y z : Int} {w : World} (h : InB 2199023255552 (a, b, c)) (h2 : InB 2199023255552 (x, y, z)) :
    Calls Tryd.prog 46 #[.agg #[.int .i64 a, .int .i64 b, .int .i64 c], .agg #[.int .i64 x, .int .i64 y, .int .i64 z]] w fun e w' => e = .returned (.agg #[.int .i64 (a - x), .int .i64 (b - y), .int .i64 (c - z)]) ∧ Below w.heap.size w w' := by
  obtain ⟨ha0, ha1, hb0, hb1, hc0, hc1⟩ := h
  obtain ⟨hx0, hx1, hy0, hy1, hz0, hz1⟩ := h2
  simp only at ha0 ha1 hb0 hb1 hc0 hc1 hx0 hx1 hy0 hy1 hz0 hz1
  go_enter Tryd.func46, Tryd.ntmps46
  go_wp2
  go_returns
  exact ⟨rfl, by go_grown⟩
set_option maxHeartbeats 1000000 in
theorem rTurn_yes (a b c k : Int) (w : World) (h : InB 1099511627776 (a, b, c)) :
    Calls Tryd.prog 35 #[.agg #[.int .i64 a, .int .i64 b, .int .i64 c], .int .i64 k] w fun e w' => e = .returned (.agg #[.int .i64 (turnV (a, b, c) k).1, .int .i64 (turnV (a, b, c) k).2.1, .int .i64 (turnV (a, b, c) k).2.2]) ∧ Below w.heap.size w w' := by
  have hpc := past_cell
  go_enter Tryd.func35, Tryd.ntmps35
  go_wp2_with fail
  (go_at_call 44; (refine (small_yes _ _ _ _ h).mono ?_; rintro e w1 ⟨rfl, hb⟩; have hB := below_step (w := w) (by go_grown) hb; have hz := hb.size; (try simp only [World.size_alloc] at hz); have hz0 : w.heap.size < w1.heap.size := (by omega); have hz1 : w.heap.size + 1 < w1.heap.size := (by omega); obtain ⟨hc, hf⟩ := bcell hb; clear hb hz))
  go_wp2_with fail
  refine wp_region_past_tail 4 (by kernel_rfl) (by kernel_rfl) ?_
  simp only [List.take_succ_cons, List.take_zero, List.drop_succ_cons, List.drop_zero]
  iterate 4 go_big_quiet_step (first | ((go_at_call 39; exact past_of (rotation_any _ _))) | ((go_at_call 38; exact past_of (rturned_num _ _ _ _ _ (small_big h)))))
  refine wpQuiet_nil ?_
  intro w21 hw'
  have hb := past_out hw'
  clear hw'
  have hB2 := below_step (w := w) (by go_grown) hb
  have hz2 := hb.size
  (try simp only [World.size_alloc] at hz2)
  have hz20 : w.heap.size < w21.heap.size := by omega
  have hz21 : w.heap.size + 1 < w21.heap.size := by omega
  obtain ⟨hc2, hf2⟩ := bcell hb
  clear hb hz2
  go_wp2
  all_goals (refine bodyPost_ret (v := .agg #[.int .i64 (turnV (a, b, c) k).1, .int .i64 (turnV (a, b, c) k).2.1, .int .i64 (turnV (a, b, c) k).2.2]) (by simp [results, Tryd.results35, go_sem, *]) rfl ⟨rfl, by go_grown⟩)
set_option maxHeartbeats 1000000 in
theorem rTurn_no (a b c k : Int) (w : World) (h : ¬ InB 1099511627776 (a, b, c)) :
    Calls Tryd.prog 35 #[.agg #[.int .i64 a, .int .i64 b, .int .i64 c], .int .i64 k] w fun e w' => e = .returned (.agg #[.int .i64 0, .int .i64 0, .int .i64 0]) ∧ Below w.heap.size w w' := by
  go_enter Tryd.func35, Tryd.ntmps35
  go_wp2_with fail
  (go_at_call 44; (refine (small_no _ _ _ _ h).mono ?_; rintro e w1 ⟨rfl, hb⟩; have hB := below_step (w := w) (by go_grown) hb; have hz := hb.size; (try simp only [World.size_alloc] at hz); have hz0 : w.heap.size < w1.heap.size := (by omega); have hz1 : w.heap.size + 1 < w1.heap.size := (by omega); obtain ⟨hc, hf⟩ := bcell hb; clear hb hz))
  go_wp2
  all_goals (refine bodyPost_ret (v := .agg #[.int .i64 0, .int .i64 0, .int .i64 0]) (by simp [results, Tryd.results35, go_sem, *]) rfl ⟨rfl, by go_grown⟩)
set_option maxHeartbeats 1000000 in
theorem rTurn_any (a b c k : Int) (w : World)  :
    Calls Tryd.prog 35 #[.agg #[.int .i64 a, .int .i64 b, .int .i64 c], .int .i64 k] w fun e w' => e = .returned (.agg #[.int .i64 (turnF (a, b, c) k).1, .int .i64 (turnF (a, b, c) k).2.1, .int .i64 (turnF (a, b, c) k).2.2]) ∧ Below w.heap.size w w' := by
  by_cases h : InB 1099511627776 (a, b, c)
  · rw [show turnF (a, b, c) k = turnV (a, b, c) k from if_pos h]; exact rTurn_yes a b c k w h
  · rw [show turnF (a, b, c) k = zeroV from if_neg h]; exact rTurn_no a b c k w h

def rcV (a b : Int) (B : Nat) (i : Nat) (v : Value) (w : World) : Prop :=
  match i with
  | 0 => v = .agg #[.int .i64 1, .int .i64 2, .int .i64 3]
  | 1 => v = .int .i64 a
  | 2 => v = .int .i64 (numT a)
  | 3 => v = .agg #[.int .i64 ((turnV (1, 2, 3) a)).1, .int .i64 ((turnV (1, 2, 3) a)).2.1, .int .i64 ((turnV (1, 2, 3) a)).2.2]
  | 4 => v = .int .i64 b
  | 5 => v = .int .i64 (numT b)
  | 6 => v = .agg #[.int .i64 ((turnV ((turnV (1, 2, 3) a).1, (turnV (1, 2, 3) a).2.1, (turnV (1, 2, 3) a).2.2) b)).1, .int .i64 ((turnV ((turnV (1, 2, 3) a).1, (turnV (1, 2, 3) a).2.1, (turnV (1, 2, 3) a).2.2) b)).2.1, .int .i64 ((turnV ((turnV (1, 2, 3) a).1, (turnV (1, 2, 3) a).2.1, (turnV (1, 2, 3) a).2.2) b)).2.2]
  | _ => NewCells B #[.int .i64 0, .int .i64 0, .int .i64 0] 27 v w
set_option maxHeartbeats 1000000 in
theorem rCompose_any (a b : Int) (w : World)  :
    Calls Tryd.prog 12 #[.int .i64 a, .int .i64 b] w fun e w' => e = .returned (.int .i64 (composeV a b)) ∧ Below w.heap.size w w' := by
  have hpc := past_cell
  go_enter Tryd.func12, Tryd.ntmps12
  go_wp2_with fail
  refine wp_region_rel 8 (rcV a b (w.heap.size + 1)) (by kernel_rfl) (by kernel_rfl) ?_ ?_ ?_
  · intro i v wa wb hb hv
    unfold rcV at *
    split at hv <;> first | exact hv | exact hv.mono hb
  · simp only [List.take_succ_cons, List.take_zero, fillL, Act.put, List.setIfInBounds_toArray, List.set_cons_zero, List.set_cons_succ]
    refine ⟨?_, ?_, ?_, ?_, ?_, ?_, ?_, ?_, trivial⟩
    · intro u wx hb hd
      have hz := hb.size
      simp only [World.size_alloc] at hz
      have hz0 : w.heap.size < wx.heap.size := by omega
      have HB := Lib.hid hb
      obtain ⟨hc, hf⟩ := bcell hb
      clear hb
      simp [depsV, Region.binds, rcV] at hd
      go_simp
      exact ⟨Below.refl _ _, rfl⟩
    · intro u wx hb hd
      have hz := hb.size
      simp only [World.size_alloc] at hz
      have hz0 : w.heap.size < wx.heap.size := by omega
      have HB := Lib.hid hb
      obtain ⟨hc, hf⟩ := bcell hb
      clear hb
      simp [depsV, Region.binds, rcV] at hd
      go_simp
      exact ⟨Below.refl _ _, rfl⟩
    · intro u wx hb hd
      have hz := hb.size
      simp only [World.size_alloc] at hz
      have hz0 : w.heap.size < wx.heap.size := by omega
      have HB := Lib.hid hb
      obtain ⟨hc, hf⟩ := bcell hb
      clear hb
      simp [depsV, Region.binds, rcV] at hd
      go_simp
      (go_at_call 39; refine (rotation_any _ _).mono ?_; rintro e w1 ⟨rfl, hb1⟩; exact ⟨_, rfl, hb1, rfl⟩)
    · intro u wx hb hd
      have hz := hb.size
      simp only [World.size_alloc] at hz
      have hz0 : w.heap.size < wx.heap.size := by omega
      have HB := Lib.hid hb
      obtain ⟨hc, hf⟩ := bcell hb
      clear hb
      simp [depsV, Region.binds, rcV] at hd
      go_simp
      (go_at_call 38; refine (rturned_num _ _ _ _ _ probe_in).mono ?_; rintro e w1 ⟨rfl, hb1⟩; exact ⟨_, rfl, hb1, rfl⟩)
    · intro u wx hb hd
      have hz := hb.size
      simp only [World.size_alloc] at hz
      have hz0 : w.heap.size < wx.heap.size := by omega
      have HB := Lib.hid hb
      obtain ⟨hc, hf⟩ := bcell hb
      clear hb
      simp [depsV, Region.binds, rcV] at hd
      go_simp
      exact ⟨Below.refl _ _, rfl⟩
    · intro u wx hb hd
      have hz := hb.size
      simp only [World.size_alloc] at hz
      have hz0 : w.heap.size < wx.heap.size := by omega
      have HB := Lib.hid hb
      obtain ⟨hc, hf⟩ := bcell hb
      clear hb
      simp [depsV, Region.binds, rcV] at hd
      go_simp
      (go_at_call 39; refine (rotation_any _ _).mono ?_; rintro e w1 ⟨rfl, hb1⟩; exact ⟨_, rfl, hb1, rfl⟩)
    · intro u wx hb hd
      have hz := hb.size
      simp only [World.size_alloc] at hz
      have hz0 : w.heap.size < wx.heap.size := by omega
      have HB := Lib.hid hb
      obtain ⟨hc, hf⟩ := bcell hb
      clear hb
      simp [depsV, Region.binds, rcV] at hd
      go_simp
      (go_at_call 38; refine (rturned_num _ _ _ _ _ (probe_turn a)).mono ?_; rintro e w1 ⟨rfl, hb1⟩; exact ⟨_, rfl, hb1, rfl⟩)
    · intro u wx hb hd
      have hz := hb.size
      simp only [World.size_alloc] at hz
      have hz0 : w.heap.size < wx.heap.size := by omega
      have HB := Lib.hid hb
      obtain ⟨hc, hf⟩ := bcell hb
      clear hb
      simp [depsV, Region.binds, rcV] at hd
      go_simp
      exact ⟨(Below.refl _ _).alloc (Nat.le_refl _) _, ⟨_, rfl, by omega, (MapKept.heap_alloc wx _).1⟩⟩
  · intro u w1 hb hV
    have h6 : u 6 = .agg #[.int .i64 ((turnV ((turnV (1, 2, 3) a).1, (turnV (1, 2, 3) a).2.1, (turnV (1, 2, 3) a).2.2) b)).1, .int .i64 ((turnV ((turnV (1, 2, 3) a).1, (turnV (1, 2, 3) a).2.1, (turnV (1, 2, 3) a).2.2) b)).2.1, .int .i64 ((turnV ((turnV (1, 2, 3) a).1, (turnV (1, 2, 3) a).2.1, (turnV (1, 2, 3) a).2.2) b)).2.2] := hV 6 (by decide)
    obtain ⟨bb, h7, hB7, hh7⟩ : NewCells (w.heap.size + 1) #[.int .i64 0, .int .i64 0, .int .i64 0] 27 (u 7) w1 := hV 7 (by decide)
    clear hV
    simp only [List.drop_succ_cons, List.drop_zero, List.take_succ_cons, List.take_zero, fillL, Act.put, List.setIfInBounds_toArray, List.set_cons_zero, List.set_cons_succ, h6, h7]
    obtain ⟨p, hp⟩ : ∃ p, (turnV ((turnV (1, 2, 3) a).1, (turnV (1, 2, 3) a).2.1, (turnV (1, 2, 3) a).2.2) b) = p := ⟨_, rfl⟩
    rw [hp]
    have HP : Hid (composeV a b = likeV p) := by rw [← hp]; exact rfl
    clear hp h6 h7
    obtain ⟨p0, p1, p2⟩ := p
    simp only
    obtain ⟨hn0, hn1, hn2, hnf⟩ := new3 hh7
    have hz := hb.size
    simp only [World.size_alloc] at hz
    have hz0 : w.heap.size < w1.heap.size := by omega
    have hzb : bb < w1.heap.size := (Array.getElem?_eq_some_iff.1 hh7).1
    have hne : bb ≠ w.heap.size := by omega
    have HB := Lib.hid (below_step (w := w) (by go_grown) hb)
    obtain ⟨hc, hf⟩ := bcell hb
    clear hb hh7
    go_wp2_with fail
    generalize hW : (((w1.setCell ⟨bb, 0, none⟩ (.int .i64 p0)).setCell ⟨bb, 1, none⟩ (.int .i64 p1)).setCell ⟨bb, 2, none⟩ (.int .i64 p2)) = W2
    have hv0 : W2.cell? ⟨w.heap.size, 0, none⟩ = some (.int .i64 1) := by rw [← hW]; clear hW; simp [go_sem, *]
    have hv1 : W2.cell? ⟨w.heap.size, 1, none⟩ = some (.int .i64 2) := by rw [← hW]; clear hW; simp [go_sem, *]
    have hv2 : W2.cell? ⟨w.heap.size, 2, none⟩ = some (.int .i64 3) := by rw [← hW]; clear hW; simp [go_sem, *]
    have hp0 : W2.cell? ⟨bb, 0, none⟩ = some (.int .i64 p0) := by rw [← hW]; clear hW; simp [go_sem, *]
    have hp1 : W2.cell? ⟨bb, 1, none⟩ = some (.int .i64 p1) := by rw [← hW]; clear hW; simp [go_sem, *]
    have hp2 : W2.cell? ⟨bb, 2, none⟩ = some (.int .i64 p2) := by rw [← hW]; clear hW; simp [go_sem, *]
    have hs1 : w.heap.size < W2.heap.size := by rw [← hW]; simp; omega
    have hs2 : bb < W2.heap.size := by rw [← hW]; simp; omega
    have HB2 : Hid (Below w.heap.size w W2) := by show Below _ _ _; rw [← hW]; exact ((HB.out.setCell (by simp; omega) _).setCell (by simp; omega) _).setCell (by simp; omega) _
    clear hW hn0 hn1 hn2 hnf hz hz0 hzb hc hf HB
    go_loopw [7] (fun i wr => ∃ j : Nat, j ≤ 24 ∧ i = .int .i64 j ∧ Hid (composeV a b = findFrom (fun t => decide (turnV probeV t = (p0, p1, p2))) (24 - j) j) ∧ Below W2.heap.size W2 wr) (fun i _ => 24 - (intOf i).toNat)
    case atStart => exact ⟨0, by omega, rfl, HP.out, Below.refl _ _⟩
    case round =>
      obtain ⟨j, hj, rfl, hq, hb⟩ := hrel
      have hz := hb.size
      obtain ⟨hc, hf⟩ := bcell hb
      have HBr := Lib.hid hb
      clear hb hf
      have hz1 : w.heap.size < wr.heap.size := by omega
      have hz2 : bb < wr.heap.size := by omega
      by_cases hlt : j < 24
      · by_cases e : turnV probeV j = (p0, p1, p2)
        · have e1 : decide (((turnV (1, 2, 3) j).1, (turnV (1, 2, 3) j).2.1, (turnV (1, 2, 3) j).2.2) = (p0, p1, p2)) = true := decide_eq_true e
          have e2 := fun W => eql_vec (turnV (1, 2, 3) j).1 (turnV (1, 2, 3) j).2.1 (turnV (1, 2, 3) j).2.2 p0 p1 p2 W
          rw [e1] at e2
          clear e1
          go_wp2_with (fail)
          refine wp_region_past (by kernel_rfl) (by kernel_rfl) ?_
          iterate 5 go_big_quiet_step (first | ((go_at_call 38; exact past_of (rturned_in _ _ _ _ _ probe_in ⟨by omega, by omega⟩))))
          refine wpQuiet_nil ?_
          intro w5 hw'
          have hb1 := past_out hw'
          clear hw'
          go_wp2
          go_ret
          have hr : composeV a b = j := by
            rw [hq.out, show 24 - j = (23 - j) + 1 by omega, findFrom, if_pos (by simpa using e)]
          rw [hr]
          exact ⟨rfl, (below_step HB2.out HBr.out).trans (hb1.mono (below_step HB2.out HBr.out).size)⟩
        · have e1 : decide (((turnV (1, 2, 3) j).1, (turnV (1, 2, 3) j).2.1, (turnV (1, 2, 3) j).2.2) = (p0, p1, p2)) = false := decide_eq_false e
          have e2 := fun W => eql_vec (turnV (1, 2, 3) j).1 (turnV (1, 2, 3) j).2.1 (turnV (1, 2, 3) j).2.2 p0 p1 p2 W
          rw [e1] at e2
          clear e1
          go_wp2_with (fail)
          refine wp_region_past (by kernel_rfl) (by kernel_rfl) ?_
          iterate 5 go_big_quiet_step (first | ((go_at_call 38; exact past_of (rturned_in _ _ _ _ _ probe_in ⟨by omega, by omega⟩))))
          refine wpQuiet_nil ?_
          intro w5 hw'
          have hb1 := past_out hw'
          clear hw'
          go_wp2
          go_roundw
          case rel =>
            refine ⟨j + 1, by omega, by go_num, ?_, HBr.out.trans (hb1.mono HBr.out.size)⟩
            have h1 := hq.out
            rw [show 24 - j = (23 - j) + 1 by omega, findFrom, if_neg (by simpa using e)] at h1
            show composeV a b = _
            rw [h1, show 24 - (j + 1) = 23 - j by omega]; rfl
          case measure => simp [intOf]; omega
      · have hr : composeV a b = 0 := by
          rw [hq.out, show 24 - j = 0 by omega, findFrom]
        have HR := Lib.hid hr
        clear hr
        go_wp2
        go_ret
        rw [HR.out]
        exact ⟨rfl, below_step HB2.out HBr.out⟩
set_option maxHeartbeats 1000000 in
theorem rBack_any (k : Int) (w : World)  :
    Calls Tryd.prog 14 #[.int .i64 k] w fun e w' => e = .returned (.int .i64 (backV k)) ∧ Below w.heap.size w w' := by
  have hbr := back_ref k
  have HB := Lib.hid hbr
  clear hbr
  go_enter Tryd.func14, Tryd.ntmps14
  go_wp2
  go_loopw [3] (fun i wr => ∃ j : Nat, j ≤ 24 ∧ i = .int .i64 j ∧ Hid (backV k = findFrom (fun t => decide (composeV (numT k) t = 0)) (24 - j) j) ∧ Below w.heap.size w wr) (fun i _ => 24 - (intOf i).toNat)
  case atStart => exact ⟨0, by omega, rfl, by rw [← HB.out]; rfl, Below.refl _ _⟩
  case round =>
    obtain ⟨j, hj, rfl, hq, hb⟩ := hrel
    have HBr := Lib.hid hb
    clear hb
    by_cases hlt : j < 24
    · by_cases e : composeV (numT k) j = 0
      · have e1 : (composeV (numT k) j == 0) = true := by simpa using e
        have E := Lib.hid e
        clear e
        go_wp2_with fail
        (go_at_call 39; refine (rotation_any _ _).mono ?_; rintro e w1 ⟨rfl, hb1⟩)
        go_wp2_with fail
        (go_at_call 12; refine (rCompose_any _ _ _).mono ?_; rintro e w2 ⟨rfl, hb2⟩)
        go_wp2
        go_ret
        have hr : backV k = j := by
          rw [hq.out, show 24 - j = (23 - j) + 1 by omega, findFrom, if_pos (by simpa using E.out)]
        rw [hr]
        exact ⟨rfl, below_step (below_step HBr.out hb1) hb2⟩
      · have e1 : (composeV (numT k) j == 0) = false := by simpa using e
        have E := Lib.hid e
        clear e
        go_wp2_with fail
        (go_at_call 39; refine (rotation_any _ _).mono ?_; rintro e w1 ⟨rfl, hb1⟩)
        go_wp2_with fail
        (go_at_call 12; refine (rCompose_any _ _ _).mono ?_; rintro e w2 ⟨rfl, hb2⟩)
        go_wp2
        go_roundw
        case rel =>
          refine ⟨j + 1, by omega, by go_num, ?_, below_step (below_step HBr.out hb1) hb2⟩
          have h1 := hq.out
          rw [show 24 - j = (23 - j) + 1 by omega, findFrom, if_neg (by simpa using E.out)] at h1
          show backV k = _
          rw [h1, show 24 - (j + 1) = 23 - j by omega]; rfl
        case measure => simp [intOf]; omega
    · have hr : backV k = 0 := by
        rw [hq.out, show 24 - j = 0 by omega, findFrom]
      have HR := Lib.hid hr
      clear hr
      go_wp2
      go_ret
      rw [HR.out]
      exact ⟨rfl, HBr.out⟩
set_option maxHeartbeats 1000000 in
theorem rApply_yes (a b c k x y z : Int) (w : World) (hp : InB 1099511627776 (a, b, c)) (hv : InB 1099511627776 (x, y, z)) :
    Calls Tryd.prog 28 #[.agg #[.int .i64 a, .int .i64 b, .int .i64 c, .int .i64 k], .agg #[.int .i64 x, .int .i64 y, .int .i64 z]] w fun e w' => e = .returned (.agg #[.int .i64 ((turnV (x, y, z) k).1 + a), .int .i64 ((turnV (x, y, z) k).2.1 + b), .int .i64 ((turnV (x, y, z) k).2.2 + c)]) ∧ Below w.heap.size w w' := by
  have hpc := past_cell
  have HT := Lib.hid (turn_bd k (small_big hv))
  have HP := Lib.hid (small_big hp)
  go_enter Tryd.func28, Tryd.ntmps28
  go_wp2_with fail
  (go_at_call 44; (refine (small_yes _ _ _ _ hp).mono ?_; rintro e w1 ⟨rfl, hb⟩; have hB := below_step (w := w) (by go_grown) hb; have hz := hb.size; (try simp only [World.size_alloc] at hz); have hz0 : w.heap.size < w1.heap.size := (by omega); have hz1 : w.heap.size + 1 < w1.heap.size := (by omega); have hz2 : w.heap.size + 1 + 1 < w1.heap.size := (by omega); obtain ⟨hc, hf⟩ := bcell hb; clear hb hz))
  go_wp2_with fail
  (go_at_call 44; (refine (small_yes _ _ _ _ hv).mono ?_; rintro e w21 ⟨rfl, hb⟩; have hB2 := below_step (w := w) (by go_grown) hb; have hz2 := hb.size; (try simp only [World.size_alloc] at hz2); have hz20 : w.heap.size < w21.heap.size := (by omega); have hz21 : w.heap.size + 1 < w21.heap.size := (by omega); have hz22 : w.heap.size + 1 + 1 < w21.heap.size := (by omega); obtain ⟨hc2, hf2⟩ := bcell hb; clear hb hz2))
  go_wp2_with fail
  refine wp_region_past_tail 8 (by kernel_rfl) (by kernel_rfl) ?_
  simp only [List.take_succ_cons, List.take_zero, List.drop_succ_cons, List.drop_zero]
  go_big_quiet_step (fail)
  go_big_quiet_step (fail)
  go_big_quiet_step (fail)
  go_big_quiet_step ((go_at_call 39; exact past_of (rotation_any _ _)))
  go_big_quiet_step ((go_at_call 38; exact past_of (rturned_num _ _ _ _ _ (small_big hv))))
  go_big_quiet_step (fail)
  go_big_quiet_step (fail)
  go_big_quiet_step ((go_at_call 45; exact past_of (rplus HT.out HP.out)))
  refine wpQuiet_nil ?_
  intro w31 hw'
  have hb := past_out hw'
  clear hw'
  have hB3 := below_step (w := w) (by go_grown) hb
  have hz3 := hb.size
  (try simp only [World.size_alloc] at hz3)
  have hz30 : w.heap.size < w31.heap.size := by omega
  have hz31 : w.heap.size + 1 < w31.heap.size := by omega
  have hz32 : w.heap.size + 1 + 1 < w31.heap.size := by omega
  obtain ⟨hc3, hf3⟩ := bcell hb
  clear hb hz3
  go_wp2
  all_goals (refine bodyPost_ret (v := .agg #[.int .i64 ((turnV (x, y, z) k).1 + a), .int .i64 ((turnV (x, y, z) k).2.1 + b), .int .i64 ((turnV (x, y, z) k).2.2 + c)]) (by simp [results, Tryd.results28, go_sem, *]) rfl ⟨rfl, by go_grown⟩)
set_option maxHeartbeats 1000000 in
theorem rApply_no1 (a b c k x y z : Int) (w : World) (hp : ¬ InB 1099511627776 (a, b, c)) :
    Calls Tryd.prog 28 #[.agg #[.int .i64 a, .int .i64 b, .int .i64 c, .int .i64 k], .agg #[.int .i64 x, .int .i64 y, .int .i64 z]] w fun e w' => e = .returned (.agg #[.int .i64 0, .int .i64 0, .int .i64 0]) ∧ Below w.heap.size w w' := by
  go_enter Tryd.func28, Tryd.ntmps28
  go_wp2_with fail
  (go_at_call 44; (refine (small_no _ _ _ _ hp).mono ?_; rintro e w1 ⟨rfl, hb⟩; have hB := below_step (w := w) (by go_grown) hb; have hz := hb.size; (try simp only [World.size_alloc] at hz); have hz0 : w.heap.size < w1.heap.size := (by omega); have hz1 : w.heap.size + 1 < w1.heap.size := (by omega); have hz2 : w.heap.size + 1 + 1 < w1.heap.size := (by omega); obtain ⟨hc, hf⟩ := bcell hb; clear hb hz))
  go_wp2
  all_goals (refine bodyPost_ret (v := .agg #[.int .i64 0, .int .i64 0, .int .i64 0]) (by simp [results, Tryd.results28, go_sem, *]) rfl ⟨rfl, by go_grown⟩)
set_option maxHeartbeats 1000000 in
theorem rApply_no2 (a b c k x y z : Int) (w : World) (hp : InB 1099511627776 (a, b, c)) (hv : ¬ InB 1099511627776 (x, y, z)) :
    Calls Tryd.prog 28 #[.agg #[.int .i64 a, .int .i64 b, .int .i64 c, .int .i64 k], .agg #[.int .i64 x, .int .i64 y, .int .i64 z]] w fun e w' => e = .returned (.agg #[.int .i64 0, .int .i64 0, .int .i64 0]) ∧ Below w.heap.size w w' := by
  go_enter Tryd.func28, Tryd.ntmps28
  go_wp2_with fail
  (go_at_call 44; (refine (small_yes _ _ _ _ hp).mono ?_; rintro e w1 ⟨rfl, hb⟩; have hB := below_step (w := w) (by go_grown) hb; have hz := hb.size; (try simp only [World.size_alloc] at hz); have hz0 : w.heap.size < w1.heap.size := (by omega); have hz1 : w.heap.size + 1 < w1.heap.size := (by omega); have hz2 : w.heap.size + 1 + 1 < w1.heap.size := (by omega); obtain ⟨hc, hf⟩ := bcell hb; clear hb hz))
  go_wp2_with fail
  (go_at_call 44; (refine (small_no _ _ _ _ hv).mono ?_; rintro e w21 ⟨rfl, hb⟩; have hB2 := below_step (w := w) (by go_grown) hb; have hz2 := hb.size; (try simp only [World.size_alloc] at hz2); have hz20 : w.heap.size < w21.heap.size := (by omega); have hz21 : w.heap.size + 1 < w21.heap.size := (by omega); have hz22 : w.heap.size + 1 + 1 < w21.heap.size := (by omega); obtain ⟨hc2, hf2⟩ := bcell hb; clear hb hz2))
  go_wp2
  all_goals (refine bodyPost_ret (v := .agg #[.int .i64 0, .int .i64 0, .int .i64 0]) (by simp [results, Tryd.results28, go_sem, *]) rfl ⟨rfl, by go_grown⟩)
set_option maxHeartbeats 1000000 in
theorem rApply_any (a b c k x y z : Int) (w : World)  :
    Calls Tryd.prog 28 #[.agg #[.int .i64 a, .int .i64 b, .int .i64 c, .int .i64 k], .agg #[.int .i64 x, .int .i64 y, .int .i64 z]] w fun e w' => e = .returned (.agg #[.int .i64 (applyF (a, b, c) k (x, y, z)).1, .int .i64 (applyF (a, b, c) k (x, y, z)).2.1, .int .i64 (applyF (a, b, c) k (x, y, z)).2.2]) ∧ Below w.heap.size w w' := by
  by_cases hp : InB 1099511627776 (a, b, c)
  · by_cases hv : InB 1099511627776 (x, y, z)
    · rw [show applyF (a, b, c) k (x, y, z) = addV (turnV (x, y, z) k) (a, b, c) from if_pos ⟨hp, hv⟩]; exact rApply_yes a b c k x y z w hp hv
    · rw [show applyF (a, b, c) k (x, y, z) = zeroV from if_neg (fun h => hv h.2)]; exact rApply_no2 a b c k x y z w hp hv
  · rw [show applyF (a, b, c) k (x, y, z) = zeroV from if_neg (fun h => hp h.1)]; exact rApply_no1 a b c k x y z w hp
set_option maxHeartbeats 1000000 in
theorem rThen_yes (a b c k x y z m : Int) (w : World) (hp : InB 1099511627776 (a, b, c)) (hv : InB 1099511627776 (x, y, z)) :
    Calls Tryd.prog 29 #[.agg #[.int .i64 a, .int .i64 b, .int .i64 c, .int .i64 k], .agg #[.int .i64 x, .int .i64 y, .int .i64 z, .int .i64 m]] w fun e w' => e = .returned (.agg #[.int .i64 (applyF (x, y, z) m (a, b, c)).1, .int .i64 (applyF (x, y, z) m (a, b, c)).2.1, .int .i64 (applyF (x, y, z) m (a, b, c)).2.2, .int .i64 (composeV k m)]) ∧ Below w.heap.size w w' := by
  have hpc := past_cell
  go_enter Tryd.func29, Tryd.ntmps29
  go_wp2_with fail
  (go_at_call 44; (refine (small_yes _ _ _ _ hp).mono ?_; rintro e w1 ⟨rfl, hb⟩; have hB := below_step (w := w) (by go_grown) hb; have hz := hb.size; (try simp only [World.size_alloc] at hz); have hz0 : w.heap.size < w1.heap.size := (by omega); have hz1 : w.heap.size + 1 < w1.heap.size := (by omega); have hz2 : w.heap.size + 1 + 1 < w1.heap.size := (by omega); obtain ⟨hc, hf⟩ := bcell hb; clear hb hz))
  go_wp2_with fail
  (go_at_call 44; (refine (small_yes _ _ _ _ hv).mono ?_; rintro e w21 ⟨rfl, hb⟩; have hB2 := below_step (w := w) (by go_grown) hb; have hz2 := hb.size; (try simp only [World.size_alloc] at hz2); have hz20 : w.heap.size < w21.heap.size := (by omega); have hz21 : w.heap.size + 1 < w21.heap.size := (by omega); have hz22 : w.heap.size + 1 + 1 < w21.heap.size := (by omega); obtain ⟨hc2, hf2⟩ := bcell hb; clear hb hz2))
  go_wp2_with fail
  refine wp_region_past_tail 10 (by kernel_rfl) (by kernel_rfl) ?_
  simp only [List.take_succ_cons, List.take_zero, List.drop_succ_cons, List.drop_zero]
  iterate 10 go_big_quiet_step (first | ((go_at_call 28; exact past_of (rApply_any _ _ _ _ _ _ _ _))) | ((go_at_call 12; exact past_of (rCompose_any _ _ _))))
  refine wpQuiet_nil ?_
  intro w31 hw'
  have hb := past_out hw'
  clear hw'
  have hB3 := below_step (w := w) (by go_grown) hb
  have hz3 := hb.size
  (try simp only [World.size_alloc] at hz3)
  have hz30 : w.heap.size < w31.heap.size := by omega
  have hz31 : w.heap.size + 1 < w31.heap.size := by omega
  have hz32 : w.heap.size + 1 + 1 < w31.heap.size := by omega
  obtain ⟨hc3, hf3⟩ := bcell hb
  clear hb hz3
  go_wp2
  all_goals (refine bodyPost_ret (v := .agg #[.int .i64 (applyF (x, y, z) m (a, b, c)).1, .int .i64 (applyF (x, y, z) m (a, b, c)).2.1, .int .i64 (applyF (x, y, z) m (a, b, c)).2.2, .int .i64 (composeV k m)]) (by simp [results, Tryd.results29, go_sem, *]) rfl ⟨rfl, by go_grown⟩)
set_option maxHeartbeats 1000000 in
theorem rThen_no1 (a b c k x y z m : Int) (w : World) (hp : ¬ InB 1099511627776 (a, b, c)) :
    Calls Tryd.prog 29 #[.agg #[.int .i64 a, .int .i64 b, .int .i64 c, .int .i64 k], .agg #[.int .i64 x, .int .i64 y, .int .i64 z, .int .i64 m]] w fun e w' => e = .returned (.agg #[.int .i64 0, .int .i64 0, .int .i64 0, .int .i64 0]) ∧ Below w.heap.size w w' := by
  go_enter Tryd.func29, Tryd.ntmps29
  go_wp2_with fail
  (go_at_call 44; (refine (small_no _ _ _ _ hp).mono ?_; rintro e w1 ⟨rfl, hb⟩; have hB := below_step (w := w) (by go_grown) hb; have hz := hb.size; (try simp only [World.size_alloc] at hz); have hz0 : w.heap.size < w1.heap.size := (by omega); have hz1 : w.heap.size + 1 < w1.heap.size := (by omega); have hz2 : w.heap.size + 1 + 1 < w1.heap.size := (by omega); obtain ⟨hc, hf⟩ := bcell hb; clear hb hz))
  go_wp2
  all_goals (refine bodyPost_ret (v := .agg #[.int .i64 0, .int .i64 0, .int .i64 0, .int .i64 0]) (by simp [results, Tryd.results29, go_sem, *]) rfl ⟨rfl, by go_grown⟩)
set_option maxHeartbeats 1000000 in
theorem rThen_no2 (a b c k x y z m : Int) (w : World) (hp : InB 1099511627776 (a, b, c)) (hv : ¬ InB 1099511627776 (x, y, z)) :
    Calls Tryd.prog 29 #[.agg #[.int .i64 a, .int .i64 b, .int .i64 c, .int .i64 k], .agg #[.int .i64 x, .int .i64 y, .int .i64 z, .int .i64 m]] w fun e w' => e = .returned (.agg #[.int .i64 0, .int .i64 0, .int .i64 0, .int .i64 0]) ∧ Below w.heap.size w w' := by
  go_enter Tryd.func29, Tryd.ntmps29
  go_wp2_with fail
  (go_at_call 44; (refine (small_yes _ _ _ _ hp).mono ?_; rintro e w1 ⟨rfl, hb⟩; have hB := below_step (w := w) (by go_grown) hb; have hz := hb.size; (try simp only [World.size_alloc] at hz); have hz0 : w.heap.size < w1.heap.size := (by omega); have hz1 : w.heap.size + 1 < w1.heap.size := (by omega); have hz2 : w.heap.size + 1 + 1 < w1.heap.size := (by omega); obtain ⟨hc, hf⟩ := bcell hb; clear hb hz))
  go_wp2_with fail
  (go_at_call 44; (refine (small_no _ _ _ _ hv).mono ?_; rintro e w21 ⟨rfl, hb⟩; have hB2 := below_step (w := w) (by go_grown) hb; have hz2 := hb.size; (try simp only [World.size_alloc] at hz2); have hz20 : w.heap.size < w21.heap.size := (by omega); have hz21 : w.heap.size + 1 < w21.heap.size := (by omega); have hz22 : w.heap.size + 1 + 1 < w21.heap.size := (by omega); obtain ⟨hc2, hf2⟩ := bcell hb; clear hb hz2))
  go_wp2
  all_goals (refine bodyPost_ret (v := .agg #[.int .i64 0, .int .i64 0, .int .i64 0, .int .i64 0]) (by simp [results, Tryd.results29, go_sem, *]) rfl ⟨rfl, by go_grown⟩)
set_option maxHeartbeats 1000000 in
theorem rThen_any (a b c k x y z m : Int) (w : World)  :
    Calls Tryd.prog 29 #[.agg #[.int .i64 a, .int .i64 b, .int .i64 c, .int .i64 k], .agg #[.int .i64 x, .int .i64 y, .int .i64 z, .int .i64 m]] w fun e w' => e = .returned (.agg #[.int .i64 (thenF (a, b, c) k (x, y, z) m).1.1, .int .i64 (thenF (a, b, c) k (x, y, z) m).1.2.1, .int .i64 (thenF (a, b, c) k (x, y, z) m).1.2.2, .int .i64 (thenF (a, b, c) k (x, y, z) m).2]) ∧ Below w.heap.size w w' := by
  by_cases hp : InB 1099511627776 (a, b, c)
  · by_cases hv : InB 1099511627776 (x, y, z)
    · rw [show thenF (a, b, c) k (x, y, z) m = (applyF (x, y, z) m (a, b, c), composeV k m) from if_pos ⟨hp, hv⟩]; exact rThen_yes a b c k x y z m w hp hv
    · rw [show thenF (a, b, c) k (x, y, z) m = (zeroV, 0) from if_neg (fun h => hv h.2)]; exact rThen_no2 a b c k x y z m w hp hv
  · rw [show thenF (a, b, c) k (x, y, z) m = (zeroV, 0) from if_neg (fun h => hp h.1)]; exact rThen_no1 a b c k x y z m w hp
set_option maxHeartbeats 1000000 in
theorem rAdd_yes (a b c x y z : Int) (w : World) (hp : InB 1099511627776 (a, b, c)) (hv : InB 1099511627776 (x, y, z)) :
    Calls Tryd.prog 32 #[.agg #[.int .i64 a, .int .i64 b, .int .i64 c], .agg #[.int .i64 x, .int .i64 y, .int .i64 z]] w fun e w' => e = .returned (.agg #[.int .i64 (a + x), .int .i64 (b + y), .int .i64 (c + z)]) ∧ Below w.heap.size w w' := by
  go_enter Tryd.func32, Tryd.ntmps32
  go_wp2_with fail
  (go_at_call 44; (refine (small_yes _ _ _ _ hp).mono ?_; rintro e w1 ⟨rfl, hb⟩; have hB := below_step (w := w) (by go_grown) hb; have hz := hb.size; (try simp only [World.size_alloc] at hz); have hz0 : w.heap.size < w1.heap.size := (by omega); have hz1 : w.heap.size + 1 < w1.heap.size := (by omega); have hz2 : w.heap.size + 1 + 1 < w1.heap.size := (by omega); obtain ⟨hc, hf⟩ := bcell hb; clear hb hz))
  go_wp2_with fail
  (go_at_call 44; (refine (small_yes _ _ _ _ hv).mono ?_; rintro e w21 ⟨rfl, hb⟩; have hB2 := below_step (w := w) (by go_grown) hb; have hz2 := hb.size; (try simp only [World.size_alloc] at hz2); have hz20 : w.heap.size < w21.heap.size := (by omega); have hz21 : w.heap.size + 1 < w21.heap.size := (by omega); have hz22 : w.heap.size + 1 + 1 < w21.heap.size := (by omega); obtain ⟨hc2, hf2⟩ := bcell hb; clear hb hz2))
  go_wp2_with fail
  (go_at_call 45; (refine (rplus (small_big hp) (small_big hv)).mono ?_; rintro e w31 ⟨rfl, hb⟩; have hB3 := below_step (w := w) (by go_grown) hb; have hz3 := hb.size; (try simp only [World.size_alloc] at hz3); have hz30 : w.heap.size < w31.heap.size := (by omega); have hz31 : w.heap.size + 1 < w31.heap.size := (by omega); have hz32 : w.heap.size + 1 + 1 < w31.heap.size := (by omega); obtain ⟨hc3, hf3⟩ := bcell hb; clear hb hz3))
  go_wp2
  all_goals (refine bodyPost_ret (v := .agg #[.int .i64 (a + x), .int .i64 (b + y), .int .i64 (c + z)]) (by simp [results, Tryd.results32, go_sem, *]) rfl ⟨rfl, by go_grown⟩)
set_option maxHeartbeats 1000000 in
theorem rAdd_no1 (a b c x y z : Int) (w : World) (hp : ¬ InB 1099511627776 (a, b, c)) :
    Calls Tryd.prog 32 #[.agg #[.int .i64 a, .int .i64 b, .int .i64 c], .agg #[.int .i64 x, .int .i64 y, .int .i64 z]] w fun e w' => e = .returned (.agg #[.int .i64 0, .int .i64 0, .int .i64 0]) ∧ Below w.heap.size w w' := by
  go_enter Tryd.func32, Tryd.ntmps32
  go_wp2_with fail
  (go_at_call 44; (refine (small_no _ _ _ _ hp).mono ?_; rintro e w1 ⟨rfl, hb⟩; have hB := below_step (w := w) (by go_grown) hb; have hz := hb.size; (try simp only [World.size_alloc] at hz); have hz0 : w.heap.size < w1.heap.size := (by omega); have hz1 : w.heap.size + 1 < w1.heap.size := (by omega); have hz2 : w.heap.size + 1 + 1 < w1.heap.size := (by omega); obtain ⟨hc, hf⟩ := bcell hb; clear hb hz))
  go_wp2
  all_goals (refine bodyPost_ret (v := .agg #[.int .i64 0, .int .i64 0, .int .i64 0]) (by simp [results, Tryd.results32, go_sem, *]) rfl ⟨rfl, by go_grown⟩)
set_option maxHeartbeats 1000000 in
theorem rAdd_no2 (a b c x y z : Int) (w : World) (hp : InB 1099511627776 (a, b, c)) (hv : ¬ InB 1099511627776 (x, y, z)) :
    Calls Tryd.prog 32 #[.agg #[.int .i64 a, .int .i64 b, .int .i64 c], .agg #[.int .i64 x, .int .i64 y, .int .i64 z]] w fun e w' => e = .returned (.agg #[.int .i64 0, .int .i64 0, .int .i64 0]) ∧ Below w.heap.size w w' := by
  go_enter Tryd.func32, Tryd.ntmps32
  go_wp2_with fail
  (go_at_call 44; (refine (small_yes _ _ _ _ hp).mono ?_; rintro e w1 ⟨rfl, hb⟩; have hB := below_step (w := w) (by go_grown) hb; have hz := hb.size; (try simp only [World.size_alloc] at hz); have hz0 : w.heap.size < w1.heap.size := (by omega); have hz1 : w.heap.size + 1 < w1.heap.size := (by omega); have hz2 : w.heap.size + 1 + 1 < w1.heap.size := (by omega); obtain ⟨hc, hf⟩ := bcell hb; clear hb hz))
  go_wp2_with fail
  (go_at_call 44; (refine (small_no _ _ _ _ hv).mono ?_; rintro e w21 ⟨rfl, hb⟩; have hB2 := below_step (w := w) (by go_grown) hb; have hz2 := hb.size; (try simp only [World.size_alloc] at hz2); have hz20 : w.heap.size < w21.heap.size := (by omega); have hz21 : w.heap.size + 1 < w21.heap.size := (by omega); have hz22 : w.heap.size + 1 + 1 < w21.heap.size := (by omega); obtain ⟨hc2, hf2⟩ := bcell hb; clear hb hz2))
  go_wp2
  all_goals (refine bodyPost_ret (v := .agg #[.int .i64 0, .int .i64 0, .int .i64 0]) (by simp [results, Tryd.results32, go_sem, *]) rfl ⟨rfl, by go_grown⟩)
set_option maxHeartbeats 1000000 in
theorem rAdd_any (a b c x y z : Int) (w : World)  :
    Calls Tryd.prog 32 #[.agg #[.int .i64 a, .int .i64 b, .int .i64 c], .agg #[.int .i64 x, .int .i64 y, .int .i64 z]] w fun e w' => e = .returned (.agg #[.int .i64 (addF (a, b, c) (x, y, z)).1, .int .i64 (addF (a, b, c) (x, y, z)).2.1, .int .i64 (addF (a, b, c) (x, y, z)).2.2]) ∧ Below w.heap.size w w' := by
  by_cases hp : InB 1099511627776 (a, b, c)
  · by_cases hv : InB 1099511627776 (x, y, z)
    · rw [show addF (a, b, c) (x, y, z) = addV (a, b, c) (x, y, z) from if_pos ⟨hp, hv⟩]; exact rAdd_yes a b c x y z w hp hv
    · rw [show addF (a, b, c) (x, y, z) = zeroV from if_neg (fun h => hv h.2)]; exact rAdd_no2 a b c x y z w hp hv
  · rw [show addF (a, b, c) (x, y, z) = zeroV from if_neg (fun h => hp h.1)]; exact rAdd_no1 a b c x y z w hp
set_option maxHeartbeats 1000000 in
theorem rSub_yes (a b c x y z : Int) (w : World) (hp : InB 1099511627776 (a, b, c)) (hv : InB 1099511627776 (x, y, z)) :
    Calls Tryd.prog 34 #[.agg #[.int .i64 a, .int .i64 b, .int .i64 c], .agg #[.int .i64 x, .int .i64 y, .int .i64 z]] w fun e w' => e = .returned (.agg #[.int .i64 (a - x), .int .i64 (b - y), .int .i64 (c - z)]) ∧ Below w.heap.size w w' := by
  go_enter Tryd.func34, Tryd.ntmps34
  go_wp2_with fail
  (go_at_call 44; (refine (small_yes _ _ _ _ hp).mono ?_; rintro e w1 ⟨rfl, hb⟩; have hB := below_step (w := w) (by go_grown) hb; have hz := hb.size; (try simp only [World.size_alloc] at hz); have hz0 : w.heap.size < w1.heap.size := (by omega); have hz1 : w.heap.size + 1 < w1.heap.size := (by omega); have hz2 : w.heap.size + 1 + 1 < w1.heap.size := (by omega); obtain ⟨hc, hf⟩ := bcell hb; clear hb hz))
  go_wp2_with fail
  (go_at_call 44; (refine (small_yes _ _ _ _ hv).mono ?_; rintro e w21 ⟨rfl, hb⟩; have hB2 := below_step (w := w) (by go_grown) hb; have hz2 := hb.size; (try simp only [World.size_alloc] at hz2); have hz20 : w.heap.size < w21.heap.size := (by omega); have hz21 : w.heap.size + 1 < w21.heap.size := (by omega); have hz22 : w.heap.size + 1 + 1 < w21.heap.size := (by omega); obtain ⟨hc2, hf2⟩ := bcell hb; clear hb hz2))
  go_wp2_with fail
  (go_at_call 46; (refine (rminus (small_big hp) (small_big hv)).mono ?_; rintro e w31 ⟨rfl, hb⟩; have hB3 := below_step (w := w) (by go_grown) hb; have hz3 := hb.size; (try simp only [World.size_alloc] at hz3); have hz30 : w.heap.size < w31.heap.size := (by omega); have hz31 : w.heap.size + 1 < w31.heap.size := (by omega); have hz32 : w.heap.size + 1 + 1 < w31.heap.size := (by omega); obtain ⟨hc3, hf3⟩ := bcell hb; clear hb hz3))
  go_wp2
  all_goals (refine bodyPost_ret (v := .agg #[.int .i64 (a - x), .int .i64 (b - y), .int .i64 (c - z)]) (by simp [results, Tryd.results34, go_sem, *]) rfl ⟨rfl, by go_grown⟩)
set_option maxHeartbeats 1000000 in
theorem rSub_no1 (a b c x y z : Int) (w : World) (hp : ¬ InB 1099511627776 (a, b, c)) :
    Calls Tryd.prog 34 #[.agg #[.int .i64 a, .int .i64 b, .int .i64 c], .agg #[.int .i64 x, .int .i64 y, .int .i64 z]] w fun e w' => e = .returned (.agg #[.int .i64 0, .int .i64 0, .int .i64 0]) ∧ Below w.heap.size w w' := by
  go_enter Tryd.func34, Tryd.ntmps34
  go_wp2_with fail
  (go_at_call 44; (refine (small_no _ _ _ _ hp).mono ?_; rintro e w1 ⟨rfl, hb⟩; have hB := below_step (w := w) (by go_grown) hb; have hz := hb.size; (try simp only [World.size_alloc] at hz); have hz0 : w.heap.size < w1.heap.size := (by omega); have hz1 : w.heap.size + 1 < w1.heap.size := (by omega); have hz2 : w.heap.size + 1 + 1 < w1.heap.size := (by omega); obtain ⟨hc, hf⟩ := bcell hb; clear hb hz))
  go_wp2
  all_goals (refine bodyPost_ret (v := .agg #[.int .i64 0, .int .i64 0, .int .i64 0]) (by simp [results, Tryd.results34, go_sem, *]) rfl ⟨rfl, by go_grown⟩)
set_option maxHeartbeats 1000000 in
theorem rSub_no2 (a b c x y z : Int) (w : World) (hp : InB 1099511627776 (a, b, c)) (hv : ¬ InB 1099511627776 (x, y, z)) :
    Calls Tryd.prog 34 #[.agg #[.int .i64 a, .int .i64 b, .int .i64 c], .agg #[.int .i64 x, .int .i64 y, .int .i64 z]] w fun e w' => e = .returned (.agg #[.int .i64 0, .int .i64 0, .int .i64 0]) ∧ Below w.heap.size w w' := by
  go_enter Tryd.func34, Tryd.ntmps34
  go_wp2_with fail
  (go_at_call 44; (refine (small_yes _ _ _ _ hp).mono ?_; rintro e w1 ⟨rfl, hb⟩; have hB := below_step (w := w) (by go_grown) hb; have hz := hb.size; (try simp only [World.size_alloc] at hz); have hz0 : w.heap.size < w1.heap.size := (by omega); have hz1 : w.heap.size + 1 < w1.heap.size := (by omega); have hz2 : w.heap.size + 1 + 1 < w1.heap.size := (by omega); obtain ⟨hc, hf⟩ := bcell hb; clear hb hz))
  go_wp2_with fail
  (go_at_call 44; (refine (small_no _ _ _ _ hv).mono ?_; rintro e w21 ⟨rfl, hb⟩; have hB2 := below_step (w := w) (by go_grown) hb; have hz2 := hb.size; (try simp only [World.size_alloc] at hz2); have hz20 : w.heap.size < w21.heap.size := (by omega); have hz21 : w.heap.size + 1 < w21.heap.size := (by omega); have hz22 : w.heap.size + 1 + 1 < w21.heap.size := (by omega); obtain ⟨hc2, hf2⟩ := bcell hb; clear hb hz2))
  go_wp2
  all_goals (refine bodyPost_ret (v := .agg #[.int .i64 0, .int .i64 0, .int .i64 0]) (by simp [results, Tryd.results34, go_sem, *]) rfl ⟨rfl, by go_grown⟩)
set_option maxHeartbeats 1000000 in
theorem rSub_any (a b c x y z : Int) (w : World)  :
    Calls Tryd.prog 34 #[.agg #[.int .i64 a, .int .i64 b, .int .i64 c], .agg #[.int .i64 x, .int .i64 y, .int .i64 z]] w fun e w' => e = .returned (.agg #[.int .i64 (subF (a, b, c) (x, y, z)).1, .int .i64 (subF (a, b, c) (x, y, z)).2.1, .int .i64 (subF (a, b, c) (x, y, z)).2.2]) ∧ Below w.heap.size w w' := by
  by_cases hp : InB 1099511627776 (a, b, c)
  · by_cases hv : InB 1099511627776 (x, y, z)
    · rw [show subF (a, b, c) (x, y, z) = addV (a, b, c) (negV (x, y, z)) from if_pos ⟨hp, hv⟩]; exact rSub_yes a b c x y z w hp hv
    · rw [show subF (a, b, c) (x, y, z) = zeroV from if_neg (fun h => hv h.2)]; exact rSub_no2 a b c x y z w hp hv
  · rw [show subF (a, b, c) (x, y, z) = zeroV from if_neg (fun h => hp h.1)]; exact rSub_no1 a b c x y z w hp
set_option maxHeartbeats 1000000 in
theorem rInverse_yes (a b c k : Int) (w : World) (hp : InB 1099511627776 (a, b, c)) :
    Calls Tryd.prog 30 #[.agg #[.int .i64 a, .int .i64 b, .int .i64 c, .int .i64 k]] w fun e w' => e = .returned (.agg #[.int .i64 (-(turnV (a, b, c) (backV k)).1), .int .i64 (-(turnV (a, b, c) (backV k)).2.1), .int .i64 (-(turnV (a, b, c) (backV k)).2.2), .int .i64 (backV k)]) ∧ Below w.heap.size w w' := by
  have HZ : InB 2199023255552 (0, 0, 0) := by unfold InB; decide
  have ht : InB 2199023255552 ((turnV (a, b, c) (backV k)).1, (turnV (a, b, c) (backV k)).2.1, (turnV (a, b, c) (backV k)).2.2) := turn_bd (backV k) (small_big hp)
  have HT := Lib.hid ht
  clear ht
  have hk := back_bd k
  have HK := Lib.hid hk
  clear hk
  go_enter Tryd.func30, Tryd.ntmps30
  go_wp2_with fail
  (go_at_call 44; (refine (small_yes _ _ _ _ hp).mono ?_; rintro e w1 ⟨rfl, hb⟩; have hB := below_step (w := w) (by go_grown) hb; have hz := hb.size; (try simp only [World.size_alloc] at hz); have hz0 : w.heap.size < w1.heap.size := (by omega); have hz1 : w.heap.size + 1 < w1.heap.size := (by omega); obtain ⟨hc, hf⟩ := bcell hb; clear hb hz))
  go_wp2_with fail
  (go_at_call 14; (refine (rBack_any _ _).mono ?_; rintro e w21 ⟨rfl, hb⟩; have hB2 := below_step (w := w) (by go_grown) hb; have hz2 := hb.size; (try simp only [World.size_alloc] at hz2); have hz20 : w.heap.size < w21.heap.size := (by omega); have hz21 : w.heap.size + 1 < w21.heap.size := (by omega); obtain ⟨hc2, hf2⟩ := bcell hb; clear hb hz2))
  go_wp2_with fail
  (go_at_call 38; (refine (rturned_in _ _ _ _ _ (small_big hp) HK.out).mono ?_; rintro e w31 ⟨rfl, hb⟩; have hB3 := below_step (w := w) (by go_grown) hb; have hz3 := hb.size; (try simp only [World.size_alloc] at hz3); have hz30 : w.heap.size < w31.heap.size := (by omega); have hz31 : w.heap.size + 1 < w31.heap.size := (by omega); obtain ⟨hc3, hf3⟩ := bcell hb; clear hb hz3))
  go_wp2_with fail
  (go_at_call 46; (refine (rminus HZ HT.out).mono ?_; rintro e w41 ⟨rfl, hb⟩; have hB4 := below_step (w := w) (by go_grown) hb; have hz4 := hb.size; (try simp only [World.size_alloc] at hz4); have hz40 : w.heap.size < w41.heap.size := (by omega); have hz41 : w.heap.size + 1 < w41.heap.size := (by omega); obtain ⟨hc4, hf4⟩ := bcell hb; clear hb hz4))
  go_wp2
  all_goals (refine bodyPost_ret (v := .agg #[.int .i64 (-(turnV (a, b, c) (backV k)).1), .int .i64 (-(turnV (a, b, c) (backV k)).2.1), .int .i64 (-(turnV (a, b, c) (backV k)).2.2), .int .i64 (backV k)]) (by simp [results, Tryd.results30, go_sem, *]) rfl ⟨rfl, by go_grown⟩)
set_option maxHeartbeats 1000000 in
theorem rInverse_no (a b c k : Int) (w : World) (hp : ¬ InB 1099511627776 (a, b, c)) :
    Calls Tryd.prog 30 #[.agg #[.int .i64 a, .int .i64 b, .int .i64 c, .int .i64 k]] w fun e w' => e = .returned (.agg #[.int .i64 0, .int .i64 0, .int .i64 0, .int .i64 0]) ∧ Below w.heap.size w w' := by
  go_enter Tryd.func30, Tryd.ntmps30
  go_wp2_with fail
  (go_at_call 44; (refine (small_no _ _ _ _ hp).mono ?_; rintro e w1 ⟨rfl, hb⟩; have hB := below_step (w := w) (by go_grown) hb; have hz := hb.size; (try simp only [World.size_alloc] at hz); have hz0 : w.heap.size < w1.heap.size := (by omega); have hz1 : w.heap.size + 1 < w1.heap.size := (by omega); obtain ⟨hc, hf⟩ := bcell hb; clear hb hz))
  go_wp2
  all_goals (refine bodyPost_ret (v := .agg #[.int .i64 0, .int .i64 0, .int .i64 0, .int .i64 0]) (by simp [results, Tryd.results30, go_sem, *]) rfl ⟨rfl, by go_grown⟩)
set_option maxHeartbeats 1000000 in
theorem rInverse_any (a b c k : Int) (w : World)  :
    Calls Tryd.prog 30 #[.agg #[.int .i64 a, .int .i64 b, .int .i64 c, .int .i64 k]] w fun e w' => e = .returned (.agg #[.int .i64 (inverseF (a, b, c) k).1.1, .int .i64 (inverseF (a, b, c) k).1.2.1, .int .i64 (inverseF (a, b, c) k).1.2.2, .int .i64 (inverseF (a, b, c) k).2]) ∧ Below w.heap.size w w' := by
  by_cases h : InB 1099511627776 (a, b, c)
  · rw [show inverseF (a, b, c) k = (turnV (negV (a, b, c)) (backV k), backV k) from if_pos h, turn_neg]; exact rInverse_yes a b c k w h
  · rw [show inverseF (a, b, c) k = (zeroV, 0) from if_neg h]; exact rInverse_no a b c k w h
set_option maxHeartbeats 1000000 in
theorem rValid_yes (a b c k : Int) (w : World) (hp : InB 524288 (a, b, c)) (hk : 0 ≤ k ∧ k ≤ 23) :
    Calls Tryd.prog 27 #[.agg #[.int .i64 a, .int .i64 b, .int .i64 c, .int .i64 k]] w fun e w' => e = .returned (.bool true) ∧ Below w.heap.size w w' := by
  obtain ⟨hx0, hx1, hy0, hy1, hz0, hz1⟩ := hp
  simp only at hx0 hx1 hy0 hy1 hz0 hz1
  obtain ⟨hk0, hk1⟩ := hk
  go_enter Tryd.func27, Tryd.ntmps27
  go_wp2
  go_returns
  exact ⟨rfl, by go_grown⟩
set_option maxHeartbeats 1000000 in
theorem rValid_no (a b c k : Int) (w : World) (hp : ¬ (InB 524288 (a, b, c) ∧ 0 ≤ k ∧ k ≤ 23)) :
    Calls Tryd.prog 27 #[.agg #[.int .i64 a, .int .i64 b, .int .i64 c, .int .i64 k]] w fun e w' => e = .returned (.bool false) ∧ Below w.heap.size w w' := by
  have H := Lib.hid hp
  clear hp
  go_enter Tryd.func27, Tryd.ntmps27
  go_wp2
  all_goals go_returns
  all_goals refine ⟨?_, by go_grown⟩
  all_goals (first | rfl | (exfalso; exact H.out ⟨⟨by simp; omega, by simp; omega, by simp; omega, by simp; omega, by simp; omega, by simp; omega⟩, by omega, by omega⟩) | (rw [decide_eq_false (fun h => H.out ⟨⟨by simp; omega, by simp; omega, by simp; omega, by simp; omega, by simp; omega, by simp; omega⟩, by omega, by omega⟩)]; rfl))
set_option maxHeartbeats 1000000 in
theorem rValid_any (a b c k : Int) (w : World)  :
    Calls Tryd.prog 27 #[.agg #[.int .i64 a, .int .i64 b, .int .i64 c, .int .i64 k]] w fun e w' => e = .returned (.bool (validF (a, b, c) k)) ∧ Below w.heap.size w w' := by
  by_cases h : InB 524288 (a, b, c) ∧ 0 ≤ k ∧ k ≤ 23
  · rw [show validF (a, b, c) k = true by unfold validF; simp [h.1, num_in h.2.1 h.2.2]]; exact rValid_yes a b c k w h.1 h.2
  · rw [show validF (a, b, c) k = false by
      unfold validF
      rw [Bool.and_eq_false_iff]
      by_cases hp : InB 524288 (a, b, c)
      · exact .inr (decide_eq_false fun hk => h ⟨hp, by have := num_bd k; omega⟩)
      · exact .inl (decide_eq_false hp)]
    exact rValid_no a b c k w h
end Go.Proofs.YtcfohnhieajhnaaDoor
