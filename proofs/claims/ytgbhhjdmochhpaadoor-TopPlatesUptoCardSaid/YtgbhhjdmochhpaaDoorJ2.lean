/-
  Lemmas of this claim, joined (PlD, Store, PlF, Open, Leaf, PolQ, PolR, PolS). Conditions: as stated. By an AI agent.
-/
import Derived.Test.YtgbhhjdmochhpaaDoorJ1
import Derived.Deep.Slices
import Derived.Deep.Fields
import Derived.ChangeSame
import Derived.Lib.SmallJoins
namespace Go.Proofs.YtgbhhjdmochhpaaDoor
open Go Go.ChangeShapes Go.WideShapes Go.RowKit Go.ChangeAt
set_option linter.unusedVariables false
set_option linter.unusedSimpArgs false

theorem sg_neg {x : Int} (h : x < 0) : sgI x = -1 := by unfold sgI; rw [if_pos h]
theorem sg_pos {x : Int} (h : 0 < x) : sgI x = 1 := by unfold sgI; rw [if_neg (by omega), if_pos h]
theorem sg_zero : sgI 0 = 0 := by unfold sgI; rfl
theorem opp_sg {x y : Int} : opp x y ↔ sgI x * sgI y < 0 := by
  unfold opp
  rcases Int.lt_trichotomy x 0 with h | h | h <;> rcases Int.lt_trichotomy y 0 with k | k | k
  all_goals (try subst h) <;> (try subst k)
  all_goals first | rw [sg_neg h] | rw [sg_pos h] | skip
  all_goals first | rw [sg_neg k] | rw [sg_pos k] | skip
  all_goals (try rw [sg_zero]) <;> omega
theorem sgI_or (x : Int) : sgI x = -1 ∨ sgI x = 0 ∨ sgI x = 1 := by unfold sgI; split <;> (try split) <;> omega
theorem sg_mul (x y : Int) : -1 ≤ sgI x * sgI y ∧ sgI x * sgI y ≤ 1 := by
  rcases sgI_or x with h | h | h <;> rcases sgI_or y with k | k | k <;> rw [h, k] <;> omega
theorem meets_dec {a b c d : Pt} : decide (meets a b c d) = (decide (onS a b c) || (decide (onS a b d) || (decide (onS c d a) || (decide (onS c d b) || (decide (sgI (crs a b c) * sgI (crs a b d) < 0) && decide (sgI (crs c d a) * sgI (crs c d b) < 0)))))) := by
  have e : meets a b c d ↔ (onS a b c ∨ onS a b d ∨ onS c d a ∨ onS c d b ∨ (sgI (crs a b c) * sgI (crs a b d) < 0 ∧ sgI (crs c d a) * sgI (crs c d b) < 0)) := by
    unfold meets
    rw [opp_sg, opp_sg]
  have e2 : decide (meets a b c d) = decide (onS a b c ∨ onS a b d ∨ onS c d a ∨ onS c d b ∨ (sgI (crs a b c) * sgI (crs a b d) < 0 ∧ sgI (crs c d a) * sgI (crs c d b) < 0)) := decide_eq_decide.2 e
  rw [e2]
  simp only [Bool.decide_or, Bool.decide_and]
theorem nan_any (n : Int) (w : World) : Calls Tryd.prog 94 #[.int .i64 n] w fun e w' => e = .returned (.bool false) ∧ Below w.heap.size w w' := by
  go_enter Tryd.func94, Tryd.ntmps94
  go_wp2
  go_returns
  exact ⟨rfl, by go_grown⟩
theorem cmp0_any (n : Int) (w : World) : Calls Tryd.prog 89 #[.int .i64 n, .int .i64 0] w fun e w' => e = .returned (.int .i64 (sgI n)) ∧ Below w.heap.size w w' := by
  have HN := Lib.hid nan_any
  rcases (by omega : n < 0 ∨ n = 0 ∨ 0 < n) with h | h | h
  · have k1 : decide (n < 0) = true := decide_eq_true h
    have e : sgI n = -1 := by unfold sgI; first | rw [if_pos (by omega)] | rw [if_neg (by omega), if_pos (by omega)] | rw [if_neg (by omega), if_neg (by omega)]
    rw [e]
    clear e
    go_enter Tryd.func89, Tryd.ntmps89
    go_wp2_with fail
    (go_at_call 94; refine (HN.out _ _).mono ?_; rintro e_ w1 ⟨rfl, hb1⟩)
    have HB1 := Lib.hid (below_step (w := w) (by first | assumption | go_grown) hb1)
    have hs1 := hb1.size
    (try simp only [World.size_alloc, World.size_setCell] at hs1)
    clear hb1
    go_wp2_with fail
    (go_at_call 94; refine (HN.out _ _).mono ?_; rintro e_ w2 ⟨rfl, hb2⟩)
    have HB2 := Lib.hid (below_step (w := w) (by first | assumption | go_grown) hb2)
    have hs2 := hb2.size
    (try simp only [World.size_alloc, World.size_setCell] at hs2)
    clear hb2
    go_wp2
    go_returns
    exact ⟨rfl, by first | exact HB2.out | go_grown⟩
  · subst h
    have e : sgI 0 = 0 := by unfold sgI; first | rw [if_pos (by omega)] | rw [if_neg (by omega), if_pos (by omega)] | rw [if_neg (by omega), if_neg (by omega)]
    rw [e]
    clear e
    go_enter Tryd.func89, Tryd.ntmps89
    go_wp2_with fail
    (go_at_call 94; refine (HN.out _ _).mono ?_; rintro e_ w1 ⟨rfl, hb1⟩)
    have HB1 := Lib.hid (below_step (w := w) (by first | assumption | go_grown) hb1)
    have hs1 := hb1.size
    (try simp only [World.size_alloc, World.size_setCell] at hs1)
    clear hb1
    go_wp2_with fail
    (go_at_call 94; refine (HN.out _ _).mono ?_; rintro e_ w2 ⟨rfl, hb2⟩)
    have HB2 := Lib.hid (below_step (w := w) (by first | assumption | go_grown) hb2)
    have hs2 := hb2.size
    (try simp only [World.size_alloc, World.size_setCell] at hs2)
    clear hb2
    go_wp2
    go_returns
    exact ⟨rfl, by first | exact HB2.out | go_grown⟩
  · have k1 : decide (n < 0) = false := decide_eq_false (by omega)
    have k2 : decide (0 < n) = true := decide_eq_true h
    have e : sgI n = 1 := by unfold sgI; first | rw [if_pos (by omega)] | rw [if_neg (by omega), if_pos (by omega)] | rw [if_neg (by omega), if_neg (by omega)]
    rw [e]
    clear e
    go_enter Tryd.func89, Tryd.ntmps89
    go_wp2_with fail
    (go_at_call 94; refine (HN.out _ _).mono ?_; rintro e_ w1 ⟨rfl, hb1⟩)
    have HB1 := Lib.hid (below_step (w := w) (by first | assumption | go_grown) hb1)
    have hs1 := hb1.size
    (try simp only [World.size_alloc, World.size_setCell] at hs1)
    clear hb1
    go_wp2_with fail
    (go_at_call 94; refine (HN.out _ _).mono ?_; rintro e_ w2 ⟨rfl, hb2⟩)
    have HB2 := Lib.hid (below_step (w := w) (by first | assumption | go_grown) hb2)
    have hs2 := hb2.size
    (try simp only [World.size_alloc, World.size_setCell] at hs2)
    clear hb2
    go_wp2
    go_returns
    exact ⟨rfl, by first | exact HB2.out | go_grown⟩
theorem signP_any (n : Int) (w : World) : Calls Tryd.prog 83 #[.int .i64 n] w fun e w' => e = .returned (.int .i64 (sgI n)) ∧ Below w.heap.size w w' := by
  have HN := Lib.hid cmp0_any
  go_enter Tryd.func83, Tryd.ntmps83
  go_wp2_with fail
  (go_at_call 89; refine (HN.out _ _).mono ?_; rintro e_ w1 ⟨rfl, hb1⟩)
  have HB1 := Lib.hid (below_step (w := w) (by first | assumption | go_grown) hb1)
  have hs1 := hb1.size
  (try simp only [World.size_alloc, World.size_setCell] at hs1)
  clear hb1
  go_wp2
  go_returns
  exact ⟨rfl, by first | exact HB1.out | go_grown⟩
set_option maxHeartbeats 4000000 in
set_option maxRecDepth 20000 in
theorem meetP_any (a1 a2 b1 b2 c1 c2 d1 d2 : Int) (w : World) (ha : Nr (a1, a2)) (hb : Nr (b1, b2)) (hc : Nr (c1, c2)) (hd : Nr (d1, d2)) : Calls Tryd.prog 74 #[.agg #[.int .i64 a1, .int .i64 a2], .agg #[.int .i64 b1, .int .i64 b2], .agg #[.int .i64 c1, .int .i64 c2], .agg #[.int .i64 d1, .int .i64 d2]] w fun e w' => e = .returned (.bool (decide (meets (a1, a2) (b1, b2) (c1, c2) (d1, d2)))) ∧ Below w.heap.size w w' := by
  rw [meets_dec]
  obtain ⟨o0, ho0⟩ : ∃ e, decide (onS (a1, a2) (b1, b2) (c1, c2)) = e := ⟨_, rfl⟩
  have HO0 : ∀ W, Calls Tryd.prog 78 #[.agg #[.int .i64 a1, .int .i64 a2], .agg #[.int .i64 b1, .int .i64 b2], .agg #[.int .i64 c1, .int .i64 c2]] W (fun e w' => e = .returned (.bool o0) ∧ Below W.heap.size W w') := fun W => by rw [← ho0]; exact onP_any a1 a2 b1 b2 c1 c2 W ha hb hc
  rw [ho0]
  clear ho0
  replace HO0 := Lib.hid HO0
  obtain ⟨o1, ho1⟩ : ∃ e, decide (onS (a1, a2) (b1, b2) (d1, d2)) = e := ⟨_, rfl⟩
  have HO1 : ∀ W, Calls Tryd.prog 78 #[.agg #[.int .i64 a1, .int .i64 a2], .agg #[.int .i64 b1, .int .i64 b2], .agg #[.int .i64 d1, .int .i64 d2]] W (fun e w' => e = .returned (.bool o1) ∧ Below W.heap.size W w') := fun W => by rw [← ho1]; exact onP_any a1 a2 b1 b2 d1 d2 W ha hb hd
  rw [ho1]
  clear ho1
  replace HO1 := Lib.hid HO1
  obtain ⟨o2, ho2⟩ : ∃ e, decide (onS (c1, c2) (d1, d2) (a1, a2)) = e := ⟨_, rfl⟩
  have HO2 : ∀ W, Calls Tryd.prog 78 #[.agg #[.int .i64 c1, .int .i64 c2], .agg #[.int .i64 d1, .int .i64 d2], .agg #[.int .i64 a1, .int .i64 a2]] W (fun e w' => e = .returned (.bool o2) ∧ Below W.heap.size W w') := fun W => by rw [← ho2]; exact onP_any c1 c2 d1 d2 a1 a2 W hc hd ha
  rw [ho2]
  clear ho2
  replace HO2 := Lib.hid HO2
  obtain ⟨o3, ho3⟩ : ∃ e, decide (onS (c1, c2) (d1, d2) (b1, b2)) = e := ⟨_, rfl⟩
  have HO3 : ∀ W, Calls Tryd.prog 78 #[.agg #[.int .i64 c1, .int .i64 c2], .agg #[.int .i64 d1, .int .i64 d2], .agg #[.int .i64 b1, .int .i64 b2]] W (fun e w' => e = .returned (.bool o3) ∧ Below W.heap.size W w') := fun W => by rw [← ho3]; exact onP_any c1 c2 d1 d2 b1 b2 W hc hd hb
  rw [ho3]
  clear ho3
  replace HO3 := Lib.hid HO3
  have m1 := sg_mul (crs (a1, a2) (b1, b2) (c1, c2)) (crs (a1, a2) (b1, b2) (d1, d2))
  have m2 := sg_mul (crs (c1, c2) (d1, d2) (a1, a2)) (crs (c1, c2) (d1, d2) (b1, b2))
  obtain ⟨t0, ht0⟩ : ∃ e, crs (a1, a2) (b1, b2) (c1, c2) = e := ⟨_, rfl⟩
  have HT0 : ∀ W, Calls Tryd.prog 73 #[.agg #[.int .i64 a1, .int .i64 a2], .agg #[.int .i64 b1, .int .i64 b2], .agg #[.int .i64 c1, .int .i64 c2]] W (fun e w' => e = .returned (.int .i64 t0) ∧ Below W.heap.size W w') := fun W => by rw [← ht0]; exact crsP_any a1 a2 b1 b2 c1 c2 W ha hb hc
  rw [ht0]
  rw [ht0] at m1
  clear ht0
  replace HT0 := Lib.hid HT0
  obtain ⟨s0, hs0⟩ : ∃ e, sgI t0 = e := ⟨_, rfl⟩
  have HS0 : ∀ W, Calls Tryd.prog 83 #[.int .i64 t0] W (fun e w' => e = .returned (.int .i64 s0) ∧ Below W.heap.size W w') := fun W => by rw [← hs0]; exact signP_any t0 W
  rw [hs0]
  rw [hs0] at m1
  clear hs0
  replace HS0 := Lib.hid HS0
  obtain ⟨t1, ht1⟩ : ∃ e, crs (a1, a2) (b1, b2) (d1, d2) = e := ⟨_, rfl⟩
  have HT1 : ∀ W, Calls Tryd.prog 73 #[.agg #[.int .i64 a1, .int .i64 a2], .agg #[.int .i64 b1, .int .i64 b2], .agg #[.int .i64 d1, .int .i64 d2]] W (fun e w' => e = .returned (.int .i64 t1) ∧ Below W.heap.size W w') := fun W => by rw [← ht1]; exact crsP_any a1 a2 b1 b2 d1 d2 W ha hb hd
  rw [ht1]
  rw [ht1] at m1
  clear ht1
  replace HT1 := Lib.hid HT1
  obtain ⟨s1, hs1⟩ : ∃ e, sgI t1 = e := ⟨_, rfl⟩
  have HS1 : ∀ W, Calls Tryd.prog 83 #[.int .i64 t1] W (fun e w' => e = .returned (.int .i64 s1) ∧ Below W.heap.size W w') := fun W => by rw [← hs1]; exact signP_any t1 W
  rw [hs1]
  rw [hs1] at m1
  clear hs1
  replace HS1 := Lib.hid HS1
  obtain ⟨t2, ht2⟩ : ∃ e, crs (c1, c2) (d1, d2) (a1, a2) = e := ⟨_, rfl⟩
  have HT2 : ∀ W, Calls Tryd.prog 73 #[.agg #[.int .i64 c1, .int .i64 c2], .agg #[.int .i64 d1, .int .i64 d2], .agg #[.int .i64 a1, .int .i64 a2]] W (fun e w' => e = .returned (.int .i64 t2) ∧ Below W.heap.size W w') := fun W => by rw [← ht2]; exact crsP_any c1 c2 d1 d2 a1 a2 W hc hd ha
  rw [ht2]
  rw [ht2] at m2
  clear ht2
  replace HT2 := Lib.hid HT2
  obtain ⟨s2, hs2⟩ : ∃ e, sgI t2 = e := ⟨_, rfl⟩
  have HS2 : ∀ W, Calls Tryd.prog 83 #[.int .i64 t2] W (fun e w' => e = .returned (.int .i64 s2) ∧ Below W.heap.size W w') := fun W => by rw [← hs2]; exact signP_any t2 W
  rw [hs2]
  rw [hs2] at m2
  clear hs2
  replace HS2 := Lib.hid HS2
  obtain ⟨t3, ht3⟩ : ∃ e, crs (c1, c2) (d1, d2) (b1, b2) = e := ⟨_, rfl⟩
  have HT3 : ∀ W, Calls Tryd.prog 73 #[.agg #[.int .i64 c1, .int .i64 c2], .agg #[.int .i64 d1, .int .i64 d2], .agg #[.int .i64 b1, .int .i64 b2]] W (fun e w' => e = .returned (.int .i64 t3) ∧ Below W.heap.size W w') := fun W => by rw [← ht3]; exact crsP_any c1 c2 d1 d2 b1 b2 W hc hd hb
  rw [ht3]
  rw [ht3] at m2
  clear ht3
  replace HT3 := Lib.hid HT3
  obtain ⟨s3, hs3⟩ : ∃ e, sgI t3 = e := ⟨_, rfl⟩
  have HS3 : ∀ W, Calls Tryd.prog 83 #[.int .i64 t3] W (fun e w' => e = .returned (.int .i64 s3) ∧ Below W.heap.size W w') := fun W => by rw [← hs3]; exact signP_any t3 W
  rw [hs3]
  rw [hs3] at m2
  clear hs3
  replace HS3 := Lib.hid HS3
  clear ha hb hc hd
  obtain ⟨p1, hp1⟩ : ∃ e, s0 * s1 = e := ⟨_, rfl⟩
  obtain ⟨p2, hp2⟩ : ∃ e, s2 * s3 = e := ⟨_, rfl⟩
  rw [hp1] at m1
  rw [hp2] at m2
  have wr1 : IntKind.i64.wrap (s0 * s1) = p1 := by rw [hp1]; exact IntWalk.i64_in _ (by omega)
  have wr2 : IntKind.i64.wrap (s2 * s3) = p2 := by rw [hp2]; exact IntWalk.i64_in _ (by omega)
  rw [hp1, hp2]
  clear hp1 hp2 m1 m2
  obtain ⟨n1, hn1⟩ : ∃ e, decide (p1 < 0) = e := ⟨_, rfl⟩
  rw [hn1]
  go_enter Tryd.func74, Tryd.ntmps74
  go_wp2_with fail
  (go_at_call 78; refine (HO0.out _).mono ?_; rintro e_ w1 ⟨rfl, hb1⟩)
  have HB1 := Lib.hid (below_step (w := w) (by first | assumption | go_grown) hb1)
  have hs1 := hb1.size
  (try simp only [World.size_alloc, World.size_setCell] at hs1)
  have K0 : w1.heap[w.heap.size]? = some (.cells #[.int .i64 a1, .int .i64 a2] 37) := (hb1.block (w.heap.size) (by first | omega | (simp; done) | (simp <;> omega))).trans (by first | exact heapA_at _ _ _ (by first | rfl | (simp; done)) | exact (heapA_old _ _ _ (by simp <;> omega)).trans (heapA_at _ _ _ (by first | rfl | (simp; done))) | exact (heapA_old _ _ _ (by simp <;> omega)).trans ((heapA_old _ _ _ (by simp <;> omega)).trans (heapA_at _ _ _ (by first | rfl | (simp; done)))) | exact (heapA_old _ _ _ (by simp <;> omega)).trans ((heapA_old _ _ _ (by simp <;> omega)).trans ((heapA_old _ _ _ (by simp <;> omega)).trans (heapA_at _ _ _ (by first | rfl | (simp; done))))))
  obtain ⟨u01, v01, x01, y01⟩ := cells_at2 K0
  have HK01 := Lib.hid K0
  clear K0
  have K1 : w1.heap[w.heap.size + 1]? = some (.cells #[.int .i64 b1, .int .i64 b2] 37) := (hb1.block (w.heap.size + 1) (by first | omega | (simp; done) | (simp <;> omega))).trans (by first | exact heapA_at _ _ _ (by first | rfl | (simp; done)) | exact (heapA_old _ _ _ (by simp <;> omega)).trans (heapA_at _ _ _ (by first | rfl | (simp; done))) | exact (heapA_old _ _ _ (by simp <;> omega)).trans ((heapA_old _ _ _ (by simp <;> omega)).trans (heapA_at _ _ _ (by first | rfl | (simp; done)))) | exact (heapA_old _ _ _ (by simp <;> omega)).trans ((heapA_old _ _ _ (by simp <;> omega)).trans ((heapA_old _ _ _ (by simp <;> omega)).trans (heapA_at _ _ _ (by first | rfl | (simp; done))))))
  obtain ⟨u11, v11, x11, y11⟩ := cells_at2 K1
  have HK11 := Lib.hid K1
  clear K1
  have K2 : w1.heap[w.heap.size + 1 + 1]? = some (.cells #[.int .i64 c1, .int .i64 c2] 37) := (hb1.block (w.heap.size + 1 + 1) (by first | omega | (simp; done) | (simp <;> omega))).trans (by first | exact heapA_at _ _ _ (by first | rfl | (simp; done)) | exact (heapA_old _ _ _ (by simp <;> omega)).trans (heapA_at _ _ _ (by first | rfl | (simp; done))) | exact (heapA_old _ _ _ (by simp <;> omega)).trans ((heapA_old _ _ _ (by simp <;> omega)).trans (heapA_at _ _ _ (by first | rfl | (simp; done)))) | exact (heapA_old _ _ _ (by simp <;> omega)).trans ((heapA_old _ _ _ (by simp <;> omega)).trans ((heapA_old _ _ _ (by simp <;> omega)).trans (heapA_at _ _ _ (by first | rfl | (simp; done))))))
  obtain ⟨u21, v21, x21, y21⟩ := cells_at2 K2
  have HK21 := Lib.hid K2
  clear K2
  have K3 : w1.heap[w.heap.size + 1 + 1 + 1]? = some (.cells #[.int .i64 d1, .int .i64 d2] 37) := (hb1.block (w.heap.size + 1 + 1 + 1) (by first | omega | (simp; done) | (simp <;> omega))).trans (by first | exact heapA_at _ _ _ (by first | rfl | (simp; done)) | exact (heapA_old _ _ _ (by simp <;> omega)).trans (heapA_at _ _ _ (by first | rfl | (simp; done))) | exact (heapA_old _ _ _ (by simp <;> omega)).trans ((heapA_old _ _ _ (by simp <;> omega)).trans (heapA_at _ _ _ (by first | rfl | (simp; done)))) | exact (heapA_old _ _ _ (by simp <;> omega)).trans ((heapA_old _ _ _ (by simp <;> omega)).trans ((heapA_old _ _ _ (by simp <;> omega)).trans (heapA_at _ _ _ (by first | rfl | (simp; done))))))
  obtain ⟨u31, v31, x31, y31⟩ := cells_at2 K3
  have HK31 := Lib.hid K3
  clear K3
  clear hb1
  cases o0 with
  | true =>
    go_wp2
    go_returns
    exact ⟨by first | rfl | (cases o1 <;> cases o2 <;> cases o3 <;> rfl), by first | exact HB1.out | go_grown⟩
  | false =>
    go_wp2_with fail
    (go_at_call 78; refine (HO1.out _).mono ?_; rintro e_ w2 ⟨rfl, hb2⟩)
    have HB2 := Lib.hid (below_step (w := w) (by first | assumption | go_grown) hb2)
    have hs2 := hb2.size
    (try simp only [World.size_alloc, World.size_setCell] at hs2)
    have K0 : w2.heap[w.heap.size]? = some (.cells #[.int .i64 a1, .int .i64 a2] 37) := (hb2.block (w.heap.size) (by first | omega | (simp; done) | (simp <;> omega))).trans HK01.out
    obtain ⟨u02, v02, x02, y02⟩ := cells_at2 K0
    have HK02 := Lib.hid K0
    clear K0
    have K1 : w2.heap[w.heap.size + 1]? = some (.cells #[.int .i64 b1, .int .i64 b2] 37) := (hb2.block (w.heap.size + 1) (by first | omega | (simp; done) | (simp <;> omega))).trans HK11.out
    obtain ⟨u12, v12, x12, y12⟩ := cells_at2 K1
    have HK12 := Lib.hid K1
    clear K1
    have K2 : w2.heap[w.heap.size + 1 + 1]? = some (.cells #[.int .i64 c1, .int .i64 c2] 37) := (hb2.block (w.heap.size + 1 + 1) (by first | omega | (simp; done) | (simp <;> omega))).trans HK21.out
    obtain ⟨u22, v22, x22, y22⟩ := cells_at2 K2
    have HK22 := Lib.hid K2
    clear K2
    have K3 : w2.heap[w.heap.size + 1 + 1 + 1]? = some (.cells #[.int .i64 d1, .int .i64 d2] 37) := (hb2.block (w.heap.size + 1 + 1 + 1) (by first | omega | (simp; done) | (simp <;> omega))).trans HK31.out
    obtain ⟨u32, v32, x32, y32⟩ := cells_at2 K3
    have HK32 := Lib.hid K3
    clear K3
    clear u01 v01 x01 y01 u11 v11 x11 y11 u21 v21 x21 y21 u31 v31 x31 y31 HB1
    clear hb2
    cases o1 with
    | true =>
      go_wp2
      go_returns
      exact ⟨by first | rfl | (cases o2 <;> cases o3 <;> rfl), by first | exact HB2.out | go_grown⟩
    | false =>
      go_wp2_with fail
      (go_at_call 78; refine (HO2.out _).mono ?_; rintro e_ w3 ⟨rfl, hb3⟩)
      have HB3 := Lib.hid (below_step (w := w) (by first | assumption | go_grown) hb3)
      have hs3 := hb3.size
      (try simp only [World.size_alloc, World.size_setCell] at hs3)
      have K0 : w3.heap[w.heap.size]? = some (.cells #[.int .i64 a1, .int .i64 a2] 37) := (hb3.block (w.heap.size) (by first | omega | (simp; done) | (simp <;> omega))).trans HK02.out
      obtain ⟨u03, v03, x03, y03⟩ := cells_at2 K0
      have HK03 := Lib.hid K0
      clear K0
      have K1 : w3.heap[w.heap.size + 1]? = some (.cells #[.int .i64 b1, .int .i64 b2] 37) := (hb3.block (w.heap.size + 1) (by first | omega | (simp; done) | (simp <;> omega))).trans HK12.out
      obtain ⟨u13, v13, x13, y13⟩ := cells_at2 K1
      have HK13 := Lib.hid K1
      clear K1
      have K2 : w3.heap[w.heap.size + 1 + 1]? = some (.cells #[.int .i64 c1, .int .i64 c2] 37) := (hb3.block (w.heap.size + 1 + 1) (by first | omega | (simp; done) | (simp <;> omega))).trans HK22.out
      obtain ⟨u23, v23, x23, y23⟩ := cells_at2 K2
      have HK23 := Lib.hid K2
      clear K2
      have K3 : w3.heap[w.heap.size + 1 + 1 + 1]? = some (.cells #[.int .i64 d1, .int .i64 d2] 37) := (hb3.block (w.heap.size + 1 + 1 + 1) (by first | omega | (simp; done) | (simp <;> omega))).trans HK32.out
      obtain ⟨u33, v33, x33, y33⟩ := cells_at2 K3
      have HK33 := Lib.hid K3
      clear K3
      clear u02 v02 x02 y02 u12 v12 x12 y12 u22 v22 x22 y22 u32 v32 x32 y32 HB2
      clear hb3
      cases o2 with
      | true =>
        go_wp2
        go_returns
        exact ⟨by first | rfl | (cases o3 <;> rfl), by first | exact HB3.out | go_grown⟩
      | false =>
        go_wp2_with fail
        (go_at_call 78; refine (HO3.out _).mono ?_; rintro e_ w4 ⟨rfl, hb4⟩)
        have HB4 := Lib.hid (below_step (w := w) (by first | assumption | go_grown) hb4)
        have hs4 := hb4.size
        (try simp only [World.size_alloc, World.size_setCell] at hs4)
        have K0 : w4.heap[w.heap.size]? = some (.cells #[.int .i64 a1, .int .i64 a2] 37) := (hb4.block (w.heap.size) (by first | omega | (simp; done) | (simp <;> omega))).trans HK03.out
        obtain ⟨u04, v04, x04, y04⟩ := cells_at2 K0
        have HK04 := Lib.hid K0
        clear K0
        have K1 : w4.heap[w.heap.size + 1]? = some (.cells #[.int .i64 b1, .int .i64 b2] 37) := (hb4.block (w.heap.size + 1) (by first | omega | (simp; done) | (simp <;> omega))).trans HK13.out
        obtain ⟨u14, v14, x14, y14⟩ := cells_at2 K1
        have HK14 := Lib.hid K1
        clear K1
        have K2 : w4.heap[w.heap.size + 1 + 1]? = some (.cells #[.int .i64 c1, .int .i64 c2] 37) := (hb4.block (w.heap.size + 1 + 1) (by first | omega | (simp; done) | (simp <;> omega))).trans HK23.out
        obtain ⟨u24, v24, x24, y24⟩ := cells_at2 K2
        have HK24 := Lib.hid K2
        clear K2
        have K3 : w4.heap[w.heap.size + 1 + 1 + 1]? = some (.cells #[.int .i64 d1, .int .i64 d2] 37) := (hb4.block (w.heap.size + 1 + 1 + 1) (by first | omega | (simp; done) | (simp <;> omega))).trans HK33.out
        obtain ⟨u34, v34, x34, y34⟩ := cells_at2 K3
        have HK34 := Lib.hid K3
        clear K3
        clear u03 v03 x03 y03 u13 v13 x13 y13 u23 v23 x23 y23 u33 v33 x33 y33 HB3
        clear hb4
        cases o3 with
        | true =>
          go_wp2
          go_returns
          exact ⟨by first | rfl, by first | exact HB4.out | go_grown⟩
        | false =>
          cases n1
          all_goals
            go_wp2_with fail
            refine wp_region_seq 27 [] [] (by kernel_rfl) (by kernel_rfl) (by kernel_rfl) (by kernel_rfl) (by kernel_rfl) ?_ ?_ ?_
            · intro r hr; cases hr
            · intro r hr; cases hr
            simp only [List.take_succ_cons, List.take_zero, fillL, Act.put, List.setIfInBounds_toArray, List.set_cons_zero, List.set_cons_succ]
            apply seq_is (by kernel_rfl)
            · intro u wx hb hd
              replace hb := hb.nil
              have hz := hb.size
              (try simp only [World.size_alloc, World.size_setCell] at hz)
              have hz0 : w.heap.size < wx.heap.size := by omega
              have hz1 : w.heap.size + 1 < wx.heap.size := by omega
              have hz2 : w.heap.size + 1 + 1 < wx.heap.size := by omega
              have hz3 : w.heap.size + 1 + 1 + 1 < wx.heap.size := by omega
              obtain ⟨hc, hf⟩ := bcell hb
              clear hb hz
              simp [depsE, Region.binds, updE, kindOf, Prp.is, Prp.any] at hd
              go_simp
              first | exact ⟨Below.refl _ _, rfl⟩ | rfl
            apply seq_is (by kernel_rfl)
            · intro u wx hb hd
              replace hb := hb.nil
              have hz := hb.size
              (try simp only [World.size_alloc, World.size_setCell] at hz)
              have hz0 : w.heap.size < wx.heap.size := by omega
              have hz1 : w.heap.size + 1 < wx.heap.size := by omega
              have hz2 : w.heap.size + 1 + 1 < wx.heap.size := by omega
              have hz3 : w.heap.size + 1 + 1 + 1 < wx.heap.size := by omega
              obtain ⟨hc, hf⟩ := bcell hb
              clear hb hz
              simp [depsE, Region.binds, updE, kindOf, Prp.is, Prp.any] at hd
              go_simp
              first | exact ⟨Below.refl _ _, rfl⟩ | rfl
            apply seq_is (by kernel_rfl)
            · intro u wx hb hd
              replace hb := hb.nil
              have hz := hb.size
              (try simp only [World.size_alloc, World.size_setCell] at hz)
              have hz0 : w.heap.size < wx.heap.size := by omega
              have hz1 : w.heap.size + 1 < wx.heap.size := by omega
              have hz2 : w.heap.size + 1 + 1 < wx.heap.size := by omega
              have hz3 : w.heap.size + 1 + 1 + 1 < wx.heap.size := by omega
              obtain ⟨hc, hf⟩ := bcell hb
              clear hb hz
              simp [depsE, Region.binds, updE, kindOf, Prp.is, Prp.any] at hd
              go_simp
              first | exact ⟨Below.refl _ _, rfl⟩ | rfl
            apply seq_is (by kernel_rfl)
            · intro u wx hb hd
              replace hb := hb.nil
              have hz := hb.size
              (try simp only [World.size_alloc, World.size_setCell] at hz)
              have hz0 : w.heap.size < wx.heap.size := by omega
              have hz1 : w.heap.size + 1 < wx.heap.size := by omega
              have hz2 : w.heap.size + 1 + 1 < wx.heap.size := by omega
              have hz3 : w.heap.size + 1 + 1 + 1 < wx.heap.size := by omega
              obtain ⟨hc, hf⟩ := bcell hb
              clear hb hz
              simp [depsE, Region.binds, updE, kindOf, Prp.is, Prp.any] at hd
              go_simp
              first | rfl | (go_at_call 73; refine (HT0.out _).mono ?_; rintro e w1 ⟨rfl, hb1⟩; first | exact ⟨rfl, hb1⟩ | exact ⟨_, rfl, hb1, rfl⟩)
            apply seq_is (by kernel_rfl)
            · intro u wx hb hd
              replace hb := hb.nil
              have hz := hb.size
              (try simp only [World.size_alloc, World.size_setCell] at hz)
              have hz0 : w.heap.size < wx.heap.size := by omega
              have hz1 : w.heap.size + 1 < wx.heap.size := by omega
              have hz2 : w.heap.size + 1 + 1 < wx.heap.size := by omega
              have hz3 : w.heap.size + 1 + 1 + 1 < wx.heap.size := by omega
              obtain ⟨hc, hf⟩ := bcell hb
              clear hb hz
              simp [depsE, Region.binds, updE, kindOf, Prp.is, Prp.any] at hd
              go_simp
              first | rfl | (go_at_call 83; refine (HS0.out _).mono ?_; rintro e w1 ⟨rfl, hb1⟩; first | exact ⟨rfl, hb1⟩ | exact ⟨_, rfl, hb1, rfl⟩)
            apply seq_is (by kernel_rfl)
            · intro u wx hb hd
              replace hb := hb.nil
              have hz := hb.size
              (try simp only [World.size_alloc, World.size_setCell] at hz)
              have hz0 : w.heap.size < wx.heap.size := by omega
              have hz1 : w.heap.size + 1 < wx.heap.size := by omega
              have hz2 : w.heap.size + 1 + 1 < wx.heap.size := by omega
              have hz3 : w.heap.size + 1 + 1 + 1 < wx.heap.size := by omega
              obtain ⟨hc, hf⟩ := bcell hb
              clear hb hz
              simp [depsE, Region.binds, updE, kindOf, Prp.is, Prp.any] at hd
              go_simp
              first | exact ⟨Below.refl _ _, rfl⟩ | rfl
            apply seq_is (by kernel_rfl)
            · intro u wx hb hd
              replace hb := hb.nil
              have hz := hb.size
              (try simp only [World.size_alloc, World.size_setCell] at hz)
              have hz0 : w.heap.size < wx.heap.size := by omega
              have hz1 : w.heap.size + 1 < wx.heap.size := by omega
              have hz2 : w.heap.size + 1 + 1 < wx.heap.size := by omega
              have hz3 : w.heap.size + 1 + 1 + 1 < wx.heap.size := by omega
              obtain ⟨hc, hf⟩ := bcell hb
              clear hb hz
              simp [depsE, Region.binds, updE, kindOf, Prp.is, Prp.any] at hd
              go_simp
              first | exact ⟨Below.refl _ _, rfl⟩ | rfl
            apply seq_is (by kernel_rfl)
            · intro u wx hb hd
              replace hb := hb.nil
              have hz := hb.size
              (try simp only [World.size_alloc, World.size_setCell] at hz)
              have hz0 : w.heap.size < wx.heap.size := by omega
              have hz1 : w.heap.size + 1 < wx.heap.size := by omega
              have hz2 : w.heap.size + 1 + 1 < wx.heap.size := by omega
              have hz3 : w.heap.size + 1 + 1 + 1 < wx.heap.size := by omega
              obtain ⟨hc, hf⟩ := bcell hb
              clear hb hz
              simp [depsE, Region.binds, updE, kindOf, Prp.is, Prp.any] at hd
              go_simp
              first | exact ⟨Below.refl _ _, rfl⟩ | rfl
            apply seq_is (by kernel_rfl)
            · intro u wx hb hd
              replace hb := hb.nil
              have hz := hb.size
              (try simp only [World.size_alloc, World.size_setCell] at hz)
              have hz0 : w.heap.size < wx.heap.size := by omega
              have hz1 : w.heap.size + 1 < wx.heap.size := by omega
              have hz2 : w.heap.size + 1 + 1 < wx.heap.size := by omega
              have hz3 : w.heap.size + 1 + 1 + 1 < wx.heap.size := by omega
              obtain ⟨hc, hf⟩ := bcell hb
              clear hb hz
              simp [depsE, Region.binds, updE, kindOf, Prp.is, Prp.any] at hd
              go_simp
              first | rfl | (go_at_call 73; refine (HT1.out _).mono ?_; rintro e w1 ⟨rfl, hb1⟩; first | exact ⟨rfl, hb1⟩ | exact ⟨_, rfl, hb1, rfl⟩)
            apply seq_is (by kernel_rfl)
            · intro u wx hb hd
              replace hb := hb.nil
              have hz := hb.size
              (try simp only [World.size_alloc, World.size_setCell] at hz)
              have hz0 : w.heap.size < wx.heap.size := by omega
              have hz1 : w.heap.size + 1 < wx.heap.size := by omega
              have hz2 : w.heap.size + 1 + 1 < wx.heap.size := by omega
              have hz3 : w.heap.size + 1 + 1 + 1 < wx.heap.size := by omega
              obtain ⟨hc, hf⟩ := bcell hb
              clear hb hz
              simp [depsE, Region.binds, updE, kindOf, Prp.is, Prp.any] at hd
              go_simp
              first | rfl | (go_at_call 83; refine (HS1.out _).mono ?_; rintro e w1 ⟨rfl, hb1⟩; first | exact ⟨rfl, hb1⟩ | exact ⟨_, rfl, hb1, rfl⟩)
            apply seq_is (by kernel_rfl)
            · intro u wx hb hd
              replace hb := hb.nil
              have hz := hb.size
              (try simp only [World.size_alloc, World.size_setCell] at hz)
              have hz0 : w.heap.size < wx.heap.size := by omega
              have hz1 : w.heap.size + 1 < wx.heap.size := by omega
              have hz2 : w.heap.size + 1 + 1 < wx.heap.size := by omega
              have hz3 : w.heap.size + 1 + 1 + 1 < wx.heap.size := by omega
              obtain ⟨hc, hf⟩ := bcell hb
              clear hb hz
              simp [depsE, Region.binds, updE, kindOf, Prp.is, Prp.any] at hd
              go_simp
              first | exact ⟨Below.refl _ _, rfl⟩ | rfl
            apply seq_is (by kernel_rfl)
            · intro u wx hb hd
              replace hb := hb.nil
              have hz := hb.size
              (try simp only [World.size_alloc, World.size_setCell] at hz)
              have hz0 : w.heap.size < wx.heap.size := by omega
              have hz1 : w.heap.size + 1 < wx.heap.size := by omega
              have hz2 : w.heap.size + 1 + 1 < wx.heap.size := by omega
              have hz3 : w.heap.size + 1 + 1 + 1 < wx.heap.size := by omega
              obtain ⟨hc, hf⟩ := bcell hb
              clear hb hz
              simp [depsE, Region.binds, updE, kindOf, Prp.is, Prp.any] at hd
              go_simp
              first | exact ⟨Below.refl _ _, rfl⟩ | rfl
            apply seq_is (by kernel_rfl)
            · intro u wx hb hd
              replace hb := hb.nil
              have hz := hb.size
              (try simp only [World.size_alloc, World.size_setCell] at hz)
              have hz0 : w.heap.size < wx.heap.size := by omega
              have hz1 : w.heap.size + 1 < wx.heap.size := by omega
              have hz2 : w.heap.size + 1 + 1 < wx.heap.size := by omega
              have hz3 : w.heap.size + 1 + 1 + 1 < wx.heap.size := by omega
              obtain ⟨hc, hf⟩ := bcell hb
              clear hb hz
              simp [depsE, Region.binds, updE, kindOf, Prp.is, Prp.any] at hd
              go_simp
              first | exact ⟨Below.refl _ _, rfl⟩ | rfl
            apply seq_is (by kernel_rfl)
            · intro u wx hb hd
              replace hb := hb.nil
              have hz := hb.size
              (try simp only [World.size_alloc, World.size_setCell] at hz)
              have hz0 : w.heap.size < wx.heap.size := by omega
              have hz1 : w.heap.size + 1 < wx.heap.size := by omega
              have hz2 : w.heap.size + 1 + 1 < wx.heap.size := by omega
              have hz3 : w.heap.size + 1 + 1 + 1 < wx.heap.size := by omega
              obtain ⟨hc, hf⟩ := bcell hb
              clear hb hz
              simp [depsE, Region.binds, updE, kindOf, Prp.is, Prp.any] at hd
              go_simp
              first | exact ⟨Below.refl _ _, rfl⟩ | rfl
            apply seq_is (by kernel_rfl)
            · intro u wx hb hd
              replace hb := hb.nil
              have hz := hb.size
              (try simp only [World.size_alloc, World.size_setCell] at hz)
              have hz0 : w.heap.size < wx.heap.size := by omega
              have hz1 : w.heap.size + 1 < wx.heap.size := by omega
              have hz2 : w.heap.size + 1 + 1 < wx.heap.size := by omega
              have hz3 : w.heap.size + 1 + 1 + 1 < wx.heap.size := by omega
              obtain ⟨hc, hf⟩ := bcell hb
              clear hb hz
              simp [depsE, Region.binds, updE, kindOf, Prp.is, Prp.any] at hd
              go_simp
              first | exact ⟨Below.refl _ _, rfl⟩ | rfl
            apply seq_is (by kernel_rfl)
            · intro u wx hb hd
              replace hb := hb.nil
              have hz := hb.size
              (try simp only [World.size_alloc, World.size_setCell] at hz)
              have hz0 : w.heap.size < wx.heap.size := by omega
              have hz1 : w.heap.size + 1 < wx.heap.size := by omega
              have hz2 : w.heap.size + 1 + 1 < wx.heap.size := by omega
              have hz3 : w.heap.size + 1 + 1 + 1 < wx.heap.size := by omega
              obtain ⟨hc, hf⟩ := bcell hb
              clear hb hz
              simp [depsE, Region.binds, updE, kindOf, Prp.is, Prp.any] at hd
              go_simp
              first | exact ⟨Below.refl _ _, rfl⟩ | rfl
            apply seq_is (by kernel_rfl)
            · intro u wx hb hd
              replace hb := hb.nil
              have hz := hb.size
              (try simp only [World.size_alloc, World.size_setCell] at hz)
              have hz0 : w.heap.size < wx.heap.size := by omega
              have hz1 : w.heap.size + 1 < wx.heap.size := by omega
              have hz2 : w.heap.size + 1 + 1 < wx.heap.size := by omega
              have hz3 : w.heap.size + 1 + 1 + 1 < wx.heap.size := by omega
              obtain ⟨hc, hf⟩ := bcell hb
              clear hb hz
              simp [depsE, Region.binds, updE, kindOf, Prp.is, Prp.any] at hd
              go_simp
              first | rfl | (go_at_call 73; refine (HT2.out _).mono ?_; rintro e w1 ⟨rfl, hb1⟩; first | exact ⟨rfl, hb1⟩ | exact ⟨_, rfl, hb1, rfl⟩)
            apply seq_is (by kernel_rfl)
            · intro u wx hb hd
              replace hb := hb.nil
              have hz := hb.size
              (try simp only [World.size_alloc, World.size_setCell] at hz)
              have hz0 : w.heap.size < wx.heap.size := by omega
              have hz1 : w.heap.size + 1 < wx.heap.size := by omega
              have hz2 : w.heap.size + 1 + 1 < wx.heap.size := by omega
              have hz3 : w.heap.size + 1 + 1 + 1 < wx.heap.size := by omega
              obtain ⟨hc, hf⟩ := bcell hb
              clear hb hz
              simp [depsE, Region.binds, updE, kindOf, Prp.is, Prp.any] at hd
              go_simp
              first | rfl | (go_at_call 83; refine (HS2.out _).mono ?_; rintro e w1 ⟨rfl, hb1⟩; first | exact ⟨rfl, hb1⟩ | exact ⟨_, rfl, hb1, rfl⟩)
            apply seq_is (by kernel_rfl)
            · intro u wx hb hd
              replace hb := hb.nil
              have hz := hb.size
              (try simp only [World.size_alloc, World.size_setCell] at hz)
              have hz0 : w.heap.size < wx.heap.size := by omega
              have hz1 : w.heap.size + 1 < wx.heap.size := by omega
              have hz2 : w.heap.size + 1 + 1 < wx.heap.size := by omega
              have hz3 : w.heap.size + 1 + 1 + 1 < wx.heap.size := by omega
              obtain ⟨hc, hf⟩ := bcell hb
              clear hb hz
              simp [depsE, Region.binds, updE, kindOf, Prp.is, Prp.any] at hd
              go_simp
              first | exact ⟨Below.refl _ _, rfl⟩ | rfl
            apply seq_is (by kernel_rfl)
            · intro u wx hb hd
              replace hb := hb.nil
              have hz := hb.size
              (try simp only [World.size_alloc, World.size_setCell] at hz)
              have hz0 : w.heap.size < wx.heap.size := by omega
              have hz1 : w.heap.size + 1 < wx.heap.size := by omega
              have hz2 : w.heap.size + 1 + 1 < wx.heap.size := by omega
              have hz3 : w.heap.size + 1 + 1 + 1 < wx.heap.size := by omega
              obtain ⟨hc, hf⟩ := bcell hb
              clear hb hz
              simp [depsE, Region.binds, updE, kindOf, Prp.is, Prp.any] at hd
              go_simp
              first | exact ⟨Below.refl _ _, rfl⟩ | rfl
            apply seq_is (by kernel_rfl)
            · intro u wx hb hd
              replace hb := hb.nil
              have hz := hb.size
              (try simp only [World.size_alloc, World.size_setCell] at hz)
              have hz0 : w.heap.size < wx.heap.size := by omega
              have hz1 : w.heap.size + 1 < wx.heap.size := by omega
              have hz2 : w.heap.size + 1 + 1 < wx.heap.size := by omega
              have hz3 : w.heap.size + 1 + 1 + 1 < wx.heap.size := by omega
              obtain ⟨hc, hf⟩ := bcell hb
              clear hb hz
              simp [depsE, Region.binds, updE, kindOf, Prp.is, Prp.any] at hd
              go_simp
              first | exact ⟨Below.refl _ _, rfl⟩ | rfl
            apply seq_is (by kernel_rfl)
            · intro u wx hb hd
              replace hb := hb.nil
              have hz := hb.size
              (try simp only [World.size_alloc, World.size_setCell] at hz)
              have hz0 : w.heap.size < wx.heap.size := by omega
              have hz1 : w.heap.size + 1 < wx.heap.size := by omega
              have hz2 : w.heap.size + 1 + 1 < wx.heap.size := by omega
              have hz3 : w.heap.size + 1 + 1 + 1 < wx.heap.size := by omega
              obtain ⟨hc, hf⟩ := bcell hb
              clear hb hz
              simp [depsE, Region.binds, updE, kindOf, Prp.is, Prp.any] at hd
              go_simp
              first | rfl | (go_at_call 73; refine (HT3.out _).mono ?_; rintro e w1 ⟨rfl, hb1⟩; first | exact ⟨rfl, hb1⟩ | exact ⟨_, rfl, hb1, rfl⟩)
            apply seq_is (by kernel_rfl)
            · intro u wx hb hd
              replace hb := hb.nil
              have hz := hb.size
              (try simp only [World.size_alloc, World.size_setCell] at hz)
              have hz0 : w.heap.size < wx.heap.size := by omega
              have hz1 : w.heap.size + 1 < wx.heap.size := by omega
              have hz2 : w.heap.size + 1 + 1 < wx.heap.size := by omega
              have hz3 : w.heap.size + 1 + 1 + 1 < wx.heap.size := by omega
              obtain ⟨hc, hf⟩ := bcell hb
              clear hb hz
              simp [depsE, Region.binds, updE, kindOf, Prp.is, Prp.any] at hd
              go_simp
              first | rfl | (go_at_call 83; refine (HS3.out _).mono ?_; rintro e w1 ⟨rfl, hb1⟩; first | exact ⟨rfl, hb1⟩ | exact ⟨_, rfl, hb1, rfl⟩)
            apply seq_is (by kernel_rfl)
            · intro u wx hb hd
              replace hb := hb.nil
              have hz := hb.size
              (try simp only [World.size_alloc, World.size_setCell] at hz)
              have hz0 : w.heap.size < wx.heap.size := by omega
              have hz1 : w.heap.size + 1 < wx.heap.size := by omega
              have hz2 : w.heap.size + 1 + 1 < wx.heap.size := by omega
              have hz3 : w.heap.size + 1 + 1 + 1 < wx.heap.size := by omega
              obtain ⟨hc, hf⟩ := bcell hb
              clear hb hz
              simp [depsE, Region.binds, updE, kindOf, Prp.is, Prp.any] at hd
              go_simp
              first | exact ⟨Below.refl _ _, rfl⟩ | rfl
            apply seq_is (by kernel_rfl)
            · intro u wx hb hd
              replace hb := hb.nil
              have hz := hb.size
              (try simp only [World.size_alloc, World.size_setCell] at hz)
              have hz0 : w.heap.size < wx.heap.size := by omega
              have hz1 : w.heap.size + 1 < wx.heap.size := by omega
              have hz2 : w.heap.size + 1 + 1 < wx.heap.size := by omega
              have hz3 : w.heap.size + 1 + 1 + 1 < wx.heap.size := by omega
              obtain ⟨hc, hf⟩ := bcell hb
              clear hb hz
              simp [depsE, Region.binds, updE, kindOf, Prp.is, Prp.any] at hd
              go_simp
              first | exact ⟨Below.refl _ _, rfl⟩ | rfl
            apply seq_is (by kernel_rfl)
            · intro u wx hb hd
              replace hb := hb.nil
              have hz := hb.size
              (try simp only [World.size_alloc, World.size_setCell] at hz)
              have hz0 : w.heap.size < wx.heap.size := by omega
              have hz1 : w.heap.size + 1 < wx.heap.size := by omega
              have hz2 : w.heap.size + 1 + 1 < wx.heap.size := by omega
              have hz3 : w.heap.size + 1 + 1 + 1 < wx.heap.size := by omega
              obtain ⟨hc, hf⟩ := bcell hb
              clear hb hz
              simp [depsE, Region.binds, updE, kindOf, Prp.is, Prp.any] at hd
              go_simp
              first | exact ⟨Below.refl _ _, rfl⟩ | rfl
            apply seq_is (by kernel_rfl)
            · intro u wx hb hd
              replace hb := hb.nil
              have hz := hb.size
              (try simp only [World.size_alloc, World.size_setCell] at hz)
              have hz0 : w.heap.size < wx.heap.size := by omega
              have hz1 : w.heap.size + 1 < wx.heap.size := by omega
              have hz2 : w.heap.size + 1 + 1 < wx.heap.size := by omega
              have hz3 : w.heap.size + 1 + 1 + 1 < wx.heap.size := by omega
              obtain ⟨hc, hf⟩ := bcell hb
              clear hb hz
              simp [depsE, Region.binds, updE, kindOf, Prp.is, Prp.any] at hd
              go_simp
              first | exact ⟨Below.refl _ _, rfl⟩ | rfl
            intro u w5 hb hE hV hP
            replace hb := hb.nil
            clear hP
            have e0 : u 0 = _ := endE_get hE 0 (by decide) (by simp [kindOf])
            have e1 : u 1 = _ := endE_get hE 1 (by decide) (by simp [kindOf])
            have e2 : u 2 = _ := endE_get hE 2 (by decide) (by simp [kindOf])
            have e3 : u 3 = _ := endE_get hE 3 (by decide) (by simp [kindOf])
            have e4 : u 4 = _ := endE_get hE 4 (by decide) (by simp [kindOf])
            have e5 : u 5 = _ := endE_get hE 5 (by decide) (by simp [kindOf])
            have e6 : u 6 = _ := endE_get hE 6 (by decide) (by simp [kindOf])
            have e7 : u 7 = _ := endE_get hE 7 (by decide) (by simp [kindOf])
            have e8 : u 8 = _ := endE_get hE 8 (by decide) (by simp [kindOf])
            have e9 : u 9 = _ := endE_get hE 9 (by decide) (by simp [kindOf])
            have e10 : u 10 = _ := endE_get hE 10 (by decide) (by simp [kindOf])
            have e11 : u 11 = _ := endE_get hE 11 (by decide) (by simp [kindOf])
            have e12 : u 12 = _ := endE_get hE 12 (by decide) (by simp [kindOf])
            have e13 : u 13 = _ := endE_get hE 13 (by decide) (by simp [kindOf])
            have e14 : u 14 = _ := endE_get hE 14 (by decide) (by simp [kindOf])
            have e15 : u 15 = _ := endE_get hE 15 (by decide) (by simp [kindOf])
            have e16 : u 16 = _ := endE_get hE 16 (by decide) (by simp [kindOf])
            have e17 : u 17 = _ := endE_get hE 17 (by decide) (by simp [kindOf])
            have e18 : u 18 = _ := endE_get hE 18 (by decide) (by simp [kindOf])
            have e19 : u 19 = _ := endE_get hE 19 (by decide) (by simp [kindOf])
            have e20 : u 20 = _ := endE_get hE 20 (by decide) (by simp [kindOf])
            have e21 : u 21 = _ := endE_get hE 21 (by decide) (by simp [kindOf])
            have e22 : u 22 = _ := endE_get hE 22 (by decide) (by simp [kindOf])
            have e23 : u 23 = _ := endE_get hE 23 (by decide) (by simp [kindOf])
            have e24 : u 24 = _ := endE_get hE 24 (by decide) (by simp [kindOf])
            have e25 : u 25 = _ := endE_get hE 25 (by decide) (by simp [kindOf])
            have e26 : u 26 = _ := endE_get hE 26 (by decide) (by simp [kindOf])
            clear hV
            simp only [List.drop_succ_cons, List.drop_zero, List.take_succ_cons, List.take_zero, fillL, Act.put, List.setIfInBounds_toArray, List.set_cons_zero, List.set_cons_succ, e0, e1, e2, e3, e4, e5, e6, e7, e8, e9, e10, e11, e12, e13, e14, e15, e16, e17, e18, e19, e20, e21, e22, e23, e24, e25, e26]
            clear e0 e1 e2 e3 e4 e5 e6 e7 e8 e9 e10 e11 e12 e13 e14 e15 e16 e17 e18 e19 e20 e21 e22 e23 e24 e25 e26 hE
            have HBWw5 := Lib.hid hb
            have hw5 := below_step (w := w) (by first | assumption | go_grown) hb
            have hzw5 := hb.size
            (try simp only [World.size_alloc, World.size_setCell] at hzw5)
            have hzw50 : w.heap.size < w5.heap.size := by omega
            have hzw51 : w.heap.size + 1 < w5.heap.size := by omega
            have hzw52 : w.heap.size + 1 + 1 < w5.heap.size := by omega
            have hzw53 : w.heap.size + 1 + 1 + 1 < w5.heap.size := by omega
            have HHw5 := Lib.hid hb.block
            obtain ⟨hcw5, hfw5⟩ := bcell hb
            clear hb hzw5
            go_wp2
            go_returns
            exact ⟨rfl, by first | assumption | go_grown⟩
set_option maxHeartbeats 4000000 in
set_option maxRecDepth 20000 in
theorem meet12_any (a1 a2 b1 b2 c1 c2 d1 d2 : Int) (w : World) (ha : Nr (a1, a2)) (hb : Nr (b1, b2)) (hc : Nr (c1, c2)) (hd : Nr (d1, d2)) : Calls Tryd.prog 70 #[.agg #[.int .i64 a1, .int .i64 a2], .agg #[.int .i64 b1, .int .i64 b2], .agg #[.int .i64 c1, .int .i64 c2], .agg #[.int .i64 d1, .int .i64 d2]] w fun e w' => e = .returned (.bool (decide (meets (a1, a2) (b1, b2) (c1, c2) (d1, d2)))) ∧ Below w.heap.size w w' := by
  rw [meets_dec]
  obtain ⟨o0, ho0⟩ : ∃ e, decide (onS (a1, a2) (b1, b2) (c1, c2)) = e := ⟨_, rfl⟩
  have HO0 : ∀ W, Calls Tryd.prog 57 #[.agg #[.int .i64 c1, .int .i64 c2], .agg #[.int .i64 a1, .int .i64 a2], .agg #[.int .i64 b1, .int .i64 b2]] W (fun e w' => e = .returned (.bool o0) ∧ Below W.heap.size W w') := fun W => by rw [← ho0]; exact on12_any a1 a2 b1 b2 c1 c2 W ha hb hc
  rw [ho0]
  clear ho0
  replace HO0 := Lib.hid HO0
  obtain ⟨o1, ho1⟩ : ∃ e, decide (onS (a1, a2) (b1, b2) (d1, d2)) = e := ⟨_, rfl⟩
  have HO1 : ∀ W, Calls Tryd.prog 57 #[.agg #[.int .i64 d1, .int .i64 d2], .agg #[.int .i64 a1, .int .i64 a2], .agg #[.int .i64 b1, .int .i64 b2]] W (fun e w' => e = .returned (.bool o1) ∧ Below W.heap.size W w') := fun W => by rw [← ho1]; exact on12_any a1 a2 b1 b2 d1 d2 W ha hb hd
  rw [ho1]
  clear ho1
  replace HO1 := Lib.hid HO1
  obtain ⟨o2, ho2⟩ : ∃ e, decide (onS (c1, c2) (d1, d2) (a1, a2)) = e := ⟨_, rfl⟩
  have HO2 : ∀ W, Calls Tryd.prog 57 #[.agg #[.int .i64 a1, .int .i64 a2], .agg #[.int .i64 c1, .int .i64 c2], .agg #[.int .i64 d1, .int .i64 d2]] W (fun e w' => e = .returned (.bool o2) ∧ Below W.heap.size W w') := fun W => by rw [← ho2]; exact on12_any c1 c2 d1 d2 a1 a2 W hc hd ha
  rw [ho2]
  clear ho2
  replace HO2 := Lib.hid HO2
  obtain ⟨o3, ho3⟩ : ∃ e, decide (onS (c1, c2) (d1, d2) (b1, b2)) = e := ⟨_, rfl⟩
  have HO3 : ∀ W, Calls Tryd.prog 57 #[.agg #[.int .i64 b1, .int .i64 b2], .agg #[.int .i64 c1, .int .i64 c2], .agg #[.int .i64 d1, .int .i64 d2]] W (fun e w' => e = .returned (.bool o3) ∧ Below W.heap.size W w') := fun W => by rw [← ho3]; exact on12_any c1 c2 d1 d2 b1 b2 W hc hd hb
  rw [ho3]
  clear ho3
  replace HO3 := Lib.hid HO3
  have m1 := sg_mul (crs (a1, a2) (b1, b2) (c1, c2)) (crs (a1, a2) (b1, b2) (d1, d2))
  have m2 := sg_mul (crs (c1, c2) (d1, d2) (a1, a2)) (crs (c1, c2) (d1, d2) (b1, b2))
  obtain ⟨t0, ht0⟩ : ∃ e, crs (a1, a2) (b1, b2) (c1, c2) = e := ⟨_, rfl⟩
  have HT0 : ∀ W, Calls Tryd.prog 58 #[.agg #[.int .i64 a1, .int .i64 a2], .agg #[.int .i64 b1, .int .i64 b2], .agg #[.int .i64 c1, .int .i64 c2]] W (fun e w' => e = .returned (.int .i64 t0) ∧ Below W.heap.size W w') := fun W => by rw [← ht0]; exact crs12_any a1 a2 b1 b2 c1 c2 W ha hb hc
  rw [ht0]
  rw [ht0] at m1
  clear ht0
  replace HT0 := Lib.hid HT0
  obtain ⟨s0, hs0⟩ : ∃ e, sgI t0 = e := ⟨_, rfl⟩
  have HS0 : ∀ W, Calls Tryd.prog 82 #[.int .i64 t0] W (fun e w' => e = .returned (.int .i64 s0) ∧ Below W.heap.size W w') := fun W => by rw [← hs0]; exact sign12_any t0 W
  rw [hs0]
  rw [hs0] at m1
  clear hs0
  replace HS0 := Lib.hid HS0
  obtain ⟨t1, ht1⟩ : ∃ e, crs (a1, a2) (b1, b2) (d1, d2) = e := ⟨_, rfl⟩
  have HT1 : ∀ W, Calls Tryd.prog 58 #[.agg #[.int .i64 a1, .int .i64 a2], .agg #[.int .i64 b1, .int .i64 b2], .agg #[.int .i64 d1, .int .i64 d2]] W (fun e w' => e = .returned (.int .i64 t1) ∧ Below W.heap.size W w') := fun W => by rw [← ht1]; exact crs12_any a1 a2 b1 b2 d1 d2 W ha hb hd
  rw [ht1]
  rw [ht1] at m1
  clear ht1
  replace HT1 := Lib.hid HT1
  obtain ⟨s1, hs1⟩ : ∃ e, sgI t1 = e := ⟨_, rfl⟩
  have HS1 : ∀ W, Calls Tryd.prog 82 #[.int .i64 t1] W (fun e w' => e = .returned (.int .i64 s1) ∧ Below W.heap.size W w') := fun W => by rw [← hs1]; exact sign12_any t1 W
  rw [hs1]
  rw [hs1] at m1
  clear hs1
  replace HS1 := Lib.hid HS1
  obtain ⟨t2, ht2⟩ : ∃ e, crs (c1, c2) (d1, d2) (a1, a2) = e := ⟨_, rfl⟩
  have HT2 : ∀ W, Calls Tryd.prog 58 #[.agg #[.int .i64 c1, .int .i64 c2], .agg #[.int .i64 d1, .int .i64 d2], .agg #[.int .i64 a1, .int .i64 a2]] W (fun e w' => e = .returned (.int .i64 t2) ∧ Below W.heap.size W w') := fun W => by rw [← ht2]; exact crs12_any c1 c2 d1 d2 a1 a2 W hc hd ha
  rw [ht2]
  rw [ht2] at m2
  clear ht2
  replace HT2 := Lib.hid HT2
  obtain ⟨s2, hs2⟩ : ∃ e, sgI t2 = e := ⟨_, rfl⟩
  have HS2 : ∀ W, Calls Tryd.prog 82 #[.int .i64 t2] W (fun e w' => e = .returned (.int .i64 s2) ∧ Below W.heap.size W w') := fun W => by rw [← hs2]; exact sign12_any t2 W
  rw [hs2]
  rw [hs2] at m2
  clear hs2
  replace HS2 := Lib.hid HS2
  obtain ⟨t3, ht3⟩ : ∃ e, crs (c1, c2) (d1, d2) (b1, b2) = e := ⟨_, rfl⟩
  have HT3 : ∀ W, Calls Tryd.prog 58 #[.agg #[.int .i64 c1, .int .i64 c2], .agg #[.int .i64 d1, .int .i64 d2], .agg #[.int .i64 b1, .int .i64 b2]] W (fun e w' => e = .returned (.int .i64 t3) ∧ Below W.heap.size W w') := fun W => by rw [← ht3]; exact crs12_any c1 c2 d1 d2 b1 b2 W hc hd hb
  rw [ht3]
  rw [ht3] at m2
  clear ht3
  replace HT3 := Lib.hid HT3
  obtain ⟨s3, hs3⟩ : ∃ e, sgI t3 = e := ⟨_, rfl⟩
  have HS3 : ∀ W, Calls Tryd.prog 82 #[.int .i64 t3] W (fun e w' => e = .returned (.int .i64 s3) ∧ Below W.heap.size W w') := fun W => by rw [← hs3]; exact sign12_any t3 W
  rw [hs3]
  rw [hs3] at m2
  clear hs3
  replace HS3 := Lib.hid HS3
  clear ha hb hc hd
  obtain ⟨p1, hp1⟩ : ∃ e, s0 * s1 = e := ⟨_, rfl⟩
  obtain ⟨p2, hp2⟩ : ∃ e, s2 * s3 = e := ⟨_, rfl⟩
  rw [hp1] at m1
  rw [hp2] at m2
  have wr1 : IntKind.i64.wrap (s0 * s1) = p1 := by rw [hp1]; exact IntWalk.i64_in _ (by omega)
  have wr2 : IntKind.i64.wrap (s2 * s3) = p2 := by rw [hp2]; exact IntWalk.i64_in _ (by omega)
  rw [hp1, hp2]
  clear hp1 hp2 m1 m2
  obtain ⟨n1, hn1⟩ : ∃ e, decide (p1 < 0) = e := ⟨_, rfl⟩
  rw [hn1]
  go_enter Tryd.func70, Tryd.ntmps70
  go_wp2_with fail
  (go_at_call 57; refine (HO2.out _).mono ?_; rintro e_ w1 ⟨rfl, hb1⟩)
  have HB1 := Lib.hid (below_step (w := w) (by first | assumption | go_grown) hb1)
  have hs1 := hb1.size
  (try simp only [World.size_alloc, World.size_setCell] at hs1)
  have K0 : w1.heap[w.heap.size]? = some (.cells #[.int .i64 a1, .int .i64 a2] 37) := (hb1.block (w.heap.size) (by first | omega | (simp; done) | (simp <;> omega))).trans (by first | exact heapA_at _ _ _ (by first | rfl | (simp; done)) | exact (heapA_old _ _ _ (by simp <;> omega)).trans (heapA_at _ _ _ (by first | rfl | (simp; done))) | exact (heapA_old _ _ _ (by simp <;> omega)).trans ((heapA_old _ _ _ (by simp <;> omega)).trans (heapA_at _ _ _ (by first | rfl | (simp; done)))) | exact (heapA_old _ _ _ (by simp <;> omega)).trans ((heapA_old _ _ _ (by simp <;> omega)).trans ((heapA_old _ _ _ (by simp <;> omega)).trans (heapA_at _ _ _ (by first | rfl | (simp; done))))))
  obtain ⟨u01, v01, x01, y01⟩ := cells_at2 K0
  have HK01 := Lib.hid K0
  clear K0
  have K1 : w1.heap[w.heap.size + 1]? = some (.cells #[.int .i64 b1, .int .i64 b2] 37) := (hb1.block (w.heap.size + 1) (by first | omega | (simp; done) | (simp <;> omega))).trans (by first | exact heapA_at _ _ _ (by first | rfl | (simp; done)) | exact (heapA_old _ _ _ (by simp <;> omega)).trans (heapA_at _ _ _ (by first | rfl | (simp; done))) | exact (heapA_old _ _ _ (by simp <;> omega)).trans ((heapA_old _ _ _ (by simp <;> omega)).trans (heapA_at _ _ _ (by first | rfl | (simp; done)))) | exact (heapA_old _ _ _ (by simp <;> omega)).trans ((heapA_old _ _ _ (by simp <;> omega)).trans ((heapA_old _ _ _ (by simp <;> omega)).trans (heapA_at _ _ _ (by first | rfl | (simp; done))))))
  obtain ⟨u11, v11, x11, y11⟩ := cells_at2 K1
  have HK11 := Lib.hid K1
  clear K1
  have K2 : w1.heap[w.heap.size + 1 + 1]? = some (.cells #[.int .i64 c1, .int .i64 c2] 37) := (hb1.block (w.heap.size + 1 + 1) (by first | omega | (simp; done) | (simp <;> omega))).trans (by first | exact heapA_at _ _ _ (by first | rfl | (simp; done)) | exact (heapA_old _ _ _ (by simp <;> omega)).trans (heapA_at _ _ _ (by first | rfl | (simp; done))) | exact (heapA_old _ _ _ (by simp <;> omega)).trans ((heapA_old _ _ _ (by simp <;> omega)).trans (heapA_at _ _ _ (by first | rfl | (simp; done)))) | exact (heapA_old _ _ _ (by simp <;> omega)).trans ((heapA_old _ _ _ (by simp <;> omega)).trans ((heapA_old _ _ _ (by simp <;> omega)).trans (heapA_at _ _ _ (by first | rfl | (simp; done))))))
  obtain ⟨u21, v21, x21, y21⟩ := cells_at2 K2
  have HK21 := Lib.hid K2
  clear K2
  have K3 : w1.heap[w.heap.size + 1 + 1 + 1]? = some (.cells #[.int .i64 d1, .int .i64 d2] 37) := (hb1.block (w.heap.size + 1 + 1 + 1) (by first | omega | (simp; done) | (simp <;> omega))).trans (by first | exact heapA_at _ _ _ (by first | rfl | (simp; done)) | exact (heapA_old _ _ _ (by simp <;> omega)).trans (heapA_at _ _ _ (by first | rfl | (simp; done))) | exact (heapA_old _ _ _ (by simp <;> omega)).trans ((heapA_old _ _ _ (by simp <;> omega)).trans (heapA_at _ _ _ (by first | rfl | (simp; done)))) | exact (heapA_old _ _ _ (by simp <;> omega)).trans ((heapA_old _ _ _ (by simp <;> omega)).trans ((heapA_old _ _ _ (by simp <;> omega)).trans (heapA_at _ _ _ (by first | rfl | (simp; done))))))
  obtain ⟨u31, v31, x31, y31⟩ := cells_at2 K3
  have HK31 := Lib.hid K3
  clear K3
  clear hb1
  cases o2 with
  | true =>
    go_wp2
    go_returns
    exact ⟨by first | rfl | (cases o3 <;> cases o0 <;> cases o1 <;> rfl), by first | exact HB1.out | go_grown⟩
  | false =>
    go_wp2_with fail
    (go_at_call 57; refine (HO3.out _).mono ?_; rintro e_ w2 ⟨rfl, hb2⟩)
    have HB2 := Lib.hid (below_step (w := w) (by first | assumption | go_grown) hb2)
    have hs2 := hb2.size
    (try simp only [World.size_alloc, World.size_setCell] at hs2)
    have K0 : w2.heap[w.heap.size]? = some (.cells #[.int .i64 a1, .int .i64 a2] 37) := (hb2.block (w.heap.size) (by first | omega | (simp; done) | (simp <;> omega))).trans HK01.out
    obtain ⟨u02, v02, x02, y02⟩ := cells_at2 K0
    have HK02 := Lib.hid K0
    clear K0
    have K1 : w2.heap[w.heap.size + 1]? = some (.cells #[.int .i64 b1, .int .i64 b2] 37) := (hb2.block (w.heap.size + 1) (by first | omega | (simp; done) | (simp <;> omega))).trans HK11.out
    obtain ⟨u12, v12, x12, y12⟩ := cells_at2 K1
    have HK12 := Lib.hid K1
    clear K1
    have K2 : w2.heap[w.heap.size + 1 + 1]? = some (.cells #[.int .i64 c1, .int .i64 c2] 37) := (hb2.block (w.heap.size + 1 + 1) (by first | omega | (simp; done) | (simp <;> omega))).trans HK21.out
    obtain ⟨u22, v22, x22, y22⟩ := cells_at2 K2
    have HK22 := Lib.hid K2
    clear K2
    have K3 : w2.heap[w.heap.size + 1 + 1 + 1]? = some (.cells #[.int .i64 d1, .int .i64 d2] 37) := (hb2.block (w.heap.size + 1 + 1 + 1) (by first | omega | (simp; done) | (simp <;> omega))).trans HK31.out
    obtain ⟨u32, v32, x32, y32⟩ := cells_at2 K3
    have HK32 := Lib.hid K3
    clear K3
    clear u01 v01 x01 y01 u11 v11 x11 y11 u21 v21 x21 y21 u31 v31 x31 y31 HB1
    clear hb2
    cases o3 with
    | true =>
      go_wp2
      go_returns
      exact ⟨by first | rfl | (cases o0 <;> cases o1 <;> rfl), by first | exact HB2.out | go_grown⟩
    | false =>
      go_wp2_with fail
      (go_at_call 57; refine (HO0.out _).mono ?_; rintro e_ w3 ⟨rfl, hb3⟩)
      have HB3 := Lib.hid (below_step (w := w) (by first | assumption | go_grown) hb3)
      have hs3 := hb3.size
      (try simp only [World.size_alloc, World.size_setCell] at hs3)
      have K0 : w3.heap[w.heap.size]? = some (.cells #[.int .i64 a1, .int .i64 a2] 37) := (hb3.block (w.heap.size) (by first | omega | (simp; done) | (simp <;> omega))).trans HK02.out
      obtain ⟨u03, v03, x03, y03⟩ := cells_at2 K0
      have HK03 := Lib.hid K0
      clear K0
      have K1 : w3.heap[w.heap.size + 1]? = some (.cells #[.int .i64 b1, .int .i64 b2] 37) := (hb3.block (w.heap.size + 1) (by first | omega | (simp; done) | (simp <;> omega))).trans HK12.out
      obtain ⟨u13, v13, x13, y13⟩ := cells_at2 K1
      have HK13 := Lib.hid K1
      clear K1
      have K2 : w3.heap[w.heap.size + 1 + 1]? = some (.cells #[.int .i64 c1, .int .i64 c2] 37) := (hb3.block (w.heap.size + 1 + 1) (by first | omega | (simp; done) | (simp <;> omega))).trans HK22.out
      obtain ⟨u23, v23, x23, y23⟩ := cells_at2 K2
      have HK23 := Lib.hid K2
      clear K2
      have K3 : w3.heap[w.heap.size + 1 + 1 + 1]? = some (.cells #[.int .i64 d1, .int .i64 d2] 37) := (hb3.block (w.heap.size + 1 + 1 + 1) (by first | omega | (simp; done) | (simp <;> omega))).trans HK32.out
      obtain ⟨u33, v33, x33, y33⟩ := cells_at2 K3
      have HK33 := Lib.hid K3
      clear K3
      clear u02 v02 x02 y02 u12 v12 x12 y12 u22 v22 x22 y22 u32 v32 x32 y32 HB2
      clear hb3
      cases o0 with
      | true =>
        go_wp2
        go_returns
        exact ⟨by first | rfl | (cases o1 <;> rfl), by first | exact HB3.out | go_grown⟩
      | false =>
        go_wp2_with fail
        (go_at_call 57; refine (HO1.out _).mono ?_; rintro e_ w4 ⟨rfl, hb4⟩)
        have HB4 := Lib.hid (below_step (w := w) (by first | assumption | go_grown) hb4)
        have hs4 := hb4.size
        (try simp only [World.size_alloc, World.size_setCell] at hs4)
        have K0 : w4.heap[w.heap.size]? = some (.cells #[.int .i64 a1, .int .i64 a2] 37) := (hb4.block (w.heap.size) (by first | omega | (simp; done) | (simp <;> omega))).trans HK03.out
        obtain ⟨u04, v04, x04, y04⟩ := cells_at2 K0
        have HK04 := Lib.hid K0
        clear K0
        have K1 : w4.heap[w.heap.size + 1]? = some (.cells #[.int .i64 b1, .int .i64 b2] 37) := (hb4.block (w.heap.size + 1) (by first | omega | (simp; done) | (simp <;> omega))).trans HK13.out
        obtain ⟨u14, v14, x14, y14⟩ := cells_at2 K1
        have HK14 := Lib.hid K1
        clear K1
        have K2 : w4.heap[w.heap.size + 1 + 1]? = some (.cells #[.int .i64 c1, .int .i64 c2] 37) := (hb4.block (w.heap.size + 1 + 1) (by first | omega | (simp; done) | (simp <;> omega))).trans HK23.out
        obtain ⟨u24, v24, x24, y24⟩ := cells_at2 K2
        have HK24 := Lib.hid K2
        clear K2
        have K3 : w4.heap[w.heap.size + 1 + 1 + 1]? = some (.cells #[.int .i64 d1, .int .i64 d2] 37) := (hb4.block (w.heap.size + 1 + 1 + 1) (by first | omega | (simp; done) | (simp <;> omega))).trans HK33.out
        obtain ⟨u34, v34, x34, y34⟩ := cells_at2 K3
        have HK34 := Lib.hid K3
        clear K3
        clear u03 v03 x03 y03 u13 v13 x13 y13 u23 v23 x23 y23 u33 v33 x33 y33 HB3
        clear hb4
        cases o1 with
        | true =>
          go_wp2
          go_returns
          exact ⟨by first | rfl, by first | exact HB4.out | go_grown⟩
        | false =>
          cases n1
          all_goals
            go_wp2_with fail
            refine wp_region_seq 27 [] [] (by kernel_rfl) (by kernel_rfl) (by kernel_rfl) (by kernel_rfl) (by kernel_rfl) ?_ ?_ ?_
            · intro r hr; cases hr
            · intro r hr; cases hr
            simp only [List.take_succ_cons, List.take_zero, fillL, Act.put, List.setIfInBounds_toArray, List.set_cons_zero, List.set_cons_succ]
            apply seq_is (by kernel_rfl)
            · intro u wx hb hd
              replace hb := hb.nil
              have hz := hb.size
              (try simp only [World.size_alloc, World.size_setCell] at hz)
              have hz0 : w.heap.size < wx.heap.size := by omega
              have hz1 : w.heap.size + 1 < wx.heap.size := by omega
              have hz2 : w.heap.size + 1 + 1 < wx.heap.size := by omega
              have hz3 : w.heap.size + 1 + 1 + 1 < wx.heap.size := by omega
              obtain ⟨hc, hf⟩ := bcell hb
              clear hb hz
              simp [depsE, Region.binds, updE, kindOf, Prp.is, Prp.any] at hd
              go_simp
              first | exact ⟨Below.refl _ _, rfl⟩ | rfl
            apply seq_is (by kernel_rfl)
            · intro u wx hb hd
              replace hb := hb.nil
              have hz := hb.size
              (try simp only [World.size_alloc, World.size_setCell] at hz)
              have hz0 : w.heap.size < wx.heap.size := by omega
              have hz1 : w.heap.size + 1 < wx.heap.size := by omega
              have hz2 : w.heap.size + 1 + 1 < wx.heap.size := by omega
              have hz3 : w.heap.size + 1 + 1 + 1 < wx.heap.size := by omega
              obtain ⟨hc, hf⟩ := bcell hb
              clear hb hz
              simp [depsE, Region.binds, updE, kindOf, Prp.is, Prp.any] at hd
              go_simp
              first | exact ⟨Below.refl _ _, rfl⟩ | rfl
            apply seq_is (by kernel_rfl)
            · intro u wx hb hd
              replace hb := hb.nil
              have hz := hb.size
              (try simp only [World.size_alloc, World.size_setCell] at hz)
              have hz0 : w.heap.size < wx.heap.size := by omega
              have hz1 : w.heap.size + 1 < wx.heap.size := by omega
              have hz2 : w.heap.size + 1 + 1 < wx.heap.size := by omega
              have hz3 : w.heap.size + 1 + 1 + 1 < wx.heap.size := by omega
              obtain ⟨hc, hf⟩ := bcell hb
              clear hb hz
              simp [depsE, Region.binds, updE, kindOf, Prp.is, Prp.any] at hd
              go_simp
              first | exact ⟨Below.refl _ _, rfl⟩ | rfl
            apply seq_is (by kernel_rfl)
            · intro u wx hb hd
              replace hb := hb.nil
              have hz := hb.size
              (try simp only [World.size_alloc, World.size_setCell] at hz)
              have hz0 : w.heap.size < wx.heap.size := by omega
              have hz1 : w.heap.size + 1 < wx.heap.size := by omega
              have hz2 : w.heap.size + 1 + 1 < wx.heap.size := by omega
              have hz3 : w.heap.size + 1 + 1 + 1 < wx.heap.size := by omega
              obtain ⟨hc, hf⟩ := bcell hb
              clear hb hz
              simp [depsE, Region.binds, updE, kindOf, Prp.is, Prp.any] at hd
              go_simp
              first | rfl | (go_at_call 58; refine (HT0.out _).mono ?_; rintro e w1 ⟨rfl, hb1⟩; first | exact ⟨rfl, hb1⟩ | exact ⟨_, rfl, hb1, rfl⟩)
            apply seq_is (by kernel_rfl)
            · intro u wx hb hd
              replace hb := hb.nil
              have hz := hb.size
              (try simp only [World.size_alloc, World.size_setCell] at hz)
              have hz0 : w.heap.size < wx.heap.size := by omega
              have hz1 : w.heap.size + 1 < wx.heap.size := by omega
              have hz2 : w.heap.size + 1 + 1 < wx.heap.size := by omega
              have hz3 : w.heap.size + 1 + 1 + 1 < wx.heap.size := by omega
              obtain ⟨hc, hf⟩ := bcell hb
              clear hb hz
              simp [depsE, Region.binds, updE, kindOf, Prp.is, Prp.any] at hd
              go_simp
              first | rfl | (go_at_call 82; refine (HS0.out _).mono ?_; rintro e w1 ⟨rfl, hb1⟩; first | exact ⟨rfl, hb1⟩ | exact ⟨_, rfl, hb1, rfl⟩)
            apply seq_is (by kernel_rfl)
            · intro u wx hb hd
              replace hb := hb.nil
              have hz := hb.size
              (try simp only [World.size_alloc, World.size_setCell] at hz)
              have hz0 : w.heap.size < wx.heap.size := by omega
              have hz1 : w.heap.size + 1 < wx.heap.size := by omega
              have hz2 : w.heap.size + 1 + 1 < wx.heap.size := by omega
              have hz3 : w.heap.size + 1 + 1 + 1 < wx.heap.size := by omega
              obtain ⟨hc, hf⟩ := bcell hb
              clear hb hz
              simp [depsE, Region.binds, updE, kindOf, Prp.is, Prp.any] at hd
              go_simp
              first | exact ⟨Below.refl _ _, rfl⟩ | rfl
            apply seq_is (by kernel_rfl)
            · intro u wx hb hd
              replace hb := hb.nil
              have hz := hb.size
              (try simp only [World.size_alloc, World.size_setCell] at hz)
              have hz0 : w.heap.size < wx.heap.size := by omega
              have hz1 : w.heap.size + 1 < wx.heap.size := by omega
              have hz2 : w.heap.size + 1 + 1 < wx.heap.size := by omega
              have hz3 : w.heap.size + 1 + 1 + 1 < wx.heap.size := by omega
              obtain ⟨hc, hf⟩ := bcell hb
              clear hb hz
              simp [depsE, Region.binds, updE, kindOf, Prp.is, Prp.any] at hd
              go_simp
              first | exact ⟨Below.refl _ _, rfl⟩ | rfl
            apply seq_is (by kernel_rfl)
            · intro u wx hb hd
              replace hb := hb.nil
              have hz := hb.size
              (try simp only [World.size_alloc, World.size_setCell] at hz)
              have hz0 : w.heap.size < wx.heap.size := by omega
              have hz1 : w.heap.size + 1 < wx.heap.size := by omega
              have hz2 : w.heap.size + 1 + 1 < wx.heap.size := by omega
              have hz3 : w.heap.size + 1 + 1 + 1 < wx.heap.size := by omega
              obtain ⟨hc, hf⟩ := bcell hb
              clear hb hz
              simp [depsE, Region.binds, updE, kindOf, Prp.is, Prp.any] at hd
              go_simp
              first | exact ⟨Below.refl _ _, rfl⟩ | rfl
            apply seq_is (by kernel_rfl)
            · intro u wx hb hd
              replace hb := hb.nil
              have hz := hb.size
              (try simp only [World.size_alloc, World.size_setCell] at hz)
              have hz0 : w.heap.size < wx.heap.size := by omega
              have hz1 : w.heap.size + 1 < wx.heap.size := by omega
              have hz2 : w.heap.size + 1 + 1 < wx.heap.size := by omega
              have hz3 : w.heap.size + 1 + 1 + 1 < wx.heap.size := by omega
              obtain ⟨hc, hf⟩ := bcell hb
              clear hb hz
              simp [depsE, Region.binds, updE, kindOf, Prp.is, Prp.any] at hd
              go_simp
              first | rfl | (go_at_call 58; refine (HT1.out _).mono ?_; rintro e w1 ⟨rfl, hb1⟩; first | exact ⟨rfl, hb1⟩ | exact ⟨_, rfl, hb1, rfl⟩)
            apply seq_is (by kernel_rfl)
            · intro u wx hb hd
              replace hb := hb.nil
              have hz := hb.size
              (try simp only [World.size_alloc, World.size_setCell] at hz)
              have hz0 : w.heap.size < wx.heap.size := by omega
              have hz1 : w.heap.size + 1 < wx.heap.size := by omega
              have hz2 : w.heap.size + 1 + 1 < wx.heap.size := by omega
              have hz3 : w.heap.size + 1 + 1 + 1 < wx.heap.size := by omega
              obtain ⟨hc, hf⟩ := bcell hb
              clear hb hz
              simp [depsE, Region.binds, updE, kindOf, Prp.is, Prp.any] at hd
              go_simp
              first | rfl | (go_at_call 82; refine (HS1.out _).mono ?_; rintro e w1 ⟨rfl, hb1⟩; first | exact ⟨rfl, hb1⟩ | exact ⟨_, rfl, hb1, rfl⟩)
            apply seq_is (by kernel_rfl)
            · intro u wx hb hd
              replace hb := hb.nil
              have hz := hb.size
              (try simp only [World.size_alloc, World.size_setCell] at hz)
              have hz0 : w.heap.size < wx.heap.size := by omega
              have hz1 : w.heap.size + 1 < wx.heap.size := by omega
              have hz2 : w.heap.size + 1 + 1 < wx.heap.size := by omega
              have hz3 : w.heap.size + 1 + 1 + 1 < wx.heap.size := by omega
              obtain ⟨hc, hf⟩ := bcell hb
              clear hb hz
              simp [depsE, Region.binds, updE, kindOf, Prp.is, Prp.any] at hd
              go_simp
              first | exact ⟨Below.refl _ _, rfl⟩ | rfl
            apply seq_is (by kernel_rfl)
            · intro u wx hb hd
              replace hb := hb.nil
              have hz := hb.size
              (try simp only [World.size_alloc, World.size_setCell] at hz)
              have hz0 : w.heap.size < wx.heap.size := by omega
              have hz1 : w.heap.size + 1 < wx.heap.size := by omega
              have hz2 : w.heap.size + 1 + 1 < wx.heap.size := by omega
              have hz3 : w.heap.size + 1 + 1 + 1 < wx.heap.size := by omega
              obtain ⟨hc, hf⟩ := bcell hb
              clear hb hz
              simp [depsE, Region.binds, updE, kindOf, Prp.is, Prp.any] at hd
              go_simp
              first | exact ⟨Below.refl _ _, rfl⟩ | rfl
            apply seq_is (by kernel_rfl)
            · intro u wx hb hd
              replace hb := hb.nil
              have hz := hb.size
              (try simp only [World.size_alloc, World.size_setCell] at hz)
              have hz0 : w.heap.size < wx.heap.size := by omega
              have hz1 : w.heap.size + 1 < wx.heap.size := by omega
              have hz2 : w.heap.size + 1 + 1 < wx.heap.size := by omega
              have hz3 : w.heap.size + 1 + 1 + 1 < wx.heap.size := by omega
              obtain ⟨hc, hf⟩ := bcell hb
              clear hb hz
              simp [depsE, Region.binds, updE, kindOf, Prp.is, Prp.any] at hd
              go_simp
              first | exact ⟨Below.refl _ _, rfl⟩ | rfl
            apply seq_is (by kernel_rfl)
            · intro u wx hb hd
              replace hb := hb.nil
              have hz := hb.size
              (try simp only [World.size_alloc, World.size_setCell] at hz)
              have hz0 : w.heap.size < wx.heap.size := by omega
              have hz1 : w.heap.size + 1 < wx.heap.size := by omega
              have hz2 : w.heap.size + 1 + 1 < wx.heap.size := by omega
              have hz3 : w.heap.size + 1 + 1 + 1 < wx.heap.size := by omega
              obtain ⟨hc, hf⟩ := bcell hb
              clear hb hz
              simp [depsE, Region.binds, updE, kindOf, Prp.is, Prp.any] at hd
              go_simp
              first | exact ⟨Below.refl _ _, rfl⟩ | rfl
            apply seq_is (by kernel_rfl)
            · intro u wx hb hd
              replace hb := hb.nil
              have hz := hb.size
              (try simp only [World.size_alloc, World.size_setCell] at hz)
              have hz0 : w.heap.size < wx.heap.size := by omega
              have hz1 : w.heap.size + 1 < wx.heap.size := by omega
              have hz2 : w.heap.size + 1 + 1 < wx.heap.size := by omega
              have hz3 : w.heap.size + 1 + 1 + 1 < wx.heap.size := by omega
              obtain ⟨hc, hf⟩ := bcell hb
              clear hb hz
              simp [depsE, Region.binds, updE, kindOf, Prp.is, Prp.any] at hd
              go_simp
              first | exact ⟨Below.refl _ _, rfl⟩ | rfl
            apply seq_is (by kernel_rfl)
            · intro u wx hb hd
              replace hb := hb.nil
              have hz := hb.size
              (try simp only [World.size_alloc, World.size_setCell] at hz)
              have hz0 : w.heap.size < wx.heap.size := by omega
              have hz1 : w.heap.size + 1 < wx.heap.size := by omega
              have hz2 : w.heap.size + 1 + 1 < wx.heap.size := by omega
              have hz3 : w.heap.size + 1 + 1 + 1 < wx.heap.size := by omega
              obtain ⟨hc, hf⟩ := bcell hb
              clear hb hz
              simp [depsE, Region.binds, updE, kindOf, Prp.is, Prp.any] at hd
              go_simp
              first | exact ⟨Below.refl _ _, rfl⟩ | rfl
            apply seq_is (by kernel_rfl)
            · intro u wx hb hd
              replace hb := hb.nil
              have hz := hb.size
              (try simp only [World.size_alloc, World.size_setCell] at hz)
              have hz0 : w.heap.size < wx.heap.size := by omega
              have hz1 : w.heap.size + 1 < wx.heap.size := by omega
              have hz2 : w.heap.size + 1 + 1 < wx.heap.size := by omega
              have hz3 : w.heap.size + 1 + 1 + 1 < wx.heap.size := by omega
              obtain ⟨hc, hf⟩ := bcell hb
              clear hb hz
              simp [depsE, Region.binds, updE, kindOf, Prp.is, Prp.any] at hd
              go_simp
              first | rfl | (go_at_call 58; refine (HT2.out _).mono ?_; rintro e w1 ⟨rfl, hb1⟩; first | exact ⟨rfl, hb1⟩ | exact ⟨_, rfl, hb1, rfl⟩)
            apply seq_is (by kernel_rfl)
            · intro u wx hb hd
              replace hb := hb.nil
              have hz := hb.size
              (try simp only [World.size_alloc, World.size_setCell] at hz)
              have hz0 : w.heap.size < wx.heap.size := by omega
              have hz1 : w.heap.size + 1 < wx.heap.size := by omega
              have hz2 : w.heap.size + 1 + 1 < wx.heap.size := by omega
              have hz3 : w.heap.size + 1 + 1 + 1 < wx.heap.size := by omega
              obtain ⟨hc, hf⟩ := bcell hb
              clear hb hz
              simp [depsE, Region.binds, updE, kindOf, Prp.is, Prp.any] at hd
              go_simp
              first | rfl | (go_at_call 82; refine (HS2.out _).mono ?_; rintro e w1 ⟨rfl, hb1⟩; first | exact ⟨rfl, hb1⟩ | exact ⟨_, rfl, hb1, rfl⟩)
            apply seq_is (by kernel_rfl)
            · intro u wx hb hd
              replace hb := hb.nil
              have hz := hb.size
              (try simp only [World.size_alloc, World.size_setCell] at hz)
              have hz0 : w.heap.size < wx.heap.size := by omega
              have hz1 : w.heap.size + 1 < wx.heap.size := by omega
              have hz2 : w.heap.size + 1 + 1 < wx.heap.size := by omega
              have hz3 : w.heap.size + 1 + 1 + 1 < wx.heap.size := by omega
              obtain ⟨hc, hf⟩ := bcell hb
              clear hb hz
              simp [depsE, Region.binds, updE, kindOf, Prp.is, Prp.any] at hd
              go_simp
              first | exact ⟨Below.refl _ _, rfl⟩ | rfl
            apply seq_is (by kernel_rfl)
            · intro u wx hb hd
              replace hb := hb.nil
              have hz := hb.size
              (try simp only [World.size_alloc, World.size_setCell] at hz)
              have hz0 : w.heap.size < wx.heap.size := by omega
              have hz1 : w.heap.size + 1 < wx.heap.size := by omega
              have hz2 : w.heap.size + 1 + 1 < wx.heap.size := by omega
              have hz3 : w.heap.size + 1 + 1 + 1 < wx.heap.size := by omega
              obtain ⟨hc, hf⟩ := bcell hb
              clear hb hz
              simp [depsE, Region.binds, updE, kindOf, Prp.is, Prp.any] at hd
              go_simp
              first | exact ⟨Below.refl _ _, rfl⟩ | rfl
            apply seq_is (by kernel_rfl)
            · intro u wx hb hd
              replace hb := hb.nil
              have hz := hb.size
              (try simp only [World.size_alloc, World.size_setCell] at hz)
              have hz0 : w.heap.size < wx.heap.size := by omega
              have hz1 : w.heap.size + 1 < wx.heap.size := by omega
              have hz2 : w.heap.size + 1 + 1 < wx.heap.size := by omega
              have hz3 : w.heap.size + 1 + 1 + 1 < wx.heap.size := by omega
              obtain ⟨hc, hf⟩ := bcell hb
              clear hb hz
              simp [depsE, Region.binds, updE, kindOf, Prp.is, Prp.any] at hd
              go_simp
              first | exact ⟨Below.refl _ _, rfl⟩ | rfl
            apply seq_is (by kernel_rfl)
            · intro u wx hb hd
              replace hb := hb.nil
              have hz := hb.size
              (try simp only [World.size_alloc, World.size_setCell] at hz)
              have hz0 : w.heap.size < wx.heap.size := by omega
              have hz1 : w.heap.size + 1 < wx.heap.size := by omega
              have hz2 : w.heap.size + 1 + 1 < wx.heap.size := by omega
              have hz3 : w.heap.size + 1 + 1 + 1 < wx.heap.size := by omega
              obtain ⟨hc, hf⟩ := bcell hb
              clear hb hz
              simp [depsE, Region.binds, updE, kindOf, Prp.is, Prp.any] at hd
              go_simp
              first | rfl | (go_at_call 58; refine (HT3.out _).mono ?_; rintro e w1 ⟨rfl, hb1⟩; first | exact ⟨rfl, hb1⟩ | exact ⟨_, rfl, hb1, rfl⟩)
            apply seq_is (by kernel_rfl)
            · intro u wx hb hd
              replace hb := hb.nil
              have hz := hb.size
              (try simp only [World.size_alloc, World.size_setCell] at hz)
              have hz0 : w.heap.size < wx.heap.size := by omega
              have hz1 : w.heap.size + 1 < wx.heap.size := by omega
              have hz2 : w.heap.size + 1 + 1 < wx.heap.size := by omega
              have hz3 : w.heap.size + 1 + 1 + 1 < wx.heap.size := by omega
              obtain ⟨hc, hf⟩ := bcell hb
              clear hb hz
              simp [depsE, Region.binds, updE, kindOf, Prp.is, Prp.any] at hd
              go_simp
              first | rfl | (go_at_call 82; refine (HS3.out _).mono ?_; rintro e w1 ⟨rfl, hb1⟩; first | exact ⟨rfl, hb1⟩ | exact ⟨_, rfl, hb1, rfl⟩)
            apply seq_is (by kernel_rfl)
            · intro u wx hb hd
              replace hb := hb.nil
              have hz := hb.size
              (try simp only [World.size_alloc, World.size_setCell] at hz)
              have hz0 : w.heap.size < wx.heap.size := by omega
              have hz1 : w.heap.size + 1 < wx.heap.size := by omega
              have hz2 : w.heap.size + 1 + 1 < wx.heap.size := by omega
              have hz3 : w.heap.size + 1 + 1 + 1 < wx.heap.size := by omega
              obtain ⟨hc, hf⟩ := bcell hb
              clear hb hz
              simp [depsE, Region.binds, updE, kindOf, Prp.is, Prp.any] at hd
              go_simp
              first | exact ⟨Below.refl _ _, rfl⟩ | rfl
            apply seq_is (by kernel_rfl)
            · intro u wx hb hd
              replace hb := hb.nil
              have hz := hb.size
              (try simp only [World.size_alloc, World.size_setCell] at hz)
              have hz0 : w.heap.size < wx.heap.size := by omega
              have hz1 : w.heap.size + 1 < wx.heap.size := by omega
              have hz2 : w.heap.size + 1 + 1 < wx.heap.size := by omega
              have hz3 : w.heap.size + 1 + 1 + 1 < wx.heap.size := by omega
              obtain ⟨hc, hf⟩ := bcell hb
              clear hb hz
              simp [depsE, Region.binds, updE, kindOf, Prp.is, Prp.any] at hd
              go_simp
              first | exact ⟨Below.refl _ _, rfl⟩ | rfl
            apply seq_is (by kernel_rfl)
            · intro u wx hb hd
              replace hb := hb.nil
              have hz := hb.size
              (try simp only [World.size_alloc, World.size_setCell] at hz)
              have hz0 : w.heap.size < wx.heap.size := by omega
              have hz1 : w.heap.size + 1 < wx.heap.size := by omega
              have hz2 : w.heap.size + 1 + 1 < wx.heap.size := by omega
              have hz3 : w.heap.size + 1 + 1 + 1 < wx.heap.size := by omega
              obtain ⟨hc, hf⟩ := bcell hb
              clear hb hz
              simp [depsE, Region.binds, updE, kindOf, Prp.is, Prp.any] at hd
              go_simp
              first | exact ⟨Below.refl _ _, rfl⟩ | rfl
            apply seq_is (by kernel_rfl)
            · intro u wx hb hd
              replace hb := hb.nil
              have hz := hb.size
              (try simp only [World.size_alloc, World.size_setCell] at hz)
              have hz0 : w.heap.size < wx.heap.size := by omega
              have hz1 : w.heap.size + 1 < wx.heap.size := by omega
              have hz2 : w.heap.size + 1 + 1 < wx.heap.size := by omega
              have hz3 : w.heap.size + 1 + 1 + 1 < wx.heap.size := by omega
              obtain ⟨hc, hf⟩ := bcell hb
              clear hb hz
              simp [depsE, Region.binds, updE, kindOf, Prp.is, Prp.any] at hd
              go_simp
              first | exact ⟨Below.refl _ _, rfl⟩ | rfl
            intro u w5 hb hE hV hP
            replace hb := hb.nil
            clear hP
            have e0 : u 0 = _ := endE_get hE 0 (by decide) (by simp [kindOf])
            have e1 : u 1 = _ := endE_get hE 1 (by decide) (by simp [kindOf])
            have e2 : u 2 = _ := endE_get hE 2 (by decide) (by simp [kindOf])
            have e3 : u 3 = _ := endE_get hE 3 (by decide) (by simp [kindOf])
            have e4 : u 4 = _ := endE_get hE 4 (by decide) (by simp [kindOf])
            have e5 : u 5 = _ := endE_get hE 5 (by decide) (by simp [kindOf])
            have e6 : u 6 = _ := endE_get hE 6 (by decide) (by simp [kindOf])
            have e7 : u 7 = _ := endE_get hE 7 (by decide) (by simp [kindOf])
            have e8 : u 8 = _ := endE_get hE 8 (by decide) (by simp [kindOf])
            have e9 : u 9 = _ := endE_get hE 9 (by decide) (by simp [kindOf])
            have e10 : u 10 = _ := endE_get hE 10 (by decide) (by simp [kindOf])
            have e11 : u 11 = _ := endE_get hE 11 (by decide) (by simp [kindOf])
            have e12 : u 12 = _ := endE_get hE 12 (by decide) (by simp [kindOf])
            have e13 : u 13 = _ := endE_get hE 13 (by decide) (by simp [kindOf])
            have e14 : u 14 = _ := endE_get hE 14 (by decide) (by simp [kindOf])
            have e15 : u 15 = _ := endE_get hE 15 (by decide) (by simp [kindOf])
            have e16 : u 16 = _ := endE_get hE 16 (by decide) (by simp [kindOf])
            have e17 : u 17 = _ := endE_get hE 17 (by decide) (by simp [kindOf])
            have e18 : u 18 = _ := endE_get hE 18 (by decide) (by simp [kindOf])
            have e19 : u 19 = _ := endE_get hE 19 (by decide) (by simp [kindOf])
            have e20 : u 20 = _ := endE_get hE 20 (by decide) (by simp [kindOf])
            have e21 : u 21 = _ := endE_get hE 21 (by decide) (by simp [kindOf])
            have e22 : u 22 = _ := endE_get hE 22 (by decide) (by simp [kindOf])
            have e23 : u 23 = _ := endE_get hE 23 (by decide) (by simp [kindOf])
            have e24 : u 24 = _ := endE_get hE 24 (by decide) (by simp [kindOf])
            have e25 : u 25 = _ := endE_get hE 25 (by decide) (by simp [kindOf])
            have e26 : u 26 = _ := endE_get hE 26 (by decide) (by simp [kindOf])
            clear hV
            simp only [List.drop_succ_cons, List.drop_zero, List.take_succ_cons, List.take_zero, fillL, Act.put, List.setIfInBounds_toArray, List.set_cons_zero, List.set_cons_succ, e0, e1, e2, e3, e4, e5, e6, e7, e8, e9, e10, e11, e12, e13, e14, e15, e16, e17, e18, e19, e20, e21, e22, e23, e24, e25, e26]
            clear e0 e1 e2 e3 e4 e5 e6 e7 e8 e9 e10 e11 e12 e13 e14 e15 e16 e17 e18 e19 e20 e21 e22 e23 e24 e25 e26 hE
            have HBWw5 := Lib.hid hb
            have hw5 := below_step (w := w) (by first | assumption | go_grown) hb
            have hzw5 := hb.size
            (try simp only [World.size_alloc, World.size_setCell] at hzw5)
            have hzw50 : w.heap.size < w5.heap.size := by omega
            have hzw51 : w.heap.size + 1 < w5.heap.size := by omega
            have hzw52 : w.heap.size + 1 + 1 < w5.heap.size := by omega
            have hzw53 : w.heap.size + 1 + 1 + 1 < w5.heap.size := by omega
            have HHw5 := Lib.hid hb.block
            obtain ⟨hcw5, hfw5⟩ := bcell hb
            clear hb hzw5
            go_wp2
            go_returns
            exact ⟨rfl, by first | assumption | go_grown⟩
set_option maxHeartbeats 4000000 in
set_option maxRecDepth 20000 in
theorem meet13_any (a1 a2 b1 b2 c1 c2 d1 d2 : Int) (w : World) (ha : Nr (a1, a2)) (hb : Nr (b1, b2)) (hc : Nr (c1, c2)) (hd : Nr (d1, d2)) : Calls Tryd.prog 55 #[.agg #[.int .i64 a1, .int .i64 a2], .agg #[.int .i64 b1, .int .i64 b2], .agg #[.int .i64 c1, .int .i64 c2], .agg #[.int .i64 d1, .int .i64 d2]] w fun e w' => e = .returned (.bool (decide (meets (a1, a2) (b1, b2) (c1, c2) (d1, d2)))) ∧ Below w.heap.size w w' := by
  rw [meets_dec]
  obtain ⟨o0, ho0⟩ : ∃ e, decide (onS (a1, a2) (b1, b2) (c1, c2)) = e := ⟨_, rfl⟩
  have HO0 : ∀ W, Calls Tryd.prog 71 #[.agg #[.int .i64 a1, .int .i64 a2], .agg #[.int .i64 b1, .int .i64 b2], .agg #[.int .i64 c1, .int .i64 c2]] W (fun e w' => e = .returned (.bool o0) ∧ Below W.heap.size W w') := fun W => by rw [← ho0]; exact on13_any a1 a2 b1 b2 c1 c2 W ha hb hc
  rw [ho0]
  clear ho0
  replace HO0 := Lib.hid HO0
  obtain ⟨o1, ho1⟩ : ∃ e, decide (onS (a1, a2) (b1, b2) (d1, d2)) = e := ⟨_, rfl⟩
  have HO1 : ∀ W, Calls Tryd.prog 71 #[.agg #[.int .i64 a1, .int .i64 a2], .agg #[.int .i64 b1, .int .i64 b2], .agg #[.int .i64 d1, .int .i64 d2]] W (fun e w' => e = .returned (.bool o1) ∧ Below W.heap.size W w') := fun W => by rw [← ho1]; exact on13_any a1 a2 b1 b2 d1 d2 W ha hb hd
  rw [ho1]
  clear ho1
  replace HO1 := Lib.hid HO1
  obtain ⟨o2, ho2⟩ : ∃ e, decide (onS (c1, c2) (d1, d2) (a1, a2)) = e := ⟨_, rfl⟩
  have HO2 : ∀ W, Calls Tryd.prog 71 #[.agg #[.int .i64 c1, .int .i64 c2], .agg #[.int .i64 d1, .int .i64 d2], .agg #[.int .i64 a1, .int .i64 a2]] W (fun e w' => e = .returned (.bool o2) ∧ Below W.heap.size W w') := fun W => by rw [← ho2]; exact on13_any c1 c2 d1 d2 a1 a2 W hc hd ha
  rw [ho2]
  clear ho2
  replace HO2 := Lib.hid HO2
  obtain ⟨o3, ho3⟩ : ∃ e, decide (onS (c1, c2) (d1, d2) (b1, b2)) = e := ⟨_, rfl⟩
  have HO3 : ∀ W, Calls Tryd.prog 71 #[.agg #[.int .i64 c1, .int .i64 c2], .agg #[.int .i64 d1, .int .i64 d2], .agg #[.int .i64 b1, .int .i64 b2]] W (fun e w' => e = .returned (.bool o3) ∧ Below W.heap.size W w') := fun W => by rw [← ho3]; exact on13_any c1 c2 d1 d2 b1 b2 W hc hd hb
  rw [ho3]
  clear ho3
  replace HO3 := Lib.hid HO3
  have m1 := sg_mul (crs (a1, a2) (b1, b2) (c1, c2)) (crs (a1, a2) (b1, b2) (d1, d2))
  have m2 := sg_mul (crs (c1, c2) (d1, d2) (a1, a2)) (crs (c1, c2) (d1, d2) (b1, b2))
  obtain ⟨s0, hs0⟩ : ∃ e, sgI (crs (a1, a2) (b1, b2) (c1, c2)) = e := ⟨_, rfl⟩
  have HT0 : ∀ W, Calls Tryd.prog 72 #[.agg #[.int .i64 a1, .int .i64 a2], .agg #[.int .i64 b1, .int .i64 b2], .agg #[.int .i64 c1, .int .i64 c2]] W (fun e w' => e = .returned (.int .i64 s0) ∧ Below W.heap.size W w') := fun W => by rw [← hs0]; exact turn13_any a1 a2 b1 b2 c1 c2 W ha hb hc
  rw [hs0]
  rw [hs0] at m1
  clear hs0
  replace HT0 := Lib.hid HT0
  obtain ⟨s1, hs1⟩ : ∃ e, sgI (crs (a1, a2) (b1, b2) (d1, d2)) = e := ⟨_, rfl⟩
  have HT1 : ∀ W, Calls Tryd.prog 72 #[.agg #[.int .i64 a1, .int .i64 a2], .agg #[.int .i64 b1, .int .i64 b2], .agg #[.int .i64 d1, .int .i64 d2]] W (fun e w' => e = .returned (.int .i64 s1) ∧ Below W.heap.size W w') := fun W => by rw [← hs1]; exact turn13_any a1 a2 b1 b2 d1 d2 W ha hb hd
  rw [hs1]
  rw [hs1] at m1
  clear hs1
  replace HT1 := Lib.hid HT1
  obtain ⟨s2, hs2⟩ : ∃ e, sgI (crs (c1, c2) (d1, d2) (a1, a2)) = e := ⟨_, rfl⟩
  have HT2 : ∀ W, Calls Tryd.prog 72 #[.agg #[.int .i64 c1, .int .i64 c2], .agg #[.int .i64 d1, .int .i64 d2], .agg #[.int .i64 a1, .int .i64 a2]] W (fun e w' => e = .returned (.int .i64 s2) ∧ Below W.heap.size W w') := fun W => by rw [← hs2]; exact turn13_any c1 c2 d1 d2 a1 a2 W hc hd ha
  rw [hs2]
  rw [hs2] at m2
  clear hs2
  replace HT2 := Lib.hid HT2
  obtain ⟨s3, hs3⟩ : ∃ e, sgI (crs (c1, c2) (d1, d2) (b1, b2)) = e := ⟨_, rfl⟩
  have HT3 : ∀ W, Calls Tryd.prog 72 #[.agg #[.int .i64 c1, .int .i64 c2], .agg #[.int .i64 d1, .int .i64 d2], .agg #[.int .i64 b1, .int .i64 b2]] W (fun e w' => e = .returned (.int .i64 s3) ∧ Below W.heap.size W w') := fun W => by rw [← hs3]; exact turn13_any c1 c2 d1 d2 b1 b2 W hc hd hb
  rw [hs3]
  rw [hs3] at m2
  clear hs3
  replace HT3 := Lib.hid HT3
  clear ha hb hc hd
  obtain ⟨p1, hp1⟩ : ∃ e, s0 * s1 = e := ⟨_, rfl⟩
  obtain ⟨p2, hp2⟩ : ∃ e, s2 * s3 = e := ⟨_, rfl⟩
  rw [hp1] at m1
  rw [hp2] at m2
  have wr1 : IntKind.i64.wrap (s0 * s1) = p1 := by rw [hp1]; exact IntWalk.i64_in _ (by omega)
  have wr2 : IntKind.i64.wrap (s2 * s3) = p2 := by rw [hp2]; exact IntWalk.i64_in _ (by omega)
  rw [hp1, hp2]
  clear hp1 hp2 m1 m2
  obtain ⟨n1, hn1⟩ : ∃ e, decide (p1 < 0) = e := ⟨_, rfl⟩
  rw [hn1]
  go_enter Tryd.func55, Tryd.ntmps55
  go_wp2_with fail
  (go_at_call 71; refine (HO0.out _).mono ?_; rintro e_ w1 ⟨rfl, hb1⟩)
  have HB1 := Lib.hid (below_step (w := w) (by first | assumption | go_grown) hb1)
  have hs1 := hb1.size
  (try simp only [World.size_alloc, World.size_setCell] at hs1)
  have K0 : w1.heap[w.heap.size]? = some (.cells #[.int .i64 a1, .int .i64 a2] 37) := (hb1.block (w.heap.size) (by first | omega | (simp; done) | (simp <;> omega))).trans (by first | exact heapA_at _ _ _ (by first | rfl | (simp; done)) | exact (heapA_old _ _ _ (by simp <;> omega)).trans (heapA_at _ _ _ (by first | rfl | (simp; done))) | exact (heapA_old _ _ _ (by simp <;> omega)).trans ((heapA_old _ _ _ (by simp <;> omega)).trans (heapA_at _ _ _ (by first | rfl | (simp; done)))) | exact (heapA_old _ _ _ (by simp <;> omega)).trans ((heapA_old _ _ _ (by simp <;> omega)).trans ((heapA_old _ _ _ (by simp <;> omega)).trans (heapA_at _ _ _ (by first | rfl | (simp; done))))))
  obtain ⟨u01, v01, x01, y01⟩ := cells_at2 K0
  have HK01 := Lib.hid K0
  clear K0
  have K1 : w1.heap[w.heap.size + 1]? = some (.cells #[.int .i64 b1, .int .i64 b2] 37) := (hb1.block (w.heap.size + 1) (by first | omega | (simp; done) | (simp <;> omega))).trans (by first | exact heapA_at _ _ _ (by first | rfl | (simp; done)) | exact (heapA_old _ _ _ (by simp <;> omega)).trans (heapA_at _ _ _ (by first | rfl | (simp; done))) | exact (heapA_old _ _ _ (by simp <;> omega)).trans ((heapA_old _ _ _ (by simp <;> omega)).trans (heapA_at _ _ _ (by first | rfl | (simp; done)))) | exact (heapA_old _ _ _ (by simp <;> omega)).trans ((heapA_old _ _ _ (by simp <;> omega)).trans ((heapA_old _ _ _ (by simp <;> omega)).trans (heapA_at _ _ _ (by first | rfl | (simp; done))))))
  obtain ⟨u11, v11, x11, y11⟩ := cells_at2 K1
  have HK11 := Lib.hid K1
  clear K1
  have K2 : w1.heap[w.heap.size + 1 + 1]? = some (.cells #[.int .i64 c1, .int .i64 c2] 37) := (hb1.block (w.heap.size + 1 + 1) (by first | omega | (simp; done) | (simp <;> omega))).trans (by first | exact heapA_at _ _ _ (by first | rfl | (simp; done)) | exact (heapA_old _ _ _ (by simp <;> omega)).trans (heapA_at _ _ _ (by first | rfl | (simp; done))) | exact (heapA_old _ _ _ (by simp <;> omega)).trans ((heapA_old _ _ _ (by simp <;> omega)).trans (heapA_at _ _ _ (by first | rfl | (simp; done)))) | exact (heapA_old _ _ _ (by simp <;> omega)).trans ((heapA_old _ _ _ (by simp <;> omega)).trans ((heapA_old _ _ _ (by simp <;> omega)).trans (heapA_at _ _ _ (by first | rfl | (simp; done))))))
  obtain ⟨u21, v21, x21, y21⟩ := cells_at2 K2
  have HK21 := Lib.hid K2
  clear K2
  have K3 : w1.heap[w.heap.size + 1 + 1 + 1]? = some (.cells #[.int .i64 d1, .int .i64 d2] 37) := (hb1.block (w.heap.size + 1 + 1 + 1) (by first | omega | (simp; done) | (simp <;> omega))).trans (by first | exact heapA_at _ _ _ (by first | rfl | (simp; done)) | exact (heapA_old _ _ _ (by simp <;> omega)).trans (heapA_at _ _ _ (by first | rfl | (simp; done))) | exact (heapA_old _ _ _ (by simp <;> omega)).trans ((heapA_old _ _ _ (by simp <;> omega)).trans (heapA_at _ _ _ (by first | rfl | (simp; done)))) | exact (heapA_old _ _ _ (by simp <;> omega)).trans ((heapA_old _ _ _ (by simp <;> omega)).trans ((heapA_old _ _ _ (by simp <;> omega)).trans (heapA_at _ _ _ (by first | rfl | (simp; done))))))
  obtain ⟨u31, v31, x31, y31⟩ := cells_at2 K3
  have HK31 := Lib.hid K3
  clear K3
  clear hb1
  cases o0 with
  | true =>
    go_wp2
    go_returns
    exact ⟨by first | rfl | (cases o1 <;> cases o2 <;> cases o3 <;> rfl), by first | exact HB1.out | go_grown⟩
  | false =>
    go_wp2_with fail
    (go_at_call 71; refine (HO1.out _).mono ?_; rintro e_ w2 ⟨rfl, hb2⟩)
    have HB2 := Lib.hid (below_step (w := w) (by first | assumption | go_grown) hb2)
    have hs2 := hb2.size
    (try simp only [World.size_alloc, World.size_setCell] at hs2)
    have K0 : w2.heap[w.heap.size]? = some (.cells #[.int .i64 a1, .int .i64 a2] 37) := (hb2.block (w.heap.size) (by first | omega | (simp; done) | (simp <;> omega))).trans HK01.out
    obtain ⟨u02, v02, x02, y02⟩ := cells_at2 K0
    have HK02 := Lib.hid K0
    clear K0
    have K1 : w2.heap[w.heap.size + 1]? = some (.cells #[.int .i64 b1, .int .i64 b2] 37) := (hb2.block (w.heap.size + 1) (by first | omega | (simp; done) | (simp <;> omega))).trans HK11.out
    obtain ⟨u12, v12, x12, y12⟩ := cells_at2 K1
    have HK12 := Lib.hid K1
    clear K1
    have K2 : w2.heap[w.heap.size + 1 + 1]? = some (.cells #[.int .i64 c1, .int .i64 c2] 37) := (hb2.block (w.heap.size + 1 + 1) (by first | omega | (simp; done) | (simp <;> omega))).trans HK21.out
    obtain ⟨u22, v22, x22, y22⟩ := cells_at2 K2
    have HK22 := Lib.hid K2
    clear K2
    have K3 : w2.heap[w.heap.size + 1 + 1 + 1]? = some (.cells #[.int .i64 d1, .int .i64 d2] 37) := (hb2.block (w.heap.size + 1 + 1 + 1) (by first | omega | (simp; done) | (simp <;> omega))).trans HK31.out
    obtain ⟨u32, v32, x32, y32⟩ := cells_at2 K3
    have HK32 := Lib.hid K3
    clear K3
    clear u01 v01 x01 y01 u11 v11 x11 y11 u21 v21 x21 y21 u31 v31 x31 y31 HB1
    clear hb2
    cases o1 with
    | true =>
      go_wp2
      go_returns
      exact ⟨by first | rfl | (cases o2 <;> cases o3 <;> rfl), by first | exact HB2.out | go_grown⟩
    | false =>
      go_wp2_with fail
      (go_at_call 71; refine (HO2.out _).mono ?_; rintro e_ w3 ⟨rfl, hb3⟩)
      have HB3 := Lib.hid (below_step (w := w) (by first | assumption | go_grown) hb3)
      have hs3 := hb3.size
      (try simp only [World.size_alloc, World.size_setCell] at hs3)
      have K0 : w3.heap[w.heap.size]? = some (.cells #[.int .i64 a1, .int .i64 a2] 37) := (hb3.block (w.heap.size) (by first | omega | (simp; done) | (simp <;> omega))).trans HK02.out
      obtain ⟨u03, v03, x03, y03⟩ := cells_at2 K0
      have HK03 := Lib.hid K0
      clear K0
      have K1 : w3.heap[w.heap.size + 1]? = some (.cells #[.int .i64 b1, .int .i64 b2] 37) := (hb3.block (w.heap.size + 1) (by first | omega | (simp; done) | (simp <;> omega))).trans HK12.out
      obtain ⟨u13, v13, x13, y13⟩ := cells_at2 K1
      have HK13 := Lib.hid K1
      clear K1
      have K2 : w3.heap[w.heap.size + 1 + 1]? = some (.cells #[.int .i64 c1, .int .i64 c2] 37) := (hb3.block (w.heap.size + 1 + 1) (by first | omega | (simp; done) | (simp <;> omega))).trans HK22.out
      obtain ⟨u23, v23, x23, y23⟩ := cells_at2 K2
      have HK23 := Lib.hid K2
      clear K2
      have K3 : w3.heap[w.heap.size + 1 + 1 + 1]? = some (.cells #[.int .i64 d1, .int .i64 d2] 37) := (hb3.block (w.heap.size + 1 + 1 + 1) (by first | omega | (simp; done) | (simp <;> omega))).trans HK32.out
      obtain ⟨u33, v33, x33, y33⟩ := cells_at2 K3
      have HK33 := Lib.hid K3
      clear K3
      clear u02 v02 x02 y02 u12 v12 x12 y12 u22 v22 x22 y22 u32 v32 x32 y32 HB2
      clear hb3
      cases o2 with
      | true =>
        go_wp2
        go_returns
        exact ⟨by first | rfl | (cases o3 <;> rfl), by first | exact HB3.out | go_grown⟩
      | false =>
        go_wp2_with fail
        (go_at_call 71; refine (HO3.out _).mono ?_; rintro e_ w4 ⟨rfl, hb4⟩)
        have HB4 := Lib.hid (below_step (w := w) (by first | assumption | go_grown) hb4)
        have hs4 := hb4.size
        (try simp only [World.size_alloc, World.size_setCell] at hs4)
        have K0 : w4.heap[w.heap.size]? = some (.cells #[.int .i64 a1, .int .i64 a2] 37) := (hb4.block (w.heap.size) (by first | omega | (simp; done) | (simp <;> omega))).trans HK03.out
        obtain ⟨u04, v04, x04, y04⟩ := cells_at2 K0
        have HK04 := Lib.hid K0
        clear K0
        have K1 : w4.heap[w.heap.size + 1]? = some (.cells #[.int .i64 b1, .int .i64 b2] 37) := (hb4.block (w.heap.size + 1) (by first | omega | (simp; done) | (simp <;> omega))).trans HK13.out
        obtain ⟨u14, v14, x14, y14⟩ := cells_at2 K1
        have HK14 := Lib.hid K1
        clear K1
        have K2 : w4.heap[w.heap.size + 1 + 1]? = some (.cells #[.int .i64 c1, .int .i64 c2] 37) := (hb4.block (w.heap.size + 1 + 1) (by first | omega | (simp; done) | (simp <;> omega))).trans HK23.out
        obtain ⟨u24, v24, x24, y24⟩ := cells_at2 K2
        have HK24 := Lib.hid K2
        clear K2
        have K3 : w4.heap[w.heap.size + 1 + 1 + 1]? = some (.cells #[.int .i64 d1, .int .i64 d2] 37) := (hb4.block (w.heap.size + 1 + 1 + 1) (by first | omega | (simp; done) | (simp <;> omega))).trans HK33.out
        obtain ⟨u34, v34, x34, y34⟩ := cells_at2 K3
        have HK34 := Lib.hid K3
        clear K3
        clear u03 v03 x03 y03 u13 v13 x13 y13 u23 v23 x23 y23 u33 v33 x33 y33 HB3
        clear hb4
        cases o3 with
        | true =>
          go_wp2
          go_returns
          exact ⟨by first | rfl, by first | exact HB4.out | go_grown⟩
        | false =>
          cases n1
          all_goals
            go_wp2_with fail
            refine wp_region_seq 23 [] [] (by kernel_rfl) (by kernel_rfl) (by kernel_rfl) (by kernel_rfl) (by kernel_rfl) ?_ ?_ ?_
            · intro r hr; cases hr
            · intro r hr; cases hr
            simp only [List.take_succ_cons, List.take_zero, fillL, Act.put, List.setIfInBounds_toArray, List.set_cons_zero, List.set_cons_succ]
            apply seq_is (by kernel_rfl)
            · intro u wx hb hd
              replace hb := hb.nil
              have hz := hb.size
              (try simp only [World.size_alloc, World.size_setCell] at hz)
              have hz0 : w.heap.size < wx.heap.size := by omega
              have hz1 : w.heap.size + 1 < wx.heap.size := by omega
              have hz2 : w.heap.size + 1 + 1 < wx.heap.size := by omega
              have hz3 : w.heap.size + 1 + 1 + 1 < wx.heap.size := by omega
              obtain ⟨hc, hf⟩ := bcell hb
              clear hb hz
              simp [depsE, Region.binds, updE, kindOf, Prp.is, Prp.any] at hd
              go_simp
              first | exact ⟨Below.refl _ _, rfl⟩ | rfl
            apply seq_is (by kernel_rfl)
            · intro u wx hb hd
              replace hb := hb.nil
              have hz := hb.size
              (try simp only [World.size_alloc, World.size_setCell] at hz)
              have hz0 : w.heap.size < wx.heap.size := by omega
              have hz1 : w.heap.size + 1 < wx.heap.size := by omega
              have hz2 : w.heap.size + 1 + 1 < wx.heap.size := by omega
              have hz3 : w.heap.size + 1 + 1 + 1 < wx.heap.size := by omega
              obtain ⟨hc, hf⟩ := bcell hb
              clear hb hz
              simp [depsE, Region.binds, updE, kindOf, Prp.is, Prp.any] at hd
              go_simp
              first | exact ⟨Below.refl _ _, rfl⟩ | rfl
            apply seq_is (by kernel_rfl)
            · intro u wx hb hd
              replace hb := hb.nil
              have hz := hb.size
              (try simp only [World.size_alloc, World.size_setCell] at hz)
              have hz0 : w.heap.size < wx.heap.size := by omega
              have hz1 : w.heap.size + 1 < wx.heap.size := by omega
              have hz2 : w.heap.size + 1 + 1 < wx.heap.size := by omega
              have hz3 : w.heap.size + 1 + 1 + 1 < wx.heap.size := by omega
              obtain ⟨hc, hf⟩ := bcell hb
              clear hb hz
              simp [depsE, Region.binds, updE, kindOf, Prp.is, Prp.any] at hd
              go_simp
              first | exact ⟨Below.refl _ _, rfl⟩ | rfl
            apply seq_is (by kernel_rfl)
            · intro u wx hb hd
              replace hb := hb.nil
              have hz := hb.size
              (try simp only [World.size_alloc, World.size_setCell] at hz)
              have hz0 : w.heap.size < wx.heap.size := by omega
              have hz1 : w.heap.size + 1 < wx.heap.size := by omega
              have hz2 : w.heap.size + 1 + 1 < wx.heap.size := by omega
              have hz3 : w.heap.size + 1 + 1 + 1 < wx.heap.size := by omega
              obtain ⟨hc, hf⟩ := bcell hb
              clear hb hz
              simp [depsE, Region.binds, updE, kindOf, Prp.is, Prp.any] at hd
              go_simp
              first | rfl | (go_at_call 72; refine (HT0.out _).mono ?_; rintro e w1 ⟨rfl, hb1⟩; first | exact ⟨rfl, hb1⟩ | exact ⟨_, rfl, hb1, rfl⟩)
            apply seq_is (by kernel_rfl)
            · intro u wx hb hd
              replace hb := hb.nil
              have hz := hb.size
              (try simp only [World.size_alloc, World.size_setCell] at hz)
              have hz0 : w.heap.size < wx.heap.size := by omega
              have hz1 : w.heap.size + 1 < wx.heap.size := by omega
              have hz2 : w.heap.size + 1 + 1 < wx.heap.size := by omega
              have hz3 : w.heap.size + 1 + 1 + 1 < wx.heap.size := by omega
              obtain ⟨hc, hf⟩ := bcell hb
              clear hb hz
              simp [depsE, Region.binds, updE, kindOf, Prp.is, Prp.any] at hd
              go_simp
              first | exact ⟨Below.refl _ _, rfl⟩ | rfl
            apply seq_is (by kernel_rfl)
            · intro u wx hb hd
              replace hb := hb.nil
              have hz := hb.size
              (try simp only [World.size_alloc, World.size_setCell] at hz)
              have hz0 : w.heap.size < wx.heap.size := by omega
              have hz1 : w.heap.size + 1 < wx.heap.size := by omega
              have hz2 : w.heap.size + 1 + 1 < wx.heap.size := by omega
              have hz3 : w.heap.size + 1 + 1 + 1 < wx.heap.size := by omega
              obtain ⟨hc, hf⟩ := bcell hb
              clear hb hz
              simp [depsE, Region.binds, updE, kindOf, Prp.is, Prp.any] at hd
              go_simp
              first | exact ⟨Below.refl _ _, rfl⟩ | rfl
            apply seq_is (by kernel_rfl)
            · intro u wx hb hd
              replace hb := hb.nil
              have hz := hb.size
              (try simp only [World.size_alloc, World.size_setCell] at hz)
              have hz0 : w.heap.size < wx.heap.size := by omega
              have hz1 : w.heap.size + 1 < wx.heap.size := by omega
              have hz2 : w.heap.size + 1 + 1 < wx.heap.size := by omega
              have hz3 : w.heap.size + 1 + 1 + 1 < wx.heap.size := by omega
              obtain ⟨hc, hf⟩ := bcell hb
              clear hb hz
              simp [depsE, Region.binds, updE, kindOf, Prp.is, Prp.any] at hd
              go_simp
              first | exact ⟨Below.refl _ _, rfl⟩ | rfl
            apply seq_is (by kernel_rfl)
            · intro u wx hb hd
              replace hb := hb.nil
              have hz := hb.size
              (try simp only [World.size_alloc, World.size_setCell] at hz)
              have hz0 : w.heap.size < wx.heap.size := by omega
              have hz1 : w.heap.size + 1 < wx.heap.size := by omega
              have hz2 : w.heap.size + 1 + 1 < wx.heap.size := by omega
              have hz3 : w.heap.size + 1 + 1 + 1 < wx.heap.size := by omega
              obtain ⟨hc, hf⟩ := bcell hb
              clear hb hz
              simp [depsE, Region.binds, updE, kindOf, Prp.is, Prp.any] at hd
              go_simp
              first | rfl | (go_at_call 72; refine (HT1.out _).mono ?_; rintro e w1 ⟨rfl, hb1⟩; first | exact ⟨rfl, hb1⟩ | exact ⟨_, rfl, hb1, rfl⟩)
            apply seq_is (by kernel_rfl)
            · intro u wx hb hd
              replace hb := hb.nil
              have hz := hb.size
              (try simp only [World.size_alloc, World.size_setCell] at hz)
              have hz0 : w.heap.size < wx.heap.size := by omega
              have hz1 : w.heap.size + 1 < wx.heap.size := by omega
              have hz2 : w.heap.size + 1 + 1 < wx.heap.size := by omega
              have hz3 : w.heap.size + 1 + 1 + 1 < wx.heap.size := by omega
              obtain ⟨hc, hf⟩ := bcell hb
              clear hb hz
              simp [depsE, Region.binds, updE, kindOf, Prp.is, Prp.any] at hd
              go_simp
              first | exact ⟨Below.refl _ _, rfl⟩ | rfl
            apply seq_is (by kernel_rfl)
            · intro u wx hb hd
              replace hb := hb.nil
              have hz := hb.size
              (try simp only [World.size_alloc, World.size_setCell] at hz)
              have hz0 : w.heap.size < wx.heap.size := by omega
              have hz1 : w.heap.size + 1 < wx.heap.size := by omega
              have hz2 : w.heap.size + 1 + 1 < wx.heap.size := by omega
              have hz3 : w.heap.size + 1 + 1 + 1 < wx.heap.size := by omega
              obtain ⟨hc, hf⟩ := bcell hb
              clear hb hz
              simp [depsE, Region.binds, updE, kindOf, Prp.is, Prp.any] at hd
              go_simp
              first | exact ⟨Below.refl _ _, rfl⟩ | rfl
            apply seq_is (by kernel_rfl)
            · intro u wx hb hd
              replace hb := hb.nil
              have hz := hb.size
              (try simp only [World.size_alloc, World.size_setCell] at hz)
              have hz0 : w.heap.size < wx.heap.size := by omega
              have hz1 : w.heap.size + 1 < wx.heap.size := by omega
              have hz2 : w.heap.size + 1 + 1 < wx.heap.size := by omega
              have hz3 : w.heap.size + 1 + 1 + 1 < wx.heap.size := by omega
              obtain ⟨hc, hf⟩ := bcell hb
              clear hb hz
              simp [depsE, Region.binds, updE, kindOf, Prp.is, Prp.any] at hd
              go_simp
              first | exact ⟨Below.refl _ _, rfl⟩ | rfl
            apply seq_is (by kernel_rfl)
            · intro u wx hb hd
              replace hb := hb.nil
              have hz := hb.size
              (try simp only [World.size_alloc, World.size_setCell] at hz)
              have hz0 : w.heap.size < wx.heap.size := by omega
              have hz1 : w.heap.size + 1 < wx.heap.size := by omega
              have hz2 : w.heap.size + 1 + 1 < wx.heap.size := by omega
              have hz3 : w.heap.size + 1 + 1 + 1 < wx.heap.size := by omega
              obtain ⟨hc, hf⟩ := bcell hb
              clear hb hz
              simp [depsE, Region.binds, updE, kindOf, Prp.is, Prp.any] at hd
              go_simp
              first | exact ⟨Below.refl _ _, rfl⟩ | rfl
            apply seq_is (by kernel_rfl)
            · intro u wx hb hd
              replace hb := hb.nil
              have hz := hb.size
              (try simp only [World.size_alloc, World.size_setCell] at hz)
              have hz0 : w.heap.size < wx.heap.size := by omega
              have hz1 : w.heap.size + 1 < wx.heap.size := by omega
              have hz2 : w.heap.size + 1 + 1 < wx.heap.size := by omega
              have hz3 : w.heap.size + 1 + 1 + 1 < wx.heap.size := by omega
              obtain ⟨hc, hf⟩ := bcell hb
              clear hb hz
              simp [depsE, Region.binds, updE, kindOf, Prp.is, Prp.any] at hd
              go_simp
              first | exact ⟨Below.refl _ _, rfl⟩ | rfl
            apply seq_is (by kernel_rfl)
            · intro u wx hb hd
              replace hb := hb.nil
              have hz := hb.size
              (try simp only [World.size_alloc, World.size_setCell] at hz)
              have hz0 : w.heap.size < wx.heap.size := by omega
              have hz1 : w.heap.size + 1 < wx.heap.size := by omega
              have hz2 : w.heap.size + 1 + 1 < wx.heap.size := by omega
              have hz3 : w.heap.size + 1 + 1 + 1 < wx.heap.size := by omega
              obtain ⟨hc, hf⟩ := bcell hb
              clear hb hz
              simp [depsE, Region.binds, updE, kindOf, Prp.is, Prp.any] at hd
              go_simp
              first | exact ⟨Below.refl _ _, rfl⟩ | rfl
            apply seq_is (by kernel_rfl)
            · intro u wx hb hd
              replace hb := hb.nil
              have hz := hb.size
              (try simp only [World.size_alloc, World.size_setCell] at hz)
              have hz0 : w.heap.size < wx.heap.size := by omega
              have hz1 : w.heap.size + 1 < wx.heap.size := by omega
              have hz2 : w.heap.size + 1 + 1 < wx.heap.size := by omega
              have hz3 : w.heap.size + 1 + 1 + 1 < wx.heap.size := by omega
              obtain ⟨hc, hf⟩ := bcell hb
              clear hb hz
              simp [depsE, Region.binds, updE, kindOf, Prp.is, Prp.any] at hd
              go_simp
              first | rfl | (go_at_call 72; refine (HT2.out _).mono ?_; rintro e w1 ⟨rfl, hb1⟩; first | exact ⟨rfl, hb1⟩ | exact ⟨_, rfl, hb1, rfl⟩)
            apply seq_is (by kernel_rfl)
            · intro u wx hb hd
              replace hb := hb.nil
              have hz := hb.size
              (try simp only [World.size_alloc, World.size_setCell] at hz)
              have hz0 : w.heap.size < wx.heap.size := by omega
              have hz1 : w.heap.size + 1 < wx.heap.size := by omega
              have hz2 : w.heap.size + 1 + 1 < wx.heap.size := by omega
              have hz3 : w.heap.size + 1 + 1 + 1 < wx.heap.size := by omega
              obtain ⟨hc, hf⟩ := bcell hb
              clear hb hz
              simp [depsE, Region.binds, updE, kindOf, Prp.is, Prp.any] at hd
              go_simp
              first | exact ⟨Below.refl _ _, rfl⟩ | rfl
            apply seq_is (by kernel_rfl)
            · intro u wx hb hd
              replace hb := hb.nil
              have hz := hb.size
              (try simp only [World.size_alloc, World.size_setCell] at hz)
              have hz0 : w.heap.size < wx.heap.size := by omega
              have hz1 : w.heap.size + 1 < wx.heap.size := by omega
              have hz2 : w.heap.size + 1 + 1 < wx.heap.size := by omega
              have hz3 : w.heap.size + 1 + 1 + 1 < wx.heap.size := by omega
              obtain ⟨hc, hf⟩ := bcell hb
              clear hb hz
              simp [depsE, Region.binds, updE, kindOf, Prp.is, Prp.any] at hd
              go_simp
              first | exact ⟨Below.refl _ _, rfl⟩ | rfl
            apply seq_is (by kernel_rfl)
            · intro u wx hb hd
              replace hb := hb.nil
              have hz := hb.size
              (try simp only [World.size_alloc, World.size_setCell] at hz)
              have hz0 : w.heap.size < wx.heap.size := by omega
              have hz1 : w.heap.size + 1 < wx.heap.size := by omega
              have hz2 : w.heap.size + 1 + 1 < wx.heap.size := by omega
              have hz3 : w.heap.size + 1 + 1 + 1 < wx.heap.size := by omega
              obtain ⟨hc, hf⟩ := bcell hb
              clear hb hz
              simp [depsE, Region.binds, updE, kindOf, Prp.is, Prp.any] at hd
              go_simp
              first | exact ⟨Below.refl _ _, rfl⟩ | rfl
            apply seq_is (by kernel_rfl)
            · intro u wx hb hd
              replace hb := hb.nil
              have hz := hb.size
              (try simp only [World.size_alloc, World.size_setCell] at hz)
              have hz0 : w.heap.size < wx.heap.size := by omega
              have hz1 : w.heap.size + 1 < wx.heap.size := by omega
              have hz2 : w.heap.size + 1 + 1 < wx.heap.size := by omega
              have hz3 : w.heap.size + 1 + 1 + 1 < wx.heap.size := by omega
              obtain ⟨hc, hf⟩ := bcell hb
              clear hb hz
              simp [depsE, Region.binds, updE, kindOf, Prp.is, Prp.any] at hd
              go_simp
              first | rfl | (go_at_call 72; refine (HT3.out _).mono ?_; rintro e w1 ⟨rfl, hb1⟩; first | exact ⟨rfl, hb1⟩ | exact ⟨_, rfl, hb1, rfl⟩)
            apply seq_is (by kernel_rfl)
            · intro u wx hb hd
              replace hb := hb.nil
              have hz := hb.size
              (try simp only [World.size_alloc, World.size_setCell] at hz)
              have hz0 : w.heap.size < wx.heap.size := by omega
              have hz1 : w.heap.size + 1 < wx.heap.size := by omega
              have hz2 : w.heap.size + 1 + 1 < wx.heap.size := by omega
              have hz3 : w.heap.size + 1 + 1 + 1 < wx.heap.size := by omega
              obtain ⟨hc, hf⟩ := bcell hb
              clear hb hz
              simp [depsE, Region.binds, updE, kindOf, Prp.is, Prp.any] at hd
              go_simp
              first | exact ⟨Below.refl _ _, rfl⟩ | rfl
            apply seq_is (by kernel_rfl)
            · intro u wx hb hd
              replace hb := hb.nil
              have hz := hb.size
              (try simp only [World.size_alloc, World.size_setCell] at hz)
              have hz0 : w.heap.size < wx.heap.size := by omega
              have hz1 : w.heap.size + 1 < wx.heap.size := by omega
              have hz2 : w.heap.size + 1 + 1 < wx.heap.size := by omega
              have hz3 : w.heap.size + 1 + 1 + 1 < wx.heap.size := by omega
              obtain ⟨hc, hf⟩ := bcell hb
              clear hb hz
              simp [depsE, Region.binds, updE, kindOf, Prp.is, Prp.any] at hd
              go_simp
              first | exact ⟨Below.refl _ _, rfl⟩ | rfl
            apply seq_is (by kernel_rfl)
            · intro u wx hb hd
              replace hb := hb.nil
              have hz := hb.size
              (try simp only [World.size_alloc, World.size_setCell] at hz)
              have hz0 : w.heap.size < wx.heap.size := by omega
              have hz1 : w.heap.size + 1 < wx.heap.size := by omega
              have hz2 : w.heap.size + 1 + 1 < wx.heap.size := by omega
              have hz3 : w.heap.size + 1 + 1 + 1 < wx.heap.size := by omega
              obtain ⟨hc, hf⟩ := bcell hb
              clear hb hz
              simp [depsE, Region.binds, updE, kindOf, Prp.is, Prp.any] at hd
              go_simp
              first | exact ⟨Below.refl _ _, rfl⟩ | rfl
            apply seq_is (by kernel_rfl)
            · intro u wx hb hd
              replace hb := hb.nil
              have hz := hb.size
              (try simp only [World.size_alloc, World.size_setCell] at hz)
              have hz0 : w.heap.size < wx.heap.size := by omega
              have hz1 : w.heap.size + 1 < wx.heap.size := by omega
              have hz2 : w.heap.size + 1 + 1 < wx.heap.size := by omega
              have hz3 : w.heap.size + 1 + 1 + 1 < wx.heap.size := by omega
              obtain ⟨hc, hf⟩ := bcell hb
              clear hb hz
              simp [depsE, Region.binds, updE, kindOf, Prp.is, Prp.any] at hd
              go_simp
              first | exact ⟨Below.refl _ _, rfl⟩ | rfl
            intro u w5 hb hE hV hP
            replace hb := hb.nil
            clear hP
            have e0 : u 0 = _ := endE_get hE 0 (by decide) (by simp [kindOf])
            have e1 : u 1 = _ := endE_get hE 1 (by decide) (by simp [kindOf])
            have e2 : u 2 = _ := endE_get hE 2 (by decide) (by simp [kindOf])
            have e3 : u 3 = _ := endE_get hE 3 (by decide) (by simp [kindOf])
            have e4 : u 4 = _ := endE_get hE 4 (by decide) (by simp [kindOf])
            have e5 : u 5 = _ := endE_get hE 5 (by decide) (by simp [kindOf])
            have e6 : u 6 = _ := endE_get hE 6 (by decide) (by simp [kindOf])
            have e7 : u 7 = _ := endE_get hE 7 (by decide) (by simp [kindOf])
            have e8 : u 8 = _ := endE_get hE 8 (by decide) (by simp [kindOf])
            have e9 : u 9 = _ := endE_get hE 9 (by decide) (by simp [kindOf])
            have e10 : u 10 = _ := endE_get hE 10 (by decide) (by simp [kindOf])
            have e11 : u 11 = _ := endE_get hE 11 (by decide) (by simp [kindOf])
            have e12 : u 12 = _ := endE_get hE 12 (by decide) (by simp [kindOf])
            have e13 : u 13 = _ := endE_get hE 13 (by decide) (by simp [kindOf])
            have e14 : u 14 = _ := endE_get hE 14 (by decide) (by simp [kindOf])
            have e15 : u 15 = _ := endE_get hE 15 (by decide) (by simp [kindOf])
            have e16 : u 16 = _ := endE_get hE 16 (by decide) (by simp [kindOf])
            have e17 : u 17 = _ := endE_get hE 17 (by decide) (by simp [kindOf])
            have e18 : u 18 = _ := endE_get hE 18 (by decide) (by simp [kindOf])
            have e19 : u 19 = _ := endE_get hE 19 (by decide) (by simp [kindOf])
            have e20 : u 20 = _ := endE_get hE 20 (by decide) (by simp [kindOf])
            have e21 : u 21 = _ := endE_get hE 21 (by decide) (by simp [kindOf])
            have e22 : u 22 = _ := endE_get hE 22 (by decide) (by simp [kindOf])
            clear hV
            simp only [List.drop_succ_cons, List.drop_zero, List.take_succ_cons, List.take_zero, fillL, Act.put, List.setIfInBounds_toArray, List.set_cons_zero, List.set_cons_succ, e0, e1, e2, e3, e4, e5, e6, e7, e8, e9, e10, e11, e12, e13, e14, e15, e16, e17, e18, e19, e20, e21, e22]
            clear e0 e1 e2 e3 e4 e5 e6 e7 e8 e9 e10 e11 e12 e13 e14 e15 e16 e17 e18 e19 e20 e21 e22 hE
            have HBWw5 := Lib.hid hb
            have hw5 := below_step (w := w) (by first | assumption | go_grown) hb
            have hzw5 := hb.size
            (try simp only [World.size_alloc, World.size_setCell] at hzw5)
            have hzw50 : w.heap.size < w5.heap.size := by omega
            have hzw51 : w.heap.size + 1 < w5.heap.size := by omega
            have hzw52 : w.heap.size + 1 + 1 < w5.heap.size := by omega
            have hzw53 : w.heap.size + 1 + 1 + 1 < w5.heap.size := by omega
            have HHw5 := Lib.hid hb.block
            obtain ⟨hcw5, hfw5⟩ := bcell hb
            clear hb hzw5
            go_wp2
            go_returns
            exact ⟨rfl, by first | assumption | go_grown⟩
end Go.Proofs.YtgbhhjdmochhpaaDoor
namespace Go.Proofs.YtgbhhjdmochhpaaDoor
open Go Go.RowKit
set_option linter.unusedVariables false

theorem Stored.below {B b : Nat} {a w w' : World} {cs : Array Value} {t : TypeId} (h : Below B a w) (hs : Stored w w' b cs t) (hb : B ≤ b) : Below B a w' :=
  ⟨hs.os.trans h.os, hs.tape.trans h.tape, hs.output.trans h.output, by rw [hs.size]; exact h.size, fun k hk => (hs.other k (by omega)).trans (h.block k hk)⟩
theorem run_loadVar_all {P : Program} {w : World} {t : TypeId} {b k : Nat} {cs : Array Value} {ty : TypeId} {fs : Array Field} (hu : P.underlying t = some (.struct fs)) (hk : (P.info? t).map (fun i => i.size) = some k) (hs : cs.size = k)
    (h : w.heap[b]? = some (.cells cs ty)) : (loadVar t ⟨b, 0, none⟩).run P w = .ok (.agg cs) w := by
  obtain ⟨i, hi, hsz⟩ : ∃ i, P.info? t = some i ∧ i.size = k := by
    cases hi : P.info? t with
    | none => rw [hi] at hk; cases hk
    | some i => rw [hi] at hk; exact ⟨i, rfl, by simpa using hk⟩
  have hl := run_loadCells_list (P := P) w ⟨b, 0, none⟩ cs.toList (fun j v hv => by
    have hadd : (⟨b, 0, none⟩ : Addr).add j = ⟨b, j, none⟩ := by unfold Addr.add; split <;> simp_all
    rw [hadd, cell_of_row w b j cs ty (0, 0) h]
    simpa using hv)
  rw [show cs.toList.length = k by simpa using hs] at hl
  simp [loadVar, isAgg, run_underlying hu, sizeOf, typeInfo, hi, hsz, hl]
theorem wpList_load_all {P : Program} {ops : Array Oper} {rest : List Oper} {a : Act} {w : World} {Q : Exit → Act → World → Prop} {p d : Tmp} {T : TypeId} {pos : String} {after : Array Edge} (t : TypeId) (b k : Nat) (cs : Array Value) (ty : TypeId) (fs : Array Field)
    (hu : P.underlying t = some (.struct fs)) (hk : (P.info? t).map (fun i => i.size) = some k) (hp : a.eval (.tmp p) = .pointer (some ⟨b, 0, none⟩)) (hs : cs.size = k)
    (hh : w.heap[b]? = some (.cells cs ty)) (h : wpList P ops Q rest (a.put (some d) (.agg cs)) w) :
    wpList P ops Q (⟨some d, .load t (.tmp p), T, pos, after, none⟩ :: rest) a w := by
  refine wpList_plain rfl fun K hK => ?_
  have hl := run_loadVar_all (P := P) hu hk hs hh
  unfold Oper.wp execOp
  simp only [hp]
  simp [Instr.loadAt, Instr.sureAddr, hl, Oper.upon]
  exact hK _ _ h
end Go.Proofs.YtgbhhjdmochhpaaDoor
namespace Go.Proofs.YtgbhhjdmochhpaaDoor
open Go Go.ChangeShapes Go.WideShapes Go.RowKit Go.ChangeAt
set_option linter.unusedVariables false
set_option linter.unusedSimpArgs false

def ptV (p : Pt) : Nat → Value
  | 0 => .int .i64 p.1
  | _ => .int .i64 p.2
/-- points in memory -/
def PtsAt (w : World) (v : Value) (n : Nat) (P : Nat → Pt) : Prop := SliceAt w v n 2 (fun i j => ptV (P i) j)
theorem PtsAt.below {w w' : World} {v : Value} {n : Nat} {P : Nat → Pt} (h : PtsAt w v n P) (hb : Below w.heap.size w w') : PtsAt w' v n P := SliceAt.below h hb
theorem PtsAt.form {w : World} {v : Value} {n : Nat} {P : Nat → Pt} (h : PtsAt w v n P) : ∃ (oa : Option Addr) (cap : Nat), v = .slice oa n cap ∧ n ≤ cap ∧ cap ≤ 9223372036854775807 ∧
    ∀ i, i < n → ∃ b off, oa = some ⟨b, off, none⟩ ∧ b < w.heap.size ∧ ∀ k, k < n → w.cell? ⟨b, off + k * 2, none⟩ = some (.int .i64 (P k).1) ∧ w.cell? ⟨b, off + k * 2 + 1, none⟩ = some (.int .i64 (P k).2) := by
  obtain ⟨oa, cap, h1, h2, h3, h4⟩ := h
  refine ⟨oa, cap, h1, h2, h3, fun i hi => ?_⟩
  obtain ⟨b, off, e, hlt, hc⟩ := h4 (by omega)
  exact ⟨b, off, e, hlt, fun k hk => ⟨hc k 0 hk (by decide), hc k 1 hk (by decide)⟩⟩
/-- no coordinate beyond a limit -/
def nearB (L : Int) (p : Pt) : Bool := decide (-L ≤ p.1 ∧ p.1 ≤ L ∧ -L ≤ p.2 ∧ p.2 ≤ L)
theorem nearB_iff {L : Int} {p : Pt} : nearB L p = true ↔ -L ≤ p.1 ∧ p.1 ≤ L ∧ -L ≤ p.2 ∧ p.2 ≤ L := by unfold nearB; exact decide_eq_true_iff
theorem near_nr {p : Pt} (h : nearB 32768 p = true) : Nr p := by
  have := nearB_iff.1 h
  unfold Nr
  omega
theorem farP_any (q1 q2 : Int) (w : World) : Calls Tryd.prog 59 #[.agg #[.int .i64 q1, .int .i64 q2]] w fun e w' => e = .returned (.bool (!nearB 32768 (q1, q2))) ∧ Below w.heap.size w w' := by
  obtain ⟨R, hR⟩ : ∃ R, (!nearB 32768 (q1, q2)) = R := ⟨_, rfl⟩
  rw [hR]
  unfold nearB at hR
  dsimp only at hR
  by_cases h0 : q1 < -32768
  · have e : R = true := by rw [← hR, decide_eq_false (show ¬(-32768 ≤ q1 ∧ q1 ≤ 32768 ∧ -32768 ≤ q2 ∧ q2 ≤ 32768) from by omega)]; rfl
    subst e
    have k0 : decide (q1 < -32768) = true := decide_eq_true h0
    clear hR h0
    go_enter Tryd.func59, Tryd.ntmps59
    go_wp2
    go_returns
    exact ⟨rfl, by go_grown⟩
  · have k0 : decide (q1 < -32768) = false := decide_eq_false h0
    by_cases h1 : 32768 < q1
    · have e : R = true := by rw [← hR, decide_eq_false (show ¬(-32768 ≤ q1 ∧ q1 ≤ 32768 ∧ -32768 ≤ q2 ∧ q2 ≤ 32768) from by omega)]; rfl
      subst e
      have k1 : decide (32768 < q1) = true := decide_eq_true h1
      clear hR h0 h1
      go_enter Tryd.func59, Tryd.ntmps59
      go_wp2
      go_returns
      exact ⟨rfl, by go_grown⟩
    · have k1 : decide (32768 < q1) = false := decide_eq_false h1
      by_cases h2 : q2 < -32768
      · have e : R = true := by rw [← hR, decide_eq_false (show ¬(-32768 ≤ q1 ∧ q1 ≤ 32768 ∧ -32768 ≤ q2 ∧ q2 ≤ 32768) from by omega)]; rfl
        subst e
        have k2 : decide (q2 < -32768) = true := decide_eq_true h2
        clear hR h0 h1 h2
        go_enter Tryd.func59, Tryd.ntmps59
        go_wp2
        go_returns
        exact ⟨rfl, by go_grown⟩
      · have k2 : decide (q2 < -32768) = false := decide_eq_false h2
        by_cases h3 : 32768 < q2
        · have e : R = true := by rw [← hR, decide_eq_false (show ¬(-32768 ≤ q1 ∧ q1 ≤ 32768 ∧ -32768 ≤ q2 ∧ q2 ≤ 32768) from by omega)]; rfl
          subst e
          have k3 : decide (32768 < q2) = true := decide_eq_true h3
          clear hR h0 h1 h2 h3
          go_enter Tryd.func59, Tryd.ntmps59
          go_wp2
          go_returns
          exact ⟨rfl, by go_grown⟩
        · have k3 : decide (32768 < q2) = false := decide_eq_false h3
          have e : R = false := by rw [← hR, decide_eq_true (show -32768 ≤ q1 ∧ q1 ≤ 32768 ∧ -32768 ≤ q2 ∧ q2 ≤ 32768 from ⟨by omega, by omega, by omega, by omega⟩)]; rfl
          subst e
          clear hR h0 h1 h2 h3
          go_enter Tryd.func59, Tryd.ntmps59
          go_wp2
          go_returns
          exact ⟨rfl, by go_grown⟩
theorem farG_any (q1 q2 : Int) (w : World) : Calls Tryd.prog 14 #[.agg #[.int .i64 q1, .int .i64 q2]] w fun e w' => e = .returned (.bool (!nearB 1099511627776 (q1, q2))) ∧ Below w.heap.size w w' := by
  obtain ⟨R, hR⟩ : ∃ R, (!nearB 1099511627776 (q1, q2)) = R := ⟨_, rfl⟩
  rw [hR]
  unfold nearB at hR
  dsimp only at hR
  by_cases h0 : q1 < -1099511627776
  · have e : R = true := by rw [← hR, decide_eq_false (show ¬(-1099511627776 ≤ q1 ∧ q1 ≤ 1099511627776 ∧ -1099511627776 ≤ q2 ∧ q2 ≤ 1099511627776) from by omega)]; rfl
    subst e
    have k0 : decide (q1 < -1099511627776) = true := decide_eq_true h0
    clear hR h0
    go_enter Tryd.func14, Tryd.ntmps14
    go_wp2
    go_returns
    exact ⟨rfl, by go_grown⟩
  · have k0 : decide (q1 < -1099511627776) = false := decide_eq_false h0
    by_cases h1 : 1099511627776 < q1
    · have e : R = true := by rw [← hR, decide_eq_false (show ¬(-1099511627776 ≤ q1 ∧ q1 ≤ 1099511627776 ∧ -1099511627776 ≤ q2 ∧ q2 ≤ 1099511627776) from by omega)]; rfl
      subst e
      have k1 : decide (1099511627776 < q1) = true := decide_eq_true h1
      clear hR h0 h1
      go_enter Tryd.func14, Tryd.ntmps14
      go_wp2
      go_returns
      exact ⟨rfl, by go_grown⟩
    · have k1 : decide (1099511627776 < q1) = false := decide_eq_false h1
      by_cases h2 : q2 < -1099511627776
      · have e : R = true := by rw [← hR, decide_eq_false (show ¬(-1099511627776 ≤ q1 ∧ q1 ≤ 1099511627776 ∧ -1099511627776 ≤ q2 ∧ q2 ≤ 1099511627776) from by omega)]; rfl
        subst e
        have k2 : decide (q2 < -1099511627776) = true := decide_eq_true h2
        clear hR h0 h1 h2
        go_enter Tryd.func14, Tryd.ntmps14
        go_wp2
        go_returns
        exact ⟨rfl, by go_grown⟩
      · have k2 : decide (q2 < -1099511627776) = false := decide_eq_false h2
        by_cases h3 : 1099511627776 < q2
        · have e : R = true := by rw [← hR, decide_eq_false (show ¬(-1099511627776 ≤ q1 ∧ q1 ≤ 1099511627776 ∧ -1099511627776 ≤ q2 ∧ q2 ≤ 1099511627776) from by omega)]; rfl
          subst e
          have k3 : decide (1099511627776 < q2) = true := decide_eq_true h3
          clear hR h0 h1 h2 h3
          go_enter Tryd.func14, Tryd.ntmps14
          go_wp2
          go_returns
          exact ⟨rfl, by go_grown⟩
        · have k3 : decide (1099511627776 < q2) = false := decide_eq_false h3
          have e : R = false := by rw [← hR, decide_eq_true (show -1099511627776 ≤ q1 ∧ q1 ≤ 1099511627776 ∧ -1099511627776 ≤ q2 ∧ q2 ≤ 1099511627776 from ⟨by omega, by omega, by omega, by omega⟩)]; rfl
          subst e
          clear hR h0 h1 h2 h3
          go_enter Tryd.func14, Tryd.ntmps14
          go_wp2
          go_returns
          exact ⟨rfl, by go_grown⟩
theorem near12_any (q1 q2 : Int) (w : World) : Calls Tryd.prog 56 #[.agg #[.int .i64 q1, .int .i64 q2]] w fun e w' => e = .returned (.bool (nearB 32768 (q1, q2))) ∧ Below w.heap.size w w' := by
  obtain ⟨R, hR⟩ : ∃ R, nearB 32768 (q1, q2) = R := ⟨_, rfl⟩
  rw [hR]
  unfold nearB at hR
  dsimp only at hR
  by_cases h0 : -32768 ≤ q1
  · have k0 : decide (-32768 ≤ q1) = true := decide_eq_true h0
    by_cases h1 : q1 ≤ 32768
    · have k1 : decide (q1 ≤ 32768) = true := decide_eq_true h1
      by_cases h2 : -32768 ≤ q2
      · have k2 : decide (-32768 ≤ q2) = true := decide_eq_true h2
        by_cases h3 : q2 ≤ 32768
        · have k3 : decide (q2 ≤ 32768) = true := decide_eq_true h3
          have e : R = true := by rw [← hR]; exact decide_eq_true ⟨h0, h1, h2, h3⟩
          subst e
          clear hR h0 h1 h2 h3
          go_enter Tryd.func56, Tryd.ntmps56
          go_wp2
          go_returns
          exact ⟨rfl, by go_grown⟩
        · have e : R = false := by rw [← hR]; exact decide_eq_false (by omega)
          subst e
          have k3 : decide (q2 ≤ 32768) = false := decide_eq_false h3
          clear hR h0 h1 h2 h3
          go_enter Tryd.func56, Tryd.ntmps56
          go_wp2
          go_returns
          exact ⟨rfl, by go_grown⟩
      · have e : R = false := by rw [← hR]; exact decide_eq_false (by omega)
        subst e
        have k2 : decide (-32768 ≤ q2) = false := decide_eq_false h2
        clear hR h0 h1 h2
        go_enter Tryd.func56, Tryd.ntmps56
        go_wp2
        go_returns
        exact ⟨rfl, by go_grown⟩
    · have e : R = false := by rw [← hR]; exact decide_eq_false (by omega)
      subst e
      have k1 : decide (q1 ≤ 32768) = false := decide_eq_false h1
      clear hR h0 h1
      go_enter Tryd.func56, Tryd.ntmps56
      go_wp2
      go_returns
      exact ⟨rfl, by go_grown⟩
  · have e : R = false := by rw [← hR]; exact decide_eq_false (by omega)
    subst e
    have k0 : decide (-32768 ≤ q1) = false := decide_eq_false h0
    clear hR h0
    go_enter Tryd.func56, Tryd.ntmps56
    go_wp2
    go_returns
    exact ⟨rfl, by go_grown⟩
end Go.Proofs.YtgbhhjdmochhpaaDoor
namespace Go.Proofs.YtgbhhjdmochhpaaDoor
open Go Go.ChangeShapes Go.WideShapes Go.RowKit Go.ChangeAt Go.Deep Go.Joins
set_option linter.unusedVariables false
set_option linter.unusedSimpArgs false

theorem cell_at {W : World} {a : Addr} {v : Value} (h : W.cell? a = some v) : a.spot = none ∧ a.block < W.heap.size := by
  unfold World.cell? at h
  split at h
  · rename_i hh
    split at h
    · cases h
    · rename_i hs
      exact ⟨by simpa using hs, (Array.getElem?_eq_some_iff.1 hh).1⟩
  · cases h
theorem sliceAt_of {W : World} {a : Addr} {len cap sz : Nat} (f : Nat → Nat → Value) (hl : len ≤ cap) (hm : cap ≤ maxLen) (hsz : 0 < sz) (hc : ∀ i, i < len → ∀ j, j < sz → W.cell? (a.add (i * sz + j)) = some (f i j)) : SliceAt W (.slice (some a) len cap) len sz f := by
  refine ⟨some a, cap, rfl, hl, hm, fun h0 => ?_⟩
  have h00 := hc 0 h0 0 hsz
  rw [Nat.zero_mul, Nat.zero_add] at h00
  obtain ⟨h1, h2⟩ := cell_at (show W.cell? a = some _ from h00)
  obtain ⟨b, off, sp⟩ := a
  obtain rfl : sp = none := h1
  exact ⟨b, off, rfl, h2, fun i j hi hj => by rw [← Addr.add_lit]; exact hc i hi j hj⟩
theorem pick_each {α : Type} [Inhabited α] {n : Nat} {p : Nat → α → Prop} (h : ∀ i, i < n → ∃ x, p i x) : ∃ g : Nat → α, ∀ i, i < n → p i (g i) :=
  ⟨fun i => if hi : i < n then Classical.choose (h i hi) else default, fun i hi => by simp only [dif_pos hi]; exact Classical.choose_spec (h i hi)⟩

section
variable {H : Type} {enc : TypeId × Value → H} {P : Program} {w : World}
end
end Go.Proofs.YtgbhhjdmochhpaaDoor
namespace Go.Proofs.YtgbhhjdmochhpaaDoor
open Go Go.ChangeShapes Go.WideShapes Go.RowKit Go.ChangeAt Go.Deep Go.Joins
set_option linter.unusedVariables false
set_option linter.unusedSimpArgs false

/-- the type of a cell of a value -/
def leafAt (P : Program) : Nat → TypeId → Nat → Option TypeId
  | 0, _, _ => none
  | n + 1, t, j => match P.underlying t with
    | some (.struct fs) => fs.toList.findSome? fun f => if f.offset ≤ j ∧ j < f.offset + P.cellsOf f.type then leafAt P n f.type (j - f.offset) else none
    | some (.array m e) => if 0 < P.cellsOf e ∧ P.cellsOf t = m * P.cellsOf e then leafAt P n e (j % P.cellsOf e) else none
    | some (.int _) => if j = 0 then some t else none
    | some .bool => if j = 0 then some t else none
    | some .string => if j = 0 then some t else none
    | some (.slice _) => if j = 0 then some t else none
    | _ => none

section
variable {H : Type} {enc : TypeId × Value → H} {P : Program} {w : World} {base : Nat} {spare : Nat → Bool} {held : Bool}
theorem window_get {cs : List Value} {o k j : Nat} (h1 : o ≤ j) (h2 : j < o + k) : ((cs.drop o).take k)[j - o]? = cs[j]? := by
  rw [List.getElem?_take_of_lt (by omega), List.getElem?_drop, show o + (j - o) = j by omega]
theorem leaf_of : ∀ (n : Nat) (t : TypeId) (j : Nat) (u : TypeId), leafAt P n t j = some u → ∀ (fuel : Nat) (cs : List Value) (x : DataW H × List MemPlace) (v : Value),
    DataW.trod enc P w base spare held fuel t cs = some x → cs[j]? = some v → ∃ fuel' x', DataW.trod enc P w base spare held fuel' u [v] = some x'
  | 0, _, _, _, h, _, _, _, _, _, _ => by simp [leafAt] at h
  | n + 1, t, j, u, h, fuel, cs, x, v, hx, hv => by
    unfold leafAt at h
    split at h
    · rename_i fs hu
      obtain ⟨xs, m, _, _, hlen, hxl, hf⟩ := DataW.trod_struct hu hx
      obtain ⟨f, hfm, hfs⟩ := List.exists_of_findSome?_eq_some h
      split at hfs
      · rename_i hcond
        obtain ⟨i, hi, hfi⟩ := List.mem_iff_getElem.1 hfm
        have h3 := hf i f (by simp at hi; rw [← hfi]; simp)
        have hi' : i < xs.length := by rw [hxl]; simpa using hi
        rw [List.getElem?_eq_getElem hi'] at h3
        exact leaf_of n f.type _ u hfs m _ _ v h3 (by rw [window_get hcond.1 hcond.2]; exact hv)
      · cases hfs
    · rename_i m e hu
      split at h
      · rename_i hc
        obtain ⟨xs, k, _, _, hlen, hxl, hf⟩ := DataW.trod_array hu hx
        obtain ⟨hc0, hc1⟩ := hc
        have hj : j < cs.length := (List.getElem?_eq_some_iff.1 hv).1
        have hq : j / P.cellsOf e < m := by
          apply Nat.div_lt_of_lt_mul
          rw [Nat.mul_comm, ← hc1, ← hlen]; exact hj
        have h4 := hf _ hq
        rw [List.getElem?_eq_getElem (by omega)] at h4
        have hd := Nat.div_add_mod j (P.cellsOf e)
        have hmod := Nat.mod_lt j hc0
        rw [Nat.mul_comm] at hd
        refine leaf_of n e _ u h k _ _ v h4 ?_
        rw [← hv, ← window_get (cs := cs) (o := j / P.cellsOf e * P.cellsOf e) (k := P.cellsOf e) (j := j) (by omega) (by omega)]
        congr 1
        omega
      · cases h
    · rename_i k hu
      split at h
      · rename_i hj
        subst hj
        cases h
        obtain ⟨z, rfl, hx2, _⟩ := DataW.trod_int hu hx
        obtain rfl : v = .int k z := by simpa using hv.symm
        exact ⟨fuel, x, hx⟩
      · cases h
    · rename_i hu
      split at h
      · rename_i hj
        subst hj
        cases h
        obtain ⟨z, rfl, hx2⟩ := DataW.trod_bool hu hx
        obtain rfl : v = .bool z := by simpa using hv.symm
        exact ⟨fuel, x, hx⟩
      · cases h
    · rename_i hu
      split at h
      · rename_i hj
        subst hj
        cases h
        obtain ⟨z, rfl, hx2, _⟩ := DataW.trod_string hu hx
        obtain rfl : v = .string z := by simpa using hv.symm
        exact ⟨fuel, x, hx⟩
      · cases h
    · rename_i e hu
      split at h
      · rename_i hj
        subst hj
        cases h
        rcases open_slice hu hx with ⟨rfl, _⟩ | ⟨a, len, cap, m, n, D, Pl, rfl, _⟩
        · obtain rfl : v = .slice none 0 0 := by simpa using hv.symm
          exact ⟨fuel, x, hx⟩
        · obtain rfl : v = .slice (some a) len cap := by simpa using hv.symm
          exact ⟨fuel, x, hx⟩
      · cases h
    · cases h
theorem leaf_int {k : IntKind} {u : TypeId} {fuel : Nat} {v : Value} {x : DataW H × List MemPlace} (hu : P.underlying u = some (.int k)) (h : DataW.trod enc P w base spare held fuel u [v] = some x) : ∃ z, v = .int k z ∧ (Lit.int k z).wf = true := by
  obtain ⟨z, e, _, hw⟩ := DataW.trod_int hu h
  exact ⟨z, by simpa using e, hw⟩
theorem leaf_i64 {u : TypeId} {fuel : Nat} {v : Value} {x : DataW H × List MemPlace} (hu : P.underlying u = some (.int .i64)) (h : DataW.trod enc P w base spare held fuel u [v] = some x) : ∃ z : Int, v = .int .i64 z ∧ -9223372036854775808 ≤ z ∧ z ≤ 9223372036854775807 := by
  obtain ⟨z, e, hw⟩ := leaf_int hu h
  exact ⟨z, e, by simpa [Lit.wf, IntKind.min, IntKind.max, IntKind.signed, IntKind.bits] using hw⟩
theorem leaf_string {u : TypeId} {fuel : Nat} {v : Value} {x : DataW H × List MemPlace} (hu : P.underlying u = some .string) (h : DataW.trod enc P w base spare held fuel u [v] = some x) : ∃ s : ByteArray, v = .string s ∧ s.size ≤ 9223372036854775807 := by
  obtain ⟨s, e, _, hs⟩ := DataW.trod_string hu h
  exact ⟨s, by simpa using e, by unfold maxLen at hs; omega⟩
theorem leaf_bool {u : TypeId} {fuel : Nat} {v : Value} {x : DataW H × List MemPlace} (hu : P.underlying u = some .bool) (h : DataW.trod enc P w base spare held fuel u [v] = some x) : ∃ s : Bool, v = .bool s := by
  obtain ⟨s, e, _⟩ := DataW.trod_bool hu h
  exact ⟨s, by simpa using e⟩
/-- the cells of a slice's elements -/
theorem leaf_slice {t e : TypeId} {sz fuel : Nat} {v : Value} {x : DataW H × List MemPlace} (ht : P.underlying t = some (.slice e)) (hC : P.cellsOf e = sz) (h : DataW.trod enc P w 0 spare held fuel t [v] = some x) :
    v = .slice none 0 0 ∨ ∃ a len cap, v = .slice (some a) len cap ∧ len ≤ cap ∧ cap ≤ maxLen ∧ ∀ i, i < len → ∀ j, j < sz → ∃ c, w.cell? (a.add (i * sz + j)) = some c ∧
      ∀ n u, leafAt P n e j = some u → ∃ fuel' x', DataW.trod enc P w 0 spare held fuel' u [c] = some x' := by
  rcases open_slice ht h with ⟨h0, _⟩ | ⟨a, len, cap, m, n, D, Pl, hcs, _, hl, hm, hmm, _, hi⟩
  · exact .inl (by simpa using h0)
  · refine .inr ⟨a, len, cap, by simpa using hcs, hl, hm, fun i hil j hj => ?_⟩
    have hmc : len ≤ m := by rw [hmm]; split <;> omega
    obtain ⟨cs, hc, hd⟩ := hi i (by omega)
    rw [hC] at hc
    obtain ⟨_, hlen, hat⟩ := World.cells?_some hc
    have hlt : j < cs.length := by omega
    have e0 := hat j hj
    rw [add_add] at e0
    refine ⟨cs[j], by rw [e0, List.getElem?_eq_getElem hlt], fun n' u hu => leaf_of n' e j u hu n cs _ cs[j] hd (List.getElem?_eq_getElem hlt)⟩
/-- the cells of a struct argument -/
theorem leaf_struct {t : TypeId} {fs : Array Field} {k : Nat} {v : Value} {d : DataW H} {ps : List MemPlace} {r : Reach} {b0 : Nat} (hu : P.underlying t = some (.struct fs)) (hc : P.cellsOf t = k) (hv : Value.okWide P w r b0 t v) (h : DataW.Trod enc P w base spare held t v d ps) :
    ∃ cs : List Value, v = .agg cs.toArray ∧ cs.length = k ∧ ∀ j c, cs[j]? = some c → ∀ n u, leafAt P n t j = some u → ∃ fuel' x', DataW.trod enc P w base spare held fuel' u [c] = some x' := by
  obtain ⟨⟨l⟩, rfl, hsz⟩ := okWide_struct hu hv
  obtain ⟨fuel, hf⟩ := h
  exact ⟨l, rfl, by simpa using hsz.trans hc, fun j c hj n u hu' => leaf_of n t j u hu' fuel l _ c (by simpa [Value.cells] using hf) hj⟩
end
end Go.Proofs.YtgbhhjdmochhpaaDoor
namespace Go.Proofs.YtgbhhjdmochhpaaDoor
set_option linter.unusedVariables false
set_option linter.unusedSimpArgs false

def nx (n i : Nat) : Nat := (i + 1) % n
theorem nx_lt {n i : Nat} (h : 0 < n) : nx n i < n := Nat.mod_lt _ h
theorem nx_val {n i : Nat} (h : i < n) : nx n i = if i + 1 < n then i + 1 else 0 := by
  unfold nx
  split
  · exact Nat.mod_eq_of_lt ‹_›
  · rw [show i + 1 = n by omega, Nat.mod_self]
def xorTo (f : Nat → Bool) : Nat → Bool
  | 0 => false
  | k + 1 => xorTo f k != f k
theorem xorTo_congr {f g : Nat → Bool} : ∀ {n : Nat}, (∀ i, i < n → f i = g i) → xorTo f n = xorTo g n
  | 0, _ => rfl
  | n + 1, h => by rw [xorTo, xorTo, xorTo_congr (fun i hi => h i (by omega)), h n (by omega)]
theorem xorTo_bne (f g : Nat → Bool) : ∀ n, xorTo (fun i => f i != g i) n = (xorTo f n != xorTo g n)
  | 0 => rfl
  | n + 1 => by
    rw [xorTo, xorTo, xorTo, xorTo_bne f g n]
    generalize xorTo f n = a
    generalize xorTo g n = b
    generalize f n = c
    generalize g n = d
    revert a b c d
    decide
theorem xorTo_false {f : Nat → Bool} : ∀ {n : Nat}, (∀ i, i < n → f i = false) → xorTo f n = false
  | 0, _ => rfl
  | n + 1, h => by rw [xorTo, xorTo_false (fun i hi => h i (by omega)), h n (by omega)]; rfl
theorem xor_chain (g : Nat → Bool) : ∀ k, xorTo (fun i => g i != g (i + 1)) k = (g 0 != g k)
  | 0 => by cases h : g 0 <;> simp [xorTo, h]
  | k + 1 => by
    rw [xorTo, xor_chain g k]
    generalize g 0 = a
    generalize g k = b
    generalize g (k + 1) = c
    revert a b c
    decide
theorem xor_cyc (g : Nat → Bool) : ∀ n, xorTo (fun i => g i != g (nx n i)) n = false
  | 0 => rfl
  | n + 1 => by
    rw [xorTo, xorTo_congr (g := fun i => g i != g (i + 1)) (fun i hi => by rw [nx_val (by omega), if_pos (by omega)]), xor_chain, nx_val (by omega), if_neg (by omega)]
    generalize g 0 = a
    generalize g n = b
    revert a b
    decide
theorem xor_true {f : Nat → Bool} : ∀ {n : Nat}, xorTo f n = true → ∃ i, i < n ∧ f i = true
  | 0, h => by cases h
  | n + 1, h => by
    cases e : f n with
    | true => exact ⟨n, by omega, e⟩
    | false =>
      rw [xorTo, e] at h
      obtain ⟨i, hi, h2⟩ := xor_true (f := f) (n := n) (by simpa using h)
      exact ⟨i, by omega, h2⟩
theorem xor_shift (g : Nat → Bool) : ∀ n, xorTo (fun i => g (i + 1)) n = (xorTo g (n + 1) != g 0)
  | 0 => by cases h : g 0 <;> simp [xorTo, h]
  | n + 1 => by
    have e1 : xorTo (fun i => g (i + 1)) (n + 1) = (xorTo (fun i => g (i + 1)) n != g (n + 1)) := rfl
    have e2 : xorTo g (n + 1 + 1) = (xorTo g (n + 1) != g (n + 1)) := rfl
    rw [e1, xor_shift g n, e2]
    generalize xorTo g (n + 1) = a
    generalize g (n + 1) = c
    generalize g 0 = d
    revert a c d
    decide
theorem xor_rev : ∀ (n : Nat) (g : Nat → Bool), xorTo (fun i => g (n - 1 - i)) n = xorTo g n
  | 0, g => rfl
  | n + 1, g => by
    have e : xorTo (fun i => g (n + 1 - 1 - i)) n = xorTo (fun i => g (n - 1 - i + 1)) n := xorTo_congr fun i hi => congrArg g (by omega)
    rw [xorTo, e, xor_rev n (fun j => g (j + 1)), xor_shift, show n + 1 - 1 - n = 0 by omega]
    generalize g 0 = a
    generalize xorTo g (n + 1) = b
    revert a b
    decide

def par (n : Nat) (P : Nat → Pt) (q : Pt) : Bool := xorTo (fun i => ray (P i) (P (nx n i)) q) n
def Off (n : Nat) (P : Nat → Pt) (q : Pt) : Prop := ∀ i, i < n → ¬ onS (P i) (P (nx n i)) q
theorem par_seg {n : Nat} {P : Nat → Pt} {u v : Pt} (h : ∀ i, i < n → ¬ meets u v (P i) (P (nx n i))) : par n P u = par n P v := by
  have e : xorTo (fun i => ray (P i) (P (nx n i)) u != ray (P i) (P (nx n i)) v) n = false := by
    rw [xorTo_congr (g := fun i => side u v (P i) != side u v (P (nx n i))) (fun i hi => seg (h i hi))]
    exact xor_cyc (fun i => side u v (P i)) n
  rw [xorTo_bne] at e
  unfold par
  simpa using e
theorem par_of {n : Nat} {P Q : Nat → Pt} {q q' : Pt} (g : Nat → Bool) (h : ∀ i, i < n → (ray (P i) (P (nx n i)) q != ray (Q i) (Q (nx n i)) q') = (g i != g (nx n i))) : par n P q = par n Q q' := by
  have e : xorTo (fun i => ray (P i) (P (nx n i)) q != ray (Q i) (Q (nx n i)) q') n = false := by
    rw [xorTo_congr h]
    exact xor_cyc g n
  rw [xorTo_bne] at e
  unfold par
  simpa using e
theorem par_rot {n : Nat} {P : Nat → Pt} {q : Pt} (h : Off n P q) : par n (fun i => rot (P i)) (rot q) = par n P q := (par_of (fun i => quad q (P i)) (fun i hi => ray_rot (h i hi))).symm
theorem par_mir {n : Nat} {P : Nat → Pt} {q : Pt} (h : Off n P q) : par n (fun i => mir (P i)) (mir q) = par n P q := (par_of (fun i => above q (P i)) (fun i hi => ray_mir (h i hi))).symm
theorem par_mov {n : Nat} {P : Nat → Pt} {q : Pt} (t : Pt) : par n (fun i => mov t (P i)) (mov t q) = par n P q := by
  unfold par
  exact xorTo_congr fun i hi => ray_mov t _ _ _
/- the opposite order -/
def rv {α : Type} (n : Nat) (P : Nat → α) : Nat → α := fun i => P (n - 1 - i)
/-- the edge of the reversed polygon is an edge -/
def re (n i : Nat) : Nat := if i + 1 < n then n - 2 - i else n - 1
theorem re_lt {n i : Nat} (h : i < n) : re n i < n := by unfold re; split <;> omega
theorem rv_edge {α : Type} {n i : Nat} (P : Nat → α) (h : i < n) : rv n P i = P (nx n (re n i)) ∧ rv n P (nx n i) = P (re n i) := by
  rw [nx_val (re_lt h), nx_val h]
  unfold rv re
  split
  · rw [if_pos (by omega)]
    exact ⟨congrArg P (by omega), congrArg P (by omega)⟩
  · rw [if_neg (by omega)]
    exact ⟨congrArg P (by omega), congrArg P (by omega)⟩
theorem re_inj {n i k : Nat} (hi : i < n) (hk : k < n) (h : re n i = re n k) : i = k := by
  unfold re at h
  split at h <;> split at h <;> omega
theorem par_rv {n : Nat} {P : Nat → Pt} {q : Pt} (h : Off n P q) : par n (rv n P) q = par n P q := by
  unfold par
  rw [xorTo_congr (g := fun i => ray (P (re n i)) (P (nx n (re n i))) q) (fun i hi => by
    obtain ⟨e1, e2⟩ := rv_edge P hi
    rw [e1, e2]
    exact ray_swap (h _ (re_lt hi)))]
  match n with
  | 0 => rfl
  | m + 1 =>
    rw [xorTo, xorTo, xorTo_congr (g := fun i => ray (P (m - 1 - i)) (P (nx (m + 1) (m - 1 - i))) q) (fun i hi => by
      unfold re
      rw [if_pos (by omega), show m + 1 - 2 - i = m - 1 - i by omega]), xor_rev m (fun j => ray (P j) (P (nx (m + 1) j)) q)]
    show (_ != ray (P (re (m + 1) m)) (P (nx (m + 1) (re (m + 1) m))) q) = _
    rw [show re (m + 1) m = m by unfold re; rw [if_neg (by omega)]; omega]
/-- a point inside is in the bounds -/
theorem par_box {n : Nat} {P : Nat → Pt} {q : Pt} {M : Int} (h : par n P q = true) (hP : ∀ i, i < n → (-M ≤ (P i).1 ∧ (P i).1 ≤ M) ∧ -M ≤ (P i).2 ∧ (P i).2 ≤ M) : (-M ≤ q.1 ∧ q.1 ≤ M) ∧ -M ≤ q.2 ∧ q.2 ≤ M := by
  have hn : 0 < n := by
    rcases Nat.eq_zero_or_pos n with rfl | h0
    · cases h
    · exact h0
  obtain ⟨i, hi, hr⟩ := xor_true h
  have ha := hP i hi
  have hb := hP (nx n i) (nx_lt hn)
  unfold ray at hr
  simp only [Bool.and_eq_true, bne_iff_ne, ne_eq, beq_iff_eq] at hr
  have hl : (P i).2 ≤ q.2 ∧ q.2 < (P (nx n i)).2 ∨ (P (nx n i)).2 ≤ q.2 ∧ q.2 < (P i).2 := by
    have h1 := hr.1
    by_cases c1 : q.2 < (P i).2 <;> by_cases c2 : q.2 < (P (nx n i)).2 <;> simp [c1, c2] at h1 <;> omega
  refine ⟨⟨?_, ?_⟩, by omega, by omega⟩
  · -- not all edges to the right
    apply Classical.byContradiction
    intro hc
    have e : par n P q = false := by
      unfold par
      rw [xorTo_congr (g := fun k => above q (P k) != above q (P (nx n k))) (fun k hk => by
        have h1 := hP k hk
        have h2 := hP (nx n k) (nx_lt hn)
        unfold ray above
        by_cases c1 : q.2 < (P k).2 <;> by_cases c2 : q.2 < (P (nx n k)).2
        · simp [c1, c2]
        · have k1 := right_edge (a := P (nx n k)) (b := P k) (q := q) ⟨by omega, by omega⟩ (by omega) (by omega)
          rw [crs_swap] at k1
          have k2 : ¬ 0 < crs (P k) (P (nx n k)) q := by omega
          have k3 : ¬ (P k).2 < (P (nx n k)).2 := by omega
          simp [c1, c2, k2, k3]
        · have k2 := right_edge (a := P k) (b := P (nx n k)) (q := q) ⟨by omega, by omega⟩ (by omega) (by omega)
          have k3 : (P k).2 < (P (nx n k)).2 := by omega
          simp [c1, c2, k2, k3]
        · simp [c1, c2])]
      exact xor_cyc (fun k => above q (P k)) n
    rw [e] at h
    cases h
  · apply Classical.byContradiction
    intro hc
    have h2 := hr.2
    rcases hl with hl | hl
    · have k1 := left_edge (a := P i) (b := P (nx n i)) (q := q) hl (by omega) (by omega)
      have k2 : ¬ 0 < crs (P i) (P (nx n i)) q := by omega
      have k3 : (P i).2 < (P (nx n i)).2 := by omega
      simp [k2, k3] at h2
    · have hh : crs (P (nx n i)) (P i) q ≤ 0 := left_edge (a := P (nx n i)) (b := P i) (q := q) hl (by omega) (by omega)
      rw [crs_swap] at hh
      have k3 : ¬ (P i).2 < (P (nx n i)).2 := by omega
      have h3 : ¬ 0 < crs (P i) (P (nx n i)) q := by simpa [k3] using h2
      have h4 : (P i).2 - (P (nx n i)).2 > 0 := by omega
      have p1 := Int.mul_pos (show 0 < q.1 - (P i).1 by omega) (show 0 < (P i).2 - (P (nx n i)).2 by omega)
      have p2 := Int.mul_nonneg (show 0 ≤ q.2 - (P (nx n i)).2 by omega) (show 0 ≤ q.1 - (P i).1 by omega)
      have p3 := Int.mul_pos (show 0 < (P i).2 - q.2 by omega) (show 0 < q.1 - (P (nx n i)).1 by omega)
      have e : crs (P i) (P (nx n i)) q = ((P i).2 - q.2) * (q.1 - (P (nx n i)).1) + (q.2 - (P (nx n i)).2) * (q.1 - (P i).1) := by simp only [crs]; grind
      omega
end Go.Proofs.YtgbhhjdmochhpaaDoor
namespace Go.Proofs.YtgbhhjdmochhpaaDoor
set_option linter.unusedVariables false
set_option linter.unusedSimpArgs false

theorem on_of_lev {a b p : Pt} (hne : a.2 ≠ b.2) (h : crs a b p = 0) (hl : bt a.2 b.2 p.2) : onS a b p := by
  refine ⟨h, ?_, hl⟩
  unfold bt at hl
  refine wavg (A := a.2 - p.2) (B := b.2 - p.2) (by omega) (by omega) ?_
  simp only [crs] at h
  grind
/-- the side of a line is affine along another line -/
theorem crs_aff {a b u : Pt} (c d : Pt) (h : crs a b u = 0) : crs c d u * (b.2 - a.2) = crs c d a * (b.2 - u.2) + crs c d b * (u.2 - a.2) := by
  simp only [crs] at h ⊢
  grind
theorem crs_line {a b u v : Pt} (c : Pt) (hne : a.2 ≠ b.2) (hu : crs a b u = 0) (hv : crs a b v = 0) : crs u v c * (b.2 - a.2) = crs a b c * (v.2 - u.2) := by
  have h0 : b.2 - a.2 ≠ 0 := by omega
  have key : (crs u v c * (b.2 - a.2) - crs a b c * (v.2 - u.2)) * (b.2 - a.2) = 0 := by
    simp only [crs] at hu hv ⊢
    grind
  rcases Int.mul_eq_zero.1 key with h | h <;> omega
/-- signs of an affine function at the ends -/
theorem aff_sign {A B g D w1 w2 : Int} (hD : D ≠ 0) (hw : w1 + w2 = D) (hs : 0 ≤ w1 ∧ 0 ≤ w2 ∨ w1 ≤ 0 ∧ w2 ≤ 0) (h : g * D = A * w1 + B * w2) : (0 < A → 0 < B → 0 < g) ∧ (A < 0 → B < 0 → g < 0) ∧ (A = B → g = A) := by
  have pos : ∀ {A B g w1 w2 D : Int}, D ≠ 0 → w1 + w2 = D → 0 ≤ w1 → 0 ≤ w2 → g * D = A * w1 + B * w2 → 0 < A → 0 < B → 0 < g := by
    intro A B g w1 w2 D hD hw h1 h2 h hA hB
    have p1 := Int.mul_nonneg (Int.le_of_lt hA) h1
    have p2 := Int.mul_nonneg (Int.le_of_lt hB) h2
    have p3 : 0 < A * w1 + B * w2 := by
      by_cases e : w1 = 0
      · have := Int.mul_pos hB (show 0 < w2 by omega); omega
      · have := Int.mul_pos hA (show 0 < w1 by omega); omega
    apply Classical.byContradiction
    intro hc
    have := Int.mul_nonneg (show 0 ≤ -g by omega) (show 0 ≤ D by omega)
    rw [Int.neg_mul] at this
    omega
  have flip : g * (-D) = A * (-w1) + B * (-w2) := by rw [Int.mul_neg, Int.mul_neg, Int.mul_neg]; omega
  have neg : (-g) * D = (-A) * w1 + (-B) * w2 := by rw [Int.neg_mul, Int.neg_mul, Int.neg_mul]; omega
  have both : (-g) * (-D) = (-A) * (-w1) + (-B) * (-w2) := by rw [Int.neg_mul_neg, Int.neg_mul_neg, Int.neg_mul_neg]; omega
  refine ⟨fun hA hB => ?_, fun hA hB => ?_, fun e => ?_⟩
  · rcases hs with ⟨h1, h2⟩ | ⟨h1, h2⟩
    · exact pos hD hw h1 h2 h hA hB
    · exact pos (D := -D) (by omega) (by omega) (by omega) (by omega) flip hA hB
  · have : 0 < -g := by
      rcases hs with ⟨h1, h2⟩ | ⟨h1, h2⟩
      · exact pos hD hw h1 h2 neg (by omega) (by omega)
      · exact pos (D := -D) (by omega) (by omega) (by omega) (by omega) both (by omega) (by omega)
    omega
  · subst e
    rw [← Int.mul_add, hw] at h
    exact Int.eq_of_mul_eq_mul_right hD h
theorem bt_w {a b u : Int} (h : bt a b u) : 0 ≤ b - u ∧ 0 ≤ u - a ∨ b - u ≤ 0 ∧ u - a ≤ 0 := by unfold bt at h; omega
theorem weak0 {A B : Int} (h : (0 < A → 0 < B → (0 : Int) < 0) ∧ (A < 0 → B < 0 → (0 : Int) < 0)) : A ≤ 0 ∧ 0 ≤ B ∨ B ≤ 0 ∧ 0 ≤ A := by
  obtain ⟨a, b⟩ := h
  by_cases p : 0 < A ∧ 0 < B
  · have := a p.1 p.2; omega
  by_cases q : A < 0 ∧ B < 0
  · have := b q.1 q.2; omega
  clear a b
  omega
/-- edges with a common point meet -/
theorem common {a b c d u : Pt} (h1 : a.2 ≠ b.2) (h2 : c.2 ≠ d.2) (hu : onS a b u) (hv : onS c d u) : meets a b c d := by
  obtain ⟨u1, -, u3⟩ := hu
  obtain ⟨v1, -, v3⟩ := hv
  have e1 := crs_aff a b v1
  have e2 := crs_aff c d u1
  rw [u1, Int.zero_mul] at e1
  rw [v1, Int.zero_mul] at e2
  have s1 := aff_sign (D := d.2 - c.2) (by omega) (by omega) (bt_w v3) (g := 0) (by rw [Int.zero_mul]; exact e1)
  have s2 := aff_sign (D := b.2 - a.2) (by omega) (by omega) (bt_w u3) (g := 0) (by rw [Int.zero_mul]; exact e2)
  by_cases he : crs a b c = crs a b d
  · have z := s1.2.2 he
    have z2 : crs a b d = 0 := by omega
    have hc := fun h => on_of_lev (p := c) h1 z.symm h
    have hd := fun h => on_of_lev (p := d) h1 z2 h
    have q1 : crs c d a * (b.2 - a.2) = 0 := by
      have := crs_line (u := c) (v := d) a h1 z.symm z2
      rw [this]
      have : crs a b a = 0 := by simp only [crs]; grind
      rw [this, Int.zero_mul]
    have q2 : crs c d b * (b.2 - a.2) = 0 := by
      have := crs_line (u := c) (v := d) b h1 z.symm z2
      rw [this]
      have : crs a b b = 0 := by simp only [crs]; grind
      rw [this, Int.zero_mul]
    have ha := fun h => on_of_lev (p := a) h2 (by rcases Int.mul_eq_zero.1 q1 with h | h <;> omega) h
    have hb := fun h => on_of_lev (p := b) h2 (by rcases Int.mul_eq_zero.1 q2 with h | h <;> omega) h
    unfold bt at u3 v3 ha hb hc hd
    by_cases c1 : a.2 ≤ c.2 ∧ c.2 ≤ b.2 ∨ b.2 ≤ c.2 ∧ c.2 ≤ a.2
    · exact .inl (hc c1)
    by_cases c2 : a.2 ≤ d.2 ∧ d.2 ≤ b.2 ∨ b.2 ≤ d.2 ∧ d.2 ≤ a.2
    · exact .inr (.inl (hd c2))
    exact .inr (.inr (.inl (ha (by omega))))
  · exact meetM he (weak0 ⟨s1.1, s1.2.1⟩) (weak0 ⟨s2.1, s2.2.1⟩)
theorem sgn_of {x y W F : Int} (hW : 0 < W) (hF : 0 < F) (h : y * W = x * F) (hx : 0 < x) : 0 < y := by
  have := Int.mul_pos hx hF
  apply Classical.byContradiction
  intro hc
  have := Int.mul_nonneg (show 0 ≤ -y by omega) (Int.le_of_lt hW)
  rw [Int.neg_mul] at this
  omega
theorem opp_scale {x1 x2 y1 y2 D w : Int} (hD : D ≠ 0) (hw : w ≠ 0) (e1 : x1 * D = y1 * w) (e2 : x2 * D = y2 * w) (h : opp x1 x2) : opp y1 y2 := by
  have hW : 0 < w * w := by
    rcases Int.lt_or_gt_of_ne hw with h' | h'
    · exact Int.mul_pos_of_neg_of_neg h' h'
    · exact Int.mul_pos h' h'
  have hF : D * w ≠ 0 := by intro h'; rcases Int.mul_eq_zero.1 h' with h' | h' <;> omega
  have f1 : y1 * (w * w) = x1 * (D * w) := by rw [← Int.mul_assoc, ← e1, Int.mul_assoc]
  have f2 : y2 * (w * w) = x2 * (D * w) := by rw [← Int.mul_assoc, ← e2, Int.mul_assoc]
  generalize w * w = W at hW f1 f2
  generalize D * w = F at hF f1 f2
  have n1 : (-y1) * W = (-x1) * F := by rw [Int.neg_mul, Int.neg_mul, f1]
  have n2 : (-y2) * W = (-x2) * F := by rw [Int.neg_mul, Int.neg_mul, f2]
  have m1 : (-y1) * W = x1 * (-F) := by rw [Int.neg_mul, Int.mul_neg, f1]
  have m2 : (-y2) * W = x2 * (-F) := by rw [Int.neg_mul, Int.mul_neg, f2]
  have l1 : y1 * W = (-x1) * (-F) := by rw [Int.neg_mul_neg, f1]
  have l2 : y2 * W = (-x2) * (-F) := by rw [Int.neg_mul_neg, f2]
  unfold opp at h ⊢
  rcases Int.lt_or_gt_of_ne hF with h' | h' <;> rcases h with ⟨a, b⟩ | ⟨a, b⟩
  · exact .inr ⟨sgn_of hW (by omega) l1 (by omega), by have := sgn_of hW (by omega) m2 b; omega⟩
  · exact .inl ⟨by have := sgn_of hW (by omega) m1 a; omega, sgn_of hW (by omega) l2 (by omega)⟩
  · exact .inl ⟨by have := sgn_of hW h' n1 (by omega); omega, sgn_of hW h' f2 b⟩
  · exact .inr ⟨sgn_of hW h' f1 a, by have := sgn_of hW h' n2 (by omega); omega⟩
theorem opp_ne {x y : Int} (h : opp x y) : x ≠ y := by unfold opp at h; omega
theorem opp_weak {x y : Int} (h : opp x y) : x ≤ 0 ∧ 0 ≤ y ∨ y ≤ 0 ∧ 0 ≤ x := by unfold opp at h; omega
theorem weak_of {A B g g' : Int} (h : (0 < A → 0 < B → 0 < g) ∧ (A < 0 → B < 0 → g < 0)) (h' : (0 < A → 0 < B → 0 < g') ∧ (A < 0 → B < 0 → g' < 0)) (ho : opp g g') : A ≤ 0 ∧ 0 ≤ B ∨ B ≤ 0 ∧ 0 ≤ A := by
  unfold opp at ho
  obtain ⟨a, b⟩ := h
  obtain ⟨c, d⟩ := h'
  by_cases p : 0 < A ∧ 0 < B
  · have := a p.1 p.2; have := c p.1 p.2; omega
  by_cases q : A < 0 ∧ B < 0
  · have := b q.1 q.2; have := d q.1 q.2; omega
  clear a b c d
  omega
/-- what meets a piece of an edge meets the edge -/
theorem sub_meets {a b c d u v : Pt} (h1 : a.2 ≠ b.2) (h2 : c.2 ≠ d.2) (huv : u.2 ≠ v.2) (hu : onS a b u) (hv : onS a b v) (h : meets u v c d) : meets a b c d := by
  have piece : ∀ {p : Pt}, onS u v p → onS a b p := fun {p} hp => by
    refine on_of_lev h1 ?_ ?_
    · have := crs_line p h1 hu.1 hv.1
      rw [hp.1, Int.zero_mul] at this
      rcases Int.mul_eq_zero.1 this.symm with h | h <;> omega
    · have a1 := hu.2.2
      have a2 := hv.2.2
      have a3 := hp.2.2
      unfold bt at a1 a2 a3 ⊢
      omega
  rcases h with h | h | h | h | ⟨p1, p2⟩
  · exact .inl (piece h)
  · exact .inr (.inl (piece h))
  · exact common h1 h2 hu h
  · exact common h1 h2 hv h
  · have e1 := crs_line c h1 hu.1 hv.1
    have e2 := crs_line d h1 hu.1 hv.1
    have f1 := crs_aff c d hu.1
    have f2 := crs_aff c d hv.1
    have s1 := aff_sign (D := b.2 - a.2) (by omega) (by omega) (bt_w hu.2.2) f1
    have s2 := aff_sign (D := b.2 - a.2) (by omega) (by omega) (bt_w hv.2.2) f2
    have hop : opp (crs a b c) (crs a b d) := opp_scale (by omega) (by omega) e1 e2 p1
    exact meetM (opp_ne hop) (opp_weak hop) (weak_of ⟨s1.1, s1.2.1⟩ ⟨s2.1, s2.2.1⟩ p2)
/-- two successive edges have only their corner in common -/
theorem adj {a b c u : Pt} (h1 : a.2 ≠ b.2) (h2 : b.2 ≠ c.2) (n1 : ¬ onS a b c) (n2 : ¬ onS b c a) (hu : onS a b u) (hub : u.2 ≠ b.2) : ¬ onS b c u := by
  intro hv
  have e : crs a b c * (u.2 - b.2) = 0 := by
    have u1 := hu.1
    have v1 := hv.1
    simp only [crs] at u1 v1 ⊢
    grind
  have z : crs a b c = 0 := by rcases Int.mul_eq_zero.1 e with h | h <;> omega
  have z2 : crs b c a = 0 := by
    rw [← z]; simp only [crs]; grind
  have k1 := fun h => n1 (on_of_lev h1 z h)
  have k2 := fun h => n2 (on_of_lev h2 z2 h)
  have a1 := hu.2.2
  have a2 := hv.2.2
  unfold bt at a1 a2 k1 k2
  by_cases c1 : a.2 ≤ c.2 ∧ c.2 ≤ b.2 ∨ b.2 ≤ c.2 ∧ c.2 ≤ a.2
  · exact k1 c1
  · exact k2 (by omega)
theorem adj_meets {a b c u v : Pt} (h1 : a.2 ≠ b.2) (h2 : b.2 ≠ c.2) (n1 : ¬ onS a b c) (n2 : ¬ onS b c a) (huv : u.2 ≠ v.2) (hu : onS a b u) (hv : onS a b v) (hub : u.2 ≠ b.2) (hvb : v.2 ≠ b.2) : ¬ meets u v b c := by
  have e := crs_line b h1 hu.1 hv.1
  rw [show crs a b b = 0 by simp only [crs]; grind, Int.zero_mul] at e
  have e0 : crs u v b = 0 := by rcases Int.mul_eq_zero.1 e with h | h <;> omega
  rintro (h | h | h | h | ⟨h, -⟩)
  · have a1 := hu.2.2
    have a2 := hv.2.2
    have a3 := h.2.2
    unfold bt at a1 a2 a3
    omega
  · refine n1 (on_of_lev h1 ?_ ?_)
    · have := crs_line c h1 hu.1 hv.1
      rw [h.1, Int.zero_mul] at this
      rcases Int.mul_eq_zero.1 this.symm with h | h <;> omega
    · have a1 := hu.2.2
      have a2 := hv.2.2
      have a3 := h.2.2
      unfold bt at a1 a2 a3 ⊢
      omega
  · exact adj h1 h2 n1 n2 hu hub h
  · exact adj h1 h2 n1 n2 hv hvb h
  · rw [e0] at h
    unfold opp at h
    omega
theorem adj_meets' {z a b u v : Pt} (h1 : a.2 ≠ b.2) (h2 : z.2 ≠ a.2) (n1 : ¬ onS z a b) (n2 : ¬ onS a b z) (huv : u.2 ≠ v.2) (hu : onS a b u) (hv : onS a b v) (hub : u.2 ≠ a.2) (hvb : v.2 ≠ a.2) : ¬ meets u v z a := fun h =>
  adj_meets (a := b) (b := a) (c := z) h1.symm h2.symm (fun x => n2 (onS_swap.1 x)) (fun x => n1 (onS_swap.1 x)) huv (onS_swap.1 hu) (onS_swap.1 hv) hub hvb (meets_swapR.1 h)
end Go.Proofs.YtgbhhjdmochhpaaDoor
namespace Go.Proofs.YtgbhhjdmochhpaaDoor
set_option linter.unusedVariables false
set_option linter.unusedSimpArgs false

/-- a simple contour without level edges, whose corners have even heights and whose edges have whole slopes -/
structure Gen (n : Nat) (Q : Nat → Pt) (s : Nat → Int) : Prop where
  n3 : 3 ≤ n
  ev : ∀ i, i < n → (Q i).2 % 2 = 0
  lv : ∀ i, i < n → (Q i).2 ≠ (Q (nx n i)).2
  sl : ∀ i, i < n → (Q (nx n i)).1 - (Q i).1 = s i * ((Q (nx n i)).2 - (Q i).2)
  nm : ∀ i k, i < n → k < n → i ≠ k → nx n i ≠ k → nx n k ≠ i → ¬ meets (Q i) (Q (nx n i)) (Q k) (Q (nx n k))
  nf : ∀ i, i < n → ¬ onS (Q i) (Q (nx n i)) (Q (nx n (nx n i))) ∧ ¬ onS (Q (nx n i)) (Q (nx n (nx n i))) (Q i)
/-- a point of an edge -/
def xp (a : Pt) (s h : Int) : Pt := (a.1 + s * (h - a.2), h)
def spans (a b : Pt) (h : Int) : Prop := a.2 < h ∧ h < b.2 ∨ b.2 < h ∧ h < a.2
theorem xp_crs {a b : Pt} {s : Int} (hs : b.1 - a.1 = s * (b.2 - a.2)) (p : Pt) : crs a b p = (b.2 - a.2) * ((xp a s p.2).1 - p.1) := by
  simp only [crs, xp]; grind
theorem xp_on {a b : Pt} {s h : Int} (hne : a.2 ≠ b.2) (hs : b.1 - a.1 = s * (b.2 - a.2)) (hh : spans a b h) : onS a b (xp a s h) := by
  refine on_of_lev hne ?_ ?_
  · rw [xp_crs hs]
    simp only [xp, Int.sub_self, Int.mul_zero]
  · unfold spans at hh
    unfold bt xp
    dsimp only
    omega
/-- the ray from a point at a height that the edge spans -/
theorem ray_up {a b p : Pt} {s : Int} (hs : b.1 - a.1 = s * (b.2 - a.2)) (h : a.2 < p.2 ∧ p.2 < b.2) : ray a b p = decide (p.1 < (xp a s p.2).1) := by
  have e := xp_crs hs p
  have h0 : 0 < b.2 - a.2 := by omega
  have c : 0 < crs a b p ↔ p.1 < (xp a s p.2).1 := by
    rw [e]
    constructor
    · intro hp
      apply Classical.byContradiction
      intro hc
      have := Int.mul_nonneg (Int.le_of_lt h0) (show 0 ≤ -((xp a s p.2).1 - p.1) by omega)
      rw [Int.mul_neg] at this
      omega
    · intro hp
      exact Int.mul_pos h0 (by omega)
  have c1 : ¬ p.2 < a.2 := by omega
  have c3 : a.2 < b.2 := by omega
  unfold ray
  simp [c1, h.2, c3, c]
theorem ray_down {a b p : Pt} {s : Int} (hs : b.1 - a.1 = s * (b.2 - a.2)) (h : b.2 < p.2 ∧ p.2 < a.2) : ray a b p = decide (p.1 ≤ (xp a s p.2).1) := by
  have e := xp_crs hs p
  have h0 : 0 < -(b.2 - a.2) := by omega
  have e2 : crs a b p = -((-(b.2 - a.2)) * ((xp a s p.2).1 - p.1)) := by rw [e, Int.neg_mul, Int.neg_neg]
  have c : 0 < crs a b p ↔ ¬ p.1 ≤ (xp a s p.2).1 := by
    rw [e2]
    generalize -(b.2 - a.2) = D at *
    constructor
    · intro hp hc
      have := Int.mul_nonneg (Int.le_of_lt h0) (show 0 ≤ ((xp a s p.2).1 - p.1) by omega)
      omega
    · intro hp
      have := Int.mul_pos h0 (show 0 < -((xp a s p.2).1 - p.1) by omega)
      rw [Int.mul_neg] at this
      omega
  have c1 : ¬ p.2 < b.2 := by omega
  have c3 : ¬ a.2 < b.2 := by omega
  unfold ray
  by_cases h5 : p.1 ≤ (xp a s p.2).1
  · have h6 : ¬ (xp a s p.2).1 < p.1 := by omega
    simp [c1, h.2, c3, c, h5, h6]
  · have h6 : (xp a s p.2).1 < p.1 := by omega
    simp [c1, h.2, c3, c, h5, h6]
theorem ray_off {a b p : Pt} (h : ¬ spans a b p.2) (ha : p.2 ≠ a.2) (hb : p.2 ≠ b.2) : ray a b p = false := by
  unfold spans at h
  unfold ray
  by_cases c1 : p.2 < a.2
  · have c2 : p.2 < b.2 := by omega
    simp [c1, c2]
  · have c2 : ¬ p.2 < b.2 := by omega
    simp [c1, c2]
theorem ray_self {a b : Pt} {s h : Int} (hs : b.1 - a.1 = s * (b.2 - a.2)) (hh : spans a b h) : ray a b (xp a s h) = decide (b.2 < a.2) := by
  unfold spans at hh
  rcases hh with hh | hh
  · rw [ray_up hs (by exact hh)]
    have : ¬ b.2 < a.2 := by omega
    simp [this, xp]
  · rw [ray_down hs (by exact hh)]
    have : b.2 < a.2 := by omega
    simp [this, xp]
theorem side_off {u v p : Pt} (h : u.2 < p.2 ∧ v.2 < p.2 ∨ p.2 ≤ u.2 ∧ p.2 ≤ v.2) : side u v p = false := by
  unfold side
  rcases h with ⟨a, b⟩ | ⟨a, b⟩
  · simp [a, b]
  · have a1 : ¬ u.2 < p.2 := by omega
    have b1 : ¬ v.2 < p.2 := by omega
    simp [a1, b1]
section
variable {n : Nat} {Q : Nat → Pt} {s : Nat → Int}
/-- no other edge meets a piece of an edge from which one end, or both, are left out -/
theorem Gen.piece (g : Gen n Q s) {i k : Nat} (hi : i < n) (hk : k < n) (hik : i ≠ k) {u v : Pt} (huv : u.2 ≠ v.2) (hu : onS (Q i) (Q (nx n i)) u) (hv : onS (Q i) (Q (nx n i)) v)
    (h1 : nx n i = k → u.2 ≠ (Q (nx n i)).2 ∧ v.2 ≠ (Q (nx n i)).2) (h2 : nx n k = i → u.2 ≠ (Q i).2 ∧ v.2 ≠ (Q i).2) : ¬ meets u v (Q k) (Q (nx n k)) := by
  have hn := g.n3
  by_cases c1 : nx n i = k
  · obtain ⟨a, b⟩ := h1 c1
    obtain ⟨n1, n2⟩ := g.nf i hi
    rw [← c1]
    exact adj_meets (g.lv i hi) (g.lv _ (nx_lt (by omega))) n1 n2 huv hu hv a b
  by_cases c2 : nx n k = i
  · obtain ⟨a, b⟩ := h2 c2
    obtain ⟨n1, n2⟩ := g.nf k hk
    rw [c2] at n1 n2 ⊢
    have l := g.lv k hk
    rw [c2] at l
    exact adj_meets' (g.lv i hi) l n1 n2 huv hu hv a b
  exact fun h => g.nm i k hi hk hik c1 c2 (sub_meets (g.lv i hi) (g.lv k hk) huv hu hv h)
theorem Gen.along (g : Gen n Q s) {i : Nat} (hi : i < n) {h h' : Int} (hh : spans (Q i) (Q (nx n i)) h) (hh' : spans (Q i) (Q (nx n i)) h') : par n Q (xp (Q i) (s i) h) = par n Q (xp (Q i) (s i) h') := by
  by_cases he : h = h'
  · rw [he]
  have hu := xp_on (g.lv i hi) (g.sl i hi) hh
  have hv := xp_on (g.lv i hi) (g.sl i hi) hh'
  have e : xorTo (fun k => ray (Q k) (Q (nx n k)) (xp (Q i) (s i) h) != ray (Q k) (Q (nx n k)) (xp (Q i) (s i) h')) n = false := by
    rw [xorTo_congr (g := fun k => side (xp (Q i) (s i) h) (xp (Q i) (s i) h') (Q k) != side (xp (Q i) (s i) h) (xp (Q i) (s i) h') (Q (nx n k))) (fun k hk => by
      by_cases hik : i = k
      · subst hik
        rw [ray_self (g.sl i hi) hh, ray_self (g.sl i hi) hh', side_off, side_off]
        · simp
        · unfold spans at hh hh'
          simp only [xp]
          omega
        · unfold spans at hh hh'
          simp only [xp]
          omega
      · refine seg (g.piece hi hk hik (by simpa [xp] using he) hu hv ?_ ?_)
        · intro _
          unfold spans at hh hh'
          simp only [xp]
          omega
        · intro _
          unfold spans at hh hh'
          simp only [xp]
          omega)]
    exact xor_cyc (fun k => side (xp (Q i) (s i) h) (xp (Q i) (s i) h') (Q k)) n
  rw [xorTo_bne] at e
  unfold par
  simpa using e
/-- the odd height of an edge beside a corner -/
def near1 (a b : Pt) : Int := if a.2 < b.2 then a.2 + 1 else a.2 - 1
theorem near1_spans {a b : Pt} (h : a.2 ≠ b.2) (ha : a.2 % 2 = 0) (hb : b.2 % 2 = 0) : spans a b (near1 a b) := by
  unfold spans near1
  split <;> omega
theorem spans_swap {a b : Pt} {h : Int} : spans b a h ↔ spans a b h := by unfold spans; exact ⟨fun h => h.symm, fun h => h.symm⟩
theorem b7 : ∀ x1 x2 x3 x4 y1 y2 y3 : Bool, (y1 != y2) = (x1 != x2) → (y2 != y3) = (x3 != x4) → (y1 != y3) = ((x1 != x3) != (x2 != x4)) := by decide
theorem b4 : ∀ a b c d : Bool, (a != b) = (c != d) → ((a != c) != (b != d)) = false := by decide
/-- at a sum of two lists of Bools that agree but for two places -/
theorem xorTo_two {f g : Nat → Bool} {i k : Nat} (hik : i ≠ k) : ∀ {n : Nat}, i < n → k < n → (∀ j, j < n → j ≠ i → j ≠ k → f j = g j) → (f i != f k) = (g i != g k) → xorTo f n = xorTo g n := by
  intro n hi hk h h2
  have e : xorTo (fun j => f j != g j) n = false := by
    have key : ∀ m, m ≤ n → xorTo (fun j => f j != g j) m = ((decide (i < m) && (f i != g i)) != (decide (k < m) && (f k != g k))) := by
      intro m
      induction m with
      | zero => intro _; simp [xorTo]
      | succ m ih =>
        intro hm
        rw [xorTo, ih (by omega)]
        by_cases c1 : m = i
        · subst c1
          have d1 : ¬ m < m := by omega
          have d2 : k < m + 1 ↔ k < m := by omega
          have d3 : m < m + 1 := by omega
          simp only [d1, d2, d3, decide_false, decide_true, Bool.false_and, Bool.true_and]
          generalize (decide (k < m) && (f k != g k)) = y
          generalize (f m != g m) = z
          revert y z
          decide
        by_cases c2 : m = k
        · subst c2
          have d1 : ¬ m < m := by omega
          have d2 : i < m + 1 ↔ i < m := by omega
          have d3 : m < m + 1 := by omega
          simp only [d1, d2, d3, decide_false, decide_true, Bool.false_and, Bool.true_and]
          generalize (decide (i < m) && (f i != g i)) = y
          generalize (f m != g m) = z
          revert y z
          decide
        have d1 : i < m + 1 ↔ i < m := by omega
        have d2 : k < m + 1 ↔ k < m := by omega
        rw [h m (by omega) c1 c2]
        simp [d1, d2]
    rw [key n (Nat.le_refl _)]
    simp only [hi, hk, decide_true, Bool.true_and]
    exact b4 _ _ _ _ h2
  rw [xorTo_bne] at e
  simpa using e
theorem Gen.corner (g : Gen n Q s) {i : Nat} (hi : i < n) : par n Q (xp (Q i) (s i) (near1 (Q (nx n i)) (Q i))) = par n Q (xp (Q (nx n i)) (s (nx n i)) (near1 (Q (nx n i)) (Q (nx n (nx n i))))) := by
  have hn := g.n3
  have hj := nx_lt (i := i) (show 0 < n by omega)
  have hj2 := nx_lt (i := nx n i) (show 0 < n by omega)
  have hij : i ≠ nx n i := by rw [nx_val hi]; split <;> omega
  have l1 := g.lv i hi
  have l2 := g.lv _ hj
  have ea := g.ev i hi
  have eb := g.ev _ hj
  have ec := g.ev _ hj2
  have sl1 := g.sl i hi
  have sl2 := g.sl _ hj
  have P1 := fun k hk (hik : i ≠ k) u v huv hu hv h1 h2 => g.piece (i := i) (k := k) hi hk hik (u := u) (v := v) huv hu hv h1 h2
  have P2 := fun k hk (hik : nx n i ≠ k) u v huv hu hv h1 h2 => g.piece (i := nx n i) (k := k) hj hk hik (u := u) (v := v) huv hu hv h1 h2
  obtain ⟨nf1, nf2⟩ := g.nf i hi
  generalize hjj : nx n i = j at *
  generalize hkk : nx n j = k' at *
  have s1 := near1_spans (a := Q j) (b := Q i) l1.symm eb ea
  have s2 := near1_spans (a := Q j) (b := Q k') l2 eb ec
  have hu := xp_on l1 sl1 (spans_swap.1 s1)
  have hv := xp_on l2 sl2 s2
  have hb1 : onS (Q i) (Q j) (Q j) := on_of_lev l1 (by simp only [crs]; grind) (by unfold bt; omega)
  have hb2 : onS (Q j) (Q k') (Q j) := on_of_lev l2 (by simp only [crs]; grind) (by unfold bt; omega)
  have u2 : (xp (Q i) (s i) (near1 (Q j) (Q i))).2 = near1 (Q j) (Q i) := rfl
  have v2 : (xp (Q j) (s j) (near1 (Q j) (Q k'))).2 = near1 (Q j) (Q k') := rfl
  -- values
  have ru := ray_self sl1 (spans_swap.1 s1)
  have rv := ray_self sl2 s2
  generalize hU : xp (Q i) (s i) (near1 (Q j) (Q i)) = u at *
  generalize hV : xp (Q j) (s j) (near1 (Q j) (Q k')) = v at *
  have nu : u.2 = (Q j).2 + 1 ∨ u.2 = (Q j).2 - 1 := by rw [u2]; unfold near1; split <;> simp
  have nv : v.2 = (Q j).2 + 1 ∨ v.2 = (Q j).2 - 1 := by rw [v2]; unfold near1; split <;> simp
  have ubne : u.2 ≠ (Q j).2 := by omega
  have vbne : v.2 ≠ (Q j).2 := by omega
  have e : xorTo (fun k => ray (Q k) (Q (nx n k)) u != ray (Q k) (Q (nx n k)) v) n = false := by
    rw [xorTo_two (f := fun k => ray (Q k) (Q (nx n k)) u != ray (Q k) (Q (nx n k)) v) (g := fun k => (side u (Q j) (Q k) != side (Q j) v (Q k)) != (side u (Q j) (Q (nx n k)) != side (Q j) v (Q (nx n k)))) (i := i) (k := j) hij hi hj]
    · exact xor_cyc (fun k => side u (Q j) (Q k) != side (Q j) v (Q k)) n
    · intro k hk h1 h2
      have m1 : ¬ meets u (Q j) (Q k) (Q (nx n k)) := P1 k hk (Ne.symm h1) u (Q j) ubne hu hb1 (fun h => absurd h (Ne.symm h2)) (fun _ => ⟨by unfold spans at s1; rw [u2]; omega, l1.symm⟩)
      have m2 : ¬ meets (Q j) v (Q k) (Q (nx n k)) := P2 k hk (Ne.symm h2) (Q j) v (Ne.symm vbne) hb2 hv (fun h => ⟨l2, by unfold spans at s2; rw [v2]; omega⟩) (fun h => by
        exfalso
        have : nx n i = nx n k := by rw [hjj, h]
        rw [nx_val hi, nx_val hk] at this
        split at this <;> split at this <;> omega)
      have q1 := seg m1
      have q2 := seg m2
      exact b7 _ _ _ _ _ _ _ q1 q2
    · -- the corner itself
      show ((ray (Q i) (Q (nx n i)) u != ray (Q i) (Q (nx n i)) v) != (ray (Q j) (Q (nx n j)) u != ray (Q j) (Q (nx n j)) v)) = (((side u (Q j) (Q i) != side (Q j) v (Q i)) != (side u (Q j) (Q (nx n i)) != side (Q j) v (Q (nx n i)))) != ((side u (Q j) (Q j) != side (Q j) v (Q j)) != (side u (Q j) (Q (nx n j)) != side (Q j) v (Q (nx n j)))))
      rw [hjj, hkk, ru, rv]
      have z1 : side u (Q j) (Q i) = false := side_off (by omega)
      have z2 : side (Q j) v (Q i) = false := side_off (by omega)
      have z3 : side u (Q j) (Q k') = false := side_off (by omega)
      have z4 : side (Q j) v (Q k') = false := side_off (by omega)
      rw [z1, z2, z3, z4]
      by_cases hs : u.2 = v.2
      · -- both edges on one side of the height
        have hne : u.1 ≠ v.1 := by
          intro he
          have huv : u = v := Prod.ext he hs
          refine adj l1 l2 nf1 nf2 hu ubne ?_
          rw [huv]; exact hv
        have xu : (xp (Q i) (s i) v.2).1 = u.1 := by rw [← hs, u2, ← hU]
        have xv : (xp (Q j) (s j) u.2).1 = v.1 := by rw [hs, v2, ← hV]
        have sv : spans (Q i) (Q j) v.2 := by rw [← hs, u2]; exact spans_swap.1 s1
        have su : spans (Q j) (Q k') u.2 := by rw [hs, v2]; exact s2
        have w1 : (Q j).2 < (Q i).2 ↔ u.2 = (Q j).2 + 1 := by
          rw [u2]; unfold near1; split <;> omega
        have w2 : (Q j).2 < (Q k').2 ↔ v.2 = (Q j).2 + 1 := by
          rw [v2]; unfold near1; split <;> omega
        by_cases hup : u.2 = (Q j).2 + 1
        · have c1 : (Q j).2 < (Q i).2 := w1.2 hup
          have c2 : (Q j).2 < (Q k').2 := w2.2 (by omega)
          have c3 : ¬ (Q k').2 < (Q j).2 := by omega
          have r1 : ray (Q i) (Q j) v = decide (v.1 ≤ u.1) := by rw [ray_down sl1 (by unfold spans at sv; omega), xu]
          have r2 : ray (Q j) (Q k') u = decide (u.1 < v.1) := by rw [ray_up sl2 (by unfold spans at su; omega), xv]
          rw [r1, r2]
          by_cases c4 : u.1 < v.1
          · have c5 : ¬ v.1 ≤ u.1 := by omega
            simp [c1, c3, c4, c5]
          · have c5 : v.1 ≤ u.1 := by omega
            simp [c1, c3, c4, c5]
        · have c1 : ¬ (Q j).2 < (Q i).2 := fun h => hup (w1.1 h)
          have c2 : ¬ (Q j).2 < (Q k').2 := fun h => hup (by rw [hs]; exact w2.1 h)
          have c3 : (Q k').2 < (Q j).2 := by omega
          have r1 : ray (Q i) (Q j) v = decide (v.1 < u.1) := by rw [ray_up sl1 (by unfold spans at sv; omega), xu]
          have r2 : ray (Q j) (Q k') u = decide (u.1 ≤ v.1) := by rw [ray_down sl2 (by unfold spans at su; omega), xv]
          rw [r1, r2]
          by_cases c4 : v.1 < u.1
          · have c5 : ¬ u.1 ≤ v.1 := by omega
            simp [c1, c3, c4, c5]
          · have c5 : u.1 ≤ v.1 := by omega
            simp [c1, c3, c4, c5]
      · have w1 : (Q j).2 < (Q i).2 ↔ u.2 = (Q j).2 + 1 := by
          rw [u2]; unfold near1; split <;> omega
        have w2 : (Q j).2 < (Q k').2 ↔ v.2 = (Q j).2 + 1 := by
          rw [v2]; unfold near1; split <;> omega
        have r1 : ray (Q i) (Q j) v = false := ray_off (by unfold spans; omega) (by omega) (by omega)
        have r2 : ray (Q j) (Q k') u = false := ray_off (by unfold spans; omega) (by omega) (by omega)
        rw [r1, r2]
        by_cases hup : u.2 = (Q j).2 + 1
        · have c1 : (Q j).2 < (Q i).2 := w1.2 hup
          have c3 : (Q k').2 < (Q j).2 := by omega
          simp [c1, c3]
        · have c1 : ¬ (Q j).2 < (Q i).2 := fun h => hup (w1.1 h)
          have c3 : ¬ (Q k').2 < (Q j).2 := by omega
          simp [c1, c3]
  rw [xorTo_bne] at e
  unfold par
  simpa using e
/-- one parity all along -/
theorem Gen.all (g : Gen n Q s) : ∃ t : Bool, ∀ i h, i < n → spans (Q i) (Q (nx n i)) h → par n Q (xp (Q i) (s i) h) = t := by
  have hn := g.n3
  refine ⟨par n Q (xp (Q 0) (s 0) (near1 (Q 0) (Q (nx n 0)))), ?_⟩
  have key : ∀ i, i < n → par n Q (xp (Q i) (s i) (near1 (Q i) (Q (nx n i)))) = par n Q (xp (Q 0) (s 0) (near1 (Q 0) (Q (nx n 0)))) := by
    intro i
    induction i with
    | zero => intro _; rfl
    | succ i ih =>
      intro hi
      have h1 := ih (by omega)
      have hx : nx n i = i + 1 := by rw [nx_val (by omega), if_pos hi]
      have h2 := g.corner (i := i) (by omega)
      rw [hx] at h2
      rw [← h2, ← h1]
      refine (g.along (by omega) ?_ ?_)
      · rw [hx]
        refine spans_swap.1 (near1_spans ?_ (g.ev _ hi) (g.ev i (by omega)))
        have := g.lv i (by omega)
        rw [hx] at this
        exact this.symm
      · exact near1_spans (g.lv i (by omega)) (g.ev i (by omega)) (g.ev _ (nx_lt (by omega)))
  intro i h hi hh
  rw [← key i hi]
  exact g.along hi hh (near1_spans (g.lv i hi) (g.ev i hi) (g.ev _ (nx_lt (by omega))))
end
end Go.Proofs.YtgbhhjdmochhpaaDoor
