/-
  Check of pipe. Conditions: none. By an AI agent.
-/
import Derived.Test.YtgbhhjdmochhpaaGreatDoorPipeD
namespace Go.Proofs.YtgbhhjdmochhpaaGreatDoor
open Go Go.ChangeShapes Go.WideShapes Go.RowKit Go.ChangeAt
set_option linter.unusedSimpArgs false
set_option linter.unusedVariables false

set_option maxRecDepth 20000 in
set_option maxHeartbeats 8000000 in
theorem check_pts (v : Value) (n : Nat) (x y z : Nat → Int) (r : Int) (w : World) (h : VecsAt w v n x y z) :
    Calls Tryz.prog 18 #[v, .int .i64 r] w fun e w' => e = .returned (.int .i64 (checkF n x y z r)) ∧ Below w.heap.size w w' := by
  by_cases h2 : n < 2
  · have E : checkF n x y z r = 3 := if_pos h2
    rw [E]
    clear E
    have hel := h.form
    obtain ⟨oa, cap, rfl, hn0, hel⟩ := hel
    have HEL := Lib.hid hel
    have HV := Lib.hid h
    clear hel h
    go_enter Tryz.func18, Tryz.ntmps18
    go_wp2
    go_returns
    exact ⟨rfl, by first | assumption | go_grown⟩
  by_cases h32 : 32 < n
  · have E : checkF n x y z r = 4 := by unfold checkF; rw [if_neg h2, if_pos h32]
    rw [E]
    clear E
    have hel := h.form
    obtain ⟨oa, cap, rfl, hn0, hel⟩ := hel
    have HEL := Lib.hid hel
    have HV := Lib.hid h
    clear hel h
    go_enter Tryz.func18, Tryz.ntmps18
    go_wp2
    go_returns
    exact ⟨rfl, by first | assumption | go_grown⟩
  obtain ⟨A, hA⟩ : ∃ A, allTo (inP x y z) n = A := ⟨_, rfl⟩
  by_cases h9 : allTo (inP x y z) n = false ∨ r < 1 ∨ 10000 < r
  · have E : checkF n x y z r = 9 := by unfold checkF; rw [if_neg h2, if_neg h32, if_pos h9]
    rw [E]
    clear E
    have hel := h.form
    obtain ⟨oa, cap, rfl, hn0, hel⟩ := hel
    have HEL := Lib.hid hel
    have HV := Lib.hid h
    clear hel h
    cases A
    · have HA := Lib.hid hA
      clear hA h9
      go_enter Tryz.func18, Tryz.ntmps18
      go_wp2_with fail
      (go_at_call 50; refine (contains_pts _ _ _ _ _ _ HV.out).mono ?_; rintro e w1 ⟨rfl, hb⟩)
      rw [HA.out]
      have HB1 := Lib.hid hb
      clear hb
      go_wp2
      go_returns
      exact ⟨rfl, HB1.out⟩
    · have h9' : r < 1 ∨ 10000 < r := by rw [hA] at h9; simpa using h9
      have HA := Lib.hid hA
      clear hA h9
      by_cases h91 : r < 1
      · clear h9'
        go_enter Tryz.func18, Tryz.ntmps18
        go_wp2_with fail
        (go_at_call 50; refine (contains_pts _ _ _ _ _ _ HV.out).mono ?_; rintro e w1 ⟨rfl, hb⟩)
        rw [HA.out]
        have HB1 := Lib.hid hb
        clear hb
        go_wp2
        go_returns
        exact ⟨rfl, HB1.out⟩
      · have h92 : 10000 < r := by omega
        clear h9'
        go_enter Tryz.func18, Tryz.ntmps18
        go_wp2_with fail
        (go_at_call 50; refine (contains_pts _ _ _ _ _ _ HV.out).mono ?_; rintro e w1 ⟨rfl, hb⟩)
        rw [HA.out]
        have HB1 := Lib.hid hb
        clear hb
        go_wp2
        go_returns
        exact ⟨rfl, HB1.out⟩
  have hA1 : A = true := by cases A; exact absurd (.inl hA) h9; rfl
  subst hA1
  have hr1 : 1 ≤ r := by omega
  have hr2 : r ≤ 10000 := by omega
  have HIN := Lib.hid (inP_all hA)
  have HA := Lib.hid hA
  obtain ⟨C, hC⟩ : ∃ C, checkF n x y z r = C := ⟨_, rfl⟩
  rw [hC]
  have HC : Hid (C = if allTo (fun i => !badB x y z i) (n - 1) = false then 17 else if allTo (fun i => !shortB x y z n r i) (n - 1) = false then 18 else 0) := by
    show C = _
    rw [← hC]; unfold checkF; rw [if_neg h2, if_neg h32, if_neg h9]
  have m2 : 2 ≤ n := by omega
  have m32 : n ≤ 32 := by omega
  clear hC hA h9 h2 h32
  have hel := h.form
  obtain ⟨oa, cap, rfl, hn0, hel⟩ := hel
  have HEL := Lib.hid hel
  have HV := Lib.hid h
  clear hel h
  go_enter Tryz.func18, Tryz.ntmps18
  go_wp2_with fail
  (go_at_call 50; refine (contains_pts _ _ _ _ _ _ HV.out).mono ?_; rintro e w1 ⟨rfl, hb⟩)
  rw [HA.out]
  have HB1 := Lib.hid hb
  clear hb
  go_wp2
  go_loopw [6] (fun i wr => ∃ k : Nat, k + 1 ≤ n ∧ i = .int .i64 ((k : Int) + 1) ∧ Hid (allTo (fun i => !badB x y z i) k = true) ∧ (wr.cell? ⟨w1.heap.size, 0, none⟩ = some (.int .i64 (lastX x k)) ∧ wr.cell? ⟨w1.heap.size, 1, none⟩ = some (.int .i64 (lastX y k)) ∧ wr.cell? ⟨w1.heap.size, 2, none⟩ = some (.int .i64 (lastX z k)) ∧ ∀ o, wr.frozen? ⟨w1.heap.size, o, none⟩ = false) ∧ w1.heap.size < wr.heap.size ∧ Below w1.heap.size w1 wr) (fun i _ => n + 1 - (intOf i).toNat)
  case atStart => exact ⟨0, by omega, rfl, rfl, ⟨by simp [go_sem, last_zero], by simp [go_sem, last_zero], by simp [go_sem, last_zero], by simp [go_sem]⟩, by simp, (Below.refl _ _).alloc (Nat.le_refl _) _⟩
  case round =>
    obtain ⟨k, hk, rfl, hq, ⟨l0, l1, l2, lf⟩, hlz, hb⟩ := hrel
    by_cases hlt : k + 1 < n
    · obtain ⟨b, off, rfl, hbl', hcl'⟩ := HEL.out k (by omega)
      have hbl : b < w1.heap.size := Nat.lt_of_lt_of_le hbl' HB1.out.size
      have hcl : ∀ k, k < n → w1.cell? ⟨b, off + k * 3, none⟩ = some (.int .i64 (x k)) ∧ w1.cell? ⟨b, off + k * 3 + 1, none⟩ = some (.int .i64 (y k)) ∧ w1.cell? ⟨b, off + k * 3 + 2, none⟩ = some (.int .i64 (z k)) := fun k hk => by obtain ⟨q1, q2, q3⟩ := hcl' k hk; exact ⟨(HB1.out.cell (p := ⟨_, _, none⟩) hbl').trans q1, (HB1.out.cell (p := ⟨_, _, none⟩) hbl').trans q2, (HB1.out.cell (p := ⟨_, _, none⟩) hbl').trans q3⟩
      have c0a : wr.cell? ⟨b, off + k * 3, none⟩ = some (.int .i64 (x k)) := (hb.cell (p := ⟨_, _, none⟩) hbl).trans (hcl k (by omega)).1
      have c1a : wr.cell? ⟨b, off + k * 3 + 1, none⟩ = some (.int .i64 (y k)) := (hb.cell (p := ⟨_, _, none⟩) hbl).trans (hcl k (by omega)).2.1
      have c2a : wr.cell? ⟨b, off + k * 3 + 2, none⟩ = some (.int .i64 (z k)) := (hb.cell (p := ⟨_, _, none⟩) hbl).trans (hcl k (by omega)).2.2
      have c0b : wr.cell? ⟨b, off + (k + 1) * 3, none⟩ = some (.int .i64 (x (k + 1))) := (hb.cell (p := ⟨_, _, none⟩) hbl).trans (hcl (k + 1) (by omega)).1
      have c1b : wr.cell? ⟨b, off + (k + 1) * 3 + 1, none⟩ = some (.int .i64 (y (k + 1))) := (hb.cell (p := ⟨_, _, none⟩) hbl).trans (hcl (k + 1) (by omega)).2.1
      have c2b : wr.cell? ⟨b, off + (k + 1) * 3 + 2, none⟩ = some (.int .i64 (z (k + 1))) := (hb.cell (p := ⟨_, _, none⟩) hbl).trans (hcl (k + 1) (by omega)).2.2
      have hbr : b < wr.heap.size := Nat.lt_of_lt_of_le hbl hb.size
      have hwr : w1.heap.size ≤ wr.heap.size := hb.size
      have HBr := Lib.hid hb
      have i1 := HIN.out k (by omega)
      have i2 := HIN.out (k + 1) (by omega)
      have hne : b ≠ wr.heap.size := by omega
      have hnl : b ≠ w1.heap.size := by omega
      clear hcl hcl' hb hbl'
      have k1 : IntKind.i64.wrap ((k : Int) + 1) = (k : Int) + 1 := IntWalk.i64_in _ (by omega)
      have k2 : IntKind.i64.wrap ((k : Int) + 1 - 1) = (k : Int) := by rw [show (k : Int) + 1 - 1 = k by omega]; exact IntWalk.i64_in _ (by omega)
      have k2' : IntKind.i64.wrap (k : Int) = (k : Int) := IntWalk.i64_in _ (by omega)
      have k3 : (0 : Int) ≤ (k : Int) + 1 := by omega
      have k4 : (k : Int) + 1 < n := by omega
      have k5 : ((k : Int) + 1).toNat = k + 1 := by omega
      have k6 : (k : Int) < n := by omega
      go_wp2_with fail
      refine wp_region_seq 16 [⟨13, 14, #[.int .i64 0, .int .i64 0, .int .i64 0], 39⟩] [] (by kernel_rfl) (by kernel_rfl) (by kernel_rfl) (by kernel_rfl) (by kernel_rfl) ?_ ?_ ?_
      · intro r hr; cases hr
      · intro r hr; cases hr
      simp only [List.take_succ_cons, List.take_zero, fillL, Act.put, List.setIfInBounds_toArray, List.set_cons_zero, List.set_cons_succ]
      apply seq_is (by kernel_rfl)
      · intro u wx hb hd
        replace hb := hb.nil
        have hz := hb.size
        (try simp only [World.size_alloc, World.size_setCell] at hz)
        have hz0 : b < wx.heap.size := by omega
        have hz1 : w1.heap.size < wx.heap.size := by omega
        obtain ⟨hc, hf⟩ := bcell hb
        clear hb hz
        simp [depsE, Region.binds, updE, kindOf, Prp.is, Prp.any] at hd
        go_simp
        first | exact ⟨Below.refl _ _, rfl⟩ | rfl
      apply seq_is (by kernel_rfl)
      · intro u wx hb hd
        replace hb := hb.nil
        have hz := hb.size
        (try simp only [World.size_alloc, World.size_setCell] at hz)
        have hz0 : b < wx.heap.size := by omega
        have hz1 : w1.heap.size < wx.heap.size := by omega
        obtain ⟨hc, hf⟩ := bcell hb
        clear hb hz
        simp [depsE, Region.binds, updE, kindOf, Prp.is, Prp.any] at hd
        go_simp
        first | exact ⟨Below.refl _ _, rfl⟩ | rfl
      apply seq_is (by kernel_rfl)
      · intro u wx hb hd
        replace hb := hb.nil
        have hz := hb.size
        (try simp only [World.size_alloc, World.size_setCell] at hz)
        have hz0 : b < wx.heap.size := by omega
        have hz1 : w1.heap.size < wx.heap.size := by omega
        obtain ⟨hc, hf⟩ := bcell hb
        clear hb hz
        simp [depsE, Region.binds, updE, kindOf, Prp.is, Prp.any] at hd
        go_simp
        first | exact ⟨Below.refl _ _, rfl⟩ | rfl
      apply seq_is (by kernel_rfl)
      · intro u wx hb hd
        replace hb := hb.nil
        have hz := hb.size
        (try simp only [World.size_alloc, World.size_setCell] at hz)
        have hz0 : b < wx.heap.size := by omega
        have hz1 : w1.heap.size < wx.heap.size := by omega
        obtain ⟨hc, hf⟩ := bcell hb
        clear hb hz
        simp [depsE, Region.binds, updE, kindOf, Prp.is, Prp.any] at hd
        go_simp
        first | exact ⟨Below.refl _ _, rfl⟩ | rfl
      apply seq_is (by kernel_rfl)
      · intro u wx hb hd
        replace hb := hb.nil
        have hz := hb.size
        (try simp only [World.size_alloc, World.size_setCell] at hz)
        have hz0 : b < wx.heap.size := by omega
        have hz1 : w1.heap.size < wx.heap.size := by omega
        obtain ⟨hc, hf⟩ := bcell hb
        clear hb hz
        simp [depsE, Region.binds, updE, kindOf, Prp.is, Prp.any] at hd
        go_simp
        first | exact ⟨Below.refl _ _, rfl⟩ | rfl
      apply seq_is (by kernel_rfl)
      · intro u wx hb hd
        replace hb := hb.nil
        have hz := hb.size
        (try simp only [World.size_alloc, World.size_setCell] at hz)
        have hz0 : b < wx.heap.size := by omega
        have hz1 : w1.heap.size < wx.heap.size := by omega
        obtain ⟨hc, hf⟩ := bcell hb
        clear hb hz
        simp [depsE, Region.binds, updE, kindOf, Prp.is, Prp.any] at hd
        go_simp
        first | exact ⟨Below.refl _ _, rfl⟩ | rfl
      apply seq_is (by kernel_rfl)
      · intro u wx hb hd
        replace hb := hb.nil
        have hz := hb.size
        (try simp only [World.size_alloc, World.size_setCell] at hz)
        have hz0 : b < wx.heap.size := by omega
        have hz1 : w1.heap.size < wx.heap.size := by omega
        obtain ⟨hc, hf⟩ := bcell hb
        clear hb hz
        simp [depsE, Region.binds, updE, kindOf, Prp.is, Prp.any] at hd
        go_simp
        first | exact ⟨Below.refl _ _, rfl⟩ | rfl
      apply seq_is (by kernel_rfl)
      · intro u wx hb hd
        replace hb := hb.nil
        have hz := hb.size
        (try simp only [World.size_alloc, World.size_setCell] at hz)
        have hz0 : b < wx.heap.size := by omega
        have hz1 : w1.heap.size < wx.heap.size := by omega
        obtain ⟨hc, hf⟩ := bcell hb
        clear hb hz
        simp [depsE, Region.binds, updE, kindOf, Prp.is, Prp.any] at hd
        go_simp
        first | exact ⟨Below.refl _ _, rfl⟩ | rfl
      apply seq_is (by kernel_rfl)
      · intro u wx hb hd
        replace hb := hb.nil
        have hz := hb.size
        (try simp only [World.size_alloc, World.size_setCell] at hz)
        have hz0 : b < wx.heap.size := by omega
        have hz1 : w1.heap.size < wx.heap.size := by omega
        obtain ⟨hc, hf⟩ := bcell hb
        clear hb hz
        simp [depsE, Region.binds, updE, kindOf, Prp.is, Prp.any] at hd
        go_simp
        first | exact ⟨Below.refl _ _, rfl⟩ | rfl
      apply seq_is (by kernel_rfl)
      · intro u wx hb hd
        replace hb := hb.nil
        have hz := hb.size
        (try simp only [World.size_alloc, World.size_setCell] at hz)
        have hz0 : b < wx.heap.size := by omega
        have hz1 : w1.heap.size < wx.heap.size := by omega
        obtain ⟨hc, hf⟩ := bcell hb
        clear hb hz
        simp [depsE, Region.binds, updE, kindOf, Prp.is, Prp.any] at hd
        go_simp
        first | rfl | (go_at_call 16; refine (direction_in _ _ _ _ _ _ _ i1 i2).mono ?_; rintro e w1 ⟨rfl, hb1⟩; first | exact ⟨rfl, hb1⟩ | exact ⟨_, rfl, hb1, rfl⟩)
      apply seq_is (by kernel_rfl)
      · intro u wx hb hd
        replace hb := hb.nil
        have hz := hb.size
        (try simp only [World.size_alloc, World.size_setCell] at hz)
        have hz0 : b < wx.heap.size := by omega
        have hz1 : w1.heap.size < wx.heap.size := by omega
        obtain ⟨hc, hf⟩ := bcell hb
        clear hb hz
        simp [depsE, Region.binds, updE, kindOf, Prp.is, Prp.any] at hd
        go_simp
        first | exact ⟨Below.refl _ _, rfl⟩ | rfl
      apply seq_is (by kernel_rfl)
      · intro u wx hb hd
        replace hb := hb.nil
        have hz := hb.size
        (try simp only [World.size_alloc, World.size_setCell] at hz)
        have hz0 : b < wx.heap.size := by omega
        have hz1 : w1.heap.size < wx.heap.size := by omega
        obtain ⟨hc, hf⟩ := bcell hb
        clear hb hz
        simp [depsE, Region.binds, updE, kindOf, Prp.is, Prp.any] at hd
        go_simp
        first | exact ⟨Below.refl _ _, rfl⟩ | rfl
      apply seq_is (by kernel_rfl)
      · intro u wx hb hd
        replace hb := hb.nil
        have hz := hb.size
        (try simp only [World.size_alloc, World.size_setCell] at hz)
        have hz0 : b < wx.heap.size := by omega
        have hz1 : w1.heap.size < wx.heap.size := by omega
        obtain ⟨hc, hf⟩ := bcell hb
        clear hb hz
        simp [depsE, Region.binds, updE, kindOf, Prp.is, Prp.any] at hd
        go_simp
        first | exact ⟨Below.refl _ _, rfl⟩ | rfl
      refine seq_var ⟨13, 14, #[.int .i64 0, .int .i64 0, .int .i64 0], 39⟩ (by simp) rfl ?_ ?_
      · intro u wx hb
        refine ⟨by simp [Region.wanted], ?_⟩
        go_simp
        first | done | rfl | exact ⟨rfl, rfl⟩
      apply seq_sto_agg ⟨13, 14, #[.int .i64 0, .int .i64 0, .int .i64 0], 39⟩ (by simp) rfl (by kernel_rfl) rfl (by kernel_rfl)
      · intro u wx hb hd
        replace hb := hb.nil
        have hz := hb.size
        (try simp only [World.size_alloc, World.size_setCell] at hz)
        have hz0 : b < wx.heap.size := by omega
        have hz1 : w1.heap.size < wx.heap.size := by omega
        obtain ⟨hc, hf⟩ := bcell hb
        clear hb hz
        simp [depsE, Region.binds, updE, kindOf, Prp.is, Prp.any] at hd
        refine ⟨by simp [Region.wanted], fun b' hub hlb hcells => ?_⟩
        have hub' : u 13 = .pointer (some ⟨b', 0, none⟩) := hub
        have hcells' : wx.heap[b']? = some (.cells #[.int .i64 0, .int .i64 0, .int .i64 0] 39) := hcells
        have hat := cells_at3 hcells'
        have HCL := Lib.hid hcells'
        clear hcells hcells' hub
        go_simp
        exact Stored.c3 HCL.out _ _ _
      apply seq_is (by kernel_rfl)
      · intro u wx hb hd
        replace hb := hb.nil
        have hz := hb.size
        (try simp only [World.size_alloc, World.size_setCell] at hz)
        have hz0 : b < wx.heap.size := by omega
        have hz1 : w1.heap.size < wx.heap.size := by omega
        obtain ⟨hc, hf⟩ := bcell hb
        clear hb hz
        simp [depsE, Region.binds, updE, kindOf, Prp.is, Prp.any] at hd
        go_simp
        first | exact ⟨Below.refl _ _, rfl⟩ | rfl
      intro u w5 hb hE hV hP
      replace hb := hb.nil
      clear hP
      have e0 : u 0 = _ := endE_get hE 0 (by decide) (by simp [kindOf])
      have e1 : u 1 = _ := endE_get hE 1 (by decide) (by simp [kindOf])
      have e2 : u 2 = _ := endE_get hE 2 (by decide) (by simp [kindOf])
      have e3 : u 3 = _ := endE_get hE 3 (by decide) (by simp [kindOf])
      have e4 : u 4 = _ := endE_get hE 4 (by decide) (by simp [kindOf])
      have e5 : u 5 = _ := endE_get hE 5 (by decide) (by simp [kindOf])
      have e6 : u 6 = _ := endE_get hE 6 (by decide) (by simp [kindOf])
      have e7 : u 7 = _ := endE_get hE 7 (by decide) (by simp [kindOf])
      have e8 : u 8 = _ := endE_get hE 8 (by decide) (by simp [kindOf])
      have e9 : u 9 = _ := endE_get hE 9 (by decide) (by simp [kindOf])
      have e10 : u 10 = _ := endE_get hE 10 (by decide) (by simp [kindOf])
      have e11 : u 11 = _ := endE_get hE 11 (by decide) (by simp [kindOf])
      have e12 : u 12 = _ := endE_get hE 12 (by decide) (by simp [kindOf])
      have e14 : u 14 = _ := endE_get hE 14 (by decide) (by simp [kindOf])
      have e15 : u 15 = _ := endE_get hE 15 (by decide) (by simp [kindOf])
      obtain ⟨⟨V0, pv0, lv0, qv0⟩, -, -⟩ := hV
      replace qv0 : w5.heap[V0]? = some (.cells (u 14).cells 39) := qv0
      rw [e14] at qv0
      replace pv0 : u 13 = .pointer (some ⟨V0, 0, none⟩) := pv0
      obtain ⟨mV00, mV01, mV02, mfV0, msV0⟩ := cells_at3 qv0
      have HQV0 := Lib.hid qv0
      clear qv0
      (try simp only [World.size_alloc, World.size_setCell] at lv0)
      have dV0w50 : V0 ≠ b := by omega
      have dV0w51 : V0 ≠ w1.heap.size := by omega
      clear lv0
      simp only [List.drop_succ_cons, List.drop_zero, List.take_succ_cons, List.take_zero, fillL, Act.put, List.setIfInBounds_toArray, List.set_cons_zero, List.set_cons_succ, e0, e1, e2, e3, e4, e5, e6, e7, e8, e9, e10, e11, e12, e14, e15, pv0]
      clear e0 e1 e2 e3 e4 e5 e6 e7 e8 e9 e10 e11 e12 e14 e15 pv0 hE
      have HBWw5 := Lib.hid hb
      have hw5 := below_step (w := w1) (by first | assumption | go_grown) hb
      have hzw5 := hb.size
      (try simp only [World.size_alloc, World.size_setCell] at hzw5)
      have hzw50 : b < w5.heap.size := by omega
      have hzw51 : w1.heap.size < w5.heap.size := by omega
      have HHw5 := Lib.hid hb.block
      obtain ⟨hcw5, hfw5⟩ := bcell hb
      clear hb hzw5
      clear k1 k2 k2'
      have hst := bad_step x y z k (allTo_have hq.out)
      obtain ⟨AX, hAX⟩ : ∃ AX, isAxis (x (k + 1) - x k) (y (k + 1) - y k) (z (k + 1) - z k) = AX := ⟨_, rfl⟩
      have e1 := fun W => eql_vec (sgn (x (k + 1) - x k)) (sgn (y (k + 1) - y k)) (sgn (z (k + 1) - z k)) (lastX x k) (lastX y k) (lastX z k) W
      have e2 := fun W => eql_vec (sgn (x (k + 1) - x k)) (sgn (y (k + 1) - y k)) (sgn (z (k + 1) - z k)) (-lastX x k) (-lastX y k) (-lastX z k) W
      obtain ⟨E1, hE1⟩ : ∃ E, decide (((sgn (x (k + 1) - x k)), (sgn (y (k + 1) - y k)), (sgn (z (k + 1) - z k))) = ((lastX x k), (lastX y k), (lastX z k))) = E := ⟨_, rfl⟩
      obtain ⟨E2, hE2⟩ : ∃ E, decide (((sgn (x (k + 1) - x k)), (sgn (y (k + 1) - y k)), (sgn (z (k + 1) - z k))) = ((-lastX x k), (-lastX y k), (-lastX z k))) = E := ⟨_, rfl⟩
      have hlb0 := last_bd x k
      have hlb1 := last_bd y k
      have hlb2 := last_bd z k
      have HIL := Lib.hid (in_small hlb0 hlb1 hlb2)
      clear hlb0 hlb1 hlb2
      rw [hAX, hE1, hE2] at hst
      rw [hE1] at e1
      rw [hE2] at e2
      rw [hAX]
      have HST := Lib.hid hst
      clear hst hAX hE1 hE2
      cases AX
      · have hr : C = 17 := by rw [HC.out, if_pos (allTo_false (f := badB x y z) (i := k) (by omega) HST.out)]
        have HR := Lib.hid hr
        clear hr
        go_wp2_with fail
        refine wp_region_seq 13 [] [] (by kernel_rfl) (by kernel_rfl) (by kernel_rfl) (by kernel_rfl) (by kernel_rfl) ?_ ?_ ?_
        · intro r hr; cases hr
        · intro r hr; cases hr
        simp only [List.take_succ_cons, List.take_zero, fillL, Act.put, List.setIfInBounds_toArray, List.set_cons_zero, List.set_cons_succ]
        apply seq_is (by kernel_rfl)
        · intro u wx hb hd
          replace hb := hb.nil
          have hz := hb.size
          (try simp only [World.size_alloc, World.size_setCell] at hz)
          have hz0 : b < wx.heap.size := by omega
          have hz1 : w1.heap.size < wx.heap.size := by omega
          have hz2 : V0 < wx.heap.size := by omega
          obtain ⟨hc, hf⟩ := bcell hb
          clear hb hz
          simp [depsE, Region.binds, updE, kindOf, Prp.is, Prp.any] at hd
          go_simp
          first | exact ⟨Below.refl _ _, rfl⟩ | rfl
        apply seq_is (by kernel_rfl)
        · intro u wx hb hd
          replace hb := hb.nil
          have hz := hb.size
          (try simp only [World.size_alloc, World.size_setCell] at hz)
          have hz0 : b < wx.heap.size := by omega
          have hz1 : w1.heap.size < wx.heap.size := by omega
          have hz2 : V0 < wx.heap.size := by omega
          obtain ⟨hc, hf⟩ := bcell hb
          clear hb hz
          simp [depsE, Region.binds, updE, kindOf, Prp.is, Prp.any] at hd
          go_simp
          first | exact ⟨Below.refl _ _, rfl⟩ | rfl
        apply seq_is (by kernel_rfl)
        · intro u wx hb hd
          replace hb := hb.nil
          have hz := hb.size
          (try simp only [World.size_alloc, World.size_setCell] at hz)
          have hz0 : b < wx.heap.size := by omega
          have hz1 : w1.heap.size < wx.heap.size := by omega
          have hz2 : V0 < wx.heap.size := by omega
          obtain ⟨hc, hf⟩ := bcell hb
          clear hb hz
          simp [depsE, Region.binds, updE, kindOf, Prp.is, Prp.any] at hd
          go_simp
          first | exact ⟨Below.refl _ _, rfl⟩ | rfl
        apply seq_is (by kernel_rfl)
        · intro u wx hb hd
          replace hb := hb.nil
          have hz := hb.size
          (try simp only [World.size_alloc, World.size_setCell] at hz)
          have hz0 : b < wx.heap.size := by omega
          have hz1 : w1.heap.size < wx.heap.size := by omega
          have hz2 : V0 < wx.heap.size := by omega
          obtain ⟨hc, hf⟩ := bcell hb
          clear hb hz
          simp [depsE, Region.binds, updE, kindOf, Prp.is, Prp.any] at hd
          go_simp
          first | exact ⟨Below.refl _ _, rfl⟩ | rfl
        apply seq_is (by kernel_rfl)
        · intro u wx hb hd
          replace hb := hb.nil
          have hz := hb.size
          (try simp only [World.size_alloc, World.size_setCell] at hz)
          have hz0 : b < wx.heap.size := by omega
          have hz1 : w1.heap.size < wx.heap.size := by omega
          have hz2 : V0 < wx.heap.size := by omega
          obtain ⟨hc, hf⟩ := bcell hb
          clear hb hz
          simp [depsE, Region.binds, updE, kindOf, Prp.is, Prp.any] at hd
          go_simp
          first | exact ⟨Below.refl _ _, rfl⟩ | rfl
        apply seq_is (by kernel_rfl)
        · intro u wx hb hd
          replace hb := hb.nil
          have hz := hb.size
          (try simp only [World.size_alloc, World.size_setCell] at hz)
          have hz0 : b < wx.heap.size := by omega
          have hz1 : w1.heap.size < wx.heap.size := by omega
          have hz2 : V0 < wx.heap.size := by omega
          obtain ⟨hc, hf⟩ := bcell hb
          clear hb hz
          simp [depsE, Region.binds, updE, kindOf, Prp.is, Prp.any] at hd
          go_simp
          first | exact ⟨Below.refl _ _, rfl⟩ | rfl
        apply seq_is (by kernel_rfl)
        · intro u wx hb hd
          replace hb := hb.nil
          have hz := hb.size
          (try simp only [World.size_alloc, World.size_setCell] at hz)
          have hz0 : b < wx.heap.size := by omega
          have hz1 : w1.heap.size < wx.heap.size := by omega
          have hz2 : V0 < wx.heap.size := by omega
          obtain ⟨hc, hf⟩ := bcell hb
          clear hb hz
          simp [depsE, Region.binds, updE, kindOf, Prp.is, Prp.any] at hd
          go_simp
          first | exact ⟨Below.refl _ _, rfl⟩ | rfl
        apply seq_is (by kernel_rfl)
        · intro u wx hb hd
          replace hb := hb.nil
          have hz := hb.size
          (try simp only [World.size_alloc, World.size_setCell] at hz)
          have hz0 : b < wx.heap.size := by omega
          have hz1 : w1.heap.size < wx.heap.size := by omega
          have hz2 : V0 < wx.heap.size := by omega
          obtain ⟨hc, hf⟩ := bcell hb
          clear hb hz
          simp [depsE, Region.binds, updE, kindOf, Prp.is, Prp.any] at hd
          go_simp
          first | exact ⟨Below.refl _ _, rfl⟩ | rfl
        apply seq_is (by kernel_rfl)
        · intro u wx hb hd
          replace hb := hb.nil
          have hz := hb.size
          (try simp only [World.size_alloc, World.size_setCell] at hz)
          have hz0 : b < wx.heap.size := by omega
          have hz1 : w1.heap.size < wx.heap.size := by omega
          have hz2 : V0 < wx.heap.size := by omega
          obtain ⟨hc, hf⟩ := bcell hb
          clear hb hz
          simp [depsE, Region.binds, updE, kindOf, Prp.is, Prp.any] at hd
          go_simp
          first | exact ⟨Below.refl _ _, rfl⟩ | rfl
        apply seq_is (by kernel_rfl)
        · intro u wx hb hd
          replace hb := hb.nil
          have hz := hb.size
          (try simp only [World.size_alloc, World.size_setCell] at hz)
          have hz0 : b < wx.heap.size := by omega
          have hz1 : w1.heap.size < wx.heap.size := by omega
          have hz2 : V0 < wx.heap.size := by omega
          obtain ⟨hc, hf⟩ := bcell hb
          clear hb hz
          simp [depsE, Region.binds, updE, kindOf, Prp.is, Prp.any] at hd
          go_simp
          first | exact ⟨Below.refl _ _, rfl⟩ | rfl
        apply seq_is (by kernel_rfl)
        · intro u wx hb hd
          replace hb := hb.nil
          have hz := hb.size
          (try simp only [World.size_alloc, World.size_setCell] at hz)
          have hz0 : b < wx.heap.size := by omega
          have hz1 : w1.heap.size < wx.heap.size := by omega
          have hz2 : V0 < wx.heap.size := by omega
          obtain ⟨hc, hf⟩ := bcell hb
          clear hb hz
          simp [depsE, Region.binds, updE, kindOf, Prp.is, Prp.any] at hd
          go_simp
          first | rfl | (go_at_call 52; refine (popposite_neg _ _ _ _ HIL.out).mono ?_; rintro e w1 ⟨rfl, hb1⟩; first | exact ⟨rfl, hb1⟩ | exact ⟨_, rfl, hb1, rfl⟩)
        apply seq_is (by kernel_rfl)
        · intro u wx hb hd
          replace hb := hb.nil
          have hz := hb.size
          (try simp only [World.size_alloc, World.size_setCell] at hz)
          have hz0 : b < wx.heap.size := by omega
          have hz1 : w1.heap.size < wx.heap.size := by omega
          have hz2 : V0 < wx.heap.size := by omega
          obtain ⟨hc, hf⟩ := bcell hb
          clear hb hz
          simp [depsE, Region.binds, updE, kindOf, Prp.is, Prp.any] at hd
          go_simp
          first | exact ⟨Below.refl _ _, rfl⟩ | rfl
        apply seq_is (by kernel_rfl)
        · intro u wx hb hd
          replace hb := hb.nil
          have hz := hb.size
          (try simp only [World.size_alloc, World.size_setCell] at hz)
          have hz0 : b < wx.heap.size := by omega
          have hz1 : w1.heap.size < wx.heap.size := by omega
          have hz2 : V0 < wx.heap.size := by omega
          obtain ⟨hc, hf⟩ := bcell hb
          clear hb hz
          simp [depsE, Region.binds, updE, kindOf, Prp.is, Prp.any] at hd
          go_simp
          first | exact ⟨Below.refl _ _, rfl⟩ | rfl
        intro u w6 hb hE hV hP
        replace hb := hb.nil
        clear hP
        have e0 : u 0 = _ := endE_get hE 0 (by decide) (by simp [kindOf])
        have e1 : u 1 = _ := endE_get hE 1 (by decide) (by simp [kindOf])
        have e2 : u 2 = _ := endE_get hE 2 (by decide) (by simp [kindOf])
        have e3 : u 3 = _ := endE_get hE 3 (by decide) (by simp [kindOf])
        have e4 : u 4 = _ := endE_get hE 4 (by decide) (by simp [kindOf])
        have e5 : u 5 = _ := endE_get hE 5 (by decide) (by simp [kindOf])
        have e6 : u 6 = _ := endE_get hE 6 (by decide) (by simp [kindOf])
        have e7 : u 7 = _ := endE_get hE 7 (by decide) (by simp [kindOf])
        have e8 : u 8 = _ := endE_get hE 8 (by decide) (by simp [kindOf])
        have e9 : u 9 = _ := endE_get hE 9 (by decide) (by simp [kindOf])
        have e10 : u 10 = _ := endE_get hE 10 (by decide) (by simp [kindOf])
        have e11 : u 11 = _ := endE_get hE 11 (by decide) (by simp [kindOf])
        have e12 : u 12 = _ := endE_get hE 12 (by decide) (by simp [kindOf])
        clear hV
        simp only [List.drop_succ_cons, List.drop_zero, List.take_succ_cons, List.take_zero, fillL, Act.put, List.setIfInBounds_toArray, List.set_cons_zero, List.set_cons_succ, e0, e1, e2, e3, e4, e5, e6, e7, e8, e9, e10, e11, e12]
        clear e0 e1 e2 e3 e4 e5 e6 e7 e8 e9 e10 e11 e12 hE
        have HBWw6 := Lib.hid hb
        have hw6 := below_step (w := w1) (by first | assumption | go_grown) hb
        have hzw6 := hb.size
        (try simp only [World.size_alloc, World.size_setCell] at hzw6)
        have hzw60 : b < w6.heap.size := by omega
        have hzw61 : w1.heap.size < w6.heap.size := by omega
        have hzw62 : V0 < w6.heap.size := by omega
        have HHw6 := Lib.hid hb.block
        obtain ⟨hcw6, hfw6⟩ := bcell hb
        clear hb hzw6
        go_wp2
        go_returns
        rw [HR.out]
        exact ⟨rfl, below_step HB1.out hw6⟩
      cases E1
      · cases E2
        · have hq2 : Hid (allTo (fun i => !badB x y z i) (k + 1) = true) := allTo_next (f := badB x y z) hq.out HST.out
          go_wp2_with fail
          refine wp_region_seq 13 [] [] (by kernel_rfl) (by kernel_rfl) (by kernel_rfl) (by kernel_rfl) (by kernel_rfl) ?_ ?_ ?_
          · intro r hr; cases hr
          · intro r hr; cases hr
          simp only [List.take_succ_cons, List.take_zero, fillL, Act.put, List.setIfInBounds_toArray, List.set_cons_zero, List.set_cons_succ]
          apply seq_is (by kernel_rfl)
          · intro u wx hb hd
            replace hb := hb.nil
            have hz := hb.size
            (try simp only [World.size_alloc, World.size_setCell] at hz)
            have hz0 : b < wx.heap.size := by omega
            have hz1 : w1.heap.size < wx.heap.size := by omega
            have hz2 : V0 < wx.heap.size := by omega
            obtain ⟨hc, hf⟩ := bcell hb
            clear hb hz
            simp [depsE, Region.binds, updE, kindOf, Prp.is, Prp.any] at hd
            go_simp
            first | exact ⟨Below.refl _ _, rfl⟩ | rfl
          apply seq_is (by kernel_rfl)
          · intro u wx hb hd
            replace hb := hb.nil
            have hz := hb.size
            (try simp only [World.size_alloc, World.size_setCell] at hz)
            have hz0 : b < wx.heap.size := by omega
            have hz1 : w1.heap.size < wx.heap.size := by omega
            have hz2 : V0 < wx.heap.size := by omega
            obtain ⟨hc, hf⟩ := bcell hb
            clear hb hz
            simp [depsE, Region.binds, updE, kindOf, Prp.is, Prp.any] at hd
            go_simp
            first | exact ⟨Below.refl _ _, rfl⟩ | rfl
          apply seq_is (by kernel_rfl)
          · intro u wx hb hd
            replace hb := hb.nil
            have hz := hb.size
            (try simp only [World.size_alloc, World.size_setCell] at hz)
            have hz0 : b < wx.heap.size := by omega
            have hz1 : w1.heap.size < wx.heap.size := by omega
            have hz2 : V0 < wx.heap.size := by omega
            obtain ⟨hc, hf⟩ := bcell hb
            clear hb hz
            simp [depsE, Region.binds, updE, kindOf, Prp.is, Prp.any] at hd
            go_simp
            first | exact ⟨Below.refl _ _, rfl⟩ | rfl
          apply seq_is (by kernel_rfl)
          · intro u wx hb hd
            replace hb := hb.nil
            have hz := hb.size
            (try simp only [World.size_alloc, World.size_setCell] at hz)
            have hz0 : b < wx.heap.size := by omega
            have hz1 : w1.heap.size < wx.heap.size := by omega
            have hz2 : V0 < wx.heap.size := by omega
            obtain ⟨hc, hf⟩ := bcell hb
            clear hb hz
            simp [depsE, Region.binds, updE, kindOf, Prp.is, Prp.any] at hd
            go_simp
            first | exact ⟨Below.refl _ _, rfl⟩ | rfl
          apply seq_is (by kernel_rfl)
          · intro u wx hb hd
            replace hb := hb.nil
            have hz := hb.size
            (try simp only [World.size_alloc, World.size_setCell] at hz)
            have hz0 : b < wx.heap.size := by omega
            have hz1 : w1.heap.size < wx.heap.size := by omega
            have hz2 : V0 < wx.heap.size := by omega
            obtain ⟨hc, hf⟩ := bcell hb
            clear hb hz
            simp [depsE, Region.binds, updE, kindOf, Prp.is, Prp.any] at hd
            go_simp
            first | exact ⟨Below.refl _ _, rfl⟩ | rfl
          apply seq_is (by kernel_rfl)
          · intro u wx hb hd
            replace hb := hb.nil
            have hz := hb.size
            (try simp only [World.size_alloc, World.size_setCell] at hz)
            have hz0 : b < wx.heap.size := by omega
            have hz1 : w1.heap.size < wx.heap.size := by omega
            have hz2 : V0 < wx.heap.size := by omega
            obtain ⟨hc, hf⟩ := bcell hb
            clear hb hz
            simp [depsE, Region.binds, updE, kindOf, Prp.is, Prp.any] at hd
            go_simp
            first | exact ⟨Below.refl _ _, rfl⟩ | rfl
          apply seq_is (by kernel_rfl)
          · intro u wx hb hd
            replace hb := hb.nil
            have hz := hb.size
            (try simp only [World.size_alloc, World.size_setCell] at hz)
            have hz0 : b < wx.heap.size := by omega
            have hz1 : w1.heap.size < wx.heap.size := by omega
            have hz2 : V0 < wx.heap.size := by omega
            obtain ⟨hc, hf⟩ := bcell hb
            clear hb hz
            simp [depsE, Region.binds, updE, kindOf, Prp.is, Prp.any] at hd
            go_simp
            first | exact ⟨Below.refl _ _, rfl⟩ | rfl
          apply seq_is (by kernel_rfl)
          · intro u wx hb hd
            replace hb := hb.nil
            have hz := hb.size
            (try simp only [World.size_alloc, World.size_setCell] at hz)
            have hz0 : b < wx.heap.size := by omega
            have hz1 : w1.heap.size < wx.heap.size := by omega
            have hz2 : V0 < wx.heap.size := by omega
            obtain ⟨hc, hf⟩ := bcell hb
            clear hb hz
            simp [depsE, Region.binds, updE, kindOf, Prp.is, Prp.any] at hd
            go_simp
            first | exact ⟨Below.refl _ _, rfl⟩ | rfl
          apply seq_is (by kernel_rfl)
          · intro u wx hb hd
            replace hb := hb.nil
            have hz := hb.size
            (try simp only [World.size_alloc, World.size_setCell] at hz)
            have hz0 : b < wx.heap.size := by omega
            have hz1 : w1.heap.size < wx.heap.size := by omega
            have hz2 : V0 < wx.heap.size := by omega
            obtain ⟨hc, hf⟩ := bcell hb
            clear hb hz
            simp [depsE, Region.binds, updE, kindOf, Prp.is, Prp.any] at hd
            go_simp
            first | exact ⟨Below.refl _ _, rfl⟩ | rfl
          apply seq_is (by kernel_rfl)
          · intro u wx hb hd
            replace hb := hb.nil
            have hz := hb.size
            (try simp only [World.size_alloc, World.size_setCell] at hz)
            have hz0 : b < wx.heap.size := by omega
            have hz1 : w1.heap.size < wx.heap.size := by omega
            have hz2 : V0 < wx.heap.size := by omega
            obtain ⟨hc, hf⟩ := bcell hb
            clear hb hz
            simp [depsE, Region.binds, updE, kindOf, Prp.is, Prp.any] at hd
            go_simp
            first | exact ⟨Below.refl _ _, rfl⟩ | rfl
          apply seq_is (by kernel_rfl)
          · intro u wx hb hd
            replace hb := hb.nil
            have hz := hb.size
            (try simp only [World.size_alloc, World.size_setCell] at hz)
            have hz0 : b < wx.heap.size := by omega
            have hz1 : w1.heap.size < wx.heap.size := by omega
            have hz2 : V0 < wx.heap.size := by omega
            obtain ⟨hc, hf⟩ := bcell hb
            clear hb hz
            simp [depsE, Region.binds, updE, kindOf, Prp.is, Prp.any] at hd
            go_simp
            first | rfl | (go_at_call 52; refine (popposite_neg _ _ _ _ HIL.out).mono ?_; rintro e w1 ⟨rfl, hb1⟩; first | exact ⟨rfl, hb1⟩ | exact ⟨_, rfl, hb1, rfl⟩)
          apply seq_is (by kernel_rfl)
          · intro u wx hb hd
            replace hb := hb.nil
            have hz := hb.size
            (try simp only [World.size_alloc, World.size_setCell] at hz)
            have hz0 : b < wx.heap.size := by omega
            have hz1 : w1.heap.size < wx.heap.size := by omega
            have hz2 : V0 < wx.heap.size := by omega
            obtain ⟨hc, hf⟩ := bcell hb
            clear hb hz
            simp [depsE, Region.binds, updE, kindOf, Prp.is, Prp.any] at hd
            go_simp
            first | exact ⟨Below.refl _ _, rfl⟩ | rfl
          apply seq_is (by kernel_rfl)
          · intro u wx hb hd
            replace hb := hb.nil
            have hz := hb.size
            (try simp only [World.size_alloc, World.size_setCell] at hz)
            have hz0 : b < wx.heap.size := by omega
            have hz1 : w1.heap.size < wx.heap.size := by omega
            have hz2 : V0 < wx.heap.size := by omega
            obtain ⟨hc, hf⟩ := bcell hb
            clear hb hz
            simp [depsE, Region.binds, updE, kindOf, Prp.is, Prp.any] at hd
            go_simp
            first | exact ⟨Below.refl _ _, rfl⟩ | rfl
          intro u w6 hb hE hV hP
          replace hb := hb.nil
          clear hP
          have e0 : u 0 = _ := endE_get hE 0 (by decide) (by simp [kindOf])
          have e1 : u 1 = _ := endE_get hE 1 (by decide) (by simp [kindOf])
          have e2 : u 2 = _ := endE_get hE 2 (by decide) (by simp [kindOf])
          have e3 : u 3 = _ := endE_get hE 3 (by decide) (by simp [kindOf])
          have e4 : u 4 = _ := endE_get hE 4 (by decide) (by simp [kindOf])
          have e5 : u 5 = _ := endE_get hE 5 (by decide) (by simp [kindOf])
          have e6 : u 6 = _ := endE_get hE 6 (by decide) (by simp [kindOf])
          have e7 : u 7 = _ := endE_get hE 7 (by decide) (by simp [kindOf])
          have e8 : u 8 = _ := endE_get hE 8 (by decide) (by simp [kindOf])
          have e9 : u 9 = _ := endE_get hE 9 (by decide) (by simp [kindOf])
          have e10 : u 10 = _ := endE_get hE 10 (by decide) (by simp [kindOf])
          have e11 : u 11 = _ := endE_get hE 11 (by decide) (by simp [kindOf])
          have e12 : u 12 = _ := endE_get hE 12 (by decide) (by simp [kindOf])
          clear hV
          simp only [List.drop_succ_cons, List.drop_zero, List.take_succ_cons, List.take_zero, fillL, Act.put, List.setIfInBounds_toArray, List.set_cons_zero, List.set_cons_succ, e0, e1, e2, e3, e4, e5, e6, e7, e8, e9, e10, e11, e12]
          clear e0 e1 e2 e3 e4 e5 e6 e7 e8 e9 e10 e11 e12 hE
          have HBWw6 := Lib.hid hb
          have hw6 := below_step (w := w1) (by first | assumption | go_grown) hb
          have hzw6 := hb.size
          (try simp only [World.size_alloc, World.size_setCell] at hzw6)
          have hzw60 : b < w6.heap.size := by omega
          have hzw61 : w1.heap.size < w6.heap.size := by omega
          have hzw62 : V0 < w6.heap.size := by omega
          have HHw6 := Lib.hid hb.block
          obtain ⟨hcw6, hfw6⟩ := bcell hb
          clear hb hzw6
          clear e1 e2
          go_wp2
          go_roundw
          case rel => exact ⟨k + 1, by omega, by go_num, hq2, ⟨by rw [last_succ]; simp [go_sem, *], by rw [last_succ]; simp [go_sem, *], by rw [last_succ]; simp [go_sem, *], by intro o; simp [go_sem, *]⟩, by simp; omega, ((hw6.setCell (Nat.le_refl _) _).setCell (Nat.le_refl _) _).setCell (Nat.le_refl _) _⟩
          case measure => simp [intOf]; omega
        · have hr : C = 17 := by rw [HC.out, if_pos (allTo_false (f := badB x y z) (i := k) (by omega) HST.out)]
          have HR := Lib.hid hr
          clear hr
          go_wp2_with fail
          refine wp_region_seq 13 [] [] (by kernel_rfl) (by kernel_rfl) (by kernel_rfl) (by kernel_rfl) (by kernel_rfl) ?_ ?_ ?_
          · intro r hr; cases hr
          · intro r hr; cases hr
          simp only [List.take_succ_cons, List.take_zero, fillL, Act.put, List.setIfInBounds_toArray, List.set_cons_zero, List.set_cons_succ]
          apply seq_is (by kernel_rfl)
          · intro u wx hb hd
            replace hb := hb.nil
            have hz := hb.size
            (try simp only [World.size_alloc, World.size_setCell] at hz)
            have hz0 : b < wx.heap.size := by omega
            have hz1 : w1.heap.size < wx.heap.size := by omega
            have hz2 : V0 < wx.heap.size := by omega
            obtain ⟨hc, hf⟩ := bcell hb
            clear hb hz
            simp [depsE, Region.binds, updE, kindOf, Prp.is, Prp.any] at hd
            go_simp
            first | exact ⟨Below.refl _ _, rfl⟩ | rfl
          apply seq_is (by kernel_rfl)
          · intro u wx hb hd
            replace hb := hb.nil
            have hz := hb.size
            (try simp only [World.size_alloc, World.size_setCell] at hz)
            have hz0 : b < wx.heap.size := by omega
            have hz1 : w1.heap.size < wx.heap.size := by omega
            have hz2 : V0 < wx.heap.size := by omega
            obtain ⟨hc, hf⟩ := bcell hb
            clear hb hz
            simp [depsE, Region.binds, updE, kindOf, Prp.is, Prp.any] at hd
            go_simp
            first | exact ⟨Below.refl _ _, rfl⟩ | rfl
          apply seq_is (by kernel_rfl)
          · intro u wx hb hd
            replace hb := hb.nil
            have hz := hb.size
            (try simp only [World.size_alloc, World.size_setCell] at hz)
            have hz0 : b < wx.heap.size := by omega
            have hz1 : w1.heap.size < wx.heap.size := by omega
            have hz2 : V0 < wx.heap.size := by omega
            obtain ⟨hc, hf⟩ := bcell hb
            clear hb hz
            simp [depsE, Region.binds, updE, kindOf, Prp.is, Prp.any] at hd
            go_simp
            first | exact ⟨Below.refl _ _, rfl⟩ | rfl
          apply seq_is (by kernel_rfl)
          · intro u wx hb hd
            replace hb := hb.nil
            have hz := hb.size
            (try simp only [World.size_alloc, World.size_setCell] at hz)
            have hz0 : b < wx.heap.size := by omega
            have hz1 : w1.heap.size < wx.heap.size := by omega
            have hz2 : V0 < wx.heap.size := by omega
            obtain ⟨hc, hf⟩ := bcell hb
            clear hb hz
            simp [depsE, Region.binds, updE, kindOf, Prp.is, Prp.any] at hd
            go_simp
            first | exact ⟨Below.refl _ _, rfl⟩ | rfl
          apply seq_is (by kernel_rfl)
          · intro u wx hb hd
            replace hb := hb.nil
            have hz := hb.size
            (try simp only [World.size_alloc, World.size_setCell] at hz)
            have hz0 : b < wx.heap.size := by omega
            have hz1 : w1.heap.size < wx.heap.size := by omega
            have hz2 : V0 < wx.heap.size := by omega
            obtain ⟨hc, hf⟩ := bcell hb
            clear hb hz
            simp [depsE, Region.binds, updE, kindOf, Prp.is, Prp.any] at hd
            go_simp
            first | exact ⟨Below.refl _ _, rfl⟩ | rfl
          apply seq_is (by kernel_rfl)
          · intro u wx hb hd
            replace hb := hb.nil
            have hz := hb.size
            (try simp only [World.size_alloc, World.size_setCell] at hz)
            have hz0 : b < wx.heap.size := by omega
            have hz1 : w1.heap.size < wx.heap.size := by omega
            have hz2 : V0 < wx.heap.size := by omega
            obtain ⟨hc, hf⟩ := bcell hb
            clear hb hz
            simp [depsE, Region.binds, updE, kindOf, Prp.is, Prp.any] at hd
            go_simp
            first | exact ⟨Below.refl _ _, rfl⟩ | rfl
          apply seq_is (by kernel_rfl)
          · intro u wx hb hd
            replace hb := hb.nil
            have hz := hb.size
            (try simp only [World.size_alloc, World.size_setCell] at hz)
            have hz0 : b < wx.heap.size := by omega
            have hz1 : w1.heap.size < wx.heap.size := by omega
            have hz2 : V0 < wx.heap.size := by omega
            obtain ⟨hc, hf⟩ := bcell hb
            clear hb hz
            simp [depsE, Region.binds, updE, kindOf, Prp.is, Prp.any] at hd
            go_simp
            first | exact ⟨Below.refl _ _, rfl⟩ | rfl
          apply seq_is (by kernel_rfl)
          · intro u wx hb hd
            replace hb := hb.nil
            have hz := hb.size
            (try simp only [World.size_alloc, World.size_setCell] at hz)
            have hz0 : b < wx.heap.size := by omega
            have hz1 : w1.heap.size < wx.heap.size := by omega
            have hz2 : V0 < wx.heap.size := by omega
            obtain ⟨hc, hf⟩ := bcell hb
            clear hb hz
            simp [depsE, Region.binds, updE, kindOf, Prp.is, Prp.any] at hd
            go_simp
            first | exact ⟨Below.refl _ _, rfl⟩ | rfl
          apply seq_is (by kernel_rfl)
          · intro u wx hb hd
            replace hb := hb.nil
            have hz := hb.size
            (try simp only [World.size_alloc, World.size_setCell] at hz)
            have hz0 : b < wx.heap.size := by omega
            have hz1 : w1.heap.size < wx.heap.size := by omega
            have hz2 : V0 < wx.heap.size := by omega
            obtain ⟨hc, hf⟩ := bcell hb
            clear hb hz
            simp [depsE, Region.binds, updE, kindOf, Prp.is, Prp.any] at hd
            go_simp
            first | exact ⟨Below.refl _ _, rfl⟩ | rfl
          apply seq_is (by kernel_rfl)
          · intro u wx hb hd
            replace hb := hb.nil
            have hz := hb.size
            (try simp only [World.size_alloc, World.size_setCell] at hz)
            have hz0 : b < wx.heap.size := by omega
            have hz1 : w1.heap.size < wx.heap.size := by omega
            have hz2 : V0 < wx.heap.size := by omega
            obtain ⟨hc, hf⟩ := bcell hb
            clear hb hz
            simp [depsE, Region.binds, updE, kindOf, Prp.is, Prp.any] at hd
            go_simp
            first | exact ⟨Below.refl _ _, rfl⟩ | rfl
          apply seq_is (by kernel_rfl)
          · intro u wx hb hd
            replace hb := hb.nil
            have hz := hb.size
            (try simp only [World.size_alloc, World.size_setCell] at hz)
            have hz0 : b < wx.heap.size := by omega
            have hz1 : w1.heap.size < wx.heap.size := by omega
            have hz2 : V0 < wx.heap.size := by omega
            obtain ⟨hc, hf⟩ := bcell hb
            clear hb hz
            simp [depsE, Region.binds, updE, kindOf, Prp.is, Prp.any] at hd
            go_simp
            first | rfl | (go_at_call 52; refine (popposite_neg _ _ _ _ HIL.out).mono ?_; rintro e w1 ⟨rfl, hb1⟩; first | exact ⟨rfl, hb1⟩ | exact ⟨_, rfl, hb1, rfl⟩)
          apply seq_is (by kernel_rfl)
          · intro u wx hb hd
            replace hb := hb.nil
            have hz := hb.size
            (try simp only [World.size_alloc, World.size_setCell] at hz)
            have hz0 : b < wx.heap.size := by omega
            have hz1 : w1.heap.size < wx.heap.size := by omega
            have hz2 : V0 < wx.heap.size := by omega
            obtain ⟨hc, hf⟩ := bcell hb
            clear hb hz
            simp [depsE, Region.binds, updE, kindOf, Prp.is, Prp.any] at hd
            go_simp
            first | exact ⟨Below.refl _ _, rfl⟩ | rfl
          apply seq_is (by kernel_rfl)
          · intro u wx hb hd
            replace hb := hb.nil
            have hz := hb.size
            (try simp only [World.size_alloc, World.size_setCell] at hz)
            have hz0 : b < wx.heap.size := by omega
            have hz1 : w1.heap.size < wx.heap.size := by omega
            have hz2 : V0 < wx.heap.size := by omega
            obtain ⟨hc, hf⟩ := bcell hb
            clear hb hz
            simp [depsE, Region.binds, updE, kindOf, Prp.is, Prp.any] at hd
            go_simp
            first | exact ⟨Below.refl _ _, rfl⟩ | rfl
          intro u w6 hb hE hV hP
          replace hb := hb.nil
          clear hP
          have e0 : u 0 = _ := endE_get hE 0 (by decide) (by simp [kindOf])
          have e1 : u 1 = _ := endE_get hE 1 (by decide) (by simp [kindOf])
          have e2 : u 2 = _ := endE_get hE 2 (by decide) (by simp [kindOf])
          have e3 : u 3 = _ := endE_get hE 3 (by decide) (by simp [kindOf])
          have e4 : u 4 = _ := endE_get hE 4 (by decide) (by simp [kindOf])
          have e5 : u 5 = _ := endE_get hE 5 (by decide) (by simp [kindOf])
          have e6 : u 6 = _ := endE_get hE 6 (by decide) (by simp [kindOf])
          have e7 : u 7 = _ := endE_get hE 7 (by decide) (by simp [kindOf])
          have e8 : u 8 = _ := endE_get hE 8 (by decide) (by simp [kindOf])
          have e9 : u 9 = _ := endE_get hE 9 (by decide) (by simp [kindOf])
          have e10 : u 10 = _ := endE_get hE 10 (by decide) (by simp [kindOf])
          have e11 : u 11 = _ := endE_get hE 11 (by decide) (by simp [kindOf])
          have e12 : u 12 = _ := endE_get hE 12 (by decide) (by simp [kindOf])
          clear hV
          simp only [List.drop_succ_cons, List.drop_zero, List.take_succ_cons, List.take_zero, fillL, Act.put, List.setIfInBounds_toArray, List.set_cons_zero, List.set_cons_succ, e0, e1, e2, e3, e4, e5, e6, e7, e8, e9, e10, e11, e12]
          clear e0 e1 e2 e3 e4 e5 e6 e7 e8 e9 e10 e11 e12 hE
          have HBWw6 := Lib.hid hb
          have hw6 := below_step (w := w1) (by first | assumption | go_grown) hb
          have hzw6 := hb.size
          (try simp only [World.size_alloc, World.size_setCell] at hzw6)
          have hzw60 : b < w6.heap.size := by omega
          have hzw61 : w1.heap.size < w6.heap.size := by omega
          have hzw62 : V0 < w6.heap.size := by omega
          have HHw6 := Lib.hid hb.block
          obtain ⟨hcw6, hfw6⟩ := bcell hb
          clear hb hzw6
          go_wp2
          go_returns
          rw [HR.out]
          exact ⟨rfl, below_step HB1.out hw6⟩
      · have hr : C = 17 := by rw [HC.out, if_pos (allTo_false (f := badB x y z) (i := k) (by omega) HST.out)]
        have HR := Lib.hid hr
        clear hr
        go_wp2_with fail
        refine wp_region_seq 13 [] [] (by kernel_rfl) (by kernel_rfl) (by kernel_rfl) (by kernel_rfl) (by kernel_rfl) ?_ ?_ ?_
        · intro r hr; cases hr
        · intro r hr; cases hr
        simp only [List.take_succ_cons, List.take_zero, fillL, Act.put, List.setIfInBounds_toArray, List.set_cons_zero, List.set_cons_succ]
        apply seq_is (by kernel_rfl)
        · intro u wx hb hd
          replace hb := hb.nil
          have hz := hb.size
          (try simp only [World.size_alloc, World.size_setCell] at hz)
          have hz0 : b < wx.heap.size := by omega
          have hz1 : w1.heap.size < wx.heap.size := by omega
          have hz2 : V0 < wx.heap.size := by omega
          obtain ⟨hc, hf⟩ := bcell hb
          clear hb hz
          simp [depsE, Region.binds, updE, kindOf, Prp.is, Prp.any] at hd
          go_simp
          first | exact ⟨Below.refl _ _, rfl⟩ | rfl
        apply seq_is (by kernel_rfl)
        · intro u wx hb hd
          replace hb := hb.nil
          have hz := hb.size
          (try simp only [World.size_alloc, World.size_setCell] at hz)
          have hz0 : b < wx.heap.size := by omega
          have hz1 : w1.heap.size < wx.heap.size := by omega
          have hz2 : V0 < wx.heap.size := by omega
          obtain ⟨hc, hf⟩ := bcell hb
          clear hb hz
          simp [depsE, Region.binds, updE, kindOf, Prp.is, Prp.any] at hd
          go_simp
          first | exact ⟨Below.refl _ _, rfl⟩ | rfl
        apply seq_is (by kernel_rfl)
        · intro u wx hb hd
          replace hb := hb.nil
          have hz := hb.size
          (try simp only [World.size_alloc, World.size_setCell] at hz)
          have hz0 : b < wx.heap.size := by omega
          have hz1 : w1.heap.size < wx.heap.size := by omega
          have hz2 : V0 < wx.heap.size := by omega
          obtain ⟨hc, hf⟩ := bcell hb
          clear hb hz
          simp [depsE, Region.binds, updE, kindOf, Prp.is, Prp.any] at hd
          go_simp
          first | exact ⟨Below.refl _ _, rfl⟩ | rfl
        apply seq_is (by kernel_rfl)
        · intro u wx hb hd
          replace hb := hb.nil
          have hz := hb.size
          (try simp only [World.size_alloc, World.size_setCell] at hz)
          have hz0 : b < wx.heap.size := by omega
          have hz1 : w1.heap.size < wx.heap.size := by omega
          have hz2 : V0 < wx.heap.size := by omega
          obtain ⟨hc, hf⟩ := bcell hb
          clear hb hz
          simp [depsE, Region.binds, updE, kindOf, Prp.is, Prp.any] at hd
          go_simp
          first | exact ⟨Below.refl _ _, rfl⟩ | rfl
        apply seq_is (by kernel_rfl)
        · intro u wx hb hd
          replace hb := hb.nil
          have hz := hb.size
          (try simp only [World.size_alloc, World.size_setCell] at hz)
          have hz0 : b < wx.heap.size := by omega
          have hz1 : w1.heap.size < wx.heap.size := by omega
          have hz2 : V0 < wx.heap.size := by omega
          obtain ⟨hc, hf⟩ := bcell hb
          clear hb hz
          simp [depsE, Region.binds, updE, kindOf, Prp.is, Prp.any] at hd
          go_simp
          first | exact ⟨Below.refl _ _, rfl⟩ | rfl
        apply seq_is (by kernel_rfl)
        · intro u wx hb hd
          replace hb := hb.nil
          have hz := hb.size
          (try simp only [World.size_alloc, World.size_setCell] at hz)
          have hz0 : b < wx.heap.size := by omega
          have hz1 : w1.heap.size < wx.heap.size := by omega
          have hz2 : V0 < wx.heap.size := by omega
          obtain ⟨hc, hf⟩ := bcell hb
          clear hb hz
          simp [depsE, Region.binds, updE, kindOf, Prp.is, Prp.any] at hd
          go_simp
          first | exact ⟨Below.refl _ _, rfl⟩ | rfl
        apply seq_is (by kernel_rfl)
        · intro u wx hb hd
          replace hb := hb.nil
          have hz := hb.size
          (try simp only [World.size_alloc, World.size_setCell] at hz)
          have hz0 : b < wx.heap.size := by omega
          have hz1 : w1.heap.size < wx.heap.size := by omega
          have hz2 : V0 < wx.heap.size := by omega
          obtain ⟨hc, hf⟩ := bcell hb
          clear hb hz
          simp [depsE, Region.binds, updE, kindOf, Prp.is, Prp.any] at hd
          go_simp
          first | exact ⟨Below.refl _ _, rfl⟩ | rfl
        apply seq_is (by kernel_rfl)
        · intro u wx hb hd
          replace hb := hb.nil
          have hz := hb.size
          (try simp only [World.size_alloc, World.size_setCell] at hz)
          have hz0 : b < wx.heap.size := by omega
          have hz1 : w1.heap.size < wx.heap.size := by omega
          have hz2 : V0 < wx.heap.size := by omega
          obtain ⟨hc, hf⟩ := bcell hb
          clear hb hz
          simp [depsE, Region.binds, updE, kindOf, Prp.is, Prp.any] at hd
          go_simp
          first | exact ⟨Below.refl _ _, rfl⟩ | rfl
        apply seq_is (by kernel_rfl)
        · intro u wx hb hd
          replace hb := hb.nil
          have hz := hb.size
          (try simp only [World.size_alloc, World.size_setCell] at hz)
          have hz0 : b < wx.heap.size := by omega
          have hz1 : w1.heap.size < wx.heap.size := by omega
          have hz2 : V0 < wx.heap.size := by omega
          obtain ⟨hc, hf⟩ := bcell hb
          clear hb hz
          simp [depsE, Region.binds, updE, kindOf, Prp.is, Prp.any] at hd
          go_simp
          first | exact ⟨Below.refl _ _, rfl⟩ | rfl
        apply seq_is (by kernel_rfl)
        · intro u wx hb hd
          replace hb := hb.nil
          have hz := hb.size
          (try simp only [World.size_alloc, World.size_setCell] at hz)
          have hz0 : b < wx.heap.size := by omega
          have hz1 : w1.heap.size < wx.heap.size := by omega
          have hz2 : V0 < wx.heap.size := by omega
          obtain ⟨hc, hf⟩ := bcell hb
          clear hb hz
          simp [depsE, Region.binds, updE, kindOf, Prp.is, Prp.any] at hd
          go_simp
          first | exact ⟨Below.refl _ _, rfl⟩ | rfl
        apply seq_is (by kernel_rfl)
        · intro u wx hb hd
          replace hb := hb.nil
          have hz := hb.size
          (try simp only [World.size_alloc, World.size_setCell] at hz)
          have hz0 : b < wx.heap.size := by omega
          have hz1 : w1.heap.size < wx.heap.size := by omega
          have hz2 : V0 < wx.heap.size := by omega
          obtain ⟨hc, hf⟩ := bcell hb
          clear hb hz
          simp [depsE, Region.binds, updE, kindOf, Prp.is, Prp.any] at hd
          go_simp
          first | rfl | (go_at_call 52; refine (popposite_neg _ _ _ _ HIL.out).mono ?_; rintro e w1 ⟨rfl, hb1⟩; first | exact ⟨rfl, hb1⟩ | exact ⟨_, rfl, hb1, rfl⟩)
        apply seq_is (by kernel_rfl)
        · intro u wx hb hd
          replace hb := hb.nil
          have hz := hb.size
          (try simp only [World.size_alloc, World.size_setCell] at hz)
          have hz0 : b < wx.heap.size := by omega
          have hz1 : w1.heap.size < wx.heap.size := by omega
          have hz2 : V0 < wx.heap.size := by omega
          obtain ⟨hc, hf⟩ := bcell hb
          clear hb hz
          simp [depsE, Region.binds, updE, kindOf, Prp.is, Prp.any] at hd
          go_simp
          first | exact ⟨Below.refl _ _, rfl⟩ | rfl
        apply seq_is (by kernel_rfl)
        · intro u wx hb hd
          replace hb := hb.nil
          have hz := hb.size
          (try simp only [World.size_alloc, World.size_setCell] at hz)
          have hz0 : b < wx.heap.size := by omega
          have hz1 : w1.heap.size < wx.heap.size := by omega
          have hz2 : V0 < wx.heap.size := by omega
          obtain ⟨hc, hf⟩ := bcell hb
          clear hb hz
          simp [depsE, Region.binds, updE, kindOf, Prp.is, Prp.any] at hd
          go_simp
          first | exact ⟨Below.refl _ _, rfl⟩ | rfl
        intro u w6 hb hE hV hP
        replace hb := hb.nil
        clear hP
        have e0 : u 0 = _ := endE_get hE 0 (by decide) (by simp [kindOf])
        have e1 : u 1 = _ := endE_get hE 1 (by decide) (by simp [kindOf])
        have e2 : u 2 = _ := endE_get hE 2 (by decide) (by simp [kindOf])
        have e3 : u 3 = _ := endE_get hE 3 (by decide) (by simp [kindOf])
        have e4 : u 4 = _ := endE_get hE 4 (by decide) (by simp [kindOf])
        have e5 : u 5 = _ := endE_get hE 5 (by decide) (by simp [kindOf])
        have e6 : u 6 = _ := endE_get hE 6 (by decide) (by simp [kindOf])
        have e7 : u 7 = _ := endE_get hE 7 (by decide) (by simp [kindOf])
        have e8 : u 8 = _ := endE_get hE 8 (by decide) (by simp [kindOf])
        have e9 : u 9 = _ := endE_get hE 9 (by decide) (by simp [kindOf])
        have e10 : u 10 = _ := endE_get hE 10 (by decide) (by simp [kindOf])
        have e11 : u 11 = _ := endE_get hE 11 (by decide) (by simp [kindOf])
        have e12 : u 12 = _ := endE_get hE 12 (by decide) (by simp [kindOf])
        clear hV
        simp only [List.drop_succ_cons, List.drop_zero, List.take_succ_cons, List.take_zero, fillL, Act.put, List.setIfInBounds_toArray, List.set_cons_zero, List.set_cons_succ, e0, e1, e2, e3, e4, e5, e6, e7, e8, e9, e10, e11, e12]
        clear e0 e1 e2 e3 e4 e5 e6 e7 e8 e9 e10 e11 e12 hE
        have HBWw6 := Lib.hid hb
        have hw6 := below_step (w := w1) (by first | assumption | go_grown) hb
        have hzw6 := hb.size
        (try simp only [World.size_alloc, World.size_setCell] at hzw6)
        have hzw60 : b < w6.heap.size := by omega
        have hzw61 : w1.heap.size < w6.heap.size := by omega
        have hzw62 : V0 < w6.heap.size := by omega
        have HHw6 := Lib.hid hb.block
        obtain ⟨hcw6, hfw6⟩ := bcell hb
        clear hb hzw6
        go_wp2
        go_returns
        rw [HR.out]
        exact ⟨rfl, below_step HB1.out hw6⟩
    · have HB2 := Lib.hid (below_step HB1.out hb)
      have HGB : Hid (allTo (fun i => !badB x y z i) (n - 1) = true) := by
        have e : n - 1 = k := by omega
        show _ = true
        rw [e]; exact hq.out
      clear hb l0 l1 l2 lf
      go_wp2_with fail
      (go_at_call 20; refine (legs_pts _ _ _ _ _ _ (HV.out.below HB2.out) HIN.out (by omega)).mono ?_; rintro e w2 ⟨l, rfl, hl, hnew, hb⟩)
      have HB3 := Lib.hid (below_step HB2.out hb)
      have HL := Lib.hid hl
      obtain ⟨ol, capl, rfl, hln, hlel⟩ := hl.form
      have HLEL := Lib.hid hlel
      clear hl hlel hb hnew
      have HCN : Hid (C = if allTo (fun i => !shortB x y z n r i) (n - 1) = false then 18 else 0) := by
        show C = _
        rw [HC.out, if_neg (by rw [HGB.out]; simp)]
      obtain ⟨m, hm⟩ : ∃ m, n - 1 = m := ⟨_, rfl⟩
      rw [hm] at HLEL HCN
      have hnm : n = m + 1 := by omega
      subst hnm
      clear hm hq hlt
      simp only [Nat.add_sub_cancel] at *
      go_wp2
      go_loopw [69] (fun i wr => ∃ k : Nat, k ≤ m ∧ i = .int .i64 (k : Int) ∧ Hid (allTo (fun i => !shortB x y z (m + 1) r i) k = true) ∧ Below w2.heap.size w2 wr) (fun i _ => m - (intOf i).toNat)
      case atStart => exact ⟨0, by omega, rfl, rfl, Below.refl _ _⟩
      case round =>
        obtain ⟨q, hq, rfl, hs, hb⟩ := hrel
        by_cases hlq : q < m
        · obtain ⟨b, off, rfl, hbl, hcl⟩ := HLEL.out q hlq
          have c0 : wr.cell? ⟨b, off + q, none⟩ = some (.int .i64 (legV x y z q)) := (hb.cell (p := ⟨_, _, none⟩) hbl).trans (hcl q hlq)
          have hbr : b < wr.heap.size := Nat.lt_of_lt_of_le hbl hb.size
          have HBr := Lib.hid hb
          clear hcl hb
          by_cases h0 : q < 1
          · by_cases h1 : m ≤ q + 1
            · have hbd : bendsI (m + 1) q = 0 := by unfold bendsI; rw [if_neg (by omega), if_neg (by omega)]; rfl
              by_cases hsh : legV x y z q < r * 0
              · have hr : C = 18 := by rw [HCN.out, if_pos (allTo_false (f := shortB x y z (m + 1) r) (i := q) hlq (decide_eq_true (by rw [hbd]; exact hsh)))]
                have HR := Lib.hid hr
                clear hr hbd
                go_wp2
                go_returns
                rw [HR.out]
                exact ⟨rfl, below_step HB3.out HBr.out⟩
              · have hq2 : Hid (allTo (fun i => !shortB x y z (m + 1) r i) (q + 1) = true) := allTo_next (f := shortB x y z (m + 1) r) hs.out (decide_eq_false (by rw [hbd]; exact hsh))
                clear hbd
                go_wp2
                go_roundw
                case rel => exact ⟨q + 1, by omega, by go_num, hq2, HBr.out⟩
                case measure => simp [intOf]; omega
            · have hbd : bendsI (m + 1) q = 1 := by unfold bendsI; rw [if_neg (by omega), if_pos (by omega)]; rfl
              by_cases hsh : legV x y z q < r * 1
              · have hr : C = 18 := by rw [HCN.out, if_pos (allTo_false (f := shortB x y z (m + 1) r) (i := q) hlq (decide_eq_true (by rw [hbd]; exact hsh)))]
                have HR := Lib.hid hr
                clear hr hbd
                go_wp2
                go_returns
                rw [HR.out]
                exact ⟨rfl, below_step HB3.out HBr.out⟩
              · have hq2 : Hid (allTo (fun i => !shortB x y z (m + 1) r i) (q + 1) = true) := allTo_next (f := shortB x y z (m + 1) r) hs.out (decide_eq_false (by rw [hbd]; exact hsh))
                clear hbd
                go_wp2
                go_roundw
                case rel => exact ⟨q + 1, by omega, by go_num, hq2, HBr.out⟩
                case measure => simp [intOf]; omega
          · by_cases h1 : m ≤ q + 1
            · have hbd : bendsI (m + 1) q = 1 := by unfold bendsI; rw [if_pos (by omega), if_neg (by omega)]; rfl
              by_cases hsh : legV x y z q < r * 1
              · have hr : C = 18 := by rw [HCN.out, if_pos (allTo_false (f := shortB x y z (m + 1) r) (i := q) hlq (decide_eq_true (by rw [hbd]; exact hsh)))]
                have HR := Lib.hid hr
                clear hr hbd
                go_wp2
                go_returns
                rw [HR.out]
                exact ⟨rfl, below_step HB3.out HBr.out⟩
              · have hq2 : Hid (allTo (fun i => !shortB x y z (m + 1) r i) (q + 1) = true) := allTo_next (f := shortB x y z (m + 1) r) hs.out (decide_eq_false (by rw [hbd]; exact hsh))
                clear hbd
                go_wp2
                go_roundw
                case rel => exact ⟨q + 1, by omega, by go_num, hq2, HBr.out⟩
                case measure => simp [intOf]; omega
            · have hbd : bendsI (m + 1) q = 2 := by unfold bendsI; rw [if_pos (by omega), if_pos (by omega)]; rfl
              by_cases hsh : legV x y z q < r * 2
              · have hr : C = 18 := by rw [HCN.out, if_pos (allTo_false (f := shortB x y z (m + 1) r) (i := q) hlq (decide_eq_true (by rw [hbd]; exact hsh)))]
                have HR := Lib.hid hr
                clear hr hbd
                go_wp2
                go_returns
                rw [HR.out]
                exact ⟨rfl, below_step HB3.out HBr.out⟩
              · have hq2 : Hid (allTo (fun i => !shortB x y z (m + 1) r i) (q + 1) = true) := allTo_next (f := shortB x y z (m + 1) r) hs.out (decide_eq_false (by rw [hbd]; exact hsh))
                clear hbd
                go_wp2
                go_roundw
                case rel => exact ⟨q + 1, by omega, by go_num, hq2, HBr.out⟩
                case measure => simp [intOf]; omega
        · have e : q = m := by omega
          subst e
          have hr : C = 0 := by rw [HCN.out, if_neg (by rw [hs.out]; simp)]
          have HR := Lib.hid hr
          have HBr := Lib.hid hb
          clear hr hb
          go_wp2
          go_returns
          rw [HR.out]
          exact ⟨rfl, below_step HB3.out HBr.out⟩
end Go.Proofs.YtgbhhjdmochhpaaGreatDoor
