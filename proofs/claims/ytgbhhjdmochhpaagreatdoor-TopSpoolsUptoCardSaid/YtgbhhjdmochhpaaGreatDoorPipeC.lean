/-
  Legs of pipe and of its reference. Conditions: none. By an AI agent.
-/
import Derived.Test.YtgbhhjdmochhpaaGreatDoorPipeB
namespace Go.Proofs.YtgbhhjdmochhpaaGreatDoor
open Go Go.ChangeShapes Go.WideShapes Go.RowKit Go.ChangeAt
set_option linter.unusedSimpArgs false
set_option linter.unusedVariables false

def legV (x y z : Nat → Int) (i : Nat) : Int := mx (x (i + 1) - x i) (-(x (i + 1) - x i)) + mx (y (i + 1) - y i) (-(y (i + 1) - y i)) + mx (z (i + 1) - z i) (-(z (i + 1) - z i))
theorem mag_bd {d : Int} (h : -1048576 ≤ d ∧ d ≤ 1048576) : 0 ≤ mx d (-d) ∧ mx d (-d) ≤ 1048576 := by unfold mx; split <;> omega
theorem neg_sub' (a b : Int) : -(a - b) = b - a := by omega
theorem info_int : (Tryz.prog.info? 3).map (fun i => (i.zero, i.size, i.bytes)) = some (some (.int .i64 0), 1, 8) := by kernel_rfl
set_option maxRecDepth 20000 in
set_option maxHeartbeats 4000000 in
theorem legs_pts (v : Value) (n : Nat) (x y z : Nat → Int) (w : World) (h : VecsAt w v n x y z) (hin : ∀ i, i < n → In3 (x i) (y i) (z i)) (hn : n ≤ 1000) :
    Calls Tryz.prog 20 #[v] w fun e w' => ∃ l, e = .returned l ∧ IntsAt w' l (n - 1) (legV x y z) ∧ NewFrom w.heap.size l ∧ Below w.heap.size w w' := by
  have hel := h.form
  obtain ⟨oa, cap, rfl, hn0, hel⟩ := hel
  have HEL := Lib.hid hel
  have HIN := Lib.hid hin
  have HV := Lib.hid h
  clear hel hin h
  obtain ⟨i0, hi, hz0, hz1, hz2⟩ := info_parts info_int
  have hmx := run_mx
  go_enter Tryz.func20, Tryz.ntmps20
  go_wp2_with fail
  (go_at_call 50; refine (contains_pts _ _ _ _ _ _ HV.out).mono ?_; rintro e w1 ⟨rfl, hb1⟩)
  have HIN2 : Hid (allTo (inP x y z) n = true) := allTo_iff.2 fun i hi => decide_eq_true (HIN.out i hi)
  rw [HIN2.out]
  go_wp2
  go_loopw [2, 3] (fun v i wr => ∃ k : Nat, (k + 1 ≤ n ∨ k = 0) ∧ i = .int .i64 ((k : Int) + 1) ∧ wr.ownsRow w.heap.size 3 1 v k (listOf (fun i => .int .i64 (legV x y z i)) k) ∧ Below w.heap.size w wr) (fun _ i _ => n + 1 - (intOf i).toNat)
  case atStart => exact ⟨0, .inr rfl, rfl, World.ownsRow_nil _ _ _ _, by first | exact Below.refl _ _ | assumption⟩
  case round =>
    obtain ⟨k, hk, rfl, hown, hb⟩ := hrel
    by_cases hlt : k + 1 < n
    · obtain ⟨b, off, rfl, hbl, hcl⟩ := HEL.out k (by omega)
      have c0a : wr.cell? ⟨b, off + k * 3, none⟩ = some (.int .i64 (x k)) := (hb.cell (p := ⟨_, _, none⟩) hbl).trans (hcl k (by omega)).1
      have c1a : wr.cell? ⟨b, off + k * 3 + 1, none⟩ = some (.int .i64 (y k)) := (hb.cell (p := ⟨_, _, none⟩) hbl).trans (hcl k (by omega)).2.1
      have c2a : wr.cell? ⟨b, off + k * 3 + 2, none⟩ = some (.int .i64 (z k)) := (hb.cell (p := ⟨_, _, none⟩) hbl).trans (hcl k (by omega)).2.2
      have c0b : wr.cell? ⟨b, off + (k + 1) * 3, none⟩ = some (.int .i64 (x (k + 1))) := (hb.cell (p := ⟨_, _, none⟩) hbl).trans (hcl (k + 1) (by omega)).1
      have c1b : wr.cell? ⟨b, off + (k + 1) * 3 + 1, none⟩ = some (.int .i64 (y (k + 1))) := (hb.cell (p := ⟨_, _, none⟩) hbl).trans (hcl (k + 1) (by omega)).2.1
      have c2b : wr.cell? ⟨b, off + (k + 1) * 3 + 2, none⟩ = some (.int .i64 (z (k + 1))) := (hb.cell (p := ⟨_, _, none⟩) hbl).trans (hcl (k + 1) (by omega)).2.2
      have hbr : b < wr.heap.size := Nat.lt_of_lt_of_le hbl hb.size
      have hw0 : w.heap.size ≤ wr.heap.size := hb.size
      have HBr := Lib.hid hb
      have HOWN := Lib.hid hown
      have i1 := HIN.out k (by omega)
      have i2 := HIN.out (k + 1) (by omega)
      have bx := sub_fits (a := x (k + 1)) (b := x k) ⟨i2.1, i2.2.1⟩ ⟨i1.1, i1.2.1⟩
      have by' := sub_fits (a := y (k + 1)) (b := y k) ⟨i2.2.2.1, i2.2.2.2.1⟩ ⟨i1.2.2.1, i1.2.2.2.1⟩
      have bz := sub_fits (a := z (k + 1)) (b := z k) ⟨i2.2.2.2.2.1, i2.2.2.2.2.2⟩ ⟨i1.2.2.2.2.1, i1.2.2.2.2.2⟩
      obtain ⟨gx0, gx1⟩ := mag_bd bx
      obtain ⟨gy0, gy1⟩ := mag_bd by'
      obtain ⟨gz0, gz1⟩ := mag_bd bz
      obtain ⟨bx0, bx1⟩ := bx
      obtain ⟨by0, by1⟩ := by'
      obtain ⟨bz0, bz1⟩ := bz
      clear hcl hb hown
      have k1 : IntKind.i64.wrap ((k : Int) + 1) = (k : Int) + 1 := IntWalk.i64_in _ (by omega)
      have k2 : IntKind.i64.wrap ((k : Int) + 1 - 1) = (k : Int) := by rw [show (k : Int) + 1 - 1 = k by omega]; exact IntWalk.i64_in _ (by omega)
      have k2' : IntKind.i64.wrap (k : Int) = (k : Int) := IntWalk.i64_in _ (by omega)
      have k3 : (0 : Int) ≤ (k : Int) + 1 := by omega
      have k4 : (k : Int) + 1 < n := by omega
      have k5 : ((k : Int) + 1).toNat = k + 1 := by omega
      have k6 : (k : Int) < n := by omega
      have hne : b ≠ wr.heap.size := by omega
      go_wp2_with fail
      refine wp_region_seq 12 [⟨10, 11, #[.int .i64 0, .int .i64 0, .int .i64 0], 39⟩] [] (by kernel_rfl) (by kernel_rfl) (by kernel_rfl) (by kernel_rfl) (by kernel_rfl) ?_ ?_ ?_
      · intro r hr; cases hr
      · intro r hr; cases hr
      simp only [List.take_succ_cons, List.take_zero, fillL, Act.put, List.setIfInBounds_toArray, List.set_cons_zero, List.set_cons_succ]
      apply seq_is (by kernel_rfl)
      · intro u wx hb hd
        replace hb := hb.nil
        have hz := hb.size
        (try simp only [World.size_alloc, World.size_setCell] at hz)
        have hz0 : b < wx.heap.size := by omega
        obtain ⟨hc, hf⟩ := bcell hb
        clear hb hz
        simp [depsE, Region.binds, updE, kindOf, Prp.is, Prp.any] at hd
        go_simp
        exact ⟨Below.refl _ _, rfl⟩
      apply seq_is (by kernel_rfl)
      · intro u wx hb hd
        replace hb := hb.nil
        have hz := hb.size
        (try simp only [World.size_alloc, World.size_setCell] at hz)
        have hz0 : b < wx.heap.size := by omega
        obtain ⟨hc, hf⟩ := bcell hb
        clear hb hz
        simp [depsE, Region.binds, updE, kindOf, Prp.is, Prp.any] at hd
        go_simp
        exact ⟨Below.refl _ _, rfl⟩
      apply seq_is (by kernel_rfl)
      · intro u wx hb hd
        replace hb := hb.nil
        have hz := hb.size
        (try simp only [World.size_alloc, World.size_setCell] at hz)
        have hz0 : b < wx.heap.size := by omega
        obtain ⟨hc, hf⟩ := bcell hb
        clear hb hz
        simp [depsE, Region.binds, updE, kindOf, Prp.is, Prp.any] at hd
        go_simp
        exact ⟨Below.refl _ _, rfl⟩
      apply seq_is (by kernel_rfl)
      · intro u wx hb hd
        replace hb := hb.nil
        have hz := hb.size
        (try simp only [World.size_alloc, World.size_setCell] at hz)
        have hz0 : b < wx.heap.size := by omega
        obtain ⟨hc, hf⟩ := bcell hb
        clear hb hz
        simp [depsE, Region.binds, updE, kindOf, Prp.is, Prp.any] at hd
        go_simp
        exact ⟨Below.refl _ _, rfl⟩
      apply seq_is (by kernel_rfl)
      · intro u wx hb hd
        replace hb := hb.nil
        have hz := hb.size
        (try simp only [World.size_alloc, World.size_setCell] at hz)
        have hz0 : b < wx.heap.size := by omega
        obtain ⟨hc, hf⟩ := bcell hb
        clear hb hz
        simp [depsE, Region.binds, updE, kindOf, Prp.is, Prp.any] at hd
        go_simp
        exact ⟨Below.refl _ _, rfl⟩
      apply seq_is (by kernel_rfl)
      · intro u wx hb hd
        replace hb := hb.nil
        have hz := hb.size
        (try simp only [World.size_alloc, World.size_setCell] at hz)
        have hz0 : b < wx.heap.size := by omega
        obtain ⟨hc, hf⟩ := bcell hb
        clear hb hz
        simp [depsE, Region.binds, updE, kindOf, Prp.is, Prp.any] at hd
        go_simp
        exact ⟨Below.refl _ _, rfl⟩
      apply seq_is (by kernel_rfl)
      · intro u wx hb hd
        replace hb := hb.nil
        have hz := hb.size
        (try simp only [World.size_alloc, World.size_setCell] at hz)
        have hz0 : b < wx.heap.size := by omega
        obtain ⟨hc, hf⟩ := bcell hb
        clear hb hz
        simp [depsE, Region.binds, updE, kindOf, Prp.is, Prp.any] at hd
        go_simp
        exact ⟨Below.refl _ _, rfl⟩
      apply seq_is (by kernel_rfl)
      · intro u wx hb hd
        replace hb := hb.nil
        have hz := hb.size
        (try simp only [World.size_alloc, World.size_setCell] at hz)
        have hz0 : b < wx.heap.size := by omega
        obtain ⟨hc, hf⟩ := bcell hb
        clear hb hz
        simp [depsE, Region.binds, updE, kindOf, Prp.is, Prp.any] at hd
        go_simp
        exact ⟨Below.refl _ _, rfl⟩
      apply seq_is (by kernel_rfl)
      · intro u wx hb hd
        replace hb := hb.nil
        have hz := hb.size
        (try simp only [World.size_alloc, World.size_setCell] at hz)
        have hz0 : b < wx.heap.size := by omega
        obtain ⟨hc, hf⟩ := bcell hb
        clear hb hz
        simp [depsE, Region.binds, updE, kindOf, Prp.is, Prp.any] at hd
        go_simp
        exact ⟨Below.refl _ _, rfl⟩
      apply seq_is (by kernel_rfl)
      · intro u wx hb hd
        replace hb := hb.nil
        have hz := hb.size
        (try simp only [World.size_alloc, World.size_setCell] at hz)
        have hz0 : b < wx.heap.size := by omega
        obtain ⟨hc, hf⟩ := bcell hb
        clear hb hz
        simp [depsE, Region.binds, updE, kindOf, Prp.is, Prp.any] at hd
        go_simp
        (go_at_call 46; refine (Sub_in _ i2 i1).mono ?_; rintro e w1 ⟨rfl, hb1⟩; first | exact ⟨rfl, hb1⟩ | exact ⟨_, rfl, hb1, rfl⟩)
      refine seq_var ⟨10, 11, #[.int .i64 0, .int .i64 0, .int .i64 0], 39⟩ (by simp) rfl ?_ ?_
      · intro u wx hb
        refine ⟨by simp [Region.wanted], ?_⟩
        go_simp
        first | done | rfl | exact ⟨rfl, rfl⟩
      apply seq_sto_agg ⟨10, 11, #[.int .i64 0, .int .i64 0, .int .i64 0], 39⟩ (by simp) rfl (by kernel_rfl) rfl (by kernel_rfl)
      · intro u wx hb hd
        replace hb := hb.nil
        have hz := hb.size
        (try simp only [World.size_alloc, World.size_setCell] at hz)
        have hz0 : b < wx.heap.size := by omega
        obtain ⟨hc, hf⟩ := bcell hb
        clear hb hz
        simp [depsE, Region.binds, updE, kindOf, Prp.is, Prp.any] at hd
        refine ⟨by simp [Region.wanted], fun b' hub hlb hcells => ?_⟩
        have hub' : u 10 = .pointer (some ⟨b', 0, none⟩) := hub
        have hcells' : wx.heap[b']? = some (.cells #[.int .i64 0, .int .i64 0, .int .i64 0] 39) := hcells
        have hat := cells_at3 hcells'
        have HCL := Lib.hid hcells'
        clear hcells hcells' hub
        go_simp
        exact Stored.c3 HCL.out _ _ _
      intro u w5 hb hE hV hP
      replace hb := hb.nil
      clear hP
      have e0 : u 0 = _ := endE_get hE 0 (by decide) (by simp [kindOf])
      have e1 : u 1 = _ := endE_get hE 1 (by decide) (by simp [kindOf])
      have e2 : u 2 = _ := endE_get hE 2 (by decide) (by simp [kindOf])
      have e3 : u 3 = _ := endE_get hE 3 (by decide) (by simp [kindOf])
      have e4 : u 4 = _ := endE_get hE 4 (by decide) (by simp [kindOf])
      have e5 : u 5 = _ := endE_get hE 5 (by decide) (by simp [kindOf])
      have e6 : u 6 = _ := endE_get hE 6 (by decide) (by simp [kindOf])
      have e7 : u 7 = _ := endE_get hE 7 (by decide) (by simp [kindOf])
      have e8 : u 8 = _ := endE_get hE 8 (by decide) (by simp [kindOf])
      have e9 : u 9 = _ := endE_get hE 9 (by decide) (by simp [kindOf])
      have e11 : u 11 = _ := endE_get hE 11 (by decide) (by simp [kindOf])
      obtain ⟨⟨V0, pv0, lv0, qv0⟩, -, -⟩ := hV
      replace qv0 : w5.heap[V0]? = some (.cells (u 11).cells 39) := qv0
      rw [e11] at qv0
      replace pv0 : u 10 = .pointer (some ⟨V0, 0, none⟩) := pv0
      obtain ⟨mV00, mV01, mV02, mfV0, msV0⟩ := cells_at3 qv0
      have HQV0 := Lib.hid qv0
      clear qv0
      (try simp only [World.size_alloc, World.size_setCell] at lv0)
      have dV0w50 : V0 ≠ b := by omega
      clear lv0
      simp only [List.drop_succ_cons, List.drop_zero, List.take_succ_cons, List.take_zero, fillL, Act.put, List.setIfInBounds_toArray, List.set_cons_zero, List.set_cons_succ, e0, e1, e2, e3, e4, e5, e6, e7, e8, e9, e11, pv0]
      clear e0 e1 e2 e3 e4 e5 e6 e7 e8 e9 e11 pv0 hE
      have HBWw5 := Lib.hid hb
      have hw5 := below_step (w := w) (by first | assumption | go_grown) hb
      have hzw5 := hb.size
      (try simp only [World.size_alloc, World.size_setCell] at hzw5)
      have hzw50 : b < w5.heap.size := by omega
      have HHw5 := Lib.hid hb.block
      obtain ⟨hcw5, hfw5⟩ := bcell hb
      clear hb hzw5
      clear k1 k2 k2'
      have HB5 : Hid (Below wr.heap.size wr w5) := HBWw5
      have HO5 := Lib.hid (owns_below HOWN.out (HB5.out))
      go_wp2_with (first | (at_builtin; refine wpList_append_own _ rfl _ _ 29 rfl w.heap.size 3 i0 (.int .i64 0) 1 8 Tryz.underlying29 hi hz0 hz1 hz2 rfl (by decide) _ _ _ rfl (HO5.out.alloc _) ⟨w5.heap.size, 0, none⟩ 1 1 [(.int .i64 (legV x y z k))] rfl rfl ?c1 ?c2 ?c3 ?c4 ?c5 ?_) | go_in)
      case c1 =>
        intro j u hj
        match j, hj with
        | 0, hj =>
          simp at hj
          subst hj
          simp [Addr.add]
          rfl
      case c2 => intro u hu; simp at hu; subst hu; rfl
      case c3 => unfold maxLen; omega
      case c4 => omega
      case c5 => have := hw5.size; simp; omega
      intro v' w7 hown' hgrow _
      have hB7 : Below w.heap.size w w7 := Below.grown (hw5.alloc hw5.size _) hgrow (by have := hw5.size; first | omega | (simp; omega)) (fun q hq => owns_new HO5.out q hq)
      have HB7 := Lib.hid hB7
      rw [listOf_snoc] at hown'
      have HO7 := Lib.hid hown'
      clear hown' hgrow hB7
      go_wp2
      go_roundw
      case rel => exact ⟨k + 1, .inl (by omega), by go_num, HO7.out, HB7.out⟩
      case measure => simp [intOf]; omega
    · have HBr := Lib.hid hb
      have HOWN := Lib.hid hown
      clear hb hown
      have e : (n : Int) ≤ (k : Int) + 1 := by omega
      go_wp2
      go_returns
      refine ⟨_, rfl, ?_, owns_new HOWN.out, HBr.out⟩
      have e2 : n - 1 = k := by omega
      rw [e2]
      exact owns_ints HOWN.out
set_option maxRecDepth 20000 in
set_option maxHeartbeats 4000000 in
theorem rlegs_pts (v : Value) (n : Nat) (x y z : Nat → Int) (w : World) (h : VecsAt w v n x y z) (hin : ∀ i, i < n → In3 (x i) (y i) (z i)) (hn : n ≤ 1000) :
    Calls Tryz.prog 56 #[v] w fun e w' => ∃ l, e = .returned l ∧ IntsAt w' l (n - 1) (legV x y z) ∧ NewFrom w.heap.size l ∧ Below w.heap.size w w' := by
  have hel := h.form
  obtain ⟨oa, cap, rfl, hn0, hel⟩ := hel
  have HEL := Lib.hid hel
  have HIN := Lib.hid hin
  have HV := Lib.hid h
  clear hel hin h
  obtain ⟨i0, hi, hz0, hz1, hz2⟩ := info_parts info_int
  have hmx := run_mx
  go_enter Tryz.func56, Tryz.ntmps56
  go_wp2_with fail
  (go_at_call 88; refine (inside_pts _ _ _ _ _ _ HV.out).mono ?_; rintro e w1 ⟨rfl, hb1⟩)
  have HIN2 : Hid (allTo (inP x y z) n = true) := allTo_iff.2 fun i hi => decide_eq_true (HIN.out i hi)
  rw [HIN2.out]
  go_wp2
  go_loopw [3, 4] (fun v i wr => ∃ k : Nat, (k + 1 ≤ n ∨ k = 0) ∧ i = .int .i64 (k : Int) ∧ wr.ownsRow w.heap.size 3 1 v k (listOf (fun i => .int .i64 (legV x y z i)) k) ∧ Below w.heap.size w wr) (fun _ i _ => n + 1 - (intOf i).toNat)
  case atStart => exact ⟨0, .inr rfl, rfl, World.ownsRow_nil _ _ _ _, by first | exact Below.refl _ _ | assumption⟩
  case round =>
    obtain ⟨k, hk, rfl, hown, hb⟩ := hrel
    by_cases hlt : k + 1 < n
    · obtain ⟨b, off, rfl, hbl, hcl⟩ := HEL.out k (by omega)
      have c0a : wr.cell? ⟨b, off + k * 3, none⟩ = some (.int .i64 (x k)) := (hb.cell (p := ⟨_, _, none⟩) hbl).trans (hcl k (by omega)).1
      have c1a : wr.cell? ⟨b, off + k * 3 + 1, none⟩ = some (.int .i64 (y k)) := (hb.cell (p := ⟨_, _, none⟩) hbl).trans (hcl k (by omega)).2.1
      have c2a : wr.cell? ⟨b, off + k * 3 + 2, none⟩ = some (.int .i64 (z k)) := (hb.cell (p := ⟨_, _, none⟩) hbl).trans (hcl k (by omega)).2.2
      have c0b : wr.cell? ⟨b, off + (k + 1) * 3, none⟩ = some (.int .i64 (x (k + 1))) := (hb.cell (p := ⟨_, _, none⟩) hbl).trans (hcl (k + 1) (by omega)).1
      have c1b : wr.cell? ⟨b, off + (k + 1) * 3 + 1, none⟩ = some (.int .i64 (y (k + 1))) := (hb.cell (p := ⟨_, _, none⟩) hbl).trans (hcl (k + 1) (by omega)).2.1
      have c2b : wr.cell? ⟨b, off + (k + 1) * 3 + 2, none⟩ = some (.int .i64 (z (k + 1))) := (hb.cell (p := ⟨_, _, none⟩) hbl).trans (hcl (k + 1) (by omega)).2.2
      have hbr : b < wr.heap.size := Nat.lt_of_lt_of_le hbl hb.size
      have hw0 : w.heap.size ≤ wr.heap.size := hb.size
      have HBr := Lib.hid hb
      have HOWN := Lib.hid hown
      have i1 := HIN.out k (by omega)
      have i2 := HIN.out (k + 1) (by omega)
      have bx := sub_fits (a := x (k + 1)) (b := x k) ⟨i2.1, i2.2.1⟩ ⟨i1.1, i1.2.1⟩
      have by' := sub_fits (a := y (k + 1)) (b := y k) ⟨i2.2.2.1, i2.2.2.2.1⟩ ⟨i1.2.2.1, i1.2.2.2.1⟩
      have bz := sub_fits (a := z (k + 1)) (b := z k) ⟨i2.2.2.2.2.1, i2.2.2.2.2.2⟩ ⟨i1.2.2.2.2.1, i1.2.2.2.2.2⟩
      obtain ⟨gx0, gx1⟩ := mag_bd bx
      obtain ⟨gy0, gy1⟩ := mag_bd by'
      obtain ⟨gz0, gz1⟩ := mag_bd bz
      obtain ⟨bx0, bx1⟩ := bx
      obtain ⟨by0, by1⟩ := by'
      obtain ⟨bz0, bz1⟩ := bz
      clear hcl hb hown
      have k1 : IntKind.i64.wrap ((k : Int) + 1) = (k : Int) + 1 := IntWalk.i64_in _ (by omega)
      have k2 : IntKind.i64.wrap ((k : Int) + 1 - 1) = (k : Int) := by rw [show (k : Int) + 1 - 1 = k by omega]; exact IntWalk.i64_in _ (by omega)
      have k2' : IntKind.i64.wrap (k : Int) = (k : Int) := IntWalk.i64_in _ (by omega)
      have k3 : (0 : Int) ≤ (k : Int) + 1 := by omega
      have k4 : (k : Int) + 1 < n := by omega
      have k5 : ((k : Int) + 1).toNat = k + 1 := by omega
      have k6 : (k : Int) < n := by omega
      have hne : b ≠ wr.heap.size := by omega
      go_wp2_with fail
      refine wp_region_seq 12 [⟨10, 11, #[.int .i64 0, .int .i64 0, .int .i64 0], 39⟩] [] (by kernel_rfl) (by kernel_rfl) (by kernel_rfl) (by kernel_rfl) (by kernel_rfl) ?_ ?_ ?_
      · intro r hr; cases hr
      · intro r hr; cases hr
      simp only [List.take_succ_cons, List.take_zero, fillL, Act.put, List.setIfInBounds_toArray, List.set_cons_zero, List.set_cons_succ]
      apply seq_is (by kernel_rfl)
      · intro u wx hb hd
        replace hb := hb.nil
        have hz := hb.size
        (try simp only [World.size_alloc, World.size_setCell] at hz)
        have hz0 : b < wx.heap.size := by omega
        obtain ⟨hc, hf⟩ := bcell hb
        clear hb hz
        simp [depsE, Region.binds, updE, kindOf, Prp.is, Prp.any] at hd
        go_simp
        exact ⟨Below.refl _ _, rfl⟩
      apply seq_is (by kernel_rfl)
      · intro u wx hb hd
        replace hb := hb.nil
        have hz := hb.size
        (try simp only [World.size_alloc, World.size_setCell] at hz)
        have hz0 : b < wx.heap.size := by omega
        obtain ⟨hc, hf⟩ := bcell hb
        clear hb hz
        simp [depsE, Region.binds, updE, kindOf, Prp.is, Prp.any] at hd
        go_simp
        exact ⟨Below.refl _ _, rfl⟩
      apply seq_is (by kernel_rfl)
      · intro u wx hb hd
        replace hb := hb.nil
        have hz := hb.size
        (try simp only [World.size_alloc, World.size_setCell] at hz)
        have hz0 : b < wx.heap.size := by omega
        obtain ⟨hc, hf⟩ := bcell hb
        clear hb hz
        simp [depsE, Region.binds, updE, kindOf, Prp.is, Prp.any] at hd
        go_simp
        exact ⟨Below.refl _ _, rfl⟩
      apply seq_is (by kernel_rfl)
      · intro u wx hb hd
        replace hb := hb.nil
        have hz := hb.size
        (try simp only [World.size_alloc, World.size_setCell] at hz)
        have hz0 : b < wx.heap.size := by omega
        obtain ⟨hc, hf⟩ := bcell hb
        clear hb hz
        simp [depsE, Region.binds, updE, kindOf, Prp.is, Prp.any] at hd
        go_simp
        exact ⟨Below.refl _ _, rfl⟩
      apply seq_is (by kernel_rfl)
      · intro u wx hb hd
        replace hb := hb.nil
        have hz := hb.size
        (try simp only [World.size_alloc, World.size_setCell] at hz)
        have hz0 : b < wx.heap.size := by omega
        obtain ⟨hc, hf⟩ := bcell hb
        clear hb hz
        simp [depsE, Region.binds, updE, kindOf, Prp.is, Prp.any] at hd
        go_simp
        exact ⟨Below.refl _ _, rfl⟩
      apply seq_is (by kernel_rfl)
      · intro u wx hb hd
        replace hb := hb.nil
        have hz := hb.size
        (try simp only [World.size_alloc, World.size_setCell] at hz)
        have hz0 : b < wx.heap.size := by omega
        obtain ⟨hc, hf⟩ := bcell hb
        clear hb hz
        simp [depsE, Region.binds, updE, kindOf, Prp.is, Prp.any] at hd
        go_simp
        exact ⟨Below.refl _ _, rfl⟩
      apply seq_is (by kernel_rfl)
      · intro u wx hb hd
        replace hb := hb.nil
        have hz := hb.size
        (try simp only [World.size_alloc, World.size_setCell] at hz)
        have hz0 : b < wx.heap.size := by omega
        obtain ⟨hc, hf⟩ := bcell hb
        clear hb hz
        simp [depsE, Region.binds, updE, kindOf, Prp.is, Prp.any] at hd
        go_simp
        exact ⟨Below.refl _ _, rfl⟩
      apply seq_is (by kernel_rfl)
      · intro u wx hb hd
        replace hb := hb.nil
        have hz := hb.size
        (try simp only [World.size_alloc, World.size_setCell] at hz)
        have hz0 : b < wx.heap.size := by omega
        obtain ⟨hc, hf⟩ := bcell hb
        clear hb hz
        simp [depsE, Region.binds, updE, kindOf, Prp.is, Prp.any] at hd
        go_simp
        exact ⟨Below.refl _ _, rfl⟩
      apply seq_is (by kernel_rfl)
      · intro u wx hb hd
        replace hb := hb.nil
        have hz := hb.size
        (try simp only [World.size_alloc, World.size_setCell] at hz)
        have hz0 : b < wx.heap.size := by omega
        obtain ⟨hc, hf⟩ := bcell hb
        clear hb hz
        simp [depsE, Region.binds, updE, kindOf, Prp.is, Prp.any] at hd
        go_simp
        exact ⟨Below.refl _ _, rfl⟩
      apply seq_is (by kernel_rfl)
      · intro u wx hb hd
        replace hb := hb.nil
        have hz := hb.size
        (try simp only [World.size_alloc, World.size_setCell] at hz)
        have hz0 : b < wx.heap.size := by omega
        obtain ⟨hc, hf⟩ := bcell hb
        clear hb hz
        simp [depsE, Region.binds, updE, kindOf, Prp.is, Prp.any] at hd
        go_simp
        (go_at_call 61; refine (rSub_in _ i2 i1).mono ?_; rintro e w1 ⟨rfl, hb1⟩; first | exact ⟨rfl, hb1⟩ | exact ⟨_, rfl, hb1, rfl⟩)
      refine seq_var ⟨10, 11, #[.int .i64 0, .int .i64 0, .int .i64 0], 39⟩ (by simp) rfl ?_ ?_
      · intro u wx hb
        refine ⟨by simp [Region.wanted], ?_⟩
        go_simp
        first | done | rfl | exact ⟨rfl, rfl⟩
      apply seq_sto_agg ⟨10, 11, #[.int .i64 0, .int .i64 0, .int .i64 0], 39⟩ (by simp) rfl (by kernel_rfl) rfl (by kernel_rfl)
      · intro u wx hb hd
        replace hb := hb.nil
        have hz := hb.size
        (try simp only [World.size_alloc, World.size_setCell] at hz)
        have hz0 : b < wx.heap.size := by omega
        obtain ⟨hc, hf⟩ := bcell hb
        clear hb hz
        simp [depsE, Region.binds, updE, kindOf, Prp.is, Prp.any] at hd
        refine ⟨by simp [Region.wanted], fun b' hub hlb hcells => ?_⟩
        have hub' : u 10 = .pointer (some ⟨b', 0, none⟩) := hub
        have hcells' : wx.heap[b']? = some (.cells #[.int .i64 0, .int .i64 0, .int .i64 0] 39) := hcells
        have hat := cells_at3 hcells'
        have HCL := Lib.hid hcells'
        clear hcells hcells' hub
        go_simp
        exact Stored.c3 HCL.out _ _ _
      intro u w5 hb hE hV hP
      replace hb := hb.nil
      clear hP
      have e0 : u 0 = _ := endE_get hE 0 (by decide) (by simp [kindOf])
      have e1 : u 1 = _ := endE_get hE 1 (by decide) (by simp [kindOf])
      have e2 : u 2 = _ := endE_get hE 2 (by decide) (by simp [kindOf])
      have e3 : u 3 = _ := endE_get hE 3 (by decide) (by simp [kindOf])
      have e4 : u 4 = _ := endE_get hE 4 (by decide) (by simp [kindOf])
      have e5 : u 5 = _ := endE_get hE 5 (by decide) (by simp [kindOf])
      have e6 : u 6 = _ := endE_get hE 6 (by decide) (by simp [kindOf])
      have e7 : u 7 = _ := endE_get hE 7 (by decide) (by simp [kindOf])
      have e8 : u 8 = _ := endE_get hE 8 (by decide) (by simp [kindOf])
      have e9 : u 9 = _ := endE_get hE 9 (by decide) (by simp [kindOf])
      have e11 : u 11 = _ := endE_get hE 11 (by decide) (by simp [kindOf])
      obtain ⟨⟨V0, pv0, lv0, qv0⟩, -, -⟩ := hV
      replace qv0 : w5.heap[V0]? = some (.cells (u 11).cells 39) := qv0
      rw [e11] at qv0
      replace pv0 : u 10 = .pointer (some ⟨V0, 0, none⟩) := pv0
      obtain ⟨mV00, mV01, mV02, mfV0, msV0⟩ := cells_at3 qv0
      have HQV0 := Lib.hid qv0
      clear qv0
      (try simp only [World.size_alloc, World.size_setCell] at lv0)
      have dV0w50 : V0 ≠ b := by omega
      clear lv0
      simp only [List.drop_succ_cons, List.drop_zero, List.take_succ_cons, List.take_zero, fillL, Act.put, List.setIfInBounds_toArray, List.set_cons_zero, List.set_cons_succ, e0, e1, e2, e3, e4, e5, e6, e7, e8, e9, e11, pv0]
      clear e0 e1 e2 e3 e4 e5 e6 e7 e8 e9 e11 pv0 hE
      have HBWw5 := Lib.hid hb
      have hw5 := below_step (w := w) (by first | assumption | go_grown) hb
      have hzw5 := hb.size
      (try simp only [World.size_alloc, World.size_setCell] at hzw5)
      have hzw50 : b < w5.heap.size := by omega
      have HHw5 := Lib.hid hb.block
      obtain ⟨hcw5, hfw5⟩ := bcell hb
      clear hb hzw5
      clear k1 k2 k2'
      have HB5 : Hid (Below wr.heap.size wr w5) := HBWw5
      have HO5 := Lib.hid (owns_below HOWN.out (HB5.out))
      have s0 : IntKind.i64.wrap (mx (x (k + 1) - x k) (-(x (k + 1) - x k)) + mx (y (k + 1) - y k) (-(y (k + 1) - y k))) = (mx (x (k + 1) - x k) (-(x (k + 1) - x k)) + mx (y (k + 1) - y k) (-(y (k + 1) - y k))) := IntWalk.i64_in _ (by omega)
      have s1 : IntKind.i64.wrap (mx (x (k + 1) - x k) (-(x (k + 1) - x k)) + mx (y (k + 1) - y k) (-(y (k + 1) - y k)) + mx (z (k + 1) - z k) (-(z (k + 1) - z k))) = (mx (x (k + 1) - x k) (-(x (k + 1) - x k)) + mx (y (k + 1) - y k) (-(y (k + 1) - y k)) + mx (z (k + 1) - z k) (-(z (k + 1) - z k))) := IntWalk.i64_in _ (by omega)
      go_wp2_with fail
      refine wp_region_seq 13 [] [] (by kernel_rfl) (by kernel_rfl) (by kernel_rfl) (by kernel_rfl) (by kernel_rfl) ?_ ?_ ?_
      · intro r hr; cases hr
      · intro r hr; cases hr
      simp only [List.take_succ_cons, List.take_zero, fillL, Act.put, List.setIfInBounds_toArray, List.set_cons_zero, List.set_cons_succ]
      apply seq_is (by kernel_rfl)
      · intro u wx hb hd
        replace hb := hb.nil
        have hz := hb.size
        (try simp only [World.size_alloc, World.size_setCell] at hz)
        have hz0 : b < wx.heap.size := by omega
        have hz1 : V0 < wx.heap.size := by omega
        obtain ⟨hc, hf⟩ := bcell hb
        clear hb hz
        simp [depsE, Region.binds, updE, kindOf, Prp.is, Prp.any] at hd
        go_simp
        exact ⟨Below.refl _ _, rfl⟩
      apply seq_is (by kernel_rfl)
      · intro u wx hb hd
        replace hb := hb.nil
        have hz := hb.size
        (try simp only [World.size_alloc, World.size_setCell] at hz)
        have hz0 : b < wx.heap.size := by omega
        have hz1 : V0 < wx.heap.size := by omega
        obtain ⟨hc, hf⟩ := bcell hb
        clear hb hz
        simp [depsE, Region.binds, updE, kindOf, Prp.is, Prp.any] at hd
        go_simp
        exact ⟨Below.refl _ _, rfl⟩
      apply seq_is (by kernel_rfl)
      · intro u wx hb hd
        replace hb := hb.nil
        have hz := hb.size
        (try simp only [World.size_alloc, World.size_setCell] at hz)
        have hz0 : b < wx.heap.size := by omega
        have hz1 : V0 < wx.heap.size := by omega
        obtain ⟨hc, hf⟩ := bcell hb
        clear hb hz
        simp [depsE, Region.binds, updE, kindOf, Prp.is, Prp.any] at hd
        go_simp
        exact ⟨Below.refl _ _, rfl⟩
      apply seq_is (by kernel_rfl)
      · intro u wx hb hd
        replace hb := hb.nil
        have hz := hb.size
        (try simp only [World.size_alloc, World.size_setCell] at hz)
        have hz0 : b < wx.heap.size := by omega
        have hz1 : V0 < wx.heap.size := by omega
        obtain ⟨hc, hf⟩ := bcell hb
        clear hb hz
        simp [depsE, Region.binds, updE, kindOf, Prp.is, Prp.any] at hd
        go_simp
        (go_at_call 90; refine (magnitude_in _ _ ⟨by omega, by omega⟩).mono ?_; rintro e w1 ⟨rfl, hb1⟩; first | exact ⟨rfl, hb1⟩ | exact ⟨_, rfl, hb1, rfl⟩)
      apply seq_is (by kernel_rfl)
      · intro u wx hb hd
        replace hb := hb.nil
        have hz := hb.size
        (try simp only [World.size_alloc, World.size_setCell] at hz)
        have hz0 : b < wx.heap.size := by omega
        have hz1 : V0 < wx.heap.size := by omega
        obtain ⟨hc, hf⟩ := bcell hb
        clear hb hz
        simp [depsE, Region.binds, updE, kindOf, Prp.is, Prp.any] at hd
        go_simp
        exact ⟨Below.refl _ _, rfl⟩
      apply seq_is (by kernel_rfl)
      · intro u wx hb hd
        replace hb := hb.nil
        have hz := hb.size
        (try simp only [World.size_alloc, World.size_setCell] at hz)
        have hz0 : b < wx.heap.size := by omega
        have hz1 : V0 < wx.heap.size := by omega
        obtain ⟨hc, hf⟩ := bcell hb
        clear hb hz
        simp [depsE, Region.binds, updE, kindOf, Prp.is, Prp.any] at hd
        go_simp
        exact ⟨Below.refl _ _, rfl⟩
      apply seq_is (by kernel_rfl)
      · intro u wx hb hd
        replace hb := hb.nil
        have hz := hb.size
        (try simp only [World.size_alloc, World.size_setCell] at hz)
        have hz0 : b < wx.heap.size := by omega
        have hz1 : V0 < wx.heap.size := by omega
        obtain ⟨hc, hf⟩ := bcell hb
        clear hb hz
        simp [depsE, Region.binds, updE, kindOf, Prp.is, Prp.any] at hd
        go_simp
        (go_at_call 90; refine (magnitude_in _ _ ⟨by omega, by omega⟩).mono ?_; rintro e w1 ⟨rfl, hb1⟩; first | exact ⟨rfl, hb1⟩ | exact ⟨_, rfl, hb1, rfl⟩)
      apply seq_is (by kernel_rfl)
      · intro u wx hb hd
        replace hb := hb.nil
        have hz := hb.size
        (try simp only [World.size_alloc, World.size_setCell] at hz)
        have hz0 : b < wx.heap.size := by omega
        have hz1 : V0 < wx.heap.size := by omega
        obtain ⟨hc, hf⟩ := bcell hb
        clear hb hz
        simp [depsE, Region.binds, updE, kindOf, Prp.is, Prp.any] at hd
        go_simp
        exact ⟨Below.refl _ _, rfl⟩
      apply seq_is (by kernel_rfl)
      · intro u wx hb hd
        replace hb := hb.nil
        have hz := hb.size
        (try simp only [World.size_alloc, World.size_setCell] at hz)
        have hz0 : b < wx.heap.size := by omega
        have hz1 : V0 < wx.heap.size := by omega
        obtain ⟨hc, hf⟩ := bcell hb
        clear hb hz
        simp [depsE, Region.binds, updE, kindOf, Prp.is, Prp.any] at hd
        go_simp
        exact ⟨Below.refl _ _, rfl⟩
      apply seq_is (by kernel_rfl)
      · intro u wx hb hd
        replace hb := hb.nil
        have hz := hb.size
        (try simp only [World.size_alloc, World.size_setCell] at hz)
        have hz0 : b < wx.heap.size := by omega
        have hz1 : V0 < wx.heap.size := by omega
        obtain ⟨hc, hf⟩ := bcell hb
        clear hb hz
        simp [depsE, Region.binds, updE, kindOf, Prp.is, Prp.any] at hd
        go_simp
        exact ⟨Below.refl _ _, rfl⟩
      apply seq_is (by kernel_rfl)
      · intro u wx hb hd
        replace hb := hb.nil
        have hz := hb.size
        (try simp only [World.size_alloc, World.size_setCell] at hz)
        have hz0 : b < wx.heap.size := by omega
        have hz1 : V0 < wx.heap.size := by omega
        obtain ⟨hc, hf⟩ := bcell hb
        clear hb hz
        simp [depsE, Region.binds, updE, kindOf, Prp.is, Prp.any] at hd
        go_simp
        (go_at_call 90; refine (magnitude_in _ _ ⟨by omega, by omega⟩).mono ?_; rintro e w1 ⟨rfl, hb1⟩; first | exact ⟨rfl, hb1⟩ | exact ⟨_, rfl, hb1, rfl⟩)
      apply seq_is (by kernel_rfl)
      · intro u wx hb hd
        replace hb := hb.nil
        have hz := hb.size
        (try simp only [World.size_alloc, World.size_setCell] at hz)
        have hz0 : b < wx.heap.size := by omega
        have hz1 : V0 < wx.heap.size := by omega
        obtain ⟨hc, hf⟩ := bcell hb
        clear hb hz
        simp [depsE, Region.binds, updE, kindOf, Prp.is, Prp.any] at hd
        go_simp
        exact ⟨Below.refl _ _, rfl⟩
      refine seq_new (Prp.built 1 #[.int .i64 (mx (x (k + 1) - x k) (-(x (k + 1) - x k)) + mx (y (k + 1) - y k) (-(y (k + 1) - y k)) + mx (z (k + 1) - z k) (-(z (k + 1) - z k)))] 3) (by kernel_rfl) ?_ ?_
      · intro u wx hb hd
        replace hb := hb.nil
        have hz := hb.size
        (try simp only [World.size_alloc, World.size_setCell] at hz)
        have hz0 : b < wx.heap.size := by omega
        have hz1 : V0 < wx.heap.size := by omega
        obtain ⟨hc, hf⟩ := bcell hb
        clear hb hz
        simp [depsE, Region.binds, updE, kindOf, Prp.is, Prp.any] at hd
        refine ⟨by simp [Region.wanted], ?_⟩
        go_simp
        exact ⟨(Below.refl _ _).alloc (Nat.le_refl _) _, built_new _ _ _ _, fun b hb => .inr (.inl (by simp [Prp.built, Value.ownBlock] at hb; omega))⟩
      intro u w6 hb hE hV hP
      replace hb := hb.nil
      clear hP
      have e0 : u 0 = _ := endE_get hE 0 (by decide) (by simp [kindOf])
      have e1 : u 1 = _ := endE_get hE 1 (by decide) (by simp [kindOf])
      have e2 : u 2 = _ := endE_get hE 2 (by decide) (by simp [kindOf])
      have e3 : u 3 = _ := endE_get hE 3 (by decide) (by simp [kindOf])
      have e4 : u 4 = _ := endE_get hE 4 (by decide) (by simp [kindOf])
      have e5 : u 5 = _ := endE_get hE 5 (by decide) (by simp [kindOf])
      have e6 : u 6 = _ := endE_get hE 6 (by decide) (by simp [kindOf])
      have e7 : u 7 = _ := endE_get hE 7 (by decide) (by simp [kindOf])
      have e8 : u 8 = _ := endE_get hE 8 (by decide) (by simp [kindOf])
      have e9 : u 9 = _ := endE_get hE 9 (by decide) (by simp [kindOf])
      have e10 : u 10 = _ := endE_get hE 10 (by decide) (by simp [kindOf])
      have e11 : u 11 = _ := endE_get hE 11 (by decide) (by simp [kindOf])
      obtain ⟨g12, e12, q12⟩ : ∃ g : Nat, u 12 = .slice (some ⟨g, 0, none⟩) 1 1 ∧ w6.heap[g]? = some (.cells #[.int .i64 (mx (x (k + 1) - x k) (-(x (k + 1) - x k)) + mx (y (k + 1) - y k) (-(y (k + 1) - y k)) + mx (z (k + 1) - z k) (-(z (k + 1) - z k)))] 3) := endE_get hE 12 (by decide) (by simp [kindOf])
      clear hV
      simp only [List.drop_succ_cons, List.drop_zero, List.take_succ_cons, List.take_zero, fillL, Act.put, List.setIfInBounds_toArray, List.set_cons_zero, List.set_cons_succ, e0, e1, e2, e3, e4, e5, e6, e7, e8, e9, e10, e11, e12]
      clear e0 e1 e2 e3 e4 e5 e6 e7 e8 e9 e10 e11 e12 hE
      have HBWw6 := Lib.hid hb
      have hw6 := below_step (w := w) (by first | assumption | go_grown) hb
      have hzw6 := hb.size
      (try simp only [World.size_alloc, World.size_setCell] at hzw6)
      have hzw60 : b < w6.heap.size := by omega
      have hzw61 : V0 < w6.heap.size := by omega
      have HHw6 := Lib.hid hb.block
      obtain ⟨hcw6, hfw6⟩ := bcell hb
      clear hb hzw6
      clear s0 s1
      have HO6 := Lib.hid (owns_below HO5.out HBWw6.out)
      go_wp2_with (first | (at_builtin; refine wpList_append_own _ rfl _ _ 29 rfl w.heap.size 3 i0 (.int .i64 0) 1 8 Tryz.underlying29 hi hz0 hz1 hz2 rfl (by decide) _ _ _ rfl (HO6.out) ⟨g12, 0, none⟩ 1 1 [(.int .i64 (legV x y z k))] rfl rfl ?c1 ?c2 ?c3 ?c4 ?c5 ?_) | go_in)
      case c1 =>
        intro j u hj
        match j, hj with
        | 0, hj =>
          simp at hj
          subst hj
          have hat := (cells_at1 q12).1
          simpa [Addr.add, legV] using hat
      case c2 => intro u hu; simp at hu; subst hu; rfl
      case c3 => unfold maxLen; omega
      case c4 => omega
      case c5 => have := hw6.size; simp; omega
      intro v' w7 hown' hgrow _
      have hB7 : Below w.heap.size w w7 := Below.grown hw6 hgrow (by have := hw6.size; first | omega | (simp; omega)) (fun q hq => owns_new HO6.out q hq)
      have HB7 := Lib.hid hB7
      rw [listOf_snoc] at hown'
      have HO7 := Lib.hid hown'
      clear hown' hgrow hB7
      go_wp2
      go_roundw
      case rel => exact ⟨k + 1, .inl (by omega), by go_num, HO7.out, HB7.out⟩
      case measure => simp [intOf]; omega
    · have HBr := Lib.hid hb
      have HOWN := Lib.hid hown
      clear hb hown
      have e : (n : Int) ≤ (k : Int) + 1 := by omega
      go_wp2
      go_returns
      refine ⟨_, rfl, ?_, owns_new HOWN.out, HBr.out⟩
      have e2 : n - 1 = k := by omega
      rw [e2]
      exact owns_ints HOWN.out
end Go.Proofs.YtgbhhjdmochhpaaGreatDoor
