/-
  Lemmas of this claim, joined (PlK). Conditions: as stated. By an AI agent.
-/
import Derived.Test.YtgbhhjdmochhpaaDoorJ2
import Derived.Test.YtgbhhjdmochhpaaDoorJ3
namespace Go.Proofs.YtgbhhjdmochhpaaDoor
open Go Go.ChangeShapes Go.WideShapes Go.RowKit Go.ChangeAt
set_option linter.unusedVariables false
set_option linter.unusedSimpArgs false

theorem eql_point (a b x y : Int) (W : World) : (binOp .eql 37 (.agg #[.int .i64 a, .int .i64 b]) (.agg #[.int .i64 x, .int .i64 y])).run Tryd.prog W = .ok (.bool (decide ((a, b) = (x, y)))) W := by
  simp [go_sem]
  split
  · split <;> simp [*]
  · simp [*]
theorem nx_mod2 {n j : Nat} (h : j < n) (h3 : 3 ≤ n) : ((j : Int) + 2).tmod (n : Int) = (nx n (nx n j) : Int) := by
  rw [Int.tmod_eq_emod_of_nonneg (by omega)]
  have e : nx n (nx n j) = (j + 2) % n := by
    unfold nx
    rw [Nat.mod_add_mod]
  rw [e, Int.natCast_emod]
  rfl

set_option maxHeartbeats 4000000 in
set_option maxRecDepth 20000 in
theorem simpleP_yes (v : Value) (n : Nat) (P : Nat → Pt) (w : World) (h : PtsAt w v n P) (hp : Hid (Pol 32768 n P)) (hn32 : n ≤ 32) :
    Calls Tryd.prog 60 #[v] w fun e w' => e = .returned (.bool true) ∧ Below w.heap.size w w' := by
  obtain ⟨oa, cap, rfl, hn, hc, hel⟩ := h.form
  have HEL := Lib.hid hel
  clear h hel
  go_enter Tryd.func60, Tryd.ntmps60
  go_wp2
  go_loopw [13] (fun i wr => ∃ j : Nat, j ≤ n ∧ i = .int .i64 j ∧ Below w.heap.size w wr) (fun i _ => n - (intOf i).toNat)
  case atStart => exact ⟨0, by omega, rfl, Below.refl _ _⟩
  case round =>
    obtain ⟨w1, rfl⟩ : ∃ x : World, x = wr := ⟨_, rfl⟩
    obtain ⟨j, hj, rfl, hB1⟩ := hrel
    have HB1r := Lib.hid hB1
    by_cases hlt : j < n
    · obtain ⟨bk1, f1, rfl, hbl1, hcl1⟩ := HEL.out j hlt
      have n3 := hp.out.n3
      obtain ⟨J1, hJ1⟩ : ∃ e, (j : Int) + 1 = e := ⟨_, rfl⟩
      obtain ⟨q, hq⟩ : ∃ q, nx n j = q := ⟨_, rfl⟩
      have qn : q < n := by rw [← hq]; exact nx_lt (by omega)
      have i1 : IntKind.i64.wrap ((j : Int) + 1) = J1 := by rw [hJ1]; exact IntWalk.i64_in _ (by omega)
      have i2 : J1.tmod (n : Int) = (q : Int) := by rw [← hJ1, ← hq]; exact nx_mod hlt
      have i3 : IntKind.i64.wrap (q : Int) = (q : Int) := IntWalk.i64_in _ (by omega)
      have i4 : ((n : Int) == 0) = false := by simp; omega
      have i0 : ¬ n = 0 := by omega
      have i5 : (0 : Int) ≤ (q : Int) := by omega
      have i6 : (q : Int) < (n : Int) := by omega
      have i7 : IntKind.i64.wrap (J1.tmod (n : Int)) = (q : Int) := by rw [i2]; exact i3
      have HJ1 := Lib.hid hJ1
      have Hq := Lib.hid hq
      have i8 : (0 : Int) ≤ (j : Int) := by omega
      have i9 : (j : Int) < (n : Int) := by omega
      clear hJ1 hq
      obtain ⟨J2, hJ2⟩ : ∃ e, (j : Int) + 2 = e := ⟨_, rfl⟩
      obtain ⟨r, hr⟩ : ∃ r, nx n q = r := ⟨_, rfl⟩
      have rn : r < n := by rw [← hr]; exact nx_lt (by omega)
      have y1 : IntKind.i64.wrap ((j : Int) + 2) = J2 := by rw [hJ2]; exact IntWalk.i64_in _ (by omega)
      have y2 : J2.tmod (n : Int) = (r : Int) := by rw [← hJ2, ← hr, ← Hq.out]; exact nx_mod2 hlt n3
      have y3 : IntKind.i64.wrap (r : Int) = (r : Int) := IntWalk.i64_in _ (by omega)
      have y5 : (0 : Int) ≤ (r : Int) := by omega
      have y6 : (r : Int) < (n : Int) := by omega
      have y7 : IntKind.i64.wrap (J2.tmod (n : Int)) = (r : Int) := by rw [y2]; exact y3
      have Hr := Lib.hid hr
      have HJ2 := Lib.hid hJ2
      clear hr hJ2
      have HN := Lib.hid (near_nr (p := P j) (nearB_iff.2 (by have := hp.out.nr j hlt; omega)))
      have HNq := Lib.hid (near_nr (p := P q) (nearB_iff.2 (by have := hp.out.nr q qn; omega)))
      have HNr := Lib.hid (near_nr (p := P r) (nearB_iff.2 (by have := hp.out.nr r rn; omega)))
      have HS := Lib.hid (hp.out.simple hlt)
      have pa0 : w1.cell? ⟨bk1, f1 + j * 2, none⟩ = some (.int .i64 (P j).1) := (hB1.cell (p := ⟨_, _, none⟩) hbl1).trans (hcl1 j hlt).1
      have pa1 : w1.cell? ⟨bk1, f1 + j * 2 + 1, none⟩ = some (.int .i64 (P j).2) := (hB1.cell (p := ⟨_, _, none⟩) hbl1).trans (hcl1 j hlt).2
      have pb0 : w1.cell? ⟨bk1, f1 + q * 2, none⟩ = some (.int .i64 (P q).1) := (hB1.cell (p := ⟨_, _, none⟩) hbl1).trans (hcl1 q qn).1
      have pb1 : w1.cell? ⟨bk1, f1 + q * 2 + 1, none⟩ = some (.int .i64 (P q).2) := (hB1.cell (p := ⟨_, _, none⟩) hbl1).trans (hcl1 q qn).2
      have zb0 : bk1 < w1.heap.size := by have := hB1.size; omega
      have HCL1 := Lib.hid hcl1
      clear hcl1
      have HNE : Hid (¬ ((P j).1, (P j).2) = ((P q).1, (P q).2)) := fun e => HS.out.1 (by rw [Hq.out]; exact e)
      have HF : Hid (crs (P j) (P q) (P r) = 0 → ((P j).1 - (P q).1) * ((P r).1 - (P q).1) + ((P j).2 - (P q).2) * ((P r).2 - (P q).2) ≤ 0) := fun h0 => by
        have h1 := HS.out.2.1
        rw [Hq.out, Hr.out] at h1
        exact Int.not_lt.1 fun h2 => h1 ⟨h0, h2⟩
      have pcc0 : ((P r).1, (P r).2) = P r := rfl
      have HC : Hid (∀ W, Calls Tryd.prog 73 #[.agg #[.int .i64 (P j).1, .int .i64 (P j).2], .agg #[.int .i64 (P q).1, .int .i64 (P q).2], .agg #[.int .i64 (P r).1, .int .i64 (P r).2]] W (fun e w' => e = .returned (.int .i64 (crs (P j) (P q) (P r))) ∧ Below W.heap.size W w')) := fun W => crsP_any _ _ _ _ _ _ W HN.out HNq.out HNr.out
      have BA := Lib.hid (hp.out.nr j hlt)
      have BB := Lib.hid (hp.out.nr q qn)
      have BC := Lib.hid (hp.out.nr r rn)
      clear pcc0
      obtain ⟨C, hC⟩ : ∃ e, crs (P j) (P q) (P r) = e := ⟨_, rfl⟩
      rw [hC] at HC HF
      clear hC
      obtain ⟨a1, ha1⟩ : ∃ e, (P j).1 = e := ⟨_, rfl⟩
      obtain ⟨a2, ha2⟩ : ∃ e, (P j).2 = e := ⟨_, rfl⟩
      obtain ⟨b1, hb1⟩ : ∃ e, (P q).1 = e := ⟨_, rfl⟩
      obtain ⟨b2, hb2⟩ : ∃ e, (P q).2 = e := ⟨_, rfl⟩
      obtain ⟨c1, hc1⟩ : ∃ e, (P r).1 = e := ⟨_, rfl⟩
      obtain ⟨c2, hc2⟩ : ∃ e, (P r).2 = e := ⟨_, rfl⟩
      rw [ha1, ha2, hb1, hb2] at HNE
      rw [ha1, ha2, hb1, hb2, hc1, hc2] at HC HF
      rw [ha1, ha2] at BA
      rw [hb1, hb2] at BB
      rw [hc1, hc2] at BC
      rw [ha1] at pa0
      rw [ha2] at pa1
      rw [hb1] at pb0
      rw [hb2] at pb1
      have HAB := Lib.hid (And.intro ha1 (And.intro ha2 (And.intro hb1 (And.intro hb2 (And.intro hc1 hc2)))))
      clear ha1 ha2 hb1 hb2 hc1 hc2
      have qe : decide ((a1, a2) = (b1, b2)) = false := decide_eq_false HNE.out
      have qp := eql_point a1 a2 b1 b2
      rw [qe] at qp
      clear qe
      go_wp2_with fail
      refine wp_region_seq 15 [⟨11, 13, #[.int .i64 0, .int .i64 0], 37⟩, ⟨12, 14, #[.int .i64 0, .int .i64 0], 37⟩] [] (by kernel_rfl) (by kernel_rfl) (by kernel_rfl) (by kernel_rfl) (by kernel_rfl) ?_ ?_ ?_
      · intro r hr; cases hr
      · intro r hr; cases hr
      simp only [List.take_succ_cons, List.take_zero, fillL, Act.put, List.setIfInBounds_toArray, List.set_cons_zero, List.set_cons_succ]
      apply seq_is (by kernel_rfl)
      · intro u wx hb hd
        replace hb := hb.nil
        have hz := hb.size
        (try simp only [World.size_alloc, World.size_setCell] at hz)
        have hz0 : bk1 < wx.heap.size := by omega
        obtain ⟨hc, hf⟩ := bcell hb
        clear hb hz
        simp [depsE, Region.binds, updE, kindOf, Prp.is, Prp.any] at hd
        go_simp
        first | exact ⟨Below.refl _ _, rfl⟩ | rfl
      apply seq_is (by kernel_rfl)
      · intro u wx hb hd
        replace hb := hb.nil
        have hz := hb.size
        (try simp only [World.size_alloc, World.size_setCell] at hz)
        have hz0 : bk1 < wx.heap.size := by omega
        obtain ⟨hc, hf⟩ := bcell hb
        clear hb hz
        simp [depsE, Region.binds, updE, kindOf, Prp.is, Prp.any] at hd
        go_simp
        first | exact ⟨Below.refl _ _, rfl⟩ | rfl
      apply seq_is (by kernel_rfl)
      · intro u wx hb hd
        replace hb := hb.nil
        have hz := hb.size
        (try simp only [World.size_alloc, World.size_setCell] at hz)
        have hz0 : bk1 < wx.heap.size := by omega
        obtain ⟨hc, hf⟩ := bcell hb
        clear hb hz
        simp [depsE, Region.binds, updE, kindOf, Prp.is, Prp.any] at hd
        go_simp
        first | exact ⟨Below.refl _ _, rfl⟩ | rfl
      apply seq_is (by kernel_rfl)
      · intro u wx hb hd
        replace hb := hb.nil
        have hz := hb.size
        (try simp only [World.size_alloc, World.size_setCell] at hz)
        have hz0 : bk1 < wx.heap.size := by omega
        obtain ⟨hc, hf⟩ := bcell hb
        clear hb hz
        simp [depsE, Region.binds, updE, kindOf, Prp.is, Prp.any] at hd
        go_simp
        first | exact ⟨Below.refl _ _, rfl⟩ | rfl
      apply seq_is (by kernel_rfl)
      · intro u wx hb hd
        replace hb := hb.nil
        have hz := hb.size
        (try simp only [World.size_alloc, World.size_setCell] at hz)
        have hz0 : bk1 < wx.heap.size := by omega
        obtain ⟨hc, hf⟩ := bcell hb
        clear hb hz
        simp [depsE, Region.binds, updE, kindOf, Prp.is, Prp.any] at hd
        go_simp
        first | exact ⟨Below.refl _ _, rfl⟩ | rfl
      apply seq_is (by kernel_rfl)
      · intro u wx hb hd
        replace hb := hb.nil
        have hz := hb.size
        (try simp only [World.size_alloc, World.size_setCell] at hz)
        have hz0 : bk1 < wx.heap.size := by omega
        obtain ⟨hc, hf⟩ := bcell hb
        clear hb hz
        simp [depsE, Region.binds, updE, kindOf, Prp.is, Prp.any] at hd
        go_simp
        first | exact ⟨Below.refl _ _, rfl⟩ | rfl
      apply seq_is (by kernel_rfl)
      · intro u wx hb hd
        replace hb := hb.nil
        have hz := hb.size
        (try simp only [World.size_alloc, World.size_setCell] at hz)
        have hz0 : bk1 < wx.heap.size := by omega
        obtain ⟨hc, hf⟩ := bcell hb
        clear hb hz
        simp [depsE, Region.binds, updE, kindOf, Prp.is, Prp.any] at hd
        go_simp
        first | exact ⟨Below.refl _ _, rfl⟩ | rfl
      apply seq_is (by kernel_rfl)
      · intro u wx hb hd
        replace hb := hb.nil
        have hz := hb.size
        (try simp only [World.size_alloc, World.size_setCell] at hz)
        have hz0 : bk1 < wx.heap.size := by omega
        obtain ⟨hc, hf⟩ := bcell hb
        clear hb hz
        simp [depsE, Region.binds, updE, kindOf, Prp.is, Prp.any] at hd
        go_simp
        first | exact ⟨Below.refl _ _, rfl⟩ | rfl
      apply seq_is (by kernel_rfl)
      · intro u wx hb hd
        replace hb := hb.nil
        have hz := hb.size
        (try simp only [World.size_alloc, World.size_setCell] at hz)
        have hz0 : bk1 < wx.heap.size := by omega
        obtain ⟨hc, hf⟩ := bcell hb
        clear hb hz
        simp [depsE, Region.binds, updE, kindOf, Prp.is, Prp.any] at hd
        go_simp
        first | exact ⟨Below.refl _ _, rfl⟩ | rfl
      apply seq_is (by kernel_rfl)
      · intro u wx hb hd
        replace hb := hb.nil
        have hz := hb.size
        (try simp only [World.size_alloc, World.size_setCell] at hz)
        have hz0 : bk1 < wx.heap.size := by omega
        obtain ⟨hc, hf⟩ := bcell hb
        clear hb hz
        simp [depsE, Region.binds, updE, kindOf, Prp.is, Prp.any] at hd
        go_simp
        first | exact ⟨Below.refl _ _, rfl⟩ | rfl
      apply seq_is (by kernel_rfl)
      · intro u wx hb hd
        replace hb := hb.nil
        have hz := hb.size
        (try simp only [World.size_alloc, World.size_setCell] at hz)
        have hz0 : bk1 < wx.heap.size := by omega
        obtain ⟨hc, hf⟩ := bcell hb
        clear hb hz
        simp [depsE, Region.binds, updE, kindOf, Prp.is, Prp.any] at hd
        go_simp
        first | exact ⟨Below.refl _ _, rfl⟩ | rfl
      refine seq_var ⟨11, 13, #[.int .i64 0, .int .i64 0], 37⟩ (by simp) rfl ?_ ?_
      · intro u wx hb
        refine ⟨by simp [Region.wanted], ?_⟩
        go_simp
        first | done | rfl | exact ⟨rfl, rfl⟩
      refine seq_var ⟨12, 14, #[.int .i64 0, .int .i64 0], 37⟩ (by simp) rfl ?_ ?_
      · intro u wx hb
        refine ⟨by simp [Region.wanted], ?_⟩
        go_simp
        first | done | rfl | exact ⟨rfl, rfl⟩
      apply seq_sto_agg ⟨11, 13, #[.int .i64 0, .int .i64 0], 37⟩ (by simp) rfl (by kernel_rfl) rfl (by kernel_rfl)
      · intro u wx hb hd
        replace hb := hb.nil
        have hz := hb.size
        (try simp only [World.size_alloc, World.size_setCell] at hz)
        have hz0 : bk1 < wx.heap.size := by omega
        obtain ⟨hc, hf⟩ := bcell hb
        clear hb hz
        simp [depsE, Region.binds, updE, kindOf, Prp.is, Prp.any] at hd
        refine ⟨by simp [Region.wanted], fun b' hub hlb hcells => ?_⟩
        have hub' : u 11 = .pointer (some ⟨b', 0, none⟩) := hub
        have hcells' : wx.heap[b']? = some (.cells #[.int .i64 0, .int .i64 0] 37) := hcells
        have hat := cells_at2 hcells'
        have HCL := Lib.hid hcells'
        clear hcells hcells' hub
        go_simp
        exact Stored.c2 HCL.out _ _
      apply seq_sto_agg ⟨12, 14, #[.int .i64 0, .int .i64 0], 37⟩ (by simp) rfl (by kernel_rfl) rfl (by kernel_rfl)
      · intro u wx hb hd
        replace hb := hb.nil
        have hz := hb.size
        (try simp only [World.size_alloc, World.size_setCell] at hz)
        have hz0 : bk1 < wx.heap.size := by omega
        obtain ⟨hc, hf⟩ := bcell hb
        clear hb hz
        simp [depsE, Region.binds, updE, kindOf, Prp.is, Prp.any] at hd
        refine ⟨by simp [Region.wanted], fun b' hub hlb hcells => ?_⟩
        have hub' : u 12 = .pointer (some ⟨b', 0, none⟩) := hub
        have hcells' : wx.heap[b']? = some (.cells #[.int .i64 0, .int .i64 0] 37) := hcells
        have hat := cells_at2 hcells'
        have HCL := Lib.hid hcells'
        clear hcells hcells' hub
        go_simp
        exact Stored.c2 HCL.out _ _
      intro u w5 hb hE hV hP
      replace hb := hb.nil
      clear hP
      have e0 : u 0 = _ := endE_get hE 0 (by decide) (by simp [kindOf])
      have e1 : u 1 = _ := endE_get hE 1 (by decide) (by simp [kindOf])
      have e2 : u 2 = _ := endE_get hE 2 (by decide) (by simp [kindOf])
      have e3 : u 3 = _ := endE_get hE 3 (by decide) (by simp [kindOf])
      have e4 : u 4 = _ := endE_get hE 4 (by decide) (by simp [kindOf])
      have e5 : u 5 = _ := endE_get hE 5 (by decide) (by simp [kindOf])
      have e6 : u 6 = _ := endE_get hE 6 (by decide) (by simp [kindOf])
      have e7 : u 7 = _ := endE_get hE 7 (by decide) (by simp [kindOf])
      have e8 : u 8 = _ := endE_get hE 8 (by decide) (by simp [kindOf])
      have e9 : u 9 = _ := endE_get hE 9 (by decide) (by simp [kindOf])
      have e10 : u 10 = _ := endE_get hE 10 (by decide) (by simp [kindOf])
      have e13 : u 13 = _ := endE_get hE 13 (by decide) (by simp [kindOf])
      have e14 : u 14 = _ := endE_get hE 14 (by decide) (by simp [kindOf])
      obtain ⟨⟨VA, pv0, lv0, qv0⟩, ⟨nq01, -⟩, ⟨⟨VB, pv1, lv1, qv1⟩, -, -⟩⟩ := hV
      replace qv0 : w5.heap[VA]? = some (.cells (u 13).cells 37) := qv0
      rw [e13] at qv0
      replace pv0 : u 11 = .pointer (some ⟨VA, 0, none⟩) := pv0
      obtain ⟨mVA0, mVA1, mfVA, msVA⟩ := cells_at2 qv0
      have HQVA := Lib.hid qv0
      clear qv0
      replace qv1 : w5.heap[VB]? = some (.cells (u 14).cells 37) := qv1
      rw [e14] at qv1
      replace pv1 : u 12 = .pointer (some ⟨VB, 0, none⟩) := pv1
      obtain ⟨mVB0, mVB1, mfVB, msVB⟩ := cells_at2 qv1
      have HQVB := Lib.hid qv1
      clear qv1
      have dVAVB : VA ≠ VB := fun e => nq01 (by show u _ = u _; rw [pv0, pv1, e])
      clear nq01
      (try simp only [World.size_alloc, World.size_setCell] at lv0)
      have dVAw50 : VA ≠ bk1 := by omega
      (try have lbVA : w1.heap.size ≤ VA := by omega)
      clear lv0
      (try simp only [World.size_alloc, World.size_setCell] at lv1)
      have dVBw50 : VB ≠ bk1 := by omega
      (try have lbVB : w1.heap.size ≤ VB := by omega)
      clear lv1
      simp only [List.drop_succ_cons, List.drop_zero, List.take_succ_cons, List.take_zero, fillL, Act.put, List.setIfInBounds_toArray, List.set_cons_zero, List.set_cons_succ, e0, e1, e2, e3, e4, e5, e6, e7, e8, e9, e10, e13, e14, pv0, pv1]
      clear e0 e1 e2 e3 e4 e5 e6 e7 e8 e9 e10 e13 e14 pv0 pv1 hE
      have HBWw5 := Lib.hid hb
      have hw5 := below_step (w := w1) (by first | assumption | go_grown) hb
      have hzw5 := hb.size
      (try simp only [World.size_alloc, World.size_setCell] at hzw5)
      have hzw50 : bk1 < w5.heap.size := by omega
      have HHw5 := Lib.hid hb.block
      obtain ⟨hcw5, hfw5⟩ := bcell hb
      clear hb hzw5
      have HB5 := Lib.hid (below_step HB1r.out HBWw5.out)
      have hB5 := HB5.out
      have zb5 : bk1 < w5.heap.size := by have := HBWw5.out.size; omega
      have zw5 := HBWw5.out.size
      have e0 : w5.cell? ⟨bk1, f1 + r * 2, none⟩ = some (.int .i64 c1) := by rw [← HAB.out.2.2.2.2.1]; exact (hB5.cell (p := ⟨_, _, none⟩) hbl1).trans (HCL1.out r rn).1
      have e1 : w5.cell? ⟨bk1, f1 + r * 2 + 1, none⟩ = some (.int .i64 c2) := by rw [← HAB.out.2.2.2.2.2]; exact (hB5.cell (p := ⟨_, _, none⟩) hbl1).trans (HCL1.out r rn).2
      clear pa0 pa1 pb0 pb1
      (try clear hcw5 hfw5)
      go_wp2_with fail
      (go_at_call 73; refine (HC.out _).mono ?_; rintro e_ w6 ⟨rfl, hb6⟩)
      have HB6 := Lib.hid (below_step (w := w) (by have hB := HB5.out; have hz := hB.size; go_grown) hb6)
      have KA : w6.heap[VA]? = some (.cells #[.int .i64 a1, .int .i64 a2] 37) := (hb6.block VA (by simp; omega)).trans ((heapA_old _ _ _ msVA).trans HQVA.out)
      have KB : w6.heap[VB]? = some (.cells #[.int .i64 b1, .int .i64 b2] 37) := (hb6.block VB (by simp; omega)).trans ((heapA_old _ _ _ msVB).trans HQVB.out)
      have KC : w6.heap[w5.heap.size]? = some (.cells #[.int .i64 c1, .int .i64 c2] 37) := (hb6.block w5.heap.size (by simp)).trans (heapA_at _ _ _ rfl)
      have zw6 := hb6.size
      (try simp only [World.size_alloc] at zw6)
      clear mVA0 mVA1 mVB0 mVB1 mfVA mfVB hb6 e0 e1
      obtain ⟨xa0, xa1, xaf, xaz⟩ := cells_at2 KA
      obtain ⟨xb0, xb1, xbf, xbz⟩ := cells_at2 KB
      obtain ⟨xc0, xc1, xcf, xcz⟩ := cells_at2 KC
      have HKA := Lib.hid KA
      have HKB := Lib.hid KB
      clear KA KB KC
      by_cases hC0 : C = 0
      · subst hC0
        have hle := HF.out rfl
        have BAo := BA.out
        have BBo := BB.out
        have BCo := BC.out
        obtain ⟨x1, hx1⟩ : ∃ e, a1 - b1 = e := ⟨_, rfl⟩
        obtain ⟨x2, hx2⟩ : ∃ e, c1 - b1 = e := ⟨_, rfl⟩
        obtain ⟨x3, hx3⟩ : ∃ e, a2 - b2 = e := ⟨_, rfl⟩
        obtain ⟨x4, hx4⟩ : ∃ e, c2 - b2 = e := ⟨_, rfl⟩
        have o1 : IntKind.i64.wrap (a1 - b1) = x1 := by rw [hx1]; exact IntWalk.i64_in _ (by omega)
        have o2 : IntKind.i64.wrap (c1 - b1) = x2 := by rw [hx2]; exact IntWalk.i64_in _ (by omega)
        have o3 : IntKind.i64.wrap (a2 - b2) = x3 := by rw [hx3]; exact IntWalk.i64_in _ (by omega)
        have o4 : IntKind.i64.wrap (c2 - b2) = x4 := by rw [hx4]; exact IntWalk.i64_in _ (by omega)
        rw [hx1, hx2, hx3, hx4] at hle
        have g1 := prod_bd (x := x1) (y := x2) (by omega) (by omega)
        have g2 := prod_bd (x := x3) (y := x4) (by omega) (by omega)
        obtain ⟨m1, hm1⟩ : ∃ e, x1 * x2 = e := ⟨_, rfl⟩
        obtain ⟨m2, hm2⟩ : ∃ e, x3 * x4 = e := ⟨_, rfl⟩
        rw [hm1] at g1
        rw [hm2] at g2
        rw [hm1, hm2] at hle
        obtain ⟨m3, hm3⟩ : ∃ e, m1 + m2 = e := ⟨_, rfl⟩
        have o5 : IntKind.i64.wrap (x1 * x2) = m1 := by rw [hm1]; exact IntWalk.i64_in _ (by omega)
        have o6 : IntKind.i64.wrap (x3 * x4) = m2 := by rw [hm2]; exact IntWalk.i64_in _ (by omega)
        have o7 : IntKind.i64.wrap (m1 + m2) = m3 := by rw [hm3]; exact IntWalk.i64_in _ (by omega)
        have o8 : decide (0 < m3) = false := decide_eq_false (by omega)
        clear hx1 hx2 hx3 hx4 hm1 hm2 hm3 hle g1 g2 BAo BBo BCo
        go_wp2
        go_loopw [8] (fun i wr => ∃ l : Nat, j + 2 ≤ l ∧ i = .int .i64 l ∧ VA < wr.heap.size ∧ VB < wr.heap.size ∧ wr.cell? ⟨VA, 0, none⟩ = some (.int .i64 a1) ∧ wr.cell? ⟨VA, 1, none⟩ = some (.int .i64 a2) ∧ wr.cell? ⟨VB, 0, none⟩ = some (.int .i64 b1) ∧ wr.cell? ⟨VB, 1, none⟩ = some (.int .i64 b2) ∧ Below w.heap.size w wr) (fun i _ => n - (intOf i).toNat)
        case atStart => exact ⟨j + 2, by omega, by rw [← HJ2.out]; rfl, xaz, xbz, xa0, xa1, xb0, xb1, HB6.out⟩
        case round =>
          clear xaz xbz xa0 xa1 xb0 xb1 xaf xbf xc0 xc1 xcf xcz
          obtain ⟨w2, rfl⟩ : ∃ x : World, x = wr := ⟨_, rfl⟩
          obtain ⟨l, hl, rfl, zA, zB, m0, m1', m2', m3', hB2⟩ := hrel
          have HB2r := Lib.hid hB2
          by_cases hll : l < n
          · have hcl1 := HCL1.out
            have M0 := Lib.hid m0
            have M1 := Lib.hid m1'
            have M2 := Lib.hid m2'
            have M3 := Lib.hid m3'
            have zb2 : bk1 < w2.heap.size := by have := hB2.size; omega
            obtain ⟨L1, hL1⟩ : ∃ e, (l : Int) + 1 = e := ⟨_, rfl⟩
            obtain ⟨s, hs⟩ : ∃ q, nx n l = q := ⟨_, rfl⟩
            have sn : s < n := by rw [← hs]; exact nx_lt (by omega)
            have t1 : IntKind.i64.wrap ((l : Int) + 1) = L1 := by rw [hL1]; exact IntWalk.i64_in _ (by omega)
            have t2 : L1.tmod (n : Int) = (s : Int) := by rw [← hL1, ← hs]; exact nx_mod hll
            have t3 : IntKind.i64.wrap (s : Int) = (s : Int) := IntWalk.i64_in _ (by omega)
            have t4 : ((n : Int) == 0) = false := by simp; omega
            have t0 : ¬ n = 0 := by omega
            have t5 : (0 : Int) ≤ (s : Int) := by omega
            have t6 : (s : Int) < (n : Int) := by omega
            have t7 : IntKind.i64.wrap (L1.tmod (n : Int)) = (s : Int) := by rw [t2]; exact t3
            have HL1 := Lib.hid hL1
            have Hs := Lib.hid hs
            have t8 : (0 : Int) ≤ (l : Int) := by omega
            have t9 : (l : Int) < (n : Int) := by omega
            clear hL1 hs
            by_cases he : s = j
            · have he' := he.symm
              subst he'
              have pc0 : w2.cell? ⟨bk1, f1 + l * 2, none⟩ = some (.int .i64 (P l).1) := (hB2.cell (p := ⟨_, _, none⟩) hbl1).trans (hcl1 l hll).1
              have pc1 : w2.cell? ⟨bk1, f1 + l * 2 + 1, none⟩ = some (.int .i64 (P l).2) := (hB2.cell (p := ⟨_, _, none⟩) hbl1).trans (hcl1 l hll).2
              have pd0 : w2.cell? ⟨bk1, f1 + j * 2, none⟩ = some (.int .i64 (P j).1) := (hB2.cell (p := ⟨_, _, none⟩) hbl1).trans (hcl1 j hlt).1
              have pd1 : w2.cell? ⟨bk1, f1 + j * 2 + 1, none⟩ = some (.int .i64 (P j).2) := (hB2.cell (p := ⟨_, _, none⟩) hbl1).trans (hcl1 j hlt).2
              clear hcl1
              obtain ⟨g1, hg1⟩ : ∃ e, (P l).1 = e := ⟨_, rfl⟩
              rw [hg1] at pc0
              clear hg1
              obtain ⟨g2, hg2⟩ : ∃ e, (P l).2 = e := ⟨_, rfl⟩
              rw [hg2] at pc1
              clear hg2
              obtain ⟨k1, hk1⟩ : ∃ e, (P j).1 = e := ⟨_, rfl⟩
              rw [hk1] at pd0
              clear hk1
              obtain ⟨k2, hk2⟩ : ∃ e, (P j).2 = e := ⟨_, rfl⟩
              rw [hk2] at pd1
              clear hk2
              go_wp2_with fail
              refine wp_region_seq 22 [] [] (by kernel_rfl) (by kernel_rfl) (by kernel_rfl) (by kernel_rfl) (by kernel_rfl) ?_ ?_ ?_
              · intro r hr; cases hr
              · intro r hr; cases hr
              simp only [List.take_succ_cons, List.take_zero, fillL, Act.put, List.setIfInBounds_toArray, List.set_cons_zero, List.set_cons_succ]
              apply seq_is (by kernel_rfl)
              · intro u wx hb hd
                replace hb := hb.nil
                have hz := hb.size
                (try simp only [World.size_alloc, World.size_setCell] at hz)
                have hz0 : bk1 < wx.heap.size := by omega
                have hz1 : VA < wx.heap.size := by omega
                have hz2 : VB < wx.heap.size := by omega
                obtain ⟨hc, hf⟩ := bcell hb
                clear hb hz
                simp [depsE, Region.binds, updE, kindOf, Prp.is, Prp.any] at hd
                go_simp
                first | exact ⟨Below.refl _ _, rfl⟩ | rfl
              apply seq_is (by kernel_rfl)
              · intro u wx hb hd
                replace hb := hb.nil
                have hz := hb.size
                (try simp only [World.size_alloc, World.size_setCell] at hz)
                have hz0 : bk1 < wx.heap.size := by omega
                have hz1 : VA < wx.heap.size := by omega
                have hz2 : VB < wx.heap.size := by omega
                obtain ⟨hc, hf⟩ := bcell hb
                clear hb hz
                simp [depsE, Region.binds, updE, kindOf, Prp.is, Prp.any] at hd
                go_simp
                first | exact ⟨Below.refl _ _, rfl⟩ | rfl
              apply seq_is (by kernel_rfl)
              · intro u wx hb hd
                replace hb := hb.nil
                have hz := hb.size
                (try simp only [World.size_alloc, World.size_setCell] at hz)
                have hz0 : bk1 < wx.heap.size := by omega
                have hz1 : VA < wx.heap.size := by omega
                have hz2 : VB < wx.heap.size := by omega
                obtain ⟨hc, hf⟩ := bcell hb
                clear hb hz
                simp [depsE, Region.binds, updE, kindOf, Prp.is, Prp.any] at hd
                go_simp
                first | exact ⟨Below.refl _ _, rfl⟩ | rfl
              apply seq_is (by kernel_rfl)
              · intro u wx hb hd
                replace hb := hb.nil
                have hz := hb.size
                (try simp only [World.size_alloc, World.size_setCell] at hz)
                have hz0 : bk1 < wx.heap.size := by omega
                have hz1 : VA < wx.heap.size := by omega
                have hz2 : VB < wx.heap.size := by omega
                obtain ⟨hc, hf⟩ := bcell hb
                clear hb hz
                simp [depsE, Region.binds, updE, kindOf, Prp.is, Prp.any] at hd
                go_simp
                first | exact ⟨Below.refl _ _, rfl⟩ | rfl
              apply seq_is (by kernel_rfl)
              · intro u wx hb hd
                replace hb := hb.nil
                have hz := hb.size
                (try simp only [World.size_alloc, World.size_setCell] at hz)
                have hz0 : bk1 < wx.heap.size := by omega
                have hz1 : VA < wx.heap.size := by omega
                have hz2 : VB < wx.heap.size := by omega
                obtain ⟨hc, hf⟩ := bcell hb
                clear hb hz
                simp [depsE, Region.binds, updE, kindOf, Prp.is, Prp.any] at hd
                go_simp
                first | exact ⟨Below.refl _ _, rfl⟩ | rfl
              apply seq_is (by kernel_rfl)
              · intro u wx hb hd
                replace hb := hb.nil
                have hz := hb.size
                (try simp only [World.size_alloc, World.size_setCell] at hz)
                have hz0 : bk1 < wx.heap.size := by omega
                have hz1 : VA < wx.heap.size := by omega
                have hz2 : VB < wx.heap.size := by omega
                obtain ⟨hc, hf⟩ := bcell hb
                clear hb hz
                simp [depsE, Region.binds, updE, kindOf, Prp.is, Prp.any] at hd
                go_simp
                first | exact ⟨Below.refl _ _, rfl⟩ | rfl
              apply seq_is (by kernel_rfl)
              · intro u wx hb hd
                replace hb := hb.nil
                have hz := hb.size
                (try simp only [World.size_alloc, World.size_setCell] at hz)
                have hz0 : bk1 < wx.heap.size := by omega
                have hz1 : VA < wx.heap.size := by omega
                have hz2 : VB < wx.heap.size := by omega
                obtain ⟨hc, hf⟩ := bcell hb
                clear hb hz
                simp [depsE, Region.binds, updE, kindOf, Prp.is, Prp.any] at hd
                go_simp
                first | exact ⟨Below.refl _ _, rfl⟩ | rfl
              apply seq_is (by kernel_rfl)
              · intro u wx hb hd
                replace hb := hb.nil
                have hz := hb.size
                (try simp only [World.size_alloc, World.size_setCell] at hz)
                have hz0 : bk1 < wx.heap.size := by omega
                have hz1 : VA < wx.heap.size := by omega
                have hz2 : VB < wx.heap.size := by omega
                obtain ⟨hc, hf⟩ := bcell hb
                clear hb hz
                simp [depsE, Region.binds, updE, kindOf, Prp.is, Prp.any] at hd
                go_simp
                first | exact ⟨Below.refl _ _, rfl⟩ | rfl
              apply seq_is (by kernel_rfl)
              · intro u wx hb hd
                replace hb := hb.nil
                have hz := hb.size
                (try simp only [World.size_alloc, World.size_setCell] at hz)
                have hz0 : bk1 < wx.heap.size := by omega
                have hz1 : VA < wx.heap.size := by omega
                have hz2 : VB < wx.heap.size := by omega
                obtain ⟨hc, hf⟩ := bcell hb
                clear hb hz
                simp [depsE, Region.binds, updE, kindOf, Prp.is, Prp.any] at hd
                go_simp
                first | exact ⟨Below.refl _ _, rfl⟩ | rfl
              apply seq_is (by kernel_rfl)
              · intro u wx hb hd
                replace hb := hb.nil
                have hz := hb.size
                (try simp only [World.size_alloc, World.size_setCell] at hz)
                have hz0 : bk1 < wx.heap.size := by omega
                have hz1 : VA < wx.heap.size := by omega
                have hz2 : VB < wx.heap.size := by omega
                obtain ⟨hc, hf⟩ := bcell hb
                clear hb hz
                simp [depsE, Region.binds, updE, kindOf, Prp.is, Prp.any] at hd
                go_simp
                first | exact ⟨Below.refl _ _, rfl⟩ | rfl
              apply seq_is (by kernel_rfl)
              · intro u wx hb hd
                replace hb := hb.nil
                have hz := hb.size
                (try simp only [World.size_alloc, World.size_setCell] at hz)
                have hz0 : bk1 < wx.heap.size := by omega
                have hz1 : VA < wx.heap.size := by omega
                have hz2 : VB < wx.heap.size := by omega
                obtain ⟨hc, hf⟩ := bcell hb
                clear hb hz
                simp [depsE, Region.binds, updE, kindOf, Prp.is, Prp.any] at hd
                go_simp
                first | exact ⟨Below.refl _ _, rfl⟩ | rfl
              apply seq_is (by kernel_rfl)
              · intro u wx hb hd
                replace hb := hb.nil
                have hz := hb.size
                (try simp only [World.size_alloc, World.size_setCell] at hz)
                have hz0 : bk1 < wx.heap.size := by omega
                have hz1 : VA < wx.heap.size := by omega
                have hz2 : VB < wx.heap.size := by omega
                obtain ⟨hc, hf⟩ := bcell hb
                clear hb hz
                simp [depsE, Region.binds, updE, kindOf, Prp.is, Prp.any] at hd
                go_simp
                first | exact ⟨Below.refl _ _, rfl⟩ | rfl
              apply seq_is (by kernel_rfl)
              · intro u wx hb hd
                replace hb := hb.nil
                have hz := hb.size
                (try simp only [World.size_alloc, World.size_setCell] at hz)
                have hz0 : bk1 < wx.heap.size := by omega
                have hz1 : VA < wx.heap.size := by omega
                have hz2 : VB < wx.heap.size := by omega
                obtain ⟨hc, hf⟩ := bcell hb
                clear hb hz
                simp [depsE, Region.binds, updE, kindOf, Prp.is, Prp.any] at hd
                go_simp
                first | exact ⟨Below.refl _ _, rfl⟩ | rfl
              apply seq_is (by kernel_rfl)
              · intro u wx hb hd
                replace hb := hb.nil
                have hz := hb.size
                (try simp only [World.size_alloc, World.size_setCell] at hz)
                have hz0 : bk1 < wx.heap.size := by omega
                have hz1 : VA < wx.heap.size := by omega
                have hz2 : VB < wx.heap.size := by omega
                obtain ⟨hc, hf⟩ := bcell hb
                clear hb hz
                simp [depsE, Region.binds, updE, kindOf, Prp.is, Prp.any] at hd
                go_simp
                first | exact ⟨Below.refl _ _, rfl⟩ | rfl
              apply seq_is (by kernel_rfl)
              · intro u wx hb hd
                replace hb := hb.nil
                have hz := hb.size
                (try simp only [World.size_alloc, World.size_setCell] at hz)
                have hz0 : bk1 < wx.heap.size := by omega
                have hz1 : VA < wx.heap.size := by omega
                have hz2 : VB < wx.heap.size := by omega
                obtain ⟨hc, hf⟩ := bcell hb
                clear hb hz
                simp [depsE, Region.binds, updE, kindOf, Prp.is, Prp.any] at hd
                go_simp
                first | exact ⟨Below.refl _ _, rfl⟩ | rfl
              apply seq_is (by kernel_rfl)
              · intro u wx hb hd
                replace hb := hb.nil
                have hz := hb.size
                (try simp only [World.size_alloc, World.size_setCell] at hz)
                have hz0 : bk1 < wx.heap.size := by omega
                have hz1 : VA < wx.heap.size := by omega
                have hz2 : VB < wx.heap.size := by omega
                obtain ⟨hc, hf⟩ := bcell hb
                clear hb hz
                simp [depsE, Region.binds, updE, kindOf, Prp.is, Prp.any] at hd
                go_simp
                first | exact ⟨Below.refl _ _, rfl⟩ | rfl
              apply seq_is (by kernel_rfl)
              · intro u wx hb hd
                replace hb := hb.nil
                have hz := hb.size
                (try simp only [World.size_alloc, World.size_setCell] at hz)
                have hz0 : bk1 < wx.heap.size := by omega
                have hz1 : VA < wx.heap.size := by omega
                have hz2 : VB < wx.heap.size := by omega
                obtain ⟨hc, hf⟩ := bcell hb
                clear hb hz
                simp [depsE, Region.binds, updE, kindOf, Prp.is, Prp.any] at hd
                go_simp
                first | exact ⟨Below.refl _ _, rfl⟩ | rfl
              apply seq_is (by kernel_rfl)
              · intro u wx hb hd
                replace hb := hb.nil
                have hz := hb.size
                (try simp only [World.size_alloc, World.size_setCell] at hz)
                have hz0 : bk1 < wx.heap.size := by omega
                have hz1 : VA < wx.heap.size := by omega
                have hz2 : VB < wx.heap.size := by omega
                obtain ⟨hc, hf⟩ := bcell hb
                clear hb hz
                simp [depsE, Region.binds, updE, kindOf, Prp.is, Prp.any] at hd
                go_simp
                first | exact ⟨Below.refl _ _, rfl⟩ | rfl
              apply seq_is (by kernel_rfl)
              · intro u wx hb hd
                replace hb := hb.nil
                have hz := hb.size
                (try simp only [World.size_alloc, World.size_setCell] at hz)
                have hz0 : bk1 < wx.heap.size := by omega
                have hz1 : VA < wx.heap.size := by omega
                have hz2 : VB < wx.heap.size := by omega
                obtain ⟨hc, hf⟩ := bcell hb
                clear hb hz
                simp [depsE, Region.binds, updE, kindOf, Prp.is, Prp.any] at hd
                go_simp
                first | exact ⟨Below.refl _ _, rfl⟩ | rfl
              apply seq_is (by kernel_rfl)
              · intro u wx hb hd
                replace hb := hb.nil
                have hz := hb.size
                (try simp only [World.size_alloc, World.size_setCell] at hz)
                have hz0 : bk1 < wx.heap.size := by omega
                have hz1 : VA < wx.heap.size := by omega
                have hz2 : VB < wx.heap.size := by omega
                obtain ⟨hc, hf⟩ := bcell hb
                clear hb hz
                simp [depsE, Region.binds, updE, kindOf, Prp.is, Prp.any] at hd
                go_simp
                first | exact ⟨Below.refl _ _, rfl⟩ | rfl
              apply seq_is (by kernel_rfl)
              · intro u wx hb hd
                replace hb := hb.nil
                have hz := hb.size
                (try simp only [World.size_alloc, World.size_setCell] at hz)
                have hz0 : bk1 < wx.heap.size := by omega
                have hz1 : VA < wx.heap.size := by omega
                have hz2 : VB < wx.heap.size := by omega
                obtain ⟨hc, hf⟩ := bcell hb
                clear hb hz
                simp [depsE, Region.binds, updE, kindOf, Prp.is, Prp.any] at hd
                go_simp
                first | exact ⟨Below.refl _ _, rfl⟩ | rfl
              apply seq_is (by kernel_rfl)
              · intro u wx hb hd
                replace hb := hb.nil
                have hz := hb.size
                (try simp only [World.size_alloc, World.size_setCell] at hz)
                have hz0 : bk1 < wx.heap.size := by omega
                have hz1 : VA < wx.heap.size := by omega
                have hz2 : VB < wx.heap.size := by omega
                obtain ⟨hc, hf⟩ := bcell hb
                clear hb hz
                simp [depsE, Region.binds, updE, kindOf, Prp.is, Prp.any] at hd
                go_simp
                first | exact ⟨Below.refl _ _, rfl⟩ | rfl
              intro u w7 hb hE hV hP
              replace hb := hb.nil
              clear hP
              have e0 : u 0 = _ := endE_get hE 0 (by decide) (by simp [kindOf])
              have e1 : u 1 = _ := endE_get hE 1 (by decide) (by simp [kindOf])
              have e2 : u 2 = _ := endE_get hE 2 (by decide) (by simp [kindOf])
              have e3 : u 3 = _ := endE_get hE 3 (by decide) (by simp [kindOf])
              have e4 : u 4 = _ := endE_get hE 4 (by decide) (by simp [kindOf])
              have e5 : u 5 = _ := endE_get hE 5 (by decide) (by simp [kindOf])
              have e6 : u 6 = _ := endE_get hE 6 (by decide) (by simp [kindOf])
              have e7 : u 7 = _ := endE_get hE 7 (by decide) (by simp [kindOf])
              have e8 : u 8 = _ := endE_get hE 8 (by decide) (by simp [kindOf])
              have e9 : u 9 = _ := endE_get hE 9 (by decide) (by simp [kindOf])
              have e10 : u 10 = _ := endE_get hE 10 (by decide) (by simp [kindOf])
              have e11 : u 11 = _ := endE_get hE 11 (by decide) (by simp [kindOf])
              have e12 : u 12 = _ := endE_get hE 12 (by decide) (by simp [kindOf])
              have e13 : u 13 = _ := endE_get hE 13 (by decide) (by simp [kindOf])
              have e14 : u 14 = _ := endE_get hE 14 (by decide) (by simp [kindOf])
              have e15 : u 15 = _ := endE_get hE 15 (by decide) (by simp [kindOf])
              have e16 : u 16 = _ := endE_get hE 16 (by decide) (by simp [kindOf])
              have e17 : u 17 = _ := endE_get hE 17 (by decide) (by simp [kindOf])
              have e18 : u 18 = _ := endE_get hE 18 (by decide) (by simp [kindOf])
              have e19 : u 19 = _ := endE_get hE 19 (by decide) (by simp [kindOf])
              have e20 : u 20 = _ := endE_get hE 20 (by decide) (by simp [kindOf])
              have e21 : u 21 = _ := endE_get hE 21 (by decide) (by simp [kindOf])
              clear hV
              simp only [List.drop_succ_cons, List.drop_zero, List.take_succ_cons, List.take_zero, fillL, Act.put, List.setIfInBounds_toArray, List.set_cons_zero, List.set_cons_succ, e0, e1, e2, e3, e4, e5, e6, e7, e8, e9, e10, e11, e12, e13, e14, e15, e16, e17, e18, e19, e20, e21]
              clear e0 e1 e2 e3 e4 e5 e6 e7 e8 e9 e10 e11 e12 e13 e14 e15 e16 e17 e18 e19 e20 e21 hE
              have HBWw7 := Lib.hid hb
              have hw7 := below_step (w := w2) (by first | assumption | go_grown) hb
              have hzw7 := hb.size
              (try simp only [World.size_alloc, World.size_setCell] at hzw7)
              have hzw70 : bk1 < w7.heap.size := by omega
              have hzw71 : VA < w7.heap.size := by omega
              have hzw72 : VB < w7.heap.size := by omega
              have HHw7 := Lib.hid hb.block
              obtain ⟨hcw7, hfw7⟩ := bcell hb
              clear hb hzw7
              have HB7 := Lib.hid (below_step HB2r.out HBWw7.out)
              have A0 := Lib.hid ((hw7.cell (p := ⟨_, _, none⟩) zA).trans M0.out)
              have A1 := Lib.hid ((hw7.cell (p := ⟨_, _, none⟩) zA).trans M1.out)
              have A2 := Lib.hid ((hw7.cell (p := ⟨_, _, none⟩) zB).trans M2.out)
              have A3 := Lib.hid ((hw7.cell (p := ⟨_, _, none⟩) zB).trans M3.out)
              have zA7 : VA < w7.heap.size := by have := hw7.size; omega
              have zB7 : VB < w7.heap.size := by have := hw7.size; omega
              clear hcw7 hfw7 HBWw7
              go_wp2
              go_roundw
              case rel => exact ⟨l + 1, by omega, by rw [← HL1.out]; rfl, zA7, zB7, A0.out, A1.out, A2.out, A3.out, HB7.out⟩
              case measure => have := HL1.out; simp [intOf]; omega
            · have ke1 : ((s : Int) == (j : Int)) = false := by simp; omega
              have ke2 : ((s : Int) != (j : Int)) = true := by simp; omega
              have pc0 : w2.cell? ⟨bk1, f1 + l * 2, none⟩ = some (.int .i64 (P l).1) := (hB2.cell (p := ⟨_, _, none⟩) hbl1).trans (hcl1 l hll).1
              have pc1 : w2.cell? ⟨bk1, f1 + l * 2 + 1, none⟩ = some (.int .i64 (P l).2) := (hB2.cell (p := ⟨_, _, none⟩) hbl1).trans (hcl1 l hll).2
              have pd0 : w2.cell? ⟨bk1, f1 + s * 2, none⟩ = some (.int .i64 (P s).1) := (hB2.cell (p := ⟨_, _, none⟩) hbl1).trans (hcl1 s sn).1
              have pd1 : w2.cell? ⟨bk1, f1 + s * 2 + 1, none⟩ = some (.int .i64 (P s).2) := (hB2.cell (p := ⟨_, _, none⟩) hbl1).trans (hcl1 s sn).2
              have HM : Hid (∀ W, Calls Tryd.prog 74 #[.agg #[.int .i64 (P j).1, .int .i64 (P j).2], .agg #[.int .i64 (P q).1, .int .i64 (P q).2], .agg #[.int .i64 (P l).1, .int .i64 (P l).2], .agg #[.int .i64 (P s).1, .int .i64 (P s).2]] W (fun e w' => e = .returned (.bool false) ∧ Below W.heap.size W w')) := fun W => by
                have hd : decide (meets (P j) (P q) (P l) (P s)) = false := decide_eq_false (by
                  have h := HS.out.2.2 l hl hll (by rw [Hs.out]; exact he)
                  rw [Hq.out, Hs.out] at h
                  exact h)
                rw [← hd]
                exact meetP_any _ _ _ _ _ _ _ _ W HN.out HNq.out (near_nr (nearB_iff.2 (by have := hp.out.nr l hll; omega))) (near_nr (nearB_iff.2 (by have := hp.out.nr s sn; omega)))
              rw [HAB.out.1, HAB.out.2.1, HAB.out.2.2.1, HAB.out.2.2.2.1] at HM
              clear hcl1
              obtain ⟨g1, hg1⟩ : ∃ e, (P l).1 = e := ⟨_, rfl⟩
              rw [hg1] at pc0 HM
              clear hg1
              obtain ⟨g2, hg2⟩ : ∃ e, (P l).2 = e := ⟨_, rfl⟩
              rw [hg2] at pc1 HM
              clear hg2
              obtain ⟨k1, hk1⟩ : ∃ e, (P s).1 = e := ⟨_, rfl⟩
              rw [hk1] at pd0 HM
              clear hk1
              obtain ⟨k2, hk2⟩ : ∃ e, (P s).2 = e := ⟨_, rfl⟩
              rw [hk2] at pd1 HM
              clear hk2
              go_wp2_with fail
              refine wp_region_seq 22 [] [] (by kernel_rfl) (by kernel_rfl) (by kernel_rfl) (by kernel_rfl) (by kernel_rfl) ?_ ?_ ?_
              · intro r hr; cases hr
              · intro r hr; cases hr
              simp only [List.take_succ_cons, List.take_zero, fillL, Act.put, List.setIfInBounds_toArray, List.set_cons_zero, List.set_cons_succ]
              apply seq_is (by kernel_rfl)
              · intro u wx hb hd
                replace hb := hb.nil
                have hz := hb.size
                (try simp only [World.size_alloc, World.size_setCell] at hz)
                have hz0 : bk1 < wx.heap.size := by omega
                have hz1 : VA < wx.heap.size := by omega
                have hz2 : VB < wx.heap.size := by omega
                obtain ⟨hc, hf⟩ := bcell hb
                clear hb hz
                simp [depsE, Region.binds, updE, kindOf, Prp.is, Prp.any] at hd
                go_simp
                first | exact ⟨Below.refl _ _, rfl⟩ | rfl
              apply seq_is (by kernel_rfl)
              · intro u wx hb hd
                replace hb := hb.nil
                have hz := hb.size
                (try simp only [World.size_alloc, World.size_setCell] at hz)
                have hz0 : bk1 < wx.heap.size := by omega
                have hz1 : VA < wx.heap.size := by omega
                have hz2 : VB < wx.heap.size := by omega
                obtain ⟨hc, hf⟩ := bcell hb
                clear hb hz
                simp [depsE, Region.binds, updE, kindOf, Prp.is, Prp.any] at hd
                go_simp
                first | exact ⟨Below.refl _ _, rfl⟩ | rfl
              apply seq_is (by kernel_rfl)
              · intro u wx hb hd
                replace hb := hb.nil
                have hz := hb.size
                (try simp only [World.size_alloc, World.size_setCell] at hz)
                have hz0 : bk1 < wx.heap.size := by omega
                have hz1 : VA < wx.heap.size := by omega
                have hz2 : VB < wx.heap.size := by omega
                obtain ⟨hc, hf⟩ := bcell hb
                clear hb hz
                simp [depsE, Region.binds, updE, kindOf, Prp.is, Prp.any] at hd
                go_simp
                first | exact ⟨Below.refl _ _, rfl⟩ | rfl
              apply seq_is (by kernel_rfl)
              · intro u wx hb hd
                replace hb := hb.nil
                have hz := hb.size
                (try simp only [World.size_alloc, World.size_setCell] at hz)
                have hz0 : bk1 < wx.heap.size := by omega
                have hz1 : VA < wx.heap.size := by omega
                have hz2 : VB < wx.heap.size := by omega
                obtain ⟨hc, hf⟩ := bcell hb
                clear hb hz
                simp [depsE, Region.binds, updE, kindOf, Prp.is, Prp.any] at hd
                go_simp
                first | exact ⟨Below.refl _ _, rfl⟩ | rfl
              apply seq_is (by kernel_rfl)
              · intro u wx hb hd
                replace hb := hb.nil
                have hz := hb.size
                (try simp only [World.size_alloc, World.size_setCell] at hz)
                have hz0 : bk1 < wx.heap.size := by omega
                have hz1 : VA < wx.heap.size := by omega
                have hz2 : VB < wx.heap.size := by omega
                obtain ⟨hc, hf⟩ := bcell hb
                clear hb hz
                simp [depsE, Region.binds, updE, kindOf, Prp.is, Prp.any] at hd
                go_simp
                first | exact ⟨Below.refl _ _, rfl⟩ | rfl
              apply seq_is (by kernel_rfl)
              · intro u wx hb hd
                replace hb := hb.nil
                have hz := hb.size
                (try simp only [World.size_alloc, World.size_setCell] at hz)
                have hz0 : bk1 < wx.heap.size := by omega
                have hz1 : VA < wx.heap.size := by omega
                have hz2 : VB < wx.heap.size := by omega
                obtain ⟨hc, hf⟩ := bcell hb
                clear hb hz
                simp [depsE, Region.binds, updE, kindOf, Prp.is, Prp.any] at hd
                go_simp
                first | exact ⟨Below.refl _ _, rfl⟩ | rfl
              apply seq_is (by kernel_rfl)
              · intro u wx hb hd
                replace hb := hb.nil
                have hz := hb.size
                (try simp only [World.size_alloc, World.size_setCell] at hz)
                have hz0 : bk1 < wx.heap.size := by omega
                have hz1 : VA < wx.heap.size := by omega
                have hz2 : VB < wx.heap.size := by omega
                obtain ⟨hc, hf⟩ := bcell hb
                clear hb hz
                simp [depsE, Region.binds, updE, kindOf, Prp.is, Prp.any] at hd
                go_simp
                first | exact ⟨Below.refl _ _, rfl⟩ | rfl
              apply seq_is (by kernel_rfl)
              · intro u wx hb hd
                replace hb := hb.nil
                have hz := hb.size
                (try simp only [World.size_alloc, World.size_setCell] at hz)
                have hz0 : bk1 < wx.heap.size := by omega
                have hz1 : VA < wx.heap.size := by omega
                have hz2 : VB < wx.heap.size := by omega
                obtain ⟨hc, hf⟩ := bcell hb
                clear hb hz
                simp [depsE, Region.binds, updE, kindOf, Prp.is, Prp.any] at hd
                go_simp
                first | exact ⟨Below.refl _ _, rfl⟩ | rfl
              apply seq_is (by kernel_rfl)
              · intro u wx hb hd
                replace hb := hb.nil
                have hz := hb.size
                (try simp only [World.size_alloc, World.size_setCell] at hz)
                have hz0 : bk1 < wx.heap.size := by omega
                have hz1 : VA < wx.heap.size := by omega
                have hz2 : VB < wx.heap.size := by omega
                obtain ⟨hc, hf⟩ := bcell hb
                clear hb hz
                simp [depsE, Region.binds, updE, kindOf, Prp.is, Prp.any] at hd
                go_simp
                first | exact ⟨Below.refl _ _, rfl⟩ | rfl
              apply seq_is (by kernel_rfl)
              · intro u wx hb hd
                replace hb := hb.nil
                have hz := hb.size
                (try simp only [World.size_alloc, World.size_setCell] at hz)
                have hz0 : bk1 < wx.heap.size := by omega
                have hz1 : VA < wx.heap.size := by omega
                have hz2 : VB < wx.heap.size := by omega
                obtain ⟨hc, hf⟩ := bcell hb
                clear hb hz
                simp [depsE, Region.binds, updE, kindOf, Prp.is, Prp.any] at hd
                go_simp
                first | exact ⟨Below.refl _ _, rfl⟩ | rfl
              apply seq_is (by kernel_rfl)
              · intro u wx hb hd
                replace hb := hb.nil
                have hz := hb.size
                (try simp only [World.size_alloc, World.size_setCell] at hz)
                have hz0 : bk1 < wx.heap.size := by omega
                have hz1 : VA < wx.heap.size := by omega
                have hz2 : VB < wx.heap.size := by omega
                obtain ⟨hc, hf⟩ := bcell hb
                clear hb hz
                simp [depsE, Region.binds, updE, kindOf, Prp.is, Prp.any] at hd
                go_simp
                first | exact ⟨Below.refl _ _, rfl⟩ | rfl
              apply seq_is (by kernel_rfl)
              · intro u wx hb hd
                replace hb := hb.nil
                have hz := hb.size
                (try simp only [World.size_alloc, World.size_setCell] at hz)
                have hz0 : bk1 < wx.heap.size := by omega
                have hz1 : VA < wx.heap.size := by omega
                have hz2 : VB < wx.heap.size := by omega
                obtain ⟨hc, hf⟩ := bcell hb
                clear hb hz
                simp [depsE, Region.binds, updE, kindOf, Prp.is, Prp.any] at hd
                go_simp
                first | exact ⟨Below.refl _ _, rfl⟩ | rfl
              apply seq_is (by kernel_rfl)
              · intro u wx hb hd
                replace hb := hb.nil
                have hz := hb.size
                (try simp only [World.size_alloc, World.size_setCell] at hz)
                have hz0 : bk1 < wx.heap.size := by omega
                have hz1 : VA < wx.heap.size := by omega
                have hz2 : VB < wx.heap.size := by omega
                obtain ⟨hc, hf⟩ := bcell hb
                clear hb hz
                simp [depsE, Region.binds, updE, kindOf, Prp.is, Prp.any] at hd
                go_simp
                first | exact ⟨Below.refl _ _, rfl⟩ | rfl
              apply seq_is (by kernel_rfl)
              · intro u wx hb hd
                replace hb := hb.nil
                have hz := hb.size
                (try simp only [World.size_alloc, World.size_setCell] at hz)
                have hz0 : bk1 < wx.heap.size := by omega
                have hz1 : VA < wx.heap.size := by omega
                have hz2 : VB < wx.heap.size := by omega
                obtain ⟨hc, hf⟩ := bcell hb
                clear hb hz
                simp [depsE, Region.binds, updE, kindOf, Prp.is, Prp.any] at hd
                go_simp
                first | exact ⟨Below.refl _ _, rfl⟩ | rfl
              apply seq_is (by kernel_rfl)
              · intro u wx hb hd
                replace hb := hb.nil
                have hz := hb.size
                (try simp only [World.size_alloc, World.size_setCell] at hz)
                have hz0 : bk1 < wx.heap.size := by omega
                have hz1 : VA < wx.heap.size := by omega
                have hz2 : VB < wx.heap.size := by omega
                obtain ⟨hc, hf⟩ := bcell hb
                clear hb hz
                simp [depsE, Region.binds, updE, kindOf, Prp.is, Prp.any] at hd
                go_simp
                first | exact ⟨Below.refl _ _, rfl⟩ | rfl
              apply seq_is (by kernel_rfl)
              · intro u wx hb hd
                replace hb := hb.nil
                have hz := hb.size
                (try simp only [World.size_alloc, World.size_setCell] at hz)
                have hz0 : bk1 < wx.heap.size := by omega
                have hz1 : VA < wx.heap.size := by omega
                have hz2 : VB < wx.heap.size := by omega
                obtain ⟨hc, hf⟩ := bcell hb
                clear hb hz
                simp [depsE, Region.binds, updE, kindOf, Prp.is, Prp.any] at hd
                go_simp
                first | exact ⟨Below.refl _ _, rfl⟩ | rfl
              apply seq_is (by kernel_rfl)
              · intro u wx hb hd
                replace hb := hb.nil
                have hz := hb.size
                (try simp only [World.size_alloc, World.size_setCell] at hz)
                have hz0 : bk1 < wx.heap.size := by omega
                have hz1 : VA < wx.heap.size := by omega
                have hz2 : VB < wx.heap.size := by omega
                obtain ⟨hc, hf⟩ := bcell hb
                clear hb hz
                simp [depsE, Region.binds, updE, kindOf, Prp.is, Prp.any] at hd
                go_simp
                first | exact ⟨Below.refl _ _, rfl⟩ | rfl
              apply seq_is (by kernel_rfl)
              · intro u wx hb hd
                replace hb := hb.nil
                have hz := hb.size
                (try simp only [World.size_alloc, World.size_setCell] at hz)
                have hz0 : bk1 < wx.heap.size := by omega
                have hz1 : VA < wx.heap.size := by omega
                have hz2 : VB < wx.heap.size := by omega
                obtain ⟨hc, hf⟩ := bcell hb
                clear hb hz
                simp [depsE, Region.binds, updE, kindOf, Prp.is, Prp.any] at hd
                go_simp
                first | exact ⟨Below.refl _ _, rfl⟩ | rfl
              apply seq_is (by kernel_rfl)
              · intro u wx hb hd
                replace hb := hb.nil
                have hz := hb.size
                (try simp only [World.size_alloc, World.size_setCell] at hz)
                have hz0 : bk1 < wx.heap.size := by omega
                have hz1 : VA < wx.heap.size := by omega
                have hz2 : VB < wx.heap.size := by omega
                obtain ⟨hc, hf⟩ := bcell hb
                clear hb hz
                simp [depsE, Region.binds, updE, kindOf, Prp.is, Prp.any] at hd
                go_simp
                first | exact ⟨Below.refl _ _, rfl⟩ | rfl
              apply seq_is (by kernel_rfl)
              · intro u wx hb hd
                replace hb := hb.nil
                have hz := hb.size
                (try simp only [World.size_alloc, World.size_setCell] at hz)
                have hz0 : bk1 < wx.heap.size := by omega
                have hz1 : VA < wx.heap.size := by omega
                have hz2 : VB < wx.heap.size := by omega
                obtain ⟨hc, hf⟩ := bcell hb
                clear hb hz
                simp [depsE, Region.binds, updE, kindOf, Prp.is, Prp.any] at hd
                go_simp
                first | exact ⟨Below.refl _ _, rfl⟩ | rfl
              apply seq_is (by kernel_rfl)
              · intro u wx hb hd
                replace hb := hb.nil
                have hz := hb.size
                (try simp only [World.size_alloc, World.size_setCell] at hz)
                have hz0 : bk1 < wx.heap.size := by omega
                have hz1 : VA < wx.heap.size := by omega
                have hz2 : VB < wx.heap.size := by omega
                obtain ⟨hc, hf⟩ := bcell hb
                clear hb hz
                simp [depsE, Region.binds, updE, kindOf, Prp.is, Prp.any] at hd
                go_simp
                first | rfl | (go_at_call 74; refine (HM.out _).mono ?_; rintro e w1 ⟨rfl, hb1⟩; first | exact ⟨rfl, hb1⟩ | exact ⟨_, rfl, hb1, rfl⟩)
              apply seq_is (by kernel_rfl)
              · intro u wx hb hd
                replace hb := hb.nil
                have hz := hb.size
                (try simp only [World.size_alloc, World.size_setCell] at hz)
                have hz0 : bk1 < wx.heap.size := by omega
                have hz1 : VA < wx.heap.size := by omega
                have hz2 : VB < wx.heap.size := by omega
                obtain ⟨hc, hf⟩ := bcell hb
                clear hb hz
                simp [depsE, Region.binds, updE, kindOf, Prp.is, Prp.any] at hd
                go_simp
                first | exact ⟨Below.refl _ _, rfl⟩ | rfl
              intro u w7 hb hE hV hP
              replace hb := hb.nil
              clear hP
              have e0 : u 0 = _ := endE_get hE 0 (by decide) (by simp [kindOf])
              have e1 : u 1 = _ := endE_get hE 1 (by decide) (by simp [kindOf])
              have e2 : u 2 = _ := endE_get hE 2 (by decide) (by simp [kindOf])
              have e3 : u 3 = _ := endE_get hE 3 (by decide) (by simp [kindOf])
              have e4 : u 4 = _ := endE_get hE 4 (by decide) (by simp [kindOf])
              have e5 : u 5 = _ := endE_get hE 5 (by decide) (by simp [kindOf])
              have e6 : u 6 = _ := endE_get hE 6 (by decide) (by simp [kindOf])
              have e7 : u 7 = _ := endE_get hE 7 (by decide) (by simp [kindOf])
              have e8 : u 8 = _ := endE_get hE 8 (by decide) (by simp [kindOf])
              have e9 : u 9 = _ := endE_get hE 9 (by decide) (by simp [kindOf])
              have e10 : u 10 = _ := endE_get hE 10 (by decide) (by simp [kindOf])
              have e11 : u 11 = _ := endE_get hE 11 (by decide) (by simp [kindOf])
              have e12 : u 12 = _ := endE_get hE 12 (by decide) (by simp [kindOf])
              have e13 : u 13 = _ := endE_get hE 13 (by decide) (by simp [kindOf])
              have e14 : u 14 = _ := endE_get hE 14 (by decide) (by simp [kindOf])
              have e15 : u 15 = _ := endE_get hE 15 (by decide) (by simp [kindOf])
              have e16 : u 16 = _ := endE_get hE 16 (by decide) (by simp [kindOf])
              have e17 : u 17 = _ := endE_get hE 17 (by decide) (by simp [kindOf])
              have e18 : u 18 = _ := endE_get hE 18 (by decide) (by simp [kindOf])
              have e19 : u 19 = _ := endE_get hE 19 (by decide) (by simp [kindOf])
              have e20 : u 20 = _ := endE_get hE 20 (by decide) (by simp [kindOf])
              have e21 : u 21 = _ := endE_get hE 21 (by decide) (by simp [kindOf])
              clear hV
              simp only [List.drop_succ_cons, List.drop_zero, List.take_succ_cons, List.take_zero, fillL, Act.put, List.setIfInBounds_toArray, List.set_cons_zero, List.set_cons_succ, e0, e1, e2, e3, e4, e5, e6, e7, e8, e9, e10, e11, e12, e13, e14, e15, e16, e17, e18, e19, e20, e21]
              clear e0 e1 e2 e3 e4 e5 e6 e7 e8 e9 e10 e11 e12 e13 e14 e15 e16 e17 e18 e19 e20 e21 hE
              have HBWw7 := Lib.hid hb
              have hw7 := below_step (w := w2) (by first | assumption | go_grown) hb
              have hzw7 := hb.size
              (try simp only [World.size_alloc, World.size_setCell] at hzw7)
              have hzw70 : bk1 < w7.heap.size := by omega
              have hzw71 : VA < w7.heap.size := by omega
              have hzw72 : VB < w7.heap.size := by omega
              have HHw7 := Lib.hid hb.block
              obtain ⟨hcw7, hfw7⟩ := bcell hb
              clear hb hzw7
              have HB7 := Lib.hid (below_step HB2r.out HBWw7.out)
              have A0 := Lib.hid ((hw7.cell (p := ⟨_, _, none⟩) zA).trans M0.out)
              have A1 := Lib.hid ((hw7.cell (p := ⟨_, _, none⟩) zA).trans M1.out)
              have A2 := Lib.hid ((hw7.cell (p := ⟨_, _, none⟩) zB).trans M2.out)
              have A3 := Lib.hid ((hw7.cell (p := ⟨_, _, none⟩) zB).trans M3.out)
              have zA7 : VA < w7.heap.size := by have := hw7.size; omega
              have zB7 : VB < w7.heap.size := by have := hw7.size; omega
              clear hcw7 hfw7 HBWw7
              go_wp2
              go_roundw
              case rel => exact ⟨l + 1, by omega, by rw [← HL1.out]; rfl, zA7, zB7, A0.out, A1.out, A2.out, A3.out, HB7.out⟩
              case measure => have := HL1.out; simp [intOf]; omega
          · go_wp2
            go_roundw
            case rel => exact ⟨j + 1, by omega, by rw [← HJ1.out]; rfl, HB2r.out⟩
            case measure => have := HJ1.out; simp [intOf]; omega
      · have o8 : (C == 0) = false := by simp [hC0]
        go_wp2
        go_loopw [8] (fun i wr => ∃ l : Nat, j + 2 ≤ l ∧ i = .int .i64 l ∧ VA < wr.heap.size ∧ VB < wr.heap.size ∧ wr.cell? ⟨VA, 0, none⟩ = some (.int .i64 a1) ∧ wr.cell? ⟨VA, 1, none⟩ = some (.int .i64 a2) ∧ wr.cell? ⟨VB, 0, none⟩ = some (.int .i64 b1) ∧ wr.cell? ⟨VB, 1, none⟩ = some (.int .i64 b2) ∧ Below w.heap.size w wr) (fun i _ => n - (intOf i).toNat)
        case atStart => exact ⟨j + 2, by omega, by rw [← HJ2.out]; rfl, xaz, xbz, xa0, xa1, xb0, xb1, HB6.out⟩
        case round =>
          clear xaz xbz xa0 xa1 xb0 xb1 xaf xbf xc0 xc1 xcf xcz
          obtain ⟨w2, rfl⟩ : ∃ x : World, x = wr := ⟨_, rfl⟩
          obtain ⟨l, hl, rfl, zA, zB, m0, m1', m2', m3', hB2⟩ := hrel
          have HB2r := Lib.hid hB2
          by_cases hll : l < n
          · have hcl1 := HCL1.out
            have M0 := Lib.hid m0
            have M1 := Lib.hid m1'
            have M2 := Lib.hid m2'
            have M3 := Lib.hid m3'
            have zb2 : bk1 < w2.heap.size := by have := hB2.size; omega
            obtain ⟨L1, hL1⟩ : ∃ e, (l : Int) + 1 = e := ⟨_, rfl⟩
            obtain ⟨s, hs⟩ : ∃ q, nx n l = q := ⟨_, rfl⟩
            have sn : s < n := by rw [← hs]; exact nx_lt (by omega)
            have t1 : IntKind.i64.wrap ((l : Int) + 1) = L1 := by rw [hL1]; exact IntWalk.i64_in _ (by omega)
            have t2 : L1.tmod (n : Int) = (s : Int) := by rw [← hL1, ← hs]; exact nx_mod hll
            have t3 : IntKind.i64.wrap (s : Int) = (s : Int) := IntWalk.i64_in _ (by omega)
            have t4 : ((n : Int) == 0) = false := by simp; omega
            have t0 : ¬ n = 0 := by omega
            have t5 : (0 : Int) ≤ (s : Int) := by omega
            have t6 : (s : Int) < (n : Int) := by omega
            have t7 : IntKind.i64.wrap (L1.tmod (n : Int)) = (s : Int) := by rw [t2]; exact t3
            have HL1 := Lib.hid hL1
            have Hs := Lib.hid hs
            have t8 : (0 : Int) ≤ (l : Int) := by omega
            have t9 : (l : Int) < (n : Int) := by omega
            clear hL1 hs
            by_cases he : s = j
            · have he' := he.symm
              subst he'
              have pc0 : w2.cell? ⟨bk1, f1 + l * 2, none⟩ = some (.int .i64 (P l).1) := (hB2.cell (p := ⟨_, _, none⟩) hbl1).trans (hcl1 l hll).1
              have pc1 : w2.cell? ⟨bk1, f1 + l * 2 + 1, none⟩ = some (.int .i64 (P l).2) := (hB2.cell (p := ⟨_, _, none⟩) hbl1).trans (hcl1 l hll).2
              have pd0 : w2.cell? ⟨bk1, f1 + j * 2, none⟩ = some (.int .i64 (P j).1) := (hB2.cell (p := ⟨_, _, none⟩) hbl1).trans (hcl1 j hlt).1
              have pd1 : w2.cell? ⟨bk1, f1 + j * 2 + 1, none⟩ = some (.int .i64 (P j).2) := (hB2.cell (p := ⟨_, _, none⟩) hbl1).trans (hcl1 j hlt).2
              clear hcl1
              obtain ⟨g1, hg1⟩ : ∃ e, (P l).1 = e := ⟨_, rfl⟩
              rw [hg1] at pc0
              clear hg1
              obtain ⟨g2, hg2⟩ : ∃ e, (P l).2 = e := ⟨_, rfl⟩
              rw [hg2] at pc1
              clear hg2
              obtain ⟨k1, hk1⟩ : ∃ e, (P j).1 = e := ⟨_, rfl⟩
              rw [hk1] at pd0
              clear hk1
              obtain ⟨k2, hk2⟩ : ∃ e, (P j).2 = e := ⟨_, rfl⟩
              rw [hk2] at pd1
              clear hk2
              go_wp2_with fail
              refine wp_region_seq 22 [] [] (by kernel_rfl) (by kernel_rfl) (by kernel_rfl) (by kernel_rfl) (by kernel_rfl) ?_ ?_ ?_
              · intro r hr; cases hr
              · intro r hr; cases hr
              simp only [List.take_succ_cons, List.take_zero, fillL, Act.put, List.setIfInBounds_toArray, List.set_cons_zero, List.set_cons_succ]
              apply seq_is (by kernel_rfl)
              · intro u wx hb hd
                replace hb := hb.nil
                have hz := hb.size
                (try simp only [World.size_alloc, World.size_setCell] at hz)
                have hz0 : bk1 < wx.heap.size := by omega
                have hz1 : VA < wx.heap.size := by omega
                have hz2 : VB < wx.heap.size := by omega
                obtain ⟨hc, hf⟩ := bcell hb
                clear hb hz
                simp [depsE, Region.binds, updE, kindOf, Prp.is, Prp.any] at hd
                go_simp
                first | exact ⟨Below.refl _ _, rfl⟩ | rfl
              apply seq_is (by kernel_rfl)
              · intro u wx hb hd
                replace hb := hb.nil
                have hz := hb.size
                (try simp only [World.size_alloc, World.size_setCell] at hz)
                have hz0 : bk1 < wx.heap.size := by omega
                have hz1 : VA < wx.heap.size := by omega
                have hz2 : VB < wx.heap.size := by omega
                obtain ⟨hc, hf⟩ := bcell hb
                clear hb hz
                simp [depsE, Region.binds, updE, kindOf, Prp.is, Prp.any] at hd
                go_simp
                first | exact ⟨Below.refl _ _, rfl⟩ | rfl
              apply seq_is (by kernel_rfl)
              · intro u wx hb hd
                replace hb := hb.nil
                have hz := hb.size
                (try simp only [World.size_alloc, World.size_setCell] at hz)
                have hz0 : bk1 < wx.heap.size := by omega
                have hz1 : VA < wx.heap.size := by omega
                have hz2 : VB < wx.heap.size := by omega
                obtain ⟨hc, hf⟩ := bcell hb
                clear hb hz
                simp [depsE, Region.binds, updE, kindOf, Prp.is, Prp.any] at hd
                go_simp
                first | exact ⟨Below.refl _ _, rfl⟩ | rfl
              apply seq_is (by kernel_rfl)
              · intro u wx hb hd
                replace hb := hb.nil
                have hz := hb.size
                (try simp only [World.size_alloc, World.size_setCell] at hz)
                have hz0 : bk1 < wx.heap.size := by omega
                have hz1 : VA < wx.heap.size := by omega
                have hz2 : VB < wx.heap.size := by omega
                obtain ⟨hc, hf⟩ := bcell hb
                clear hb hz
                simp [depsE, Region.binds, updE, kindOf, Prp.is, Prp.any] at hd
                go_simp
                first | exact ⟨Below.refl _ _, rfl⟩ | rfl
              apply seq_is (by kernel_rfl)
              · intro u wx hb hd
                replace hb := hb.nil
                have hz := hb.size
                (try simp only [World.size_alloc, World.size_setCell] at hz)
                have hz0 : bk1 < wx.heap.size := by omega
                have hz1 : VA < wx.heap.size := by omega
                have hz2 : VB < wx.heap.size := by omega
                obtain ⟨hc, hf⟩ := bcell hb
                clear hb hz
                simp [depsE, Region.binds, updE, kindOf, Prp.is, Prp.any] at hd
                go_simp
                first | exact ⟨Below.refl _ _, rfl⟩ | rfl
              apply seq_is (by kernel_rfl)
              · intro u wx hb hd
                replace hb := hb.nil
                have hz := hb.size
                (try simp only [World.size_alloc, World.size_setCell] at hz)
                have hz0 : bk1 < wx.heap.size := by omega
                have hz1 : VA < wx.heap.size := by omega
                have hz2 : VB < wx.heap.size := by omega
                obtain ⟨hc, hf⟩ := bcell hb
                clear hb hz
                simp [depsE, Region.binds, updE, kindOf, Prp.is, Prp.any] at hd
                go_simp
                first | exact ⟨Below.refl _ _, rfl⟩ | rfl
              apply seq_is (by kernel_rfl)
              · intro u wx hb hd
                replace hb := hb.nil
                have hz := hb.size
                (try simp only [World.size_alloc, World.size_setCell] at hz)
                have hz0 : bk1 < wx.heap.size := by omega
                have hz1 : VA < wx.heap.size := by omega
                have hz2 : VB < wx.heap.size := by omega
                obtain ⟨hc, hf⟩ := bcell hb
                clear hb hz
                simp [depsE, Region.binds, updE, kindOf, Prp.is, Prp.any] at hd
                go_simp
                first | exact ⟨Below.refl _ _, rfl⟩ | rfl
              apply seq_is (by kernel_rfl)
              · intro u wx hb hd
                replace hb := hb.nil
                have hz := hb.size
                (try simp only [World.size_alloc, World.size_setCell] at hz)
                have hz0 : bk1 < wx.heap.size := by omega
                have hz1 : VA < wx.heap.size := by omega
                have hz2 : VB < wx.heap.size := by omega
                obtain ⟨hc, hf⟩ := bcell hb
                clear hb hz
                simp [depsE, Region.binds, updE, kindOf, Prp.is, Prp.any] at hd
                go_simp
                first | exact ⟨Below.refl _ _, rfl⟩ | rfl
              apply seq_is (by kernel_rfl)
              · intro u wx hb hd
                replace hb := hb.nil
                have hz := hb.size
                (try simp only [World.size_alloc, World.size_setCell] at hz)
                have hz0 : bk1 < wx.heap.size := by omega
                have hz1 : VA < wx.heap.size := by omega
                have hz2 : VB < wx.heap.size := by omega
                obtain ⟨hc, hf⟩ := bcell hb
                clear hb hz
                simp [depsE, Region.binds, updE, kindOf, Prp.is, Prp.any] at hd
                go_simp
                first | exact ⟨Below.refl _ _, rfl⟩ | rfl
              apply seq_is (by kernel_rfl)
              · intro u wx hb hd
                replace hb := hb.nil
                have hz := hb.size
                (try simp only [World.size_alloc, World.size_setCell] at hz)
                have hz0 : bk1 < wx.heap.size := by omega
                have hz1 : VA < wx.heap.size := by omega
                have hz2 : VB < wx.heap.size := by omega
                obtain ⟨hc, hf⟩ := bcell hb
                clear hb hz
                simp [depsE, Region.binds, updE, kindOf, Prp.is, Prp.any] at hd
                go_simp
                first | exact ⟨Below.refl _ _, rfl⟩ | rfl
              apply seq_is (by kernel_rfl)
              · intro u wx hb hd
                replace hb := hb.nil
                have hz := hb.size
                (try simp only [World.size_alloc, World.size_setCell] at hz)
                have hz0 : bk1 < wx.heap.size := by omega
                have hz1 : VA < wx.heap.size := by omega
                have hz2 : VB < wx.heap.size := by omega
                obtain ⟨hc, hf⟩ := bcell hb
                clear hb hz
                simp [depsE, Region.binds, updE, kindOf, Prp.is, Prp.any] at hd
                go_simp
                first | exact ⟨Below.refl _ _, rfl⟩ | rfl
              apply seq_is (by kernel_rfl)
              · intro u wx hb hd
                replace hb := hb.nil
                have hz := hb.size
                (try simp only [World.size_alloc, World.size_setCell] at hz)
                have hz0 : bk1 < wx.heap.size := by omega
                have hz1 : VA < wx.heap.size := by omega
                have hz2 : VB < wx.heap.size := by omega
                obtain ⟨hc, hf⟩ := bcell hb
                clear hb hz
                simp [depsE, Region.binds, updE, kindOf, Prp.is, Prp.any] at hd
                go_simp
                first | exact ⟨Below.refl _ _, rfl⟩ | rfl
              apply seq_is (by kernel_rfl)
              · intro u wx hb hd
                replace hb := hb.nil
                have hz := hb.size
                (try simp only [World.size_alloc, World.size_setCell] at hz)
                have hz0 : bk1 < wx.heap.size := by omega
                have hz1 : VA < wx.heap.size := by omega
                have hz2 : VB < wx.heap.size := by omega
                obtain ⟨hc, hf⟩ := bcell hb
                clear hb hz
                simp [depsE, Region.binds, updE, kindOf, Prp.is, Prp.any] at hd
                go_simp
                first | exact ⟨Below.refl _ _, rfl⟩ | rfl
              apply seq_is (by kernel_rfl)
              · intro u wx hb hd
                replace hb := hb.nil
                have hz := hb.size
                (try simp only [World.size_alloc, World.size_setCell] at hz)
                have hz0 : bk1 < wx.heap.size := by omega
                have hz1 : VA < wx.heap.size := by omega
                have hz2 : VB < wx.heap.size := by omega
                obtain ⟨hc, hf⟩ := bcell hb
                clear hb hz
                simp [depsE, Region.binds, updE, kindOf, Prp.is, Prp.any] at hd
                go_simp
                first | exact ⟨Below.refl _ _, rfl⟩ | rfl
              apply seq_is (by kernel_rfl)
              · intro u wx hb hd
                replace hb := hb.nil
                have hz := hb.size
                (try simp only [World.size_alloc, World.size_setCell] at hz)
                have hz0 : bk1 < wx.heap.size := by omega
                have hz1 : VA < wx.heap.size := by omega
                have hz2 : VB < wx.heap.size := by omega
                obtain ⟨hc, hf⟩ := bcell hb
                clear hb hz
                simp [depsE, Region.binds, updE, kindOf, Prp.is, Prp.any] at hd
                go_simp
                first | exact ⟨Below.refl _ _, rfl⟩ | rfl
              apply seq_is (by kernel_rfl)
              · intro u wx hb hd
                replace hb := hb.nil
                have hz := hb.size
                (try simp only [World.size_alloc, World.size_setCell] at hz)
                have hz0 : bk1 < wx.heap.size := by omega
                have hz1 : VA < wx.heap.size := by omega
                have hz2 : VB < wx.heap.size := by omega
                obtain ⟨hc, hf⟩ := bcell hb
                clear hb hz
                simp [depsE, Region.binds, updE, kindOf, Prp.is, Prp.any] at hd
                go_simp
                first | exact ⟨Below.refl _ _, rfl⟩ | rfl
              apply seq_is (by kernel_rfl)
              · intro u wx hb hd
                replace hb := hb.nil
                have hz := hb.size
                (try simp only [World.size_alloc, World.size_setCell] at hz)
                have hz0 : bk1 < wx.heap.size := by omega
                have hz1 : VA < wx.heap.size := by omega
                have hz2 : VB < wx.heap.size := by omega
                obtain ⟨hc, hf⟩ := bcell hb
                clear hb hz
                simp [depsE, Region.binds, updE, kindOf, Prp.is, Prp.any] at hd
                go_simp
                first | exact ⟨Below.refl _ _, rfl⟩ | rfl
              apply seq_is (by kernel_rfl)
              · intro u wx hb hd
                replace hb := hb.nil
                have hz := hb.size
                (try simp only [World.size_alloc, World.size_setCell] at hz)
                have hz0 : bk1 < wx.heap.size := by omega
                have hz1 : VA < wx.heap.size := by omega
                have hz2 : VB < wx.heap.size := by omega
                obtain ⟨hc, hf⟩ := bcell hb
                clear hb hz
                simp [depsE, Region.binds, updE, kindOf, Prp.is, Prp.any] at hd
                go_simp
                first | exact ⟨Below.refl _ _, rfl⟩ | rfl
              apply seq_is (by kernel_rfl)
              · intro u wx hb hd
                replace hb := hb.nil
                have hz := hb.size
                (try simp only [World.size_alloc, World.size_setCell] at hz)
                have hz0 : bk1 < wx.heap.size := by omega
                have hz1 : VA < wx.heap.size := by omega
                have hz2 : VB < wx.heap.size := by omega
                obtain ⟨hc, hf⟩ := bcell hb
                clear hb hz
                simp [depsE, Region.binds, updE, kindOf, Prp.is, Prp.any] at hd
                go_simp
                first | exact ⟨Below.refl _ _, rfl⟩ | rfl
              apply seq_is (by kernel_rfl)
              · intro u wx hb hd
                replace hb := hb.nil
                have hz := hb.size
                (try simp only [World.size_alloc, World.size_setCell] at hz)
                have hz0 : bk1 < wx.heap.size := by omega
                have hz1 : VA < wx.heap.size := by omega
                have hz2 : VB < wx.heap.size := by omega
                obtain ⟨hc, hf⟩ := bcell hb
                clear hb hz
                simp [depsE, Region.binds, updE, kindOf, Prp.is, Prp.any] at hd
                go_simp
                first | exact ⟨Below.refl _ _, rfl⟩ | rfl
              apply seq_is (by kernel_rfl)
              · intro u wx hb hd
                replace hb := hb.nil
                have hz := hb.size
                (try simp only [World.size_alloc, World.size_setCell] at hz)
                have hz0 : bk1 < wx.heap.size := by omega
                have hz1 : VA < wx.heap.size := by omega
                have hz2 : VB < wx.heap.size := by omega
                obtain ⟨hc, hf⟩ := bcell hb
                clear hb hz
                simp [depsE, Region.binds, updE, kindOf, Prp.is, Prp.any] at hd
                go_simp
                first | exact ⟨Below.refl _ _, rfl⟩ | rfl
              apply seq_is (by kernel_rfl)
              · intro u wx hb hd
                replace hb := hb.nil
                have hz := hb.size
                (try simp only [World.size_alloc, World.size_setCell] at hz)
                have hz0 : bk1 < wx.heap.size := by omega
                have hz1 : VA < wx.heap.size := by omega
                have hz2 : VB < wx.heap.size := by omega
                obtain ⟨hc, hf⟩ := bcell hb
                clear hb hz
                simp [depsE, Region.binds, updE, kindOf, Prp.is, Prp.any] at hd
                go_simp
                first | exact ⟨Below.refl _ _, rfl⟩ | rfl
              intro u w7 hb hE hV hP
              replace hb := hb.nil
              clear hP
              have e0 : u 0 = _ := endE_get hE 0 (by decide) (by simp [kindOf])
              have e1 : u 1 = _ := endE_get hE 1 (by decide) (by simp [kindOf])
              have e2 : u 2 = _ := endE_get hE 2 (by decide) (by simp [kindOf])
              have e3 : u 3 = _ := endE_get hE 3 (by decide) (by simp [kindOf])
              have e4 : u 4 = _ := endE_get hE 4 (by decide) (by simp [kindOf])
              have e5 : u 5 = _ := endE_get hE 5 (by decide) (by simp [kindOf])
              have e6 : u 6 = _ := endE_get hE 6 (by decide) (by simp [kindOf])
              have e7 : u 7 = _ := endE_get hE 7 (by decide) (by simp [kindOf])
              have e8 : u 8 = _ := endE_get hE 8 (by decide) (by simp [kindOf])
              have e9 : u 9 = _ := endE_get hE 9 (by decide) (by simp [kindOf])
              have e10 : u 10 = _ := endE_get hE 10 (by decide) (by simp [kindOf])
              have e11 : u 11 = _ := endE_get hE 11 (by decide) (by simp [kindOf])
              have e12 : u 12 = _ := endE_get hE 12 (by decide) (by simp [kindOf])
              have e13 : u 13 = _ := endE_get hE 13 (by decide) (by simp [kindOf])
              have e14 : u 14 = _ := endE_get hE 14 (by decide) (by simp [kindOf])
              have e15 : u 15 = _ := endE_get hE 15 (by decide) (by simp [kindOf])
              have e16 : u 16 = _ := endE_get hE 16 (by decide) (by simp [kindOf])
              have e17 : u 17 = _ := endE_get hE 17 (by decide) (by simp [kindOf])
              have e18 : u 18 = _ := endE_get hE 18 (by decide) (by simp [kindOf])
              have e19 : u 19 = _ := endE_get hE 19 (by decide) (by simp [kindOf])
              have e20 : u 20 = _ := endE_get hE 20 (by decide) (by simp [kindOf])
              have e21 : u 21 = _ := endE_get hE 21 (by decide) (by simp [kindOf])
              clear hV
              simp only [List.drop_succ_cons, List.drop_zero, List.take_succ_cons, List.take_zero, fillL, Act.put, List.setIfInBounds_toArray, List.set_cons_zero, List.set_cons_succ, e0, e1, e2, e3, e4, e5, e6, e7, e8, e9, e10, e11, e12, e13, e14, e15, e16, e17, e18, e19, e20, e21]
              clear e0 e1 e2 e3 e4 e5 e6 e7 e8 e9 e10 e11 e12 e13 e14 e15 e16 e17 e18 e19 e20 e21 hE
              have HBWw7 := Lib.hid hb
              have hw7 := below_step (w := w2) (by first | assumption | go_grown) hb
              have hzw7 := hb.size
              (try simp only [World.size_alloc, World.size_setCell] at hzw7)
              have hzw70 : bk1 < w7.heap.size := by omega
              have hzw71 : VA < w7.heap.size := by omega
              have hzw72 : VB < w7.heap.size := by omega
              have HHw7 := Lib.hid hb.block
              obtain ⟨hcw7, hfw7⟩ := bcell hb
              clear hb hzw7
              have HB7 := Lib.hid (below_step HB2r.out HBWw7.out)
              have A0 := Lib.hid ((hw7.cell (p := ⟨_, _, none⟩) zA).trans M0.out)
              have A1 := Lib.hid ((hw7.cell (p := ⟨_, _, none⟩) zA).trans M1.out)
              have A2 := Lib.hid ((hw7.cell (p := ⟨_, _, none⟩) zB).trans M2.out)
              have A3 := Lib.hid ((hw7.cell (p := ⟨_, _, none⟩) zB).trans M3.out)
              have zA7 : VA < w7.heap.size := by have := hw7.size; omega
              have zB7 : VB < w7.heap.size := by have := hw7.size; omega
              clear hcw7 hfw7 HBWw7
              go_wp2
              go_roundw
              case rel => exact ⟨l + 1, by omega, by rw [← HL1.out]; rfl, zA7, zB7, A0.out, A1.out, A2.out, A3.out, HB7.out⟩
              case measure => have := HL1.out; simp [intOf]; omega
            · have ke1 : ((s : Int) == (j : Int)) = false := by simp; omega
              have ke2 : ((s : Int) != (j : Int)) = true := by simp; omega
              have pc0 : w2.cell? ⟨bk1, f1 + l * 2, none⟩ = some (.int .i64 (P l).1) := (hB2.cell (p := ⟨_, _, none⟩) hbl1).trans (hcl1 l hll).1
              have pc1 : w2.cell? ⟨bk1, f1 + l * 2 + 1, none⟩ = some (.int .i64 (P l).2) := (hB2.cell (p := ⟨_, _, none⟩) hbl1).trans (hcl1 l hll).2
              have pd0 : w2.cell? ⟨bk1, f1 + s * 2, none⟩ = some (.int .i64 (P s).1) := (hB2.cell (p := ⟨_, _, none⟩) hbl1).trans (hcl1 s sn).1
              have pd1 : w2.cell? ⟨bk1, f1 + s * 2 + 1, none⟩ = some (.int .i64 (P s).2) := (hB2.cell (p := ⟨_, _, none⟩) hbl1).trans (hcl1 s sn).2
              have HM : Hid (∀ W, Calls Tryd.prog 74 #[.agg #[.int .i64 (P j).1, .int .i64 (P j).2], .agg #[.int .i64 (P q).1, .int .i64 (P q).2], .agg #[.int .i64 (P l).1, .int .i64 (P l).2], .agg #[.int .i64 (P s).1, .int .i64 (P s).2]] W (fun e w' => e = .returned (.bool false) ∧ Below W.heap.size W w')) := fun W => by
                have hd : decide (meets (P j) (P q) (P l) (P s)) = false := decide_eq_false (by
                  have h := HS.out.2.2 l hl hll (by rw [Hs.out]; exact he)
                  rw [Hq.out, Hs.out] at h
                  exact h)
                rw [← hd]
                exact meetP_any _ _ _ _ _ _ _ _ W HN.out HNq.out (near_nr (nearB_iff.2 (by have := hp.out.nr l hll; omega))) (near_nr (nearB_iff.2 (by have := hp.out.nr s sn; omega)))
              rw [HAB.out.1, HAB.out.2.1, HAB.out.2.2.1, HAB.out.2.2.2.1] at HM
              clear hcl1
              obtain ⟨g1, hg1⟩ : ∃ e, (P l).1 = e := ⟨_, rfl⟩
              rw [hg1] at pc0 HM
              clear hg1
              obtain ⟨g2, hg2⟩ : ∃ e, (P l).2 = e := ⟨_, rfl⟩
              rw [hg2] at pc1 HM
              clear hg2
              obtain ⟨k1, hk1⟩ : ∃ e, (P s).1 = e := ⟨_, rfl⟩
              rw [hk1] at pd0 HM
              clear hk1
              obtain ⟨k2, hk2⟩ : ∃ e, (P s).2 = e := ⟨_, rfl⟩
              rw [hk2] at pd1 HM
              clear hk2
              go_wp2_with fail
              refine wp_region_seq 22 [] [] (by kernel_rfl) (by kernel_rfl) (by kernel_rfl) (by kernel_rfl) (by kernel_rfl) ?_ ?_ ?_
              · intro r hr; cases hr
              · intro r hr; cases hr
              simp only [List.take_succ_cons, List.take_zero, fillL, Act.put, List.setIfInBounds_toArray, List.set_cons_zero, List.set_cons_succ]
              apply seq_is (by kernel_rfl)
              · intro u wx hb hd
                replace hb := hb.nil
                have hz := hb.size
                (try simp only [World.size_alloc, World.size_setCell] at hz)
                have hz0 : bk1 < wx.heap.size := by omega
                have hz1 : VA < wx.heap.size := by omega
                have hz2 : VB < wx.heap.size := by omega
                obtain ⟨hc, hf⟩ := bcell hb
                clear hb hz
                simp [depsE, Region.binds, updE, kindOf, Prp.is, Prp.any] at hd
                go_simp
                first | exact ⟨Below.refl _ _, rfl⟩ | rfl
              apply seq_is (by kernel_rfl)
              · intro u wx hb hd
                replace hb := hb.nil
                have hz := hb.size
                (try simp only [World.size_alloc, World.size_setCell] at hz)
                have hz0 : bk1 < wx.heap.size := by omega
                have hz1 : VA < wx.heap.size := by omega
                have hz2 : VB < wx.heap.size := by omega
                obtain ⟨hc, hf⟩ := bcell hb
                clear hb hz
                simp [depsE, Region.binds, updE, kindOf, Prp.is, Prp.any] at hd
                go_simp
                first | exact ⟨Below.refl _ _, rfl⟩ | rfl
              apply seq_is (by kernel_rfl)
              · intro u wx hb hd
                replace hb := hb.nil
                have hz := hb.size
                (try simp only [World.size_alloc, World.size_setCell] at hz)
                have hz0 : bk1 < wx.heap.size := by omega
                have hz1 : VA < wx.heap.size := by omega
                have hz2 : VB < wx.heap.size := by omega
                obtain ⟨hc, hf⟩ := bcell hb
                clear hb hz
                simp [depsE, Region.binds, updE, kindOf, Prp.is, Prp.any] at hd
                go_simp
                first | exact ⟨Below.refl _ _, rfl⟩ | rfl
              apply seq_is (by kernel_rfl)
              · intro u wx hb hd
                replace hb := hb.nil
                have hz := hb.size
                (try simp only [World.size_alloc, World.size_setCell] at hz)
                have hz0 : bk1 < wx.heap.size := by omega
                have hz1 : VA < wx.heap.size := by omega
                have hz2 : VB < wx.heap.size := by omega
                obtain ⟨hc, hf⟩ := bcell hb
                clear hb hz
                simp [depsE, Region.binds, updE, kindOf, Prp.is, Prp.any] at hd
                go_simp
                first | exact ⟨Below.refl _ _, rfl⟩ | rfl
              apply seq_is (by kernel_rfl)
              · intro u wx hb hd
                replace hb := hb.nil
                have hz := hb.size
                (try simp only [World.size_alloc, World.size_setCell] at hz)
                have hz0 : bk1 < wx.heap.size := by omega
                have hz1 : VA < wx.heap.size := by omega
                have hz2 : VB < wx.heap.size := by omega
                obtain ⟨hc, hf⟩ := bcell hb
                clear hb hz
                simp [depsE, Region.binds, updE, kindOf, Prp.is, Prp.any] at hd
                go_simp
                first | exact ⟨Below.refl _ _, rfl⟩ | rfl
              apply seq_is (by kernel_rfl)
              · intro u wx hb hd
                replace hb := hb.nil
                have hz := hb.size
                (try simp only [World.size_alloc, World.size_setCell] at hz)
                have hz0 : bk1 < wx.heap.size := by omega
                have hz1 : VA < wx.heap.size := by omega
                have hz2 : VB < wx.heap.size := by omega
                obtain ⟨hc, hf⟩ := bcell hb
                clear hb hz
                simp [depsE, Region.binds, updE, kindOf, Prp.is, Prp.any] at hd
                go_simp
                first | exact ⟨Below.refl _ _, rfl⟩ | rfl
              apply seq_is (by kernel_rfl)
              · intro u wx hb hd
                replace hb := hb.nil
                have hz := hb.size
                (try simp only [World.size_alloc, World.size_setCell] at hz)
                have hz0 : bk1 < wx.heap.size := by omega
                have hz1 : VA < wx.heap.size := by omega
                have hz2 : VB < wx.heap.size := by omega
                obtain ⟨hc, hf⟩ := bcell hb
                clear hb hz
                simp [depsE, Region.binds, updE, kindOf, Prp.is, Prp.any] at hd
                go_simp
                first | exact ⟨Below.refl _ _, rfl⟩ | rfl
              apply seq_is (by kernel_rfl)
              · intro u wx hb hd
                replace hb := hb.nil
                have hz := hb.size
                (try simp only [World.size_alloc, World.size_setCell] at hz)
                have hz0 : bk1 < wx.heap.size := by omega
                have hz1 : VA < wx.heap.size := by omega
                have hz2 : VB < wx.heap.size := by omega
                obtain ⟨hc, hf⟩ := bcell hb
                clear hb hz
                simp [depsE, Region.binds, updE, kindOf, Prp.is, Prp.any] at hd
                go_simp
                first | exact ⟨Below.refl _ _, rfl⟩ | rfl
              apply seq_is (by kernel_rfl)
              · intro u wx hb hd
                replace hb := hb.nil
                have hz := hb.size
                (try simp only [World.size_alloc, World.size_setCell] at hz)
                have hz0 : bk1 < wx.heap.size := by omega
                have hz1 : VA < wx.heap.size := by omega
                have hz2 : VB < wx.heap.size := by omega
                obtain ⟨hc, hf⟩ := bcell hb
                clear hb hz
                simp [depsE, Region.binds, updE, kindOf, Prp.is, Prp.any] at hd
                go_simp
                first | exact ⟨Below.refl _ _, rfl⟩ | rfl
              apply seq_is (by kernel_rfl)
              · intro u wx hb hd
                replace hb := hb.nil
                have hz := hb.size
                (try simp only [World.size_alloc, World.size_setCell] at hz)
                have hz0 : bk1 < wx.heap.size := by omega
                have hz1 : VA < wx.heap.size := by omega
                have hz2 : VB < wx.heap.size := by omega
                obtain ⟨hc, hf⟩ := bcell hb
                clear hb hz
                simp [depsE, Region.binds, updE, kindOf, Prp.is, Prp.any] at hd
                go_simp
                first | exact ⟨Below.refl _ _, rfl⟩ | rfl
              apply seq_is (by kernel_rfl)
              · intro u wx hb hd
                replace hb := hb.nil
                have hz := hb.size
                (try simp only [World.size_alloc, World.size_setCell] at hz)
                have hz0 : bk1 < wx.heap.size := by omega
                have hz1 : VA < wx.heap.size := by omega
                have hz2 : VB < wx.heap.size := by omega
                obtain ⟨hc, hf⟩ := bcell hb
                clear hb hz
                simp [depsE, Region.binds, updE, kindOf, Prp.is, Prp.any] at hd
                go_simp
                first | exact ⟨Below.refl _ _, rfl⟩ | rfl
              apply seq_is (by kernel_rfl)
              · intro u wx hb hd
                replace hb := hb.nil
                have hz := hb.size
                (try simp only [World.size_alloc, World.size_setCell] at hz)
                have hz0 : bk1 < wx.heap.size := by omega
                have hz1 : VA < wx.heap.size := by omega
                have hz2 : VB < wx.heap.size := by omega
                obtain ⟨hc, hf⟩ := bcell hb
                clear hb hz
                simp [depsE, Region.binds, updE, kindOf, Prp.is, Prp.any] at hd
                go_simp
                first | exact ⟨Below.refl _ _, rfl⟩ | rfl
              apply seq_is (by kernel_rfl)
              · intro u wx hb hd
                replace hb := hb.nil
                have hz := hb.size
                (try simp only [World.size_alloc, World.size_setCell] at hz)
                have hz0 : bk1 < wx.heap.size := by omega
                have hz1 : VA < wx.heap.size := by omega
                have hz2 : VB < wx.heap.size := by omega
                obtain ⟨hc, hf⟩ := bcell hb
                clear hb hz
                simp [depsE, Region.binds, updE, kindOf, Prp.is, Prp.any] at hd
                go_simp
                first | exact ⟨Below.refl _ _, rfl⟩ | rfl
              apply seq_is (by kernel_rfl)
              · intro u wx hb hd
                replace hb := hb.nil
                have hz := hb.size
                (try simp only [World.size_alloc, World.size_setCell] at hz)
                have hz0 : bk1 < wx.heap.size := by omega
                have hz1 : VA < wx.heap.size := by omega
                have hz2 : VB < wx.heap.size := by omega
                obtain ⟨hc, hf⟩ := bcell hb
                clear hb hz
                simp [depsE, Region.binds, updE, kindOf, Prp.is, Prp.any] at hd
                go_simp
                first | exact ⟨Below.refl _ _, rfl⟩ | rfl
              apply seq_is (by kernel_rfl)
              · intro u wx hb hd
                replace hb := hb.nil
                have hz := hb.size
                (try simp only [World.size_alloc, World.size_setCell] at hz)
                have hz0 : bk1 < wx.heap.size := by omega
                have hz1 : VA < wx.heap.size := by omega
                have hz2 : VB < wx.heap.size := by omega
                obtain ⟨hc, hf⟩ := bcell hb
                clear hb hz
                simp [depsE, Region.binds, updE, kindOf, Prp.is, Prp.any] at hd
                go_simp
                first | exact ⟨Below.refl _ _, rfl⟩ | rfl
              apply seq_is (by kernel_rfl)
              · intro u wx hb hd
                replace hb := hb.nil
                have hz := hb.size
                (try simp only [World.size_alloc, World.size_setCell] at hz)
                have hz0 : bk1 < wx.heap.size := by omega
                have hz1 : VA < wx.heap.size := by omega
                have hz2 : VB < wx.heap.size := by omega
                obtain ⟨hc, hf⟩ := bcell hb
                clear hb hz
                simp [depsE, Region.binds, updE, kindOf, Prp.is, Prp.any] at hd
                go_simp
                first | exact ⟨Below.refl _ _, rfl⟩ | rfl
              apply seq_is (by kernel_rfl)
              · intro u wx hb hd
                replace hb := hb.nil
                have hz := hb.size
                (try simp only [World.size_alloc, World.size_setCell] at hz)
                have hz0 : bk1 < wx.heap.size := by omega
                have hz1 : VA < wx.heap.size := by omega
                have hz2 : VB < wx.heap.size := by omega
                obtain ⟨hc, hf⟩ := bcell hb
                clear hb hz
                simp [depsE, Region.binds, updE, kindOf, Prp.is, Prp.any] at hd
                go_simp
                first | exact ⟨Below.refl _ _, rfl⟩ | rfl
              apply seq_is (by kernel_rfl)
              · intro u wx hb hd
                replace hb := hb.nil
                have hz := hb.size
                (try simp only [World.size_alloc, World.size_setCell] at hz)
                have hz0 : bk1 < wx.heap.size := by omega
                have hz1 : VA < wx.heap.size := by omega
                have hz2 : VB < wx.heap.size := by omega
                obtain ⟨hc, hf⟩ := bcell hb
                clear hb hz
                simp [depsE, Region.binds, updE, kindOf, Prp.is, Prp.any] at hd
                go_simp
                first | exact ⟨Below.refl _ _, rfl⟩ | rfl
              apply seq_is (by kernel_rfl)
              · intro u wx hb hd
                replace hb := hb.nil
                have hz := hb.size
                (try simp only [World.size_alloc, World.size_setCell] at hz)
                have hz0 : bk1 < wx.heap.size := by omega
                have hz1 : VA < wx.heap.size := by omega
                have hz2 : VB < wx.heap.size := by omega
                obtain ⟨hc, hf⟩ := bcell hb
                clear hb hz
                simp [depsE, Region.binds, updE, kindOf, Prp.is, Prp.any] at hd
                go_simp
                first | exact ⟨Below.refl _ _, rfl⟩ | rfl
              apply seq_is (by kernel_rfl)
              · intro u wx hb hd
                replace hb := hb.nil
                have hz := hb.size
                (try simp only [World.size_alloc, World.size_setCell] at hz)
                have hz0 : bk1 < wx.heap.size := by omega
                have hz1 : VA < wx.heap.size := by omega
                have hz2 : VB < wx.heap.size := by omega
                obtain ⟨hc, hf⟩ := bcell hb
                clear hb hz
                simp [depsE, Region.binds, updE, kindOf, Prp.is, Prp.any] at hd
                go_simp
                first | exact ⟨Below.refl _ _, rfl⟩ | rfl
              apply seq_is (by kernel_rfl)
              · intro u wx hb hd
                replace hb := hb.nil
                have hz := hb.size
                (try simp only [World.size_alloc, World.size_setCell] at hz)
                have hz0 : bk1 < wx.heap.size := by omega
                have hz1 : VA < wx.heap.size := by omega
                have hz2 : VB < wx.heap.size := by omega
                obtain ⟨hc, hf⟩ := bcell hb
                clear hb hz
                simp [depsE, Region.binds, updE, kindOf, Prp.is, Prp.any] at hd
                go_simp
                first | rfl | (go_at_call 74; refine (HM.out _).mono ?_; rintro e w1 ⟨rfl, hb1⟩; first | exact ⟨rfl, hb1⟩ | exact ⟨_, rfl, hb1, rfl⟩)
              apply seq_is (by kernel_rfl)
              · intro u wx hb hd
                replace hb := hb.nil
                have hz := hb.size
                (try simp only [World.size_alloc, World.size_setCell] at hz)
                have hz0 : bk1 < wx.heap.size := by omega
                have hz1 : VA < wx.heap.size := by omega
                have hz2 : VB < wx.heap.size := by omega
                obtain ⟨hc, hf⟩ := bcell hb
                clear hb hz
                simp [depsE, Region.binds, updE, kindOf, Prp.is, Prp.any] at hd
                go_simp
                first | exact ⟨Below.refl _ _, rfl⟩ | rfl
              intro u w7 hb hE hV hP
              replace hb := hb.nil
              clear hP
              have e0 : u 0 = _ := endE_get hE 0 (by decide) (by simp [kindOf])
              have e1 : u 1 = _ := endE_get hE 1 (by decide) (by simp [kindOf])
              have e2 : u 2 = _ := endE_get hE 2 (by decide) (by simp [kindOf])
              have e3 : u 3 = _ := endE_get hE 3 (by decide) (by simp [kindOf])
              have e4 : u 4 = _ := endE_get hE 4 (by decide) (by simp [kindOf])
              have e5 : u 5 = _ := endE_get hE 5 (by decide) (by simp [kindOf])
              have e6 : u 6 = _ := endE_get hE 6 (by decide) (by simp [kindOf])
              have e7 : u 7 = _ := endE_get hE 7 (by decide) (by simp [kindOf])
              have e8 : u 8 = _ := endE_get hE 8 (by decide) (by simp [kindOf])
              have e9 : u 9 = _ := endE_get hE 9 (by decide) (by simp [kindOf])
              have e10 : u 10 = _ := endE_get hE 10 (by decide) (by simp [kindOf])
              have e11 : u 11 = _ := endE_get hE 11 (by decide) (by simp [kindOf])
              have e12 : u 12 = _ := endE_get hE 12 (by decide) (by simp [kindOf])
              have e13 : u 13 = _ := endE_get hE 13 (by decide) (by simp [kindOf])
              have e14 : u 14 = _ := endE_get hE 14 (by decide) (by simp [kindOf])
              have e15 : u 15 = _ := endE_get hE 15 (by decide) (by simp [kindOf])
              have e16 : u 16 = _ := endE_get hE 16 (by decide) (by simp [kindOf])
              have e17 : u 17 = _ := endE_get hE 17 (by decide) (by simp [kindOf])
              have e18 : u 18 = _ := endE_get hE 18 (by decide) (by simp [kindOf])
              have e19 : u 19 = _ := endE_get hE 19 (by decide) (by simp [kindOf])
              have e20 : u 20 = _ := endE_get hE 20 (by decide) (by simp [kindOf])
              have e21 : u 21 = _ := endE_get hE 21 (by decide) (by simp [kindOf])
              clear hV
              simp only [List.drop_succ_cons, List.drop_zero, List.take_succ_cons, List.take_zero, fillL, Act.put, List.setIfInBounds_toArray, List.set_cons_zero, List.set_cons_succ, e0, e1, e2, e3, e4, e5, e6, e7, e8, e9, e10, e11, e12, e13, e14, e15, e16, e17, e18, e19, e20, e21]
              clear e0 e1 e2 e3 e4 e5 e6 e7 e8 e9 e10 e11 e12 e13 e14 e15 e16 e17 e18 e19 e20 e21 hE
              have HBWw7 := Lib.hid hb
              have hw7 := below_step (w := w2) (by first | assumption | go_grown) hb
              have hzw7 := hb.size
              (try simp only [World.size_alloc, World.size_setCell] at hzw7)
              have hzw70 : bk1 < w7.heap.size := by omega
              have hzw71 : VA < w7.heap.size := by omega
              have hzw72 : VB < w7.heap.size := by omega
              have HHw7 := Lib.hid hb.block
              obtain ⟨hcw7, hfw7⟩ := bcell hb
              clear hb hzw7
              have HB7 := Lib.hid (below_step HB2r.out HBWw7.out)
              have A0 := Lib.hid ((hw7.cell (p := ⟨_, _, none⟩) zA).trans M0.out)
              have A1 := Lib.hid ((hw7.cell (p := ⟨_, _, none⟩) zA).trans M1.out)
              have A2 := Lib.hid ((hw7.cell (p := ⟨_, _, none⟩) zB).trans M2.out)
              have A3 := Lib.hid ((hw7.cell (p := ⟨_, _, none⟩) zB).trans M3.out)
              have zA7 : VA < w7.heap.size := by have := hw7.size; omega
              have zB7 : VB < w7.heap.size := by have := hw7.size; omega
              clear hcw7 hfw7 HBWw7
              go_wp2
              go_roundw
              case rel => exact ⟨l + 1, by omega, by rw [← HL1.out]; rfl, zA7, zB7, A0.out, A1.out, A2.out, A3.out, HB7.out⟩
              case measure => have := HL1.out; simp [intOf]; omega
          · go_wp2
            go_roundw
            case rel => exact ⟨j + 1, by omega, by rw [← HJ1.out]; rfl, HB2r.out⟩
            case measure => have := HJ1.out; simp [intOf]; omega
    · go_wp2
      go_returns
      exact ⟨rfl, HB1r.out⟩
end Go.Proofs.YtgbhhjdmochhpaaDoor
