/-
  The law MeshReversed. Conditions: none. By an AI agent.
-/
import Derived.Test.YtpjdmjmgkdgfnaaMeshYP
namespace Go.Proofs.Ytpjdmjmgkdgfnaa
open Go Go.ChangeShapes Go.WideShapes Go.RowKit Go.ChangeAt
set_option linter.unusedVariables false
set_option linter.unusedSimpArgs false
set_option maxRecDepth 100000

set_option maxHeartbeats 4000000 in
theorem meshReversed_walk (v : Value) (np nf : Nat) (P F : Nat → V) (k : Int) (w : World) (h : MAt w v np P nf F) (hk : 0 ≤ k ∧ k ≤ 65535) : Calls Try.prog 10 #[v, .int .u16 k] w fun e w' => e = .returned (.bool true) ∧ Below w.heap.size w w' := by
  have HM := Lib.hid h
  obtain ⟨vp, vf, rfl, g1, g2⟩ := h
  have HG1 := Lib.hid g1
  obtain ⟨op, cp, rfl, -, -, -⟩ := g1.form
  obtain ⟨of', cf, rfl, hnf, hcf, hel⟩ := g2.form
  have HEL := Lib.hid hel
  clear g1 g2 hel
  obtain ⟨LB, hLB⟩ : ∃ b, decide (np ≤ 1100 ∧ nf ≤ 300) = b := ⟨_, rfl⟩
  have HLB := Lib.hid hLB
  obtain ⟨E, hE⟩ : ∃ E, checkM np P nf F = E := ⟨_, rfl⟩
  have HE := Lib.hid hE
  have HCK : Hid (∀ W, MAt W (.agg #[.slice op np cp, .slice of' nf cf]) np P nf F → Calls Try.prog 13 #[.agg #[.slice op np cp, .slice of' nf cf]] W fun e w' => e = .returned (.int .i64 E) ∧ Below W.heap.size W w') := fun W h => hE ▸ Check_any _ np nf P F W h
  clear hLB hE
  cases LB
  · go_enter Try.func10, Try.ntmps10
    go_wp2_with fail
    (go_at_call 11; refine (light_any _ np nf P F _ (HM.out.below (by first | assumption | go_grown))).mono ?_; rintro e_ w1 ⟨rfl, hb⟩)
    have hsw1 := hb.size
    (try simp only [World.size_alloc, World.size_setCell] at hsw1)
    have zzw1 : w.heap.size < w1.heap.size := by omega
    have hPw1 : Below w.heap.size w w1 := below_step (w := w) (by first | exact Below.refl _ _ | go_grown) hb
    have zmw1 : w.heap.size < w1.heap.size := by omega
    have m0w1 : w1.cell? ⟨w.heap.size, 0, none⟩ = some (.slice op np cp) := (hb.cell (p := ⟨_, _, none⟩) (by simp <;> omega)).trans (by simp [go_sem])
    have m1w1 : w1.cell? ⟨w.heap.size, 1, none⟩ = some (.slice of' nf cf) := (hb.cell (p := ⟨_, _, none⟩) (by simp <;> omega)).trans (by simp [go_sem])
    have hBw1 : Below w.heap.size w w1 := below_step (w := w) (by first | assumption | go_grown) hb
    rw [HLB.out]
    clear hb hsw1 hPw1
    go_wp2_with fail
    (go_at_call 12; refine (awake_any _).mono ?_; rintro e_ w2 ⟨rfl, hb⟩)
    have hBz : Below w.heap.size w w2 := below_step (w := w) (by first | assumption | go_grown) hb
    go_wp2
    go_returns
    exact ⟨rfl, hBz⟩
  by_cases h0 : E = 0
  · subst h0
    have HG : Hid (Good np P nf F) := check_iff.1 HE.out
    have hnf0 : 0 < nf := good_faces HG.out
    have knf : ((nf : Int) == 0) = false := by simp; omega
    obtain ⟨q, hq⟩ : ∃ q : Nat, (k.tmod (nf : Int)) = (q : Int) ∧ q < nf := by
      refine ⟨(k.tmod nf).toNat, ?_, ?_⟩
      · have := Int.emod_nonneg k (show (nf : Int) ≠ 0 by omega)
        rw [Int.tmod_eq_emod_of_nonneg hk.1]
        omega
      · have h1 := Int.emod_lt_of_pos k (show (0 : Int) < nf by omega)
        have h2 := Int.emod_nonneg k (show (nf : Int) ≠ 0 by omega)
        rw [Int.tmod_eq_emod_of_nonneg hk.1]
        omega
    obtain ⟨hqm, hqn⟩ := hq
    have e1 : IntKind.i64.wrap k = k := IntWalk.i64_in _ (by omega)
    have e2 : IntKind.i64.wrap (q : Int) = (q : Int) := IntWalk.i64_in _ (by have := HG.out.n2; omega)
    have hn2048 := HG.out.n2
    obtain ⟨RF, hRF⟩ : ∃ G, (fun j => revF (F j)) = G := ⟨_, rfl⟩
    obtain ⟨DF, hDF⟩ : ∃ G, dropF F q = G := ⟨_, rfl⟩
    have HRF := Lib.hid hRF
    have HDF := Lib.hid hDF
    clear hRF hDF
    go_enter Try.func10, Try.ntmps10
    go_wp2_with fail
    (go_at_call 11; refine (light_any _ np nf P F _ (HM.out.below (by first | assumption | go_grown))).mono ?_; rintro e_ w1 ⟨rfl, hb⟩)
    have hsw1 := hb.size
    (try simp only [World.size_alloc, World.size_setCell] at hsw1)
    have zzw1 : w.heap.size < w1.heap.size := by omega
    have hPw1 : Below w.heap.size w w1 := below_step (w := w) (by first | exact Below.refl _ _ | go_grown) hb
    have zmw1 : w.heap.size < w1.heap.size := by omega
    have m0w1 : w1.cell? ⟨w.heap.size, 0, none⟩ = some (.slice op np cp) := (hb.cell (p := ⟨_, _, none⟩) (by simp <;> omega)).trans (by simp [go_sem])
    have m1w1 : w1.cell? ⟨w.heap.size, 1, none⟩ = some (.slice of' nf cf) := (hb.cell (p := ⟨_, _, none⟩) (by simp <;> omega)).trans (by simp [go_sem])
    have hBw1 : Below w.heap.size w w1 := below_step (w := w) (by first | assumption | go_grown) hb
    rw [HLB.out]
    clear hb hsw1 hPw1
    go_wp2_with fail
    (go_at_call 13; refine (HCK.out _ (HM.out.below (by first | assumption | go_grown))).mono ?_; rintro e_ w2 ⟨rfl, hb⟩)
    have hsw2 := hb.size
    (try simp only [World.size_alloc, World.size_setCell] at hsw2)
    have zzw2 : w.heap.size < w2.heap.size := by omega
    have hPw2 : Below w1.heap.size w1 w2 := below_step (w := w1) (by first | exact Below.refl _ _ | go_grown) hb
    have zmw2 : w.heap.size < w2.heap.size := by omega
    have m0w2 : w2.cell? ⟨w.heap.size, 0, none⟩ = some (.slice op np cp) := (hPw2.cell (p := ⟨_, _, none⟩) zmw1).trans m0w1
    have m1w2 : w2.cell? ⟨w.heap.size, 1, none⟩ = some (.slice of' nf cf) := (hPw2.cell (p := ⟨_, _, none⟩) zmw1).trans m1w1
    have hBw2 : Below w.heap.size w w2 := below_step (w := w) (by first | assumption | go_grown) hb
    clear hb hsw2 hPw2
    clear zmw1 m0w1 m1w1
    go_wp2_with fail
    refine wp_region_seq 10 [⟨6, 8, #[.slice none 0 0, .slice none 0 0], 25⟩, ⟨7, 9, #[.slice none 0 0, .slice none 0 0], 25⟩] [] (by kernel_rfl) (by kernel_rfl) (by kernel_rfl) (by kernel_rfl) (by kernel_rfl) ?_ ?_ ?_
    · intro r hr; cases hr
    · intro r hr; cases hr
    simp only [List.take_succ_cons, List.take_zero, fillL, Act.put, List.setIfInBounds_toArray, List.set_cons_zero, List.set_cons_succ]
    apply seq_is (by kernel_rfl)
    · intro u wx hb hd
      replace hb := hb.nil
      have hz := hb.size
      (try simp only [World.size_alloc, World.size_setCell] at hz)
      have hz0 : w.heap.size < wx.heap.size := by omega
      obtain ⟨hc, hf⟩ := bcell hb
      clear hb hz
      simp [depsE, Region.binds, updE, kindOf, Prp.is, Prp.any] at hd
      go_simp
      first | exact ⟨Below.refl _ _, rfl⟩ | rfl
    apply seq_is (by kernel_rfl)
    · intro u wx hb hd
      replace hb := hb.nil
      have hz := hb.size
      (try simp only [World.size_alloc, World.size_setCell] at hz)
      have hz0 : w.heap.size < wx.heap.size := by omega
      obtain ⟨hc, hf⟩ := bcell hb
      clear hb hz
      simp [depsE, Region.binds, updE, kindOf, Prp.is, Prp.any] at hd
      go_simp
      first | exact ⟨Below.refl _ _, rfl⟩ | rfl
    apply seq_is (by kernel_rfl)
    · intro u wx hb hd
      replace hb := hb.nil
      have hz := hb.size
      (try simp only [World.size_alloc, World.size_setCell] at hz)
      have hz0 : w.heap.size < wx.heap.size := by omega
      obtain ⟨hc, hf⟩ := bcell hb
      clear hb hz
      simp [depsE, Region.binds, updE, kindOf, Prp.is, Prp.any] at hd
      go_simp
      first | exact ⟨Below.refl _ _, rfl⟩ | rfl
    apply seq_is (by kernel_rfl)
    · intro u wx hb hd
      replace hb := hb.nil
      have hz := hb.size
      (try simp only [World.size_alloc, World.size_setCell] at hz)
      have hz0 : w.heap.size < wx.heap.size := by omega
      obtain ⟨hc, hf⟩ := bcell hb
      clear hb hz
      simp [depsE, Region.binds, updE, kindOf, Prp.is, Prp.any] at hd
      go_simp
      first | exact ⟨Below.refl _ _, rfl⟩ | rfl
    apply seq_is (by kernel_rfl)
    · intro u wx hb hd
      replace hb := hb.nil
      have hz := hb.size
      (try simp only [World.size_alloc, World.size_setCell] at hz)
      have hz0 : w.heap.size < wx.heap.size := by omega
      obtain ⟨hc, hf⟩ := bcell hb
      clear hb hz
      simp [depsE, Region.binds, updE, kindOf, Prp.is, Prp.any] at hd
      go_simp
      first | exact ⟨Below.refl _ _, rfl⟩ | rfl
    apply seq_is (by kernel_rfl)
    · intro u wx hb hd
      replace hb := hb.nil
      have hz := hb.size
      (try simp only [World.size_alloc, World.size_setCell] at hz)
      have hz0 : w.heap.size < wx.heap.size := by omega
      obtain ⟨hc, hf⟩ := bcell hb
      clear hb hz
      simp [depsE, Region.binds, updE, kindOf, Prp.is, Prp.any] at hd
      go_simp
      first | exact ⟨Below.refl _ _, rfl⟩ | rfl
    refine seq_var ⟨6, 8, #[.slice none 0 0, .slice none 0 0], 25⟩ (by simp) rfl ?_ ?_
    · intro u wx hb
      refine ⟨by simp [Region.wanted], ?_⟩
      go_simp
      first | done | rfl | exact ⟨rfl, rfl⟩
    refine seq_var ⟨7, 9, #[.slice none 0 0, .slice none 0 0], 25⟩ (by simp) rfl ?_ ?_
    · intro u wx hb
      refine ⟨by simp [Region.wanted], ?_⟩
      go_simp
      first | done | rfl | exact ⟨rfl, rfl⟩
    apply seq_sto_agg ⟨6, 8, #[.slice none 0 0, .slice none 0 0], 25⟩ (by simp) rfl (by kernel_rfl) rfl (by kernel_rfl)
    · intro u wx hb hd
      replace hb := hb.nil
      have hz := hb.size
      (try simp only [World.size_alloc, World.size_setCell] at hz)
      have hz0 : w.heap.size < wx.heap.size := by omega
      obtain ⟨hc, hf⟩ := bcell hb
      clear hb hz
      simp [depsE, Region.binds, updE, kindOf, Prp.is, Prp.any] at hd
      refine ⟨by simp [Region.wanted], fun b' hub hlb hcells => ?_⟩
      have hub' : u 6 = .pointer (some ⟨b', 0, none⟩) := hub
      have hcells' : wx.heap[b']? = some (.cells #[.slice none 0 0, .slice none 0 0] 25) := hcells
      have hat := cells_at2 hcells'
      have HCL := Lib.hid hcells'
      clear hcells hcells' hub
      go_simp
      exact Stored.c2 HCL.out _ _
    apply seq_sto_agg ⟨7, 9, #[.slice none 0 0, .slice none 0 0], 25⟩ (by simp) rfl (by kernel_rfl) rfl (by kernel_rfl)
    · intro u wx hb hd
      replace hb := hb.nil
      have hz := hb.size
      (try simp only [World.size_alloc, World.size_setCell] at hz)
      have hz0 : w.heap.size < wx.heap.size := by omega
      obtain ⟨hc, hf⟩ := bcell hb
      clear hb hz
      simp [depsE, Region.binds, updE, kindOf, Prp.is, Prp.any] at hd
      refine ⟨by simp [Region.wanted], fun b' hub hlb hcells => ?_⟩
      have hub' : u 7 = .pointer (some ⟨b', 0, none⟩) := hub
      have hcells' : wx.heap[b']? = some (.cells #[.slice none 0 0, .slice none 0 0] 25) := hcells
      have hat := cells_at2 hcells'
      have HCL := Lib.hid hcells'
      clear hcells hcells' hub
      go_simp
      exact Stored.c2 HCL.out _ _
    intro u w5 hb hE hV hP
    replace hb := hb.nil
    clear hP
    have e0 : u 0 = _ := endE_get hE 0 (by decide) (by simp [kindOf])
    have e1 : u 1 = _ := endE_get hE 1 (by decide) (by simp [kindOf])
    have e2 : u 2 = _ := endE_get hE 2 (by decide) (by simp [kindOf])
    have e3 : u 3 = _ := endE_get hE 3 (by decide) (by simp [kindOf])
    have e4 : u 4 = _ := endE_get hE 4 (by decide) (by simp [kindOf])
    have e5 : u 5 = _ := endE_get hE 5 (by decide) (by simp [kindOf])
    have e8 : u 8 = _ := endE_get hE 8 (by decide) (by simp [kindOf])
    have e9 : u 9 = _ := endE_get hE 9 (by decide) (by simp [kindOf])
    obtain ⟨⟨V0, pv0, lv0, qv0⟩, ⟨nq01, -⟩, ⟨⟨V1, pv1, lv1, qv1⟩, -, -⟩⟩ := hV
    replace qv0 : w5.heap[V0]? = some (.cells (u 8).cells 25) := qv0
    rw [e8] at qv0
    replace pv0 : u 6 = .pointer (some ⟨V0, 0, none⟩) := pv0
    obtain ⟨mV00, mV01, mfV0, msV0⟩ := cells_at2 qv0
    have HQV0 := Lib.hid qv0
    clear qv0
    replace qv1 : w5.heap[V1]? = some (.cells (u 9).cells 25) := qv1
    rw [e9] at qv1
    replace pv1 : u 7 = .pointer (some ⟨V1, 0, none⟩) := pv1
    obtain ⟨mV10, mV11, mfV1, msV1⟩ := cells_at2 qv1
    have HQV1 := Lib.hid qv1
    clear qv1
    have dV0V1 : V0 ≠ V1 := fun e => nq01 (by show u _ = u _; rw [pv0, pv1, e])
    clear nq01
    (try simp only [World.size_alloc, World.size_setCell] at lv0)
    have dV0w50 : V0 ≠ w.heap.size := by omega
    (try have lbV0 : w2.heap.size ≤ V0 := by omega)
    clear lv0
    (try simp only [World.size_alloc, World.size_setCell] at lv1)
    have dV1w50 : V1 ≠ w.heap.size := by omega
    (try have lbV1 : w2.heap.size ≤ V1 := by omega)
    clear lv1
    simp only [List.drop_succ_cons, List.drop_zero, List.take_succ_cons, List.take_zero, fillL, Act.put, List.setIfInBounds_toArray, List.set_cons_zero, List.set_cons_succ, e0, e1, e2, e3, e4, e5, e8, e9, pv0, pv1]
    clear e0 e1 e2 e3 e4 e5 e8 e9 pv0 pv1 hE
    have HBWw5 := Lib.hid hb
    have hw5 := below_step (w := w2) (by first | assumption | go_grown) hb
    have hzw5 := hb.size
    (try simp only [World.size_alloc, World.size_setCell] at hzw5)
    have hzw50 : w.heap.size < w5.heap.size := by omega
    have HHw5 := Lib.hid hb.block
    obtain ⟨hcw5, hfw5⟩ := bcell hb
    clear hb hzw5
    have hB5 : Below w.heap.size w w5 := below_step hBw2 hw5
    have hM5 : w5.cell? ⟨w.heap.size, 1, none⟩ = some (.slice of' nf cf) := (hcw5 w.heap.size 1 zmw2).trans m1w2
    have HV0 : Hid (w5.heap[V0]? = some (.cells #[.slice op np cp, .slice none 0 0] 25)) := HQV0.out
    have HV1 : Hid (w5.heap[V1]? = some (.cells #[.slice op np cp, .slice none 0 0] 25)) := HQV1.out
    have zV0 : V0 < w5.heap.size := msV0
    have zV1 : V1 < w5.heap.size := msV1
    have zmw5 : w.heap.size < w5.heap.size := by omega
    have bV0 : w2.heap.size ≤ V0 := lbV0
    have bV1 : w2.heap.size ≤ V1 := lbV1
    have dV := dV0V1
    clear hcw5 hfw5 HBWw5 HHw5 HQV0 HQV1 mV00 mV01 mV10 mV11 mfV0 mfV1 msV0 msV1 lbV0 lbV1 dV0V1
    go_wp2
    go_loopw [7] (fun i wr => ∃ (j n2 : Nat) (ox oy : Option Addr) (cx cy : Nat), j ≤ nf ∧ i = .int .i64 j ∧ Hid (n2 = if j ≤ q then j else j - 1) ∧ Hid (wr.heap[V0]? = some (.cells #[.slice op np cp, .slice ox j cx] 25)) ∧ Hid (wr.heap[V1]? = some (.cells #[.slice op np cp, .slice oy n2 cy] 25)) ∧ Hid (wr.ownsRow w5.heap.size 56 3 (.slice ox j cx) j (flV RF j)) ∧ Hid (wr.ownsRow w5.heap.size 56 3 (.slice oy n2 cy) n2 (flV DF n2)) ∧ Hid (∀ g, (Value.slice ox j cx).ownBlock = some g → (Value.slice oy n2 cy).ownBlock ≠ some g) ∧ w5.heap.size ≤ wr.heap.size ∧ Below w2.heap.size w2 wr) (fun i _ => nf - (intOf i).toNat)
    case atStart => exact ⟨0, 0, none, none, 0, 0, by omega, rfl, by show _ = _; rw [if_pos (by omega)], HV0, HV1, World.ownsRow_nil _ _ _ _, World.ownsRow_nil _ _ _ _, fun g h => (by cases h), Nat.le_refl _, hw5⟩
    case round =>
      clear HV0 HV1 hM5 hB5
      obtain ⟨w4, rfl⟩ : ∃ x : World, x = wr := ⟨_, rfl⟩
      obtain ⟨j, n2, ox, oy, cx, cy, hj, rfl, HN2, HV0, HV1, HX, HY, HD, hz54, hB24⟩ := hrel
      have HB24 := Lib.hid hB24
      have hBw4 : Below w.heap.size w w4 := below_step hBw2 hB24
      have m1w4 : w4.cell? ⟨w.heap.size, 1, none⟩ = some (.slice of' nf cf) := (hB24.cell (p := ⟨_, _, none⟩) zmw2).trans m1w2
      have zmw4 : w.heap.size < w4.heap.size := by omega
      obtain ⟨x0w4, x1w4, xf4, xs4⟩ := cells_at2 HV0.out
      have hn2j : n2 ≤ j := by have h : n2 = _ := HN2.out; rw [h]; split <;> omega
      by_cases hlt : j < nf
      · obtain ⟨b1, f1, rfl, hbl1, hcl1⟩ := HEL.out j hlt
        have c0 : w4.cell? ⟨b1, f1 + j * 3, none⟩ = some (.int .i64 (F j).1) := (hBw4.cell (p := ⟨_, _, none⟩) hbl1).trans (hcl1 j hlt).1
        have c1 : w4.cell? ⟨b1, f1 + j * 3 + 1, none⟩ = some (.int .i64 (F j).2.1) := (hBw4.cell (p := ⟨_, _, none⟩) hbl1).trans (hcl1 j hlt).2.1
        have c2 : w4.cell? ⟨b1, f1 + j * 3 + 2, none⟩ = some (.int .i64 (F j).2.2) := (hBw4.cell (p := ⟨_, _, none⟩) hbl1).trans (hcl1 j hlt).2.2
        have hbr : b1 < w4.heap.size := by have := hBw4.size; omega
        have k0 : (0 : Int) ≤ (j : Int) := by omega
        have k1 : (j : Int) < (nf : Int) := by omega
        clear hcl1
        obtain ⟨i0, hi0, hz00, hz01, hz02⟩ := infoR_parts info_i3
        have hu0 : Try.prog.underlying 23 = some (.slice 56) := Try.underlying23
        obtain ⟨x, hx⟩ : ∃ x, (F j).1 = x := ⟨_, rfl⟩
        obtain ⟨y, hy⟩ : ∃ y, (F j).2.1 = y := ⟨_, rfl⟩
        obtain ⟨z, hz⟩ : ∃ z, (F j).2.2 = z := ⟨_, rfl⟩
        have HFR : Hid (flV RF j ++ [.int .i64 x, .int .i64 z, .int .i64 y] = flV RF (j + 1)) := by show _ = _; rw [flV, ← HRF.out]; dsimp only [revF]; rw [hx, hy, hz]
        have HFJ : Hid (F j = (x, y, z)) := by show _ = _; rw [← hx, ← hy, ← hz]
        rw [hx] at c0
        rw [hy] at c1
        rw [hz] at c2
        clear hx hy hz
        go_wp2_with (at_builtin; refine wpList_append2 rfl _ _ 23 rfl (w5.heap.size) 56 i0 _ 3 24 hu0 hi0 hz00 hz01 hz02 rfl (by decide) _ (j) (flV RF j) rfl (owns_on HX.out (by go_grown)) (some ⟨w4.heap.size + 1, 0, none⟩) 1 1 [.int .i64 x, .int .i64 z, .int .i64 y] rfl rfl (fun h => by cases h) ?d2 (ints3_one _ _ _) (by unfold maxLen; omega) (by omega) ?d6 ?_)
        case d2 => exact row3_cells (heapA_at _ _ _ (by simp))
        case d6 => simp <;> omega
        intro v' w6 hown hgrow hnew
        have hnb : ∀ b, b < w5.heap.size → some b ≠ (Value.slice ox j cx).ownBlock := fun b hb => owns_low HX.out hb
        have hs6 := hgrow.size
        simp only [World.size_alloc] at hs6
        have hB26 : Below w2.heap.size w2 w6 := Below.grown (by go_grown) hgrow (by simp <;> omega) (fun g hg => by
          rcases Nat.lt_or_ge g w5.heap.size with h' | h'
          · exact absurd hg.symm (hnb _ h')
          · omega)
        have HV06 : Hid (w6.heap[V0]? = some (.cells #[.slice op np cp, .slice ox j cx] 25)) := (hgrow.block _ (by simp <;> omega) (hnb _ zV0)).trans ((heapA_old _ _ _ (by simp <;> omega)).trans ((heapA_old _ _ _ (by omega)).trans HV0.out))
        have HV16 : Hid (w6.heap[V1]? = some (.cells #[.slice op np cp, .slice oy n2 cy] 25)) := (hgrow.block _ (by simp <;> omega) (hnb _ zV1)).trans ((heapA_old _ _ _ (by simp <;> omega)).trans ((heapA_old _ _ _ (by omega)).trans HV1.out))
        have hfb : some w4.heap.size ≠ (Value.slice ox j cx).ownBlock := fun e => by have := (HX.out.lt _ e.symm).2; omega
        have HF6 : Hid (w6.heap[w4.heap.size]? = some (.cells #[.int .i64 x, .int .i64 y, .int .i64 z] 56)) := (hgrow.block _ (by simp <;> omega) hfb).trans ((heapA_old _ _ _ (by simp)).trans (heapA_at _ _ _ rfl))
        have HY6 : Hid (w6.ownsRow w5.heap.size 56 3 (.slice oy n2 cy) n2 (flV DF n2)) := owns_kept HY.out (by omega) (fun g hg => by
          have hlt := (HY.out.lt g hg).2
          exact (hgrow.block g (by simp <;> omega) (fun e => HD.out g e.symm hg)).trans ((heapA_old _ _ _ (by simp <;> omega)).trans (heapA_old _ _ _ hlt)))
        have hown := HFR.out ▸ hown
        obtain ⟨ox', cx', rfl, -, -, -⟩ := (owns_R (F := RF) hown).form
        have HOX := Lib.hid hown
        have HD6 : Hid (∀ g, (Value.slice ox' (j + 1) cx').ownBlock = some g → (Value.slice oy n2 cy).ownBlock ≠ some g) := fun g hg he => by
          have hlt := (HY.out.lt g he).2
          rcases hnew g hg with h' | h'
          · (try simp only [World.size_alloc] at h'); omega
          · exact HD.out g h' he
        have m1w6 : w6.cell? ⟨w.heap.size, 1, none⟩ = some (.slice (some ⟨b1, f1, none⟩) nf cf) := (hB26.cell (p := ⟨_, _, none⟩) zmw2).trans m1w2
        obtain ⟨x0w6, x1w6, xf6, xs6⟩ := cells_at2 HV06.out
        obtain ⟨y0w6, y1w6, yf6, ys6⟩ := cells_at2 HV16.out
        obtain ⟨f0w6, f1w6, f2w6, ff6, fs6⟩ := cells_at3 HF6.out
        have HB26 := Lib.hid hB26
        have zmw6 : w.heap.size < w6.heap.size := by omega
        have hVf : V0 ≠ w4.heap.size := by omega
        have hVf' : w4.heap.size ≠ V0 := by omega
        have hVm : w.heap.size ≠ V0 := by omega
        have hV01 : V1 ≠ V0 := fun e => dV e.symm
        have HNX : Hid (∀ b, b < w5.heap.size → some b ≠ (Value.slice ox' (j + 1) cx').ownBlock) := fun b hb => owns_low HOX.out hb
        have HNY : Hid (∀ b, b < w5.heap.size → some b ≠ (Value.slice oy n2 cy).ownBlock) := fun b hb => owns_low HY.out hb
        clear hown hgrow hnew hnb hfb hB26 x0w4 x1w4 xf4 xs4 c0 c1 c2 m1w4
        by_cases hjq : j = q
        · have kj : ((j : Int) == (q : Int)) = true := beq_iff_eq.2 (by omega)
          have kj2 : ((j : Int) != (q : Int)) = false := by rw [bne, kj]; rfl
          have HN3 : Hid (n2 = if j + 1 ≤ q then j + 1 else j + 1 - 1) := by
            have h : n2 = _ := HN2.out
            show _ = _
            rw [h, if_pos (by omega), if_neg (by omega)]
            rfl
          clear hjq
          go_wp2
          go_roundw
          case rel =>
            refine ⟨j + 1, n2, ox', oy, cx', cy, by omega, by go_num, HN3, ?_, ?_, owns_kept HOX.out (by simp) (fun g hg => heapS_other _ _ _ _ _ (fun e => HNX.out g (by omega) hg.symm)), owns_kept HY6.out (by simp) (fun g hg => heapS_other _ _ _ _ _ (fun e => HNY.out g (by omega) hg.symm)), HD6, by simp <;> omega, by have h := HB26.out; go_grown⟩
            · show _ = _
              rw [heapS_same, HV06.out]
              rfl
            · exact (heapS_other _ _ _ _ _ hV01).trans HV16.out
          case measure => simp [intOf]; omega
        · have kj : ((j : Int) == (q : Int)) = false := by simp; omega
          have kj2 : ((j : Int) != (q : Int)) = true := by simp; omega
          have HFD : Hid (flV DF n2 ++ [.int .i64 x, .int .i64 y, .int .i64 z] = flV DF (n2 + 1)) := by
            show _ = _
            rw [flV, ← HDF.out, dropF_at HN2.out hjq, HFJ.out]
          have HN3 : Hid (n2 + 1 = if j + 1 ≤ q then j + 1 else j + 1 - 1) := by
            have h : n2 = _ := HN2.out
            show _ = _
            rw [h]
            split <;> split <;> omega
          clear hjq
          go_wp2_with (at_builtin; refine wpList_append2 rfl _ _ 23 rfl (w5.heap.size) 56 i0 _ 3 24 hu0 hi0 hz00 hz01 hz02 rfl (by decide) _ (n2) (flV DF n2) rfl (owns_kept HY6.out (by simp) (fun g hg => by have hlt := (HY6.out.lt g hg).2; rw [heapA_old _ _ _ (by simp <;> omega), heapS_other _ _ _ _ _ (fun e => HNY.out g (by omega) hg.symm)])) (some ⟨w6.heap.size, 0, none⟩) 1 1 [.int .i64 x, .int .i64 y, .int .i64 z] rfl rfl (fun h => by cases h) ?d2 (ints3_one _ _ _) (by unfold maxLen; omega) (by omega) ?d6 ?_)
          case d2 => exact row3_cells (heapA_at _ _ _ (by simp))
          case d6 => simp <;> omega
          intro v2 w7 hown hgrow hnew
          have hs7 := hgrow.size
          simp only [World.size_alloc, World.size_setCell] at hs7
          have hnb : ∀ b, b < w5.heap.size → some b ≠ (Value.slice oy n2 cy).ownBlock := HNY.out
          have hB6s : Below w2.heap.size w2 w7 := Below.grown (by have h := HB26.out; go_grown) hgrow (by simp <;> omega) (fun g hg => by
            rcases Nat.lt_or_ge g w5.heap.size with h' | h'
            · exact absurd hg.symm (hnb _ h')
            · omega)
          have HV07 : Hid (w7.heap[V0]? = some (.cells #[.slice op np cp, .slice ox' (j + 1) cx'] 25)) := by
            show _ = _
            rw [hgrow.block _ (by simp <;> omega) (hnb _ zV0), heapA_old _ _ _ (by simp <;> omega), heapS_same, HV06.out]
            rfl
          have HV17 : Hid (w7.heap[V1]? = some (.cells #[.slice op np cp, .slice oy n2 cy] 25)) := by
            show _ = _
            rw [hgrow.block _ (by simp <;> omega) (hnb _ zV1), heapA_old _ _ _ (by simp <;> omega), heapS_other _ _ _ _ _ hV01, HV16.out]
          have HX7 : Hid (w7.ownsRow w5.heap.size 56 3 (.slice ox' (j + 1) cx') (j + 1) (flV RF (j + 1))) := owns_kept HOX.out (by omega) (fun g hg => by
            have hlt := (HOX.out.lt g hg).2
            rw [hgrow.block g (by simp <;> omega) (fun e => HD6.out g hg e.symm), heapA_old _ _ _ (by simp <;> omega), heapS_other _ _ _ _ _ (fun e => HNX.out g (by omega) hg.symm)])
          have hown := HFD.out ▸ hown
          obtain ⟨oy', cy', rfl, -, -, -⟩ := (owns_R (F := DF) hown).form
          have HOY := Lib.hid hown
          have HD7 : Hid (∀ g, (Value.slice ox' (j + 1) cx').ownBlock = some g → (Value.slice oy' (n2 + 1) cy').ownBlock ≠ some g) := fun g hg he => by
            have hlt := (HOX.out.lt g hg).2
            rcases hnew g he with h' | h'
            · (try simp only [World.size_alloc, World.size_setCell] at h'); omega
            · exact HD6.out g hg h'
          have HNY2 : Hid (∀ b, b < w5.heap.size → some b ≠ (Value.slice oy' (n2 + 1) cy').ownBlock) := fun b hb => owns_low HOY.out hb
          obtain ⟨y0w7, y1w7, yf7, ys7⟩ := cells_at2 HV17.out
          have HB27 := Lib.hid hB6s
          clear hown hgrow hnew hnb hB6s x0w6 x1w6 xf6 y0w6 y1w6 yf6 f0w6 f1w6 f2w6 ff6 m1w6
          go_wp2
          go_roundw
          case rel =>
            refine ⟨j + 1, n2 + 1, ox', oy', cx', cy', by omega, by go_num, HN3, (heapS_other _ _ _ _ _ dV).trans HV07.out, ?_, owns_kept HX7.out (by simp) (fun g hg => heapS_other _ _ _ _ _ (fun e => HNX.out g (by omega) hg.symm)), owns_kept HOY.out (by simp) (fun g hg => heapS_other _ _ _ _ _ (fun e => HNY2.out g (by omega) hg.symm)), HD7, by simp <;> omega, by have h := HB27.out; go_grown⟩
            show _ = _
            rw [heapS_same, HV17.out]
            rfl
          case measure => simp [intOf]; omega
      · obtain rfl : j = nf := by omega
        have hn2e : n2 = j - 1 := by have h : n2 = _ := HN2.out; rw [h, if_neg (by omega)]
        obtain ⟨y0w4, y1w4, yf4, ys4⟩ := cells_at2 HV1.out
        have HP4 := Lib.hid (HG1.out.below hBw4)
        have HC1 : Hid (∀ W, Below w4.heap.size w4 W → Calls Try.prog 13 #[.agg #[.slice op np cp, .slice ox j cx]] W fun e w' => e = .returned (.int .i64 17) ∧ Below W.heap.size W w') := fun W hW => by
          have h := Check_any (.agg #[.slice op np cp, .slice ox j cx]) np j P RF W ⟨_, _, rfl, HP4.out.below hW, (owns_R HX.out).below hW⟩
          rw [← HRF.out, check_rev HG.out] at h
          exact h
        have HC2 : Hid (∀ W, Below w4.heap.size w4 W → Calls Try.prog 13 #[.agg #[.slice op np cp, .slice oy n2 cy]] W fun e w' => e = .returned (.int .i64 17) ∧ Below W.heap.size W w') := fun W hW => by
          have h := Check_any (.agg #[.slice op np cp, .slice oy n2 cy]) np n2 P DF W ⟨_, _, rfl, HP4.out.below hW, (owns_R HY.out).below hW⟩
          rw [← HDF.out, hn2e, check_drop HG.out hqn] at h
          exact hn2e ▸ h
        clear hn2e hn2j
        go_wp2_with fail
        (go_at_call 13; refine (HC1.out _ (Below.refl _ _)).mono ?_; rintro e_ w6 ⟨rfl, hb⟩)
        have y0w6 : w6.cell? ⟨V1, 0, none⟩ = some (.slice op np cp) := (hb.cell (p := ⟨_, _, none⟩) ys4).trans y0w4
        have y1w6 : w6.cell? ⟨V1, 1, none⟩ = some (.slice oy n2 cy) := (hb.cell (p := ⟨_, _, none⟩) ys4).trans y1w4
        have ys6 : V1 < w6.heap.size := by have := hb.size; omega
        have HB46 := Lib.hid hb
        clear hb y0w4 y1w4 yf4 x0w4 x1w4 xf4
        go_wp2_with fail
        (go_at_call 13; refine (HC2.out _ HB46.out).mono ?_; rintro e_ w7 ⟨rfl, hb⟩)
        have HB47 := Lib.hid (below_step HB46.out hb)
        clear hb y0w6 y1w6
        go_wp2_with fail
        (go_at_call 12; refine (awake_any _).mono ?_; rintro e_ w8 ⟨rfl, hb⟩)
        have HB48 := Lib.hid (below_step HB47.out hb)
        clear hb
        go_wp2
        go_returns
        exact ⟨rfl, below_step hBw4 HB48.out⟩
  · have kE : (E == 0) = false := by simpa using h0
    have kE2 : (E != 0) = true := by simpa using h0
    clear h0
    go_enter Try.func10, Try.ntmps10
    go_wp2_with fail
    (go_at_call 11; refine (light_any _ np nf P F _ (HM.out.below (by first | assumption | go_grown))).mono ?_; rintro e_ w1 ⟨rfl, hb⟩)
    have hsw1 := hb.size
    (try simp only [World.size_alloc, World.size_setCell] at hsw1)
    have zzw1 : w.heap.size < w1.heap.size := by omega
    have hPw1 : Below w.heap.size w w1 := below_step (w := w) (by first | exact Below.refl _ _ | go_grown) hb
    have zmw1 : w.heap.size < w1.heap.size := by omega
    have m0w1 : w1.cell? ⟨w.heap.size, 0, none⟩ = some (.slice op np cp) := (hb.cell (p := ⟨_, _, none⟩) (by simp <;> omega)).trans (by simp [go_sem])
    have m1w1 : w1.cell? ⟨w.heap.size, 1, none⟩ = some (.slice of' nf cf) := (hb.cell (p := ⟨_, _, none⟩) (by simp <;> omega)).trans (by simp [go_sem])
    have hBw1 : Below w.heap.size w w1 := below_step (w := w) (by first | assumption | go_grown) hb
    rw [HLB.out]
    clear hb hsw1 hPw1
    go_wp2_with fail
    (go_at_call 13; refine (HCK.out _ (HM.out.below (by first | assumption | go_grown))).mono ?_; rintro e_ w2 ⟨rfl, hb⟩)
    have hsw2 := hb.size
    (try simp only [World.size_alloc, World.size_setCell] at hsw2)
    have zzw2 : w.heap.size < w2.heap.size := by omega
    have hPw2 : Below w1.heap.size w1 w2 := below_step (w := w1) (by first | exact Below.refl _ _ | go_grown) hb
    have zmw2 : w.heap.size < w2.heap.size := by omega
    have m0w2 : w2.cell? ⟨w.heap.size, 0, none⟩ = some (.slice op np cp) := (hPw2.cell (p := ⟨_, _, none⟩) zmw1).trans m0w1
    have m1w2 : w2.cell? ⟨w.heap.size, 1, none⟩ = some (.slice of' nf cf) := (hPw2.cell (p := ⟨_, _, none⟩) zmw1).trans m1w1
    have hBw2 : Below w.heap.size w w2 := below_step (w := w) (by first | assumption | go_grown) hb
    clear hb hsw2 hPw2
    clear zmw1 m0w1 m1w1
    go_wp2_with fail
    (go_at_call 12; refine (awake_any _).mono ?_; rintro e_ w3 ⟨rfl, hb⟩)
    have hBz : Below w.heap.size w w3 := below_step (w := w) (by first | assumption | go_grown) hb
    go_wp2
    go_returns
    exact ⟨rfl, hBz⟩

set_option maxRecDepth 100000 in
theorem meshReversed_contract (H : Type) (enc : TypeId × Value → H) (W : World) (base : Nat) (args : Array Value) (ds gs : List (DataW H)) (before : List MemPlace)
    (hval : ∀ (j : Nat) t v, Try.f10.params[j]? = some t → args[j]? = some v → Value.okWide Try.prog W .any base t v)
    (hW : DataW.Whole enc Try.prog Try.f10.params.toList Rows.meshReversedSpec.vars false W args.toList ds gs before) (hL : laidMetH Try.prog Rows.meshReversedRow.laid W) (hSh : W.ShapedOpen Try.prog) :
    Calls Try.prog 10 args W fun e W' => ∃ v, e = .returned v ∧ Rows.meshReversedSpec.post enc Try.prog Try.f10 false true false false W args v W' := by
  have hW' := hW
  obtain ⟨p, q, hA0, hV, rfl, hfz, hnd⟩ := hW
  have hA : DataW.TrodAll enc Try.prog W 0 (fun _ => true) true Try.f10.params.toList args.toList ds p := hA0
  rw [Try.params10] at hA hval
  obtain ⟨v0, vs0, d0, ds0, p0, q0, hargs, rfl, rfl, h0, r0⟩ := trodAll_cons hA
  obtain ⟨v1, vs1, d1, ds1, p1, q1, rfl, rfl, rfl, h1, r1⟩ := trodAll_cons r0
  obtain ⟨rfl, rfl, rfl⟩ := trodAll_nil r1
  obtain rfl : args = #[v0, v1] := by cases args; simp_all
  obtain ⟨np, P, nf, F, hm⟩ := mesh_arg (hval 0 25 v0 rfl rfl) h0
  obtain ⟨kk, rfl, rfl, rfl, _w1⟩ := open_int Try.underlying52 (hval 1 52 v1 rfl rfl) h1
  refine (meshReversed_walk _ np nf P F kk W hm (by simpa [Lit.wf, IntKind.min, IntKind.max, IntKind.signed, IntKind.bits] using _w1)).mono fun e W' ⟨he, hb⟩ => ?_
  subst he
  exact ⟨_, rfl, law_post laidOut (by kernel_rfl) (by kernel_rfl) Try.underlying4 rfl hW' (fun _ => rfl) hb⟩
theorem meshReversed_reads (os : Os) {H : Type} (enc : TypeId × Value → H) : ∃ places, DataW.whole enc Try.prog ((World.settled Try.prog os).forCall (fun _ _ => 0) ⟨#[], #[.agg #[.slice none 0 0, .slice none 0 0], .int .u16 0], []⟩).memory Try.f10.params.toList Rows.meshReversedSpec.vars false (#[.agg #[.slice none 0 0, .slice none 0 0], .int .u16 0] : Array Value).toList 8 = some ([.agg [.nil, .nil], .lit (.int .u16 0)], [], places) := ⟨[], by kernel_rfl⟩
set_option maxRecDepth 100000 in
theorem meshReversed_lifted (os : Os) (started : os.Started) (H : Type) (enc : TypeId × Value → H) (F : Stop.Interp) :
    ReturnsInHanded {} Try.checked os 10 .any ((OpenSpec.ofChange Rows.meshReversedSpec).preRow enc Try.prog Try.f10 Rows.meshReversedRow.domain false Rows.meshReversedRow.laid) (((OpenSpec.ofChange Rows.meshReversedSpec).at F).post enc Try.prog Try.f10 false true false false) := by
  obtain ⟨places, hx⟩ := meshReversed_reads os enc
  refine returnsInHanded_of_row (C := Try.checked) (s := OpenSpec.ofChange Rows.meshReversedSpec) own started (by kernel_rfl) Try.func10
    (witness_row_at (enc := enc) (C := Try.checked) false (World.settled Try.prog os) #[.agg #[.slice none 0 0, .slice none 0 0], .int .u16 0] rfl (by kernel_rfl) (by kernel_rfl) (by kernel_rfl)
      (OpenSpec.preRow_of_cond 8 hx (by kernel_rfl) (fun k hk => by cases hk) (by kernel_rfl) (laidMet_nil _ _))) ?_
  intro W base args ds gs before hval hW _ _ _ hL hSh _
  exact meshReversed_contract H enc W base args ds gs before hval hW hL hSh
theorem meshReversed_said : Rows.MeshReversedSaid :=
  OpenClaim.holds_of_cond 10 Try.f10 rfl rfl rfl rfl rfl rfl rfl ⟨rfl, rfl, rfl, rfl, rfl⟩ rfl rfl rfl rfl rfl (by kernel_rfl) Try.func10 (by kernel_rfl)
    (of_decide_eq_true (by kernel_rfl)) (by unfold Func.isWrapper; rw [if_neg (of_decide_eq_false (by kernel_rfl))]; exact ⟨rfl, rfl⟩)
    (fun os started H enc _ F => by rw [OpenClaim.pre_eq_preRow]; exact meshReversed_lifted os started H enc F)
#print axioms meshReversed_said
end Go.Proofs.Ytpjdmjmgkdgfnaa
