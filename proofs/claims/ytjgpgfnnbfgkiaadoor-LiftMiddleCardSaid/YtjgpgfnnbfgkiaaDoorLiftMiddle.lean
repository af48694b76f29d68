/-
  Two hooks at the same distance from the centre carry the same load, half of the gross mass. Conditions: none (the card ties the two tables of unicode/utf8 to the program's text). By an AI agent.
-/
import Derived.Test.YtjgpgfnnbfgkiaaDoorLiftR
import Derived.Test.YtjgpgfnnbfgkiaaDoorLiftQ
import Derived.Test.YtjgpgfnnbfgkiaaDoorSeq
namespace Go.Proofs.YtjgpgfnnbfgkiaaDoor
open Go Go.ChangeShapes Go.WideShapes Go.RowKit Go.ChangeAt
set_option linter.unusedSimpArgs false
set_option linter.unusedVariables false
set_option maxRecDepth 20000 in
set_option maxHeartbeats 8000000 in
theorem liftMiddle_walk (m x y z v d : Int) (al : Bool) (w : World) (hm : MaxLenIs w) (hd : 0 ≤ d ∧ d ≤ 65535) : Calls Tryd.prog 9 #[.agg #[.int .i64 m, .int .i64 x, .int .i64 y, .int .i64 z, .int .i64 v], .int .u16 d, .bool al] w fun e w' => e = .returned (.bool true) ∧ Below w.heap.size w w' := by
  have HM := Lib.hid hm
  clear hm
  obtain ⟨D, hD⟩ : ∃ D, divF m x y z v = D := ⟨_, rfl⟩
  by_cases hd0 : D = 0
  · subst hd0
    obtain ⟨hwok, hm0⟩ := div_zero hD
    obtain ⟨CX, hCX⟩ : ∃ X, roundF x m = X := ⟨_, rfl⟩
    obtain ⟨CY, hCY⟩ : ∃ X, roundF y m = X := ⟨_, rfl⟩
    obtain ⟨CZ, hCZ⟩ : ∃ X, roundF z m = X := ⟨_, rfl⟩
    have hV : roundedV m x y z v = .tuple #[.agg #[.int .i64 CX, .int .i64 CY, .int .i64 CZ], .int .i64 0] := by
      unfold roundedV
      rw [if_pos hD, if_pos hD, if_pos hD, hD, hCX, hCY, hCZ]
    have HV := Lib.hid hV
    have hGE : (grossF m x y z v).2 = 0 := by unfold grossF; rw [if_pos hwok, if_neg (by omega)]
    clear hV hD
    by_cases hin : -262144 ≤ CX ∧ CX ≤ 262144 ∧ -262144 ≤ CY ∧ CY ≤ 262144
    · obtain ⟨g0, g1, g2, g3⟩ := hin
      have hN0 : 1 ≤ 1 + d := by omega
      have hN1 : 1 + d ≤ 65536 := by omega
      obtain ⟨G, GE, hG⟩ : ∃ G GE, grossF m x y z v = (G, GE) := ⟨_, _, rfl⟩
      have hmid := loads_mid (along := al) hGE (by rw [hCX]; exact ⟨g0, g1⟩) (by rw [hCY]; exact ⟨g2, g3⟩) ⟨hN0, hN1⟩
      obtain ⟨gf0, gf1, -⟩ := gross_facts hGE
      rw [hG, hCX, hCY] at hmid
      rw [hG] at hGE gf0 gf1
      have hGE : GE = 0 := hGE
      subst hGE
      have gf0 : 0 ≤ G := gf0
      have gf1 : G ≤ 4611686018427387 := gf1
      have HMID := Lib.hid hmid
      have HG := Lib.hid hG
      have w1' : IntKind.i64.wrap (CX - (1 + d)) = CX - (1 + d) := IntWalk.i64_in _ (by omega)
      have w2' : IntKind.i64.wrap (CX + (1 + d)) = CX + (1 + d) := IntWalk.i64_in _ (by omega)
      have w3' : IntKind.i64.wrap (CY - (1 + d)) = CY - (1 + d) := IntWalk.i64_in _ (by omega)
      have w4' : IntKind.i64.wrap (CY + (1 + d)) = CY + (1 + d) := IntWalk.i64_in _ (by omega)
      have w5' : IntKind.i64.wrap (1 + d) = 1 + d := IntWalk.i64_in _ (by omega)
      have w6' : IntKind.i64.wrap d = d := IntWalk.i64_in _ (by omega)
      clear hmid hG hCX hCY hCZ hwok
      go_enter Tryd.func9, Tryd.ntmps9
      go_wp2_with fail
      (go_at_call 25; refine (rounded_any _ _ _ _ _ _).mono ?_; rintro e w1 ⟨rfl, hb⟩)
      rw [HV.out]
      have hs1 := hb.size
      (try simp only [World.size_alloc, World.size_setCell] at hs1)
      have z10 : w.heap.size < w1.heap.size := by omega
      have c01 : w1.cell? ⟨w.heap.size, 0, none⟩ = some (.int .i64 m) := (hb.cell (p := ⟨_, _, none⟩) (by simp <;> omega)).trans (by simp [go_sem])
      have c11 : w1.cell? ⟨w.heap.size, 1, none⟩ = some (.int .i64 x) := (hb.cell (p := ⟨_, _, none⟩) (by simp <;> omega)).trans (by simp [go_sem])
      have c21 : w1.cell? ⟨w.heap.size, 2, none⟩ = some (.int .i64 y) := (hb.cell (p := ⟨_, _, none⟩) (by simp <;> omega)).trans (by simp [go_sem])
      have c31 : w1.cell? ⟨w.heap.size, 3, none⟩ = some (.int .i64 z) := (hb.cell (p := ⟨_, _, none⟩) (by simp <;> omega)).trans (by simp [go_sem])
      have c41 : w1.cell? ⟨w.heap.size, 4, none⟩ = some (.int .i64 v) := (hb.cell (p := ⟨_, _, none⟩) (by simp <;> omega)).trans (by simp [go_sem])
      have HB1 : Hid (Below w.heap.size w w1) := by
        show Below _ _ _
        exact below_step (w := w) (by go_grown) hb
      clear hb hs1
      have HBa : Hid (Below w.heap.size w (w1.alloc (.cells #[.int .i64 CX, .int .i64 CY, .int .i64 CZ] 57))) := HB1.out.alloc HB1.out.size _
      have hBa := HBa.out
      go_wp2_with fail
      refine wp_region_seq 18 [⟨14, 16, #[.int .i64 0, .int .i64 0], 40⟩, ⟨15, 17, #[.int .i64 0, .int .i64 0], 40⟩] [] (by kernel_rfl) (by kernel_rfl) (by kernel_rfl) (by kernel_rfl) (by kernel_rfl) ?_ ?_ ?_
      · intro r hr; cases hr
      · intro r hr; cases hr
      simp only [List.take_succ_cons, List.take_zero, fillL, Act.put, List.setIfInBounds_toArray, List.set_cons_zero, List.set_cons_succ]
      apply seq_is (by kernel_rfl)
      · intro u wx hb hd
        replace hb := hb.nil
        have hz := hb.size
        (try simp only [World.size_alloc, World.size_setCell] at hz)
        have hz0 : w.heap.size < wx.heap.size := by omega
        have hz1 : w1.heap.size < wx.heap.size := by omega
        obtain ⟨hc, hf⟩ := bcell hb
        clear hb hz
        simp [depsE, Region.binds, updE, kindOf, Prp.is, Prp.any] at hd
        go_simp
        first | exact ⟨Below.refl _ _, rfl⟩ | rfl
      apply seq_is (by kernel_rfl)
      · intro u wx hb hd
        replace hb := hb.nil
        have hz := hb.size
        (try simp only [World.size_alloc, World.size_setCell] at hz)
        have hz0 : w.heap.size < wx.heap.size := by omega
        have hz1 : w1.heap.size < wx.heap.size := by omega
        obtain ⟨hc, hf⟩ := bcell hb
        clear hb hz
        simp [depsE, Region.binds, updE, kindOf, Prp.is, Prp.any] at hd
        go_simp
        first | exact ⟨Below.refl _ _, rfl⟩ | rfl
      apply seq_is (by kernel_rfl)
      · intro u wx hb hd
        replace hb := hb.nil
        have hz := hb.size
        (try simp only [World.size_alloc, World.size_setCell] at hz)
        have hz0 : w.heap.size < wx.heap.size := by omega
        have hz1 : w1.heap.size < wx.heap.size := by omega
        obtain ⟨hc, hf⟩ := bcell hb
        clear hb hz
        simp [depsE, Region.binds, updE, kindOf, Prp.is, Prp.any] at hd
        go_simp
        first | exact ⟨Below.refl _ _, rfl⟩ | rfl
      apply seq_is (by kernel_rfl)
      · intro u wx hb hd
        replace hb := hb.nil
        have hz := hb.size
        (try simp only [World.size_alloc, World.size_setCell] at hz)
        have hz0 : w.heap.size < wx.heap.size := by omega
        have hz1 : w1.heap.size < wx.heap.size := by omega
        obtain ⟨hc, hf⟩ := bcell hb
        clear hb hz
        simp [depsE, Region.binds, updE, kindOf, Prp.is, Prp.any] at hd
        go_simp
        first | exact ⟨Below.refl _ _, rfl⟩ | rfl
      apply seq_is (by kernel_rfl)
      · intro u wx hb hd
        replace hb := hb.nil
        have hz := hb.size
        (try simp only [World.size_alloc, World.size_setCell] at hz)
        have hz0 : w.heap.size < wx.heap.size := by omega
        have hz1 : w1.heap.size < wx.heap.size := by omega
        obtain ⟨hc, hf⟩ := bcell hb
        clear hb hz
        simp [depsE, Region.binds, updE, kindOf, Prp.is, Prp.any] at hd
        go_simp
        first | exact ⟨Below.refl _ _, rfl⟩ | rfl
      apply seq_is (by kernel_rfl)
      · intro u wx hb hd
        replace hb := hb.nil
        have hz := hb.size
        (try simp only [World.size_alloc, World.size_setCell] at hz)
        have hz0 : w.heap.size < wx.heap.size := by omega
        have hz1 : w1.heap.size < wx.heap.size := by omega
        obtain ⟨hc, hf⟩ := bcell hb
        clear hb hz
        simp [depsE, Region.binds, updE, kindOf, Prp.is, Prp.any] at hd
        go_simp
        first | exact ⟨Below.refl _ _, rfl⟩ | rfl
      apply seq_is (by kernel_rfl)
      · intro u wx hb hd
        replace hb := hb.nil
        have hz := hb.size
        (try simp only [World.size_alloc, World.size_setCell] at hz)
        have hz0 : w.heap.size < wx.heap.size := by omega
        have hz1 : w1.heap.size < wx.heap.size := by omega
        obtain ⟨hc, hf⟩ := bcell hb
        clear hb hz
        simp [depsE, Region.binds, updE, kindOf, Prp.is, Prp.any] at hd
        go_simp
        first | exact ⟨Below.refl _ _, rfl⟩ | rfl
      apply seq_is (by kernel_rfl)
      · intro u wx hb hd
        replace hb := hb.nil
        have hz := hb.size
        (try simp only [World.size_alloc, World.size_setCell] at hz)
        have hz0 : w.heap.size < wx.heap.size := by omega
        have hz1 : w1.heap.size < wx.heap.size := by omega
        obtain ⟨hc, hf⟩ := bcell hb
        clear hb hz
        simp [depsE, Region.binds, updE, kindOf, Prp.is, Prp.any] at hd
        go_simp
        first | exact ⟨Below.refl _ _, rfl⟩ | rfl
      apply seq_is (by kernel_rfl)
      · intro u wx hb hd
        replace hb := hb.nil
        have hz := hb.size
        (try simp only [World.size_alloc, World.size_setCell] at hz)
        have hz0 : w.heap.size < wx.heap.size := by omega
        have hz1 : w1.heap.size < wx.heap.size := by omega
        obtain ⟨hc, hf⟩ := bcell hb
        clear hb hz
        simp [depsE, Region.binds, updE, kindOf, Prp.is, Prp.any] at hd
        go_simp
        first | exact ⟨Below.refl _ _, rfl⟩ | rfl
      apply seq_is (by kernel_rfl)
      · intro u wx hb hd
        replace hb := hb.nil
        have hz := hb.size
        (try simp only [World.size_alloc, World.size_setCell] at hz)
        have hz0 : w.heap.size < wx.heap.size := by omega
        have hz1 : w1.heap.size < wx.heap.size := by omega
        obtain ⟨hc, hf⟩ := bcell hb
        clear hb hz
        simp [depsE, Region.binds, updE, kindOf, Prp.is, Prp.any] at hd
        go_simp
        first | exact ⟨Below.refl _ _, rfl⟩ | rfl
      apply seq_is (by kernel_rfl)
      · intro u wx hb hd
        replace hb := hb.nil
        have hz := hb.size
        (try simp only [World.size_alloc, World.size_setCell] at hz)
        have hz0 : w.heap.size < wx.heap.size := by omega
        have hz1 : w1.heap.size < wx.heap.size := by omega
        obtain ⟨hc, hf⟩ := bcell hb
        clear hb hz
        simp [depsE, Region.binds, updE, kindOf, Prp.is, Prp.any] at hd
        go_simp
        first | exact ⟨Below.refl _ _, rfl⟩ | rfl
      apply seq_is (by kernel_rfl)
      · intro u wx hb hd
        replace hb := hb.nil
        have hz := hb.size
        (try simp only [World.size_alloc, World.size_setCell] at hz)
        have hz0 : w.heap.size < wx.heap.size := by omega
        have hz1 : w1.heap.size < wx.heap.size := by omega
        obtain ⟨hc, hf⟩ := bcell hb
        clear hb hz
        simp [depsE, Region.binds, updE, kindOf, Prp.is, Prp.any] at hd
        go_simp
        first | exact ⟨Below.refl _ _, rfl⟩ | rfl
      apply seq_is (by kernel_rfl)
      · intro u wx hb hd
        replace hb := hb.nil
        have hz := hb.size
        (try simp only [World.size_alloc, World.size_setCell] at hz)
        have hz0 : w.heap.size < wx.heap.size := by omega
        have hz1 : w1.heap.size < wx.heap.size := by omega
        obtain ⟨hc, hf⟩ := bcell hb
        clear hb hz
        simp [depsE, Region.binds, updE, kindOf, Prp.is, Prp.any] at hd
        go_simp
        first | exact ⟨Below.refl _ _, rfl⟩ | rfl
      apply seq_is (by kernel_rfl)
      · intro u wx hb hd
        replace hb := hb.nil
        have hz := hb.size
        (try simp only [World.size_alloc, World.size_setCell] at hz)
        have hz0 : w.heap.size < wx.heap.size := by omega
        have hz1 : w1.heap.size < wx.heap.size := by omega
        obtain ⟨hc, hf⟩ := bcell hb
        clear hb hz
        simp [depsE, Region.binds, updE, kindOf, Prp.is, Prp.any] at hd
        go_simp
        first | exact ⟨Below.refl _ _, rfl⟩ | rfl
      refine seq_var ⟨14, 16, #[.int .i64 0, .int .i64 0], 40⟩ (by simp) rfl ?_ ?_
      · intro u wx hb
        refine ⟨by simp [Region.wanted], ?_⟩
        go_simp
        first | done | rfl | exact ⟨rfl, rfl⟩
      refine seq_var ⟨15, 17, #[.int .i64 0, .int .i64 0], 40⟩ (by simp) rfl ?_ ?_
      · intro u wx hb
        refine ⟨by simp [Region.wanted], ?_⟩
        go_simp
        first | done | rfl | exact ⟨rfl, rfl⟩
      apply seq_sto_agg ⟨14, 16, #[.int .i64 0, .int .i64 0], 40⟩ (by simp) rfl (by kernel_rfl) rfl (by kernel_rfl)
      · intro u wx hb hd
        replace hb := hb.nil
        have hz := hb.size
        (try simp only [World.size_alloc, World.size_setCell] at hz)
        have hz0 : w.heap.size < wx.heap.size := by omega
        have hz1 : w1.heap.size < wx.heap.size := by omega
        obtain ⟨hc, hf⟩ := bcell hb
        clear hb hz
        simp [depsE, Region.binds, updE, kindOf, Prp.is, Prp.any] at hd
        refine ⟨by simp [Region.wanted], fun b' hub hlb hcells => ?_⟩
        have hub' : u 14 = .pointer (some ⟨b', 0, none⟩) := hub
        have hcells' : wx.heap[b']? = some (.cells #[.int .i64 0, .int .i64 0] 40) := hcells
        have hat := cells_at2 hcells'
        have HCL := Lib.hid hcells'
        clear hcells hcells' hub
        go_simp
        exact Stored.c2 HCL.out _ _
      apply seq_sto_agg ⟨15, 17, #[.int .i64 0, .int .i64 0], 40⟩ (by simp) rfl (by kernel_rfl) rfl (by kernel_rfl)
      · intro u wx hb hd
        replace hb := hb.nil
        have hz := hb.size
        (try simp only [World.size_alloc, World.size_setCell] at hz)
        have hz0 : w.heap.size < wx.heap.size := by omega
        have hz1 : w1.heap.size < wx.heap.size := by omega
        obtain ⟨hc, hf⟩ := bcell hb
        clear hb hz
        simp [depsE, Region.binds, updE, kindOf, Prp.is, Prp.any] at hd
        refine ⟨by simp [Region.wanted], fun b' hub hlb hcells => ?_⟩
        have hub' : u 15 = .pointer (some ⟨b', 0, none⟩) := hub
        have hcells' : wx.heap[b']? = some (.cells #[.int .i64 0, .int .i64 0] 40) := hcells
        have hat := cells_at2 hcells'
        have HCL := Lib.hid hcells'
        clear hcells hcells' hub
        go_simp
        exact Stored.c2 HCL.out _ _
      intro u w5 hb hE hV hP
      replace hb := hb.nil
      clear hP
      have e0 : u 0 = _ := endE_get hE 0 (by decide) (by simp [kindOf])
      have e1 : u 1 = _ := endE_get hE 1 (by decide) (by simp [kindOf])
      have e2 : u 2 = _ := endE_get hE 2 (by decide) (by simp [kindOf])
      have e3 : u 3 = _ := endE_get hE 3 (by decide) (by simp [kindOf])
      have e4 : u 4 = _ := endE_get hE 4 (by decide) (by simp [kindOf])
      have e5 : u 5 = _ := endE_get hE 5 (by decide) (by simp [kindOf])
      have e6 : u 6 = _ := endE_get hE 6 (by decide) (by simp [kindOf])
      have e7 : u 7 = _ := endE_get hE 7 (by decide) (by simp [kindOf])
      have e8 : u 8 = _ := endE_get hE 8 (by decide) (by simp [kindOf])
      have e9 : u 9 = _ := endE_get hE 9 (by decide) (by simp [kindOf])
      have e10 : u 10 = _ := endE_get hE 10 (by decide) (by simp [kindOf])
      have e11 : u 11 = _ := endE_get hE 11 (by decide) (by simp [kindOf])
      have e12 : u 12 = _ := endE_get hE 12 (by decide) (by simp [kindOf])
      have e13 : u 13 = _ := endE_get hE 13 (by decide) (by simp [kindOf])
      have e16 : u 16 = _ := endE_get hE 16 (by decide) (by simp [kindOf])
      have e17 : u 17 = _ := endE_get hE 17 (by decide) (by simp [kindOf])
      obtain ⟨⟨V0, pv0, lv0, qv0⟩, ⟨nq01, -⟩, ⟨⟨V1, pv1, lv1, qv1⟩, -, -⟩⟩ := hV
      replace qv0 : w5.heap[V0]? = some (.cells (u 16).cells 40) := qv0
      rw [e16] at qv0
      replace pv0 : u 14 = .pointer (some ⟨V0, 0, none⟩) := pv0
      obtain ⟨mV00, mV01, mfV0, msV0⟩ := cells_at2 qv0
      have HQV0 := Lib.hid qv0
      clear qv0
      replace qv1 : w5.heap[V1]? = some (.cells (u 17).cells 40) := qv1
      rw [e17] at qv1
      replace pv1 : u 15 = .pointer (some ⟨V1, 0, none⟩) := pv1
      obtain ⟨mV10, mV11, mfV1, msV1⟩ := cells_at2 qv1
      have HQV1 := Lib.hid qv1
      clear qv1
      have dV0V1 : V0 ≠ V1 := fun e => nq01 (by show u _ = u _; rw [pv0, pv1, e])
      clear nq01
      (try simp only [World.size_alloc, World.size_setCell] at lv0)
      have dV0w50 : V0 ≠ w.heap.size := by omega
      have dV0w51 : V0 ≠ w1.heap.size := by omega
      (try have lbV0 : w.heap.size ≤ V0 := by omega)
      clear lv0
      (try simp only [World.size_alloc, World.size_setCell] at lv1)
      have dV1w50 : V1 ≠ w.heap.size := by omega
      have dV1w51 : V1 ≠ w1.heap.size := by omega
      (try have lbV1 : w.heap.size ≤ V1 := by omega)
      clear lv1
      simp only [List.drop_succ_cons, List.drop_zero, List.take_succ_cons, List.take_zero, fillL, Act.put, List.setIfInBounds_toArray, List.set_cons_zero, List.set_cons_succ, e0, e1, e2, e3, e4, e5, e6, e7, e8, e9, e10, e11, e12, e13, e16, e17, pv0, pv1]
      clear e0 e1 e2 e3 e4 e5 e6 e7 e8 e9 e10 e11 e12 e13 e16 e17 pv0 pv1 hE
      have HBWw5 := Lib.hid hb
      have hw5 := below_step (w := w) (by first | assumption | go_grown) hb
      have hzw5 := hb.size
      (try simp only [World.size_alloc, World.size_setCell] at hzw5)
      have hzw50 : w.heap.size < w5.heap.size := by omega
      have hzw51 : w1.heap.size < w5.heap.size := by omega
      have HHw5 := Lib.hid hb.block
      obtain ⟨hcw5, hfw5⟩ := bcell hb
      clear hb hzw5
      have HB5 := Lib.hid hw5
      have c05 : w5.cell? ⟨w.heap.size, 0, none⟩ = some (.int .i64 m) := (hcw5 _ _ (by simp <;> omega)).trans ((World.cell?_alloc_lt _ _ _ z10).trans c01)
      have c15 : w5.cell? ⟨w.heap.size, 1, none⟩ = some (.int .i64 x) := (hcw5 _ _ (by simp <;> omega)).trans ((World.cell?_alloc_lt _ _ _ z10).trans c11)
      have c25 : w5.cell? ⟨w.heap.size, 2, none⟩ = some (.int .i64 y) := (hcw5 _ _ (by simp <;> omega)).trans ((World.cell?_alloc_lt _ _ _ z10).trans c21)
      have c35 : w5.cell? ⟨w.heap.size, 3, none⟩ = some (.int .i64 z) := (hcw5 _ _ (by simp <;> omega)).trans ((World.cell?_alloc_lt _ _ _ z10).trans c31)
      have c45 : w5.cell? ⟨w.heap.size, 4, none⟩ = some (.int .i64 v) := (hcw5 _ _ (by simp <;> omega)).trans ((World.cell?_alloc_lt _ _ _ z10).trans c41)
      have v05 : w5.cell? ⟨w1.heap.size, 0, none⟩ = some (.int .i64 CX) := (hcw5 _ _ (by simp <;> omega)).trans (by simp [go_sem])
      have v15 : w5.cell? ⟨w1.heap.size, 1, none⟩ = some (.int .i64 CY) := (hcw5 _ _ (by simp <;> omega)).trans (by simp [go_sem])
      clear hcw5 hfw5 hw5 hBa
      clear c01
      clear c11
      clear c21
      clear c31
      clear c41
      cases al
      · have HM2 : Hid (loadsF 2 (twoF (CX - (1 + d)) (CX + (1 + d))) (twoF CY CY) m x y z v = if G ≤ 1099511627776 then ([(G + 1).tdiv 2, (G + 1).tdiv 2], 0) else ([], 9)) := HMID.out
        clear HMID
        go_wp2_with fail
        (go_at_call 11; refine (gross_any _ _ _ _ _ _).mono ?_; rintro e w7 ⟨rfl, hb⟩)
        rw [HG.out]
        have hs7 := hb.size
        have z70 : w.heap.size < w7.heap.size := by omega
        have c07 : w7.cell? ⟨w.heap.size, 0, none⟩ = some (.int .i64 m) := (hb.cell (p := ⟨_, _, none⟩) (by omega)).trans c05
        have c17 : w7.cell? ⟨w.heap.size, 1, none⟩ = some (.int .i64 x) := (hb.cell (p := ⟨_, _, none⟩) (by omega)).trans c15
        have c27 : w7.cell? ⟨w.heap.size, 2, none⟩ = some (.int .i64 y) := (hb.cell (p := ⟨_, _, none⟩) (by omega)).trans c25
        have c37 : w7.cell? ⟨w.heap.size, 3, none⟩ = some (.int .i64 z) := (hb.cell (p := ⟨_, _, none⟩) (by omega)).trans c35
        have c47 : w7.cell? ⟨w.heap.size, 4, none⟩ = some (.int .i64 v) := (hb.cell (p := ⟨_, _, none⟩) (by omega)).trans c45
        have nV00 : w7.cell? ⟨V0, 0, none⟩ = some (.int .i64 (CX - (1 + d))) := (hb.cell (p := ⟨_, _, none⟩) (by omega)).trans mV00
        have nV01 : w7.cell? ⟨V0, 1, none⟩ = some (.int .i64 CY) := (hb.cell (p := ⟨_, _, none⟩) (by omega)).trans mV01
        have nV10 : w7.cell? ⟨V1, 0, none⟩ = some (.int .i64 (CX + (1 + d))) := (hb.cell (p := ⟨_, _, none⟩) (by omega)).trans mV10
        have nV11 : w7.cell? ⟨V1, 1, none⟩ = some (.int .i64 CY) := (hb.cell (p := ⟨_, _, none⟩) (by omega)).trans mV11
        have zV0 : V0 < w7.heap.size := by omega
        have zV1 : V1 < w7.heap.size := by omega
        have HB7 := Lib.hid (below_step HB5.out hb)
        clear hb hs7
        go_wp2_with fail
        (go_at_call 14; refine (loads_any _ _ 2 (twoF ⟨#[]⟩ ⟨#[]⟩) (twoF (CX - (1 + d)) (CX + (1 + d))) (twoF CY CY) (twoF 0 0) m x y z v _ (hooks_two (t := 42) (by decide) (by decide) (heapA_at _ _ _ (by first | rfl | simp)))).mono ?_; rintro e w8 ⟨lv8, rfl, hlv, -, hb⟩)
        have HB8 : Hid (Below w.heap.size w w8) := by
          show Below _ _ _
          exact below_step (HB7.out.alloc HB7.out.size _) hb
        clear hb
        by_cases hG2 : G ≤ 1099511627776
        · rw [HM2.out, if_pos hG2] at hlv ⊢
          obtain ⟨ol, cl, rfl, -, hl⟩ := hlv.form
          obtain ⟨b1, o1, rfl, hb1l, hc1⟩ := hl 0 (by simp)
          obtain ⟨Q, hQ⟩ : ∃ Q, (G + 1).tdiv 2 = Q := ⟨_, rfl⟩
          have hQ2 : Q = (G + 1) / 2 := by rw [← hQ, Int.tdiv_eq_ediv_of_nonneg (by omega)]
          have Q0 : 0 ≤ Q := by omega
          have Q1 : Q ≤ 4611686018427387904 := by omega
          have x0 : w8.cell? ⟨b1, o1, none⟩ = some (.int .i64 Q) := by rw [← hQ]; exact hc1 0 (by simp)
          have x1 : w8.cell? ⟨b1, o1 + 1, none⟩ = some (.int .i64 Q) := by rw [← hQ]; exact hc1 1 (by simp)
          clear hc1 hl hlv hQ2
          simp only [List.length_cons, List.length_nil]
          have hpc := past_cell
          go_wp2_with fail
          refine wp_region_past (by kernel_rfl) (by kernel_rfl) ?_
          iterate 30 go_big_quiet_step (fail)
          go_big_quiet_step ((go_at_call 13; exact past_of (awake_any _ (HM.out.below (below_step HB8.out (Past.h _))))))
          iterate 2 go_big_quiet_step (fail)
          refine wpQuiet_nil ?_
          intro w9 hw'
          have hb1 := past_out hw'
          clear hw'
          have HB9 := Lib.hid (below_step HB8.out hb1)
          clear hb1
          go_wp2
          go_returns
          exact ⟨rfl, HB9.out⟩
        · rw [HM2.out, if_neg hG2] at hlv ⊢
          obtain ⟨ol, cl, rfl, -, hl⟩ := hlv.form
          clear hl hlv
          have hG3 : 1099511627776 < G := by omega
          go_wp2_with fail
          (go_at_call 13; refine (awake_any _ (HM.out.below HB8.out)).mono ?_; rintro e w9 ⟨rfl, hb⟩)
          have HB9 := Lib.hid (below_step HB8.out hb)
          clear hb
          go_wp2
          go_returns
          exact ⟨rfl, HB9.out⟩
      · have hB5 := HB5.out
        go_wp2_with fail
        refine wp_region_seq 16 [] [⟨V0, 14, #[.int .i64 (CX - (1 + d)), .int .i64 CY], 40⟩, ⟨V1, 15, #[.int .i64 (CX + (1 + d)), .int .i64 CY], 40⟩] (by kernel_rfl) (by kernel_rfl) (by kernel_rfl) (by kernel_rfl) (by kernel_rfl) ?_ ?_ ?_
        · intro r hr
          simp only [List.mem_cons, List.not_mem_nil, or_false] at hr
          rcases hr with rfl | rfl
          all_goals have x0 := HQV0.out
          all_goals have x1 := HQV1.out
          · refine ⟨by dsimp only; first | omega | (simp <;> omega), ?_⟩
            dsimp only
            first | assumption | (simp (disch := (first | omega | (simp only [World.size_alloc, World.size_setCell] <;> omega))) only [x0, x1, heapA_at, heapA_old, heapS_same, heapS_other, setObj, Option.map_some]; done)
          · refine ⟨by dsimp only; first | omega | (simp <;> omega), ?_⟩
            dsimp only
            first | assumption | (simp (disch := (first | omega | (simp only [World.size_alloc, World.size_setCell] <;> omega))) only [x0, x1, heapA_at, heapA_old, heapS_same, heapS_other, setObj, Option.map_some]; done)
        · intro r hr s hs h
          simp only [List.mem_cons, List.not_mem_nil, or_false] at hr hs
          rcases hr with rfl | rfl <;> rcases hs with rfl | rfl <;> first | exact absurd rfl h | (dsimp only; omega)
        simp only [List.take_succ_cons, List.take_zero, fillL, Act.put, List.setIfInBounds_toArray, List.set_cons_zero, List.set_cons_succ]
        apply seq_is (by kernel_rfl)
        · intro u wx hb hd
          have hz := hb.size
          (try simp only [World.size_alloc, World.size_setCell] at hz)
          have hz0 : w.heap.size < wx.heap.size := by omega
          have hz1 : w1.heap.size < wx.heap.size := by omega
          have hz2 : V0 < wx.heap.size := by omega
          have hz3 : V1 < wx.heap.size := by omega
          obtain ⟨kc0, kf0⟩ := hb.cell (w.heap.size) (by first | omega | (simp <;> omega)) (by intro r hr; simp only [List.mem_cons, List.not_mem_nil, or_false] at hr; rcases hr with rfl | rfl <;> (dsimp only; omega))
          obtain ⟨kc1, kf1⟩ := hb.cell (w1.heap.size) (by first | omega | (simp <;> omega)) (by intro r hr; simp only [List.mem_cons, List.not_mem_nil, or_false] at hr; rcases hr with rfl | rfl <;> (dsimp only; omega))
          have v05 := kc1 0
          have v15 := kc1 1
          clear hb hz
          simp [depsE, Region.binds, updE, kindOf, Prp.is, Prp.any] at hd
          go_simp
          first | exact ⟨Below.refl _ _, rfl⟩ | rfl
        apply seq_is (by kernel_rfl)
        · intro u wx hb hd
          have hz := hb.size
          (try simp only [World.size_alloc, World.size_setCell] at hz)
          have hz0 : w.heap.size < wx.heap.size := by omega
          have hz1 : w1.heap.size < wx.heap.size := by omega
          have hz2 : V0 < wx.heap.size := by omega
          have hz3 : V1 < wx.heap.size := by omega
          obtain ⟨kc0, kf0⟩ := hb.cell (w.heap.size) (by first | omega | (simp <;> omega)) (by intro r hr; simp only [List.mem_cons, List.not_mem_nil, or_false] at hr; rcases hr with rfl | rfl <;> (dsimp only; omega))
          obtain ⟨kc1, kf1⟩ := hb.cell (w1.heap.size) (by first | omega | (simp <;> omega)) (by intro r hr; simp only [List.mem_cons, List.not_mem_nil, or_false] at hr; rcases hr with rfl | rfl <;> (dsimp only; omega))
          have v05 := kc1 0
          have v15 := kc1 1
          clear hb hz
          simp [depsE, Region.binds, updE, kindOf, Prp.is, Prp.any] at hd
          go_simp
          first | exact ⟨Below.refl _ _, rfl⟩ | rfl
        apply seq_is (by kernel_rfl)
        · intro u wx hb hd
          have hz := hb.size
          (try simp only [World.size_alloc, World.size_setCell] at hz)
          have hz0 : w.heap.size < wx.heap.size := by omega
          have hz1 : w1.heap.size < wx.heap.size := by omega
          have hz2 : V0 < wx.heap.size := by omega
          have hz3 : V1 < wx.heap.size := by omega
          obtain ⟨kc0, kf0⟩ := hb.cell (w.heap.size) (by first | omega | (simp <;> omega)) (by intro r hr; simp only [List.mem_cons, List.not_mem_nil, or_false] at hr; rcases hr with rfl | rfl <;> (dsimp only; omega))
          obtain ⟨kc1, kf1⟩ := hb.cell (w1.heap.size) (by first | omega | (simp <;> omega)) (by intro r hr; simp only [List.mem_cons, List.not_mem_nil, or_false] at hr; rcases hr with rfl | rfl <;> (dsimp only; omega))
          have v05 := kc1 0
          have v15 := kc1 1
          clear hb hz
          simp [depsE, Region.binds, updE, kindOf, Prp.is, Prp.any] at hd
          go_simp
          first | exact ⟨Below.refl _ _, rfl⟩ | rfl
        apply seq_is (by kernel_rfl)
        · intro u wx hb hd
          have hz := hb.size
          (try simp only [World.size_alloc, World.size_setCell] at hz)
          have hz0 : w.heap.size < wx.heap.size := by omega
          have hz1 : w1.heap.size < wx.heap.size := by omega
          have hz2 : V0 < wx.heap.size := by omega
          have hz3 : V1 < wx.heap.size := by omega
          obtain ⟨kc0, kf0⟩ := hb.cell (w.heap.size) (by first | omega | (simp <;> omega)) (by intro r hr; simp only [List.mem_cons, List.not_mem_nil, or_false] at hr; rcases hr with rfl | rfl <;> (dsimp only; omega))
          obtain ⟨kc1, kf1⟩ := hb.cell (w1.heap.size) (by first | omega | (simp <;> omega)) (by intro r hr; simp only [List.mem_cons, List.not_mem_nil, or_false] at hr; rcases hr with rfl | rfl <;> (dsimp only; omega))
          have v05 := kc1 0
          have v15 := kc1 1
          clear hb hz
          simp [depsE, Region.binds, updE, kindOf, Prp.is, Prp.any] at hd
          go_simp
          first | exact ⟨Below.refl _ _, rfl⟩ | rfl
        apply seq_is (by kernel_rfl)
        · intro u wx hb hd
          have hz := hb.size
          (try simp only [World.size_alloc, World.size_setCell] at hz)
          have hz0 : w.heap.size < wx.heap.size := by omega
          have hz1 : w1.heap.size < wx.heap.size := by omega
          have hz2 : V0 < wx.heap.size := by omega
          have hz3 : V1 < wx.heap.size := by omega
          obtain ⟨kc0, kf0⟩ := hb.cell (w.heap.size) (by first | omega | (simp <;> omega)) (by intro r hr; simp only [List.mem_cons, List.not_mem_nil, or_false] at hr; rcases hr with rfl | rfl <;> (dsimp only; omega))
          obtain ⟨kc1, kf1⟩ := hb.cell (w1.heap.size) (by first | omega | (simp <;> omega)) (by intro r hr; simp only [List.mem_cons, List.not_mem_nil, or_false] at hr; rcases hr with rfl | rfl <;> (dsimp only; omega))
          have v05 := kc1 0
          have v15 := kc1 1
          clear hb hz
          simp [depsE, Region.binds, updE, kindOf, Prp.is, Prp.any] at hd
          go_simp
          first | exact ⟨Below.refl _ _, rfl⟩ | rfl
        apply seq_is (by kernel_rfl)
        · intro u wx hb hd
          have hz := hb.size
          (try simp only [World.size_alloc, World.size_setCell] at hz)
          have hz0 : w.heap.size < wx.heap.size := by omega
          have hz1 : w1.heap.size < wx.heap.size := by omega
          have hz2 : V0 < wx.heap.size := by omega
          have hz3 : V1 < wx.heap.size := by omega
          obtain ⟨kc0, kf0⟩ := hb.cell (w.heap.size) (by first | omega | (simp <;> omega)) (by intro r hr; simp only [List.mem_cons, List.not_mem_nil, or_false] at hr; rcases hr with rfl | rfl <;> (dsimp only; omega))
          obtain ⟨kc1, kf1⟩ := hb.cell (w1.heap.size) (by first | omega | (simp <;> omega)) (by intro r hr; simp only [List.mem_cons, List.not_mem_nil, or_false] at hr; rcases hr with rfl | rfl <;> (dsimp only; omega))
          have v05 := kc1 0
          have v15 := kc1 1
          clear hb hz
          simp [depsE, Region.binds, updE, kindOf, Prp.is, Prp.any] at hd
          go_simp
          first | exact ⟨Below.refl _ _, rfl⟩ | rfl
        apply seq_is (by kernel_rfl)
        · intro u wx hb hd
          have hz := hb.size
          (try simp only [World.size_alloc, World.size_setCell] at hz)
          have hz0 : w.heap.size < wx.heap.size := by omega
          have hz1 : w1.heap.size < wx.heap.size := by omega
          have hz2 : V0 < wx.heap.size := by omega
          have hz3 : V1 < wx.heap.size := by omega
          obtain ⟨kc0, kf0⟩ := hb.cell (w.heap.size) (by first | omega | (simp <;> omega)) (by intro r hr; simp only [List.mem_cons, List.not_mem_nil, or_false] at hr; rcases hr with rfl | rfl <;> (dsimp only; omega))
          obtain ⟨kc1, kf1⟩ := hb.cell (w1.heap.size) (by first | omega | (simp <;> omega)) (by intro r hr; simp only [List.mem_cons, List.not_mem_nil, or_false] at hr; rcases hr with rfl | rfl <;> (dsimp only; omega))
          have v05 := kc1 0
          have v15 := kc1 1
          clear hb hz
          simp [depsE, Region.binds, updE, kindOf, Prp.is, Prp.any] at hd
          go_simp
          first | exact ⟨Below.refl _ _, rfl⟩ | rfl
        apply seq_is (by kernel_rfl)
        · intro u wx hb hd
          have hz := hb.size
          (try simp only [World.size_alloc, World.size_setCell] at hz)
          have hz0 : w.heap.size < wx.heap.size := by omega
          have hz1 : w1.heap.size < wx.heap.size := by omega
          have hz2 : V0 < wx.heap.size := by omega
          have hz3 : V1 < wx.heap.size := by omega
          obtain ⟨kc0, kf0⟩ := hb.cell (w.heap.size) (by first | omega | (simp <;> omega)) (by intro r hr; simp only [List.mem_cons, List.not_mem_nil, or_false] at hr; rcases hr with rfl | rfl <;> (dsimp only; omega))
          obtain ⟨kc1, kf1⟩ := hb.cell (w1.heap.size) (by first | omega | (simp <;> omega)) (by intro r hr; simp only [List.mem_cons, List.not_mem_nil, or_false] at hr; rcases hr with rfl | rfl <;> (dsimp only; omega))
          have v05 := kc1 0
          have v15 := kc1 1
          clear hb hz
          simp [depsE, Region.binds, updE, kindOf, Prp.is, Prp.any] at hd
          go_simp
          first | exact ⟨Below.refl _ _, rfl⟩ | rfl
        apply seq_is (by kernel_rfl)
        · intro u wx hb hd
          have hz := hb.size
          (try simp only [World.size_alloc, World.size_setCell] at hz)
          have hz0 : w.heap.size < wx.heap.size := by omega
          have hz1 : w1.heap.size < wx.heap.size := by omega
          have hz2 : V0 < wx.heap.size := by omega
          have hz3 : V1 < wx.heap.size := by omega
          obtain ⟨kc0, kf0⟩ := hb.cell (w.heap.size) (by first | omega | (simp <;> omega)) (by intro r hr; simp only [List.mem_cons, List.not_mem_nil, or_false] at hr; rcases hr with rfl | rfl <;> (dsimp only; omega))
          obtain ⟨kc1, kf1⟩ := hb.cell (w1.heap.size) (by first | omega | (simp <;> omega)) (by intro r hr; simp only [List.mem_cons, List.not_mem_nil, or_false] at hr; rcases hr with rfl | rfl <;> (dsimp only; omega))
          have v05 := kc1 0
          have v15 := kc1 1
          clear hb hz
          simp [depsE, Region.binds, updE, kindOf, Prp.is, Prp.any] at hd
          go_simp
          first | exact ⟨Below.refl _ _, rfl⟩ | rfl
        apply seq_is (by kernel_rfl)
        · intro u wx hb hd
          have hz := hb.size
          (try simp only [World.size_alloc, World.size_setCell] at hz)
          have hz0 : w.heap.size < wx.heap.size := by omega
          have hz1 : w1.heap.size < wx.heap.size := by omega
          have hz2 : V0 < wx.heap.size := by omega
          have hz3 : V1 < wx.heap.size := by omega
          obtain ⟨kc0, kf0⟩ := hb.cell (w.heap.size) (by first | omega | (simp <;> omega)) (by intro r hr; simp only [List.mem_cons, List.not_mem_nil, or_false] at hr; rcases hr with rfl | rfl <;> (dsimp only; omega))
          obtain ⟨kc1, kf1⟩ := hb.cell (w1.heap.size) (by first | omega | (simp <;> omega)) (by intro r hr; simp only [List.mem_cons, List.not_mem_nil, or_false] at hr; rcases hr with rfl | rfl <;> (dsimp only; omega))
          have v05 := kc1 0
          have v15 := kc1 1
          clear hb hz
          simp [depsE, Region.binds, updE, kindOf, Prp.is, Prp.any] at hd
          go_simp
          first | exact ⟨Below.refl _ _, rfl⟩ | rfl
        apply seq_is (by kernel_rfl)
        · intro u wx hb hd
          have hz := hb.size
          (try simp only [World.size_alloc, World.size_setCell] at hz)
          have hz0 : w.heap.size < wx.heap.size := by omega
          have hz1 : w1.heap.size < wx.heap.size := by omega
          have hz2 : V0 < wx.heap.size := by omega
          have hz3 : V1 < wx.heap.size := by omega
          obtain ⟨kc0, kf0⟩ := hb.cell (w.heap.size) (by first | omega | (simp <;> omega)) (by intro r hr; simp only [List.mem_cons, List.not_mem_nil, or_false] at hr; rcases hr with rfl | rfl <;> (dsimp only; omega))
          obtain ⟨kc1, kf1⟩ := hb.cell (w1.heap.size) (by first | omega | (simp <;> omega)) (by intro r hr; simp only [List.mem_cons, List.not_mem_nil, or_false] at hr; rcases hr with rfl | rfl <;> (dsimp only; omega))
          have v05 := kc1 0
          have v15 := kc1 1
          clear hb hz
          simp [depsE, Region.binds, updE, kindOf, Prp.is, Prp.any] at hd
          go_simp
          first | exact ⟨Below.refl _ _, rfl⟩ | rfl
        apply seq_is (by kernel_rfl)
        · intro u wx hb hd
          have hz := hb.size
          (try simp only [World.size_alloc, World.size_setCell] at hz)
          have hz0 : w.heap.size < wx.heap.size := by omega
          have hz1 : w1.heap.size < wx.heap.size := by omega
          have hz2 : V0 < wx.heap.size := by omega
          have hz3 : V1 < wx.heap.size := by omega
          obtain ⟨kc0, kf0⟩ := hb.cell (w.heap.size) (by first | omega | (simp <;> omega)) (by intro r hr; simp only [List.mem_cons, List.not_mem_nil, or_false] at hr; rcases hr with rfl | rfl <;> (dsimp only; omega))
          obtain ⟨kc1, kf1⟩ := hb.cell (w1.heap.size) (by first | omega | (simp <;> omega)) (by intro r hr; simp only [List.mem_cons, List.not_mem_nil, or_false] at hr; rcases hr with rfl | rfl <;> (dsimp only; omega))
          have v05 := kc1 0
          have v15 := kc1 1
          clear hb hz
          simp [depsE, Region.binds, updE, kindOf, Prp.is, Prp.any] at hd
          go_simp
          first | exact ⟨Below.refl _ _, rfl⟩ | rfl
        apply seq_is (by kernel_rfl)
        · intro u wx hb hd
          have hz := hb.size
          (try simp only [World.size_alloc, World.size_setCell] at hz)
          have hz0 : w.heap.size < wx.heap.size := by omega
          have hz1 : w1.heap.size < wx.heap.size := by omega
          have hz2 : V0 < wx.heap.size := by omega
          have hz3 : V1 < wx.heap.size := by omega
          obtain ⟨kc0, kf0⟩ := hb.cell (w.heap.size) (by first | omega | (simp <;> omega)) (by intro r hr; simp only [List.mem_cons, List.not_mem_nil, or_false] at hr; rcases hr with rfl | rfl <;> (dsimp only; omega))
          obtain ⟨kc1, kf1⟩ := hb.cell (w1.heap.size) (by first | omega | (simp <;> omega)) (by intro r hr; simp only [List.mem_cons, List.not_mem_nil, or_false] at hr; rcases hr with rfl | rfl <;> (dsimp only; omega))
          have v05 := kc1 0
          have v15 := kc1 1
          clear hb hz
          simp [depsE, Region.binds, updE, kindOf, Prp.is, Prp.any] at hd
          go_simp
          first | exact ⟨Below.refl _ _, rfl⟩ | rfl
        apply seq_is (by kernel_rfl)
        · intro u wx hb hd
          have hz := hb.size
          (try simp only [World.size_alloc, World.size_setCell] at hz)
          have hz0 : w.heap.size < wx.heap.size := by omega
          have hz1 : w1.heap.size < wx.heap.size := by omega
          have hz2 : V0 < wx.heap.size := by omega
          have hz3 : V1 < wx.heap.size := by omega
          obtain ⟨kc0, kf0⟩ := hb.cell (w.heap.size) (by first | omega | (simp <;> omega)) (by intro r hr; simp only [List.mem_cons, List.not_mem_nil, or_false] at hr; rcases hr with rfl | rfl <;> (dsimp only; omega))
          obtain ⟨kc1, kf1⟩ := hb.cell (w1.heap.size) (by first | omega | (simp <;> omega)) (by intro r hr; simp only [List.mem_cons, List.not_mem_nil, or_false] at hr; rcases hr with rfl | rfl <;> (dsimp only; omega))
          have v05 := kc1 0
          have v15 := kc1 1
          clear hb hz
          simp [depsE, Region.binds, updE, kindOf, Prp.is, Prp.any] at hd
          go_simp
          first | exact ⟨Below.refl _ _, rfl⟩ | rfl
        apply seq_pre_agg ⟨V0, 14, #[.int .i64 (CX - (1 + d)), .int .i64 CY], 40⟩ (by simp) rfl (by kernel_rfl) rfl
        · intro u wx hb hd
          have hz := hb.size
          (try simp only [World.size_alloc, World.size_setCell] at hz)
          have hz0 : w.heap.size < wx.heap.size := by omega
          have hz1 : w1.heap.size < wx.heap.size := by omega
          have hz2 : V0 < wx.heap.size := by omega
          have hz3 : V1 < wx.heap.size := by omega
          obtain ⟨kc0, kf0⟩ := hb.cell (w.heap.size) (by first | omega | (simp <;> omega)) (by intro r hr; simp only [List.mem_cons, List.not_mem_nil, or_false] at hr; rcases hr with rfl | rfl <;> (dsimp only; omega))
          obtain ⟨kc1, kf1⟩ := hb.cell (w1.heap.size) (by first | omega | (simp <;> omega)) (by intro r hr; simp only [List.mem_cons, List.not_mem_nil, or_false] at hr; rcases hr with rfl | rfl <;> (dsimp only; omega))
          have v05 := kc1 0
          have v15 := kc1 1
          clear hb hz
          simp [depsE, Region.binds, updE, kindOf, Prp.is, Prp.any] at hd
          refine ⟨by simp [Region.wanted], fun hcells => ?_⟩
          have hcells' : wx.heap[V0]? = some (.cells #[.int .i64 (CX - (1 + d)), .int .i64 CY] 40) := hcells
          have hat := cells_at2 hcells'
          have HCL := Lib.hid hcells'
          clear hcells hcells'
          go_simp
          exact Stored.c2 HCL.out _ _
        apply seq_pre_agg ⟨V1, 15, #[.int .i64 (CX + (1 + d)), .int .i64 CY], 40⟩ (by simp) rfl (by kernel_rfl) rfl
        · intro u wx hb hd
          have hz := hb.size
          (try simp only [World.size_alloc, World.size_setCell] at hz)
          have hz0 : w.heap.size < wx.heap.size := by omega
          have hz1 : w1.heap.size < wx.heap.size := by omega
          have hz2 : V0 < wx.heap.size := by omega
          have hz3 : V1 < wx.heap.size := by omega
          obtain ⟨kc0, kf0⟩ := hb.cell (w.heap.size) (by first | omega | (simp <;> omega)) (by intro r hr; simp only [List.mem_cons, List.not_mem_nil, or_false] at hr; rcases hr with rfl | rfl <;> (dsimp only; omega))
          obtain ⟨kc1, kf1⟩ := hb.cell (w1.heap.size) (by first | omega | (simp <;> omega)) (by intro r hr; simp only [List.mem_cons, List.not_mem_nil, or_false] at hr; rcases hr with rfl | rfl <;> (dsimp only; omega))
          have v05 := kc1 0
          have v15 := kc1 1
          clear hb hz
          simp [depsE, Region.binds, updE, kindOf, Prp.is, Prp.any] at hd
          refine ⟨by simp [Region.wanted], fun hcells => ?_⟩
          have hcells' : wx.heap[V1]? = some (.cells #[.int .i64 (CX + (1 + d)), .int .i64 CY] 40) := hcells
          have hat := cells_at2 hcells'
          have HCL := Lib.hid hcells'
          clear hcells hcells'
          go_simp
          exact Stored.c2 HCL.out _ _
        intro u w6 hb hE hV hP
        have e0 : u 0 = _ := endE_get hE 0 (by decide) (by simp [kindOf])
        have e1 : u 1 = _ := endE_get hE 1 (by decide) (by simp [kindOf])
        have e2 : u 2 = _ := endE_get hE 2 (by decide) (by simp [kindOf])
        have e3 : u 3 = _ := endE_get hE 3 (by decide) (by simp [kindOf])
        have e4 : u 4 = _ := endE_get hE 4 (by decide) (by simp [kindOf])
        have e5 : u 5 = _ := endE_get hE 5 (by decide) (by simp [kindOf])
        have e6 : u 6 = _ := endE_get hE 6 (by decide) (by simp [kindOf])
        have e7 : u 7 = _ := endE_get hE 7 (by decide) (by simp [kindOf])
        have e8 : u 8 = _ := endE_get hE 8 (by decide) (by simp [kindOf])
        have e9 : u 9 = _ := endE_get hE 9 (by decide) (by simp [kindOf])
        have e10 : u 10 = _ := endE_get hE 10 (by decide) (by simp [kindOf])
        have e11 : u 11 = _ := endE_get hE 11 (by decide) (by simp [kindOf])
        have e12 : u 12 = _ := endE_get hE 12 (by decide) (by simp [kindOf])
        have e13 : u 13 = _ := endE_get hE 13 (by decide) (by simp [kindOf])
        have e14 : u 14 = _ := endE_get hE 14 (by decide) (by simp [kindOf])
        have e15 : u 15 = _ := endE_get hE 15 (by decide) (by simp [kindOf])
        clear hV
        have qp0 : w6.heap[V0]? = some (.cells (u 14).cells 40) := hP.1
        rw [e14] at qp0
        obtain ⟨mpw600, mpw601, mpfw60, mpsw60⟩ := cells_at2 qp0
        have HPw60 := Lib.hid qp0
        clear qp0
        have qp1 : w6.heap[V1]? = some (.cells (u 15).cells 40) := hP.2.1
        rw [e15] at qp1
        obtain ⟨mpw610, mpw611, mpfw61, mpsw61⟩ := cells_at2 qp1
        have HPw61 := Lib.hid qp1
        clear qp1
        clear hP
        simp only [List.drop_succ_cons, List.drop_zero, List.take_succ_cons, List.take_zero, fillL, Act.put, List.setIfInBounds_toArray, List.set_cons_zero, List.set_cons_succ, e0, e1, e2, e3, e4, e5, e6, e7, e8, e9, e10, e11, e12, e13, e14, e15]
        clear e0 e1 e2 e3 e4 e5 e6 e7 e8 e9 e10 e11 e12 e13 e14 e15 hE
        have hw6 : Below w.heap.size w w6 := Below.trans (by first | assumption | go_grown) (hb.below (B := w.heap.size) (by first | omega | (simp <;> omega)) (by intro r hr; simp only [List.mem_cons, List.not_mem_nil, or_false] at hr; rcases hr with rfl | rfl <;> (dsimp only; omega)))
        have hzw6 := hb.size
        (try simp only [World.size_alloc, World.size_setCell] at hzw6)
        have hzw60 : w.heap.size < w6.heap.size := by omega
        have hzw61 : w1.heap.size < w6.heap.size := by omega
        have hzw62 : V0 < w6.heap.size := by omega
        have hzw63 : V1 < w6.heap.size := by omega
        obtain ⟨hcw60, hfw60⟩ := hb.cell (w.heap.size) (by first | omega | (simp <;> omega)) (by intro r hr; simp only [List.mem_cons, List.not_mem_nil, or_false] at hr; rcases hr with rfl | rfl <;> (dsimp only; omega))
        obtain ⟨hcw61, hfw61⟩ := hb.cell (w1.heap.size) (by first | omega | (simp <;> omega)) (by intro r hr; simp only [List.mem_cons, List.not_mem_nil, or_false] at hr; rcases hr with rfl | rfl <;> (dsimp only; omega))
        clear hb hzw6
        have HB6 := Lib.hid hw6
        have c06 : w6.cell? ⟨w.heap.size, 0, none⟩ = some (.int .i64 m) := (hcw60 _).trans c05
        have c16 : w6.cell? ⟨w.heap.size, 1, none⟩ = some (.int .i64 x) := (hcw60 _).trans c15
        have c26 : w6.cell? ⟨w.heap.size, 2, none⟩ = some (.int .i64 y) := (hcw60 _).trans c25
        have c36 : w6.cell? ⟨w.heap.size, 3, none⟩ = some (.int .i64 z) := (hcw60 _).trans c35
        have c46 : w6.cell? ⟨w.heap.size, 4, none⟩ = some (.int .i64 v) := (hcw60 _).trans c45
        clear hw6
        have HM2 : Hid (loadsF 2 (twoF CX CX) (twoF (CY - (1 + d)) (CY + (1 + d))) m x y z v = if G ≤ 1099511627776 then ([(G + 1).tdiv 2, (G + 1).tdiv 2], 0) else ([], 9)) := HMID.out
        clear HMID
        go_wp2_with fail
        (go_at_call 11; refine (gross_any _ _ _ _ _ _).mono ?_; rintro e w7 ⟨rfl, hb⟩)
        rw [HG.out]
        have hs7 := hb.size
        have z70 : w.heap.size < w7.heap.size := by omega
        have c07 : w7.cell? ⟨w.heap.size, 0, none⟩ = some (.int .i64 m) := (hb.cell (p := ⟨_, _, none⟩) (by omega)).trans c06
        have c17 : w7.cell? ⟨w.heap.size, 1, none⟩ = some (.int .i64 x) := (hb.cell (p := ⟨_, _, none⟩) (by omega)).trans c16
        have c27 : w7.cell? ⟨w.heap.size, 2, none⟩ = some (.int .i64 y) := (hb.cell (p := ⟨_, _, none⟩) (by omega)).trans c26
        have c37 : w7.cell? ⟨w.heap.size, 3, none⟩ = some (.int .i64 z) := (hb.cell (p := ⟨_, _, none⟩) (by omega)).trans c36
        have c47 : w7.cell? ⟨w.heap.size, 4, none⟩ = some (.int .i64 v) := (hb.cell (p := ⟨_, _, none⟩) (by omega)).trans c46
        have nV00 : w7.cell? ⟨V0, 0, none⟩ = some (.int .i64 CX) := (hb.cell (p := ⟨_, _, none⟩) (by omega)).trans mpw600
        have nV01 : w7.cell? ⟨V0, 1, none⟩ = some (.int .i64 (CY - (1 + d))) := (hb.cell (p := ⟨_, _, none⟩) (by omega)).trans mpw601
        have nV10 : w7.cell? ⟨V1, 0, none⟩ = some (.int .i64 CX) := (hb.cell (p := ⟨_, _, none⟩) (by omega)).trans mpw610
        have nV11 : w7.cell? ⟨V1, 1, none⟩ = some (.int .i64 (CY + (1 + d))) := (hb.cell (p := ⟨_, _, none⟩) (by omega)).trans mpw611
        have zV0 : V0 < w7.heap.size := by omega
        have zV1 : V1 < w7.heap.size := by omega
        have HB7 := Lib.hid (below_step HB6.out hb)
        clear hb hs7
        go_wp2_with fail
        (go_at_call 14; refine (loads_any _ _ 2 (twoF ⟨#[]⟩ ⟨#[]⟩) (twoF CX CX) (twoF (CY - (1 + d)) (CY + (1 + d))) (twoF 0 0) m x y z v _ (hooks_two (t := 42) (by decide) (by decide) (heapA_at _ _ _ (by first | rfl | simp)))).mono ?_; rintro e w8 ⟨lv8, rfl, hlv, -, hb⟩)
        have HB8 : Hid (Below w.heap.size w w8) := by
          show Below _ _ _
          exact below_step (HB7.out.alloc HB7.out.size _) hb
        clear hb
        by_cases hG2 : G ≤ 1099511627776
        · rw [HM2.out, if_pos hG2] at hlv ⊢
          obtain ⟨ol, cl, rfl, -, hl⟩ := hlv.form
          obtain ⟨b1, o1, rfl, hb1l, hc1⟩ := hl 0 (by simp)
          obtain ⟨Q, hQ⟩ : ∃ Q, (G + 1).tdiv 2 = Q := ⟨_, rfl⟩
          have hQ2 : Q = (G + 1) / 2 := by rw [← hQ, Int.tdiv_eq_ediv_of_nonneg (by omega)]
          have Q0 : 0 ≤ Q := by omega
          have Q1 : Q ≤ 4611686018427387904 := by omega
          have x0 : w8.cell? ⟨b1, o1, none⟩ = some (.int .i64 Q) := by rw [← hQ]; exact hc1 0 (by simp)
          have x1 : w8.cell? ⟨b1, o1 + 1, none⟩ = some (.int .i64 Q) := by rw [← hQ]; exact hc1 1 (by simp)
          clear hc1 hl hlv hQ2
          simp only [List.length_cons, List.length_nil]
          have hpc := past_cell
          go_wp2_with fail
          refine wp_region_past (by kernel_rfl) (by kernel_rfl) ?_
          iterate 30 go_big_quiet_step (fail)
          go_big_quiet_step ((go_at_call 13; exact past_of (awake_any _ (HM.out.below (below_step HB8.out (Past.h _))))))
          iterate 2 go_big_quiet_step (fail)
          refine wpQuiet_nil ?_
          intro w9 hw'
          have hb1 := past_out hw'
          clear hw'
          have HB9 := Lib.hid (below_step HB8.out hb1)
          clear hb1
          go_wp2
          go_returns
          exact ⟨rfl, HB9.out⟩
        · rw [HM2.out, if_neg hG2] at hlv ⊢
          obtain ⟨ol, cl, rfl, -, hl⟩ := hlv.form
          clear hl hlv
          have hG3 : 1099511627776 < G := by omega
          go_wp2_with fail
          (go_at_call 13; refine (awake_any _ (HM.out.below HB8.out)).mono ?_; rintro e w9 ⟨rfl, hb⟩)
          have HB9 := Lib.hid (below_step HB8.out hb)
          clear hb
          go_wp2
          go_returns
          exact ⟨rfl, HB9.out⟩
    · have HIN := Lib.hid hin
      clear hin hCX hCY hCZ hGE hwok hm0
      by_cases r0 : CX < -262144
      · go_enter Tryd.func9, Tryd.ntmps9
        go_wp2_with fail
        (go_at_call 25; refine (rounded_any _ _ _ _ _ _).mono ?_; rintro e w1 ⟨rfl, hb⟩)
        rw [HV.out]
        have hs1 := hb.size
        (try simp only [World.size_alloc, World.size_setCell] at hs1)
        have z10 : w.heap.size < w1.heap.size := by omega
        have c01 : w1.cell? ⟨w.heap.size, 0, none⟩ = some (.int .i64 m) := (hb.cell (p := ⟨_, _, none⟩) (by simp <;> omega)).trans (by simp [go_sem])
        have c11 : w1.cell? ⟨w.heap.size, 1, none⟩ = some (.int .i64 x) := (hb.cell (p := ⟨_, _, none⟩) (by simp <;> omega)).trans (by simp [go_sem])
        have c21 : w1.cell? ⟨w.heap.size, 2, none⟩ = some (.int .i64 y) := (hb.cell (p := ⟨_, _, none⟩) (by simp <;> omega)).trans (by simp [go_sem])
        have c31 : w1.cell? ⟨w.heap.size, 3, none⟩ = some (.int .i64 z) := (hb.cell (p := ⟨_, _, none⟩) (by simp <;> omega)).trans (by simp [go_sem])
        have c41 : w1.cell? ⟨w.heap.size, 4, none⟩ = some (.int .i64 v) := (hb.cell (p := ⟨_, _, none⟩) (by simp <;> omega)).trans (by simp [go_sem])
        have HB1 : Hid (Below w.heap.size w w1) := by
          show Below _ _ _
          exact below_step (w := w) (by go_grown) hb
        clear hb hs1
        have hBa : Below w.heap.size w (w1.alloc (.cells #[.int .i64 CX, .int .i64 CY, .int .i64 CZ] 57)) := HB1.out.alloc HB1.out.size _
        have HBa := Lib.hid hBa
        clear hBa
        go_wp2_with fail
        (go_at_call 13; refine (awake_any _ (HM.out.below HBa.out)).mono ?_; rintro e w2 ⟨rfl, hb⟩)
        have HB2 := Lib.hid (below_step HBa.out hb)
        clear hb
        go_wp2
        go_returns
        exact ⟨rfl, HB2.out⟩
      · have g0 : -262144 ≤ CX := by omega
        clear r0
        by_cases r1 : 262144 < CX
        · go_enter Tryd.func9, Tryd.ntmps9
          go_wp2_with fail
          (go_at_call 25; refine (rounded_any _ _ _ _ _ _).mono ?_; rintro e w1 ⟨rfl, hb⟩)
          rw [HV.out]
          have hs1 := hb.size
          (try simp only [World.size_alloc, World.size_setCell] at hs1)
          have z10 : w.heap.size < w1.heap.size := by omega
          have c01 : w1.cell? ⟨w.heap.size, 0, none⟩ = some (.int .i64 m) := (hb.cell (p := ⟨_, _, none⟩) (by simp <;> omega)).trans (by simp [go_sem])
          have c11 : w1.cell? ⟨w.heap.size, 1, none⟩ = some (.int .i64 x) := (hb.cell (p := ⟨_, _, none⟩) (by simp <;> omega)).trans (by simp [go_sem])
          have c21 : w1.cell? ⟨w.heap.size, 2, none⟩ = some (.int .i64 y) := (hb.cell (p := ⟨_, _, none⟩) (by simp <;> omega)).trans (by simp [go_sem])
          have c31 : w1.cell? ⟨w.heap.size, 3, none⟩ = some (.int .i64 z) := (hb.cell (p := ⟨_, _, none⟩) (by simp <;> omega)).trans (by simp [go_sem])
          have c41 : w1.cell? ⟨w.heap.size, 4, none⟩ = some (.int .i64 v) := (hb.cell (p := ⟨_, _, none⟩) (by simp <;> omega)).trans (by simp [go_sem])
          have HB1 : Hid (Below w.heap.size w w1) := by
            show Below _ _ _
            exact below_step (w := w) (by go_grown) hb
          clear hb hs1
          have hBa : Below w.heap.size w (w1.alloc (.cells #[.int .i64 CX, .int .i64 CY, .int .i64 CZ] 57)) := HB1.out.alloc HB1.out.size _
          have HBa := Lib.hid hBa
          clear hBa
          go_wp2_with fail
          (go_at_call 13; refine (awake_any _ (HM.out.below HBa.out)).mono ?_; rintro e w2 ⟨rfl, hb⟩)
          have HB2 := Lib.hid (below_step HBa.out hb)
          clear hb
          go_wp2
          go_returns
          exact ⟨rfl, HB2.out⟩
        · have g1 : CX ≤ 262144 := by omega
          clear r1
          by_cases r2 : CY < -262144
          · go_enter Tryd.func9, Tryd.ntmps9
            go_wp2_with fail
            (go_at_call 25; refine (rounded_any _ _ _ _ _ _).mono ?_; rintro e w1 ⟨rfl, hb⟩)
            rw [HV.out]
            have hs1 := hb.size
            (try simp only [World.size_alloc, World.size_setCell] at hs1)
            have z10 : w.heap.size < w1.heap.size := by omega
            have c01 : w1.cell? ⟨w.heap.size, 0, none⟩ = some (.int .i64 m) := (hb.cell (p := ⟨_, _, none⟩) (by simp <;> omega)).trans (by simp [go_sem])
            have c11 : w1.cell? ⟨w.heap.size, 1, none⟩ = some (.int .i64 x) := (hb.cell (p := ⟨_, _, none⟩) (by simp <;> omega)).trans (by simp [go_sem])
            have c21 : w1.cell? ⟨w.heap.size, 2, none⟩ = some (.int .i64 y) := (hb.cell (p := ⟨_, _, none⟩) (by simp <;> omega)).trans (by simp [go_sem])
            have c31 : w1.cell? ⟨w.heap.size, 3, none⟩ = some (.int .i64 z) := (hb.cell (p := ⟨_, _, none⟩) (by simp <;> omega)).trans (by simp [go_sem])
            have c41 : w1.cell? ⟨w.heap.size, 4, none⟩ = some (.int .i64 v) := (hb.cell (p := ⟨_, _, none⟩) (by simp <;> omega)).trans (by simp [go_sem])
            have HB1 : Hid (Below w.heap.size w w1) := by
              show Below _ _ _
              exact below_step (w := w) (by go_grown) hb
            clear hb hs1
            have hBa : Below w.heap.size w (w1.alloc (.cells #[.int .i64 CX, .int .i64 CY, .int .i64 CZ] 57)) := HB1.out.alloc HB1.out.size _
            have HBa := Lib.hid hBa
            clear hBa
            go_wp2_with fail
            (go_at_call 13; refine (awake_any _ (HM.out.below HBa.out)).mono ?_; rintro e w2 ⟨rfl, hb⟩)
            have HB2 := Lib.hid (below_step HBa.out hb)
            clear hb
            go_wp2
            go_returns
            exact ⟨rfl, HB2.out⟩
          · have g2 : -262144 ≤ CY := by omega
            clear r2
            by_cases r3 : 262144 < CY
            · go_enter Tryd.func9, Tryd.ntmps9
              go_wp2_with fail
              (go_at_call 25; refine (rounded_any _ _ _ _ _ _).mono ?_; rintro e w1 ⟨rfl, hb⟩)
              rw [HV.out]
              have hs1 := hb.size
              (try simp only [World.size_alloc, World.size_setCell] at hs1)
              have z10 : w.heap.size < w1.heap.size := by omega
              have c01 : w1.cell? ⟨w.heap.size, 0, none⟩ = some (.int .i64 m) := (hb.cell (p := ⟨_, _, none⟩) (by simp <;> omega)).trans (by simp [go_sem])
              have c11 : w1.cell? ⟨w.heap.size, 1, none⟩ = some (.int .i64 x) := (hb.cell (p := ⟨_, _, none⟩) (by simp <;> omega)).trans (by simp [go_sem])
              have c21 : w1.cell? ⟨w.heap.size, 2, none⟩ = some (.int .i64 y) := (hb.cell (p := ⟨_, _, none⟩) (by simp <;> omega)).trans (by simp [go_sem])
              have c31 : w1.cell? ⟨w.heap.size, 3, none⟩ = some (.int .i64 z) := (hb.cell (p := ⟨_, _, none⟩) (by simp <;> omega)).trans (by simp [go_sem])
              have c41 : w1.cell? ⟨w.heap.size, 4, none⟩ = some (.int .i64 v) := (hb.cell (p := ⟨_, _, none⟩) (by simp <;> omega)).trans (by simp [go_sem])
              have HB1 : Hid (Below w.heap.size w w1) := by
                show Below _ _ _
                exact below_step (w := w) (by go_grown) hb
              clear hb hs1
              have hBa : Below w.heap.size w (w1.alloc (.cells #[.int .i64 CX, .int .i64 CY, .int .i64 CZ] 57)) := HB1.out.alloc HB1.out.size _
              have HBa := Lib.hid hBa
              clear hBa
              go_wp2_with fail
              (go_at_call 13; refine (awake_any _ (HM.out.below HBa.out)).mono ?_; rintro e w2 ⟨rfl, hb⟩)
              have HB2 := Lib.hid (below_step HBa.out hb)
              clear hb
              go_wp2
              go_returns
              exact ⟨rfl, HB2.out⟩
            · have g3 : CY ≤ 262144 := by omega
              clear r3
              exact absurd ⟨g0, g1, g2, g3⟩ HIN.out
  · obtain ⟨CX, CY, CZ, hV⟩ : ∃ X Y Z : Int, roundedV m x y z v = .tuple #[.agg #[.int .i64 X, .int .i64 Y, .int .i64 Z], .int .i64 D] := by
      unfold roundedV
      rw [hD]
      exact ⟨_, _, _, rfl⟩
    have HV := Lib.hid hV
    have k0 : (D != 0) = true := by simpa using hd0
    clear hV hD hd0
    go_enter Tryd.func9, Tryd.ntmps9
    go_wp2_with fail
    (go_at_call 25; refine (rounded_any _ _ _ _ _ _).mono ?_; rintro e w1 ⟨rfl, hb⟩)
    rw [HV.out]
    have hs1 := hb.size
    (try simp only [World.size_alloc, World.size_setCell] at hs1)
    have z10 : w.heap.size < w1.heap.size := by omega
    have c01 : w1.cell? ⟨w.heap.size, 0, none⟩ = some (.int .i64 m) := (hb.cell (p := ⟨_, _, none⟩) (by simp <;> omega)).trans (by simp [go_sem])
    have c11 : w1.cell? ⟨w.heap.size, 1, none⟩ = some (.int .i64 x) := (hb.cell (p := ⟨_, _, none⟩) (by simp <;> omega)).trans (by simp [go_sem])
    have c21 : w1.cell? ⟨w.heap.size, 2, none⟩ = some (.int .i64 y) := (hb.cell (p := ⟨_, _, none⟩) (by simp <;> omega)).trans (by simp [go_sem])
    have c31 : w1.cell? ⟨w.heap.size, 3, none⟩ = some (.int .i64 z) := (hb.cell (p := ⟨_, _, none⟩) (by simp <;> omega)).trans (by simp [go_sem])
    have c41 : w1.cell? ⟨w.heap.size, 4, none⟩ = some (.int .i64 v) := (hb.cell (p := ⟨_, _, none⟩) (by simp <;> omega)).trans (by simp [go_sem])
    have HB1 : Hid (Below w.heap.size w w1) := by
      show Below _ _ _
      exact below_step (w := w) (by go_grown) hb
    clear hb hs1
    have hBa : Below w.heap.size w (w1.alloc (.cells #[.int .i64 CX, .int .i64 CY, .int .i64 CZ] 57)) := HB1.out.alloc HB1.out.size _
    have HBa := Lib.hid hBa
    clear hBa
    go_wp2_with fail
    (go_at_call 13; refine (awake_any _ (HM.out.below HBa.out)).mono ?_; rintro e w2 ⟨rfl, hb⟩)
    have HB2 := Lib.hid (below_step HBa.out hb)
    clear hb
    go_wp2
    go_returns
    exact ⟨rfl, HB2.out⟩

set_option maxRecDepth 100000 in
theorem liftMiddle_contract (H : Type) (enc : TypeId × Value → H) (W : World) (base : Nat) (args : Array Value) (ds gs : List (DataW H)) (before : List MemPlace)
    (hval : ∀ (j : Nat) t v, Tryd.f9.params[j]? = some t → args[j]? = some v → Value.okWide Tryd.prog W .any base t v)
    (hW : DataW.Whole enc Tryd.prog Tryd.f9.params.toList Rows.liftMiddleSpec.vars false W args.toList ds gs before) (hL : laidMetH Tryd.prog Rows.liftMiddleRow.laid W) (hSh : W.ShapedOpen Tryd.prog) :
    Calls Tryd.prog 9 args W fun e W' => ∃ v, e = .returned v ∧ Rows.liftMiddleSpec.post enc Tryd.prog Tryd.f9 false true false false W args v W' := by
  have hW' := hW
  obtain ⟨p, q, hA0, hV, rfl, hfz, hnd⟩ := hW
  have hA : DataW.TrodAll enc Tryd.prog W 0 (fun _ => true) true Tryd.f9.params.toList args.toList ds p := hA0
  rw [Tryd.params9] at hA hval
  obtain ⟨v0, vs0, d0, ds0, p0, q0, hargs, rfl, rfl, h0, r0⟩ := trodAll_cons hA
  obtain ⟨v1, vs1, d1, ds1, p1, q1, rfl, rfl, rfl, h1, r1⟩ := trodAll_cons r0
  obtain ⟨v2, vs2, d2, ds2, p2, q2, rfl, rfl, rfl, h2, r2⟩ := trodAll_cons r1
  obtain ⟨rfl, rfl, rfl⟩ := trodAll_nil r2
  obtain rfl : args = #[v0, v1, v2] := by cases args; simp_all
  obtain ⟨m, x, y, z, v, rfl⟩ := weight_arg (hval 0 23 v0 rfl rfl) h0
  obtain ⟨d, rfl, rfl, rfl, _w1⟩ := open_int Tryd.underlying55 (hval 1 55 v1 rfl rfl) h1
  obtain ⟨al, rfl, rfl, rfl⟩ := open_bool Tryd.underlying4 (hval 2 4 v2 rfl rfl) h2
  refine (liftMiddle_walk m x y z v d al W (maxLen_of W hSh) (by simpa [Lit.wf, IntKind.min, IntKind.max, IntKind.signed, IntKind.bits] using _w1)).mono fun e W' ⟨he, hb⟩ => ?_
  subst he
  exact ⟨_, rfl, law_post laidOut (by kernel_rfl) (by kernel_rfl) Tryd.underlying4 rfl hW' (fun _ => rfl) hb⟩
theorem liftMiddle_laid (os : Os) : laidMet Tryd.prog Rows.liftMiddleRow.laid ((laidWorld os).forCall (fun _ _ => 0) ⟨#[], #[.agg #[.int .i64 0, .int .i64 0, .int .i64 0, .int .i64 0, .int .i64 0], .int .u16 0, .bool false], []⟩).memory := laidMet_of_run' 8 (by kernel_rfl) (by kernel_rfl)
theorem liftMiddle_reads (os : Os) {H : Type} (enc : TypeId × Value → H) : ∃ places, DataW.whole enc Tryd.prog ((laidWorld os).forCall (fun _ _ => 0) ⟨#[], #[.agg #[.int .i64 0, .int .i64 0, .int .i64 0, .int .i64 0, .int .i64 0], .int .u16 0, .bool false], []⟩).memory Tryd.f9.params.toList Rows.liftMiddleSpec.vars false (#[.agg #[.int .i64 0, .int .i64 0, .int .i64 0, .int .i64 0, .int .i64 0], .int .u16 0, .bool false] : Array Value).toList 8 = some ([.agg [.lit (.int .i64 0), .lit (.int .i64 0), .lit (.int .i64 0), .lit (.int .i64 0), .lit (.int .i64 0)], .lit (.int .u16 0), .lit (.bool false)], [], places) := ⟨[], by kernel_rfl⟩
set_option maxRecDepth 100000 in
theorem liftMiddle_lifted (os : Os) (started : os.Started) (H : Type) (enc : TypeId × Value → H) (F : Stop.Interp) :
    ReturnsInHanded {} Tryd.checked os 9 .any ((OpenSpec.ofChange Rows.liftMiddleSpec).preRow enc Tryd.prog Tryd.f9 Rows.liftMiddleRow.domain false Rows.liftMiddleRow.laid) (((OpenSpec.ofChange Rows.liftMiddleSpec).at F).post enc Tryd.prog Tryd.f9 false true false false) := by
  obtain ⟨places, hx⟩ := liftMiddle_reads os enc
  refine returnsInHanded_of_row (C := Tryd.checked) (s := OpenSpec.ofChange Rows.liftMiddleSpec) own started (by kernel_rfl) Tryd.func9
    (witness_row_at (enc := enc) (C := Tryd.checked) false (laidWorld os) #[.agg #[.int .i64 0, .int .i64 0, .int .i64 0, .int .i64 0, .int .i64 0], .int .u16 0, .bool false] rfl (by kernel_rfl) (by kernel_rfl) (by kernel_rfl)
      (OpenSpec.preRow_of_cond 8 hx (by kernel_rfl) (fun k hk => by cases hk) (by kernel_rfl) (liftMiddle_laid os))) ?_
  intro W base args ds gs before hval hW _ _ _ hL hSh _
  exact liftMiddle_contract H enc W base args ds gs before hval hW hL hSh
theorem liftMiddle_said : Rows.LiftMiddleSaid :=
  OpenClaim.holds_of_cond 9 Tryd.f9 rfl rfl rfl rfl rfl rfl rfl ⟨rfl, rfl, rfl, rfl, rfl⟩ rfl rfl rfl rfl rfl (by kernel_rfl) Tryd.func9 (by kernel_rfl)
    (of_decide_eq_true (by kernel_rfl)) (by unfold Func.isWrapper; rw [if_neg (of_decide_eq_false (by kernel_rfl))]; exact ⟨rfl, rfl⟩)
    (fun os started H enc _ F => by rw [OpenClaim.pre_eq_preRow]; exact liftMiddle_lifted os started H enc F)
theorem liftMiddle_plain (f : FuncId) (fn : Func) (hf : Tryd.pinned.checked.prog.funcNamed "shipyard/shipyardlaw50.LiftMiddle" = some f) (hfn : Tryd.pinned.checked.prog.funcs[f]? = some fn) :
    false = Tryd.pinned.checked.prog.looks [] ∧ ∀ (j : Nat) t, fn.params[j]? = some t → Tryd.pinned.checked.prog.wantsStandIn t = false := by
  obtain rfl : f = 9 := Option.some.inj ((show Tryd.prog.funcNamed "shipyard/shipyardlaw50.LiftMiddle" = some 9 by kernel_rfl).symm.trans hf) |>.symm
  obtain rfl : fn = Tryd.f9 := (Option.some.inj (Tryd.func9.symm.trans hfn)).symm
  refine ⟨by kernel_rfl, fun j t ht => ?_⟩
  rw [Tryd.params9] at ht
  have hm : t ∈ [23, 55, 4] := by simpa using Array.mem_of_getElem? ht
  have hall : ([23, 55, 4].all fun u => !Tryd.prog.wantsStandIn u) = true := by kernel_rfl
  exact (show Tryd.prog.wantsStandIn t = false by simpa using List.all_eq_true.1 hall t hm)
/-- the card -/
theorem liftMiddle_card : Rows.LiftMiddleCardSaid :=
  Claim7.holds_tied_plain_at .later [] _ _ _ _ liftMiddle_said (fun _ h => by cases h) (by kernel_rfl) (fun _ h => by cases h) liftMiddle_row_tie rfl ⟨rfl, rfl⟩ (by kernel_rfl) rfl liftMiddle_plain (by kernel_rfl)
#print axioms liftMiddle_card
end Go.Proofs.YtjgpgfnnbfgkiaaDoor
