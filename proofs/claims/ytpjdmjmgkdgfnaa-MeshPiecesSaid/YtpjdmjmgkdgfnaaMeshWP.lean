/-
  Wides of the program spelled; scaled, by walks; placed surfaces. Conditions: none. By an AI agent.
-/
import Derived.Test.YtpjdmjmgkdgfnaaMeshVP
namespace Go.Proofs.Ytpjdmjmgkdgfnaa
open Go Go.RowKit
set_option linter.unusedVariables false
set_option linter.unusedSimpArgs false
set_option maxRecDepth 100000

theorem of_wd (n : Int) (w : World) (h : -9223372036854775808 ≤ n ∧ n < 9223372036854775808) : Calls Try.prog 26 #[.int .i64 n] w fun e w' => e = .returned (.agg #[.bool (decide (n < 0)), .int .u64 ((wdF (n)) 0), .int .u64 ((wdF (n)) 1), .int .u64 ((wdF (n)) 2), .int .u64 ((wdF (n)) 3)]) ∧ Below w.heap.size w w' :=
  (Of_any n w h).mono (by rintro e w' ⟨X, rfl, hX, hb⟩; obtain ⟨-, e0, e1, e2, e3⟩ := isW_one hX (wdF_is (isW_lt hX)); rw [e0, e1, e2, e3]; exact ⟨rfl, hb⟩)
theorem mul_wd (x y : Int) (w : World) (hx : ((x).natAbs : Int) < 115792089237316195423570985008687907853269984665640564039457584007913129639936) (hy : ((y).natAbs : Int) < 115792089237316195423570985008687907853269984665640564039457584007913129639936) (hs : ((x * y).natAbs : Int) < 115792089237316195423570985008687907853269984665640564039457584007913129639936) : Calls Try.prog 50 #[.agg #[.bool (decide (x < 0)), .int .u64 ((wdF (x)) 0), .int .u64 ((wdF (x)) 1), .int .u64 ((wdF (x)) 2), .int .u64 ((wdF (x)) 3)], .agg #[.bool (decide (y < 0)), .int .u64 ((wdF (y)) 0), .int .u64 ((wdF (y)) 1), .int .u64 ((wdF (y)) 2), .int .u64 ((wdF (y)) 3)]] w fun e w' => e = .returned (.tuple #[.agg #[.bool (decide (x * y < 0)), .int .u64 ((wdF (x * y)) 0), .int .u64 ((wdF (x * y)) 1), .int .u64 ((wdF (x * y)) 2), .int .u64 ((wdF (x * y)) 3)], .int .i64 0]) ∧ Below w.heap.size w w' :=
  (Mul_any x y _ _ _ _ w (wdF_is hx) (wdF_is hy) hs).mono (by rintro e w' ⟨X, rfl, hX, hb⟩; obtain ⟨-, e0, e1, e2, e3⟩ := isW_one hX (wdF_is (isW_lt hX)); rw [e0, e1, e2, e3]; exact ⟨rfl, hb⟩)
theorem add_wd (x y : Int) (w : World) (hx : ((x).natAbs : Int) < 115792089237316195423570985008687907853269984665640564039457584007913129639936) (hy : ((y).natAbs : Int) < 115792089237316195423570985008687907853269984665640564039457584007913129639936) (hs : ((x + y).natAbs : Int) < 115792089237316195423570985008687907853269984665640564039457584007913129639936) : Calls Try.prog 51 #[.agg #[.bool (decide (x < 0)), .int .u64 ((wdF (x)) 0), .int .u64 ((wdF (x)) 1), .int .u64 ((wdF (x)) 2), .int .u64 ((wdF (x)) 3)], .agg #[.bool (decide (y < 0)), .int .u64 ((wdF (y)) 0), .int .u64 ((wdF (y)) 1), .int .u64 ((wdF (y)) 2), .int .u64 ((wdF (y)) 3)]] w fun e w' => e = .returned (.tuple #[.agg #[.bool (decide (x + y < 0)), .int .u64 ((wdF (x + y)) 0), .int .u64 ((wdF (x + y)) 1), .int .u64 ((wdF (x + y)) 2), .int .u64 ((wdF (x + y)) 3)], .int .i64 0]) ∧ Below w.heap.size w w' :=
  (Add_any x y _ _ _ _ w (wdF_is hx) (wdF_is hy) hs).mono (by rintro e w' ⟨X, rfl, hX, hb⟩; obtain ⟨-, e0, e1, e2, e3⟩ := isW_one hX (wdF_is (isW_lt hX)); rw [e0, e1, e2, e3]; exact ⟨rfl, hb⟩)

set_option maxHeartbeats 4000000 in
theorem scaled_any (x y n : Int) (w : World) (hx : ((x).natAbs : Int) < 115792089237316195423570985008687907853269984665640564039457584007913129639936) (hy : ((y).natAbs : Int) < 115792089237316195423570985008687907853269984665640564039457584007913129639936) (hn : -9223372036854775808 ≤ n ∧ n < 9223372036854775808) (hm : ((y * n).natAbs : Int) < 115792089237316195423570985008687907853269984665640564039457584007913129639936) (hs : ((x + y * n).natAbs : Int) < 115792089237316195423570985008687907853269984665640564039457584007913129639936) :
    Calls Try.prog 24 #[.agg #[.bool (decide (x < 0)), .int .u64 ((wdF (x)) 0), .int .u64 ((wdF (x)) 1), .int .u64 ((wdF (x)) 2), .int .u64 ((wdF (x)) 3)], .agg #[.bool (decide (y < 0)), .int .u64 ((wdF (y)) 0), .int .u64 ((wdF (y)) 1), .int .u64 ((wdF (y)) 2), .int .u64 ((wdF (y)) 3)], .int .i64 n] w fun e w' => e = .returned (.agg #[.bool (decide (x + y * n < 0)), .int .u64 ((wdF (x + y * n)) 0), .int .u64 ((wdF (x + y * n)) 1), .int .u64 ((wdF (x + y * n)) 2), .int .u64 ((wdF (x + y * n)) 3)]) ∧ Below w.heap.size w w' := by
  have HOF : Hid (∀ W, Calls Try.prog 26 #[.int .i64 n] W fun e w' => e = .returned (.agg #[.bool (decide (n < 0)), .int .u64 ((wdF (n)) 0), .int .u64 ((wdF (n)) 1), .int .u64 ((wdF (n)) 2), .int .u64 ((wdF (n)) 3)]) ∧ Below W.heap.size W w') := fun W => of_wd n W hn
  have HMU : Hid (∀ W, Calls Try.prog 50 #[.agg #[.bool (decide (y < 0)), .int .u64 ((wdF (y)) 0), .int .u64 ((wdF (y)) 1), .int .u64 ((wdF (y)) 2), .int .u64 ((wdF (y)) 3)], .agg #[.bool (decide (n < 0)), .int .u64 ((wdF (n)) 0), .int .u64 ((wdF (n)) 1), .int .u64 ((wdF (n)) 2), .int .u64 ((wdF (n)) 3)]] W fun e w' => e = .returned (.tuple #[.agg #[.bool (decide (y * n < 0)), .int .u64 ((wdF (y * n)) 0), .int .u64 ((wdF (y * n)) 1), .int .u64 ((wdF (y * n)) 2), .int .u64 ((wdF (y * n)) 3)], .int .i64 0]) ∧ Below W.heap.size W w') := fun W => mul_wd y n W hy (by omega) hm
  have HAD : Hid (∀ W, Calls Try.prog 51 #[.agg #[.bool (decide (x < 0)), .int .u64 ((wdF (x)) 0), .int .u64 ((wdF (x)) 1), .int .u64 ((wdF (x)) 2), .int .u64 ((wdF (x)) 3)], .agg #[.bool (decide (y * n < 0)), .int .u64 ((wdF (y * n)) 0), .int .u64 ((wdF (y * n)) 1), .int .u64 ((wdF (y * n)) 2), .int .u64 ((wdF (y * n)) 3)]] W fun e w' => e = .returned (.tuple #[.agg #[.bool (decide (x + y * n < 0)), .int .u64 ((wdF (x + y * n)) 0), .int .u64 ((wdF (x + y * n)) 1), .int .u64 ((wdF (x + y * n)) 2), .int .u64 ((wdF (x + y * n)) 3)], .int .i64 0]) ∧ Below W.heap.size W w') := fun W => add_wd x (y * n) W hx hm hs
  obtain ⟨sx, hsx⟩ : ∃ b, decide (x < 0) = b := ⟨_, rfl⟩
  obtain ⟨X, hX⟩ : ∃ X, wdF (x) = X := ⟨_, rfl⟩
  obtain ⟨sy, hsy⟩ : ∃ b, decide (y < 0) = b := ⟨_, rfl⟩
  obtain ⟨Y, hY⟩ : ∃ X, wdF (y) = X := ⟨_, rfl⟩
  obtain ⟨sn, hsn⟩ : ∃ b, decide (n < 0) = b := ⟨_, rfl⟩
  obtain ⟨N, hN⟩ : ∃ X, wdF (n) = X := ⟨_, rfl⟩
  obtain ⟨sp, hsp⟩ : ∃ b, decide (y * n < 0) = b := ⟨_, rfl⟩
  obtain ⟨Q, hQ⟩ : ∃ X, wdF (y * n) = X := ⟨_, rfl⟩
  obtain ⟨sr, hsr⟩ : ∃ b, decide (x + y * n < 0) = b := ⟨_, rfl⟩
  obtain ⟨R, hR⟩ : ∃ X, wdF (x + y * n) = X := ⟨_, rfl⟩
  rw [hsx, hX, hsy, hY, hsr, hR]
  rw [hsn, hN] at HOF
  rw [hsy, hY, hsn, hN, hsp, hQ] at HMU
  rw [hsx, hX, hsp, hQ, hsr, hR] at HAD
  clear hsx hX hsy hY hsn hN hsp hQ hsr hR hx hy hn hm hs
  go_enter Try.func24, Try.ntmps24
  go_wp2_with fail
  refine wp_region_seq 9 [⟨7, 8, #[.bool false, .int .u64 0, .int .u64 0, .int .u64 0, .int .u64 0], 33⟩] [] (by kernel_rfl) (by kernel_rfl) (by kernel_rfl) (by kernel_rfl) (by kernel_rfl) ?_ ?_ ?_
  · intro r hr; cases hr
  · intro r hr; cases hr
  simp only [List.take_succ_cons, List.take_zero, fillL, Act.put, List.setIfInBounds_toArray, List.set_cons_zero, List.set_cons_succ]
  apply seq_is (by kernel_rfl)
  · intro u wx hb hd
    replace hb := hb.nil
    have hz := hb.size
    (try simp only [World.size_alloc, World.size_setCell] at hz)
    have hz0 : w.heap.size < wx.heap.size := by omega
    have hz1 : w.heap.size + 1 < wx.heap.size := by omega
    have hz2 : w.heap.size + 1 + 1 < wx.heap.size := by omega
    obtain ⟨hc, hf⟩ := bcell hb
    clear hb hz
    simp [depsE, Region.binds, updE, kindOf, Prp.is, Prp.any] at hd
    go_simp
    first | exact ⟨Below.refl _ _, rfl⟩ | rfl
  apply seq_is (by kernel_rfl)
  · intro u wx hb hd
    replace hb := hb.nil
    have hz := hb.size
    (try simp only [World.size_alloc, World.size_setCell] at hz)
    have hz0 : w.heap.size < wx.heap.size := by omega
    have hz1 : w.heap.size + 1 < wx.heap.size := by omega
    have hz2 : w.heap.size + 1 + 1 < wx.heap.size := by omega
    obtain ⟨hc, hf⟩ := bcell hb
    clear hb hz
    simp [depsE, Region.binds, updE, kindOf, Prp.is, Prp.any] at hd
    go_simp
    first | exact ⟨Below.refl _ _, rfl⟩ | rfl
  apply seq_is (by kernel_rfl)
  · intro u wx hb hd
    replace hb := hb.nil
    have hz := hb.size
    (try simp only [World.size_alloc, World.size_setCell] at hz)
    have hz0 : w.heap.size < wx.heap.size := by omega
    have hz1 : w.heap.size + 1 < wx.heap.size := by omega
    have hz2 : w.heap.size + 1 + 1 < wx.heap.size := by omega
    obtain ⟨hc, hf⟩ := bcell hb
    clear hb hz
    simp [depsE, Region.binds, updE, kindOf, Prp.is, Prp.any] at hd
    go_simp
    first | rfl | (go_at_call 26; refine (HOF.out _).mono ?_; rintro e w1 ⟨rfl, hb1⟩; first | exact ⟨rfl, hb1⟩ | exact ⟨_, rfl, hb1, rfl⟩)
  apply seq_is (by kernel_rfl)
  · intro u wx hb hd
    replace hb := hb.nil
    have hz := hb.size
    (try simp only [World.size_alloc, World.size_setCell] at hz)
    have hz0 : w.heap.size < wx.heap.size := by omega
    have hz1 : w.heap.size + 1 < wx.heap.size := by omega
    have hz2 : w.heap.size + 1 + 1 < wx.heap.size := by omega
    obtain ⟨hc, hf⟩ := bcell hb
    clear hb hz
    simp [depsE, Region.binds, updE, kindOf, Prp.is, Prp.any] at hd
    go_simp
    first | rfl | (go_at_call 50; refine (HMU.out _).mono ?_; rintro e w1 ⟨rfl, hb1⟩; first | exact ⟨rfl, hb1⟩ | exact ⟨_, rfl, hb1, rfl⟩)
  apply seq_is (by kernel_rfl)
  · intro u wx hb hd
    replace hb := hb.nil
    have hz := hb.size
    (try simp only [World.size_alloc, World.size_setCell] at hz)
    have hz0 : w.heap.size < wx.heap.size := by omega
    have hz1 : w.heap.size + 1 < wx.heap.size := by omega
    have hz2 : w.heap.size + 1 + 1 < wx.heap.size := by omega
    obtain ⟨hc, hf⟩ := bcell hb
    clear hb hz
    simp [depsE, Region.binds, updE, kindOf, Prp.is, Prp.any] at hd
    go_simp
    first | exact ⟨Below.refl _ _, rfl⟩ | rfl
  apply seq_is (by kernel_rfl)
  · intro u wx hb hd
    replace hb := hb.nil
    have hz := hb.size
    (try simp only [World.size_alloc, World.size_setCell] at hz)
    have hz0 : w.heap.size < wx.heap.size := by omega
    have hz1 : w.heap.size + 1 < wx.heap.size := by omega
    have hz2 : w.heap.size + 1 + 1 < wx.heap.size := by omega
    obtain ⟨hc, hf⟩ := bcell hb
    clear hb hz
    simp [depsE, Region.binds, updE, kindOf, Prp.is, Prp.any] at hd
    go_simp
    first | exact ⟨Below.refl _ _, rfl⟩ | rfl
  apply seq_is (by kernel_rfl)
  · intro u wx hb hd
    replace hb := hb.nil
    have hz := hb.size
    (try simp only [World.size_alloc, World.size_setCell] at hz)
    have hz0 : w.heap.size < wx.heap.size := by omega
    have hz1 : w.heap.size + 1 < wx.heap.size := by omega
    have hz2 : w.heap.size + 1 + 1 < wx.heap.size := by omega
    obtain ⟨hc, hf⟩ := bcell hb
    clear hb hz
    simp [depsE, Region.binds, updE, kindOf, Prp.is, Prp.any] at hd
    go_simp
    first | exact ⟨Below.refl _ _, rfl⟩ | rfl
  refine seq_var ⟨7, 8, #[.bool false, .int .u64 0, .int .u64 0, .int .u64 0, .int .u64 0], 33⟩ (by simp) rfl ?_ ?_
  · intro u wx hb
    refine ⟨by simp [Region.wanted], ?_⟩
    go_simp
    first | done | rfl | exact ⟨rfl, rfl⟩
  apply seq_sto_agg ⟨7, 8, #[.bool false, .int .u64 0, .int .u64 0, .int .u64 0, .int .u64 0], 33⟩ (by simp) rfl (by kernel_rfl) rfl (by kernel_rfl)
  · intro u wx hb hd
    replace hb := hb.nil
    have hz := hb.size
    (try simp only [World.size_alloc, World.size_setCell] at hz)
    have hz0 : w.heap.size < wx.heap.size := by omega
    have hz1 : w.heap.size + 1 < wx.heap.size := by omega
    have hz2 : w.heap.size + 1 + 1 < wx.heap.size := by omega
    obtain ⟨hc, hf⟩ := bcell hb
    clear hb hz
    simp [depsE, Region.binds, updE, kindOf, Prp.is, Prp.any] at hd
    refine ⟨by simp [Region.wanted], fun b' hub hlb hcells => ?_⟩
    have hub' : u 7 = .pointer (some ⟨b', 0, none⟩) := hub
    have hcells' : wx.heap[b']? = some (.cells #[.bool false, .int .u64 0, .int .u64 0, .int .u64 0, .int .u64 0] 33) := hcells
    have hat := cells_at5 hcells'
    have HCL := Lib.hid hcells'
    clear hcells hcells' hub
    go_simp
    exact Stored.c5 HCL.out _ _ _ _ _
  intro u w5 hb hE hV hP
  replace hb := hb.nil
  clear hP
  have e0 : u 0 = _ := endE_get hE 0 (by decide) (by simp [kindOf])
  have e1 : u 1 = _ := endE_get hE 1 (by decide) (by simp [kindOf])
  have e2 : u 2 = _ := endE_get hE 2 (by decide) (by simp [kindOf])
  have e3 : u 3 = _ := endE_get hE 3 (by decide) (by simp [kindOf])
  have e4 : u 4 = _ := endE_get hE 4 (by decide) (by simp [kindOf])
  have e5 : u 5 = _ := endE_get hE 5 (by decide) (by simp [kindOf])
  have e6 : u 6 = _ := endE_get hE 6 (by decide) (by simp [kindOf])
  have e8 : u 8 = _ := endE_get hE 8 (by decide) (by simp [kindOf])
  obtain ⟨⟨V0, pv0, lv0, qv0⟩, -, -⟩ := hV
  replace qv0 : w5.heap[V0]? = some (.cells (u 8).cells 33) := qv0
  rw [e8] at qv0
  replace pv0 : u 7 = .pointer (some ⟨V0, 0, none⟩) := pv0
  obtain ⟨mV00, mV01, mV02, mV03, mV04, mfV0, msV0⟩ := cells_at5 qv0
  have HQV0 := Lib.hid qv0
  clear qv0
  (try simp only [World.size_alloc, World.size_setCell] at lv0)
  have dV0w50 : V0 ≠ w.heap.size := by omega
  have dV0w51 : V0 ≠ w.heap.size + 1 := by omega
  have dV0w52 : V0 ≠ w.heap.size + 1 + 1 := by omega
  (try have lbV0 : w.heap.size ≤ V0 := by omega)
  clear lv0
  simp only [List.drop_succ_cons, List.drop_zero, List.take_succ_cons, List.take_zero, fillL, Act.put, List.setIfInBounds_toArray, List.set_cons_zero, List.set_cons_succ, e0, e1, e2, e3, e4, e5, e6, e8, pv0]
  clear e0 e1 e2 e3 e4 e5 e6 e8 pv0 hE
  have HBWw5 := Lib.hid hb
  have hw5 := below_step (w := w) (by first | assumption | go_grown) hb
  have hzw5 := hb.size
  (try simp only [World.size_alloc, World.size_setCell] at hzw5)
  have hzw50 : w.heap.size < w5.heap.size := by omega
  have hzw51 : w.heap.size + 1 < w5.heap.size := by omega
  have hzw52 : w.heap.size + 1 + 1 < w5.heap.size := by omega
  have HHw5 := Lib.hid hb.block
  obtain ⟨hcw5, hfw5⟩ := bcell hb
  clear hb hzw5
  have xc0 := (hcw5 w.heap.size 0 (by simp <;> omega)).trans (show _ = some (.bool sx) by simp [go_sem])
  have xc1 := (hcw5 w.heap.size 1 (by simp <;> omega)).trans (show _ = some (.int .u64 (X 0)) by simp [go_sem])
  have xc2 := (hcw5 w.heap.size 2 (by simp <;> omega)).trans (show _ = some (.int .u64 (X 1)) by simp [go_sem])
  have xc3 := (hcw5 w.heap.size 3 (by simp <;> omega)).trans (show _ = some (.int .u64 (X 2)) by simp [go_sem])
  have xc4 := (hcw5 w.heap.size 4 (by simp <;> omega)).trans (show _ = some (.int .u64 (X 3)) by simp [go_sem])
  have rc0 := (hcw5 (w.heap.size + 1 + 1) 0 (by simp <;> omega)).trans (show _ = some (.bool false) by simp [go_sem])
  have rc1 := (hcw5 (w.heap.size + 1 + 1) 1 (by simp <;> omega)).trans (show _ = some (.int .u64 0) by simp [go_sem])
  have rc2 := (hcw5 (w.heap.size + 1 + 1) 2 (by simp <;> omega)).trans (show _ = some (.int .u64 0) by simp [go_sem])
  have rc3 := (hcw5 (w.heap.size + 1 + 1) 3 (by simp <;> omega)).trans (show _ = some (.int .u64 0) by simp [go_sem])
  have rc4 := (hcw5 (w.heap.size + 1 + 1) 4 (by simp <;> omega)).trans (show _ = some (.int .u64 0) by simp [go_sem])
  have rf0 := (hfw5 (w.heap.size + 1 + 1) 0 (by simp <;> omega)).trans (show _ = false by simp [go_sem])
  have rf1 := (hfw5 (w.heap.size + 1 + 1) 1 (by simp <;> omega)).trans (show _ = false by simp [go_sem])
  have rf2 := (hfw5 (w.heap.size + 1 + 1) 2 (by simp <;> omega)).trans (show _ = false by simp [go_sem])
  have rf3 := (hfw5 (w.heap.size + 1 + 1) 3 (by simp <;> omega)).trans (show _ = false by simp [go_sem])
  have rf4 := (hfw5 (w.heap.size + 1 + 1) 4 (by simp <;> omega)).trans (show _ = false by simp [go_sem])
  clear hcw5 hfw5
  go_wp2_with fail
  (go_at_call 51; refine (HAD.out _).mono ?_; rintro e_ w6 ⟨rfl, hb⟩)
  have hz6 := hb.size
  have hB6 : Below w.heap.size w w6 := below_step hw5 hb
  have rd0 := (hb.cell (p := ⟨w.heap.size + 1 + 1, 0, none⟩) (by show w.heap.size + 1 + 1 < _; omega)).trans rc0
  have rg0 := (hb.frozen (p := ⟨w.heap.size + 1 + 1, 0, none⟩) (by show w.heap.size + 1 + 1 < _; omega)).trans rf0
  have rd1 := (hb.cell (p := ⟨w.heap.size + 1 + 1, 1, none⟩) (by show w.heap.size + 1 + 1 < _; omega)).trans rc1
  have rg1 := (hb.frozen (p := ⟨w.heap.size + 1 + 1, 1, none⟩) (by show w.heap.size + 1 + 1 < _; omega)).trans rf1
  have rd2 := (hb.cell (p := ⟨w.heap.size + 1 + 1, 2, none⟩) (by show w.heap.size + 1 + 1 < _; omega)).trans rc2
  have rg2 := (hb.frozen (p := ⟨w.heap.size + 1 + 1, 2, none⟩) (by show w.heap.size + 1 + 1 < _; omega)).trans rf2
  have rd3 := (hb.cell (p := ⟨w.heap.size + 1 + 1, 3, none⟩) (by show w.heap.size + 1 + 1 < _; omega)).trans rc3
  have rg3 := (hb.frozen (p := ⟨w.heap.size + 1 + 1, 3, none⟩) (by show w.heap.size + 1 + 1 < _; omega)).trans rf3
  have rd4 := (hb.cell (p := ⟨w.heap.size + 1 + 1, 4, none⟩) (by show w.heap.size + 1 + 1 < _; omega)).trans rc4
  have rg4 := (hb.frozen (p := ⟨w.heap.size + 1 + 1, 4, none⟩) (by show w.heap.size + 1 + 1 < _; omega)).trans rf4
  have zr6 : w.heap.size + 1 + 1 < w6.heap.size := by omega
  clear hb rc0 rf0 xc0 rc1 rf1 xc1 rc2 rf2 xc2 rc3 rf3 xc3 rc4 rf4 xc4
  go_wp2
  all_goals (refine bodyPost_ret (v := .agg #[.bool sr, .int .u64 (R 0), .int .u64 (R 1), .int .u64 (R 2), .int .u64 (R 3)]) (by simp (maxDischargeDepth := 9) [results, Try.results24, go_sem, *]) rfl ?_)
  exact ⟨rfl, by go_grown⟩

theorem face_congr {np : Nat} {P Q : Nat → V} {f : V} (h : ∀ i, i < np → P i = Q i) (hi : (0 ≤ f.1 ∧ f.1 < np) ∧ (0 ≤ f.2.1 ∧ f.2.1 < np) ∧ 0 ≤ f.2.2 ∧ f.2.2 < np) : pt P f.1 = pt Q f.1 ∧ pt P f.2.1 = pt Q f.2.1 ∧ pt P f.2.2 = pt Q f.2.2 :=
  ⟨h _ (by omega), h _ (by omega), h _ (by omega)⟩
theorem vol_congr {np nf : Nat} {P Q F : Nat → V} (h : ∀ i, i < np → P i = Q i) (hi : ∀ j, j < nf → (0 ≤ (F j).1 ∧ (F j).1 < np) ∧ (0 ≤ (F j).2.1 ∧ (F j).2.1 < np) ∧ 0 ≤ (F j).2.2 ∧ (F j).2.2 < np) : volF P F nf = volF Q F nf :=
  sumTo_congr fun j hj => by
    obtain ⟨h1, h2, h3⟩ := face_congr h (hi j hj)
    unfold fdet
    rw [h1, h2, h3]
theorem mom_congr (c : Nat) {np nf : Nat} {P Q F : Nat → V} (h : ∀ i, i < np → P i = Q i) (hi : ∀ j, j < nf → (0 ≤ (F j).1 ∧ (F j).1 < np) ∧ (0 ≤ (F j).2.1 ∧ (F j).2.1 < np) ∧ 0 ≤ (F j).2.2 ∧ (F j).2.2 < np) : momF c P F nf = momF c Q F nf :=
  sumTo_congr fun j hj => by
    obtain ⟨h1, h2, h3⟩ := face_congr h (hi j hj)
    unfold fdet fsum
    rw [h1, h2, h3]
theorem move_good {np nf : Nat} {P F : Nat → V} {a b c k : Int} (h : moveE np P nf F a b c k = 0) : Good np P nf F ∧ Good np (moveP a b c k P) nf F ∧ volF (moveP a b c k P) F nf = volF P F nf ∧ (k = 0 → ∀ q, momF q (moveP a b c k P) F nf = momF q P F nf + volF P F nf * (4 * cmp3 q (a, b, c))) ∧ InB 524288 (a, b, c) := by
  unfold moveE at h
  split at h
  · rename_i h1; exact absurd h h1
  rename_i hck
  split at h
  · cases h
  rename_i hva
  split at h
  · cases h
  rename_i hin
  have hG : Good np P nf F := check_iff.1 (Decidable.not_not.1 hck)
  have hV : validF (a, b, c) k = true := by cases hq : validF (a, b, c) k with | true => rfl | false => exact absurd hq hva
  have hI : allTo (fun i => inB20 (moveP a b c k P i)) np = true := by cases hq : allTo (fun i => inB20 (moveP a b c k P i)) np with | true => rfl | false => exact absurd hq hin
  unfold validF at hV
  simp only [Bool.and_eq_true, decide_eq_true_eq] at hV
  have hP : ∀ i, i < np → moveP a b c k P i = addV (turnV (P i) k) (a, b, c) := fun i hi => by
    unfold moveP applyF
    rw [if_pos]
    have h1 := hV.1
    have h2 := hG.ins i hi
    unfold InB at h1 h2 ⊢
    omega
  have hvol : volF (moveP a b c k P) F nf = volF P F nf := by
    rw [vol_congr hP hG.idx, vol_move (a, b, c) (fun i => turnV (P i) k) F nf hG.closed]
    exact vol_turn k P F nf
  refine ⟨hG, ⟨hG.n1, hG.n2, fun i hi => of_decide_eq_true (allTo_iff.1 hI i hi), hG.idx, hG.closed, by rw [hvol]; exact hG.pos⟩, hvol, fun hk q => ?_, hV.1⟩
  subst hk
  rw [mom_congr q hP hG.idx, show (fun i => addV (turnV (P i) 0) (a, b, c)) = fun i => addV (P i) (a, b, c) from rfl, mom_move q (a, b, c) P F nf hG.closed]
theorem vol_bd {np nf : Nat} {P F : Nat → V} (h : Good np P nf F) : -14167099448608935641088 ≤ volF P F nf ∧ volF P F nf ≤ 14167099448608935641088 := by
  have hb := sumTo_bd (f := fun j => fdet P (F j)) (B := 6917529027641081856) (n := nf) (fun i hi => h.det hi)
  have h1 := h.n2
  have h2 : (nf : Int) * 6917529027641081856 ≤ 2048 * 6917529027641081856 := Int.mul_le_mul_of_nonneg_right (by omega) (by decide)
  unfold volF
  omega
end Go.Proofs.Ytpjdmjmgkdgfnaa
