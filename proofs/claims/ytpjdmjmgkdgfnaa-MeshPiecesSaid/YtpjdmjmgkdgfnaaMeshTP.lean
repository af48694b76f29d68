/-
  Bounds of the program, by walks. Conditions: none. By an AI agent.
-/
import Derived.Test.YtpjdmjmgkdgfnaaMeshR
namespace Go.Proofs.Ytpjdmjmgkdgfnaa
open Go Go.RowKit
set_option linter.unusedVariables false
set_option linter.unusedSimpArgs false
set_option maxRecDepth 100000

def mn2 (x y : Int) : Int := if y < x then y else x
def mx2 (x y : Int) : Int := if y > x then y else x
theorem run_mn2 (ts : Array TypeId) (t : TypeId) (x y : Int) (w : World) : (Builtin.min_ ts t #[.int .i64 x, .int .i64 y]).run Try.prog w = .ok (.int .i64 (mn2 x y)) w := run_min_int2 w ts t .i64 .i64 x y
theorem run_mx2 (ts : Array TypeId) (t : TypeId) (x y : Int) (w : World) : (Builtin.max_ ts t #[.int .i64 x, .int .i64 y]).run Try.prog w = .ok (.int .i64 (mx2 x y)) w := run_max_int2 w ts t .i64 .i64 x y
/-- the smallest box of the first points, cell by cell -/
def bdF (P : Nat → V) (c : Nat) : Nat → Int
  | 0 => cmp3 (c % 3) (P 0)
  | j + 1 => if c < 3 then mn2 (bdF P c j) (cmp3 c (P j)) else mx2 (bdF P c j) (cmp3 (c - 3) (P j))
def bndF (np : Nat) (P : Nat → V) (nf : Nat) (F : Nat → V) (c : Nat) : Int := if checkM np P nf F = 0 then bdF P c np else 0

theorem good_faces {np : Nat} {P : Nat → V} {nf : Nat} {F : Nat → V} (h : Good np P nf F) : 0 < nf := by
  rcases Nat.eq_zero_or_pos nf with h0 | h0
  · subst h0
    have := h.pos
    simp [volF, sumTo] at this
  · exact h0
theorem good_pts {np : Nat} {P : Nat → V} {nf : Nat} {F : Nat → V} (h : Good np P nf F) : 0 < np := by
  have h1 := h.idx 0 (good_faces h)
  omega

set_option maxHeartbeats 4000000 in
theorem Bounds_any (v : Value) (np nf : Nat) (P F : Nat → V) (w : World) (h : MAt w v np P nf F) :
    Calls Try.prog 21 #[v] w fun e w' => e = .returned (.tuple #[.agg #[.int .i64 (bndF np P nf F 0), .int .i64 (bndF np P nf F 1), .int .i64 (bndF np P nf F 2), .int .i64 (bndF np P nf F 3), .int .i64 (bndF np P nf F 4), .int .i64 (bndF np P nf F 5)], .int .i64 (checkM np P nf F)]) ∧ Below w.heap.size w w' := by
  have HM := Lib.hid h
  obtain ⟨vp, vf, rfl, g1, g2⟩ := h
  obtain ⟨op, cp, rfl, hnp, hcp, help⟩ := g1.form
  obtain ⟨of', cf, rfl, -, -, -⟩ := g2.form
  have HEP := Lib.hid help
  clear g1 g2 help
  obtain ⟨E, hE⟩ : ∃ E, checkM np P nf F = E := ⟨_, rfl⟩
  have HE := Lib.hid hE
  obtain ⟨g0, hg0⟩ : ∃ g, bndF np P nf F 0 = g := ⟨_, rfl⟩
  obtain ⟨g1, hg1⟩ : ∃ g, bndF np P nf F 1 = g := ⟨_, rfl⟩
  obtain ⟨g2, hg2⟩ : ∃ g, bndF np P nf F 2 = g := ⟨_, rfl⟩
  obtain ⟨g3, hg3⟩ : ∃ g, bndF np P nf F 3 = g := ⟨_, rfl⟩
  obtain ⟨g4, hg4⟩ : ∃ g, bndF np P nf F 4 = g := ⟨_, rfl⟩
  obtain ⟨g5, hg5⟩ : ∃ g, bndF np P nf F 5 = g := ⟨_, rfl⟩
  rw [hE, hg0, hg1, hg2, hg3, hg4, hg5]
  by_cases h0 : E = 0
  · subst h0
    have HG : Hid (Good np P nf F) := check_iff.1 HE.out
    have hnp0 : 0 < np := good_pts HG.out
    have HGG : Hid (bdF P 0 np = g0 ∧ bdF P 1 np = g1 ∧ bdF P 2 np = g2 ∧ bdF P 3 np = g3 ∧ bdF P 4 np = g4 ∧ bdF P 5 np = g5) := by
      show _ ∧ _
      rw [← hg0, ← hg1, ← hg2, ← hg3, ← hg4, ← hg5]
      unfold bndF
      simp only [if_pos hE, and_self]
    clear hE hg0 hg1 hg2 hg3 hg4 hg5
    obtain ⟨b0, f0, rfl, hbl0, hcl0⟩ := HEP.out 0 hnp0
    have HC0 := Lib.hid (hcl0 0 hnp0)
    clear hcl0
    go_enter Try.func21, Try.ntmps21
    go_wp2_with fail
    (go_at_call 13; refine (Check_any _ np nf P F _ (HM.out.below (by first | assumption | go_grown))).mono ?_; rintro e_ w1 ⟨rfl, hb⟩)
    have hsw1 := hb.size
    (try simp only [World.size_alloc, World.size_setCell] at hsw1)
    have zzw1 : w.heap.size < w1.heap.size := by omega
    have hPw1 : Below w.heap.size w w1 := below_step (w := w) (by first | exact Below.refl _ _ | go_grown) hb
    have zmw1 : w.heap.size < w1.heap.size := by omega
    have m0w1 : w1.cell? ⟨w.heap.size, 0, none⟩ = some (.slice (some ⟨b0, f0, none⟩) np cp) := (hb.cell (p := ⟨_, _, none⟩) (by simp <;> omega)).trans (by simp [go_sem])
    have m1w1 : w1.cell? ⟨w.heap.size, 1, none⟩ = some (.slice of' nf cf) := (hb.cell (p := ⟨_, _, none⟩) (by simp <;> omega)).trans (by simp [go_sem])
    have zrw1 : w.heap.size + 1 < w1.heap.size := by omega
    have r0w1 : w1.cell? ⟨w.heap.size + 1, 0, none⟩ = some (.int .i64 0) := (hb.cell (p := ⟨_, _, none⟩) (by simp <;> omega)).trans (by simp [go_sem])
    have r1w1 : w1.cell? ⟨w.heap.size + 1, 1, none⟩ = some (.int .i64 0) := (hb.cell (p := ⟨_, _, none⟩) (by simp <;> omega)).trans (by simp [go_sem])
    have r2w1 : w1.cell? ⟨w.heap.size + 1, 2, none⟩ = some (.int .i64 0) := (hb.cell (p := ⟨_, _, none⟩) (by simp <;> omega)).trans (by simp [go_sem])
    have r3w1 : w1.cell? ⟨w.heap.size + 1, 3, none⟩ = some (.int .i64 0) := (hb.cell (p := ⟨_, _, none⟩) (by simp <;> omega)).trans (by simp [go_sem])
    have r4w1 : w1.cell? ⟨w.heap.size + 1, 4, none⟩ = some (.int .i64 0) := (hb.cell (p := ⟨_, _, none⟩) (by simp <;> omega)).trans (by simp [go_sem])
    have r5w1 : w1.cell? ⟨w.heap.size + 1, 5, none⟩ = some (.int .i64 0) := (hb.cell (p := ⟨_, _, none⟩) (by simp <;> omega)).trans (by simp [go_sem])
    have fr0w1 : w1.frozen? ⟨w.heap.size + 1, 0, none⟩ = false := (hb.frozen (p := ⟨_, _, none⟩) (by simp <;> omega)).trans (by simp [go_sem])
    have fr1w1 : w1.frozen? ⟨w.heap.size + 1, 1, none⟩ = false := (hb.frozen (p := ⟨_, _, none⟩) (by simp <;> omega)).trans (by simp [go_sem])
    have fr2w1 : w1.frozen? ⟨w.heap.size + 1, 2, none⟩ = false := (hb.frozen (p := ⟨_, _, none⟩) (by simp <;> omega)).trans (by simp [go_sem])
    have fr3w1 : w1.frozen? ⟨w.heap.size + 1, 3, none⟩ = false := (hb.frozen (p := ⟨_, _, none⟩) (by simp <;> omega)).trans (by simp [go_sem])
    have fr4w1 : w1.frozen? ⟨w.heap.size + 1, 4, none⟩ = false := (hb.frozen (p := ⟨_, _, none⟩) (by simp <;> omega)).trans (by simp [go_sem])
    have fr5w1 : w1.frozen? ⟨w.heap.size + 1, 5, none⟩ = false := (hb.frozen (p := ⟨_, _, none⟩) (by simp <;> omega)).trans (by simp [go_sem])
    have hBw1 : Below w.heap.size w w1 := below_step (w := w) (by first | assumption | go_grown) hb
    rw [HE.out]
    clear hb hsw1 hPw1
    obtain ⟨x0, hx0⟩ : ∃ x, (P 0).1 = x := ⟨_, rfl⟩
    obtain ⟨y0, hy0⟩ : ∃ x, (P 0).2.1 = x := ⟨_, rfl⟩
    obtain ⟨z0, hz0⟩ : ∃ x, (P 0).2.2 = x := ⟨_, rfl⟩
    have c00 : w1.cell? ⟨b0, f0, none⟩ = some (.int .i64 x0) := (hBw1.cell (p := ⟨_, _, none⟩) hbl0).trans (by rw [← hx0]; simpa using HC0.out.1)
    have c01 : w1.cell? ⟨b0, f0 + 1, none⟩ = some (.int .i64 y0) := (hBw1.cell (p := ⟨_, _, none⟩) hbl0).trans (by rw [← hy0]; simpa using HC0.out.2.1)
    have c02 : w1.cell? ⟨b0, f0 + 2, none⟩ = some (.int .i64 z0) := (hBw1.cell (p := ⟨_, _, none⟩) hbl0).trans (by rw [← hz0]; simpa using HC0.out.2.2)
    have hb0 : b0 < w1.heap.size := by have := hBw1.size; omega
    have HX0 := Lib.hid (And.intro hx0 (And.intro hy0 hz0))
    have k00 : (0 : Int) < (np : Int) := by omega
    clear hx0 hy0 hz0
    go_wp2_with fail
    refine wp_region_seq 11 [⟨9, 10, #[.int .i64 0, .int .i64 0, .int .i64 0, .int .i64 0, .int .i64 0, .int .i64 0], 46⟩] [] (by kernel_rfl) (by kernel_rfl) (by kernel_rfl) (by kernel_rfl) (by kernel_rfl) ?_ ?_ ?_
    · intro r hr; cases hr
    · intro r hr; cases hr
    simp only [List.take_succ_cons, List.take_zero, fillL, Act.put, List.setIfInBounds_toArray, List.set_cons_zero, List.set_cons_succ]
    apply seq_is (by kernel_rfl)
    · intro u wx hb hd
      replace hb := hb.nil
      have hz := hb.size
      (try simp only [World.size_alloc, World.size_setCell] at hz)
      have hz0 : w.heap.size < wx.heap.size := by omega
      have hz1 : b0 < wx.heap.size := by omega
      obtain ⟨hc, hf⟩ := bcell hb
      clear hb hz
      simp [depsE, Region.binds, updE, kindOf, Prp.is, Prp.any] at hd
      go_simp
      first | exact ⟨Below.refl _ _, rfl⟩ | rfl
    apply seq_is (by kernel_rfl)
    · intro u wx hb hd
      replace hb := hb.nil
      have hz := hb.size
      (try simp only [World.size_alloc, World.size_setCell] at hz)
      have hz0 : w.heap.size < wx.heap.size := by omega
      have hz1 : b0 < wx.heap.size := by omega
      obtain ⟨hc, hf⟩ := bcell hb
      clear hb hz
      simp [depsE, Region.binds, updE, kindOf, Prp.is, Prp.any] at hd
      go_simp
      first | exact ⟨Below.refl _ _, rfl⟩ | rfl
    apply seq_is (by kernel_rfl)
    · intro u wx hb hd
      replace hb := hb.nil
      have hz := hb.size
      (try simp only [World.size_alloc, World.size_setCell] at hz)
      have hz0 : w.heap.size < wx.heap.size := by omega
      have hz1 : b0 < wx.heap.size := by omega
      obtain ⟨hc, hf⟩ := bcell hb
      clear hb hz
      simp [depsE, Region.binds, updE, kindOf, Prp.is, Prp.any] at hd
      go_simp
      first | exact ⟨Below.refl _ _, rfl⟩ | rfl
    apply seq_is (by kernel_rfl)
    · intro u wx hb hd
      replace hb := hb.nil
      have hz := hb.size
      (try simp only [World.size_alloc, World.size_setCell] at hz)
      have hz0 : w.heap.size < wx.heap.size := by omega
      have hz1 : b0 < wx.heap.size := by omega
      obtain ⟨hc, hf⟩ := bcell hb
      clear hb hz
      simp [depsE, Region.binds, updE, kindOf, Prp.is, Prp.any] at hd
      go_simp
      first | exact ⟨Below.refl _ _, rfl⟩ | rfl
    apply seq_is (by kernel_rfl)
    · intro u wx hb hd
      replace hb := hb.nil
      have hz := hb.size
      (try simp only [World.size_alloc, World.size_setCell] at hz)
      have hz0 : w.heap.size < wx.heap.size := by omega
      have hz1 : b0 < wx.heap.size := by omega
      obtain ⟨hc, hf⟩ := bcell hb
      clear hb hz
      simp [depsE, Region.binds, updE, kindOf, Prp.is, Prp.any] at hd
      go_simp
      first | exact ⟨Below.refl _ _, rfl⟩ | rfl
    apply seq_is (by kernel_rfl)
    · intro u wx hb hd
      replace hb := hb.nil
      have hz := hb.size
      (try simp only [World.size_alloc, World.size_setCell] at hz)
      have hz0 : w.heap.size < wx.heap.size := by omega
      have hz1 : b0 < wx.heap.size := by omega
      obtain ⟨hc, hf⟩ := bcell hb
      clear hb hz
      simp [depsE, Region.binds, updE, kindOf, Prp.is, Prp.any] at hd
      go_simp
      first | exact ⟨Below.refl _ _, rfl⟩ | rfl
    apply seq_is (by kernel_rfl)
    · intro u wx hb hd
      replace hb := hb.nil
      have hz := hb.size
      (try simp only [World.size_alloc, World.size_setCell] at hz)
      have hz0 : w.heap.size < wx.heap.size := by omega
      have hz1 : b0 < wx.heap.size := by omega
      obtain ⟨hc, hf⟩ := bcell hb
      clear hb hz
      simp [depsE, Region.binds, updE, kindOf, Prp.is, Prp.any] at hd
      go_simp
      first | exact ⟨Below.refl _ _, rfl⟩ | rfl
    apply seq_is (by kernel_rfl)
    · intro u wx hb hd
      replace hb := hb.nil
      have hz := hb.size
      (try simp only [World.size_alloc, World.size_setCell] at hz)
      have hz0 : w.heap.size < wx.heap.size := by omega
      have hz1 : b0 < wx.heap.size := by omega
      obtain ⟨hc, hf⟩ := bcell hb
      clear hb hz
      simp [depsE, Region.binds, updE, kindOf, Prp.is, Prp.any] at hd
      go_simp
      first | exact ⟨Below.refl _ _, rfl⟩ | rfl
    apply seq_is (by kernel_rfl)
    · intro u wx hb hd
      replace hb := hb.nil
      have hz := hb.size
      (try simp only [World.size_alloc, World.size_setCell] at hz)
      have hz0 : w.heap.size < wx.heap.size := by omega
      have hz1 : b0 < wx.heap.size := by omega
      obtain ⟨hc, hf⟩ := bcell hb
      clear hb hz
      simp [depsE, Region.binds, updE, kindOf, Prp.is, Prp.any] at hd
      go_simp
      first | exact ⟨Below.refl _ _, rfl⟩ | rfl
    refine seq_var ⟨9, 10, #[.int .i64 0, .int .i64 0, .int .i64 0, .int .i64 0, .int .i64 0, .int .i64 0], 46⟩ (by simp) rfl ?_ ?_
    · intro u wx hb
      refine ⟨by simp [Region.wanted], ?_⟩
      go_simp
      first | done | rfl | exact ⟨rfl, rfl⟩
    apply seq_sto_agg ⟨9, 10, #[.int .i64 0, .int .i64 0, .int .i64 0, .int .i64 0, .int .i64 0, .int .i64 0], 46⟩ (by simp) rfl (by kernel_rfl) rfl (by kernel_rfl)
    · intro u wx hb hd
      replace hb := hb.nil
      have hz := hb.size
      (try simp only [World.size_alloc, World.size_setCell] at hz)
      have hz0 : w.heap.size < wx.heap.size := by omega
      have hz1 : b0 < wx.heap.size := by omega
      obtain ⟨hc, hf⟩ := bcell hb
      clear hb hz
      simp [depsE, Region.binds, updE, kindOf, Prp.is, Prp.any] at hd
      refine ⟨by simp [Region.wanted], fun b' hub hlb hcells => ?_⟩
      have hub' : u 9 = .pointer (some ⟨b', 0, none⟩) := hub
      have hcells' : wx.heap[b']? = some (.cells #[.int .i64 0, .int .i64 0, .int .i64 0, .int .i64 0, .int .i64 0, .int .i64 0] 46) := hcells
      have hat := cells_at6 hcells'
      have HCL := Lib.hid hcells'
      clear hcells hcells' hub
      go_simp
      exact Stored.c6 HCL.out _ _ _ _ _ _
    intro u w5 hb hE hV hP
    replace hb := hb.nil
    clear hP
    have e0 : u 0 = _ := endE_get hE 0 (by decide) (by simp [kindOf])
    have e1 : u 1 = _ := endE_get hE 1 (by decide) (by simp [kindOf])
    have e2 : u 2 = _ := endE_get hE 2 (by decide) (by simp [kindOf])
    have e3 : u 3 = _ := endE_get hE 3 (by decide) (by simp [kindOf])
    have e4 : u 4 = _ := endE_get hE 4 (by decide) (by simp [kindOf])
    have e5 : u 5 = _ := endE_get hE 5 (by decide) (by simp [kindOf])
    have e6 : u 6 = _ := endE_get hE 6 (by decide) (by simp [kindOf])
    have e7 : u 7 = _ := endE_get hE 7 (by decide) (by simp [kindOf])
    have e8 : u 8 = _ := endE_get hE 8 (by decide) (by simp [kindOf])
    have e10 : u 10 = _ := endE_get hE 10 (by decide) (by simp [kindOf])
    obtain ⟨⟨V0, pv0, lv0, qv0⟩, -, -⟩ := hV
    replace qv0 : w5.heap[V0]? = some (.cells (u 10).cells 46) := qv0
    rw [e10] at qv0
    replace pv0 : u 9 = .pointer (some ⟨V0, 0, none⟩) := pv0
    obtain ⟨mV00, mV01, mV02, mV03, mV04, mV05, mfV0, msV0⟩ := cells_at6 qv0
    have HQV0 := Lib.hid qv0
    clear qv0
    (try simp only [World.size_alloc, World.size_setCell] at lv0)
    have dV0w50 : V0 ≠ w.heap.size := by omega
    have dV0w51 : V0 ≠ b0 := by omega
    (try have lbV0 : w1.heap.size ≤ V0 := by omega)
    clear lv0
    simp only [List.drop_succ_cons, List.drop_zero, List.take_succ_cons, List.take_zero, fillL, Act.put, List.setIfInBounds_toArray, List.set_cons_zero, List.set_cons_succ, e0, e1, e2, e3, e4, e5, e6, e7, e8, e10, pv0]
    clear e0 e1 e2 e3 e4 e5 e6 e7 e8 e10 pv0 hE
    have HBWw5 := Lib.hid hb
    have hw5 := below_step (w := w1) (by first | assumption | go_grown) hb
    have hzw5 := hb.size
    (try simp only [World.size_alloc, World.size_setCell] at hzw5)
    have hzw50 : w.heap.size < w5.heap.size := by omega
    have hzw51 : b0 < w5.heap.size := by omega
    have HHw5 := Lib.hid hb.block
    obtain ⟨hcw5, hfw5⟩ := bcell hb
    clear hb hzw5
    have m0w5 : w5.cell? ⟨w.heap.size, 0, none⟩ = some (.slice (some ⟨b0, f0, none⟩) np cp) := (hw5.cell (p := ⟨_, _, none⟩) zmw1).trans m0w1
    have zzw5 : w.heap.size < w5.heap.size := by omega
    clear hcw5 hfw5 HBWw5 c00 c01 c02 k00
    go_wp2
    go_loopw [26] (fun i wr => ∃ j : Nat, j ≤ np ∧ i = .int .i64 j ∧ wr.cell? ⟨V0, 0, none⟩ = some (.int .i64 (bdF P 0 j)) ∧ wr.cell? ⟨V0, 1, none⟩ = some (.int .i64 (bdF P 1 j)) ∧ wr.cell? ⟨V0, 2, none⟩ = some (.int .i64 (bdF P 2 j)) ∧ wr.cell? ⟨V0, 3, none⟩ = some (.int .i64 (bdF P 3 j)) ∧ wr.cell? ⟨V0, 4, none⟩ = some (.int .i64 (bdF P 4 j)) ∧ wr.cell? ⟨V0, 5, none⟩ = some (.int .i64 (bdF P 5 j)) ∧ Hid (∀ i, wr.frozen? ⟨V0, i, none⟩ = false) ∧ V0 < wr.heap.size ∧ Below w1.heap.size w1 wr) (fun i _ => np - (intOf i).toNat)
    case atStart =>
      refine ⟨0, by omega, rfl, ?_, ?_, ?_, ?_, ?_, ?_, mfV0, msV0, hw5⟩
      · rw [mV00, ← HX0.out.1]; rfl
      · rw [mV01, ← HX0.out.2.1]; rfl
      · rw [mV02, ← HX0.out.2.2]; rfl
      · rw [mV03, ← HX0.out.1]; rfl
      · rw [mV04, ← HX0.out.2.1]; rfl
      · rw [mV05, ← HX0.out.2.2]; rfl
    case round =>
      clear m0w5 zzw5 mV00 mV01 mV02 mV03 mV04 mV05 mfV0 msV0
      obtain ⟨w4, rfl⟩ : ∃ x : World, x = wr := ⟨_, rfl⟩
      obtain ⟨j, hj, rfl, q0, q1, q2, q3, q4, q5, HFZ, zVw4, hB14⟩ := hrel
      have HB14 := Lib.hid hB14
      have hBw4 : Below w.heap.size w w4 := below_step hBw1 hB14
      have m0w4 : w4.cell? ⟨w.heap.size, 0, none⟩ = some (.slice (some ⟨b0, f0, none⟩) np cp) := (hB14.cell (p := ⟨_, _, none⟩) zmw1).trans m0w1
      have hs14 := hB14.size
      have zmw4 : w.heap.size < w4.heap.size := by omega
      by_cases hlt : j < np
      · obtain ⟨b1, f1, he1, hbl1, hcl1⟩ := HEP.out j hlt
        cases he1
        have hbr : b0 < w4.heap.size := by omega
        have c0 : w4.cell? ⟨b0, f0 + j * 3, none⟩ = some (.int .i64 (P j).1) := (hBw4.cell (p := ⟨_, _, none⟩) hbl1).trans (hcl1 j hlt).1
        have c1 : w4.cell? ⟨b0, f0 + j * 3 + 1, none⟩ = some (.int .i64 (P j).2.1) := (hBw4.cell (p := ⟨_, _, none⟩) hbl1).trans (hcl1 j hlt).2.1
        have c2 : w4.cell? ⟨b0, f0 + j * 3 + 2, none⟩ = some (.int .i64 (P j).2.2) := (hBw4.cell (p := ⟨_, _, none⟩) hbl1).trans (hcl1 j hlt).2.2
        have k0 : (0 : Int) ≤ (j : Int) := by omega
        have k1 : (j : Int) < (np : Int) := by omega
        clear hcl1 hs14
        obtain ⟨x, hx⟩ : ∃ x, (P j).1 = x := ⟨_, rfl⟩
        obtain ⟨y, hy⟩ : ∃ x, (P j).2.1 = x := ⟨_, rfl⟩
        obtain ⟨z, hz⟩ : ∃ x, (P j).2.2 = x := ⟨_, rfl⟩
        obtain ⟨o0, ho0⟩ : ∃ o, bdF P 0 j = o := ⟨_, rfl⟩
        obtain ⟨n0, hn0⟩ : ∃ n, mn2 o0 x = n := ⟨_, rfl⟩
        have HN0 : Hid (bdF P 0 (j + 1) = n0) := by
          show _ = _
          rw [← hn0, ← ho0, ← hx]
          rfl
        have r0 := run_mn2 (x := o0) (y := x)
        rw [hn0] at r0
        rw [ho0] at q0
        obtain ⟨o1, ho1⟩ : ∃ o, bdF P 1 j = o := ⟨_, rfl⟩
        obtain ⟨n1, hn1⟩ : ∃ n, mn2 o1 y = n := ⟨_, rfl⟩
        have HN1 : Hid (bdF P 1 (j + 1) = n1) := by
          show _ = _
          rw [← hn1, ← ho1, ← hy]
          rfl
        have r1 := run_mn2 (x := o1) (y := y)
        rw [hn1] at r1
        rw [ho1] at q1
        obtain ⟨o2, ho2⟩ : ∃ o, bdF P 2 j = o := ⟨_, rfl⟩
        obtain ⟨n2, hn2⟩ : ∃ n, mn2 o2 z = n := ⟨_, rfl⟩
        have HN2 : Hid (bdF P 2 (j + 1) = n2) := by
          show _ = _
          rw [← hn2, ← ho2, ← hz]
          rfl
        have r2 := run_mn2 (x := o2) (y := z)
        rw [hn2] at r2
        rw [ho2] at q2
        obtain ⟨o3, ho3⟩ : ∃ o, bdF P 3 j = o := ⟨_, rfl⟩
        obtain ⟨n3, hn3⟩ : ∃ n, mx2 o3 x = n := ⟨_, rfl⟩
        have HN3 : Hid (bdF P 3 (j + 1) = n3) := by
          show _ = _
          rw [← hn3, ← ho3, ← hx]
          rfl
        have r3 := run_mx2 (x := o3) (y := x)
        rw [hn3] at r3
        rw [ho3] at q3
        obtain ⟨o4, ho4⟩ : ∃ o, bdF P 4 j = o := ⟨_, rfl⟩
        obtain ⟨n4, hn4⟩ : ∃ n, mx2 o4 y = n := ⟨_, rfl⟩
        have HN4 : Hid (bdF P 4 (j + 1) = n4) := by
          show _ = _
          rw [← hn4, ← ho4, ← hy]
          rfl
        have r4 := run_mx2 (x := o4) (y := y)
        rw [hn4] at r4
        rw [ho4] at q4
        obtain ⟨o5, ho5⟩ : ∃ o, bdF P 5 j = o := ⟨_, rfl⟩
        obtain ⟨n5, hn5⟩ : ∃ n, mx2 o5 z = n := ⟨_, rfl⟩
        have HN5 : Hid (bdF P 5 (j + 1) = n5) := by
          show _ = _
          rw [← hn5, ← ho5, ← hz]
          rfl
        have r5 := run_mx2 (x := o5) (y := z)
        rw [hn5] at r5
        rw [ho5] at q5
        rw [hx] at c0
        rw [hy] at c1
        rw [hz] at c2
        have fz0 := HFZ.out 0
        have fz1 := HFZ.out 1
        have fz2 := HFZ.out 2
        have fz3 := HFZ.out 3
        have fz4 := HFZ.out 4
        have fz5 := HFZ.out 5
        have dV4 : V0 ≠ w4.heap.size := by omega
        have dV4' : w4.heap.size ≠ V0 := by omega
        clear hx hy hz ho0 hn0 ho1 hn1 ho2 hn2 ho3 hn3 ho4 hn4 ho5 hn5
        go_wp2
        go_roundw
        case rel =>
          refine ⟨j + 1, by omega, by go_num, ?_, ?_, ?_, ?_, ?_, ?_, fun i => ?_, by simp <;> omega, by have h := HB14.out; go_grown⟩
          · rw [HN0.out]; simp [go_sem, *]
          · rw [HN1.out]; simp [go_sem, *]
          · rw [HN2.out]; simp [go_sem, *]
          · rw [HN3.out]; simp [go_sem, *]
          · rw [HN4.out]; simp [go_sem, *]
          · rw [HN5.out]; simp [go_sem, *]
          · have h := HFZ.out i
            simp [World.frozen?_setCell, go_sem, *]
        case measure => simp [intOf]; omega
      · obtain rfl : j = np := by omega
        have HX := HGG.out
        rw [HX.1] at q0
        rw [HX.2.1] at q1
        rw [HX.2.2.1] at q2
        rw [HX.2.2.2.1] at q3
        rw [HX.2.2.2.2.1] at q4
        rw [HX.2.2.2.2.2] at q5
        clear HX
        have zrw4 : w.heap.size + 1 < w4.heap.size := by omega
        have r0w4 : w4.cell? ⟨w.heap.size + 1, 0, none⟩ = some (.int .i64 0) := (hB14.cell (p := ⟨_, _, none⟩) zrw1).trans r0w1
        have fr0w4 : w4.frozen? ⟨w.heap.size + 1, 0, none⟩ = false := (hB14.frozen (p := ⟨_, _, none⟩) zrw1).trans fr0w1
        have r1w4 : w4.cell? ⟨w.heap.size + 1, 1, none⟩ = some (.int .i64 0) := (hB14.cell (p := ⟨_, _, none⟩) zrw1).trans r1w1
        have fr1w4 : w4.frozen? ⟨w.heap.size + 1, 1, none⟩ = false := (hB14.frozen (p := ⟨_, _, none⟩) zrw1).trans fr1w1
        have r2w4 : w4.cell? ⟨w.heap.size + 1, 2, none⟩ = some (.int .i64 0) := (hB14.cell (p := ⟨_, _, none⟩) zrw1).trans r2w1
        have fr2w4 : w4.frozen? ⟨w.heap.size + 1, 2, none⟩ = false := (hB14.frozen (p := ⟨_, _, none⟩) zrw1).trans fr2w1
        have r3w4 : w4.cell? ⟨w.heap.size + 1, 3, none⟩ = some (.int .i64 0) := (hB14.cell (p := ⟨_, _, none⟩) zrw1).trans r3w1
        have fr3w4 : w4.frozen? ⟨w.heap.size + 1, 3, none⟩ = false := (hB14.frozen (p := ⟨_, _, none⟩) zrw1).trans fr3w1
        have r4w4 : w4.cell? ⟨w.heap.size + 1, 4, none⟩ = some (.int .i64 0) := (hB14.cell (p := ⟨_, _, none⟩) zrw1).trans r4w1
        have fr4w4 : w4.frozen? ⟨w.heap.size + 1, 4, none⟩ = false := (hB14.frozen (p := ⟨_, _, none⟩) zrw1).trans fr4w1
        have r5w4 : w4.cell? ⟨w.heap.size + 1, 5, none⟩ = some (.int .i64 0) := (hB14.cell (p := ⟨_, _, none⟩) zrw1).trans r5w1
        have fr5w4 : w4.frozen? ⟨w.heap.size + 1, 5, none⟩ = false := (hB14.frozen (p := ⟨_, _, none⟩) zrw1).trans fr5w1
        clear hs14 r0w1 fr0w1 r1w1 fr1w1 r2w1 fr2w1 r3w1 fr3w1 r4w1 fr4w1 r5w1 fr5w1
        go_wp2
        all_goals (refine bodyPost_ret (v := .tuple #[.agg #[.int .i64 g0, .int .i64 g1, .int .i64 g2, .int .i64 g3, .int .i64 g4, .int .i64 g5], .int .i64 0]) (by simp (maxDischargeDepth := 9) [results, Try.results21, go_sem, *]) rfl ?_)
        exact ⟨rfl, by go_grown⟩
  · have kE2 : (E == 0) = false := by simpa using h0
    have kE3 : (E != 0) = true := by simpa using h0
    have HZ : Hid (g0 = 0 ∧ g1 = 0 ∧ g2 = 0 ∧ g3 = 0 ∧ g4 = 0 ∧ g5 = 0) := by
      show _ ∧ _
      rw [← hg0, ← hg1, ← hg2, ← hg3, ← hg4, ← hg5]
      unfold bndF
      simp only [if_neg (show ¬ checkM np P nf F = 0 by rw [hE]; exact h0), and_self]
    rw [HZ.out.1, HZ.out.2.1, HZ.out.2.2.1, HZ.out.2.2.2.1, HZ.out.2.2.2.2.1, HZ.out.2.2.2.2.2]
    clear hE hg0 hg1 hg2 hg3 hg4 hg5 h0
    go_enter Try.func21, Try.ntmps21
    go_wp2_with fail
    (go_at_call 13; refine (Check_any _ np nf P F _ (HM.out.below (by first | assumption | go_grown))).mono ?_; rintro e_ w1 ⟨rfl, hb⟩)
    have hsw1 := hb.size
    (try simp only [World.size_alloc, World.size_setCell] at hsw1)
    have zzw1 : w.heap.size < w1.heap.size := by omega
    have hPw1 : Below w.heap.size w w1 := below_step (w := w) (by first | exact Below.refl _ _ | go_grown) hb
    have zmw1 : w.heap.size < w1.heap.size := by omega
    have m0w1 : w1.cell? ⟨w.heap.size, 0, none⟩ = some (.slice op np cp) := (hb.cell (p := ⟨_, _, none⟩) (by simp <;> omega)).trans (by simp [go_sem])
    have m1w1 : w1.cell? ⟨w.heap.size, 1, none⟩ = some (.slice of' nf cf) := (hb.cell (p := ⟨_, _, none⟩) (by simp <;> omega)).trans (by simp [go_sem])
    have zrw1 : w.heap.size + 1 < w1.heap.size := by omega
    have r0w1 : w1.cell? ⟨w.heap.size + 1, 0, none⟩ = some (.int .i64 0) := (hb.cell (p := ⟨_, _, none⟩) (by simp <;> omega)).trans (by simp [go_sem])
    have r1w1 : w1.cell? ⟨w.heap.size + 1, 1, none⟩ = some (.int .i64 0) := (hb.cell (p := ⟨_, _, none⟩) (by simp <;> omega)).trans (by simp [go_sem])
    have r2w1 : w1.cell? ⟨w.heap.size + 1, 2, none⟩ = some (.int .i64 0) := (hb.cell (p := ⟨_, _, none⟩) (by simp <;> omega)).trans (by simp [go_sem])
    have r3w1 : w1.cell? ⟨w.heap.size + 1, 3, none⟩ = some (.int .i64 0) := (hb.cell (p := ⟨_, _, none⟩) (by simp <;> omega)).trans (by simp [go_sem])
    have r4w1 : w1.cell? ⟨w.heap.size + 1, 4, none⟩ = some (.int .i64 0) := (hb.cell (p := ⟨_, _, none⟩) (by simp <;> omega)).trans (by simp [go_sem])
    have r5w1 : w1.cell? ⟨w.heap.size + 1, 5, none⟩ = some (.int .i64 0) := (hb.cell (p := ⟨_, _, none⟩) (by simp <;> omega)).trans (by simp [go_sem])
    have fr0w1 : w1.frozen? ⟨w.heap.size + 1, 0, none⟩ = false := (hb.frozen (p := ⟨_, _, none⟩) (by simp <;> omega)).trans (by simp [go_sem])
    have fr1w1 : w1.frozen? ⟨w.heap.size + 1, 1, none⟩ = false := (hb.frozen (p := ⟨_, _, none⟩) (by simp <;> omega)).trans (by simp [go_sem])
    have fr2w1 : w1.frozen? ⟨w.heap.size + 1, 2, none⟩ = false := (hb.frozen (p := ⟨_, _, none⟩) (by simp <;> omega)).trans (by simp [go_sem])
    have fr3w1 : w1.frozen? ⟨w.heap.size + 1, 3, none⟩ = false := (hb.frozen (p := ⟨_, _, none⟩) (by simp <;> omega)).trans (by simp [go_sem])
    have fr4w1 : w1.frozen? ⟨w.heap.size + 1, 4, none⟩ = false := (hb.frozen (p := ⟨_, _, none⟩) (by simp <;> omega)).trans (by simp [go_sem])
    have fr5w1 : w1.frozen? ⟨w.heap.size + 1, 5, none⟩ = false := (hb.frozen (p := ⟨_, _, none⟩) (by simp <;> omega)).trans (by simp [go_sem])
    have hBw1 : Below w.heap.size w w1 := below_step (w := w) (by first | assumption | go_grown) hb
    rw [HE.out]
    clear hb hsw1 hPw1
    go_wp2
    all_goals (refine bodyPost_ret (v := .tuple #[.agg #[.int .i64 0, .int .i64 0, .int .i64 0, .int .i64 0, .int .i64 0, .int .i64 0], .int .i64 E]) (by simp (maxDischargeDepth := 9) [results, Try.results21, go_sem, *]) rfl ?_)
    exact ⟨rfl, by go_grown⟩
end Go.Proofs.Ytpjdmjmgkdgfnaa
