/-
  Lemmas of this claim, joined (PlJ, PlN, PlS, PlT, PmA, PmB, PlU, PlV, Relc, Relm, Own, PlW). Conditions: as stated. By an AI agent.
-/
import Derived.Test.YtgbhhjdmochhpaaDoorJ7
import Derived.Test.YtgbhhjdmochhpaaDoorJ3
import Derived.Test.YtgbhhjdmochhpaaDoorJ6
import Derived.Test.YtgbhhjdmochhpaaDoorJ1
namespace Go.Proofs.YtgbhhjdmochhpaaDoor
open Go Go.ChangeShapes Go.WideShapes Go.RowKit Go.ChangeAt
set_option linter.unusedVariables false
set_option linter.unusedSimpArgs false

set_option maxHeartbeats 4000000 in
set_option maxRecDepth 20000 in
theorem edges_touch (v u : Value) (n m : Nat) (P Q : Nat → Pt) (w : World) (h : PtsAt w v n P) (h' : PtsAt w u m Q) (hP : Hid (∀ i, i < n → nearB 32768 (P i) = true)) (hQ : Hid (∀ i, i < m → nearB 32768 (Q i) = true)) :
    Calls Tryd.prog 61 #[v, u, .func (.func 62) #[] #[]] w fun e w' => e = .returned (.bool (crossB n P m Q)) ∧ Below w.heap.size w w' := by
  obtain ⟨oa, cap, rfl, hn, hc, hel⟩ := h.form
  obtain ⟨ob, cap', rfl, hn', hc', hel'⟩ := h'.form
  have HEL := Lib.hid hel
  have HEL' := Lib.hid hel'
  clear h hel h' hel'
  obtain ⟨R, hR⟩ : ∃ R, crossB n P m Q = R := ⟨_, rfl⟩
  have HR := Lib.hid hR
  rw [hR]
  clear hR
  go_enter Tryd.func61, Tryd.ntmps61
  go_wp2
  go_loopw [13] (fun i wr => ∃ j : Nat, j ≤ n ∧ i = .int .i64 j ∧ Hid (∀ i, i < j → ∀ k, k < m → decide (meets (P i) (P (nx n i)) (Q k) (Q (nx m k))) = false) ∧ Below w.heap.size w wr) (fun i _ => n - (intOf i).toNat)
  case atStart => exact ⟨0, by omega, rfl, fun k hk => absurd hk (by omega), Below.refl _ _⟩
  case round =>
    obtain ⟨w1, rfl⟩ : ∃ x : World, x = wr := ⟨_, rfl⟩
    obtain ⟨j, hj, rfl, hq0, hB1⟩ := hrel
    have HB1r := Lib.hid hB1
    by_cases hlt : j < n
    · obtain ⟨bk1, f1, rfl, hbl1, hcl1⟩ := HEL.out j hlt
      obtain ⟨J1, hJ1⟩ : ∃ e, (j : Int) + 1 = e := ⟨_, rfl⟩
      obtain ⟨q, hq⟩ : ∃ q, nx n j = q := ⟨_, rfl⟩
      have qn : q < n := by rw [← hq]; exact nx_lt (by omega)
      have i1 : IntKind.i64.wrap ((j : Int) + 1) = J1 := by rw [hJ1]; exact IntWalk.i64_in _ (by omega)
      have i2 : J1.tmod (n : Int) = (q : Int) := by rw [← hJ1, ← hq]; exact nx_mod hlt
      have i3 : IntKind.i64.wrap (q : Int) = (q : Int) := IntWalk.i64_in _ (by omega)
      have i4 : ((n : Int) == 0) = false := by simp; omega
      have i0 : ¬ n = 0 := by omega
      have i5 : (0 : Int) ≤ (q : Int) := by omega
      have i6 : (q : Int) < (n : Int) := by omega
      have i7 : IntKind.i64.wrap (J1.tmod (n : Int)) = (q : Int) := by rw [i2]; exact i3
      have HJ1 := Lib.hid hJ1
      have Hq := Lib.hid hq
      have i8 : (0 : Int) ≤ (j : Int) := by omega
      have i9 : (j : Int) < (n : Int) := by omega
      clear hJ1 hq
      have pa0 : w1.cell? ⟨bk1, f1 + j * 2, none⟩ = some (.int .i64 (P j).1) := (hB1.cell (p := ⟨_, _, none⟩) hbl1).trans (hcl1 j hlt).1
      have pa1 : w1.cell? ⟨bk1, f1 + j * 2 + 1, none⟩ = some (.int .i64 (P j).2) := (hB1.cell (p := ⟨_, _, none⟩) hbl1).trans (hcl1 j hlt).2
      have zb0 : bk1 < w1.heap.size := by have := hB1.size; omega
      obtain ⟨a1, ha1⟩ : ∃ e, (P j).1 = e := ⟨_, rfl⟩
      obtain ⟨a2, ha2⟩ : ∃ e, (P j).2 = e := ⟨_, rfl⟩
      rw [ha1] at pa0
      rw [ha2] at pa1
      have HA1 := Lib.hid ha1
      have HA2 := Lib.hid ha2
      clear ha1 ha2
      have HCL1 := Lib.hid hcl1
      clear hcl1
      go_wp2
      go_loopw [20] (fun i wr => ∃ l : Nat, l ≤ m ∧ i = .int .i64 l ∧ Hid (∀ k, k < l → decide (meets (P j) (P (nx n j)) (Q k) (Q (nx m k))) = false) ∧ w1.heap.size < wr.heap.size ∧ wr.cell? ⟨w1.heap.size, 0, none⟩ = some (.int .i64 a1) ∧ wr.cell? ⟨w1.heap.size, 1, none⟩ = some (.int .i64 a2) ∧ Below w.heap.size w wr) (fun i _ => m - (intOf i).toNat)
      case atStart => exact ⟨0, by omega, rfl, fun k hk => absurd hk (by omega), by simp, by simp [go_sem], by simp [go_sem], by have hB := HB1r.out; have hz := hB.size; go_grown⟩
      case round =>
        obtain ⟨w2, rfl⟩ : ∃ x : World, x = wr := ⟨_, rfl⟩
        obtain ⟨l, hl, rfl, hq1, zw, m0, m1, hB2⟩ := hrel
        have HB2r := Lib.hid hB2
        have hcl1 := HCL1.out
        clear pa0 pa1
        by_cases hll : l < m
        · obtain ⟨bk2, f2, rfl, hbl2, hcl2⟩ := HEL'.out l hll
          obtain ⟨L1, hL1⟩ : ∃ e, (l : Int) + 1 = e := ⟨_, rfl⟩
          obtain ⟨r, hr⟩ : ∃ q, nx m l = q := ⟨_, rfl⟩
          have rn : r < m := by rw [← hr]; exact nx_lt (by omega)
          have t1 : IntKind.i64.wrap ((l : Int) + 1) = L1 := by rw [hL1]; exact IntWalk.i64_in _ (by omega)
          have t2 : L1.tmod (m : Int) = (r : Int) := by rw [← hL1, ← hr]; exact nx_mod hll
          have t3 : IntKind.i64.wrap (r : Int) = (r : Int) := IntWalk.i64_in _ (by omega)
          have t4 : ((m : Int) == 0) = false := by simp; omega
          have t0 : ¬ m = 0 := by omega
          have t5 : (0 : Int) ≤ (r : Int) := by omega
          have t6 : (r : Int) < (m : Int) := by omega
          have t7 : IntKind.i64.wrap (L1.tmod (m : Int)) = (r : Int) := by rw [t2]; exact t3
          have HL1 := Lib.hid hL1
          have Hr := Lib.hid hr
          have t8 : (0 : Int) ≤ (l : Int) := by omega
          have t9 : (l : Int) < (m : Int) := by omega
          clear hL1 hr
          have pb0 : w2.cell? ⟨bk1, f1 + q * 2, none⟩ = some (.int .i64 (P q).1) := (hB2.cell (p := ⟨_, _, none⟩) hbl1).trans (hcl1 q qn).1
          have pb1 : w2.cell? ⟨bk1, f1 + q * 2 + 1, none⟩ = some (.int .i64 (P q).2) := (hB2.cell (p := ⟨_, _, none⟩) hbl1).trans (hcl1 q qn).2
          have pc0 : w2.cell? ⟨bk2, f2 + l * 2, none⟩ = some (.int .i64 (Q l).1) := (hB2.cell (p := ⟨_, _, none⟩) hbl2).trans (hcl2 l hll).1
          have pc1 : w2.cell? ⟨bk2, f2 + l * 2 + 1, none⟩ = some (.int .i64 (Q l).2) := (hB2.cell (p := ⟨_, _, none⟩) hbl2).trans (hcl2 l hll).2
          have pd0 : w2.cell? ⟨bk2, f2 + r * 2, none⟩ = some (.int .i64 (Q r).1) := (hB2.cell (p := ⟨_, _, none⟩) hbl2).trans (hcl2 r rn).1
          have pd1 : w2.cell? ⟨bk2, f2 + r * 2 + 1, none⟩ = some (.int .i64 (Q r).2) := (hB2.cell (p := ⟨_, _, none⟩) hbl2).trans (hcl2 r rn).2
          obtain ⟨bb, hbb⟩ : ∃ b, decide (meets (P j) (P q) (Q l) (Q r)) = b := ⟨_, rfl⟩
          have HBB := Lib.hid hbb
          have HM : Hid (∀ W, Calls Tryd.prog 62 #[.agg #[.int .i64 (P j).1, .int .i64 (P j).2], .agg #[.int .i64 (P q).1, .int .i64 (P q).2], .agg #[.int .i64 (Q l).1, .int .i64 (Q l).2], .agg #[.int .i64 (Q r).1, .int .i64 (Q r).2]] W (fun e w' => e = .returned (.bool bb) ∧ Below W.heap.size W w')) := fun W => by
            rw [← hbb]
            exact touch_any _ _ _ _ _ _ _ _ W (near_nr (hP.out j hlt)) (near_nr (hP.out q qn)) (near_nr (hQ.out l hll)) (near_nr (hQ.out r rn))
          clear hbb
          rw [HA1.out, HA2.out] at HM
          have zb1 : bk1 < w2.heap.size := by have := hB2.size; omega
          have zb2 : bk2 < w2.heap.size := by have := hB2.size; omega
          have M0 := Lib.hid m0
          have M1 := Lib.hid m1
          obtain ⟨b1, hb1⟩ : ∃ e, (P q).1 = e := ⟨_, rfl⟩
          rw [hb1] at pb0 HM
          clear hb1
          obtain ⟨b2, hb2⟩ : ∃ e, (P q).2 = e := ⟨_, rfl⟩
          rw [hb2] at pb1 HM
          clear hb2
          obtain ⟨c1, hc1⟩ : ∃ e, (Q l).1 = e := ⟨_, rfl⟩
          rw [hc1] at pc0 HM
          clear hc1
          obtain ⟨c2, hc2⟩ : ∃ e, (Q l).2 = e := ⟨_, rfl⟩
          rw [hc2] at pc1 HM
          clear hc2
          obtain ⟨d1, hd1⟩ : ∃ e, (Q r).1 = e := ⟨_, rfl⟩
          rw [hd1] at pd0 HM
          clear hd1
          obtain ⟨d2, hd2⟩ : ∃ e, (Q r).2 = e := ⟨_, rfl⟩
          rw [hd2] at pd1 HM
          clear hd2
          clear hcl1 hcl2
          go_wp2_with fail
          refine wp_region_seq 20 [] [] (by kernel_rfl) (by kernel_rfl) (by kernel_rfl) (by kernel_rfl) (by kernel_rfl) ?_ ?_ ?_
          · intro r hr; cases hr
          · intro r hr; cases hr
          simp only [List.take_succ_cons, List.take_zero, fillL, Act.put, List.setIfInBounds_toArray, List.set_cons_zero, List.set_cons_succ]
          apply seq_is (by kernel_rfl)
          · intro u wx hb hd
            replace hb := hb.nil
            have hz := hb.size
            (try simp only [World.size_alloc, World.size_setCell] at hz)
            have hz0 : bk1 < wx.heap.size := by omega
            have hz1 : bk2 < wx.heap.size := by omega
            have hz2 : w1.heap.size < wx.heap.size := by omega
            have hz3 : w2.heap.size < wx.heap.size := by omega
            obtain ⟨hc, hf⟩ := bcell hb
            clear hb hz
            simp [depsE, Region.binds, updE, kindOf, Prp.is, Prp.any] at hd
            go_simp
            first | exact ⟨Below.refl _ _, rfl⟩ | rfl
          apply seq_is (by kernel_rfl)
          · intro u wx hb hd
            replace hb := hb.nil
            have hz := hb.size
            (try simp only [World.size_alloc, World.size_setCell] at hz)
            have hz0 : bk1 < wx.heap.size := by omega
            have hz1 : bk2 < wx.heap.size := by omega
            have hz2 : w1.heap.size < wx.heap.size := by omega
            have hz3 : w2.heap.size < wx.heap.size := by omega
            obtain ⟨hc, hf⟩ := bcell hb
            clear hb hz
            simp [depsE, Region.binds, updE, kindOf, Prp.is, Prp.any] at hd
            go_simp
            first | exact ⟨Below.refl _ _, rfl⟩ | rfl
          apply seq_is (by kernel_rfl)
          · intro u wx hb hd
            replace hb := hb.nil
            have hz := hb.size
            (try simp only [World.size_alloc, World.size_setCell] at hz)
            have hz0 : bk1 < wx.heap.size := by omega
            have hz1 : bk2 < wx.heap.size := by omega
            have hz2 : w1.heap.size < wx.heap.size := by omega
            have hz3 : w2.heap.size < wx.heap.size := by omega
            obtain ⟨hc, hf⟩ := bcell hb
            clear hb hz
            simp [depsE, Region.binds, updE, kindOf, Prp.is, Prp.any] at hd
            go_simp
            first | exact ⟨Below.refl _ _, rfl⟩ | rfl
          apply seq_is (by kernel_rfl)
          · intro u wx hb hd
            replace hb := hb.nil
            have hz := hb.size
            (try simp only [World.size_alloc, World.size_setCell] at hz)
            have hz0 : bk1 < wx.heap.size := by omega
            have hz1 : bk2 < wx.heap.size := by omega
            have hz2 : w1.heap.size < wx.heap.size := by omega
            have hz3 : w2.heap.size < wx.heap.size := by omega
            obtain ⟨hc, hf⟩ := bcell hb
            clear hb hz
            simp [depsE, Region.binds, updE, kindOf, Prp.is, Prp.any] at hd
            go_simp
            first | exact ⟨Below.refl _ _, rfl⟩ | rfl
          apply seq_is (by kernel_rfl)
          · intro u wx hb hd
            replace hb := hb.nil
            have hz := hb.size
            (try simp only [World.size_alloc, World.size_setCell] at hz)
            have hz0 : bk1 < wx.heap.size := by omega
            have hz1 : bk2 < wx.heap.size := by omega
            have hz2 : w1.heap.size < wx.heap.size := by omega
            have hz3 : w2.heap.size < wx.heap.size := by omega
            obtain ⟨hc, hf⟩ := bcell hb
            clear hb hz
            simp [depsE, Region.binds, updE, kindOf, Prp.is, Prp.any] at hd
            go_simp
            first | exact ⟨Below.refl _ _, rfl⟩ | rfl
          apply seq_is (by kernel_rfl)
          · intro u wx hb hd
            replace hb := hb.nil
            have hz := hb.size
            (try simp only [World.size_alloc, World.size_setCell] at hz)
            have hz0 : bk1 < wx.heap.size := by omega
            have hz1 : bk2 < wx.heap.size := by omega
            have hz2 : w1.heap.size < wx.heap.size := by omega
            have hz3 : w2.heap.size < wx.heap.size := by omega
            obtain ⟨hc, hf⟩ := bcell hb
            clear hb hz
            simp [depsE, Region.binds, updE, kindOf, Prp.is, Prp.any] at hd
            go_simp
            first | exact ⟨Below.refl _ _, rfl⟩ | rfl
          apply seq_is (by kernel_rfl)
          · intro u wx hb hd
            replace hb := hb.nil
            have hz := hb.size
            (try simp only [World.size_alloc, World.size_setCell] at hz)
            have hz0 : bk1 < wx.heap.size := by omega
            have hz1 : bk2 < wx.heap.size := by omega
            have hz2 : w1.heap.size < wx.heap.size := by omega
            have hz3 : w2.heap.size < wx.heap.size := by omega
            obtain ⟨hc, hf⟩ := bcell hb
            clear hb hz
            simp [depsE, Region.binds, updE, kindOf, Prp.is, Prp.any] at hd
            go_simp
            first | exact ⟨Below.refl _ _, rfl⟩ | rfl
          apply seq_is (by kernel_rfl)
          · intro u wx hb hd
            replace hb := hb.nil
            have hz := hb.size
            (try simp only [World.size_alloc, World.size_setCell] at hz)
            have hz0 : bk1 < wx.heap.size := by omega
            have hz1 : bk2 < wx.heap.size := by omega
            have hz2 : w1.heap.size < wx.heap.size := by omega
            have hz3 : w2.heap.size < wx.heap.size := by omega
            obtain ⟨hc, hf⟩ := bcell hb
            clear hb hz
            simp [depsE, Region.binds, updE, kindOf, Prp.is, Prp.any] at hd
            go_simp
            first | exact ⟨Below.refl _ _, rfl⟩ | rfl
          apply seq_is (by kernel_rfl)
          · intro u wx hb hd
            replace hb := hb.nil
            have hz := hb.size
            (try simp only [World.size_alloc, World.size_setCell] at hz)
            have hz0 : bk1 < wx.heap.size := by omega
            have hz1 : bk2 < wx.heap.size := by omega
            have hz2 : w1.heap.size < wx.heap.size := by omega
            have hz3 : w2.heap.size < wx.heap.size := by omega
            obtain ⟨hc, hf⟩ := bcell hb
            clear hb hz
            simp [depsE, Region.binds, updE, kindOf, Prp.is, Prp.any] at hd
            go_simp
            first | exact ⟨Below.refl _ _, rfl⟩ | rfl
          apply seq_is (by kernel_rfl)
          · intro u wx hb hd
            replace hb := hb.nil
            have hz := hb.size
            (try simp only [World.size_alloc, World.size_setCell] at hz)
            have hz0 : bk1 < wx.heap.size := by omega
            have hz1 : bk2 < wx.heap.size := by omega
            have hz2 : w1.heap.size < wx.heap.size := by omega
            have hz3 : w2.heap.size < wx.heap.size := by omega
            obtain ⟨hc, hf⟩ := bcell hb
            clear hb hz
            simp [depsE, Region.binds, updE, kindOf, Prp.is, Prp.any] at hd
            go_simp
            first | exact ⟨Below.refl _ _, rfl⟩ | rfl
          apply seq_is (by kernel_rfl)
          · intro u wx hb hd
            replace hb := hb.nil
            have hz := hb.size
            (try simp only [World.size_alloc, World.size_setCell] at hz)
            have hz0 : bk1 < wx.heap.size := by omega
            have hz1 : bk2 < wx.heap.size := by omega
            have hz2 : w1.heap.size < wx.heap.size := by omega
            have hz3 : w2.heap.size < wx.heap.size := by omega
            obtain ⟨hc, hf⟩ := bcell hb
            clear hb hz
            simp [depsE, Region.binds, updE, kindOf, Prp.is, Prp.any] at hd
            go_simp
            first | exact ⟨Below.refl _ _, rfl⟩ | rfl
          apply seq_is (by kernel_rfl)
          · intro u wx hb hd
            replace hb := hb.nil
            have hz := hb.size
            (try simp only [World.size_alloc, World.size_setCell] at hz)
            have hz0 : bk1 < wx.heap.size := by omega
            have hz1 : bk2 < wx.heap.size := by omega
            have hz2 : w1.heap.size < wx.heap.size := by omega
            have hz3 : w2.heap.size < wx.heap.size := by omega
            obtain ⟨hc, hf⟩ := bcell hb
            clear hb hz
            simp [depsE, Region.binds, updE, kindOf, Prp.is, Prp.any] at hd
            go_simp
            first | exact ⟨Below.refl _ _, rfl⟩ | rfl
          apply seq_is (by kernel_rfl)
          · intro u wx hb hd
            replace hb := hb.nil
            have hz := hb.size
            (try simp only [World.size_alloc, World.size_setCell] at hz)
            have hz0 : bk1 < wx.heap.size := by omega
            have hz1 : bk2 < wx.heap.size := by omega
            have hz2 : w1.heap.size < wx.heap.size := by omega
            have hz3 : w2.heap.size < wx.heap.size := by omega
            obtain ⟨hc, hf⟩ := bcell hb
            clear hb hz
            simp [depsE, Region.binds, updE, kindOf, Prp.is, Prp.any] at hd
            go_simp
            first | exact ⟨Below.refl _ _, rfl⟩ | rfl
          apply seq_is (by kernel_rfl)
          · intro u wx hb hd
            replace hb := hb.nil
            have hz := hb.size
            (try simp only [World.size_alloc, World.size_setCell] at hz)
            have hz0 : bk1 < wx.heap.size := by omega
            have hz1 : bk2 < wx.heap.size := by omega
            have hz2 : w1.heap.size < wx.heap.size := by omega
            have hz3 : w2.heap.size < wx.heap.size := by omega
            obtain ⟨hc, hf⟩ := bcell hb
            clear hb hz
            simp [depsE, Region.binds, updE, kindOf, Prp.is, Prp.any] at hd
            go_simp
            first | exact ⟨Below.refl _ _, rfl⟩ | rfl
          apply seq_is (by kernel_rfl)
          · intro u wx hb hd
            replace hb := hb.nil
            have hz := hb.size
            (try simp only [World.size_alloc, World.size_setCell] at hz)
            have hz0 : bk1 < wx.heap.size := by omega
            have hz1 : bk2 < wx.heap.size := by omega
            have hz2 : w1.heap.size < wx.heap.size := by omega
            have hz3 : w2.heap.size < wx.heap.size := by omega
            obtain ⟨hc, hf⟩ := bcell hb
            clear hb hz
            simp [depsE, Region.binds, updE, kindOf, Prp.is, Prp.any] at hd
            go_simp
            first | exact ⟨Below.refl _ _, rfl⟩ | rfl
          apply seq_is (by kernel_rfl)
          · intro u wx hb hd
            replace hb := hb.nil
            have hz := hb.size
            (try simp only [World.size_alloc, World.size_setCell] at hz)
            have hz0 : bk1 < wx.heap.size := by omega
            have hz1 : bk2 < wx.heap.size := by omega
            have hz2 : w1.heap.size < wx.heap.size := by omega
            have hz3 : w2.heap.size < wx.heap.size := by omega
            obtain ⟨hc, hf⟩ := bcell hb
            clear hb hz
            simp [depsE, Region.binds, updE, kindOf, Prp.is, Prp.any] at hd
            go_simp
            first | exact ⟨Below.refl _ _, rfl⟩ | rfl
          apply seq_is (by kernel_rfl)
          · intro u wx hb hd
            replace hb := hb.nil
            have hz := hb.size
            (try simp only [World.size_alloc, World.size_setCell] at hz)
            have hz0 : bk1 < wx.heap.size := by omega
            have hz1 : bk2 < wx.heap.size := by omega
            have hz2 : w1.heap.size < wx.heap.size := by omega
            have hz3 : w2.heap.size < wx.heap.size := by omega
            obtain ⟨hc, hf⟩ := bcell hb
            clear hb hz
            simp [depsE, Region.binds, updE, kindOf, Prp.is, Prp.any] at hd
            go_simp
            first | exact ⟨Below.refl _ _, rfl⟩ | rfl
          apply seq_is (by kernel_rfl)
          · intro u wx hb hd
            replace hb := hb.nil
            have hz := hb.size
            (try simp only [World.size_alloc, World.size_setCell] at hz)
            have hz0 : bk1 < wx.heap.size := by omega
            have hz1 : bk2 < wx.heap.size := by omega
            have hz2 : w1.heap.size < wx.heap.size := by omega
            have hz3 : w2.heap.size < wx.heap.size := by omega
            obtain ⟨hc, hf⟩ := bcell hb
            clear hb hz
            simp [depsE, Region.binds, updE, kindOf, Prp.is, Prp.any] at hd
            go_simp
            first | exact ⟨Below.refl _ _, rfl⟩ | rfl
          apply seq_is (by kernel_rfl)
          · intro u wx hb hd
            replace hb := hb.nil
            have hz := hb.size
            (try simp only [World.size_alloc, World.size_setCell] at hz)
            have hz0 : bk1 < wx.heap.size := by omega
            have hz1 : bk2 < wx.heap.size := by omega
            have hz2 : w1.heap.size < wx.heap.size := by omega
            have hz3 : w2.heap.size < wx.heap.size := by omega
            obtain ⟨hc, hf⟩ := bcell hb
            clear hb hz
            simp [depsE, Region.binds, updE, kindOf, Prp.is, Prp.any] at hd
            go_simp
            first | exact ⟨Below.refl _ _, rfl⟩ | rfl
          apply seq_is (by kernel_rfl)
          · intro u wx hb hd
            replace hb := hb.nil
            have hz := hb.size
            (try simp only [World.size_alloc, World.size_setCell] at hz)
            have hz0 : bk1 < wx.heap.size := by omega
            have hz1 : bk2 < wx.heap.size := by omega
            have hz2 : w1.heap.size < wx.heap.size := by omega
            have hz3 : w2.heap.size < wx.heap.size := by omega
            obtain ⟨hc, hf⟩ := bcell hb
            clear hb hz
            simp [depsE, Region.binds, updE, kindOf, Prp.is, Prp.any] at hd
            go_simp
            first | rfl | (go_at_call 62; refine (HM.out _).mono ?_; rintro e w1 ⟨rfl, hb1⟩; first | exact ⟨rfl, hb1⟩ | exact ⟨_, rfl, hb1, rfl⟩)
          intro u w5 hb hE hV hP
          replace hb := hb.nil
          clear hP
          have e0 : u 0 = _ := endE_get hE 0 (by decide) (by simp [kindOf])
          have e1 : u 1 = _ := endE_get hE 1 (by decide) (by simp [kindOf])
          have e2 : u 2 = _ := endE_get hE 2 (by decide) (by simp [kindOf])
          have e3 : u 3 = _ := endE_get hE 3 (by decide) (by simp [kindOf])
          have e4 : u 4 = _ := endE_get hE 4 (by decide) (by simp [kindOf])
          have e5 : u 5 = _ := endE_get hE 5 (by decide) (by simp [kindOf])
          have e6 : u 6 = _ := endE_get hE 6 (by decide) (by simp [kindOf])
          have e7 : u 7 = _ := endE_get hE 7 (by decide) (by simp [kindOf])
          have e8 : u 8 = _ := endE_get hE 8 (by decide) (by simp [kindOf])
          have e9 : u 9 = _ := endE_get hE 9 (by decide) (by simp [kindOf])
          have e10 : u 10 = _ := endE_get hE 10 (by decide) (by simp [kindOf])
          have e11 : u 11 = _ := endE_get hE 11 (by decide) (by simp [kindOf])
          have e12 : u 12 = _ := endE_get hE 12 (by decide) (by simp [kindOf])
          have e13 : u 13 = _ := endE_get hE 13 (by decide) (by simp [kindOf])
          have e14 : u 14 = _ := endE_get hE 14 (by decide) (by simp [kindOf])
          have e15 : u 15 = _ := endE_get hE 15 (by decide) (by simp [kindOf])
          have e16 : u 16 = _ := endE_get hE 16 (by decide) (by simp [kindOf])
          have e17 : u 17 = _ := endE_get hE 17 (by decide) (by simp [kindOf])
          have e18 : u 18 = _ := endE_get hE 18 (by decide) (by simp [kindOf])
          have e19 : u 19 = _ := endE_get hE 19 (by decide) (by simp [kindOf])
          clear hV
          simp only [List.drop_succ_cons, List.drop_zero, List.take_succ_cons, List.take_zero, fillL, Act.put, List.setIfInBounds_toArray, List.set_cons_zero, List.set_cons_succ, e0, e1, e2, e3, e4, e5, e6, e7, e8, e9, e10, e11, e12, e13, e14, e15, e16, e17, e18, e19]
          clear e0 e1 e2 e3 e4 e5 e6 e7 e8 e9 e10 e11 e12 e13 e14 e15 e16 e17 e18 e19 hE
          have HBWw5 := Lib.hid hb
          have hw5 := below_step (w := w2) (by first | assumption | go_grown) hb
          have hzw5 := hb.size
          (try simp only [World.size_alloc, World.size_setCell] at hzw5)
          have hzw50 : bk1 < w5.heap.size := by omega
          have hzw51 : bk2 < w5.heap.size := by omega
          have hzw52 : w1.heap.size < w5.heap.size := by omega
          have hzw53 : w2.heap.size < w5.heap.size := by omega
          have HHw5 := Lib.hid hb.block
          obtain ⟨hcw5, hfw5⟩ := bcell hb
          clear hb hzw5
          have HB5 := Lib.hid (below_step (w := w) (by have hB := HB2r.out; have hz := hB.size; go_grown) HBWw5.out)
          have M05 := Lib.hid ((hw5.cell (p := ⟨_, _, none⟩) zw).trans M0.out)
          have M15 := Lib.hid ((hw5.cell (p := ⟨_, _, none⟩) zw).trans M1.out)
          have zw5 : w1.heap.size < w5.heap.size := by have := hw5.size; omega
          clear hcw5 hfw5 HBWw5
          cases bb with
          | true =>
            have HR0 : Hid (R = true) := by
              show _ = _
              rw [← HR.out]
              refine cross_yes hlt hll ?_
              rw [Hq.out, Hr.out]
              exact HBB.out
            go_wp2
            go_returns
            rw [HR0.out]
            exact ⟨rfl, HB5.out⟩
          | false =>
            have hq2 : Hid (∀ k, k < l + 1 → decide (meets (P j) (P (nx n j)) (Q k) (Q (nx m k))) = false) := fun k hk => by
              by_cases e : k = l
              · rw [e, Hq.out, Hr.out]; exact HBB.out
              · exact hq1.out k (by omega)
            go_wp2
            go_roundw
            case rel => exact ⟨l + 1, by omega, by rw [← HL1.out]; rfl, hq2, zw5, M05.out, M15.out, HB5.out⟩
            case measure => have := HL1.out; simp [intOf]; omega
        · have hq3 : Hid (∀ i, i < j + 1 → ∀ k, k < m → decide (meets (P i) (P (nx n i)) (Q k) (Q (nx m k))) = false) := fun i hi k hk => by
            by_cases e : i = j
            · rw [e]; exact hq1.out k (by omega)
            · exact hq0.out i (by omega) k hk
          go_wp2
          go_roundw
          case rel => exact ⟨j + 1, by omega, by rw [← HJ1.out]; rfl, hq3, HB2r.out⟩
          case measure => have := HJ1.out; simp [intOf]; omega
    · have HR0 : Hid (R = false) := by
        show _ = _
        rw [← HR.out]
        exact cross_no fun i hi k hk => hq0.out i (by omega) k hk
      go_wp2
      go_returns
      rw [HR0.out]
      exact ⟨rfl, HB1r.out⟩
end Go.Proofs.YtgbhhjdmochhpaaDoor
namespace Go.Proofs.YtgbhhjdmochhpaaDoor
open Go Go.ChangeShapes Go.WideShapes Go.RowKit Go.ChangeAt
set_option linter.unusedVariables false
set_option linter.unusedSimpArgs false

set_option maxHeartbeats 2000000 in
set_option maxRecDepth 20000 in
theorem apart_yes (v u : Value) (n m : Nat) (P Q : Nat → Pt) (w : World) (h : PtsAt w v n P) (h' : PtsAt w u m Q) (hp : Hid (Pol 32768 n P)) (hp' : Hid (Pol 32768 m Q)) (hn32 : n ≤ 32) (hm32 : m ≤ 32) (ha : Hid (area2 n P ≠ 0)) (ha' : Hid (area2 m Q ≠ 0))
    (hnm : Hid (∀ i k, i < n → k < m → ¬ meets (P i) (P (nx n i)) (Q k) (Q (nx m k)))) (o1 : Hid (par n P (Q 0) = false)) (o2 : Hid (par m Q (P 0) = false)) :
    Calls Tryd.prog 38 #[v, u] w fun e w' => e = .returned (.bool true) ∧ Below w.heap.size w w' := by
  have hnr : Hid (∀ i, i < n → nearB 32768 (P i) = true) := fun i hi => nearB_iff.2 (by have := hp.out.nr i hi; omega)
  have hnr' : Hid (∀ i, i < m → nearB 32768 (Q i) = true) := fun i hi => nearB_iff.2 (by have := hp'.out.nr i hi; omega)
  have n3 := hp.out.n3
  have m3 := hp'.out.n3
  have f1 : Hid (Off m Q (P 0)) := off_of hnm.out (show 0 < n by omega)
  have f2 : Hid (Off n P (Q 0)) := off_of (fun i j hi hj hc => hnm.out j i hj hi (meets_comm.1 hc)) (show 0 < m by omega)
  have hcr : crossB n P m Q = false := cross_iff.2 hnm.out
  obtain ⟨oa, cap, rfl, hn, hc, hel⟩ := h.form
  obtain ⟨ob, cap', rfl, hn', hc', hel'⟩ := h'.form
  obtain ⟨bk1, s1, rfl, hbl1, hcl1⟩ := hel 0 (by omega)
  obtain ⟨bk2, s2, rfl, hbl2, hcl2⟩ := hel' 0 (by omega)
  have H := Lib.hid h
  have H' := Lib.hid h'
  have HE : Hid (∀ W, PtsAt W (.slice (some ⟨bk1, s1, none⟩) n cap) n P → PtsAt W (.slice (some ⟨bk2, s2, none⟩) m cap') m Q → Calls Tryd.prog 61 #[.slice (some ⟨bk1, s1, none⟩) n cap, .slice (some ⟨bk2, s2, none⟩) m cap', .func (.func 62) #[] #[]] W (fun e w' => e = .returned (.bool false) ∧ Below W.heap.size W w')) := fun W a b => by rw [← hcr]; exact edges_touch _ _ n m P Q W a b hnr hnr'
  have HW1 : Hid (∀ W, PtsAt W (.slice (some ⟨bk1, s1, none⟩) n cap) n P → Calls Tryd.prog 64 #[.slice (some ⟨bk1, s1, none⟩) n cap, .agg #[.int .i64 (Q 0).1, .int .i64 (Q 0).2]] W (fun e w' => e = .returned (.int .i64 (-1)) ∧ Below W.heap.size W w')) := fun W a => by
    have t := whereP_off _ n P (Q 0).1 (Q 0).2 W a hp hn32 ha.out (hnr'.out 0 (by omega)) f2
    have e : par n P ((Q 0).1, (Q 0).2) = false := o1.out
    rw [e] at t
    exact t
  have HW2 : Hid (∀ W, PtsAt W (.slice (some ⟨bk2, s2, none⟩) m cap') m Q → Calls Tryd.prog 64 #[.slice (some ⟨bk2, s2, none⟩) m cap', .agg #[.int .i64 (P 0).1, .int .i64 (P 0).2]] W (fun e w' => e = .returned (.int .i64 (-1)) ∧ Below W.heap.size W w')) := fun W a => by
    have t := whereP_off _ m Q (P 0).1 (P 0).2 W a hp' hm32 ha'.out (hnr.out 0 (by omega)) f1
    have e : par m Q ((P 0).1, (P 0).2) = false := o2.out
    rw [e] at t
    exact t
  have HC1 := Lib.hid (hcl1 0 (by omega))
  have HC2 := Lib.hid (hcl2 0 (by omega))
  have zb1 : bk1 < w.heap.size := hbl1
  have zb2 : bk2 < w.heap.size := hbl2
  have k1 : (0 : Int) < (n : Int) := by omega
  have k2 : (0 : Int) < (m : Int) := by omega
  clear h h' hel hel' hcl1 hcl2 hbl1 hbl2 hcr
  go_enter Tryd.func38, Tryd.ntmps38
  go_wp2_with fail
  (go_at_call 61; refine (HE.out _ H.out H'.out).mono ?_; rintro e_ w1 ⟨rfl, hb1⟩)
  have x0 : w1.cell? ⟨bk2, s2, none⟩ = some (.int .i64 (Q 0).1) := (hb1.cell (p := ⟨_, _, none⟩) zb2).trans (by have := HC2.out.1; rwa [Nat.zero_mul, Nat.add_zero] at this)
  have x1 : w1.cell? ⟨bk2, s2 + 1, none⟩ = some (.int .i64 (Q 0).2) := (hb1.cell (p := ⟨_, _, none⟩) zb2).trans (by have := HC2.out.2; rwa [Nat.zero_mul, Nat.add_zero] at this)
  have B1 := Lib.hid hb1
  have y1 : bk1 < w1.heap.size := by have := hb1.size; omega
  have y2 : bk2 < w1.heap.size := by have := hb1.size; omega
  clear hb1
  go_wp2_with fail
  (go_at_call 64; refine (HW1.out _ (H.out.below B1.out)).mono ?_; rintro e_ w2 ⟨rfl, hb2⟩)
  have B2 := Lib.hid (below_step B1.out hb2)
  have x2 : w2.cell? ⟨bk1, s1, none⟩ = some (.int .i64 (P 0).1) := (B2.out.cell (p := ⟨_, _, none⟩) zb1).trans (by have := HC1.out.1; rwa [Nat.zero_mul, Nat.add_zero] at this)
  have x3 : w2.cell? ⟨bk1, s1 + 1, none⟩ = some (.int .i64 (P 0).2) := (B2.out.cell (p := ⟨_, _, none⟩) zb1).trans (by have := HC1.out.2; rwa [Nat.zero_mul, Nat.add_zero] at this)
  have y3 : bk1 < w2.heap.size := by have := hb2.size; omega
  clear hb2 x0 x1
  go_wp2_with fail
  (go_at_call 64; refine (HW2.out _ (H'.out.below B2.out)).mono ?_; rintro e_ w3 ⟨rfl, hb3⟩)
  have B3 := Lib.hid (below_step B2.out hb3)
  go_wp2
  go_returns
  exact ⟨rfl, B3.out⟩
end Go.Proofs.YtgbhhjdmochhpaaDoor
namespace Go.Proofs.YtgbhhjdmochhpaaDoor
open Go Go.ChangeShapes Go.WideShapes Go.RowKit Go.ChangeAt
set_option linter.unusedVariables false
set_option linter.unusedSimpArgs false

theorem within1_in (q1 q2 : Int) (b n cap : Nat) (oa : Option Addr) (P : Nat → Pt) (w : World) (hb : b < w.heap.size) (hc : w.cell? ⟨b, 0, none⟩ = some (.slice oa n cap)) (h : PtsAt w (.slice oa n cap) n P) (hp : Hid (Pol 32768 n P)) (hn32 : n ≤ 32) (ha : Hid (area2 n P ≠ 0)) (hq : nearB 32768 (q1, q2) = true) (hoff : Hid (Off n P (q1, q2))) (hpar : par n P (q1, q2) = true) :
    Calls Tryd.prog 63 #[.agg #[.int .i64 q1, .int .i64 q2], .pointer (some ⟨b, 0, none⟩)] w fun e w' => e = .returned (.bool false) ∧ Below w.heap.size w w' := by
  have HW : Hid (∀ W, PtsAt W (.slice oa n cap) n P → Calls Tryd.prog 64 #[.slice oa n cap, .agg #[.int .i64 q1, .int .i64 q2]] W (fun e w' => e = .returned (.int .i64 1) ∧ Below W.heap.size W w')) := fun W h' => by
    have t := whereP_off _ n P q1 q2 W h' hp hn32 ha.out hq hoff
    rw [hpar] at t
    exact t
  have H := Lib.hid h
  clear h
  go_enter Tryd.func63, Tryd.ntmps63
  go_wp2_with fail
  (go_at_call 64; refine (HW.out _ (H.out.below (by go_grown))).mono ?_; rintro e_ w1 ⟨rfl, hb1⟩)
  have HB1 := Lib.hid (below_step (w := w) (by go_grown) hb1)
  clear hb1
  go_wp2
  go_returns
  exact ⟨rfl, HB1.out⟩
set_option maxHeartbeats 2000000 in
theorem index_within (v : Value) (m : Nat) (Q : Nat → Pt) (b n cap : Nat) (oa : Option Addr) (P : Nat → Pt) (w : World) (hv : PtsAt w v m Q) (hb : b < w.heap.size) (hc : w.cell? ⟨b, 0, none⟩ = some (.slice oa n cap)) (h : PtsAt w (.slice oa n cap) n P) (hp : Hid (Pol 32768 n P)) (hn32 : n ≤ 32) (ha : Hid (area2 n P ≠ 0)) (hq : Hid (∀ i, i < m → nearB 32768 (Q i) = true)) (hoff : Hid (∀ i, i < m → Off n P (Q i))) (hpar : Hid (∀ i, i < m → par n P (Q i) = true)) :
    Calls Tryd.prog 35 #[v, (.func (.func 63) #[] #[.pointer (some ⟨b, 0, none⟩)])] w fun e w' => e = .returned (.int .i64 (-1)) ∧ Below w.heap.size w w' := by
  have eg : ∀ args w, (callFunc 63 args).run Tryd.prog w = .ok (.enter 63 args) w := enters_of Tryd.func63 (by kernel_rfl) rfl
  obtain ⟨ov, cv, rfl, hn, hcv, hel⟩ := hv.form
  have HEL := Lib.hid hel
  have HP := Lib.hid h
  have HCB := Lib.hid hc
  clear hv hel h hc
  go_enter Tryd.func35, Tryd.ntmps35
  go_wp2
  go_loopw [8] (fun i wr => ∃ j : Nat, j ≤ m ∧ i = .int .i64 j ∧ Below w.heap.size w wr) (fun i _ => m - (intOf i).toNat)
  case atStart => exact ⟨0, by omega, rfl, Below.refl _ _⟩
  case round =>
    obtain ⟨j, hj, rfl, hB⟩ := hrel
    have HBr := Lib.hid hB
    by_cases hlt : j < m
    · obtain ⟨b1, f1, rfl, hbl1, hcl1⟩ := HEL.out j hlt
      have c0 : wr.cell? ⟨b1, f1 + j * 2, none⟩ = some (.int .i64 (Q j).1) := (hB.cell (p := ⟨_, _, none⟩) hbl1).trans (hcl1 j hlt).1
      have c1 : wr.cell? ⟨b1, f1 + j * 2 + 1, none⟩ = some (.int .i64 (Q j).2) := (hB.cell (p := ⟨_, _, none⟩) hbl1).trans (hcl1 j hlt).2
      have hbr : b1 < wr.heap.size := by have := hB.size; omega
      have k0 : (0 : Int) ≤ (j : Int) := by omega
      have k1 : (j : Int) < (m : Int) := by omega
      have HCL : Hid (∀ W, Below w.heap.size w W → Calls Tryd.prog 63 #[.agg #[.int .i64 (Q j).1, .int .i64 (Q j).2], .pointer (some ⟨b, 0, none⟩)] W (fun e w' => e = .returned (.bool false) ∧ Below W.heap.size W w')) := fun W hW =>
        within1_in (Q j).1 (Q j).2 b n cap oa P W (by have := hW.size; omega) ((hW.cell (p := ⟨_, _, none⟩) hb).trans HCB.out) (HP.out.below hW) hp hn32 ha (hq.out j hlt) (hoff.out j hlt) (hpar.out j hlt)
      clear hcl1 hB
      go_wp2_with fail
      (go_at_fn 63; refine (HCL.out _ HBr.out).mono ?_; rintro e_ w1 ⟨rfl, hb1⟩)
      have HB1 := Lib.hid (below_step HBr.out hb1)
      clear hb1
      go_wp2
      go_roundw
      case rel => exact ⟨j + 1, by omega, by go_num, HB1.out⟩
      case measure => simp [intOf]; omega
    · go_wp2
      go_returns
      exact ⟨rfl, HBr.out⟩
theorem contains_within (v : Value) (m : Nat) (Q : Nat → Pt) (b n cap : Nat) (oa : Option Addr) (P : Nat → Pt) (w : World) (hv : PtsAt w v m Q) (hb : b < w.heap.size) (hc : w.cell? ⟨b, 0, none⟩ = some (.slice oa n cap)) (h : PtsAt w (.slice oa n cap) n P) (hp : Hid (Pol 32768 n P)) (hn32 : n ≤ 32) (ha : Hid (area2 n P ≠ 0)) (hq : Hid (∀ i, i < m → nearB 32768 (Q i) = true)) (hoff : Hid (∀ i, i < m → Off n P (Q i))) (hpar : Hid (∀ i, i < m → par n P (Q i) = true)) :
    Calls Tryd.prog 16 #[v, (.func (.func 63) #[] #[.pointer (some ⟨b, 0, none⟩)])] w fun e w' => e = .returned (.bool false) ∧ Below w.heap.size w w' := by
  obtain ⟨ov, cv, rfl, -, -, -⟩ := hv.form
  have HE : Hid (∀ W, Below w.heap.size w W → Calls Tryd.prog 35 #[.slice ov m cv, (.func (.func 63) #[] #[.pointer (some ⟨b, 0, none⟩)])] W (fun e w' => e = .returned (.int .i64 (-1)) ∧ Below W.heap.size W w')) := fun W hW =>
    index_within _ m Q b n cap oa P W (hv.below hW) (by have := hW.size; omega) ((hW.cell (p := ⟨_, _, none⟩) hb).trans hc) (h.below hW) hp hn32 ha hq hoff hpar
  clear hv h hc
  go_enter Tryd.func16, Tryd.ntmps16
  go_wp2_with fail
  (go_at_call 35; refine (HE.out _ (Below.refl _ _)).mono ?_; rintro e_ w1 ⟨rfl, hb1⟩)
  go_wp2
  go_returns
  exact ⟨rfl, hb1⟩

set_option maxHeartbeats 2000000 in
theorem withinG_yes (v u : Value) (m n : Nat) (Q P : Nat → Pt) (w : World) (h' : PtsAt w v m Q) (h : PtsAt w u n P) (hp' : Hid (Pol 32768 m Q)) (hp : Hid (Pol 32768 n P)) (hn32 : n ≤ 32) (ha : Hid (area2 n P ≠ 0))
    (hnm : Hid (∀ i k, i < m → k < n → ¬ meets (Q i) (Q (nx m i)) (P k) (P (nx n k)))) (hpar : Hid (∀ i, i < m → par n P (Q i) = true)) :
    Calls Tryd.prog 37 #[v, u] w fun e w' => e = .returned (.bool true) ∧ Below w.heap.size w w' := by
  have hq : Hid (∀ i, i < m → nearB 32768 (Q i) = true) := fun i hi => nearB_iff.2 (by have := hp'.out.nr i hi; omega)
  have hq' : Hid (∀ i, i < n → nearB 32768 (P i) = true) := fun i hi => nearB_iff.2 (by have := hp.out.nr i hi; omega)
  have hoff : Hid (∀ i, i < m → Off n P (Q i)) := fun i hi => off_of hnm.out hi
  have hcr : crossB m Q n P = false := cross_iff.2 hnm.out
  obtain ⟨ov, cv, rfl, -, -, -⟩ := h'.form
  obtain ⟨oa, cap, rfl, -, -, -⟩ := h.form
  have HE : Hid (∀ W, PtsAt W (.slice ov m cv) m Q → PtsAt W (.slice oa n cap) n P → Calls Tryd.prog 61 #[.slice ov m cv, .slice oa n cap, .func (.func 62) #[] #[]] W (fun e w' => e = .returned (.bool false) ∧ Below W.heap.size W w')) := fun W a b => by rw [← hcr]; exact edges_touch _ _ m n Q P W a b hq hq'
  have H := Lib.hid h
  have H' := Lib.hid h'
  clear h h' hcr
  go_enter Tryd.func37, Tryd.ntmps37
  go_wp2_with fail
  (go_at_call 61; refine (HE.out _ (H'.out.below (by go_grown)) (H.out.below (by go_grown))).mono ?_; rintro e_ w1 ⟨rfl, hb1⟩)
  have HB1 := Lib.hid (below_step (w := w) (by go_grown) hb1)
  have HC1 : Hid (w1.cell? ⟨w.heap.size, 0, none⟩ = some (.slice oa n cap)) := (hb1.cell (p := ⟨_, _, none⟩) (by simp)).trans (by simp [go_sem])
  have zw1 : w.heap.size < w1.heap.size := by have := hb1.size; simp only [World.size_alloc] at this; omega
  clear hb1
  go_wp2_with fail
  (go_at_call 16; refine (contains_within _ m Q w.heap.size n cap oa P _ (H'.out.below HB1.out) zw1 HC1.out (H.out.below HB1.out) hp hn32 ha hq hoff hpar).mono ?_; rintro e_ w2 ⟨rfl, hb2⟩)
  have HB2 := Lib.hid (below_step HB1.out hb2)
  clear hb2
  go_wp2
  go_returns
  exact ⟨rfl, HB2.out⟩

set_option maxHeartbeats 4000000 in
set_option maxRecDepth 20000 in
theorem checkG_ok (v u : Value) (no m : Nat) (P : Nat → Pt) (oh : Nat → Option Addr) (ch hn : Nat → Nat) (H : Nat → Nat → Pt) (w : World) (h : PtsAt w v no P) (hh : HolesAt w u m oh ch hn H) (hr : Hid (Reg no P m hn H)) :
    Calls Tryd.prog 19 #[.agg #[v, u]] w fun e w' => e = .returned (.int .i64 0) ∧ Below w.heap.size w w' := by
  obtain ⟨oo, co, rfl, hno, hco, -⟩ := h.form
  obtain ⟨oq, cq, rfl, hm, hcq, hel⟩ := hh.form
  have HEL := Lib.hid hel
  have H0 := Lib.hid h
  have HHO := Lib.hid hh.2
  clear h hel hh
  have hm8 := hr.out.m8
  have k8 : decide ((8 : Int) < (m : Int)) = false := decide_eq_false (by omega)
  have HAO : Hid (area2 no P ≠ 0) := by have := hr.out.pos; exact show _ ≠ _ by omega
  have HNZ : Hid (∀ i, i < m → Hid (area2 (hn i) (H i) ≠ 0)) := fun i hi => by
    show _ ≠ _
    have := hr.out.neg i hi
    omega
  obtain ⟨AO, hAO⟩ : ∃ e, area2 no P = e := ⟨_, rfl⟩
  have HAC : Hid (∀ W, PtsAt W (.slice oo no co) no P → Calls Tryd.prog 20 #[.slice oo no co] W (fun e w' => e = .returned (.int .i64 AO) ∧ Below W.heap.size W w')) := fun W a => by rw [← hAO]; exact area2P_ok _ _ _ W a hr.out.po hr.out.no32 HAO.out
  have kA : decide (AO ≤ 0) = false := decide_eq_false (by rw [← hAO]; have := hr.out.pos; omega)
  clear hAO
  go_enter Tryd.func19, Tryd.ntmps19
  go_wp2_with fail
  obtain ⟨w0, hw0⟩ : ∃ X, (w.alloc (.cells #[.slice oo no co, .slice oq m cq] 25)) = X := ⟨_, rfl⟩
  have HS0 : Hid (w0.heap[w.heap.size]? = some (.cells #[.slice oo no co, .slice oq m cq] 25)) := by
    show _ = _
    rw [← hw0]
    exact heapA_at _ _ _ rfl
  have HB0 : Hid (Below w.heap.size w w0) := by
    show Below _ _ _
    rw [← hw0]
    exact (Below.refl w.heap.size w).alloc (Nat.le_refl _) _
  have zw0 : w.heap.size < w0.heap.size := by rw [← hw0]; simp
  rw [hw0]
  clear hw0
  obtain ⟨s0w0, s1w0, sfw0, szw0⟩ := cells_at2 HS0.out
  (go_at_call 36; refine (checkP_ok _ _ _ _ (H0.out.below HB0.out) hr.out.po hr.out.no32 HAO.out).mono ?_; rintro e_ w3 ⟨rfl, hb3⟩)
  have HB3 := Lib.hid (below_step HB0.out hb3)
  have HS3 : Hid (w3.heap[w.heap.size]? = some (.cells #[.slice oo no co, .slice oq m cq] 25)) := (hb3.block w.heap.size zw0).trans HS0.out
  have zw3 : w.heap.size < w3.heap.size := by have := hb3.size; omega
  clear hb3 s0w0 s1w0 sfw0 szw0
  obtain ⟨s0w3, s1w3, sfw3, szw3⟩ := cells_at2 HS3.out
  go_wp2_with fail
  (go_at_call 20; refine (HAC.out _ (H0.out.below HB3.out)).mono ?_; rintro e_ w4 ⟨rfl, hb4⟩)
  have HB4 := Lib.hid (below_step HB3.out hb4)
  have HS4 : Hid (w4.heap[w.heap.size]? = some (.cells #[.slice oo no co, .slice oq m cq] 25)) := (hb4.block w.heap.size zw3).trans HS3.out
  have zw4 : w.heap.size < w4.heap.size := by have := hb4.size; omega
  clear hb4 s0w3 s1w3 sfw3 szw3
  obtain ⟨s0w4, s1w4, sfw4, szw4⟩ := cells_at2 HS4.out
  go_wp2
  go_loopw [26] (fun i wr => ∃ j : Nat, j ≤ m ∧ i = .int .i64 j ∧ w.heap.size < wr.heap.size ∧ Hid (wr.heap[w.heap.size]? = some (.cells #[.slice oo no co, .slice oq m cq] 25)) ∧ Below w.heap.size w wr) (fun i _ => m - (intOf i).toNat)
  case atStart => exact ⟨0, by omega, rfl, zw4, HS4, HB4.out⟩
  case round =>
    clear s0w4 s1w4 sfw4 szw4
    obtain ⟨w1, rfl⟩ : ∃ x : World, x = wr := ⟨_, rfl⟩
    obtain ⟨j, hj, rfl, zw1, HS1, hB1⟩ := hrel
    have HB1 := Lib.hid hB1
    clear hB1
    obtain ⟨s0w1, s1w1, sfw1, szw1⟩ := cells_at2 HS1.out
    by_cases hlt : j < m
    · obtain ⟨bk1, fo, rfl, hbl, hcl⟩ := HEL.out j hlt
      have HCL := Lib.hid hcl
      have y0 : w1.cell? ⟨bk1, fo + j, none⟩ = some (.slice (oh j) (hn j) (ch j)) := (HB1.out.cell (p := ⟨_, _, none⟩) hbl).trans (hcl j hlt)
      clear hcl
      have HLM := (HHO.out j hlt).lim
      have k0 : (0 : Int) ≤ (j : Int) := by omega
      have k1 : (j : Int) < (m : Int) := by omega
      have z0 : bk1 < w1.heap.size := by have := HB1.out.size; omega
      obtain ⟨A1, hA1⟩ : ∃ e, area2 (hn j) (H j) = e := ⟨_, rfl⟩
      have hneg := hr.out.neg j hlt
      have HA1 : Hid (∀ W, PtsAt W (.slice (oh j) (hn j) (ch j)) (hn j) (H j) → Calls Tryd.prog 20 #[.slice (oh j) (hn j) (ch j)] W (fun e w' => e = .returned (.int .i64 A1) ∧ Below W.heap.size W w')) := fun W a => by rw [← hA1]; exact area2P_ok _ _ _ W a (hr.out.hp j hlt) (hr.out.h32 j hlt) (by omega)
      have kA : decide (0 ≤ A1) = false := decide_eq_false (by rw [← hA1]; omega)
      clear hA1 hneg
      go_wp2_with fail
      (go_at_call 36; refine (checkP_ok _ _ _ _ ((HHO.out j hlt).below HB1.out) (hr.out.hp j hlt) (hr.out.h32 j hlt) (by have := hr.out.neg j hlt; omega)).mono ?_; rintro e_ w3 ⟨rfl, hb3⟩)
      have HB3 := Lib.hid (below_step HB1.out hb3)
      have HS3 : Hid (w3.heap[w.heap.size]? = some (.cells #[.slice oo no co, .slice (some ⟨bk1, fo, none⟩) m cq] 25)) := (hb3.block w.heap.size zw1).trans HS1.out
      have zw3 : w.heap.size < w3.heap.size := by have := hb3.size; omega
      clear hb3 s0w1 s1w1 sfw1 szw1
      obtain ⟨s0w3, s1w3, sfw3, szw3⟩ := cells_at2 HS3.out
      clear y0
      go_wp2_with fail
      (go_at_call 20; refine (HA1.out _ ((HHO.out j hlt).below HB3.out)).mono ?_; rintro e_ w4 ⟨rfl, hb4⟩)
      have HB4 := Lib.hid (below_step HB3.out hb4)
      have HS4 : Hid (w4.heap[w.heap.size]? = some (.cells #[.slice oo no co, .slice (some ⟨bk1, fo, none⟩) m cq] 25)) := (hb4.block w.heap.size zw3).trans HS3.out
      have zw4 : w.heap.size < w4.heap.size := by have := hb4.size; omega
      clear hb4 s0w3 s1w3 sfw3 szw3
      obtain ⟨s0w4, s1w4, sfw4, szw4⟩ := cells_at2 HS4.out
      go_wp2_with fail
      (go_at_call 37; refine (withinG_yes _ _ _ _ _ _ _ ((HHO.out j hlt).below HB4.out) (H0.out.below HB4.out) (hr.out.hp j hlt) hr.out.po hr.out.no32 HAO (fun i k hi hk => hr.out.nmo j hlt i k hi hk) (fun i hi => hr.out.ino j hlt i hi)).mono ?_; rintro e_ w5 ⟨rfl, hb5⟩)
      have HB5 := Lib.hid (below_step HB4.out hb5)
      have HS5 : Hid (w5.heap[w.heap.size]? = some (.cells #[.slice oo no co, .slice (some ⟨bk1, fo, none⟩) m cq] 25)) := (hb5.block w.heap.size zw4).trans HS4.out
      have zw5 : w.heap.size < w5.heap.size := by have := hb5.size; omega
      clear hb5 s0w4 s1w4 sfw4 szw4
      obtain ⟨s0w5, s1w5, sfw5, szw5⟩ := cells_at2 HS5.out
      go_wp2
      go_loopw [51] (fun i wr => ∃ l : Nat, l ≤ j ∧ i = .int .i64 l ∧ w.heap.size < wr.heap.size ∧ Hid (wr.heap[w.heap.size]? = some (.cells #[.slice oo no co, .slice (some ⟨bk1, fo, none⟩) m cq] 25)) ∧ Below w.heap.size w wr) (fun i _ => j - (intOf i).toNat)
      case atStart => exact ⟨0, by omega, rfl, zw5, HS5, HB5.out⟩
      case round =>
        clear s0w5 s1w5 sfw5 szw5
        obtain ⟨w6, rfl⟩ : ∃ x : World, x = wr := ⟨_, rfl⟩
        obtain ⟨l, hl, rfl, zw6, HS6, hB6⟩ := hrel
        have HB6 := Lib.hid hB6
        clear hB6
        obtain ⟨s0w6, s1w6, sfw6, szw6⟩ := cells_at2 HS6.out
        by_cases hll : l < j
        · have y6 : w6.cell? ⟨bk1, fo + l, none⟩ = some (.slice (oh l) (hn l) (ch l)) := (HB6.out.cell (p := ⟨_, _, none⟩) hbl).trans (HCL.out l (by omega))
          have z3 : bk1 < w6.heap.size := by have := HB6.out.size; omega
          have i1 : (0 : Int) ≤ (l : Int) := by omega
          have i2 : (l : Int) < (j : Int) := by omega
          have hlj : j ≠ l := by omega
          have hlm : l < m := by omega
          go_wp2_with fail
          (go_at_call 38; refine (apart_yes _ _ _ _ _ _ _ ((HHO.out j hlt).below HB6.out) ((HHO.out l hlm).below HB6.out) (hr.out.hp j hlt) (hr.out.hp l hlm) (hr.out.h32 j hlt) (hr.out.h32 l hlm) (HNZ.out j hlt) (HNZ.out l hlm) (fun i k hi hk => hr.out.nmh j l hlt hlm hlj i k hi hk) (hr.out.out l j hlm hlt (Ne.symm hlj) 0 (by have := (hr.out.hp l hlm).n3; omega)) (hr.out.out j l hlt hlm hlj 0 (by have := (hr.out.hp j hlt).n3; omega))).mono ?_; rintro e_ w7 ⟨rfl, hb7⟩)
          have HB7 := Lib.hid (below_step HB6.out hb7)
          have HS7 : Hid (w7.heap[w.heap.size]? = some (.cells #[.slice oo no co, .slice (some ⟨bk1, fo, none⟩) m cq] 25)) := (hb7.block w.heap.size zw6).trans HS6.out
          have zw7 : w.heap.size < w7.heap.size := by have := hb7.size; omega
          clear hb7 s0w6 s1w6 sfw6 szw6
          obtain ⟨s0w7, s1w7, sfw7, szw7⟩ := cells_at2 HS7.out
          clear y6
          go_wp2
          go_roundw
          case rel => exact ⟨l + 1, by omega, by go_num, zw7, HS7, HB7.out⟩
          case measure => simp [intOf]; omega
        · go_wp2
          go_roundw
          case rel => exact ⟨j + 1, by omega, by go_num, zw6, HS6, HB6.out⟩
          case measure => simp [intOf]; omega
    · go_wp2
      go_returns
      exact ⟨rfl, HB1.out⟩
end Go.Proofs.YtgbhhjdmochhpaaDoor
namespace Go.Proofs.YtgbhhjdmochhpaaDoor
open Go Go.ChangeShapes Go.WideShapes Go.RowKit Go.ChangeAt
set_option linter.unusedVariables false
set_option linter.unusedSimpArgs false

def consF {α : Type} (a : α) (f : Nat → α) : Nat → α
  | 0 => a
  | i + 1 => f i
theorem infoP_parts {i? : Option TypeInfo} {z : Value} {s b : Nat} (h : i?.map (fun i => (i.zero, i.size, i.bytes)) = some (some z, s, b)) : ∃ i, i? = some i ∧ i.zero = some z ∧ i.size = s ∧ i.bytes = b := by
  cases i? with
  | none => cases h
  | some i => simp only [Option.map_some, Option.some.injEq, Prod.mk.injEq] at h; exact ⟨i, rfl, h.1, h.2.1, h.2.2⟩
theorem info_pts : (Tryd.prog.info? 22).map (fun i => (i.zero, i.size, i.bytes)) = some (some (.slice none 0 0), 1, 24) := by kernel_rfl
theorem sumZ_bd {f : Nat → Int} {K : Int} : ∀ {n : Nat}, (∀ i, i < n → -K ≤ f i ∧ f i ≤ K) → -(K * (n : Int)) ≤ sumZ f n ∧ sumZ f n ≤ K * (n : Int)
  | 0, _ => by simp [sumZ]
  | n + 1, h => by
    have ih := sumZ_bd (n := n) (fun i hi => h i (by omega))
    have h1 := h n (by omega)
    have e : ((n + 1 : Nat) : Int) = (n : Int) + 1 := by omega
    rw [sumZ, e, Int.mul_add]
    omega
theorem area_bd {n : Nat} {P : Nat → Pt} (h : ∀ i, i < n → nearB 32768 (P i) = true) : -(34359738368 * (n : Int)) ≤ area2 n P ∧ area2 n P ≤ 34359738368 * (n : Int) :=
  sumZ_bd fun i hi => by
    have n1 := nearB_iff.1 (h i hi)
    have n2 := nearB_iff.1 (h (nx n i) (nx_lt (by omega)))
    have g1 := prod_bd (x := (P i).1) (y := (P (nx n i)).2) (by omega) (by omega)
    have g2 := prod_bd (x := (P (nx n i)).1) (y := (P i).2) (by omega) (by omega)
    omega
theorem Pol.near {n : Nat} {P : Nat → Pt} (h : Pol 32768 n P) : ∀ i, i < n → nearB 32768 (P i) = true := fun i hi => nearB_iff.2 (by have := h.nr i hi; omega)
theorem area_cons (no m : Nat) (P : Nat → Pt) (hn : Nat → Nat) (H : Nat → Nat → Pt) : sumZ (fun i => area2 (consF no hn i) (consF P H i)) (m + 1) = area2S no P m hn H := by
  have h := sumZ_shift (fun i => area2 (consF no hn i) (consF P H i)) m
  unfold area2S
  have e1 : sumZ (fun i => area2 (consF no hn (i + 1)) (consF P H (i + 1))) m = sumZ (fun i => area2 (hn i) (H i)) m := rfl
  have e2 : area2 (consF no hn 0) (consF P H 0) = area2 no P := rfl
  rw [e1] at h
  (try dsimp only at h)
  rw [e2] at h
  omega
/-- a row of contours, out of what it owns -/
theorem owns_holes {w : World} {B : Nat} {v : Value} {m : Nat} {oh : Nat → Option Addr} {ch hn : Nat → Nat} {H : Nat → Nat → Pt} {xs : List Value} (h : w.ownsRow B 22 1 v m xs) (hx : ∀ i, i < m → xs[i]? = some (.slice (oh i) (hn i) (ch i))) (hp : ∀ i, i < m → PtsAt w (.slice (oh i) (hn i) (ch i)) (hn i) (H i)) : HolesAt w v m oh ch hn H :=
  ⟨owns_slice h _ (by decide) (fun i j hi hj => by
    obtain rfl : j = 0 := by omega
    rw [show i * 1 + 0 = i by omega]
    exact hx i hi), hp⟩
theorem Blk_add (b off j : Nat) : (⟨b, off, none⟩ : Addr).add j = ⟨b, off + j, none⟩ := by unfold Addr.add; split <;> simp_all

set_option maxHeartbeats 2000000 in
theorem contours_any (v u : Value) (no m : Nat) (P : Nat → Pt) (oh : Nat → Option Addr) (ch hn : Nat → Nat) (H : Nat → Nat → Pt) (w : World) (h : PtsAt w v no P) (hh : HolesAt w u m oh ch hn H) (hm8 : m ≤ 8) :
    Calls Tryd.prog 15 #[.agg #[v, u]] w fun e w' => ∃ (o : Option Addr) (c : Nat) (oh' : Nat → Option Addr) (ch' : Nat → Nat), e = .returned (.slice o (m + 1) c) ∧ HolesAt w' (.slice o (m + 1) c) (m + 1) oh' ch' (consF no hn) (consF P H) ∧ Below w.heap.size w w' := by
  have hu : Tryd.prog.underlying 23 = some (.slice 22) := Tryd.underlying23
  obtain ⟨i0, hi, hz0, hz1, hz2⟩ := infoP_parts info_pts
  obtain ⟨oo, co, rfl, hno, hco, -⟩ := h.form
  obtain ⟨oq, cq, rfl, hm, hcq, hel⟩ := hh.form
  have HEL := Lib.hid hel
  have H0 := Lib.hid h
  have HHO := Lib.hid hh.2
  clear h hel hh
  go_enter Tryd.func15, Tryd.ntmps15
  go_wp2_with (at_builtin; refine wpList_append_sl rfl _ _ 23 rfl w.heap.size 22 i0 _ 1 24 hu hi hz0 hz1 hz2 rfl (by decide) (.slice (some ⟨w.heap.size + 1, 0, none⟩) 1 1) 1 [.slice oo no co] rfl ?c0 oq m cq (listOf (fun i => .slice (oh i) (hn i) (ch i)) m) rfl ?c1 ?c2 ?c3 ?c4 ?c5 ?c6 ?c7 ?_)
  case c0 =>
    have t := World.ownsRow_lit (base := w.heap.size) (e := 22) (size := 1) (w.alloc (.cells #[.slice oo no co, .slice oq m cq] 25)) #[.slice oo no co] 1 (by simp) (by unfold maxLen; omega) rfl
    rw [World.size_alloc] at t
    exact t
  case c1 => rw [listOf_len]; omega
  case c2 =>
    intro e
    rcases Nat.eq_zero_or_pos m with h0 | h0
    · exact h0
    · obtain ⟨b, off, e2, -⟩ := HEL.out 0 h0
      rw [e] at e2
      cases e2
  case c3 =>
    intro ad had j u hj
    have hlt : j < m := by rw [← listOf_len (fun i => Value.slice (oh i) (hn i) (ch i)) m]; exact (List.getElem?_eq_some_iff.1 hj).1
    obtain ⟨b, off, e2, hlb, hc⟩ := HEL.out 0 (by omega)
    rw [had] at e2
    cases e2
    rw [listOf_at _ _ _ hlt] at hj
    cases hj
    rw [Blk_add]
    have hB : Below w.heap.size w ((w.alloc (.cells #[.slice oo no co, .slice oq m cq] 25)).alloc (.cells #[.slice oo no co] 22)) := by go_grown
    exact (hB.cell (p := ⟨_, _, none⟩) hlb).trans (hc j hlt)
  case c4 =>
    intro u hu
    unfold listOf at hu
    obtain ⟨i, -, rfl⟩ := List.mem_map.1 hu
    rfl
  case c5 => unfold maxLen; omega
  case c6 => omega
  case c7 => simp <;> omega
  intro v' w1 hown hgrow
  have hB : Below w.heap.size w w1 := by
    refine Below.grown (by go_grown) hgrow (by simp <;> omega) (fun k hk => ?_)
    simp [Value.ownBlock] at hk
    omega
  have HB := Lib.hid hB
  have HO : Hid (HolesAt w1 v' (m + 1) (consF oo oh) (consF co ch) (consF no hn) (consF P H)) := by
    have h1 : w1.ownsRow w.heap.size 22 1 v' (m + 1) ([.slice oo no co] ++ listOf (fun i => .slice (oh i) (hn i) (ch i)) m) := by rw [Nat.add_comm m 1]; exact hown
    refine owns_holes h1 (fun i hi => ?_) (fun i hi => ?_)
    · cases i with
      | zero => rfl
      | succ k =>
        show (listOf _ m)[k]? = _
        exact listOf_at _ _ _ (by omega)
    · cases i with
      | zero => exact H0.out.below hB
      | succ k => exact (HHO.out k (by omega)).below hB
  obtain ⟨o', c', rfl, -, -, -⟩ := HO.out.form
  clear hown hgrow hB
  go_wp2
  go_returns
  exact ⟨_, _, _, _, rfl, HO.out, HB.out⟩

set_option maxHeartbeats 4000000 in
set_option maxRecDepth 20000 in
theorem area2G_ok (v u : Value) (no m : Nat) (P : Nat → Pt) (oh : Nat → Option Addr) (ch hn : Nat → Nat) (H : Nat → Nat → Pt) (w : World) (h : PtsAt w v no P) (hh : HolesAt w u m oh ch hn H) (hr : Hid (Reg no P m hn H)) :
    Calls Tryd.prog 6 #[.agg #[v, u]] w fun e w' => e = .returned (.int .i64 (area2S no P m hn H)) ∧ Below w.heap.size w w' := by
  have hm8 := hr.out.m8
  have HPC : Hid (∀ i, i < m + 1 → Hid (Pol 32768 (consF no hn i) (consF P H i)) ∧ consF no hn i ≤ 32 ∧ area2 (consF no hn i) (consF P H i) ≠ 0) := fun i hi => by
    cases i with
    | zero => exact ⟨hr.out.po, hr.out.no32, by have := hr.out.pos; exact show area2 no P ≠ 0 by omega⟩
    | succ k => exact ⟨hr.out.hp k (by omega), hr.out.h32 k (by omega), by have := hr.out.neg k (by omega); exact show area2 (hn k) (H k) ≠ 0 by omega⟩
  have HAB : Hid (∀ i, i < m + 1 → -(32 * 34359738368) ≤ area2 (consF no hn i) (consF P H i) ∧ area2 (consF no hn i) (consF P H i) ≤ 32 * 34359738368) := fun i hi => by
    obtain ⟨h1, h2, -⟩ := HPC.out i hi
    have := area_bd h1.out.near
    omega
  obtain ⟨R, hR⟩ : ∃ e, area2S no P m hn H = e := ⟨_, rfl⟩
  have HRR := Lib.hid hR
  rw [hR]
  clear hR
  have HH := Lib.hid hh
  obtain ⟨oo, co, rfl, hno, hco, -⟩ := h.form
  obtain ⟨oq, cq, rfl, hm, hcq, -⟩ := hh.form
  have H0 := Lib.hid h
  clear h hh
  go_enter Tryd.func6, Tryd.ntmps6
  go_wp2_with fail
  obtain ⟨w0, hw0⟩ : ∃ X, (w.alloc (.cells #[.slice oo no co, .slice oq m cq] 25)) = X := ⟨_, rfl⟩
  have HS0 : Hid (w0.heap[w.heap.size]? = some (.cells #[.slice oo no co, .slice oq m cq] 25)) := by
    show _ = _
    rw [← hw0]
    exact heapA_at _ _ _ rfl
  have HB0 : Hid (Below w.heap.size w w0) := by
    show Below _ _ _
    rw [← hw0]
    exact (Below.refl w.heap.size w).alloc (Nat.le_refl _) _
  have zw0 : w.heap.size < w0.heap.size := by rw [← hw0]; simp
  rw [hw0]
  clear hw0
  obtain ⟨s0w0, s1w0, sfw0, szw0⟩ := cells_at2 HS0.out
  (go_at_call 19; refine (checkG_ok _ _ no m P oh ch hn H _ (H0.out.below HB0.out) (HH.out.below HB0.out) hr).mono ?_; rintro e_ w3 ⟨rfl, hb3⟩)
  have HB3 := Lib.hid (below_step HB0.out hb3)
  have HS3 : Hid (w3.heap[w.heap.size]? = some (.cells #[.slice oo no co, .slice oq m cq] 25)) := (hb3.block w.heap.size zw0).trans HS0.out
  have zw3 : w.heap.size < w3.heap.size := by have := hb3.size; omega
  clear hb3 s0w0 s1w0 sfw0 szw0
  obtain ⟨s0w3, s1w3, sfw3, szw3⟩ := cells_at2 HS3.out
  go_wp2_with fail
  (go_at_call 15; refine (contours_any _ _ no m P oh ch hn H _ (H0.out.below HB3.out) (HH.out.below HB3.out) hr.out.m8).mono ?_; rintro e_ w4 ⟨o4, c4, oh', ch', rfl, hO, hb4⟩)
  have HB4 := Lib.hid (below_step HB3.out hb4)
  obtain ⟨o4', c4', e4, -, hc4, hel4⟩ := hO.form
  simp only [Value.slice.injEq, true_and] at e4
  obtain ⟨rfl, rfl⟩ := e4
  have HEL := Lib.hid hel4
  have HPS := Lib.hid hO.2
  clear hb4 hO hel4 s0w3 s1w3 sfw3 szw3
  go_wp2
  go_loopw [3, 12] (fun t i wr => ∃ (j : Nat) (s : Int), j ≤ m + 1 ∧ i = .int .i64 j ∧ t = .int .i64 s ∧ Hid (s = sumZ (fun i => area2 (consF no hn i) (consF P H i)) j) ∧ Below w4.heap.size w4 wr) (fun t i _ => m + 1 - (intOf i).toNat)
  case atStart => exact ⟨0, 0, by omega, rfl, rfl, rfl, Below.refl _ _⟩
  case round =>
    obtain ⟨w1, rfl⟩ : ∃ x : World, x = wr := ⟨_, rfl⟩
    obtain ⟨j, s, hj, rfl, rfl, hs, hB1⟩ := hrel
    have HB1 := Lib.hid hB1
    have HBD := Lib.hid (sumZ_bd (f := fun i => area2 (consF no hn i) (consF P H i)) (K := 32 * 34359738368) (n := j) (fun i hi => HAB.out i (by omega)))
    by_cases hlt : j < m + 1
    · obtain ⟨bk1, fo, rfl, hbl, hcl⟩ := HEL.out j hlt
      have y0 : w1.cell? ⟨bk1, fo + j, none⟩ = some (.slice (oh' j) (consF no hn j) (ch' j)) := (hB1.cell (p := ⟨_, _, none⟩) hbl).trans (hcl j hlt)
      have z0 : bk1 < w1.heap.size := by have := hB1.size; omega
      have k0 : (0 : Int) ≤ (j : Int) := by omega
      have k1 : (j : Int) < (m : Int) + 1 := by omega
      have k2 : (j : Int) < ((m + 1 : Nat) : Int) := by omega
      obtain ⟨A1, hA1⟩ : ∃ e, area2 (consF no hn j) (consF P H j) = e := ⟨_, rfl⟩
      have HA1 : Hid (∀ W, PtsAt W (.slice (oh' j) (consF no hn j) (ch' j)) (consF no hn j) (consF P H j) → Calls Tryd.prog 20 #[.slice (oh' j) (consF no hn j) (ch' j)] W (fun e w' => e = .returned (.int .i64 A1) ∧ Below W.heap.size W w')) := fun W a => by rw [← hA1]; exact area2P_ok _ _ _ W a (HPC.out j hlt).1 (HPC.out j hlt).2.1 (HPC.out j hlt).2.2
      have hbd := HBD.out
      rw [← hs.out] at hbd
      have hab := HAB.out j hlt
      (try dsimp only at hab)
      rw [hA1] at hab
      obtain ⟨S', hS'⟩ : ∃ e, s + A1 = e := ⟨_, rfl⟩
      have v1 : IntKind.i64.wrap (s + A1) = S' := by rw [hS']; exact IntWalk.i64_in _ (by omega)
      have HS' : Hid (S' = sumZ (fun i => area2 (consF no hn i) (consF P H i)) (j + 1)) := by
        show _ = _
        rw [sumZ, ← hs.out, hA1, hS']
      clear hA1 hbd hab hS' hcl hB1
      go_wp2_with fail
      (go_at_call 20; refine (HA1.out _ ((HPS.out j hlt).below HB1.out)).mono ?_; rintro e_ w5 ⟨rfl, hb5⟩)
      have HB5 := Lib.hid (below_step HB1.out hb5)
      clear hb5
      go_wp2
      go_roundw
      case rel => exact ⟨j + 1, S', by omega, by go_num, rfl, HS', HB5.out⟩
      case measure => simp [intOf]; omega
    · have HE : Hid (s = R) := by
        show _ = _
        have e : j = m + 1 := by omega
        rw [hs.out, e, area_cons]
        exact HRR.out
      have HBZ := Lib.hid (below_step HB4.out HB1.out)
      have k2 : ¬ (j : Int) < (m : Int) + 1 := by omega
      go_wp2
      go_returns
      rw [HE.out]
      exact ⟨rfl, HBZ.out⟩
end Go.Proofs.YtgbhhjdmochhpaaDoor
namespace Go.Proofs.YtgbhhjdmochhpaaDoor
open Go Go.ChangeShapes Go.WideShapes Go.RowKit Go.ChangeAt
set_option linter.unusedVariables false
set_option linter.unusedSimpArgs false

theorem area2S_le {no m : Nat} {P : Nat → Pt} {hn : Nat → Nat} {H : Nat → Nat → Pt} (h : Reg no P m hn H) : area2S no P m hn H ≤ 32 * 34359738368 := by
  have h1 := (area_bd h.po.near).2
  have h2 := h.no32
  have h3 : ∀ q, q ≤ m → sumZ (fun i => area2 (hn i) (H i)) q ≤ 0 := by
    intro q
    induction q with
    | zero => intro _; exact Int.le_refl _
    | succ q ih =>
      intro hq
      have a := ih (by omega)
      have b := h.neg q (by omega)
      rw [sumZ]
      omega
  have h4 := h3 m (Nat.le_refl _)
  unfold area2S
  omega
theorem pfrom_any (n lo hi : Int) (w : World) : Calls Tryd.prog 41 #[.int .i64 n, .int .i64 lo, .int .i64 hi] w fun e w' => e = .returned (.bool (inB n lo hi)) ∧ Below w.heap.size w w' := by
  obtain ⟨R, hR⟩ : ∃ R, inB n lo hi = R := ⟨_, rfl⟩
  rw [hR]
  unfold inB at hR
  by_cases h1 : lo ≤ n
  · have k1 : decide (lo ≤ n) = true := decide_eq_true h1
    rw [k1, Bool.true_and] at hR
    have HR := Lib.hid hR
    clear hR h1
    go_enter Tryd.func41, Tryd.ntmps41
    go_wp2
    go_returns
    rw [← HR.out]
    exact ⟨rfl, by go_grown⟩
  · have k1 : decide (lo ≤ n) = false := decide_eq_false h1
    rw [k1, Bool.false_and] at hR
    have HR := Lib.hid hR
    clear hR h1
    go_enter Tryd.func41, Tryd.ntmps41
    go_wp2
    go_returns
    rw [← HR.out]
    exact ⟨rfl, by go_grown⟩
theorem form1 (w : World) : Calls Tryd.prog 24 #[.int .i64 1] w fun e w' => e = .returned (.int .i64 1) ∧ Below w.heap.size w w' := by
  go_enter Tryd.func24, Tryd.ntmps24
  go_wp2
  go_returns
  exact ⟨rfl, by go_grown⟩

set_option maxHeartbeats 4000000 in
set_option maxRecDepth 20000 in
theorem spare1 (id nd g : ByteArray) (rv th a1 a2 a3 t : Int) (oo oq : Option Addr) (no co nh cq : Nat) (w : World) (hth : 1 ≤ th) : Calls Tryd.prog 42 #[.agg #[(.string id), (.int .i64 rv), (.int .i64 1), (.string nd), (.string g), (.int .i64 th), (.slice oo no co), (.slice oq nh cq), (.string ⟨#[]⟩), (.int .i64 0), (.int .i64 0), (.int .i64 0), (.int .i64 0), (.int .i64 0), (.int .i64 a1), (.int .i64 a2), (.int .i64 a3), (.int .i64 t)]] w fun e w' => e = .returned (.bool false) ∧ Below w.heap.size w w' := by
  have q := neq_vecP 0 0 0 0 0 0
  have kn : (th == 0) = false := by simp; omega
  have kn2 : (th != 0) = true := by simp; omega
  have hf := form1
  go_enter Tryd.func42, Tryd.ntmps42
  go_wp2_with fail
  (go_at_call 24; refine (hf _).mono ?_; rintro e w1 ⟨rfl, hb⟩)
  have HB := Lib.hid (below_step (w := w) (by go_grown) hb)
  clear hb
  go_wp2
  go_returns
  exact ⟨rfl, HB.out⟩

set_option maxHeartbeats 8000000 in
set_option maxRecDepth 20000 in
theorem made1 (v : Value) (m : Mat) (gv : Nat → Value) (id nd g : ByteArray) (rv th a1 a2 a3 t : Int) (oo oq : Option Addr) (no co nh cq : Nat) (w : World) (hm : MatAt w v m gv) (hg : m.hasG g = true) (hde : 1000 ≤ m.de (m.gi g) ∧ m.de (m.gi g) ≤ 20000) (hth : 1 ≤ th ∧ th ≤ 120) (hro : m.rolled g th = true) : Calls Tryd.prog 43 #[.agg #[(.string id), (.int .i64 rv), (.int .i64 1), (.string nd), (.string g), (.int .i64 th), (.slice oo no co), (.slice oq nh cq), (.string ⟨#[]⟩), (.int .i64 0), (.int .i64 0), (.int .i64 0), (.int .i64 0), (.int .i64 0), (.int .i64 a1), (.int .i64 a2), (.int .i64 a3), (.int .i64 t)], v] w fun e w' => e = .returned (.bool true) ∧ Below w.heap.size w w' := by
  have HM := Lib.hid hm
  obtain ⟨vg, vs, rfl, hG, hS, -, -, -⟩ := hm
  obtain ⟨og, cg, rfl, -, -⟩ := hG.form
  obtain ⟨os', cs', rfl, -, -⟩ := hS.form
  clear hG hS
  obtain ⟨D, hD⟩ : ∃ d, m.de (m.gi g) = d := ⟨_, rfl⟩
  have HD := Lib.hid hD
  have HG := Lib.hid hg
  rw [hD] at hde
  have hf := form1
  have HF1 : Hid (∀ W, Calls Tryd.prog 41 #[.int .i64 D, .int .i64 1000, .int .i64 20000] W fun e w' => e = .returned (.bool true) ∧ Below W.heap.size W w') := fun W => by
    have h := pfrom_any D 1000 20000 W
    rw [inB_yes hde.1 hde.2] at h
    exact h
  have HF2 : Hid (∀ W, Calls Tryd.prog 41 #[.int .i64 th, .int .i64 1, .int .i64 120] W fun e w' => e = .returned (.bool true) ∧ Below W.heap.size W w') := fun W => by
    have h := pfrom_any th 1 120 W
    rw [inB_yes hth.1 hth.2] at h
    exact h
  have HRO : Hid (∀ W v', MatAt W v' m gv → Calls Tryd.prog 67 #[v', .string g, .int .i64 th] W fun e w' => e = .returned (.bool true) ∧ Below W.heap.size W w') := fun W v' h => by rw [← hro]; exact rolled_any v' m gv g th W h
  clear hD hde hth hro hg
  go_enter Tryd.func43, Tryd.ntmps43
  go_wp2_with fail
  obtain ⟨w0, hw0⟩ : ∃ X, ((w.alloc (.cells #[(.string id), (.int .i64 rv), (.int .i64 1), (.string nd), (.string g), (.int .i64 th), (.slice oo no co), (.slice oq nh cq), (.string ⟨#[]⟩), (.int .i64 0), (.int .i64 0), (.int .i64 0), (.int .i64 0), (.int .i64 0), (.int .i64 a1), (.int .i64 a2), (.int .i64 a3), (.int .i64 t)] 31)).alloc (.cells #[.slice og m.ng cg, .slice os' m.ns cs'] 35)) = X := ⟨_, rfl⟩
  have HQP : Hid (w0.heap[w.heap.size]? = some (.cells #[(.string id), (.int .i64 rv), (.int .i64 1), (.string nd), (.string g), (.int .i64 th), (.slice oo no co), (.slice oq nh cq), (.string ⟨#[]⟩), (.int .i64 0), (.int .i64 0), (.int .i64 0), (.int .i64 0), (.int .i64 0), (.int .i64 a1), (.int .i64 a2), (.int .i64 a3), (.int .i64 t)] 31)) := by
    show _ = _
    rw [← hw0]
    exact (heapA_old _ _ _ (by simp)).trans (heapA_at _ _ _ rfl)
  have HQM : Hid (w0.heap[(w.heap.size + 1)]? = some (.cells #[.slice og m.ng cg, .slice os' m.ns cs'] 35)) := by
    show _ = _
    rw [← hw0]
    exact heapA_at _ _ _ (by simp)
  have hBw0 : Below w.heap.size w w0 := by rw [← hw0]; exact (((Below.refl w.heap.size w).alloc (Nat.le_refl _) _).alloc (by simp) _)
  rw [hw0]
  clear hw0
  replace HM := Lib.hid (HM.out.below hBw0)
  obtain ⟨c0, c1, c2, c3, c4, c5, c6, c7, c8, c9, c10, c11, c12, c13, c14, c15, c16, c17, cf, cz⟩ := cells_at18 HQP.out
  obtain ⟨d0, d1, df, dz⟩ := cells_at2 HQM.out
  (go_at_call 24; refine (hf _).mono ?_; rintro e_ w1 ⟨rfl, hb⟩)
  have hPw1 : Below w0.heap.size w0 w1 := below_step (w := w0) (by first | exact Below.refl _ _ | go_grown) hb
  have hBw1 : Below w.heap.size w w1 := below_step hBw0 hPw1
  replace HM := Lib.hid (HM.out.below hPw1)
  have HQP2 : Hid (w1.heap[w.heap.size]? = some (.cells #[(.string id), (.int .i64 rv), (.int .i64 1), (.string nd), (.string g), (.int .i64 th), (.slice oo no co), (.slice oq nh cq), (.string ⟨#[]⟩), (.int .i64 0), (.int .i64 0), (.int .i64 0), (.int .i64 0), (.int .i64 0), (.int .i64 a1), (.int .i64 a2), (.int .i64 a3), (.int .i64 t)] 31)) := (hPw1.block _ (block_lt HQP.out)).trans HQP.out
  have HQM2 : Hid (w1.heap[(w.heap.size + 1)]? = some (.cells #[.slice og m.ng cg, .slice os' m.ns cs'] 35)) := (hPw1.block _ (block_lt HQM.out)).trans HQM.out
  clear HQP HQM
  have HQP := HQP2
  have HQM := HQM2
  clear HQP2 HQM2
  clear c0 c1 c2 c3 c4 c5 c6 c7 c8 c9 c10 c11 c12 c13 c14 c15 c16 c17 cf cz d0 d1 df dz
  clear hb hPw1 hBw0
  obtain ⟨c0, c1, c2, c3, c4, c5, c6, c7, c8, c9, c10, c11, c12, c13, c14, c15, c16, c17, cf, cz⟩ := cells_at18 HQP.out
  obtain ⟨d0, d1, df, dz⟩ := cells_at2 HQM.out
  go_wp2_with fail
  (go_at_call 22; refine (grade_any _ m gv g _ (HM.out.below (by first | exact Below.refl _ _ | (show Below w1.heap.size w1 _; go_grown)))).mono ?_; rintro e_ w2 ⟨s1, d1', y1, gv', rfl, hd1, hi, hb⟩)
  have hPw2 : Below w1.heap.size w1 w2 := below_step (w := w1) (by first | exact Below.refl _ _ | go_grown) hb
  have hBw2 : Below w.heap.size w w2 := below_step hBw1 hPw2
  replace HM := Lib.hid (HM.out.below hPw2)
  have HQP2 : Hid (w2.heap[w.heap.size]? = some (.cells #[(.string id), (.int .i64 rv), (.int .i64 1), (.string nd), (.string g), (.int .i64 th), (.slice oo no co), (.slice oq nh cq), (.string ⟨#[]⟩), (.int .i64 0), (.int .i64 0), (.int .i64 0), (.int .i64 0), (.int .i64 0), (.int .i64 a1), (.int .i64 a2), (.int .i64 a3), (.int .i64 t)] 31)) := (hPw2.block _ (block_lt HQP.out)).trans HQP.out
  have HQM2 : Hid (w2.heap[(w.heap.size + 1)]? = some (.cells #[.slice og m.ng cg, .slice os' m.ns cs'] 35)) := (hPw2.block _ (block_lt HQM.out)).trans HQM.out
  clear HQP HQM
  have HQP := HQP2
  have HQM := HQM2
  clear HQP2 HQM2
  obtain ⟨o2, c2', rfl, -, -⟩ := hi.form
  rw [HG.out]
  obtain rfl : D = d1' := HD.out.symm.trans (hd1 HG.out).symm
  clear hi hd1
  clear c0 c1 c2 c3 c4 c5 c6 c7 c8 c9 c10 c11 c12 c13 c14 c15 c16 c17 cf cz d0 d1 df dz
  clear hb hPw2 hBw1
  obtain ⟨c0, c1, c2, c3, c4, c5, c6, c7, c8, c9, c10, c11, c12, c13, c14, c15, c16, c17, cf, cz⟩ := cells_at18 HQP.out
  obtain ⟨d0, d1, df, dz⟩ := cells_at2 HQM.out
  go_wp2_with fail
  (go_at_call 41; refine (HF1.out _).mono ?_; rintro e_ w3 ⟨rfl, hb⟩)
  have hPw3 : Below w2.heap.size w2 w3 := below_step (w := w2) (by first | exact Below.refl _ _ | go_grown) hb
  have hBw3 : Below w.heap.size w w3 := below_step hBw2 hPw3
  replace HM := Lib.hid (HM.out.below hPw3)
  have HQP2 : Hid (w3.heap[w.heap.size]? = some (.cells #[(.string id), (.int .i64 rv), (.int .i64 1), (.string nd), (.string g), (.int .i64 th), (.slice oo no co), (.slice oq nh cq), (.string ⟨#[]⟩), (.int .i64 0), (.int .i64 0), (.int .i64 0), (.int .i64 0), (.int .i64 0), (.int .i64 a1), (.int .i64 a2), (.int .i64 a3), (.int .i64 t)] 31)) := (hPw3.block _ (block_lt HQP.out)).trans HQP.out
  have HQM2 : Hid (w3.heap[(w.heap.size + 1)]? = some (.cells #[.slice og m.ng cg, .slice os' m.ns cs'] 35)) := (hPw3.block _ (block_lt HQM.out)).trans HQM.out
  clear HQP HQM
  have HQP := HQP2
  have HQM := HQM2
  clear HQP2 HQM2
  clear c0 c1 c2 c3 c4 c5 c6 c7 c8 c9 c10 c11 c12 c13 c14 c15 c16 c17 cf cz d0 d1 df dz
  clear hb hPw3 hBw2
  obtain ⟨c0, c1, c2, c3, c4, c5, c6, c7, c8, c9, c10, c11, c12, c13, c14, c15, c16, c17, cf, cz⟩ := cells_at18 HQP.out
  obtain ⟨d0, d1, df, dz⟩ := cells_at2 HQM.out
  go_wp2_with fail
  (go_at_call 24; refine (hf _).mono ?_; rintro e_ w4 ⟨rfl, hb⟩)
  have hPw4 : Below w3.heap.size w3 w4 := below_step (w := w3) (by first | exact Below.refl _ _ | go_grown) hb
  have hBw4 : Below w.heap.size w w4 := below_step hBw3 hPw4
  replace HM := Lib.hid (HM.out.below hPw4)
  have HQP2 : Hid (w4.heap[w.heap.size]? = some (.cells #[(.string id), (.int .i64 rv), (.int .i64 1), (.string nd), (.string g), (.int .i64 th), (.slice oo no co), (.slice oq nh cq), (.string ⟨#[]⟩), (.int .i64 0), (.int .i64 0), (.int .i64 0), (.int .i64 0), (.int .i64 0), (.int .i64 a1), (.int .i64 a2), (.int .i64 a3), (.int .i64 t)] 31)) := (hPw4.block _ (block_lt HQP.out)).trans HQP.out
  have HQM2 : Hid (w4.heap[(w.heap.size + 1)]? = some (.cells #[.slice og m.ng cg, .slice os' m.ns cs'] 35)) := (hPw4.block _ (block_lt HQM.out)).trans HQM.out
  clear HQP HQM
  have HQP := HQP2
  have HQM := HQM2
  clear HQP2 HQM2
  clear c0 c1 c2 c3 c4 c5 c6 c7 c8 c9 c10 c11 c12 c13 c14 c15 c16 c17 cf cz d0 d1 df dz
  clear hb hPw4 hBw3
  obtain ⟨c0, c1, c2, c3, c4, c5, c6, c7, c8, c9, c10, c11, c12, c13, c14, c15, c16, c17, cf, cz⟩ := cells_at18 HQP.out
  obtain ⟨d0, d1, df, dz⟩ := cells_at2 HQM.out
  go_wp2_with fail
  (go_at_call 41; refine (HF2.out _).mono ?_; rintro e_ w5 ⟨rfl, hb⟩)
  have hPw5 : Below w4.heap.size w4 w5 := below_step (w := w4) (by first | exact Below.refl _ _ | go_grown) hb
  have hBw5 : Below w.heap.size w w5 := below_step hBw4 hPw5
  replace HM := Lib.hid (HM.out.below hPw5)
  have HQP2 : Hid (w5.heap[w.heap.size]? = some (.cells #[(.string id), (.int .i64 rv), (.int .i64 1), (.string nd), (.string g), (.int .i64 th), (.slice oo no co), (.slice oq nh cq), (.string ⟨#[]⟩), (.int .i64 0), (.int .i64 0), (.int .i64 0), (.int .i64 0), (.int .i64 0), (.int .i64 a1), (.int .i64 a2), (.int .i64 a3), (.int .i64 t)] 31)) := (hPw5.block _ (block_lt HQP.out)).trans HQP.out
  have HQM2 : Hid (w5.heap[(w.heap.size + 1)]? = some (.cells #[.slice og m.ng cg, .slice os' m.ns cs'] 35)) := (hPw5.block _ (block_lt HQM.out)).trans HQM.out
  clear HQP HQM
  have HQP := HQP2
  have HQM := HQM2
  clear HQP2 HQM2
  clear c0 c1 c2 c3 c4 c5 c6 c7 c8 c9 c10 c11 c12 c13 c14 c15 c16 c17 cf cz d0 d1 df dz
  clear hb hPw5 hBw4
  obtain ⟨c0, c1, c2, c3, c4, c5, c6, c7, c8, c9, c10, c11, c12, c13, c14, c15, c16, c17, cf, cz⟩ := cells_at18 HQP.out
  obtain ⟨d0, d1, df, dz⟩ := cells_at2 HQM.out
  go_wp2_with fail
  (go_at_call 67; refine (HRO.out _ _ (HM.out.below (by first | exact Below.refl _ _ | (show Below w5.heap.size w5 _; go_grown)))).mono ?_; rintro e_ w6 ⟨rfl, hb⟩)
  have hPw6 : Below w5.heap.size w5 w6 := below_step (w := w5) (by first | exact Below.refl _ _ | go_grown) hb
  have hBw6 : Below w.heap.size w w6 := below_step hBw5 hPw6
  replace HM := Lib.hid (HM.out.below hPw6)
  have HQP2 : Hid (w6.heap[w.heap.size]? = some (.cells #[(.string id), (.int .i64 rv), (.int .i64 1), (.string nd), (.string g), (.int .i64 th), (.slice oo no co), (.slice oq nh cq), (.string ⟨#[]⟩), (.int .i64 0), (.int .i64 0), (.int .i64 0), (.int .i64 0), (.int .i64 0), (.int .i64 a1), (.int .i64 a2), (.int .i64 a3), (.int .i64 t)] 31)) := (hPw6.block _ (block_lt HQP.out)).trans HQP.out
  have HQM2 : Hid (w6.heap[(w.heap.size + 1)]? = some (.cells #[.slice og m.ng cg, .slice os' m.ns cs'] 35)) := (hPw6.block _ (block_lt HQM.out)).trans HQM.out
  clear HQP HQM
  have HQP := HQP2
  have HQM := HQM2
  clear HQP2 HQM2
  clear c0 c1 c2 c3 c4 c5 c6 c7 c8 c9 c10 c11 c12 c13 c14 c15 c16 c17 cf cz d0 d1 df dz
  clear hb hPw6 hBw5
  obtain ⟨c0, c1, c2, c3, c4, c5, c6, c7, c8, c9, c10, c11, c12, c13, c14, c15, c16, c17, cf, cz⟩ := cells_at18 HQP.out
  obtain ⟨d0, d1, df, dz⟩ := cells_at2 HQM.out
  go_wp2
  go_returns
  exact ⟨rfl, by go_grown⟩

set_option maxHeartbeats 8000000 in
set_option maxRecDepth 20000 in
theorem pcheck1 (v : Value) (m : Mat) (gv : Nat → Value) (id nd g : ByteArray) (rv th a1 a2 a3 t : Int) (oo oq : Option Addr) (no co nh cq : Nat) (P : Nat → Pt) (oh : Nat → Option Addr) (ch hn : Nat → Nat) (H : Nat → Nat → Pt) (w : World) (hm : MatAt w v m gv) (hg : m.hasG g = true) (hde : 1000 ≤ m.de (m.gi g) ∧ m.de (m.gi g) ≤ 20000) (hth : 1 ≤ th ∧ th ≤ 120) (hro : m.rolled g th = true) (hp : PtsAt w (.slice oo no co) no P) (hh : HolesAt w (.slice oq nh cq) nh oh ch hn H) (hr : Hid (Reg no P nh hn H)) (hid : idB id = true) (hnd : idB nd = true) (hrv : 1 ≤ rv ∧ rv ≤ 1000) (hva : validF (a1, a2, a3) t = true) (hsi : id.size ≤ 2147483648) (hsn : nd.size ≤ 2147483648) (hml : MaxLenIs w) : Calls Tryd.prog 21 #[.agg #[(.string id), (.int .i64 rv), (.int .i64 1), (.string nd), (.string g), (.int .i64 th), (.slice oo no co), (.slice oq nh cq), (.string ⟨#[]⟩), (.int .i64 0), (.int .i64 0), (.int .i64 0), (.int .i64 0), (.int .i64 0), (.int .i64 a1), (.int .i64 a2), (.int .i64 a3), (.int .i64 t)], v] w fun e w' => e = .returned (.int .i64 0) ∧ Below w.heap.size w w' := by
  have HI1 : Hid (∀ W, MaxLenIs W → Calls Tryd.prog 40 #[.string id] W fun e w' => e = .returned (.bool true) ∧ Below W.heap.size W w') := fun W hml' => by
    have h := isId_any id W (by omega) hml'
    rw [hid] at h
    exact h
  have HI2 : Hid (∀ W, MaxLenIs W → Calls Tryd.prog 40 #[.string nd] W fun e w' => e = .returned (.bool true) ∧ Below W.heap.size W w') := fun W hml' => by
    have h := isId_any nd W (by omega) hml'
    rw [hnd] at h
    exact h
  have HSP : Hid (∀ W, Calls Tryd.prog 42 #[.agg #[(.string id), (.int .i64 rv), (.int .i64 1), (.string nd), (.string g), (.int .i64 th), (.slice oo no co), (.slice oq nh cq), (.string ⟨#[]⟩), (.int .i64 0), (.int .i64 0), (.int .i64 0), (.int .i64 0), (.int .i64 0), (.int .i64 a1), (.int .i64 a2), (.int .i64 a3), (.int .i64 t)]] W fun e w' => e = .returned (.bool false) ∧ Below W.heap.size W w') := fun W => spare1 id nd g rv th a1 a2 a3 t oo oq no co nh cq W hth.1
  have HVA : Hid (∀ W, Calls Tryd.prog 45 #[.agg #[.int .i64 a1, .int .i64 a2, .int .i64 a3, .int .i64 t]] W fun e w' => e = .returned (.bool true) ∧ Below W.heap.size W w') := fun W => by
    have h := Valid_any a1 a2 a3 t W
    rw [hva] at h
    exact h
  have HKN : Hid (∀ W v', MatAt W v' m gv → Calls Tryd.prog 43 #[.agg #[(.string id), (.int .i64 rv), (.int .i64 1), (.string nd), (.string g), (.int .i64 th), (.slice oo no co), (.slice oq nh cq), (.string ⟨#[]⟩), (.int .i64 0), (.int .i64 0), (.int .i64 0), (.int .i64 0), (.int .i64 0), (.int .i64 a1), (.int .i64 a2), (.int .i64 a3), (.int .i64 t)], v'] W fun e w' => e = .returned (.bool true) ∧ Below W.heap.size W w') := fun W v' h => made1 v' m gv id nd g rv th a1 a2 a3 t oo oq no co nh cq W h hg hde hth hro
  have HFR : Hid (∀ W, Calls Tryd.prog 41 #[.int .i64 rv, .int .i64 1, .int .i64 1000] W fun e w' => e = .returned (.bool true) ∧ Below W.heap.size W w') := fun W => by
    have h := pfrom_any rv 1 1000 W
    rw [inB_yes hrv.1 hrv.2] at h
    exact h
  have hf := form1
  have HML := Lib.hid hml
  have HP := Lib.hid hp
  have HHS := Lib.hid hh
  clear hml hva hg hde hth hro hrv hid hnd hp hh hsi hsn
  have HM := Lib.hid hm
  obtain ⟨vg, vs, rfl, hG, hS, -, -, -⟩ := hm
  obtain ⟨og, cg, rfl, -, -⟩ := hG.form
  obtain ⟨os', cs', rfl, -, -⟩ := hS.form
  clear hG hS
  go_enter Tryd.func21, Tryd.ntmps21
  go_wp2_with fail
  obtain ⟨w0, hw0⟩ : ∃ X, ((w.alloc (.cells #[(.string id), (.int .i64 rv), (.int .i64 1), (.string nd), (.string g), (.int .i64 th), (.slice oo no co), (.slice oq nh cq), (.string ⟨#[]⟩), (.int .i64 0), (.int .i64 0), (.int .i64 0), (.int .i64 0), (.int .i64 0), (.int .i64 a1), (.int .i64 a2), (.int .i64 a3), (.int .i64 t)] 31)).alloc (.cells #[.slice og m.ng cg, .slice os' m.ns cs'] 35)) = X := ⟨_, rfl⟩
  have HQP : Hid (w0.heap[w.heap.size]? = some (.cells #[(.string id), (.int .i64 rv), (.int .i64 1), (.string nd), (.string g), (.int .i64 th), (.slice oo no co), (.slice oq nh cq), (.string ⟨#[]⟩), (.int .i64 0), (.int .i64 0), (.int .i64 0), (.int .i64 0), (.int .i64 0), (.int .i64 a1), (.int .i64 a2), (.int .i64 a3), (.int .i64 t)] 31)) := by
    show _ = _
    rw [← hw0]
    exact (heapA_old _ _ _ (by simp)).trans (heapA_at _ _ _ rfl)
  have HQM : Hid (w0.heap[(w.heap.size + 1)]? = some (.cells #[.slice og m.ng cg, .slice os' m.ns cs'] 35)) := by
    show _ = _
    rw [← hw0]
    exact heapA_at _ _ _ (by simp)
  have hBw0 : Below w.heap.size w w0 := by rw [← hw0]; exact (((Below.refl w.heap.size w).alloc (Nat.le_refl _) _).alloc (by simp) _)
  rw [hw0]
  clear hw0
  replace HM := Lib.hid (HM.out.below hBw0)
  replace HML := Lib.hid (HML.out.below hBw0)
  obtain ⟨c0, c1, c2, c3, c4, c5, c6, c7, c8, c9, c10, c11, c12, c13, c14, c15, c16, c17, cf, cz⟩ := cells_at18 HQP.out
  obtain ⟨d0, d1, df, dz⟩ := cells_at2 HQM.out
  (go_at_call 40; refine (HI1.out _ (HML.out.below (by first | exact Below.refl _ _ | (show Below w0.heap.size w0 _; go_grown)))).mono ?_; rintro e_ w1 ⟨rfl, hb⟩)
  have hPw1 : Below w0.heap.size w0 w1 := below_step (w := w0) (by first | exact Below.refl _ _ | go_grown) hb
  have hBw1 : Below w.heap.size w w1 := below_step hBw0 hPw1
  replace HM := Lib.hid (HM.out.below hPw1)
  replace HML := Lib.hid (HML.out.below hPw1)
  have HQP2 : Hid (w1.heap[w.heap.size]? = some (.cells #[(.string id), (.int .i64 rv), (.int .i64 1), (.string nd), (.string g), (.int .i64 th), (.slice oo no co), (.slice oq nh cq), (.string ⟨#[]⟩), (.int .i64 0), (.int .i64 0), (.int .i64 0), (.int .i64 0), (.int .i64 0), (.int .i64 a1), (.int .i64 a2), (.int .i64 a3), (.int .i64 t)] 31)) := (hPw1.block _ (block_lt HQP.out)).trans HQP.out
  have HQM2 : Hid (w1.heap[(w.heap.size + 1)]? = some (.cells #[.slice og m.ng cg, .slice os' m.ns cs'] 35)) := (hPw1.block _ (block_lt HQM.out)).trans HQM.out
  clear HQP HQM
  have HQP := HQP2
  have HQM := HQM2
  clear HQP2 HQM2
  clear c0 c1 c2 c3 c4 c5 c6 c7 c8 c9 c10 c11 c12 c13 c14 c15 c16 c17 cf cz d0 d1 df dz
  clear hb hPw1 hBw0
  obtain ⟨c0, c1, c2, c3, c4, c5, c6, c7, c8, c9, c10, c11, c12, c13, c14, c15, c16, c17, cf, cz⟩ := cells_at18 HQP.out
  obtain ⟨d0, d1, df, dz⟩ := cells_at2 HQM.out
  go_wp2_with fail
  (go_at_call 40; refine (HI2.out _ (HML.out.below (by first | exact Below.refl _ _ | (show Below w1.heap.size w1 _; go_grown)))).mono ?_; rintro e_ w2 ⟨rfl, hb⟩)
  have hPw2 : Below w1.heap.size w1 w2 := below_step (w := w1) (by first | exact Below.refl _ _ | go_grown) hb
  have hBw2 : Below w.heap.size w w2 := below_step hBw1 hPw2
  replace HM := Lib.hid (HM.out.below hPw2)
  replace HML := Lib.hid (HML.out.below hPw2)
  have HQP2 : Hid (w2.heap[w.heap.size]? = some (.cells #[(.string id), (.int .i64 rv), (.int .i64 1), (.string nd), (.string g), (.int .i64 th), (.slice oo no co), (.slice oq nh cq), (.string ⟨#[]⟩), (.int .i64 0), (.int .i64 0), (.int .i64 0), (.int .i64 0), (.int .i64 0), (.int .i64 a1), (.int .i64 a2), (.int .i64 a3), (.int .i64 t)] 31)) := (hPw2.block _ (block_lt HQP.out)).trans HQP.out
  have HQM2 : Hid (w2.heap[(w.heap.size + 1)]? = some (.cells #[.slice og m.ng cg, .slice os' m.ns cs'] 35)) := (hPw2.block _ (block_lt HQM.out)).trans HQM.out
  clear HQP HQM
  have HQP := HQP2
  have HQM := HQM2
  clear HQP2 HQM2
  clear c0 c1 c2 c3 c4 c5 c6 c7 c8 c9 c10 c11 c12 c13 c14 c15 c16 c17 cf cz d0 d1 df dz
  clear hb hPw2 hBw1
  obtain ⟨c0, c1, c2, c3, c4, c5, c6, c7, c8, c9, c10, c11, c12, c13, c14, c15, c16, c17, cf, cz⟩ := cells_at18 HQP.out
  obtain ⟨d0, d1, df, dz⟩ := cells_at2 HQM.out
  go_wp2_with fail
  (go_at_call 41; refine (HFR.out _).mono ?_; rintro e_ w3 ⟨rfl, hb⟩)
  have hPw3 : Below w2.heap.size w2 w3 := below_step (w := w2) (by first | exact Below.refl _ _ | go_grown) hb
  have hBw3 : Below w.heap.size w w3 := below_step hBw2 hPw3
  replace HM := Lib.hid (HM.out.below hPw3)
  replace HML := Lib.hid (HML.out.below hPw3)
  have HQP2 : Hid (w3.heap[w.heap.size]? = some (.cells #[(.string id), (.int .i64 rv), (.int .i64 1), (.string nd), (.string g), (.int .i64 th), (.slice oo no co), (.slice oq nh cq), (.string ⟨#[]⟩), (.int .i64 0), (.int .i64 0), (.int .i64 0), (.int .i64 0), (.int .i64 0), (.int .i64 a1), (.int .i64 a2), (.int .i64 a3), (.int .i64 t)] 31)) := (hPw3.block _ (block_lt HQP.out)).trans HQP.out
  have HQM2 : Hid (w3.heap[(w.heap.size + 1)]? = some (.cells #[.slice og m.ng cg, .slice os' m.ns cs'] 35)) := (hPw3.block _ (block_lt HQM.out)).trans HQM.out
  clear HQP HQM
  have HQP := HQP2
  have HQM := HQM2
  clear HQP2 HQM2
  clear c0 c1 c2 c3 c4 c5 c6 c7 c8 c9 c10 c11 c12 c13 c14 c15 c16 c17 cf cz d0 d1 df dz
  clear hb hPw3 hBw2
  obtain ⟨c0, c1, c2, c3, c4, c5, c6, c7, c8, c9, c10, c11, c12, c13, c14, c15, c16, c17, cf, cz⟩ := cells_at18 HQP.out
  obtain ⟨d0, d1, df, dz⟩ := cells_at2 HQM.out
  go_wp2_with fail
  (go_at_call 24; refine (hf _).mono ?_; rintro e_ w4 ⟨rfl, hb⟩)
  have hPw4 : Below w3.heap.size w3 w4 := below_step (w := w3) (by first | exact Below.refl _ _ | go_grown) hb
  have hBw4 : Below w.heap.size w w4 := below_step hBw3 hPw4
  replace HM := Lib.hid (HM.out.below hPw4)
  replace HML := Lib.hid (HML.out.below hPw4)
  have HQP2 : Hid (w4.heap[w.heap.size]? = some (.cells #[(.string id), (.int .i64 rv), (.int .i64 1), (.string nd), (.string g), (.int .i64 th), (.slice oo no co), (.slice oq nh cq), (.string ⟨#[]⟩), (.int .i64 0), (.int .i64 0), (.int .i64 0), (.int .i64 0), (.int .i64 0), (.int .i64 a1), (.int .i64 a2), (.int .i64 a3), (.int .i64 t)] 31)) := (hPw4.block _ (block_lt HQP.out)).trans HQP.out
  have HQM2 : Hid (w4.heap[(w.heap.size + 1)]? = some (.cells #[.slice og m.ng cg, .slice os' m.ns cs'] 35)) := (hPw4.block _ (block_lt HQM.out)).trans HQM.out
  clear HQP HQM
  have HQP := HQP2
  have HQM := HQM2
  clear HQP2 HQM2
  clear c0 c1 c2 c3 c4 c5 c6 c7 c8 c9 c10 c11 c12 c13 c14 c15 c16 c17 cf cz d0 d1 df dz
  clear hb hPw4 hBw3
  obtain ⟨c0, c1, c2, c3, c4, c5, c6, c7, c8, c9, c10, c11, c12, c13, c14, c15, c16, c17, cf, cz⟩ := cells_at18 HQP.out
  obtain ⟨d0, d1, df, dz⟩ := cells_at2 HQM.out
  go_wp2_with (with_reducible refine wpList_load_all 31 w.heap.size 18 #[(.string id), (.int .i64 rv), (.int .i64 1), (.string nd), (.string g), (.int .i64 th), (.slice oo no co), (.slice oq nh cq), (.string ⟨#[]⟩), (.int .i64 0), (.int .i64 0), (.int .i64 0), (.int .i64 0), (.int .i64 0), (.int .i64 a1), (.int .i64 a2), (.int .i64 a3), (.int .i64 t)] 31 _ part_under part_size rfl rfl HQP.out ?_)
  (go_at_call 42; refine (HSP.out _).mono ?_; rintro e_ w5 ⟨rfl, hb⟩)
  have hPw5 : Below w4.heap.size w4 w5 := below_step (w := w4) (by first | exact Below.refl _ _ | go_grown) hb
  have hBw5 : Below w.heap.size w w5 := below_step hBw4 hPw5
  replace HM := Lib.hid (HM.out.below hPw5)
  replace HML := Lib.hid (HML.out.below hPw5)
  have HQP2 : Hid (w5.heap[w.heap.size]? = some (.cells #[(.string id), (.int .i64 rv), (.int .i64 1), (.string nd), (.string g), (.int .i64 th), (.slice oo no co), (.slice oq nh cq), (.string ⟨#[]⟩), (.int .i64 0), (.int .i64 0), (.int .i64 0), (.int .i64 0), (.int .i64 0), (.int .i64 a1), (.int .i64 a2), (.int .i64 a3), (.int .i64 t)] 31)) := (hPw5.block _ (block_lt HQP.out)).trans HQP.out
  have HQM2 : Hid (w5.heap[(w.heap.size + 1)]? = some (.cells #[.slice og m.ng cg, .slice os' m.ns cs'] 35)) := (hPw5.block _ (block_lt HQM.out)).trans HQM.out
  clear HQP HQM
  have HQP := HQP2
  have HQM := HQM2
  clear HQP2 HQM2
  clear c0 c1 c2 c3 c4 c5 c6 c7 c8 c9 c10 c11 c12 c13 c14 c15 c16 c17 cf cz d0 d1 df dz
  clear hb hPw5 hBw4
  obtain ⟨c0, c1, c2, c3, c4, c5, c6, c7, c8, c9, c10, c11, c12, c13, c14, c15, c16, c17, cf, cz⟩ := cells_at18 HQP.out
  obtain ⟨d0, d1, df, dz⟩ := cells_at2 HQM.out
  go_wp2_with (with_reducible refine wpList_load_all 31 w.heap.size 18 #[(.string id), (.int .i64 rv), (.int .i64 1), (.string nd), (.string g), (.int .i64 th), (.slice oo no co), (.slice oq nh cq), (.string ⟨#[]⟩), (.int .i64 0), (.int .i64 0), (.int .i64 0), (.int .i64 0), (.int .i64 0), (.int .i64 a1), (.int .i64 a2), (.int .i64 a3), (.int .i64 t)] 31 _ part_under part_size rfl rfl HQP.out ?_)
  (go_at_call 43; refine (HKN.out _ _ (HM.out.below (by first | exact Below.refl _ _ | (show Below w5.heap.size w5 _; go_grown)))).mono ?_; rintro e_ w6 ⟨rfl, hb⟩)
  have hPw6 : Below w5.heap.size w5 w6 := below_step (w := w5) (by first | exact Below.refl _ _ | go_grown) hb
  have hBw6 : Below w.heap.size w w6 := below_step hBw5 hPw6
  replace HM := Lib.hid (HM.out.below hPw6)
  replace HML := Lib.hid (HML.out.below hPw6)
  have HQP2 : Hid (w6.heap[w.heap.size]? = some (.cells #[(.string id), (.int .i64 rv), (.int .i64 1), (.string nd), (.string g), (.int .i64 th), (.slice oo no co), (.slice oq nh cq), (.string ⟨#[]⟩), (.int .i64 0), (.int .i64 0), (.int .i64 0), (.int .i64 0), (.int .i64 0), (.int .i64 a1), (.int .i64 a2), (.int .i64 a3), (.int .i64 t)] 31)) := (hPw6.block _ (block_lt HQP.out)).trans HQP.out
  have HQM2 : Hid (w6.heap[(w.heap.size + 1)]? = some (.cells #[.slice og m.ng cg, .slice os' m.ns cs'] 35)) := (hPw6.block _ (block_lt HQM.out)).trans HQM.out
  clear HQP HQM
  have HQP := HQP2
  have HQM := HQM2
  clear HQP2 HQM2
  clear c0 c1 c2 c3 c4 c5 c6 c7 c8 c9 c10 c11 c12 c13 c14 c15 c16 c17 cf cz d0 d1 df dz
  clear hb hPw6 hBw5
  obtain ⟨c0, c1, c2, c3, c4, c5, c6, c7, c8, c9, c10, c11, c12, c13, c14, c15, c16, c17, cf, cz⟩ := cells_at18 HQP.out
  obtain ⟨d0, d1, df, dz⟩ := cells_at2 HQM.out
  go_wp2_with fail
  (go_at_call 24; refine (hf _).mono ?_; rintro e_ w7 ⟨rfl, hb⟩)
  have hPw7 : Below w6.heap.size w6 w7 := below_step (w := w6) (by first | exact Below.refl _ _ | go_grown) hb
  have hBw7 : Below w.heap.size w w7 := below_step hBw6 hPw7
  replace HM := Lib.hid (HM.out.below hPw7)
  replace HML := Lib.hid (HML.out.below hPw7)
  have HQP2 : Hid (w7.heap[w.heap.size]? = some (.cells #[(.string id), (.int .i64 rv), (.int .i64 1), (.string nd), (.string g), (.int .i64 th), (.slice oo no co), (.slice oq nh cq), (.string ⟨#[]⟩), (.int .i64 0), (.int .i64 0), (.int .i64 0), (.int .i64 0), (.int .i64 0), (.int .i64 a1), (.int .i64 a2), (.int .i64 a3), (.int .i64 t)] 31)) := (hPw7.block _ (block_lt HQP.out)).trans HQP.out
  have HQM2 : Hid (w7.heap[(w.heap.size + 1)]? = some (.cells #[.slice og m.ng cg, .slice os' m.ns cs'] 35)) := (hPw7.block _ (block_lt HQM.out)).trans HQM.out
  clear HQP HQM
  have HQP := HQP2
  have HQM := HQM2
  clear HQP2 HQM2
  clear c0 c1 c2 c3 c4 c5 c6 c7 c8 c9 c10 c11 c12 c13 c14 c15 c16 c17 cf cz d0 d1 df dz
  clear hb hPw7 hBw6
  obtain ⟨c0, c1, c2, c3, c4, c5, c6, c7, c8, c9, c10, c11, c12, c13, c14, c15, c16, c17, cf, cz⟩ := cells_at18 HQP.out
  obtain ⟨d0, d1, df, dz⟩ := cells_at2 HQM.out
  go_wp2_with fail
  (go_at_call 19; refine (checkG_ok _ _ no nh P oh ch hn H _ (HP.out.below hBw7) (HHS.out.below hBw7) hr).mono ?_; rintro e_ w8 ⟨rfl, hb⟩)
  have hPw8 : Below w7.heap.size w7 w8 := below_step (w := w7) (by first | exact Below.refl _ _ | go_grown) hb
  have hBw8 : Below w.heap.size w w8 := below_step hBw7 hPw8
  replace HM := Lib.hid (HM.out.below hPw8)
  replace HML := Lib.hid (HML.out.below hPw8)
  have HQP2 : Hid (w8.heap[w.heap.size]? = some (.cells #[(.string id), (.int .i64 rv), (.int .i64 1), (.string nd), (.string g), (.int .i64 th), (.slice oo no co), (.slice oq nh cq), (.string ⟨#[]⟩), (.int .i64 0), (.int .i64 0), (.int .i64 0), (.int .i64 0), (.int .i64 0), (.int .i64 a1), (.int .i64 a2), (.int .i64 a3), (.int .i64 t)] 31)) := (hPw8.block _ (block_lt HQP.out)).trans HQP.out
  have HQM2 : Hid (w8.heap[(w.heap.size + 1)]? = some (.cells #[.slice og m.ng cg, .slice os' m.ns cs'] 35)) := (hPw8.block _ (block_lt HQM.out)).trans HQM.out
  clear HQP HQM
  have HQP := HQP2
  have HQM := HQM2
  clear HQP2 HQM2
  clear c0 c1 c2 c3 c4 c5 c6 c7 c8 c9 c10 c11 c12 c13 c14 c15 c16 c17 cf cz d0 d1 df dz
  clear hb hPw8 hBw7
  obtain ⟨c0, c1, c2, c3, c4, c5, c6, c7, c8, c9, c10, c11, c12, c13, c14, c15, c16, c17, cf, cz⟩ := cells_at18 HQP.out
  obtain ⟨d0, d1, df, dz⟩ := cells_at2 HQM.out
  go_wp2_with fail
  (go_at_call 45; refine (HVA.out _).mono ?_; rintro e_ w9 ⟨rfl, hb⟩)
  have hPw9 : Below w8.heap.size w8 w9 := below_step (w := w8) (by first | exact Below.refl _ _ | go_grown) hb
  have hBw9 : Below w.heap.size w w9 := below_step hBw8 hPw9
  replace HM := Lib.hid (HM.out.below hPw9)
  replace HML := Lib.hid (HML.out.below hPw9)
  have HQP2 : Hid (w9.heap[w.heap.size]? = some (.cells #[(.string id), (.int .i64 rv), (.int .i64 1), (.string nd), (.string g), (.int .i64 th), (.slice oo no co), (.slice oq nh cq), (.string ⟨#[]⟩), (.int .i64 0), (.int .i64 0), (.int .i64 0), (.int .i64 0), (.int .i64 0), (.int .i64 a1), (.int .i64 a2), (.int .i64 a3), (.int .i64 t)] 31)) := (hPw9.block _ (block_lt HQP.out)).trans HQP.out
  have HQM2 : Hid (w9.heap[(w.heap.size + 1)]? = some (.cells #[.slice og m.ng cg, .slice os' m.ns cs'] 35)) := (hPw9.block _ (block_lt HQM.out)).trans HQM.out
  clear HQP HQM
  have HQP := HQP2
  have HQM := HQM2
  clear HQP2 HQM2
  clear c0 c1 c2 c3 c4 c5 c6 c7 c8 c9 c10 c11 c12 c13 c14 c15 c16 c17 cf cz d0 d1 df dz
  clear hb hPw9 hBw8
  obtain ⟨c0, c1, c2, c3, c4, c5, c6, c7, c8, c9, c10, c11, c12, c13, c14, c15, c16, c17, cf, cz⟩ := cells_at18 HQP.out
  obtain ⟨d0, d1, df, dz⟩ := cells_at2 HQM.out
  go_wp2
  go_returns
  exact ⟨rfl, by go_grown⟩
end Go.Proofs.YtgbhhjdmochhpaaDoor
namespace Go.Proofs.YtgbhhjdmochhpaaDoor
open Go Go.ChangeShapes Go.WideShapes Go.RowKit Go.ChangeAt
set_option linter.unusedVariables false
set_option linter.unusedSimpArgs false

set_option maxHeartbeats 8000000 in
set_option maxRecDepth 20000 in
theorem mass1 (v : Value) (m : Mat) (gv : Nat → Value) (id nd g : ByteArray) (rv th a1 a2 a3 t : Int) (oo oq : Option Addr) (no co nh cq : Nat) (P : Nat → Pt) (oh : Nat → Option Addr) (ch hn : Nat → Nat) (H : Nat → Nat → Pt) (w : World) (hm : MatAt w v m gv) (hg : m.hasG g = true) (hde : 1000 ≤ m.de (m.gi g) ∧ m.de (m.gi g) ≤ 20000) (hth : 1 ≤ th ∧ th ≤ 120) (hro : m.rolled g th = true) (hp : PtsAt w (.slice oo no co) no P) (hh : HolesAt w (.slice oq nh cq) nh oh ch hn H) (hr : Hid (Reg no P nh hn H)) (hid : idB id = true) (hnd : idB nd = true) (hrv : 1 ≤ rv ∧ rv ≤ 1000) (hva : validF (a1, a2, a3) t = true) (hsi : id.size ≤ 2147483648) (hsn : nd.size ≤ 2147483648) (hml : MaxLenIs w) : Calls Tryd.prog 7 #[.agg #[(.string id), (.int .i64 rv), (.int .i64 1), (.string nd), (.string g), (.int .i64 th), (.slice oo no co), (.slice oq nh cq), (.string ⟨#[]⟩), (.int .i64 0), (.int .i64 0), (.int .i64 0), (.int .i64 0), (.int .i64 0), (.int .i64 a1), (.int .i64 a2), (.int .i64 a3), (.int .i64 t)], v] w fun e w' => e = .returned (.tuple #[.int .i64 ((area2S no P nh hn H * th * m.de (m.gi g)).tdiv 2000000), .int .i64 0]) ∧ Below w.heap.size w w' := by
  have HPC : Hid (∀ W v', MatAt W v' m gv → MaxLenIs W → PtsAt W (.slice oo no co) no P → HolesAt W (.slice oq nh cq) nh oh ch hn H → Calls Tryd.prog 21 #[.agg #[(.string id), (.int .i64 rv), (.int .i64 1), (.string nd), (.string g), (.int .i64 th), (.slice oo no co), (.slice oq nh cq), (.string ⟨#[]⟩), (.int .i64 0), (.int .i64 0), (.int .i64 0), (.int .i64 0), (.int .i64 0), (.int .i64 a1), (.int .i64 a2), (.int .i64 a3), (.int .i64 t)], v'] W fun e w' => e = .returned (.int .i64 0) ∧ Below W.heap.size W w') := fun W v' h h2 h3 h4 => pcheck1 v' m gv id nd g rv th a1 a2 a3 t oo oq no co nh cq P oh ch hn H W h hg hde hth hro h3 h4 hr hid hnd hrv hva hsi hsn h2
  have hf := form1
  have HML := Lib.hid hml
  have HP := Lib.hid hp
  have HHS := Lib.hid hh
  obtain ⟨AV, hAV⟩ : ∃ e, area2S no P nh hn H = e := ⟨_, rfl⟩
  have HAC : Hid (∀ W, PtsAt W (.slice oo no co) no P → HolesAt W (.slice oq nh cq) nh oh ch hn H → Calls Tryd.prog 6 #[.agg #[.slice oo no co, .slice oq nh cq]] W fun e w' => e = .returned (.int .i64 AV) ∧ Below W.heap.size W w') := fun W h1 h2 => by rw [← hAV]; exact area2G_ok _ _ no nh P oh ch hn H W h1 h2 hr
  have hav : 0 ≤ AV ∧ AV ≤ 1099511627776 := by
    have h1 := hr.out.area_pos
    have h2 := area2S_le hr.out
    omega
  rw [hAV]
  have HM := Lib.hid hm
  obtain ⟨vg, vs, rfl, hG, hS, -, -, -⟩ := hm
  obtain ⟨og, cg, rfl, -, -⟩ := hG.form
  obtain ⟨os', cs', rfl, -, -⟩ := hS.form
  clear hG hS
  obtain ⟨D, hD⟩ : ∃ d, m.de (m.gi g) = d := ⟨_, rfl⟩
  have HD := Lib.hid hD
  have HG := Lib.hid hg
  rw [hD] at hde ⊢
  have hb1 : 0 ≤ AV * th ∧ AV * th ≤ 131941395333120 := by
    refine ⟨Int.mul_nonneg (by omega) (by omega), ?_⟩
    have h1 := Int.mul_le_mul_of_nonneg_right hav.2 (show 0 ≤ th by omega)
    have h2 := Int.mul_le_mul_of_nonneg_left hth.2 (show (0 : Int) ≤ 1099511627776 by decide)
    omega
  obtain ⟨RN, hRN⟩ : ∃ e, AV * th = e := ⟨_, rfl⟩
  rw [hRN] at hb1
  have w1' : IntKind.i64.wrap (AV * th) = RN := by rw [hRN]; exact IntWalk.i64_in _ (by omega)
  have hb2 : 0 ≤ RN * D ∧ RN * D ≤ 2638827906662400000 := by
    refine ⟨Int.mul_nonneg (by omega) (by omega), ?_⟩
    have h1 := Int.mul_le_mul_of_nonneg_right hb1.2 (show 0 ≤ D by omega)
    have h2 := Int.mul_le_mul_of_nonneg_left hde.2 (show (0 : Int) ≤ 131941395333120 by decide)
    omega
  obtain ⟨RD, hRD⟩ : ∃ e, RN * D = e := ⟨_, rfl⟩
  rw [hRD] at hb2
  have w2' : IntKind.i64.wrap (RN * D) = RD := by rw [hRD]; exact IntWalk.i64_in _ (by omega)
  obtain ⟨MV, hMV⟩ : ∃ e, RD.tdiv 2000000 = e := ⟨_, rfl⟩
  have hb3 : 0 ≤ MV ∧ MV ≤ 2638827906662400000 := by
    rw [← hMV, Int.tdiv_eq_ediv_of_nonneg hb2.1]
    omega
  have w3' : IntKind.i64.wrap (RD.tdiv 2000000) = MV := by rw [hMV]; exact IntWalk.i64_in _ (by omega)
  rw [hRN, hRD, hMV]
  clear hml hp hh hva hid hnd hrv hsi hsn hro hg hth hde hAV hav hD hRN hRD hMV hb1 hb2 hb3
  go_enter Tryd.func7, Tryd.ntmps7
  go_wp2_with (with_reducible refine wpList_load_all 31 w.heap.size 18 #[(.string id), (.int .i64 rv), (.int .i64 1), (.string nd), (.string g), (.int .i64 th), (.slice oo no co), (.slice oq nh cq), (.string ⟨#[]⟩), (.int .i64 0), (.int .i64 0), (.int .i64 0), (.int .i64 0), (.int .i64 0), (.int .i64 a1), (.int .i64 a2), (.int .i64 a3), (.int .i64 t)] 31 _ part_under part_size rfl rfl (show (((w.alloc (.cells #[(.string id), (.int .i64 rv), (.int .i64 1), (.string nd), (.string g), (.int .i64 th), (.slice oo no co), (.slice oq nh cq), (.string ⟨#[]⟩), (.int .i64 0), (.int .i64 0), (.int .i64 0), (.int .i64 0), (.int .i64 0), (.int .i64 a1), (.int .i64 a2), (.int .i64 a3), (.int .i64 t)] 31)).alloc (.cells #[.slice og m.ng cg, .slice os' m.ns cs'] 35)).heap[w.heap.size]? = some (.cells #[(.string id), (.int .i64 rv), (.int .i64 1), (.string nd), (.string g), (.int .i64 th), (.slice oo no co), (.slice oq nh cq), (.string ⟨#[]⟩), (.int .i64 0), (.int .i64 0), (.int .i64 0), (.int .i64 0), (.int .i64 0), (.int .i64 a1), (.int .i64 a2), (.int .i64 a3), (.int .i64 t)] 31)) from (heapA_old _ _ _ (by simp)).trans (heapA_at _ _ _ rfl)) ?_)
  obtain ⟨w0, hw0⟩ : ∃ X, ((w.alloc (.cells #[(.string id), (.int .i64 rv), (.int .i64 1), (.string nd), (.string g), (.int .i64 th), (.slice oo no co), (.slice oq nh cq), (.string ⟨#[]⟩), (.int .i64 0), (.int .i64 0), (.int .i64 0), (.int .i64 0), (.int .i64 0), (.int .i64 a1), (.int .i64 a2), (.int .i64 a3), (.int .i64 t)] 31)).alloc (.cells #[.slice og m.ng cg, .slice os' m.ns cs'] 35)) = X := ⟨_, rfl⟩
  have HQP : Hid (w0.heap[w.heap.size]? = some (.cells #[(.string id), (.int .i64 rv), (.int .i64 1), (.string nd), (.string g), (.int .i64 th), (.slice oo no co), (.slice oq nh cq), (.string ⟨#[]⟩), (.int .i64 0), (.int .i64 0), (.int .i64 0), (.int .i64 0), (.int .i64 0), (.int .i64 a1), (.int .i64 a2), (.int .i64 a3), (.int .i64 t)] 31)) := by
    show _ = _
    rw [← hw0]
    exact (heapA_old _ _ _ (by simp)).trans (heapA_at _ _ _ rfl)
  have HQM : Hid (w0.heap[(w.heap.size + 1)]? = some (.cells #[.slice og m.ng cg, .slice os' m.ns cs'] 35)) := by
    show _ = _
    rw [← hw0]
    exact heapA_at _ _ _ (by simp)
  have hBw0 : Below w.heap.size w w0 := by rw [← hw0]; exact (((Below.refl w.heap.size w).alloc (Nat.le_refl _) _).alloc (by simp) _)
  rw [hw0]
  clear hw0
  replace HM := Lib.hid (HM.out.below hBw0)
  replace HML := Lib.hid (HML.out.below hBw0)
  obtain ⟨c0, c1, c2, c3, c4, c5, c6, c7, c8, c9, c10, c11, c12, c13, c14, c15, c16, c17, cf, cz⟩ := cells_at18 HQP.out
  obtain ⟨d0, d1, df, dz⟩ := cells_at2 HQM.out
  (go_at_call 21; refine (HPC.out _ _ (HM.out.below (by first | exact Below.refl _ _ | (show Below w0.heap.size w0 _; go_grown))) (HML.out.below (by first | exact Below.refl _ _ | (show Below w0.heap.size w0 _; go_grown))) (HP.out.below hBw0) (HHS.out.below hBw0)).mono ?_; rintro e_ w1 ⟨rfl, hb⟩)
  have hPw1 : Below w0.heap.size w0 w1 := below_step (w := w0) (by first | exact Below.refl _ _ | go_grown) hb
  have hBw1 : Below w.heap.size w w1 := below_step hBw0 hPw1
  replace HM := Lib.hid (HM.out.below hPw1)
  replace HML := Lib.hid (HML.out.below hPw1)
  have HQP2 : Hid (w1.heap[w.heap.size]? = some (.cells #[(.string id), (.int .i64 rv), (.int .i64 1), (.string nd), (.string g), (.int .i64 th), (.slice oo no co), (.slice oq nh cq), (.string ⟨#[]⟩), (.int .i64 0), (.int .i64 0), (.int .i64 0), (.int .i64 0), (.int .i64 0), (.int .i64 a1), (.int .i64 a2), (.int .i64 a3), (.int .i64 t)] 31)) := (hPw1.block _ (block_lt HQP.out)).trans HQP.out
  have HQM2 : Hid (w1.heap[(w.heap.size + 1)]? = some (.cells #[.slice og m.ng cg, .slice os' m.ns cs'] 35)) := (hPw1.block _ (block_lt HQM.out)).trans HQM.out
  clear HQP HQM
  have HQP := HQP2
  have HQM := HQM2
  clear HQP2 HQM2
  clear c0 c1 c2 c3 c4 c5 c6 c7 c8 c9 c10 c11 c12 c13 c14 c15 c16 c17 cf cz d0 d1 df dz
  clear hb hPw1 hBw0
  obtain ⟨c0, c1, c2, c3, c4, c5, c6, c7, c8, c9, c10, c11, c12, c13, c14, c15, c16, c17, cf, cz⟩ := cells_at18 HQP.out
  obtain ⟨d0, d1, df, dz⟩ := cells_at2 HQM.out
  go_wp2_with fail
  (go_at_call 22; refine (grade_any _ m gv g _ (HM.out.below (by first | exact Below.refl _ _ | (show Below w1.heap.size w1 _; go_grown)))).mono ?_; rintro e_ w2 ⟨s1, d1', y1, gv', rfl, hd1, hi, hb⟩)
  have hPw2 : Below w1.heap.size w1 w2 := below_step (w := w1) (by first | exact Below.refl _ _ | go_grown) hb
  have hBw2 : Below w.heap.size w w2 := below_step hBw1 hPw2
  replace HM := Lib.hid (HM.out.below hPw2)
  replace HML := Lib.hid (HML.out.below hPw2)
  have HQP2 : Hid (w2.heap[w.heap.size]? = some (.cells #[(.string id), (.int .i64 rv), (.int .i64 1), (.string nd), (.string g), (.int .i64 th), (.slice oo no co), (.slice oq nh cq), (.string ⟨#[]⟩), (.int .i64 0), (.int .i64 0), (.int .i64 0), (.int .i64 0), (.int .i64 0), (.int .i64 a1), (.int .i64 a2), (.int .i64 a3), (.int .i64 t)] 31)) := (hPw2.block _ (block_lt HQP.out)).trans HQP.out
  have HQM2 : Hid (w2.heap[(w.heap.size + 1)]? = some (.cells #[.slice og m.ng cg, .slice os' m.ns cs'] 35)) := (hPw2.block _ (block_lt HQM.out)).trans HQM.out
  clear HQP HQM
  have HQP := HQP2
  have HQM := HQM2
  clear HQP2 HQM2
  obtain ⟨o2, c2', rfl, -, -⟩ := hi.form
  rw [HG.out]
  obtain rfl : D = d1' := HD.out.symm.trans (hd1 HG.out).symm
  clear hi hd1
  clear c0 c1 c2 c3 c4 c5 c6 c7 c8 c9 c10 c11 c12 c13 c14 c15 c16 c17 cf cz d0 d1 df dz
  clear hb hPw2 hBw1
  obtain ⟨c0, c1, c2, c3, c4, c5, c6, c7, c8, c9, c10, c11, c12, c13, c14, c15, c16, c17, cf, cz⟩ := cells_at18 HQP.out
  obtain ⟨d0, d1, df, dz⟩ := cells_at2 HQM.out
  go_wp2_with fail
  (go_at_call 23; refine (section_any _ m gv ⟨#[]⟩ _ (HM.out.below (by first | exact Below.refl _ _ | (show Below w2.heap.size w2 _; go_grown)))).mono ?_; rintro e_ w3 ⟨s2, r2, t2, k2, rfl, -, hb⟩)
  have x0 : w3.cell? ⟨w2.heap.size, 0, none⟩ = some (.string s1) := (hb.cell (p := ⟨w2.heap.size, 0, none⟩) (by simp)).trans (by simp [go_sem])
  have x1 : w3.cell? ⟨w2.heap.size, 1, none⟩ = some (.int .i64 D) := (hb.cell (p := ⟨w2.heap.size, 1, none⟩) (by simp)).trans (by simp [go_sem])
  have x2 : w3.cell? ⟨w2.heap.size, 2, none⟩ = some (.int .i64 y1) := (hb.cell (p := ⟨w2.heap.size, 2, none⟩) (by simp)).trans (by simp [go_sem])
  have x3 : w3.cell? ⟨w2.heap.size, 3, none⟩ = some (.slice o2 (m.gl g) c2') := (hb.cell (p := ⟨w2.heap.size, 3, none⟩) (by simp)).trans (by simp [go_sem])
  have xz : w2.heap.size < w3.heap.size := by have := hb.size; simp only [World.size_alloc] at this; omega
  have hPw3 : Below w2.heap.size w2 w3 := below_step (w := w2) (by first | exact Below.refl _ _ | go_grown) hb
  have hBw3 : Below w.heap.size w w3 := below_step hBw2 hPw3
  replace HM := Lib.hid (HM.out.below hPw3)
  replace HML := Lib.hid (HML.out.below hPw3)
  have HQP2 : Hid (w3.heap[w.heap.size]? = some (.cells #[(.string id), (.int .i64 rv), (.int .i64 1), (.string nd), (.string g), (.int .i64 th), (.slice oo no co), (.slice oq nh cq), (.string ⟨#[]⟩), (.int .i64 0), (.int .i64 0), (.int .i64 0), (.int .i64 0), (.int .i64 0), (.int .i64 a1), (.int .i64 a2), (.int .i64 a3), (.int .i64 t)] 31)) := (hPw3.block _ (block_lt HQP.out)).trans HQP.out
  have HQM2 : Hid (w3.heap[(w.heap.size + 1)]? = some (.cells #[.slice og m.ng cg, .slice os' m.ns cs'] 35)) := (hPw3.block _ (block_lt HQM.out)).trans HQM.out
  clear HQP HQM
  have HQP := HQP2
  have HQM := HQM2
  clear HQP2 HQM2
  obtain ⟨SB, hSB⟩ : ∃ b, m.hasS ⟨#[]⟩ = b := ⟨_, rfl⟩
  rw [hSB]
  clear hSB
  clear c0 c1 c2 c3 c4 c5 c6 c7 c8 c9 c10 c11 c12 c13 c14 c15 c16 c17 cf cz d0 d1 df dz
  clear hb hPw3 hBw2
  obtain ⟨c0, c1, c2, c3, c4, c5, c6, c7, c8, c9, c10, c11, c12, c13, c14, c15, c16, c17, cf, cz⟩ := cells_at18 HQP.out
  obtain ⟨d0, d1, df, dz⟩ := cells_at2 HQM.out
  go_wp2_with fail
  (go_at_call 24; refine (hf _).mono ?_; rintro e_ w4 ⟨rfl, hb⟩)
  have hPw4 : Below w3.heap.size w3 w4 := below_step (w := w3) (by first | exact Below.refl _ _ | go_grown) hb
  have hBw4 : Below w.heap.size w w4 := below_step hBw3 hPw4
  replace HM := Lib.hid (HM.out.below hPw4)
  replace HML := Lib.hid (HML.out.below hPw4)
  have z0' : w4.cell? ⟨w2.heap.size, 0, none⟩ = some (.string s1) := (hb.cell (p := ⟨w2.heap.size, 0, none⟩) (by simp <;> omega)).trans (by simp [go_sem, *])
  have z1' : w4.cell? ⟨w2.heap.size, 1, none⟩ = some (.int .i64 D) := (hb.cell (p := ⟨w2.heap.size, 1, none⟩) (by simp <;> omega)).trans (by simp [go_sem, *])
  have z2' : w4.cell? ⟨w2.heap.size, 2, none⟩ = some (.int .i64 y1) := (hb.cell (p := ⟨w2.heap.size, 2, none⟩) (by simp <;> omega)).trans (by simp [go_sem, *])
  have z3' : w4.cell? ⟨w2.heap.size, 3, none⟩ = some (.slice o2 (m.gl g) c2') := (hb.cell (p := ⟨w2.heap.size, 3, none⟩) (by simp <;> omega)).trans (by simp [go_sem, *])
  have zz' : w2.heap.size < w4.heap.size := by have := hb.size; simp only [World.size_alloc] at this; omega
  clear x0 x1 x2 x3
  have HQP2 : Hid (w4.heap[w.heap.size]? = some (.cells #[(.string id), (.int .i64 rv), (.int .i64 1), (.string nd), (.string g), (.int .i64 th), (.slice oo no co), (.slice oq nh cq), (.string ⟨#[]⟩), (.int .i64 0), (.int .i64 0), (.int .i64 0), (.int .i64 0), (.int .i64 0), (.int .i64 a1), (.int .i64 a2), (.int .i64 a3), (.int .i64 t)] 31)) := (hPw4.block _ (block_lt HQP.out)).trans HQP.out
  have HQM2 : Hid (w4.heap[(w.heap.size + 1)]? = some (.cells #[.slice og m.ng cg, .slice os' m.ns cs'] 35)) := (hPw4.block _ (block_lt HQM.out)).trans HQM.out
  clear HQP HQM
  have HQP := HQP2
  have HQM := HQM2
  clear HQP2 HQM2
  clear c0 c1 c2 c3 c4 c5 c6 c7 c8 c9 c10 c11 c12 c13 c14 c15 c16 c17 cf cz d0 d1 df dz
  clear hb hPw4 hBw3
  obtain ⟨c0, c1, c2, c3, c4, c5, c6, c7, c8, c9, c10, c11, c12, c13, c14, c15, c16, c17, cf, cz⟩ := cells_at18 HQP.out
  obtain ⟨d0, d1, df, dz⟩ := cells_at2 HQM.out
  go_wp2_with fail
  refine wp_region_relw 10 (by kernel_rfl) (by kernel_rfl) (by kernel_rfl) ?_
  simp only [List.take_succ_cons, List.take_zero, fillL, Act.put, List.setIfInBounds_toArray, List.set_cons_zero, List.set_cons_succ]
  iterate 2
    apply rel_is
    · intro u wx hb hd
      have hz := hb.size
      (try simp only [World.size_alloc, World.size_setCell] at hz)
      have hz0 : w.heap.size < wx.heap.size := by omega
      have hz1 : w2.heap.size < wx.heap.size := by omega
      obtain ⟨hc, hf⟩ := bcell hb
      have HBX := Lib.hid hb
      clear hb hz
      simp [depsS, Region.binds, updS, Stay.is, Stay.any] at hd
      go_simp
      first | exact ⟨Below.refl _ _, rfl⟩ | rfl
  apply rel_is
  · intro u wx hb hd
    have hz := hb.size
    (try simp only [World.size_alloc, World.size_setCell] at hz)
    have hz0 : w.heap.size < wx.heap.size := by omega
    have hz1 : w2.heap.size < wx.heap.size := by omega
    obtain ⟨hc, hf⟩ := bcell hb
    have HBX := Lib.hid hb
    clear hb hz
    simp [depsS, Region.binds, updS, Stay.is, Stay.any] at hd
    go_simp
    first | rfl | (go_at_call 6; refine (HAC.out _ (HP.out.below (below_step hBw4 HBX.out)) (HHS.out.below (below_step hBw4 HBX.out))).mono ?_; rintro e w1 ⟨rfl, hb1⟩; first | exact ⟨rfl, hb1⟩ | exact ⟨_, rfl, hb1, rfl⟩)
  iterate 7
    apply rel_is
    · intro u wx hb hd
      have hz := hb.size
      (try simp only [World.size_alloc, World.size_setCell] at hz)
      have hz0 : w.heap.size < wx.heap.size := by omega
      have hz1 : w2.heap.size < wx.heap.size := by omega
      obtain ⟨hc, hf⟩ := bcell hb
      have HBX := Lib.hid hb
      clear hb hz
      simp [depsS, Region.binds, updS, Stay.is, Stay.any] at hd
      go_simp
      first | exact ⟨Below.refl _ _, rfl⟩ | rfl
  intro u w5 hb hE
  have e0 : u 0 = _ := endS_get hE 0 (by decide)
  have e1 : u 1 = _ := endS_get hE 1 (by decide)
  have e2 : u 2 = _ := endS_get hE 2 (by decide)
  have e3 : u 3 = _ := endS_get hE 3 (by decide)
  have e4 : u 4 = _ := endS_get hE 4 (by decide)
  have e5 : u 5 = _ := endS_get hE 5 (by decide)
  have e6 : u 6 = _ := endS_get hE 6 (by decide)
  have e7 : u 7 = _ := endS_get hE 7 (by decide)
  have e8 : u 8 = _ := endS_get hE 8 (by decide)
  have e9 : u 9 = _ := endS_get hE 9 (by decide)
  simp only [List.drop_succ_cons, List.drop_zero, List.take_succ_cons, List.take_zero, fillL, Act.put, List.setIfInBounds_toArray, List.set_cons_zero, List.set_cons_succ, e0, e1, e2, e3, e4, e5, e6, e7, e8, e9]
  clear e0 e1 e2 e3 e4 e5 e6 e7 e8 e9 hE
  have HBw5 := Lib.hid (below_step (w := w4) (by first | assumption | go_grown) hb)
  have HBXw5 := Lib.hid hb
  have hzw5 := hb.size
  (try simp only [World.size_alloc, World.size_setCell] at hzw5)
  have hzw50 : w.heap.size < w5.heap.size := by omega
  have hzw51 : w2.heap.size < w5.heap.size := by omega
  obtain ⟨hcw5, hfw5⟩ := bcell hb
  clear hb hzw5
  have HB5 := Lib.hid (below_step hBw4 HBXw5.out)
  (try clear hcw5 hfw5)
  go_wp2
  go_returns
  exact ⟨rfl, HB5.out⟩
end Go.Proofs.YtgbhhjdmochhpaaDoor
namespace Go.Proofs.YtgbhhjdmochhpaaDoor
open Go Go.ChangeShapes Go.WideShapes Go.RowKit Go.ChangeAt
set_option linter.unusedVariables false
set_option linter.unusedSimpArgs false

def flP (F : Nat → Pt) : Nat → List Value
  | 0 => []
  | n + 1 => flP F n ++ [.int .i64 (F n).1, .int .i64 (F n).2]
theorem flP_len (F : Nat → Pt) : ∀ n, (flP F n).length = n * 2
  | 0 => rfl
  | n + 1 => by rw [flP, List.length_append, flP_len F n]; simp; omega
theorem flP_at (F : Nat → Pt) : ∀ (n i j : Nat), i < n → j < 2 → (flP F n)[i * 2 + j]? = some (ptV (F i) j)
  | 0, i, j, hi, _ => by omega
  | n + 1, i, j, hi, hj => by
    rw [flP]
    by_cases h : i < n
    · rw [List.getElem?_append_left (by rw [flP_len]; omega)]
      exact flP_at F n i j h hj
    · obtain rfl : i = n := by omega
      rw [List.getElem?_append_right (by rw [flP_len]; omega), flP_len, show i * 2 + j - i * 2 = j by omega]
      match j, hj with
      | 0, _ => rfl
      | 1, _ => rfl
theorem flP_congr {F G : Nat → Pt} : ∀ {n : Nat}, (∀ i, i < n → F i = G i) → flP F n = flP G n
  | 0, _ => rfl
  | n + 1, h => by rw [flP, flP, flP_congr (fun i hi => h i (by omega)), h n (by omega)]
theorem owns_P {w : World} {B : Nat} {t : TypeId} {v : Value} {n : Nat} {F : Nat → Pt} (h : w.ownsRow B t 2 v n (flP F n)) : PtsAt w v n F := owns_slice h _ (by decide) (fun i j hi hj => flP_at F n i j hi hj)
/-- two points change places -/
def swapF (F : Nat → Pt) (i j : Nat) : Nat → Pt := fun k => if k = i then F j else if k = j then F i else F k
theorem flP_swap (F : Nat → Pt) (n i j : Nat) (hi : i < n) (hj : j < n) (hij : i ≠ j) : ((((flP F n).set (i * 2) (.int .i64 (F j).1)).set (i * 2 + 1) (.int .i64 (F j).2)).set (j * 2) (.int .i64 (F i).1)).set (j * 2 + 1) (.int .i64 (F i).2) = flP (swapF F i j) n := by
  apply List.ext_getElem?
  intro p
  by_cases hp : p < n * 2
  · obtain ⟨a, c, rfl, ha, hc⟩ : ∃ a c, p = a * 2 + c ∧ a < n ∧ c < 2 := ⟨p / 2, p % 2, by omega, by omega, by omega⟩
    rw [flP_at _ n a c ha hc]
    simp only [List.getElem?_set, List.length_set, flP_len]
    have h0 := flP_at F n a c ha hc
    unfold swapF
    match c, hc with
    | 0, _ =>
      simp only [Nat.add_zero] at h0 hp ⊢
      by_cases e1 : a = i
      · subst e1
        rw [if_neg (by omega), if_neg (by omega), if_neg (by omega), if_pos rfl, if_pos hp, if_pos rfl]
        rfl
      · by_cases e2 : a = j
        · subst e2
          rw [if_neg (by omega), if_pos rfl, if_pos hp, if_neg e1, if_pos rfl]
          rfl
        · rw [if_neg (by omega), if_neg (by omega), if_neg (by omega), if_neg (by omega), if_neg e1, if_neg e2]
          exact h0
    | 1, _ =>
      by_cases e1 : a = i
      · subst e1
        rw [if_neg (by omega), if_neg (by omega), if_pos rfl, if_pos hp, if_pos rfl]
        rfl
      · by_cases e2 : a = j
        · subst e2
          rw [if_pos rfl, if_pos hp, if_neg e1, if_pos rfl]
          rfl
        · rw [if_neg (by omega), if_neg (by omega), if_neg (by omega), if_neg (by omega), if_neg e1, if_neg e2]
          exact h0
  · have h1 : ∀ l : List Value, l.length = n * 2 → l[p]? = none := fun l hl => List.getElem?_eq_none (by omega)
    rw [h1 _ (flP_len _ _), h1 _ (by simp [flP_len])]
/-- turned about, up to a place -/
def revK (n q : Nat) (F : Nat → Pt) : Nat → Pt := fun k => if k < q ∨ n ≤ k + q then F (n - 1 - k) else F k
theorem revK_zero (n : Nat) (F : Nat → Pt) : ∀ k, k < n → revK n 0 F k = F k := fun k hk => by unfold revK; rw [if_neg (by omega)]
theorem revK_end {n q : Nat} (F : Nat → Pt) (h1 : 2 * q ≤ n) (h2 : n ≤ 2 * q + 1) : ∀ k, k < n → revK n q F k = rv n F k := fun k hk => by
  unfold revK rv
  by_cases h : k < q ∨ n ≤ k + q
  · rw [if_pos h]
  · rw [if_neg h]
    congr 1
    omega
theorem revK_step {n q p : Nat} (F : Nat → Pt) (hp : p + q = n - 1) (hqp : q < p) : ∀ k, k < n → swapF (revK n q F) q p k = revK n (q + 1) F k := fun k hk => by
  unfold swapF revK
  by_cases e1 : k = q
  · subst e1
    rw [if_pos rfl, if_neg (by omega), if_pos (by omega)]
    congr 1
    omega
  · rw [if_neg e1]
    by_cases e2 : k = p
    · subst e2
      rw [if_pos rfl, if_neg (by omega), if_pos (by omega)]
      congr 1
      omega
    · rw [if_neg e2]
      by_cases h : k < q ∨ n ≤ k + q
      · rw [if_pos h, if_pos (by omega)]
      · rw [if_neg h, if_neg (by omega)]
theorem grown_set {w w' : World} {g : Nat} (h : w.grownBy w' (some g)) (j : Nat) (u : Value) : w.grownBy (w'.setCell ⟨g, j, none⟩ u) (some g) :=
  ⟨h.os, h.tape, h.output, by simpa using h.size, fun k hk hne => (heap_setCell_other w' ⟨g, j, none⟩ k u (fun e => hne (by simp [e]))).trans (h.block k hk hne)⟩
theorem grown_drew {w w' : World} {ob : Option Nat} (h : w.grownBy w' ob) : w.grownBy w'.drew ob := ⟨h.os, h.tape, h.output, h.size, h.block⟩
theorem owns_drew {w : World} {B : Nat} {t : TypeId} {k n : Nat} {v : Value} {xs : List Value} (h : w.ownsRow B t k v n xs) : w.drew.ownsRow B t k v n xs := h

set_option maxHeartbeats 4000000 in
set_option maxRecDepth 20000 in
theorem reverse_own (g n cap B : Nat) (F : Nat → Pt) (w : World) (h : w.ownsRow B 37 2 (.slice (some ⟨g, 0, none⟩) n cap) n (flP F n)) (n0 : 0 < n) :
    Calls Tryd.prog 18 #[(.slice (some ⟨g, 0, none⟩) n cap)] w fun e w' => e = .returned (.tuple #[]) ∧ w'.ownsRow B 37 2 (.slice (some ⟨g, 0, none⟩) n cap) n (flP (rv n F) n) ∧ w.grownBy w' (some g) := by
  have H := Lib.hid h
  have hbig : n ≤ 9223372036854775807 := by
    obtain ⟨-, ⟨e, -⟩ | ⟨g', cap', cur, e, -, -, h1, h2, -⟩⟩ := h
    · cases e
    · simp only [maxLen] at h2
      omega
  have hg0 : g < w.heap.size := by
    obtain ⟨-, ⟨e, -⟩ | ⟨g', cap', cur, e, -, h1, -⟩⟩ := h
    · cases e
    · simp only [Value.slice.injEq, Option.some.injEq, Addr.mk.injEq, and_true, true_and] at e
      obtain ⟨rfl, -⟩ := e
      exact (Array.getElem?_eq_some_iff.1 h1).1
  clear h
  obtain ⟨p0, hp0⟩ : ∃ p : Nat, p + 0 = n - 1 := ⟨n - 1, by omega⟩
  have k0 : IntKind.i64.wrap ((n : Int) - 1) = (p0 : Int) := by rw [show (n : Int) - 1 = (p0 : Int) by omega]; exact IntWalk.i64_in _ (by omega)
  have k1 : (n : Int) - 1 = (p0 : Int) := by omega
  go_enter Tryd.func18, Tryd.ntmps18
  go_wp2
  go_loopw [2, 3] (fun i j wr => ∃ q p : Nat, i = .int .i64 q ∧ j = .int .i64 p ∧ Hid (p + q = n - 1 ∧ 2 * q ≤ n) ∧ Hid (wr.ownsRow B 37 2 (.slice (some ⟨g, 0, none⟩) n cap) n (flP (revK n q F) n)) ∧ Hid (w.grownBy wr (some g))) (fun i _ _ => n - (intOf i).toNat)
  case atStart =>
    refine ⟨0, p0, rfl, rfl, ⟨hp0, by omega⟩, ?_, ⟨rfl, rfl, rfl, Nat.le_refl _, fun _ _ _ => rfl⟩⟩
    show World.ownsRow _ _ _ _ _ _ _
    rw [flP_congr (revK_zero n F)]
    exact H.out
  case round =>
    clear k0 k1 hp0
    obtain ⟨w1, rfl⟩ : ∃ x : World, x = wr := ⟨_, rfl⟩
    obtain ⟨q, p, rfl, rfl, hpq, HO, HG⟩ := hrel
    have hpq0 := hpq.out
    by_cases hlt : q < p
    · have i0 : (0 : Int) ≤ (q : Int) := by omega
      have i1 : (q : Int) < (n : Int) := by omega
      have i2 : (0 : Int) ≤ (p : Int) := by omega
      have i3 : (p : Int) < (n : Int) := by omega
      have hz : g < w1.heap.size := by have := HG.out.size; omega
      have cq0 : w1.cell? ⟨g, q * 2, none⟩ = some (.int .i64 (revK n q F q).1) := (HO.out.cellAt (q * 2) (by omega)).trans (flP_at _ n q 0 (by omega) (by decide))
      have cq1 : w1.cell? ⟨g, q * 2 + 1, none⟩ = some (.int .i64 (revK n q F q).2) := (HO.out.cellAt (q * 2 + 1) (by omega)).trans (flP_at _ n q 1 (by omega) (by decide))
      have cp0 : w1.cell? ⟨g, p * 2, none⟩ = some (.int .i64 (revK n q F p).1) := (HO.out.cellAt (p * 2) (by omega)).trans (flP_at _ n p 0 (by omega) (by decide))
      have cp1 : w1.cell? ⟨g, p * 2 + 1, none⟩ = some (.int .i64 (revK n q F p).2) := (HO.out.cellAt (p * 2 + 1) (by omega)).trans (flP_at _ n p 1 (by omega) (by decide))
      have fr : ∀ j, w1.frozen? ⟨g, j, none⟩ = false := fun j => HO.out.frozenAt j
      have HFS := Lib.hid ((flP_swap (revK n q F) n q p (by omega) (by omega) (by omega)).trans (flP_congr (revK_step F hpq0.1 hlt)))
      obtain ⟨a1, ha1⟩ : ∃ e, (revK n q F q).1 = e := ⟨_, rfl⟩
      obtain ⟨a2, ha2⟩ : ∃ e, (revK n q F q).2 = e := ⟨_, rfl⟩
      obtain ⟨b1, hb1⟩ : ∃ e, (revK n q F p).1 = e := ⟨_, rfl⟩
      obtain ⟨b2, hb2⟩ : ∃ e, (revK n q F p).2 = e := ⟨_, rfl⟩
      rw [ha1, ha2, hb1, hb2] at HFS
      rw [ha1] at cq0
      rw [ha2] at cq1
      rw [hb1] at cp0
      rw [hb2] at cp1
      clear ha1 ha2 hb1 hb2
      obtain ⟨p', hp'⟩ : ∃ p', p = p' + 1 := ⟨p - 1, by omega⟩
      have j1 : IntKind.i64.wrap ((p : Int) - 1) = (p' : Int) := by rw [show (p : Int) - 1 = (p' : Int) by omega]; exact IntWalk.i64_in _ (by omega)
      have j2 : (p : Int) - 1 = (p' : Int) := by omega
      have HP' := Lib.hid hp'
      clear hp' hpq0
      go_wp2_with fail
      go_region
      go_wp2
      go_roundw
      case rel =>
        refine ⟨q + 1, p', by go_num, rfl, ⟨by have := hpq.out; have := HP'.out; omega, by have := hpq.out; omega⟩, ?_, grown_drew (grown_set (grown_set (grown_set (grown_set HG.out _ _) _ _) _ _) _ _)⟩
        show World.ownsRow _ _ _ _ _ _ _
        rw [← HFS.out]
        exact owns_drew ((((HO.out.stored _ _).1.stored _ _).1.stored _ _).1.stored _ _).1
      case measure => simp [intOf]; have := hpq.out; omega
    · have hpq1 := hpq.out
      have HE : Hid (w1.ownsRow B 37 2 (.slice (some ⟨g, 0, none⟩) n cap) n (flP (rv n F) n)) := by
        show World.ownsRow _ _ _ _ _ _ _
        rw [← flP_congr (revK_end F hpq1.2 (by omega))]
        exact HO.out
      clear hpq1
      go_wp2
      go_returns
      exact ⟨rfl, HE.out, HG.out⟩
end Go.Proofs.YtgbhhjdmochhpaaDoor
namespace Go.Proofs.YtgbhhjdmochhpaaDoor
open Go Go.ChangeShapes Go.WideShapes Go.RowKit Go.ChangeAt
set_option linter.unusedVariables false
set_option linter.unusedSimpArgs false

theorem ownsP_on {w w' : World} {B : Nat} {t : TypeId} {k n : Nat} {v : Value} {xs : List Value} (h : w.ownsRow B t k v n xs) (hb : Below w.heap.size w w') : w'.ownsRow B t k v n xs := by
  obtain ⟨h1, ⟨h2, h3⟩ | ⟨g, cap, cur, e, hg, hc, hr⟩⟩ := h
  · exact ⟨h1, .inl ⟨h2, h3⟩⟩
  · exact ⟨h1, .inr ⟨g, cap, cur, e, hg, (hb.block g (Array.getElem?_eq_some_iff.1 hc).1).trans hc, hr⟩⟩
theorem built_P {w : World} {g : Nat} {xs : Array Value} {t : TypeId} (h : w.heap[g]? = some (.cells xs t)) : ∀ j u, xs.toList[j]? = some u → w.cell? ((⟨g, 0, none⟩ : Addr).add j) = some u := fun j u hj => by
  rw [Blk_add, Nat.zero_add, cell_of_row w g j xs t (0, 0) h]
  simpa using hj
theorem owns_some {w : World} {B : Nat} {t : TypeId} {k n : Nat} {v : Value} {xs : List Value} (h : w.ownsRow B t k v n xs) (h0 : 0 < n) : ∃ g cap, v = .slice (some ⟨g, 0, none⟩) n cap ∧ B ≤ g := by
  obtain ⟨h1, ⟨h2, h3⟩ | ⟨g, cap, cur, e, hg, -⟩⟩ := h
  · omega
  · exact ⟨g, cap, e, hg⟩
theorem owns_form {w : World} {B : Nat} {t : TypeId} {k n : Nat} {v : Value} {xs : List Value} (h : w.ownsRow B t k v n xs) : ∃ o cap, v = .slice o n cap := by
  obtain ⟨h1, ⟨h2, h3⟩ | ⟨g, cap, cur, e, hg, -⟩⟩ := h
  · exact ⟨none, 0, by rw [h2, h3]⟩
  · exact ⟨_, cap, e⟩
theorem info_pt : (Tryd.prog.info? 37).map (fun i => (i.zero, i.size, i.bytes)) = some (some (.agg #[.int .i64 0, .int .i64 0]), 2, 16) := by kernel_rfl

set_option maxHeartbeats 4000000 in
set_option maxRecDepth 20000 in
theorem moved_true (v : Value) (n : Nat) (P : Nat → Pt) (b : Nat) (pt : ByteArray) (tx ty : Int) (k : Nat) (w : World) (h : PtsAt w v n P) (hb : b < w.heap.size)
    (HS : Hid (w.cell? ⟨b, 0, none⟩ = some (.string pt) ∧ w.cell? ⟨b, 1, none⟩ = some (.int .i64 tx) ∧ w.cell? ⟨b, 2, none⟩ = some (.int .i64 ty) ∧ w.cell? ⟨b, 3, none⟩ = some (.int .i64 (k : Int)) ∧ w.cell? ⟨b, 4, none⟩ = some (.bool true)))
    (hk : k ≤ 3) (hn : 0 < n) (hn32 : n ≤ 32) (ht : (0 ≤ tx ∧ tx ≤ 16384) ∧ 0 ≤ ty ∧ ty ≤ 16384) (hP : Hid (∀ i, i < n → (-16384 ≤ (P i).1 ∧ (P i).1 ≤ 16384) ∧ -16384 ≤ (P i).2 ∧ (P i).2 ≤ 16384)) :
    Calls Tryd.prog 17 #[v, .pointer (some ⟨b, 0, none⟩)] w fun e w' => ∃ (o : Option Addr) (c : Nat), e = .returned (.slice o n c) ∧ w'.ownsRow w.heap.size 37 2 (.slice o n c) n (flP (spotF true n (fun i => spotT true k (tx, ty) (P i))) n) ∧ Below w.heap.size w w' := by
  have hu : Tryd.prog.underlying 22 = some (.slice 37) := Tryd.underlying22
  obtain ⟨i0, hi, hz0, hz1, hz2⟩ := infoP_parts info_pt
  obtain ⟨ov, cv, rfl, hnv, hcv, hel⟩ := h.form
  have HEL := Lib.hid hel
  clear h hel
  go_enter Tryd.func17, Tryd.ntmps17
  go_wp2
  go_loopw [4, 9] (fun o i wr => ∃ (j : Nat) (ol : Option Addr) (cl : Nat), j ≤ n ∧ i = .int .i64 j ∧ o = .slice ol j cl ∧ Hid (wr.ownsRow w.heap.size 37 2 (.slice ol j cl) j (flP (fun i => spotT true k (tx, ty) (P i)) j)) ∧ Below w.heap.size w wr) (fun o i _ => n - (intOf i).toNat)
  case atStart => exact ⟨0, none, 0, by omega, rfl, rfl, World.ownsRow_nil _ _ _ _, Below.refl _ _⟩
  case round =>
    obtain ⟨w1, rfl⟩ : ∃ x : World, x = wr := ⟨_, rfl⟩
    obtain ⟨j, ol, cl, hj, rfl, rfl, HO, hB1⟩ := hrel
    have HB1r := Lib.hid hB1
    have zb : b < w1.heap.size := by have := hB1.size; omega
    clear hB1
    have s0 : w1.cell? ⟨b, 0, none⟩ = some (.string pt) := (HB1r.out.cell (p := ⟨_, _, none⟩) hb).trans HS.out.1
    have s1 : w1.cell? ⟨b, 1, none⟩ = some (.int .i64 tx) := (HB1r.out.cell (p := ⟨_, _, none⟩) hb).trans HS.out.2.1
    have s2 : w1.cell? ⟨b, 2, none⟩ = some (.int .i64 ty) := (HB1r.out.cell (p := ⟨_, _, none⟩) hb).trans HS.out.2.2.1
    have s3 : w1.cell? ⟨b, 3, none⟩ = some (.int .i64 (k : Int)) := (HB1r.out.cell (p := ⟨_, _, none⟩) hb).trans HS.out.2.2.2.1
    have s4 : w1.cell? ⟨b, 4, none⟩ = some (.bool true) := (HB1r.out.cell (p := ⟨_, _, none⟩) hb).trans HS.out.2.2.2.2
    by_cases hlt : j < n
    · obtain ⟨b1, f1, rfl, hbl1, hcl1⟩ := HEL.out j hlt
      have p0 : w1.cell? ⟨b1, f1 + j * 2, none⟩ = some (.int .i64 (P j).1) := (HB1r.out.cell (p := ⟨_, _, none⟩) hbl1).trans (hcl1 j hlt).1
      have p1 : w1.cell? ⟨b1, f1 + j * 2 + 1, none⟩ = some (.int .i64 (P j).2) := (HB1r.out.cell (p := ⟨_, _, none⟩) hbl1).trans (hcl1 j hlt).2
      have hbr : b1 < w1.heap.size := by have := HB1r.out.size; omega
      have k0 : (0 : Int) ≤ (j : Int) := by omega
      have k1 : (j : Int) < (n : Int) := by omega
      obtain ⟨a1, hea1⟩ : ∃ e, (P j).1 = e := ⟨_, rfl⟩
      obtain ⟨a2, hea2⟩ : ∃ e, (P j).2 = e := ⟨_, rfl⟩
      have HA : Hid (P j = (a1, a2)) := Prod.ext hea1 hea2
      have hpj := hP.out j hlt
      rw [hea1, hea2] at hpj
      obtain ⟨ha1, ha2⟩ := hpj
      rw [hea1] at p0
      rw [hea2] at p1
      clear hea1 hea2 hcl1
      obtain ⟨na1, hna⟩ : ∃ e, -a1 = e := ⟨_, rfl⟩
      have vn : IntKind.i64.wrap (-a1) = na1 := by rw [hna]; exact IntWalk.i64_in _ (by omega)
      have HSP : Hid (spotT true k (tx, ty) (P j) = mov (tx, ty) (rotN k (na1, a2))) := by show spotT _ _ _ _ = _; unfold spotT; rw [HA.out, if_pos rfl]; unfold mir; dsimp only; rw [hna]
      have hx0 : -16384 ≤ na1 ∧ na1 ≤ 16384 := by omega
      clear hna
      go_wp2
      go_loopw [21] (fun i wr => ∃ (q : Nat) (x y : Int), q ≤ k ∧ i = .int .i64 q ∧ Hid (rotN q (na1, a2) = (x, y)) ∧ Hid (wr.heap[w1.heap.size]? = some (.cells #[.int .i64 x, .int .i64 y] 37)) ∧ w1.heap.size < wr.heap.size ∧ Below w1.heap.size w1 wr) (fun i _ => k - (intOf i).toNat)
      case atStart =>
        refine ⟨0, na1, a2, by omega, rfl, rfl, ?_, by simp, by go_grown⟩
        show _ = _
        simp (disch := (first | omega | (simp only [World.size_alloc, World.size_setCell] <;> omega))) only [heapA_at, heapA_old, heapS_same, heapS_other, setObj, Option.map_some]
        (try rfl)
      case round =>
        obtain ⟨w2, rfl⟩ : ∃ x : World, x = wr := ⟨_, rfl⟩
        obtain ⟨q, x, y, hq, rfl, HR, HBX, zx, hB2⟩ := hrel
        have HB2 := Lib.hid hB2
        have HBW := Lib.hid (below_step HB1r.out hB2)
        have xbd := rotN_bd (M := 16384) (p := (na1, a2)) ⟨hx0, ha2⟩ q
        rw [HR.out] at xbd
        dsimp only at xbd
        obtain ⟨b0, b1, bf, bz⟩ := cells_at2 HBX.out
        clear hB2
        have s3 : w2.cell? ⟨b, 3, none⟩ = some (.int .i64 (k : Int)) := (HBW.out.cell (p := ⟨_, _, none⟩) hb).trans HS.out.2.2.2.1
        have zb : b < w2.heap.size := by have := HBW.out.size; omega
        by_cases hqk : q < k
        · obtain ⟨ny, hny⟩ : ∃ e, -y = e := ⟨_, rfl⟩
          have vy : IntKind.i64.wrap (-y) = ny := by rw [hny]; exact IntWalk.i64_in _ (by omega)
          have HR2 : Hid (rotN (q + 1) (na1, a2) = (ny, x)) := by show rot (rotN q _) = _; rw [HR.out]; unfold rot; rw [hny]
          clear hny
          go_wp2
          go_roundw
          case rel =>
            refine ⟨q + 1, ny, x, by omega, by go_num, HR2, ?_, by simp; omega, by have h := HB2.out; go_grown⟩
            show _ = _
            rw [heapS_same, heapS_same, HBX.out]
            rfl
          case measure => simp [intOf]; omega
        · obtain rfl : q = k := by omega
          clear s3 bf
          have s1 : w2.cell? ⟨b, 1, none⟩ = some (.int .i64 tx) := (HBW.out.cell (p := ⟨_, _, none⟩) hb).trans HS.out.2.1
          have s2 : w2.cell? ⟨b, 2, none⟩ = some (.int .i64 ty) := (HBW.out.cell (p := ⟨_, _, none⟩) hb).trans HS.out.2.2.1
          have s3 : w2.cell? ⟨b, 3, none⟩ = some (.int .i64 (q : Int)) := (HBW.out.cell (p := ⟨_, _, none⟩) hb).trans HS.out.2.2.2.1
          obtain ⟨X, hX⟩ : ∃ e, x + tx = e := ⟨_, rfl⟩
          obtain ⟨Y, hY⟩ : ∃ e, y + ty = e := ⟨_, rfl⟩
          have vX : IntKind.i64.wrap (x + tx) = X := by rw [hX]; exact IntWalk.i64_in _ (by omega)
          have vY : IntKind.i64.wrap (y + ty) = Y := by rw [hY]; exact IntWalk.i64_in _ (by omega)
          have HFL : Hid (flP (fun i => spotT true q (tx, ty) (P i)) j ++ [.int .i64 X, .int .i64 Y] = flP (fun i => spotT true q (tx, ty) (P i)) (j + 1)) := by
            show _ = _
            rw [flP, HSP.out, HR.out]
            unfold mov
            rw [← hX, ← hY]
          have HO2 := Lib.hid (ownsP_on HO.out HB2.out)
          clear hX hY
          go_wp2_with (at_builtin; refine wpList_append_sl rfl _ _ 22 rfl w.heap.size 37 i0 _ 2 16 hu hi hz0 hz1 hz2 rfl (by decide) (.slice ol j cl) j (flP (fun i => spotT true q (tx, ty) (P i)) j) rfl ?c0 (some ⟨w2.heap.size, 0, none⟩) 1 1 [.int .i64 X, .int .i64 Y] rfl rfl ?c2 ?c3 ?c4 ?c5 ?c6 ?c7 ?_)
          case c0 => exact ownsP_on HO2.out (by go_grown)
          case c2 => intro e; cases e
          case c3 =>
            intro ad had j u hj
            cases had
            exact built_P (heapA_at _ _ _ rfl) j u hj
          case c4 =>
            intro u hu
            simp only [List.mem_cons, List.not_mem_nil, or_false] at hu
            rcases hu with rfl | rfl <;> rfl
          case c5 => unfold maxLen; omega
          case c6 => omega
          case c7 => have := HBW.out.size; simp <;> omega
          intro v' w4 hown hgrow
          have hB4 : Below w.heap.size w w4 := by
            have h := HBW.out
            have hz2 := HBW.out.size
            refine Below.grown (by go_grown) hgrow (by simp <;> omega) (fun k hk => ?_)
            rcases HO2.out with ⟨-, ⟨e, -⟩ | ⟨g, cap, cur, e, hg, -⟩⟩
            · rw [e] at hk; simp [Value.ownBlock] at hk
            · rw [e] at hk; simp [Value.ownBlock] at hk; omega
          rw [HFL.out] at hown
          have HB4 := Lib.hid hB4
          have HO4 : Hid (w4.ownsRow w.heap.size 37 2 v' (j + 1) (flP (fun i => spotT true q (tx, ty) (P i)) (j + 1))) := hown
          obtain ⟨o', c', rfl⟩ := owns_form HO4.out
          clear hown hgrow hB4
          go_wp2
          go_roundw
          case rel => exact ⟨j + 1, o', c', by omega, by go_num, rfl, HO4, HB4.out⟩
          case measure => simp [intOf]; omega
    · obtain rfl : j = n := by omega
      obtain ⟨g, cap, hg, hgl⟩ := owns_some HO.out (by omega)
      simp only [Value.slice.injEq, true_and] at hg
      obtain ⟨rfl, rfl⟩ := hg
      go_wp2_with fail
      (go_at_call 18; refine (reverse_own g j cl w.heap.size _ _ HO.out (by omega)).mono ?_; rintro e_ w5 ⟨rfl, hown, hgrow⟩)
      have HO5 := Lib.hid hown
      have HB5 : Hid (Below w.heap.size w w5) := by
        refine Below.grown HB1r.out hgrow (by have := HB1r.out.size; omega) (fun k hk => ?_)
        simp at hk
        omega
      clear hown hgrow
      go_wp2
      go_returns
      exact ⟨_, _, rfl, HO5.out, HB5.out⟩

set_option maxHeartbeats 4000000 in
set_option maxRecDepth 20000 in
theorem moved_false (v : Value) (n : Nat) (P : Nat → Pt) (b : Nat) (pt : ByteArray) (tx ty : Int) (k : Nat) (w : World) (h : PtsAt w v n P) (hb : b < w.heap.size)
    (HS : Hid (w.cell? ⟨b, 0, none⟩ = some (.string pt) ∧ w.cell? ⟨b, 1, none⟩ = some (.int .i64 tx) ∧ w.cell? ⟨b, 2, none⟩ = some (.int .i64 ty) ∧ w.cell? ⟨b, 3, none⟩ = some (.int .i64 (k : Int)) ∧ w.cell? ⟨b, 4, none⟩ = some (.bool false)))
    (hk : k ≤ 3) (hn : 0 < n) (hn32 : n ≤ 32) (ht : (0 ≤ tx ∧ tx ≤ 16384) ∧ 0 ≤ ty ∧ ty ≤ 16384) (hP : Hid (∀ i, i < n → (-16384 ≤ (P i).1 ∧ (P i).1 ≤ 16384) ∧ -16384 ≤ (P i).2 ∧ (P i).2 ≤ 16384)) :
    Calls Tryd.prog 17 #[v, .pointer (some ⟨b, 0, none⟩)] w fun e w' => ∃ (o : Option Addr) (c : Nat), e = .returned (.slice o n c) ∧ w'.ownsRow w.heap.size 37 2 (.slice o n c) n (flP (spotF false n (fun i => spotT false k (tx, ty) (P i))) n) ∧ Below w.heap.size w w' := by
  have hu : Tryd.prog.underlying 22 = some (.slice 37) := Tryd.underlying22
  obtain ⟨i0, hi, hz0, hz1, hz2⟩ := infoP_parts info_pt
  obtain ⟨ov, cv, rfl, hnv, hcv, hel⟩ := h.form
  have HEL := Lib.hid hel
  clear h hel
  go_enter Tryd.func17, Tryd.ntmps17
  go_wp2
  go_loopw [4, 9] (fun o i wr => ∃ (j : Nat) (ol : Option Addr) (cl : Nat), j ≤ n ∧ i = .int .i64 j ∧ o = .slice ol j cl ∧ Hid (wr.ownsRow w.heap.size 37 2 (.slice ol j cl) j (flP (fun i => spotT false k (tx, ty) (P i)) j)) ∧ Below w.heap.size w wr) (fun o i _ => n - (intOf i).toNat)
  case atStart => exact ⟨0, none, 0, by omega, rfl, rfl, World.ownsRow_nil _ _ _ _, Below.refl _ _⟩
  case round =>
    obtain ⟨w1, rfl⟩ : ∃ x : World, x = wr := ⟨_, rfl⟩
    obtain ⟨j, ol, cl, hj, rfl, rfl, HO, hB1⟩ := hrel
    have HB1r := Lib.hid hB1
    have zb : b < w1.heap.size := by have := hB1.size; omega
    clear hB1
    have s0 : w1.cell? ⟨b, 0, none⟩ = some (.string pt) := (HB1r.out.cell (p := ⟨_, _, none⟩) hb).trans HS.out.1
    have s1 : w1.cell? ⟨b, 1, none⟩ = some (.int .i64 tx) := (HB1r.out.cell (p := ⟨_, _, none⟩) hb).trans HS.out.2.1
    have s2 : w1.cell? ⟨b, 2, none⟩ = some (.int .i64 ty) := (HB1r.out.cell (p := ⟨_, _, none⟩) hb).trans HS.out.2.2.1
    have s3 : w1.cell? ⟨b, 3, none⟩ = some (.int .i64 (k : Int)) := (HB1r.out.cell (p := ⟨_, _, none⟩) hb).trans HS.out.2.2.2.1
    have s4 : w1.cell? ⟨b, 4, none⟩ = some (.bool false) := (HB1r.out.cell (p := ⟨_, _, none⟩) hb).trans HS.out.2.2.2.2
    by_cases hlt : j < n
    · obtain ⟨b1, f1, rfl, hbl1, hcl1⟩ := HEL.out j hlt
      have p0 : w1.cell? ⟨b1, f1 + j * 2, none⟩ = some (.int .i64 (P j).1) := (HB1r.out.cell (p := ⟨_, _, none⟩) hbl1).trans (hcl1 j hlt).1
      have p1 : w1.cell? ⟨b1, f1 + j * 2 + 1, none⟩ = some (.int .i64 (P j).2) := (HB1r.out.cell (p := ⟨_, _, none⟩) hbl1).trans (hcl1 j hlt).2
      have hbr : b1 < w1.heap.size := by have := HB1r.out.size; omega
      have k0 : (0 : Int) ≤ (j : Int) := by omega
      have k1 : (j : Int) < (n : Int) := by omega
      obtain ⟨a1, hea1⟩ : ∃ e, (P j).1 = e := ⟨_, rfl⟩
      obtain ⟨a2, hea2⟩ : ∃ e, (P j).2 = e := ⟨_, rfl⟩
      have HA : Hid (P j = (a1, a2)) := Prod.ext hea1 hea2
      have hpj := hP.out j hlt
      rw [hea1, hea2] at hpj
      obtain ⟨ha1, ha2⟩ := hpj
      rw [hea1] at p0
      rw [hea2] at p1
      clear hea1 hea2 hcl1
      have HSP : Hid (spotT false k (tx, ty) (P j) = mov (tx, ty) (rotN k (a1, a2))) := by show spotT _ _ _ _ = _; unfold spotT; rw [HA.out]; rfl
      have hx0 : -16384 ≤ a1 ∧ a1 ≤ 16384 := by omega

      go_wp2
      go_loopw [21] (fun i wr => ∃ (q : Nat) (x y : Int), q ≤ k ∧ i = .int .i64 q ∧ Hid (rotN q (a1, a2) = (x, y)) ∧ Hid (wr.heap[w1.heap.size]? = some (.cells #[.int .i64 x, .int .i64 y] 37)) ∧ w1.heap.size < wr.heap.size ∧ Below w1.heap.size w1 wr) (fun i _ => k - (intOf i).toNat)
      case atStart =>
        refine ⟨0, a1, a2, by omega, rfl, rfl, ?_, by simp, by go_grown⟩
        show _ = _
        simp (disch := (first | omega | (simp only [World.size_alloc, World.size_setCell] <;> omega))) only [heapA_at, heapA_old, heapS_same, heapS_other, setObj, Option.map_some]
        done
      case round =>
        obtain ⟨w2, rfl⟩ : ∃ x : World, x = wr := ⟨_, rfl⟩
        obtain ⟨q, x, y, hq, rfl, HR, HBX, zx, hB2⟩ := hrel
        have HB2 := Lib.hid hB2
        have HBW := Lib.hid (below_step HB1r.out hB2)
        have xbd := rotN_bd (M := 16384) (p := (a1, a2)) ⟨hx0, ha2⟩ q
        rw [HR.out] at xbd
        dsimp only at xbd
        obtain ⟨b0, b1, bf, bz⟩ := cells_at2 HBX.out
        clear hB2
        have s3 : w2.cell? ⟨b, 3, none⟩ = some (.int .i64 (k : Int)) := (HBW.out.cell (p := ⟨_, _, none⟩) hb).trans HS.out.2.2.2.1
        have zb : b < w2.heap.size := by have := HBW.out.size; omega
        by_cases hqk : q < k
        · obtain ⟨ny, hny⟩ : ∃ e, -y = e := ⟨_, rfl⟩
          have vy : IntKind.i64.wrap (-y) = ny := by rw [hny]; exact IntWalk.i64_in _ (by omega)
          have HR2 : Hid (rotN (q + 1) (a1, a2) = (ny, x)) := by show rot (rotN q _) = _; rw [HR.out]; unfold rot; rw [hny]
          clear hny
          go_wp2
          go_roundw
          case rel =>
            refine ⟨q + 1, ny, x, by omega, by go_num, HR2, ?_, by simp; omega, by have h := HB2.out; go_grown⟩
            show _ = _
            rw [heapS_same, heapS_same, HBX.out]
            rfl
          case measure => simp [intOf]; omega
        · obtain rfl : q = k := by omega
          clear s3 bf
          have s1 : w2.cell? ⟨b, 1, none⟩ = some (.int .i64 tx) := (HBW.out.cell (p := ⟨_, _, none⟩) hb).trans HS.out.2.1
          have s2 : w2.cell? ⟨b, 2, none⟩ = some (.int .i64 ty) := (HBW.out.cell (p := ⟨_, _, none⟩) hb).trans HS.out.2.2.1
          have s3 : w2.cell? ⟨b, 3, none⟩ = some (.int .i64 (q : Int)) := (HBW.out.cell (p := ⟨_, _, none⟩) hb).trans HS.out.2.2.2.1
          obtain ⟨X, hX⟩ : ∃ e, x + tx = e := ⟨_, rfl⟩
          obtain ⟨Y, hY⟩ : ∃ e, y + ty = e := ⟨_, rfl⟩
          have vX : IntKind.i64.wrap (x + tx) = X := by rw [hX]; exact IntWalk.i64_in _ (by omega)
          have vY : IntKind.i64.wrap (y + ty) = Y := by rw [hY]; exact IntWalk.i64_in _ (by omega)
          have HFL : Hid (flP (fun i => spotT false q (tx, ty) (P i)) j ++ [.int .i64 X, .int .i64 Y] = flP (fun i => spotT false q (tx, ty) (P i)) (j + 1)) := by
            show _ = _
            rw [flP, HSP.out, HR.out]
            unfold mov
            rw [← hX, ← hY]
          have HO2 := Lib.hid (ownsP_on HO.out HB2.out)
          clear hX hY
          go_wp2_with (at_builtin; refine wpList_append_sl rfl _ _ 22 rfl w.heap.size 37 i0 _ 2 16 hu hi hz0 hz1 hz2 rfl (by decide) (.slice ol j cl) j (flP (fun i => spotT false q (tx, ty) (P i)) j) rfl ?c0 (some ⟨w2.heap.size, 0, none⟩) 1 1 [.int .i64 X, .int .i64 Y] rfl rfl ?c2 ?c3 ?c4 ?c5 ?c6 ?c7 ?_)
          case c0 => exact ownsP_on HO2.out (by go_grown)
          case c2 => intro e; cases e
          case c3 =>
            intro ad had j u hj
            cases had
            exact built_P (heapA_at _ _ _ rfl) j u hj
          case c4 =>
            intro u hu
            simp only [List.mem_cons, List.not_mem_nil, or_false] at hu
            rcases hu with rfl | rfl <;> rfl
          case c5 => unfold maxLen; omega
          case c6 => omega
          case c7 => have := HBW.out.size; simp <;> omega
          intro v' w4 hown hgrow
          have hB4 : Below w.heap.size w w4 := by
            have h := HBW.out
            have hz2 := HBW.out.size
            refine Below.grown (by go_grown) hgrow (by simp <;> omega) (fun k hk => ?_)
            rcases HO2.out with ⟨-, ⟨e, -⟩ | ⟨g, cap, cur, e, hg, -⟩⟩
            · rw [e] at hk; simp [Value.ownBlock] at hk
            · rw [e] at hk; simp [Value.ownBlock] at hk; omega
          rw [HFL.out] at hown
          have HB4 := Lib.hid hB4
          have HO4 : Hid (w4.ownsRow w.heap.size 37 2 v' (j + 1) (flP (fun i => spotT false q (tx, ty) (P i)) (j + 1))) := hown
          obtain ⟨o', c', rfl⟩ := owns_form HO4.out
          clear hown hgrow hB4
          go_wp2
          go_roundw
          case rel => exact ⟨j + 1, o', c', by omega, by go_num, rfl, HO4, HB4.out⟩
          case measure => simp [intOf]; omega
    · obtain rfl : j = n := by omega
      go_wp2
      go_returns
      exact ⟨_, _, rfl, HO.out, HB1r.out⟩
end Go.Proofs.YtgbhhjdmochhpaaDoor
namespace Go.Proofs.YtgbhhjdmochhpaaDoor
open Go Go.RowKit
set_option linter.unusedVariables false
section
variable {P : Program} {md : Region.Mode}
section
variable {ops : Array Oper} {w0 : World} {p q : Nat} {fr : (Nat → Value) → Act} {fin : (Nat → Stay) → Prop} {o : Oper} {l : List Oper} {k : Nat} {V : Nat → Stay}
end
end
end Go.Proofs.YtgbhhjdmochhpaaDoor
namespace Go.Proofs.YtgbhhjdmochhpaaDoor
open Go Go.RowKit
set_option linter.unusedVariables false
section
variable {P : Program} {md : Region.Mode}
/-- each of 'pre' is waited for, by q in the end -/
def preB (md : Region.Mode) (ops : Array Oper) (n q : Nat) (pre : List Nat) : Bool :=
  pre.all fun k => decide (k < n) && decide (k ≠ q) && (List.range n).any fun k' => (decide (k' = q) || (decide (k < k') && pre.contains k')) && (match ops[k']? with | some o => waitsB md o k | none => false)
def Const (s : Stay) : Prop := ∀ v w w', s.p v w → s.p v w'
theorem Const.is (x : Value) : Const (Stay.is x) := fun _ _ _ h => h
def relAllM (P : Program) (md : Region.Mode) (ops : Array Oper) (w0 : World) (V : Nat → Stay) (pre : List Nat) (q : Nat) (fr : (Nat → Value) → Act) : List Oper → Nat → Prop
  | [], _ => True
  | o :: l, k => ((k ∈ pre → ∀ (u : Nat → Value) (w : World), Below w0.heap.size w0 w → depsS md V u w o.after.toList →
        if Region.wanted o (yielded ops (fr u).tmps) = true then relOp P o (fr u) w (fun v w' => Below w.heap.size w w' ∧ (V k).p v w') else (V k).p undef w) ∧
      (k = q → ∀ (u : Nat → Value) (w : World), Below w0.heap.size w0 w → depsS md V u w o.after.toList → Region.wanted o (yielded ops (fr u).tmps) = true ∧ relOp P o (fr u) w (fun v w' => (V k).p v w')) ∧
      (k ∉ pre → k ≠ q → Const (V k) ∧ ∀ (u : Nat → Value) (w : World), Region.wanted o (yielded ops (fr u).tmps) = true ∧ relOp P o (fr u) w (fun v w' => w' = w ∧ (V k).p v w'))) ∧ relAllM P md ops w0 V pre q fr l (k + 1)
theorem relAllM_at {ops : Array Oper} {w0 : World} {V : Nat → Stay} {pre : List Nat} {q : Nat} {fr : (Nat → Value) → Act} : ∀ (l : List Oper) (k i : Nat) (o : Oper), relAllM P md ops w0 V pre q fr l k → l[i]? = some o →
    (k + i ∈ pre → ∀ (u : Nat → Value) (w : World), Below w0.heap.size w0 w → depsS md V u w o.after.toList →
        if Region.wanted o (yielded ops (fr u).tmps) = true then relOp P o (fr u) w (fun v w' => Below w.heap.size w w' ∧ (V (k + i)).p v w') else (V (k + i)).p undef w) ∧
      (k + i = q → ∀ (u : Nat → Value) (w : World), Below w0.heap.size w0 w → depsS md V u w o.after.toList → Region.wanted o (yielded ops (fr u).tmps) = true ∧ relOp P o (fr u) w (fun v w' => (V (k + i)).p v w')) ∧
      (k + i ∉ pre → k + i ≠ q → Const (V (k + i)) ∧ ∀ (u : Nat → Value) (w : World), Region.wanted o (yielded ops (fr u).tmps) = true ∧ relOp P o (fr u) w (fun v w' => w' = w ∧ (V (k + i)).p v w'))
  | [], _, _, _, _, h => by simp at h
  | o' :: l, k, 0, o, hr, h => by
    obtain rfl : o' = o := by simpa using h
    exact hr.1
  | o' :: l, k, i + 1, o, hr, h => by
    have := relAllM_at l (k + 1) i o hr.2 (by simpa using h)
    rwa [show k + 1 + i = k + (i + 1) by omega] at this
theorem pre_listed {ops : Array Oper} {n q : Nat} {pre : List Nat} {listed : Array Bool} (hp : preB md ops n q pre = true) (inv : HeadInv md ops n listed) (hq : listed.getD q false = true) : ∀ (d k : Nat), n - k = d → k ∈ pre → listed.getD k false = true := by
  intro d
  induction d using Nat.strongRecOn with
  | _ d ih =>
    intro k hd hk
    have h1 := List.all_eq_true.1 hp k hk
    simp only [Bool.and_eq_true, decide_eq_true_eq] at h1
    obtain ⟨⟨hkn, hkq⟩, h2⟩ := h1
    obtain ⟨k', hk', h3⟩ := List.any_eq_true.1 h2
    simp only [Bool.and_eq_true, Bool.or_eq_true, decide_eq_true_eq] at h3
    obtain ⟨h4, h5⟩ := h3
    have hk'n : k' < n := List.mem_range.1 hk'
    have hl' : listed.getD k' false = true := by
      rcases h4 with rfl | ⟨hlt, hc⟩
      · exact hq
      · exact ih (n - k') (by omega) k' rfl (by simpa using hc)
    cases ho : ops[k']? with
    | none => rw [ho] at h5; cases h5
    | some o =>
      rw [ho] at h5
      unfold waitsB at h5
      obtain ⟨ed, he1, he2⟩ := List.any_eq_true.1 h5
      simp only [Bool.and_eq_true, decide_eq_true_eq] at he2
      have := inv.closed k' o ho hl' ed (by simpa using he1) he2.2
      rwa [he2.1] at this
theorem wpAny_relm {l : List Oper} {n : Nat} {a0 : Act} {w0 : World} {V : Nat → Stay} {pre : List Nat} {q : Nat} {Q : Exit → Act → World → Prop} (hB : relB md l n = true) (hq : q < n) (hP : preB md l.toArray n q pre = true)
    (hall : relAllM P md l.toArray w0 V pre q (fun u => fillL a0 (l.take n) u 0) (l.take n) 0)
    (hend : ∀ (u : Nat → Value) (w : World), (V q).p (u q) w → (∀ j, j < n → j ≠ q → Const (V j) → (V j).p (u j) w) → wpList P l.toArray Q (l.drop n) (fillL a0 (l.take n) u 0) w) :
    ∀ (f : Nat) (listed : Array Bool) (u : Nat → Value) (w : World), unlisted n listed = f → HeadInv md l.toArray n listed →
      (listed.getD q false = false → Below w0.heap.size w0 w ∧ ∀ j, j < n → listed.getD j false = true → (V j).p (u j) w) →
      (listed.getD q false = true → (V q).p (u q) w ∧ ∀ j, j < n → j ≠ q → listed.getD j false = true → Const (V j) → (V j).p (u j) w) →
      wpAny P md l.toArray Q (f + (l.length - n)) listed (fillL a0 (l.take n) u 0) w := by
  have hP0 := hP
  simp only [relB, Bool.and_eq_true, Bool.or_eq_true, decide_eq_true_eq] at hB
  obtain ⟨⟨⟨hn, hback⟩, hseq⟩, hd⟩ := hB
  have hnl : n ≤ l.length := by omega
  intro f
  induction f with
  | zero =>
    intro listed u w hf inv hV0 hV1
    have hdone : ∀ j, j < n → listed.getD j false = true := by
      intro j hj
      have h0 : (List.range n).countP (fun j => !listed.getD j false) = 0 := hf
      rw [List.countP_eq_zero] at h0
      simpa using h0 j (List.mem_range.2 hj)
    have hlist : listed = headsDone n l.length := by
      apply Array.ext
      · simp [headsDone, inv.size]; omega
      · intro i h1 h2
        have hsz : listed.size = l.length := by rw [inv.size]; simp
        have h3 : i < (List.replicate n true ++ List.replicate (l.length - n) false).length := by simpa [headsDone] using h2
        show listed[i] = (List.replicate n true ++ List.replicate (l.length - n) false)[i]'h3
        by_cases hi : i < n
        · rw [List.getElem_append_left (by simpa using hi), List.getElem_replicate]
          have := hdone i hi
          simpa [h1] using this
        · rw [List.getElem_append_right (by simpa using hi), List.getElem_replicate]
          have := inv.tail i (by omega) (by simp; omega)
          simpa [h1] using this
    rw [Nat.zero_add]
    have hv := hV1 (hdone q hq)
    have := wpAny_of_seq (P := P) (ops := l.toArray) (md := md) (Q' := Q) (l.drop n) n listed (fillL a0 (l.take n) u 0) w (fun j => by simp [List.getElem?_drop])
      (by rw [List.length_drop, hlist]; exact hseq) (hend u w hv.1 (fun j hj hjq hc => hv.2 j hj hjq (hdone j hj) hc))
    rwa [List.length_drop] at this
  | succ f ih =>
    intro listed u w hf inv hV0 hV1
    have hsz : listed.size = l.length := by rw [inv.size]; simp
    obtain ⟨i0, hi0, hun0⟩ : ∃ i, i < n ∧ listed.getD i false = false := by
      apply Classical.byContradiction
      intro hno
      have : unlisted n listed = 0 := by
        unfold unlisted
        rw [List.countP_eq_zero]
        intro j hj
        have : listed.getD j false = true := by
          cases h : listed.getD j false with
          | true => rfl
          | false => exact absurd ⟨j, List.mem_range.1 hj, h⟩ hno
        rw [this]
        decide
      omega
    rw [show f + 1 + (l.length - n) = (f + (l.length - n)) + 1 by omega]
    refine ⟨fun h => absurd h (some_ready hback (by simpa using hnl) i0 i0 rfl hi0 hun0 (by omega) (fun j hj => by omega)), fun i hi => ?_⟩
    obtain ⟨hiun, o, ho, hdeps⟩ := mem_ready.1 hi
    have hilt : i < l.length := by have := (Array.getElem?_eq_some_iff.1 ho).1; simpa using this
    have hin : i < n := by
      rcases hn with hn | ⟨⟨hn, hs⟩, hc⟩
      · omega
      · exact (Nat.lt_or_ge i n).resolve_right fun h => tail_waits hs hc (by simpa using hn) inv _ i0 rfl hi0 (getD_in (by omega) hun0) i h hi
    have hiun' : listed.getD i false = false := getD_both hiun
    have hol : (l.take n)[i]? = some o := by
      rw [List.getElem?_take_of_lt hin]; simpa using ho
    have hon : ∀ e ∈ o.after.toList, Region.binds md e = true → e.on < n := fun e he hbd => by
      have hbk := List.all_eq_true.1 hback i (List.mem_range.2 hin)
      simp only [ho] at hbk
      have h2 := List.all_eq_true.1 hbk e he
      simp only [hbd, Bool.not_true, Bool.false_or, decide_eq_true_eq] at h2
      omega
    have hset : ∀ j, (listed.setIfInBounds i true).getD j false = if j = i then true else listed.getD j false := fun j => by
      by_cases hji : j = i
      · rw [if_pos hji, hji, Array.getD_eq_getD_getElem?, Array.getElem?_setIfInBounds_self_of_lt (by omega)]; rfl
      · rw [if_neg hji, getD_set_ne false (by omega)]
    have hupd : ∀ v, upd u (0 + i) v i = v := fun v => by unfold upd; rw [if_pos (by omega)]
    have hupn : ∀ v j, j ≠ i → upd u (0 + i) v j = u j := fun v j h => by unfold upd; rw [if_neg (by omega)]
    obtain ⟨hpre, hqq, hfree⟩ := relAllM_at _ 0 i o hall hol
    simp only [Nat.zero_add] at hpre hqq hfree
    have hf' : unlisted n (listed.setIfInBounds i true) = f := by
      have := unlisted_set hin (by omega : i < listed.size) hiun'
      omega
    cases hlq : listed.getD q false with
    | false =>
      obtain ⟨hb, hV⟩ := hV0 hlq
      have hdv : depsS md V u w o.after.toList := by
        have h := fun e he hbd => hV e.on (hon e he hbd) (hdeps e (by simpa using he) hbd)
        generalize o.after.toList = es at h
        induction es with
        | nil => trivial
        | cons e es ih => exact ⟨fun hbd => h e (by simp) hbd, ih (fun e he => h e (by simp [he]))⟩
      by_cases hiq : i = q
      · have hstep := hqq hiq u w hb hdv
        unfold wpOp
        simp only [ho]
        rw [if_pos hstep.1]
        refine .inl (relOp_wp hstep.2 fun v w' hv => ?_)
        rw [fill_put (l.take n) a0 u 0 i o hd hol]
        refine ih _ _ _ hf' (inv.set hi hin) (fun h => ?_) (fun _ => ?_)
        · rw [hset, if_pos hiq.symm] at h; cases h
        · refine ⟨by rw [← hiq, hupd]; exact hv, fun j hj hjq hl hc => ?_⟩
          rw [hset, if_neg (by omega)] at hl
          rw [hupn _ _ (by omega)]
          exact hc _ _ _ (hV j hj hl)
      · by_cases hip : i ∈ pre
        · have hstep := hpre hip u w hb hdv
          have hgo : ∀ v w', Below w.heap.size w w' → (V i).p v w' → wpAny P md l.toArray Q (f + (l.length - n)) (listed.setIfInBounds i true) ((fillL a0 (l.take n) u 0).put o.dst v) w' := by
            intro v w' hb' hv
            rw [fill_put (l.take n) a0 u 0 i o hd hol]
            refine ih _ _ _ hf' (inv.set hi hin) (fun _ => ⟨hb.trans (hb'.mono hb.size), fun j hj hl => ?_⟩) (fun h => ?_)
            · by_cases hji : j = i
              · rw [hji, hupd]; exact hv
              · rw [hset, if_neg hji] at hl
                rw [hupn _ _ hji]
                exact (V j).grow _ _ _ hb' (hV j hj hl)
            · rw [hset, if_neg (by omega), hlq] at h; cases h
          unfold wpOp
          simp only [ho]
          split
          · rename_i hw
            rw [if_pos hw] at hstep
            exact .inl (relOp_wp hstep fun v w' ⟨h1, h2⟩ => hgo v w' h1 h2)
          · rename_i hw
            rw [if_neg hw] at hstep
            exact hgo _ _ (Below.refl _ _) hstep
        · obtain ⟨hc, hstep⟩ := hfree hip hiq
          have hstep := hstep u w
          unfold wpOp
          simp only [ho]
          rw [if_pos hstep.1]
          refine .inl (relOp_wp hstep.2 fun v w' ⟨hw, hv⟩ => ?_)
          subst hw
          rw [fill_put (l.take n) a0 u 0 i o hd hol]
          refine ih _ _ _ hf' (inv.set hi hin) (fun _ => ⟨hb, fun j hj hl => ?_⟩) (fun h => ?_)
          · by_cases hji : j = i
            · rw [hji, hupd]; exact hv
            · rw [hset, if_neg hji] at hl
              rw [hupn _ _ hji]
              exact hV j hj hl
          · rw [hset, if_neg (by omega), hlq] at h; cases h
    | true =>
      obtain ⟨hvq, hV⟩ := hV1 hlq
      have hiq : i ≠ q := fun h => by rw [h, hlq] at hiun'; cases hiun'
      have hip : i ∉ pre := fun h => by
        have := pre_listed hP0 inv hlq _ i rfl h
        rw [hiun'] at this
        cases this
      obtain ⟨hc, hstep⟩ := hfree hip hiq
      have hstep := hstep u w
      unfold wpOp
      simp only [ho]
      rw [if_pos hstep.1]
      refine .inl (relOp_wp hstep.2 fun v w' ⟨hw, hv⟩ => ?_)
      subst hw
      rw [fill_put (l.take n) a0 u 0 i o hd hol]
      refine ih _ _ _ hf' (inv.set hi hin) (fun h => ?_) (fun _ => ⟨by rw [hupn _ _ (by omega)]; exact hvq, fun j hj hjq hl hcj => ?_⟩)
      · rw [hset, if_neg (by omega), hlq] at h; cases h
      · by_cases hji : j = i
        · rw [hji, hupd]; exact hv
        · rw [hset, if_neg hji] at hl
          rw [hupn _ _ hji]
          exact hV j hj hjq hl hcj
def relWalkM (P : Program) (md : Region.Mode) (ops : Array Oper) (w0 : World) (pre : List Nat) (q : Nat) (fr : (Nat → Value) → Act) (fin : (Nat → Stay) → Prop) : List Oper → Nat → (Nat → Stay) → Prop
  | [], _, V => fin V
  | o :: l, k, V => ∃ s : Stay, ((k ∈ pre → ∀ (u : Nat → Value) (w : World), Below w0.heap.size w0 w → depsS md V u w o.after.toList →
        if Region.wanted o (yielded ops (fr u).tmps) = true then relOp P o (fr u) w (fun v w' => Below w.heap.size w w' ∧ s.p v w') else s.p undef w) ∧
      (k = q → ∀ (u : Nat → Value) (w : World), Below w0.heap.size w0 w → depsS md V u w o.after.toList → Region.wanted o (yielded ops (fr u).tmps) = true ∧ relOp P o (fr u) w (fun v w' => s.p v w')) ∧
      (k ∉ pre → k ≠ q → Const s ∧ ∀ (u : Nat → Value) (w : World), Region.wanted o (yielded ops (fr u).tmps) = true ∧ relOp P o (fr u) w (fun v w' => w' = w ∧ s.p v w'))) ∧ relWalkM P md ops w0 pre q fr fin l (k + 1) (updS V k s)
theorem depsS_back {V V' : Nat → Stay} {u : Nat → Value} {w : World} {k : Nat} : ∀ l : List Edge, (l.all fun e => !Region.binds md e || decide (e.on < k)) = true → (∀ j, j < k → V j = V' j) → depsS md V u w l → depsS md V' u w l
  | [], _, _, _ => trivial
  | e :: l, hb, he, h => by
    simp only [List.all_cons, Bool.and_eq_true] at hb
    refine ⟨fun hbd => ?_, depsS_back l hb.2 he h.2⟩
    have h1 := h.1 hbd
    have h2 : e.on < k := by simpa [hbd] using hb.1
    rw [← he _ h2]
    exact h1
theorem relAllM_of {ops : Array Oper} {w0 : World} {pre : List Nat} {q : Nat} {fr : (Nat → Value) → Act} {fin : (Nat → Stay) → Prop} : ∀ (l : List Oper) (k : Nat) (V : Nat → Stay), backL md l k = true → relWalkM P md ops w0 pre q fr fin l k V →
    ∃ V' : Nat → Stay, (∀ j, j < k → V' j = V j) ∧ relAllM P md ops w0 V' pre q fr l k ∧ fin V'
  | [], _, V, _, h => ⟨V, fun _ _ => rfl, trivial, h⟩
  | o :: l, k, V, hb, h => by
    obtain ⟨s, h1, h2⟩ := h
    simp only [backL, Bool.and_eq_true] at hb
    obtain ⟨V', he, ha, hf⟩ := relAllM_of l (k + 1) _ hb.2 h2
    have hE : ∀ j, j < k → V' j = V j := fun j hj => by rw [he j (by omega)]; unfold updS; rw [if_neg (by omega)]
    have hp : V' k = s := by rw [he k (by omega)]; unfold updS; rw [if_pos rfl]
    refine ⟨V', hE, ⟨⟨fun hk u w hbl hd => ?_, fun hk u w hbl hd => ?_, fun h3 h4 => ?_⟩, ha⟩, hf⟩
    · have h3 := h1.1 hk u w hbl (depsS_back _ hb.1 hE hd)
      rw [hp]
      exact h3
    · have h3 := h1.2.1 hk u w hbl (depsS_back _ hb.1 hE hd)
      rw [hp]
      exact h3
    · rw [hp]
      exact h1.2.2 h3 h4
/-- **THE THEOREM** -/
theorem wp_region_relm {id : Nat} {Q : Exit → Act → World → Prop} {a : Act} {w : World} {l : List Oper} (n q : Nat) (pre : List Nat) (hm : P.follows .mixedOrders = true) (hB : relB .any l n = true) (hL : backL .any (l.take n) 0 = true) (hq : q < n) (hP : preB .any l.toArray n q pre = true)
    (h : relWalkM P .any l.toArray w pre q (fun u => fillL a (l.take n) u 0) (fun V => ∀ (u : Nat → Value) (w' : World), (V q).p (u q) w' → (∀ j, j < n → j ≠ q → Const (V j) → (V j).p (u j) w') → wpList P l.toArray Q (l.drop n) (fillL a (l.take n) u 0) w') (l.take n) 0 (fun _ => Stay.any)) :
    (Code.region id l.toArray true).wp P Q a w := by
  obtain ⟨V, _, hall, hend⟩ := relAllM_of _ _ _ hL h
  refine wp_region_any hm ?_
  have inv0 : HeadInv .any l.toArray n (Array.replicate l.toArray.size false) :=
    ⟨by simp, fun j oj _ hl => (by rw [getD_replicate_false] at hl; cases hl), fun t _ ht => getD_in (by simpa using ht) (getD_replicate_false _ _)⟩
  have hn : n ≤ l.length := by
    simp only [relB, Bool.and_eq_true, Bool.or_eq_true, decide_eq_true_eq] at hB
    omega
  have h0 : unlisted n (Array.replicate l.toArray.size false) = n := by
    unfold unlisted
    rw [List.countP_eq_length.2]
    · simp
    · intro j _
      rw [getD_replicate_false]
      rfl
  have := wpAny_relm hB hq hP hall hend n _ (fun j => curU a (l.take n) j) { w with drawn := w.drawn + 1 } h0 inv0 (fun _ => ⟨⟨rfl, rfl, rfl, Nat.le_refl _, fun _ _ => rfl⟩, fun j _ hl => by rw [getD_replicate_false] at hl; cases hl⟩) (fun hl => by rw [getD_replicate_false] at hl; cases hl)
  rw [fill_cur a (l.take n) 0 _ (fun j => by rw [Nat.zero_add]), show n + (l.length - n) = l.toArray.size by simp; omega] at this
  exact this
section
variable {ops : Array Oper} {w0 : World} {pre : List Nat} {q : Nat} {fr : (Nat → Value) → Act} {fin : (Nat → Stay) → Prop} {o : Oper} {l : List Oper} {k : Nat} {V : Nat → Stay}
/-- before q: one known value -/
theorem relm_is {x : Value} (hk : k ≠ q) (hp : k ∈ pre)
    (h : ∀ (u : Nat → Value) (w : World), Below w0.heap.size w0 w → depsS md V u w o.after.toList → if Region.wanted o (yielded ops (fr u).tmps) = true then relOp P o (fr u) w (fun v w' => Below w.heap.size w w' ∧ v = x) else undef = x)
    (hl : relWalkM P md ops w0 pre q fr fin l (k + 1) (updS V k (Stay.is x))) : relWalkM P md ops w0 pre q fr fin (o :: l) k V :=
  ⟨Stay.is x, ⟨fun _ => h, fun e => absurd e hk, fun e => absurd hp e⟩, hl⟩
/-- before q: a property that stays -/
theorem relm_stay (s : Stay) (hk : k ≠ q) (hp : k ∈ pre)
    (h : ∀ (u : Nat → Value) (w : World), Below w0.heap.size w0 w → depsS md V u w o.after.toList → if Region.wanted o (yielded ops (fr u).tmps) = true then relOp P o (fr u) w (fun v w' => Below w.heap.size w w' ∧ s.p v w') else s.p undef w)
    (hl : relWalkM P md ops w0 pre q fr fin l (k + 1) (updS V k s)) : relWalkM P md ops w0 pre q fr fin (o :: l) k V :=
  ⟨s, ⟨fun _ => h, fun e => absurd e hk, fun e => absurd hp e⟩, hl⟩
/-- whenever it runs -/
theorem relm_free {x : Value} (hk : k ≠ q) (hp : k ∉ pre)
    (h : ∀ (u : Nat → Value) (w : World), Region.wanted o (yielded ops (fr u).tmps) = true ∧ relOp P o (fr u) w (fun v w' => w' = w ∧ v = x))
    (hl : relWalkM P md ops w0 pre q fr fin l (k + 1) (updS V k (Stay.is x))) : relWalkM P md ops w0 pre q fr fin (o :: l) k V :=
  ⟨Stay.is x, ⟨fun e => absurd e hp, fun e => absurd e hk, fun _ _ => ⟨Const.is x, h⟩⟩, hl⟩
/-- what writes -/
theorem relm_write (s : Stay) (hp : q ∉ pre)
    (h : ∀ (u : Nat → Value) (w : World), Below w0.heap.size w0 w → depsS md V u w o.after.toList → Region.wanted o (yielded ops (fr u).tmps) = true ∧ relOp P o (fr u) w (fun v w' => s.p v w'))
    (hl : relWalkM P md ops w0 pre q fr fin l (q + 1) (updS V q s)) : relWalkM P md ops w0 pre q fr fin (o :: l) q V :=
  ⟨s, ⟨fun e => absurd e hp, fun _ => h, fun _ e => absurd rfl e⟩, hl⟩
end
end
end Go.Proofs.YtgbhhjdmochhpaaDoor
namespace Go.Proofs.YtgbhhjdmochhpaaDoor
open Go Go.RowKit
set_option linter.unusedVariables false
/-- what a value is, and the blocks that it alone holds -/
structure OwnS where
  p : Value → World → Prop
  own : Value → Nat → Prop
  lt : ∀ v w b, p v w → own v b → b < w.heap.size
  stab : ∀ v w w', p v w → w.heap.size ≤ w'.heap.size → (∀ b, own v b → w'.heap[b]? = w.heap[b]?) → p v w'
def OwnS.is (x : Value) : OwnS := ⟨fun v _ => v = x, fun _ _ => False, fun _ _ _ _ h => h.elim, fun _ _ _ h _ _ => h⟩
def OwnS.any : OwnS := ⟨fun _ _ => True, fun _ _ => False, fun _ _ _ _ h => h.elim, fun _ _ _ _ _ _ => trivial⟩
/-- a row of its own -/
def OwnS.row (B : Nat) (t : TypeId) (k n : Nat) (xs : List Value) : OwnS := ⟨fun v w => w.ownsRow B t k v n xs, fun v b => v.ownBlock = some b, fun v w b h hb => (h.lt b hb).2, fun v w w' h _ hb => by
  refine ⟨h.1, ?_⟩
  rcases h.2 with h0 | ⟨g, cap, cur, rfl, h1, h2, h3⟩
  · exact .inl h0
  · exact .inr ⟨g, cap, cur, rfl, h1, by rw [hb g rfl]; exact h2, h3⟩⟩
/-- a slice that was built -/
def OwnS.built (n : Nat) (xs : Array Value) (t : TypeId) : OwnS := ⟨fun v w => ∃ g : Nat, v = .slice (some ⟨g, 0, none⟩) n n ∧ w.heap[g]? = some (.cells xs t), fun v b => v.ownBlock = some b, fun v w b ⟨g, h1, h2⟩ hb => by
  subst h1
  simp only [Value.ownBlock, Option.some.injEq] at hb
  subst hb
  exact (Array.getElem?_eq_some_iff.1 h2).1, fun v w w' ⟨g, h1, h2⟩ _ hb => ⟨g, h1, by rw [hb g (by rw [h1]; rfl)]; exact h2⟩⟩
section
variable {P : Program} {md : Region.Mode}
section
variable {ops : Array Oper} {w0 : World} {L : List (Nat × Nat)} {fr : (Nat → Value) → Act} {fin : (Nat → OwnS) → Prop} {o : Oper} {l : List Oper} {k : Nat} {V : Nat → OwnS}
theorem run_append_own2 (w : World) (base : Nat) (t ty e : TypeId) (i : TypeInfo) (z : Value) (size bytes : Nat) (ht : P.underlying t = some (.slice e)) (hi : P.info? e = some i) (hz : i.zero = some z)
    (hsize : i.size = size) (hby : i.bytes = bytes) (hzs : z.cells.size = size) (hsz : 0 < size)
    (v : Value) (n : Nat) (xs : List Value) (hown : w.ownsRow base e size v n xs)
    (oa : Option Addr) (m c : Nat) (news : List Value) (hl : news.length = m * size) (h0 : oa = none → m = 0) (hnews : ∀ ad, oa = some ad → ∀ j u, news[j]? = some u → w.cell? (ad.add j) = some u) (h1 : ∀ u ∈ news, u.oneCell' = true)
    (h63 : n + m ≤ maxLen) (hbytes : (n + m) * bytes ≤ 140737488355328) (hbase : base ≤ w.heap.size) :
    ∃ v' w', (Builtin.append_ #[t, t] ty #[v, .slice oa m c]).run P w = .ok v' w' ∧ w'.ownsRow base e size v' (n + m) (xs ++ news) ∧ w.grownBy w' v.ownBlock ∧ ∀ b, v'.ownBlock = some b → w.heap.size ≤ b ∨ v.ownBlock = some b := by
  cases oa with
  | none =>
    have hm := h0 rfl
    subst hm
    have hn : news = [] := List.eq_nil_of_length_eq_zero (by omega)
    subst hn
    exact ⟨v, w, run_append_nonil base t ty e i size ht hi v n xs hown c, by simpa using hown, ⟨rfl, rfl, rfl, Nat.le_refl _, fun _ _ _ => rfl⟩, fun b hb => .inr hb⟩
  | some ad =>
    by_cases hv : v.ownBlock = none
    · -- nothing yet: whatever comes lies above
      have hown2 : w.ownsRow w.heap.size e size v n xs := by
        refine ⟨hown.1, ?_⟩
        rcases hown.2 with h | ⟨g, cap, cur, rfl, h⟩
        · exact .inl h
        · cases hv
      obtain ⟨v', w', r1, r2, r3, -⟩ := run_append_own (P := P) w w.heap.size t ty e i z size bytes ht hi hz hsize hby hzs hsz v n xs hown2 ad m c news hl (hnews ad rfl) h1 h63 hbytes (Nat.le_refl _)
      refine ⟨v', w', r1, ⟨r2.1, ?_⟩, r3, fun b hb => .inl (r2.lt b hb).1⟩
      rcases r2.2 with h | ⟨g, cap, cur, h1, h2, h3⟩
      · exact .inl h
      · exact .inr ⟨g, cap, cur, h1, by omega, h3⟩
    · rcases hown.2 with ⟨rfl, _⟩ | ⟨g, cap, cur, rfl, hbg, hg, hnc, hcm, hcs, htake⟩
      · exact absurd rfl hv
      · obtain ⟨v', w', r1, r2, r3, -⟩ := run_append_own (P := P) w base t ty e i z size bytes ht hi hz hsize hby hzs hsz _ n xs hown ad m c news hl (hnews ad rfl) h1 h63 hbytes hbase
        refine ⟨v', w', r1, r2, r3, fun b hb => ?_⟩
        subst hsize
        subst hby
        by_cases hroom : n + m ≤ cap
        · have hfit : n * i.size + news.length ≤ cur.size := by rw [hl, hcs, ← Nat.add_mul]; exact Nat.mul_le_mul_right _ hroom
          have hr := run_append_room (P := P) w t ty e i ht hi g n cap cur hg ad m c news hl (hnews ad rfl) h1 hroom hfit
          rw [hr] at r1
          cases r1
          exact .inr hb
        · have holds : ∀ j u, xs[j]? = some u → w.cell? ((⟨g, 0, none⟩ : Addr).add j) = some u := hown.cells (g := g) rfl
          have hr := run_append_grow (P := P) w t ty e i z ht hi hz ⟨g, 0, none⟩ n cap xs hown.1 holds ad m c news hl (hnews ad rfl) (by omega) (by simp only [maxLen] at h63; omega) (growslice_fits (by omega) hbytes)
          rw [hr] at r1
          cases r1
          simp only [Value.ownBlock, Option.some.injEq] at hb
          subst hb
          exact .inl (Nat.le_refl _)
end
end
end Go.Proofs.YtgbhhjdmochhpaaDoor
namespace Go.Proofs.YtgbhhjdmochhpaaDoor
open Go Go.ChangeShapes Go.WideShapes Go.RowKit Go.ChangeAt
set_option linter.unusedVariables false
set_option linter.unusedSimpArgs false

def Stay.ownP (B n : Nat) (F : Nat → Pt) : Stay := ⟨fun v w => ∃ (o : Option Addr) (c : Nat), v = .slice o n c ∧ w.ownsRow B 37 2 (.slice o n c) n (flP F n), fun v w w' hb ⟨o, c, h1, h2⟩ => ⟨o, c, h1, ownsP_on h2 hb⟩⟩
def Stay.built1 (B n : Nat) (F : Nat → Pt) : Stay := ⟨fun v w => ∃ (g : Nat) (o : Option Addr) (c : Nat), v = .slice (some ⟨g, 0, none⟩) 1 1 ∧ w.heap[g]? = some (.cells #[.slice o n c] 22) ∧ w.ownsRow B 37 2 (.slice o n c) n (flP F n),
  fun v w w' hb ⟨g, o, c, h1, h2, h3⟩ => ⟨g, o, c, h1, (hb.block g (Array.getElem?_eq_some_iff.1 h2).1).trans h2, ownsP_on h3 hb⟩⟩
/-- what an append of a new contour leaves -/
def Stay.app1 (w0 : World) (B n j : Nat) (F : Nat → Pt) (xs : List Value) (ob : Option Nat) : Stay :=
  ⟨fun v w => ∃ (o : Option Addr) (c : Nat), w.ownsRow B 22 1 v (j + 1) (xs ++ [.slice o n c]) ∧ w.ownsRow w0.heap.size 37 2 (.slice o n c) n (flP F n) ∧ w0.grownBy w ob ∧ w0.heap.size ≤ w.heap.size ∧ (∀ b, v.ownBlock = some b → (w0.heap.size ≤ b ∨ ob = some b) ∧ (Value.slice o n c).ownBlock ≠ some b),
   fun v w w' hb ⟨o, c, h1, h2, h3, h4, h5⟩ => ⟨o, c, ownsP_on h1 hb, ownsP_on h2 hb, ⟨hb.os.trans h3.os, hb.tape.trans h3.tape, hb.output.trans h3.output, by have := hb.size; omega, fun i hi hne => (hb.block i (by omega)).trans (h3.block i hi hne)⟩, by have := hb.size; omega, h5⟩⟩
theorem owns_own_lt {w : World} {B : Nat} {t : TypeId} {k n : Nat} {v : Value} {xs : List Value} (h : w.ownsRow B t k v n xs) {b : Nat} (hb : v.ownBlock = some b) : B ≤ b ∧ b < w.heap.size := by
  obtain ⟨-, ⟨e, -⟩ | ⟨g, cap, cur, e, hg, hc, -⟩⟩ := h
  · rw [e] at hb; cases hb
  · rw [e] at hb
    simp [Value.ownBlock] at hb
    subst hb
    exact ⟨hg, (Array.getElem?_eq_some_iff.1 hc).1⟩
theorem owns_mono {w : World} {B C : Nat} {t : TypeId} {k n : Nat} {v : Value} {xs : List Value} (h : w.ownsRow C t k v n xs) (hb : B ≤ C) : w.ownsRow B t k v n xs := by
  obtain ⟨h1, ⟨h2, h3⟩ | ⟨g, cap, cur, e, hg, hc, hr⟩⟩ := h
  · exact ⟨h1, .inl ⟨h2, h3⟩⟩
  · exact ⟨h1, .inr ⟨g, cap, cur, e, by omega, hc, hr⟩⟩
theorem owns_kept {w w' : World} {B : Nat} {t : TypeId} {k n : Nat} {v : Value} {xs : List Value} (h : w.ownsRow B t k v n xs) (hh : ∀ g, v.ownBlock = some g → w'.heap[g]? = w.heap[g]?) : w'.ownsRow B t k v n xs := by
  obtain ⟨h1, ⟨h2, h3⟩ | ⟨g, cap, cur, e, hg, hc, hr⟩⟩ := h
  · exact ⟨h1, .inl ⟨h2, h3⟩⟩
  · exact ⟨h1, .inr ⟨g, cap, cur, e, hg, (hh g (by rw [e]; rfl)).trans hc, hr⟩⟩
section
variable {P : Program} {md : Region.Mode} {ops : Array Oper} {w0 : World} {pre : List Nat} {q : Nat} {fr : (Nat → Value) → Act} {fin : (Nat → Stay) → Prop} {o : Oper} {l : List Oper} {V : Nat → Stay}
theorem relm_append1 {n j : Nat} {F : Nat → Pt} (B : Nat) (s x : Operand) (t : TypeId) (hgd : o.guard = none)
    (ho : o.op = .call { callee := .builtin .append, args := #[s, x], argTypes := #[t, t] }) (i : TypeInfo) (z : Value) (xs : List Value)
    (ht : P.underlying t = some (.slice 22)) (hi : P.info? 22 = some i) (hz : i.zero = some z) (hsize : i.size = 1) (hby : i.bytes = 24) (hzs : z.cells.size = 1)
    (v0 : Value) (hp : q ∉ pre) (hown : w0.ownsRow B 22 1 v0 j xs) (hB : B ≤ w0.heap.size) (h63 : j + 1 ≤ maxLen) (hbytes : (j + 1) * 24 ≤ 140737488355328)
    (h : ∀ (u : Nat → Value) (w : World), Below w0.heap.size w0 w → depsS md V u w o.after.toList → (fr u).eval s = v0 ∧ (Stay.built1 w0.heap.size n F).p ((fr u).eval x) w)
    (hl : relWalkM P md ops w0 pre q fr fin l (q + 1) (updS V q (Stay.app1 w0 B n j F xs v0.ownBlock))) : relWalkM P md ops w0 pre q fr fin (o :: l) q V := by
  refine relm_write _ hp (fun u w hb hd => ⟨by simp [Region.wanted, hgd], ?_⟩) hl
  obtain ⟨h2, g, o', c', h3, h4, h5⟩ := h u w hb hd
  obtain ⟨v', w', r1, r2, r3, r4⟩ := run_append_own2 w B t o.type 22 i z 1 24 ht hi hz hsize hby hzs (by decide) v0 j xs (ownsP_on hown hb) (some ⟨g, 0, none⟩) 1 1 [.slice o' n c'] rfl (fun e => by cases e)
    (fun ad had k u hk => by cases had; exact built_P h4 k u hk) (fun u hu => by simp only [List.mem_cons, List.not_mem_nil, or_false] at hu; subst hu; rfl) h63 hbytes (Nat.le_trans hB hb.size)
  have hs := hb.size
  have hs' := r3.size
  have hnew : ∀ b, (Value.slice o' n c').ownBlock = some b → w0.heap.size ≤ b ∧ b < w.heap.size := fun b hb => owns_own_lt h5 hb
  have hold : ∀ b, v0.ownBlock = some b → b < w0.heap.size := fun b hb => (owns_own_lt hown hb).2
  unfold relOp execOp
  simp only [ho, resolve, invoke, builtin, Sem.run_bind, Sem.run_pure, Result.andThen_ok, List.map_toArray, List.map_cons, List.map_nil, h2, h3, r1]
  refine ⟨o', c', r2, owns_kept h5 (fun b hb => r3.block b (hnew b hb).2 (fun e => ?_)), ⟨r3.os.trans hb.os, r3.tape.trans hb.tape, r3.output.trans hb.output, by omega, fun k hk hne => (r3.block k (by omega) hne).trans (hb.block k hk)⟩, by omega, fun b hbo => ⟨(r4 b hbo).imp (fun h => by omega) id, fun e => ?_⟩⟩
  · have h6 := hold b e.symm
    have h7 := hnew b hb
    omega
  · have h7 := hnew b e
    rcases r4 b hbo with h8 | h8
    · omega
    · have := hold b h8
      omega
end
end Go.Proofs.YtgbhhjdmochhpaaDoor
