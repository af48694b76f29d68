/-
  Lemmas of this claim, joined (PlO, PlP, PlQ). Conditions: as stated. By an AI agent.
-/
import Derived.Test.YtgbhhjdmochhpaaDoorJ4
namespace Go.Proofs.YtgbhhjdmochhpaaDoor
open Go Go.ChangeShapes Go.WideShapes Go.RowKit Go.ChangeAt
set_option linter.unusedVariables false
set_option linter.unusedSimpArgs false

/-- what the reference asks of a contour's edges -/
structure Simp12 (n : Nat) (P : Nat → Pt) : Prop where
  ds : ∀ i k, k < i → i < n → P i ≠ P k
  nf : ∀ i, i < n → ¬ onS (P (nx n i)) (P (nx n (nx n i))) (P i) ∧ ¬ onS (P i) (P (nx n i)) (P (nx n (nx n i)))
  nm : ∀ i k, i < n → i + 2 ≤ k → k < n → nx n k ≠ i → ¬ meets (P i) (P (nx n i)) (P k) (P (nx n k))
noncomputable def simp12 (n : Nat) (P : Nat → Pt) : Bool := @decide (Simp12 n P) (Classical.propDecidable _)
theorem simp12_no {n : Nat} {P : Nat → Pt} (h : ¬ Simp12 n P) : simp12 n P = false := @decide_eq_false _ (Classical.propDecidable _) h
theorem simp12_yes {n : Nat} {P : Nat → Pt} (h : Simp12 n P) : simp12 n P = true := @decide_eq_true _ (Classical.propDecidable _) h
theorem simp12_of {n : Nat} {P : Nat → Pt} (h : simp12 n P = true) : Simp12 n P := @of_decide_eq_true _ (Classical.propDecidable _) h

set_option maxHeartbeats 4000000 in
set_option maxRecDepth 20000 in
theorem simple12_any (v : Value) (n : Nat) (P : Nat → Pt) (w : World) (h : PtsAt w v n P) (n3 : 3 ≤ n) (hn32 : n ≤ 32) (hnr : Hid (∀ i, i < n → nearB 32768 (P i) = true)) :
    Calls Tryd.prog 54 #[v] w fun e w' => e = .returned (.bool (simp12 n P)) ∧ Below w.heap.size w w' := by
  obtain ⟨oa, cap, rfl, hn, hc, hel⟩ := h.form
  have HEL := Lib.hid hel
  obtain ⟨R, hR⟩ : ∃ e, simp12 n P = e := ⟨_, rfl⟩
  have HR := Lib.hid hR
  rw [hR]
  clear h hel hR
  go_enter Tryd.func54, Tryd.ntmps54
  go_wp2
  go_loopw [4] (fun i wr => ∃ j : Nat, j ≤ n ∧ i = .int .i64 j ∧ Hid (∀ a b, b < a → a < j → P a ≠ P b) ∧ Below w.heap.size w wr) (fun i _ => n - (intOf i).toNat)
  case atStart => exact ⟨0, by omega, rfl, fun a b h1 h2 => absurd h2 (by omega), Below.refl _ _⟩
  case round =>
    obtain ⟨w1, rfl⟩ : ∃ x : World, x = wr := ⟨_, rfl⟩
    obtain ⟨j, hj, rfl, hq0, hB1⟩ := hrel
    have HB1r := Lib.hid hB1
    by_cases hlt : j < n
    · go_wp2
      go_loopw [5] (fun i wr => ∃ l : Nat, l ≤ j ∧ i = .int .i64 l ∧ Hid (∀ b, b < l → P j ≠ P b) ∧ Below w.heap.size w wr) (fun i _ => n - (intOf i).toNat)
      case atStart => exact ⟨0, by omega, rfl, fun b hb => absurd hb (by omega), HB1r.out⟩
      case round =>
        obtain ⟨w2, rfl⟩ : ∃ x : World, x = wr := ⟨_, rfl⟩
        obtain ⟨l, hl, rfl, hq1, hB2⟩ := hrel
        have HB2r := Lib.hid hB2
        by_cases hll : l < j
        · obtain ⟨bk1, f1, rfl, hbl1, hcl1⟩ := HEL.out j hlt
          have pa0 : w2.cell? ⟨bk1, f1 + j * 2, none⟩ = some (.int .i64 (P j).1) := (hB2.cell (p := ⟨_, _, none⟩) hbl1).trans (hcl1 j hlt).1
          have pa1 : w2.cell? ⟨bk1, f1 + j * 2 + 1, none⟩ = some (.int .i64 (P j).2) := (hB2.cell (p := ⟨_, _, none⟩) hbl1).trans (hcl1 j hlt).2
          have pb0 : w2.cell? ⟨bk1, f1 + l * 2, none⟩ = some (.int .i64 (P l).1) := (hB2.cell (p := ⟨_, _, none⟩) hbl1).trans (hcl1 l (by omega : l < n)).1
          have pb1 : w2.cell? ⟨bk1, f1 + l * 2 + 1, none⟩ = some (.int .i64 (P l).2) := (hB2.cell (p := ⟨_, _, none⟩) hbl1).trans (hcl1 l (by omega : l < n)).2
          have zb0 : bk1 < w2.heap.size := by have := hB2.size; omega
          clear hcl1
          have k0 : (0 : Int) ≤ (j : Int) := by omega
          have k1 : (j : Int) < (n : Int) := by omega
          have k2 : (0 : Int) ≤ (l : Int) := by omega
          have k3 : (l : Int) < (n : Int) := by omega
          obtain ⟨a1, ha1⟩ : ∃ e, (P j).1 = e := ⟨_, rfl⟩
          obtain ⟨a2, ha2⟩ : ∃ e, (P j).2 = e := ⟨_, rfl⟩
          obtain ⟨b1, hb1⟩ : ∃ e, (P l).1 = e := ⟨_, rfl⟩
          obtain ⟨b2, hb2⟩ : ∃ e, (P l).2 = e := ⟨_, rfl⟩
          rw [ha1] at pa0
          rw [ha2] at pa1
          rw [hb1] at pb0
          rw [hb2] at pb1
          have qp := fun W => eql_point a1 a2 b1 b2 W
          have HAB : Hid (P j = (a1, a2) ∧ P l = (b1, b2)) := ⟨Prod.ext ha1 ha2, Prod.ext hb1 hb2⟩
          clear ha1 ha2 hb1 hb2
          by_cases hE : (a1, a2) = (b1, b2)
          · have hd : decide ((a1, a2) = (b1, b2)) = true := decide_eq_true hE
            have HR0 : Hid (R = false) := by
              show _ = _
              rw [← HR.out]
              exact simp12_no fun hs => hs.ds j l hll hlt (by rw [HAB.out.1, HAB.out.2]; exact hE)
            simp only [hd] at qp
            clear hd hE
            go_wp2_with fail
            refine wp_region_relw 9 (by kernel_rfl) (by kernel_rfl) (by kernel_rfl) ?_
            simp only [List.take_succ_cons, List.take_zero, fillL, Act.put, List.setIfInBounds_toArray, List.set_cons_zero, List.set_cons_succ]
            iterate 9
              apply rel_is
              · intro u wx hb hd
                have hz := hb.size
                (try simp only [World.size_alloc, World.size_setCell] at hz)
                have hz0 : bk1 < wx.heap.size := by omega
                obtain ⟨hc, hf⟩ := bcell hb
                have HBX := Lib.hid hb
                clear hb hz
                simp [depsS, Region.binds, updS, Stay.is, Stay.any] at hd
                go_simp
                first | exact ⟨Below.refl _ _, rfl⟩ | rfl
            intro u w3 hb hE
            have e0 : u 0 = _ := endS_get hE 0 (by decide)
            have e1 : u 1 = _ := endS_get hE 1 (by decide)
            have e2 : u 2 = _ := endS_get hE 2 (by decide)
            have e3 : u 3 = _ := endS_get hE 3 (by decide)
            have e4 : u 4 = _ := endS_get hE 4 (by decide)
            have e5 : u 5 = _ := endS_get hE 5 (by decide)
            have e6 : u 6 = _ := endS_get hE 6 (by decide)
            have e7 : u 7 = _ := endS_get hE 7 (by decide)
            have e8 : u 8 = _ := endS_get hE 8 (by decide)
            simp only [List.drop_succ_cons, List.drop_zero, List.take_succ_cons, List.take_zero, fillL, Act.put, List.setIfInBounds_toArray, List.set_cons_zero, List.set_cons_succ, e0, e1, e2, e3, e4, e5, e6, e7, e8]
            clear e0 e1 e2 e3 e4 e5 e6 e7 e8 hE
            have HBw3 := Lib.hid (below_step (w := w2) (by first | assumption | go_grown) hb)
            have HBXw3 := Lib.hid hb
            have hzw3 := hb.size
            (try simp only [World.size_alloc, World.size_setCell] at hzw3)
            have hzw30 : bk1 < w3.heap.size := by omega
            obtain ⟨hcw3, hfw3⟩ := bcell hb
            clear hb hzw3
            go_wp2
            go_returns
            rw [HR0.out]
            exact ⟨rfl, below_step HB2r.out HBXw3.out⟩
          · have hd : decide ((a1, a2) = (b1, b2)) = false := decide_eq_false hE
            have hq2 : Hid (∀ b, b < l + 1 → P j ≠ P b) := fun b hb => by
              by_cases e : b = l
              · rw [e, HAB.out.1, HAB.out.2]; exact hE
              · exact hq1.out b (by omega)
            simp only [hd] at qp
            clear hd hE
            go_wp2_with fail
            refine wp_region_relw 9 (by kernel_rfl) (by kernel_rfl) (by kernel_rfl) ?_
            simp only [List.take_succ_cons, List.take_zero, fillL, Act.put, List.setIfInBounds_toArray, List.set_cons_zero, List.set_cons_succ]
            iterate 9
              apply rel_is
              · intro u wx hb hd
                have hz := hb.size
                (try simp only [World.size_alloc, World.size_setCell] at hz)
                have hz0 : bk1 < wx.heap.size := by omega
                obtain ⟨hc, hf⟩ := bcell hb
                have HBX := Lib.hid hb
                clear hb hz
                simp [depsS, Region.binds, updS, Stay.is, Stay.any] at hd
                go_simp
                first | exact ⟨Below.refl _ _, rfl⟩ | rfl
            intro u w3 hb hE
            have e0 : u 0 = _ := endS_get hE 0 (by decide)
            have e1 : u 1 = _ := endS_get hE 1 (by decide)
            have e2 : u 2 = _ := endS_get hE 2 (by decide)
            have e3 : u 3 = _ := endS_get hE 3 (by decide)
            have e4 : u 4 = _ := endS_get hE 4 (by decide)
            have e5 : u 5 = _ := endS_get hE 5 (by decide)
            have e6 : u 6 = _ := endS_get hE 6 (by decide)
            have e7 : u 7 = _ := endS_get hE 7 (by decide)
            have e8 : u 8 = _ := endS_get hE 8 (by decide)
            simp only [List.drop_succ_cons, List.drop_zero, List.take_succ_cons, List.take_zero, fillL, Act.put, List.setIfInBounds_toArray, List.set_cons_zero, List.set_cons_succ, e0, e1, e2, e3, e4, e5, e6, e7, e8]
            clear e0 e1 e2 e3 e4 e5 e6 e7 e8 hE
            have HBw3 := Lib.hid (below_step (w := w2) (by first | assumption | go_grown) hb)
            have HBXw3 := Lib.hid hb
            have hzw3 := hb.size
            (try simp only [World.size_alloc, World.size_setCell] at hzw3)
            have hzw30 : bk1 < w3.heap.size := by omega
            obtain ⟨hcw3, hfw3⟩ := bcell hb
            clear hb hzw3
            have HB3 := Lib.hid (below_step HB2r.out HBXw3.out)
            go_wp2
            go_roundw
            case rel => exact ⟨l + 1, by omega, by go_num, hq2, HB3.out⟩
            case measure => simp [intOf]; omega
        · have hq3 : Hid (∀ a b, b < a → a < j + 1 → P a ≠ P b) := fun a b h1 h2 => by
            by_cases e : a = j
            · rw [e]; exact hq1.out b (by omega)
            · exact hq0.out a b h1 (by omega)
          go_wp2
          go_roundw
          case rel => exact ⟨j + 1, by omega, by go_num, hq3, HB2r.out⟩
          case measure => simp [intOf]; omega
    · have HDS : Hid (∀ a b, b < a → a < n → P a ≠ P b) := fun a b h1 h2 => hq0.out a b h1 (by omega)
      have HB1z := HB1r
      clear HB1r hB1 hq0
      go_wp2
      go_loopw [6] (fun i wr => ∃ j : Nat, j ≤ n ∧ i = .int .i64 j ∧ Hid (∀ i, i < j → (¬ onS (P (nx n i)) (P (nx n (nx n i))) (P i) ∧ ¬ onS (P i) (P (nx n i)) (P (nx n (nx n i)))) ∧ ∀ k, i + 2 ≤ k → k < n → nx n k ≠ i → ¬ meets (P i) (P (nx n i)) (P k) (P (nx n k))) ∧ Below w.heap.size w wr) (fun i _ => n - (intOf i).toNat)
      case atStart => exact ⟨0, by omega, rfl, fun i hi => absurd hi (by omega), HB1z.out⟩
      case round =>
        obtain ⟨w1, rfl⟩ : ∃ x : World, x = wr := ⟨_, rfl⟩
        obtain ⟨j, hj, rfl, hq4, hB1⟩ := hrel
        have HB1r := Lib.hid hB1
        by_cases hlt : j < n
        · obtain ⟨bk1, f1, rfl, hbl1, hcl1⟩ := HEL.out j hlt
          obtain ⟨J1, hJ1⟩ : ∃ e, (j : Int) + 1 = e := ⟨_, rfl⟩
          obtain ⟨q, hq⟩ : ∃ q, nx n j = q := ⟨_, rfl⟩
          have qn : q < n := by rw [← hq]; exact nx_lt (by omega)
          have i1 : IntKind.i64.wrap ((j : Int) + 1) = J1 := by rw [hJ1]; exact IntWalk.i64_in _ (by omega)
          have i2 : J1.tmod (n : Int) = (q : Int) := by rw [← hJ1, ← hq]; exact nx_mod hlt
          have i3 : IntKind.i64.wrap (q : Int) = (q : Int) := IntWalk.i64_in _ (by omega)
          have i4 : ((n : Int) == 0) = false := by simp; omega
          have i0 : ¬ n = 0 := by omega
          have i5 : (0 : Int) ≤ (q : Int) := by omega
          have i6 : (q : Int) < (n : Int) := by omega
          have i7 : IntKind.i64.wrap (J1.tmod (n : Int)) = (q : Int) := by rw [i2]; exact i3
          have HJ1 := Lib.hid hJ1
          have Hq := Lib.hid hq
          have i8 : (0 : Int) ≤ (j : Int) := by omega
          have i9 : (j : Int) < (n : Int) := by omega
          clear hJ1 hq
          obtain ⟨J2, hJ2⟩ : ∃ e, (j : Int) + 2 = e := ⟨_, rfl⟩
          obtain ⟨r, hr⟩ : ∃ r, nx n q = r := ⟨_, rfl⟩
          have rn : r < n := by rw [← hr]; exact nx_lt (by omega)
          have y1 : IntKind.i64.wrap ((j : Int) + 2) = J2 := by rw [hJ2]; exact IntWalk.i64_in _ (by omega)
          have y2 : J2.tmod (n : Int) = (r : Int) := by rw [← hJ2, ← hr, ← Hq.out]; exact nx_mod2 hlt n3
          have y3 : IntKind.i64.wrap (r : Int) = (r : Int) := IntWalk.i64_in _ (by omega)
          have y5 : (0 : Int) ≤ (r : Int) := by omega
          have y6 : (r : Int) < (n : Int) := by omega
          have y7 : IntKind.i64.wrap (J2.tmod (n : Int)) = (r : Int) := by rw [y2]; exact y3
          have Hr := Lib.hid hr
          have HJ2 := Lib.hid hJ2
          clear hr hJ2
          have HN := Lib.hid (near_nr (hnr.out j hlt))
          have HNq := Lib.hid (near_nr (hnr.out q qn))
          have HNr := Lib.hid (near_nr (hnr.out r rn))
          have pa0 : w1.cell? ⟨bk1, f1 + j * 2, none⟩ = some (.int .i64 (P j).1) := (hB1.cell (p := ⟨_, _, none⟩) hbl1).trans (hcl1 j hlt).1
          have pa1 : w1.cell? ⟨bk1, f1 + j * 2 + 1, none⟩ = some (.int .i64 (P j).2) := (hB1.cell (p := ⟨_, _, none⟩) hbl1).trans (hcl1 j hlt).2
          have pb0 : w1.cell? ⟨bk1, f1 + q * 2, none⟩ = some (.int .i64 (P q).1) := (hB1.cell (p := ⟨_, _, none⟩) hbl1).trans (hcl1 q qn).1
          have pb1 : w1.cell? ⟨bk1, f1 + q * 2 + 1, none⟩ = some (.int .i64 (P q).2) := (hB1.cell (p := ⟨_, _, none⟩) hbl1).trans (hcl1 q qn).2
          have pc0 : w1.cell? ⟨bk1, f1 + r * 2, none⟩ = some (.int .i64 (P r).1) := (hB1.cell (p := ⟨_, _, none⟩) hbl1).trans (hcl1 r rn).1
          have pc1 : w1.cell? ⟨bk1, f1 + r * 2 + 1, none⟩ = some (.int .i64 (P r).2) := (hB1.cell (p := ⟨_, _, none⟩) hbl1).trans (hcl1 r rn).2
          have zb0 : bk1 < w1.heap.size := by have := hB1.size; omega
          have HCL1 := Lib.hid hcl1
          clear hcl1
          obtain ⟨o1, ho1⟩ : ∃ e, decide (onS (P q) (P r) (P j)) = e := ⟨_, rfl⟩
          obtain ⟨o2, ho2⟩ : ∃ e, decide (onS (P j) (P q) (P r)) = e := ⟨_, rfl⟩
          have HO1 : Hid (∀ W, Calls Tryd.prog 57 #[.agg #[.int .i64 (P j).1, .int .i64 (P j).2], .agg #[.int .i64 (P q).1, .int .i64 (P q).2], .agg #[.int .i64 (P r).1, .int .i64 (P r).2]] W (fun e w' => e = .returned (.bool o1) ∧ Below W.heap.size W w')) := fun W => by rw [← ho1]; exact on12_any _ _ _ _ _ _ W HNq.out HNr.out HN.out
          have HO2 : Hid (∀ W, Calls Tryd.prog 57 #[.agg #[.int .i64 (P r).1, .int .i64 (P r).2], .agg #[.int .i64 (P j).1, .int .i64 (P j).2], .agg #[.int .i64 (P q).1, .int .i64 (P q).2]] W (fun e w' => e = .returned (.bool o2) ∧ Below W.heap.size W w')) := fun W => by rw [← ho2]; exact on12_any _ _ _ _ _ _ W HN.out HNq.out HNr.out
          have HOO := Lib.hid (And.intro ho1 ho2)
          clear ho1 ho2
          obtain ⟨a1, ha1⟩ : ∃ e, (P j).1 = e := ⟨_, rfl⟩
          obtain ⟨a2, ha2⟩ : ∃ e, (P j).2 = e := ⟨_, rfl⟩
          obtain ⟨b1, hb1⟩ : ∃ e, (P q).1 = e := ⟨_, rfl⟩
          obtain ⟨b2, hb2⟩ : ∃ e, (P q).2 = e := ⟨_, rfl⟩
          obtain ⟨c1, hc1⟩ : ∃ e, (P r).1 = e := ⟨_, rfl⟩
          obtain ⟨c2, hc2⟩ : ∃ e, (P r).2 = e := ⟨_, rfl⟩
          rw [ha1, ha2, hb1, hb2, hc1, hc2] at HO1 HO2
          rw [ha1] at pa0
          rw [ha2] at pa1
          rw [hb1] at pb0
          rw [hb2] at pb1
          rw [hc1] at pc0
          rw [hc2] at pc1
          have HAB := Lib.hid (And.intro ha1 (And.intro ha2 (And.intro hb1 hb2)))
          clear ha1 ha2 hb1 hb2 hc1 hc2
          go_wp2_with fail
          refine wp_region_seq 24 [⟨18, 21, #[.int .i64 0, .int .i64 0], 37⟩, ⟨19, 22, #[.int .i64 0, .int .i64 0], 37⟩, ⟨20, 23, #[.int .i64 0, .int .i64 0], 37⟩] [] (by kernel_rfl) (by kernel_rfl) (by kernel_rfl) (by kernel_rfl) (by kernel_rfl) ?_ ?_ ?_
          · intro r hr; cases hr
          · intro r hr; cases hr
          simp only [List.take_succ_cons, List.take_zero, fillL, Act.put, List.setIfInBounds_toArray, List.set_cons_zero, List.set_cons_succ]
          apply seq_is (by kernel_rfl)
          · intro u wx hb hd
            replace hb := hb.nil
            have hz := hb.size
            (try simp only [World.size_alloc, World.size_setCell] at hz)
            have hz0 : bk1 < wx.heap.size := by omega
            obtain ⟨hc, hf⟩ := bcell hb
            clear hb hz
            simp [depsE, Region.binds, updE, kindOf, Prp.is, Prp.any] at hd
            go_simp
            first | exact ⟨Below.refl _ _, rfl⟩ | rfl
          apply seq_is (by kernel_rfl)
          · intro u wx hb hd
            replace hb := hb.nil
            have hz := hb.size
            (try simp only [World.size_alloc, World.size_setCell] at hz)
            have hz0 : bk1 < wx.heap.size := by omega
            obtain ⟨hc, hf⟩ := bcell hb
            clear hb hz
            simp [depsE, Region.binds, updE, kindOf, Prp.is, Prp.any] at hd
            go_simp
            first | exact ⟨Below.refl _ _, rfl⟩ | rfl
          apply seq_is (by kernel_rfl)
          · intro u wx hb hd
            replace hb := hb.nil
            have hz := hb.size
            (try simp only [World.size_alloc, World.size_setCell] at hz)
            have hz0 : bk1 < wx.heap.size := by omega
            obtain ⟨hc, hf⟩ := bcell hb
            clear hb hz
            simp [depsE, Region.binds, updE, kindOf, Prp.is, Prp.any] at hd
            go_simp
            first | exact ⟨Below.refl _ _, rfl⟩ | rfl
          apply seq_is (by kernel_rfl)
          · intro u wx hb hd
            replace hb := hb.nil
            have hz := hb.size
            (try simp only [World.size_alloc, World.size_setCell] at hz)
            have hz0 : bk1 < wx.heap.size := by omega
            obtain ⟨hc, hf⟩ := bcell hb
            clear hb hz
            simp [depsE, Region.binds, updE, kindOf, Prp.is, Prp.any] at hd
            go_simp
            first | exact ⟨Below.refl _ _, rfl⟩ | rfl
          apply seq_is (by kernel_rfl)
          · intro u wx hb hd
            replace hb := hb.nil
            have hz := hb.size
            (try simp only [World.size_alloc, World.size_setCell] at hz)
            have hz0 : bk1 < wx.heap.size := by omega
            obtain ⟨hc, hf⟩ := bcell hb
            clear hb hz
            simp [depsE, Region.binds, updE, kindOf, Prp.is, Prp.any] at hd
            go_simp
            first | exact ⟨Below.refl _ _, rfl⟩ | rfl
          apply seq_is (by kernel_rfl)
          · intro u wx hb hd
            replace hb := hb.nil
            have hz := hb.size
            (try simp only [World.size_alloc, World.size_setCell] at hz)
            have hz0 : bk1 < wx.heap.size := by omega
            obtain ⟨hc, hf⟩ := bcell hb
            clear hb hz
            simp [depsE, Region.binds, updE, kindOf, Prp.is, Prp.any] at hd
            go_simp
            first | exact ⟨Below.refl _ _, rfl⟩ | rfl
          apply seq_is (by kernel_rfl)
          · intro u wx hb hd
            replace hb := hb.nil
            have hz := hb.size
            (try simp only [World.size_alloc, World.size_setCell] at hz)
            have hz0 : bk1 < wx.heap.size := by omega
            obtain ⟨hc, hf⟩ := bcell hb
            clear hb hz
            simp [depsE, Region.binds, updE, kindOf, Prp.is, Prp.any] at hd
            go_simp
            first | exact ⟨Below.refl _ _, rfl⟩ | rfl
          apply seq_is (by kernel_rfl)
          · intro u wx hb hd
            replace hb := hb.nil
            have hz := hb.size
            (try simp only [World.size_alloc, World.size_setCell] at hz)
            have hz0 : bk1 < wx.heap.size := by omega
            obtain ⟨hc, hf⟩ := bcell hb
            clear hb hz
            simp [depsE, Region.binds, updE, kindOf, Prp.is, Prp.any] at hd
            go_simp
            first | exact ⟨Below.refl _ _, rfl⟩ | rfl
          apply seq_is (by kernel_rfl)
          · intro u wx hb hd
            replace hb := hb.nil
            have hz := hb.size
            (try simp only [World.size_alloc, World.size_setCell] at hz)
            have hz0 : bk1 < wx.heap.size := by omega
            obtain ⟨hc, hf⟩ := bcell hb
            clear hb hz
            simp [depsE, Region.binds, updE, kindOf, Prp.is, Prp.any] at hd
            go_simp
            first | exact ⟨Below.refl _ _, rfl⟩ | rfl
          apply seq_is (by kernel_rfl)
          · intro u wx hb hd
            replace hb := hb.nil
            have hz := hb.size
            (try simp only [World.size_alloc, World.size_setCell] at hz)
            have hz0 : bk1 < wx.heap.size := by omega
            obtain ⟨hc, hf⟩ := bcell hb
            clear hb hz
            simp [depsE, Region.binds, updE, kindOf, Prp.is, Prp.any] at hd
            go_simp
            first | exact ⟨Below.refl _ _, rfl⟩ | rfl
          apply seq_is (by kernel_rfl)
          · intro u wx hb hd
            replace hb := hb.nil
            have hz := hb.size
            (try simp only [World.size_alloc, World.size_setCell] at hz)
            have hz0 : bk1 < wx.heap.size := by omega
            obtain ⟨hc, hf⟩ := bcell hb
            clear hb hz
            simp [depsE, Region.binds, updE, kindOf, Prp.is, Prp.any] at hd
            go_simp
            first | exact ⟨Below.refl _ _, rfl⟩ | rfl
          apply seq_is (by kernel_rfl)
          · intro u wx hb hd
            replace hb := hb.nil
            have hz := hb.size
            (try simp only [World.size_alloc, World.size_setCell] at hz)
            have hz0 : bk1 < wx.heap.size := by omega
            obtain ⟨hc, hf⟩ := bcell hb
            clear hb hz
            simp [depsE, Region.binds, updE, kindOf, Prp.is, Prp.any] at hd
            go_simp
            first | exact ⟨Below.refl _ _, rfl⟩ | rfl
          apply seq_is (by kernel_rfl)
          · intro u wx hb hd
            replace hb := hb.nil
            have hz := hb.size
            (try simp only [World.size_alloc, World.size_setCell] at hz)
            have hz0 : bk1 < wx.heap.size := by omega
            obtain ⟨hc, hf⟩ := bcell hb
            clear hb hz
            simp [depsE, Region.binds, updE, kindOf, Prp.is, Prp.any] at hd
            go_simp
            first | exact ⟨Below.refl _ _, rfl⟩ | rfl
          apply seq_is (by kernel_rfl)
          · intro u wx hb hd
            replace hb := hb.nil
            have hz := hb.size
            (try simp only [World.size_alloc, World.size_setCell] at hz)
            have hz0 : bk1 < wx.heap.size := by omega
            obtain ⟨hc, hf⟩ := bcell hb
            clear hb hz
            simp [depsE, Region.binds, updE, kindOf, Prp.is, Prp.any] at hd
            go_simp
            first | exact ⟨Below.refl _ _, rfl⟩ | rfl
          apply seq_is (by kernel_rfl)
          · intro u wx hb hd
            replace hb := hb.nil
            have hz := hb.size
            (try simp only [World.size_alloc, World.size_setCell] at hz)
            have hz0 : bk1 < wx.heap.size := by omega
            obtain ⟨hc, hf⟩ := bcell hb
            clear hb hz
            simp [depsE, Region.binds, updE, kindOf, Prp.is, Prp.any] at hd
            go_simp
            first | exact ⟨Below.refl _ _, rfl⟩ | rfl
          apply seq_is (by kernel_rfl)
          · intro u wx hb hd
            replace hb := hb.nil
            have hz := hb.size
            (try simp only [World.size_alloc, World.size_setCell] at hz)
            have hz0 : bk1 < wx.heap.size := by omega
            obtain ⟨hc, hf⟩ := bcell hb
            clear hb hz
            simp [depsE, Region.binds, updE, kindOf, Prp.is, Prp.any] at hd
            go_simp
            first | exact ⟨Below.refl _ _, rfl⟩ | rfl
          apply seq_is (by kernel_rfl)
          · intro u wx hb hd
            replace hb := hb.nil
            have hz := hb.size
            (try simp only [World.size_alloc, World.size_setCell] at hz)
            have hz0 : bk1 < wx.heap.size := by omega
            obtain ⟨hc, hf⟩ := bcell hb
            clear hb hz
            simp [depsE, Region.binds, updE, kindOf, Prp.is, Prp.any] at hd
            go_simp
            first | exact ⟨Below.refl _ _, rfl⟩ | rfl
          apply seq_is (by kernel_rfl)
          · intro u wx hb hd
            replace hb := hb.nil
            have hz := hb.size
            (try simp only [World.size_alloc, World.size_setCell] at hz)
            have hz0 : bk1 < wx.heap.size := by omega
            obtain ⟨hc, hf⟩ := bcell hb
            clear hb hz
            simp [depsE, Region.binds, updE, kindOf, Prp.is, Prp.any] at hd
            go_simp
            first | exact ⟨Below.refl _ _, rfl⟩ | rfl
          refine seq_var ⟨18, 21, #[.int .i64 0, .int .i64 0], 37⟩ (by simp) rfl ?_ ?_
          · intro u wx hb
            refine ⟨by simp [Region.wanted], ?_⟩
            go_simp
            first | done | rfl | exact ⟨rfl, rfl⟩
          refine seq_var ⟨19, 22, #[.int .i64 0, .int .i64 0], 37⟩ (by simp) rfl ?_ ?_
          · intro u wx hb
            refine ⟨by simp [Region.wanted], ?_⟩
            go_simp
            first | done | rfl | exact ⟨rfl, rfl⟩
          refine seq_var ⟨20, 23, #[.int .i64 0, .int .i64 0], 37⟩ (by simp) rfl ?_ ?_
          · intro u wx hb
            refine ⟨by simp [Region.wanted], ?_⟩
            go_simp
            first | done | rfl | exact ⟨rfl, rfl⟩
          apply seq_sto_agg ⟨18, 21, #[.int .i64 0, .int .i64 0], 37⟩ (by simp) rfl (by kernel_rfl) rfl (by kernel_rfl)
          · intro u wx hb hd
            replace hb := hb.nil
            have hz := hb.size
            (try simp only [World.size_alloc, World.size_setCell] at hz)
            have hz0 : bk1 < wx.heap.size := by omega
            obtain ⟨hc, hf⟩ := bcell hb
            clear hb hz
            simp [depsE, Region.binds, updE, kindOf, Prp.is, Prp.any] at hd
            refine ⟨by simp [Region.wanted], fun b' hub hlb hcells => ?_⟩
            have hub' : u 18 = .pointer (some ⟨b', 0, none⟩) := hub
            have hcells' : wx.heap[b']? = some (.cells #[.int .i64 0, .int .i64 0] 37) := hcells
            have hat := cells_at2 hcells'
            have HCL := Lib.hid hcells'
            clear hcells hcells' hub
            go_simp
            exact Stored.c2 HCL.out _ _
          apply seq_sto_agg ⟨19, 22, #[.int .i64 0, .int .i64 0], 37⟩ (by simp) rfl (by kernel_rfl) rfl (by kernel_rfl)
          · intro u wx hb hd
            replace hb := hb.nil
            have hz := hb.size
            (try simp only [World.size_alloc, World.size_setCell] at hz)
            have hz0 : bk1 < wx.heap.size := by omega
            obtain ⟨hc, hf⟩ := bcell hb
            clear hb hz
            simp [depsE, Region.binds, updE, kindOf, Prp.is, Prp.any] at hd
            refine ⟨by simp [Region.wanted], fun b' hub hlb hcells => ?_⟩
            have hub' : u 19 = .pointer (some ⟨b', 0, none⟩) := hub
            have hcells' : wx.heap[b']? = some (.cells #[.int .i64 0, .int .i64 0] 37) := hcells
            have hat := cells_at2 hcells'
            have HCL := Lib.hid hcells'
            clear hcells hcells' hub
            go_simp
            exact Stored.c2 HCL.out _ _
          apply seq_sto_agg ⟨20, 23, #[.int .i64 0, .int .i64 0], 37⟩ (by simp) rfl (by kernel_rfl) rfl (by kernel_rfl)
          · intro u wx hb hd
            replace hb := hb.nil
            have hz := hb.size
            (try simp only [World.size_alloc, World.size_setCell] at hz)
            have hz0 : bk1 < wx.heap.size := by omega
            obtain ⟨hc, hf⟩ := bcell hb
            clear hb hz
            simp [depsE, Region.binds, updE, kindOf, Prp.is, Prp.any] at hd
            refine ⟨by simp [Region.wanted], fun b' hub hlb hcells => ?_⟩
            have hub' : u 20 = .pointer (some ⟨b', 0, none⟩) := hub
            have hcells' : wx.heap[b']? = some (.cells #[.int .i64 0, .int .i64 0] 37) := hcells
            have hat := cells_at2 hcells'
            have HCL := Lib.hid hcells'
            clear hcells hcells' hub
            go_simp
            exact Stored.c2 HCL.out _ _
          intro u w5 hb hE hV hP
          replace hb := hb.nil
          clear hP
          have e0 : u 0 = _ := endE_get hE 0 (by decide) (by simp [kindOf])
          have e1 : u 1 = _ := endE_get hE 1 (by decide) (by simp [kindOf])
          have e2 : u 2 = _ := endE_get hE 2 (by decide) (by simp [kindOf])
          have e3 : u 3 = _ := endE_get hE 3 (by decide) (by simp [kindOf])
          have e4 : u 4 = _ := endE_get hE 4 (by decide) (by simp [kindOf])
          have e5 : u 5 = _ := endE_get hE 5 (by decide) (by simp [kindOf])
          have e6 : u 6 = _ := endE_get hE 6 (by decide) (by simp [kindOf])
          have e7 : u 7 = _ := endE_get hE 7 (by decide) (by simp [kindOf])
          have e8 : u 8 = _ := endE_get hE 8 (by decide) (by simp [kindOf])
          have e9 : u 9 = _ := endE_get hE 9 (by decide) (by simp [kindOf])
          have e10 : u 10 = _ := endE_get hE 10 (by decide) (by simp [kindOf])
          have e11 : u 11 = _ := endE_get hE 11 (by decide) (by simp [kindOf])
          have e12 : u 12 = _ := endE_get hE 12 (by decide) (by simp [kindOf])
          have e13 : u 13 = _ := endE_get hE 13 (by decide) (by simp [kindOf])
          have e14 : u 14 = _ := endE_get hE 14 (by decide) (by simp [kindOf])
          have e15 : u 15 = _ := endE_get hE 15 (by decide) (by simp [kindOf])
          have e16 : u 16 = _ := endE_get hE 16 (by decide) (by simp [kindOf])
          have e17 : u 17 = _ := endE_get hE 17 (by decide) (by simp [kindOf])
          have e21 : u 21 = _ := endE_get hE 21 (by decide) (by simp [kindOf])
          have e22 : u 22 = _ := endE_get hE 22 (by decide) (by simp [kindOf])
          have e23 : u 23 = _ := endE_get hE 23 (by decide) (by simp [kindOf])
          obtain ⟨⟨VA, pv0, lv0, qv0⟩, ⟨nq01, nq02, -⟩, ⟨⟨VB, pv1, lv1, qv1⟩, ⟨nq12, -⟩, ⟨⟨VC, pv2, lv2, qv2⟩, -, -⟩⟩⟩ := hV
          replace qv0 : w5.heap[VA]? = some (.cells (u 21).cells 37) := qv0
          rw [e21] at qv0
          replace pv0 : u 18 = .pointer (some ⟨VA, 0, none⟩) := pv0
          obtain ⟨mVA0, mVA1, mfVA, msVA⟩ := cells_at2 qv0
          have HQVA := Lib.hid qv0
          clear qv0
          replace qv1 : w5.heap[VB]? = some (.cells (u 22).cells 37) := qv1
          rw [e22] at qv1
          replace pv1 : u 19 = .pointer (some ⟨VB, 0, none⟩) := pv1
          obtain ⟨mVB0, mVB1, mfVB, msVB⟩ := cells_at2 qv1
          have HQVB := Lib.hid qv1
          clear qv1
          replace qv2 : w5.heap[VC]? = some (.cells (u 23).cells 37) := qv2
          rw [e23] at qv2
          replace pv2 : u 20 = .pointer (some ⟨VC, 0, none⟩) := pv2
          obtain ⟨mVC0, mVC1, mfVC, msVC⟩ := cells_at2 qv2
          have HQVC := Lib.hid qv2
          clear qv2
          have dVAVB : VA ≠ VB := fun e => nq01 (by show u _ = u _; rw [pv0, pv1, e])
          clear nq01
          have dVAVC : VA ≠ VC := fun e => nq02 (by show u _ = u _; rw [pv0, pv2, e])
          clear nq02
          have dVBVC : VB ≠ VC := fun e => nq12 (by show u _ = u _; rw [pv1, pv2, e])
          clear nq12
          (try simp only [World.size_alloc, World.size_setCell] at lv0)
          have dVAw50 : VA ≠ bk1 := by omega
          (try have lbVA : w1.heap.size ≤ VA := by omega)
          clear lv0
          (try simp only [World.size_alloc, World.size_setCell] at lv1)
          have dVBw50 : VB ≠ bk1 := by omega
          (try have lbVB : w1.heap.size ≤ VB := by omega)
          clear lv1
          (try simp only [World.size_alloc, World.size_setCell] at lv2)
          have dVCw50 : VC ≠ bk1 := by omega
          (try have lbVC : w1.heap.size ≤ VC := by omega)
          clear lv2
          simp only [List.drop_succ_cons, List.drop_zero, List.take_succ_cons, List.take_zero, fillL, Act.put, List.setIfInBounds_toArray, List.set_cons_zero, List.set_cons_succ, e0, e1, e2, e3, e4, e5, e6, e7, e8, e9, e10, e11, e12, e13, e14, e15, e16, e17, e21, e22, e23, pv0, pv1, pv2]
          clear e0 e1 e2 e3 e4 e5 e6 e7 e8 e9 e10 e11 e12 e13 e14 e15 e16 e17 e21 e22 e23 pv0 pv1 pv2 hE
          have HBWw5 := Lib.hid hb
          have hw5 := below_step (w := w1) (by first | assumption | go_grown) hb
          have hzw5 := hb.size
          (try simp only [World.size_alloc, World.size_setCell] at hzw5)
          have hzw50 : bk1 < w5.heap.size := by omega
          have HHw5 := Lib.hid hb.block
          obtain ⟨hcw5, hfw5⟩ := bcell hb
          clear hb hzw5
          have HB5 := Lib.hid (below_step HB1r.out HBWw5.out)
          have zb5 : bk1 < w5.heap.size := by have := HBWw5.out.size; omega
          clear pa0 pa1 pb0 pb1 pc0 pc1
          (try clear hcw5 hfw5)
          go_wp2_with fail
          (go_at_call 57; refine (HO1.out _).mono ?_; rintro e_ w6 ⟨rfl, hb6⟩)
          have zw6 := hb6.size
          have KA : w6.heap[VA]? = some (.cells #[.int .i64 a1, .int .i64 a2] 37) := (hb6.block VA (by omega)).trans HQVA.out
          have KB : w6.heap[VB]? = some (.cells #[.int .i64 b1, .int .i64 b2] 37) := (hb6.block VB (by omega)).trans HQVB.out
          have KC : w6.heap[VC]? = some (.cells #[.int .i64 c1, .int .i64 c2] 37) := (hb6.block VC (by omega)).trans HQVC.out
          obtain ⟨xA0w6, xA1w6, xAfw6, xAzw6⟩ := cells_at2 KA
          have HKA := Lib.hid KA
          clear KA
          obtain ⟨xB0w6, xB1w6, xBfw6, xBzw6⟩ := cells_at2 KB
          have HKB := Lib.hid KB
          clear KB
          obtain ⟨xC0w6, xC1w6, xCfw6, xCzw6⟩ := cells_at2 KC
          have HKC := Lib.hid KC
          clear KC
          have HB6 := Lib.hid (below_step HB5.out hb6)
          clear hb6 zw6 mVA0 mVA1 mVB0 mVB1 mVC0 mVC1 mfVA mfVB mfVC
          cases o1 with
          | true =>
            have HR0 : Hid (R = false) := by
              show _ = _
              rw [← HR.out]
              exact simp12_no fun hs => (hs.nf j hlt).1 (by rw [Hq.out, Hr.out]; exact of_decide_eq_true HOO.out.1)
            go_wp2
            go_returns
            rw [HR0.out]
            exact ⟨rfl, HB6.out⟩
          | false =>
            go_wp2_with fail
            (go_at_call 57; refine (HO2.out _).mono ?_; rintro e_ w7 ⟨rfl, hb7⟩)
            have zw7 := hb7.size
            clear HKC
            have KA : w7.heap[VA]? = some (.cells #[.int .i64 a1, .int .i64 a2] 37) := (hb7.block VA (by omega)).trans HKA.out
            have KB : w7.heap[VB]? = some (.cells #[.int .i64 b1, .int .i64 b2] 37) := (hb7.block VB (by omega)).trans HKB.out
            obtain ⟨xA0w7, xA1w7, xAfw7, xAzw7⟩ := cells_at2 KA
            clear HKA
            have HKA := Lib.hid KA
            clear KA
            obtain ⟨xB0w7, xB1w7, xBfw7, xBzw7⟩ := cells_at2 KB
            clear HKB
            have HKB := Lib.hid KB
            clear KB
            have HB7 := Lib.hid (below_step HB6.out hb7)
            clear hb7 zw7 xA0w6 xA1w6 xAfw6 xB0w6 xB1w6 xBfw6 xC0w6 xC1w6 xCfw6
            cases o2 with
            | true =>
              have HR0 : Hid (R = false) := by
                show _ = _
                rw [← HR.out]
                exact simp12_no fun hs => (hs.nf j hlt).2 (by rw [Hq.out, Hr.out]; exact of_decide_eq_true HOO.out.2)
              go_wp2
              go_returns
              rw [HR0.out]
              exact ⟨rfl, HB7.out⟩
            | false =>
              go_wp2
              go_loopw [10] (fun i wr => ∃ l : Nat, j + 2 ≤ l ∧ (l ≤ n ∨ l = j + 2) ∧ i = .int .i64 l ∧ Hid (∀ k, j + 2 ≤ k → k < l → nx n k ≠ j → ¬ meets (P j) (P (nx n j)) (P k) (P (nx n k))) ∧ VA < wr.heap.size ∧ VB < wr.heap.size ∧ wr.cell? ⟨VA, 0, none⟩ = some (.int .i64 a1) ∧ wr.cell? ⟨VA, 1, none⟩ = some (.int .i64 a2) ∧ wr.cell? ⟨VB, 0, none⟩ = some (.int .i64 b1) ∧ wr.cell? ⟨VB, 1, none⟩ = some (.int .i64 b2) ∧ Below w.heap.size w wr) (fun i _ => n - (intOf i).toNat)
              case atStart => exact ⟨j + 2, by omega, by omega, by rw [← HJ2.out]; rfl, fun k h1 h2 => absurd h1 (by omega), xAzw7, xBzw7, xA0w7, xA1w7, xB0w7, xB1w7, HB7.out⟩
              case round =>
                clear xAzw7 xBzw7 xA0w7 xA1w7 xB0w7 xB1w7 xAfw7 xBfw7
                obtain ⟨w8, rfl⟩ : ∃ x : World, x = wr := ⟨_, rfl⟩
                obtain ⟨l, hl, hl2, rfl, hq5, zA, zB, m0, m1', m2', m3', hB8⟩ := hrel
                have HB8r := Lib.hid hB8
                by_cases hll : l < n
                · have hcl1 := HCL1.out
                  have M0 := Lib.hid m0
                  have M1 := Lib.hid m1'
                  have M2 := Lib.hid m2'
                  have M3 := Lib.hid m3'
                  have zb2 : bk1 < w8.heap.size := by have := hB8.size; omega
                  obtain ⟨L1, hL1⟩ : ∃ e, (l : Int) + 1 = e := ⟨_, rfl⟩
                  obtain ⟨s, hs⟩ : ∃ q, nx n l = q := ⟨_, rfl⟩
                  have sn : s < n := by rw [← hs]; exact nx_lt (by omega)
                  have t1 : IntKind.i64.wrap ((l : Int) + 1) = L1 := by rw [hL1]; exact IntWalk.i64_in _ (by omega)
                  have t2 : L1.tmod (n : Int) = (s : Int) := by rw [← hL1, ← hs]; exact nx_mod hll
                  have t3 : IntKind.i64.wrap (s : Int) = (s : Int) := IntWalk.i64_in _ (by omega)
                  have t4 : ((n : Int) == 0) = false := by simp; omega
                  have t0 : ¬ n = 0 := by omega
                  have t5 : (0 : Int) ≤ (s : Int) := by omega
                  have t6 : (s : Int) < (n : Int) := by omega
                  have t7 : IntKind.i64.wrap (L1.tmod (n : Int)) = (s : Int) := by rw [t2]; exact t3
                  have HL1 := Lib.hid hL1
                  have Hs := Lib.hid hs
                  have t8 : (0 : Int) ≤ (l : Int) := by omega
                  have t9 : (l : Int) < (n : Int) := by omega
                  clear hL1 hs
                  by_cases he : s = j
                  · have he' := he.symm
                    subst he'
                    have pc0 : w8.cell? ⟨bk1, f1 + l * 2, none⟩ = some (.int .i64 (P l).1) := (hB8.cell (p := ⟨_, _, none⟩) hbl1).trans (hcl1 l hll).1
                    have pc1 : w8.cell? ⟨bk1, f1 + l * 2 + 1, none⟩ = some (.int .i64 (P l).2) := (hB8.cell (p := ⟨_, _, none⟩) hbl1).trans (hcl1 l hll).2
                    have pd0 : w8.cell? ⟨bk1, f1 + j * 2, none⟩ = some (.int .i64 (P j).1) := (hB8.cell (p := ⟨_, _, none⟩) hbl1).trans (hcl1 j hlt).1
                    have pd1 : w8.cell? ⟨bk1, f1 + j * 2 + 1, none⟩ = some (.int .i64 (P j).2) := (hB8.cell (p := ⟨_, _, none⟩) hbl1).trans (hcl1 j hlt).2
                    clear hcl1
                    obtain ⟨g1, hg1⟩ : ∃ e, (P l).1 = e := ⟨_, rfl⟩
                    rw [hg1] at pc0 
                    clear hg1
                    obtain ⟨g2, hg2⟩ : ∃ e, (P l).2 = e := ⟨_, rfl⟩
                    rw [hg2] at pc1 
                    clear hg2
                    obtain ⟨k1, hk1⟩ : ∃ e, (P j).1 = e := ⟨_, rfl⟩
                    rw [hk1] at pd0 
                    clear hk1
                    obtain ⟨k2, hk2⟩ : ∃ e, (P j).2 = e := ⟨_, rfl⟩
                    rw [hk2] at pd1 
                    clear hk2
                    go_wp2_with fail
                    refine wp_region_seq 22 [] [] (by kernel_rfl) (by kernel_rfl) (by kernel_rfl) (by kernel_rfl) (by kernel_rfl) ?_ ?_ ?_
                    · intro r hr; cases hr
                    · intro r hr; cases hr
                    simp only [List.take_succ_cons, List.take_zero, fillL, Act.put, List.setIfInBounds_toArray, List.set_cons_zero, List.set_cons_succ]
                    apply seq_is (by kernel_rfl)
                    · intro u wx hb hd
                      replace hb := hb.nil
                      have hz := hb.size
                      (try simp only [World.size_alloc, World.size_setCell] at hz)
                      have hz0 : bk1 < wx.heap.size := by omega
                      have hz1 : VA < wx.heap.size := by omega
                      have hz2 : VB < wx.heap.size := by omega
                      obtain ⟨hc, hf⟩ := bcell hb
                      clear hb hz
                      simp [depsE, Region.binds, updE, kindOf, Prp.is, Prp.any] at hd
                      go_simp
                      first | exact ⟨Below.refl _ _, rfl⟩ | rfl
                    apply seq_is (by kernel_rfl)
                    · intro u wx hb hd
                      replace hb := hb.nil
                      have hz := hb.size
                      (try simp only [World.size_alloc, World.size_setCell] at hz)
                      have hz0 : bk1 < wx.heap.size := by omega
                      have hz1 : VA < wx.heap.size := by omega
                      have hz2 : VB < wx.heap.size := by omega
                      obtain ⟨hc, hf⟩ := bcell hb
                      clear hb hz
                      simp [depsE, Region.binds, updE, kindOf, Prp.is, Prp.any] at hd
                      go_simp
                      first | exact ⟨Below.refl _ _, rfl⟩ | rfl
                    apply seq_is (by kernel_rfl)
                    · intro u wx hb hd
                      replace hb := hb.nil
                      have hz := hb.size
                      (try simp only [World.size_alloc, World.size_setCell] at hz)
                      have hz0 : bk1 < wx.heap.size := by omega
                      have hz1 : VA < wx.heap.size := by omega
                      have hz2 : VB < wx.heap.size := by omega
                      obtain ⟨hc, hf⟩ := bcell hb
                      clear hb hz
                      simp [depsE, Region.binds, updE, kindOf, Prp.is, Prp.any] at hd
                      go_simp
                      first | exact ⟨Below.refl _ _, rfl⟩ | rfl
                    apply seq_is (by kernel_rfl)
                    · intro u wx hb hd
                      replace hb := hb.nil
                      have hz := hb.size
                      (try simp only [World.size_alloc, World.size_setCell] at hz)
                      have hz0 : bk1 < wx.heap.size := by omega
                      have hz1 : VA < wx.heap.size := by omega
                      have hz2 : VB < wx.heap.size := by omega
                      obtain ⟨hc, hf⟩ := bcell hb
                      clear hb hz
                      simp [depsE, Region.binds, updE, kindOf, Prp.is, Prp.any] at hd
                      go_simp
                      first | exact ⟨Below.refl _ _, rfl⟩ | rfl
                    apply seq_is (by kernel_rfl)
                    · intro u wx hb hd
                      replace hb := hb.nil
                      have hz := hb.size
                      (try simp only [World.size_alloc, World.size_setCell] at hz)
                      have hz0 : bk1 < wx.heap.size := by omega
                      have hz1 : VA < wx.heap.size := by omega
                      have hz2 : VB < wx.heap.size := by omega
                      obtain ⟨hc, hf⟩ := bcell hb
                      clear hb hz
                      simp [depsE, Region.binds, updE, kindOf, Prp.is, Prp.any] at hd
                      go_simp
                      first | exact ⟨Below.refl _ _, rfl⟩ | rfl
                    apply seq_is (by kernel_rfl)
                    · intro u wx hb hd
                      replace hb := hb.nil
                      have hz := hb.size
                      (try simp only [World.size_alloc, World.size_setCell] at hz)
                      have hz0 : bk1 < wx.heap.size := by omega
                      have hz1 : VA < wx.heap.size := by omega
                      have hz2 : VB < wx.heap.size := by omega
                      obtain ⟨hc, hf⟩ := bcell hb
                      clear hb hz
                      simp [depsE, Region.binds, updE, kindOf, Prp.is, Prp.any] at hd
                      go_simp
                      first | exact ⟨Below.refl _ _, rfl⟩ | rfl
                    apply seq_is (by kernel_rfl)
                    · intro u wx hb hd
                      replace hb := hb.nil
                      have hz := hb.size
                      (try simp only [World.size_alloc, World.size_setCell] at hz)
                      have hz0 : bk1 < wx.heap.size := by omega
                      have hz1 : VA < wx.heap.size := by omega
                      have hz2 : VB < wx.heap.size := by omega
                      obtain ⟨hc, hf⟩ := bcell hb
                      clear hb hz
                      simp [depsE, Region.binds, updE, kindOf, Prp.is, Prp.any] at hd
                      go_simp
                      first | exact ⟨Below.refl _ _, rfl⟩ | rfl
                    apply seq_is (by kernel_rfl)
                    · intro u wx hb hd
                      replace hb := hb.nil
                      have hz := hb.size
                      (try simp only [World.size_alloc, World.size_setCell] at hz)
                      have hz0 : bk1 < wx.heap.size := by omega
                      have hz1 : VA < wx.heap.size := by omega
                      have hz2 : VB < wx.heap.size := by omega
                      obtain ⟨hc, hf⟩ := bcell hb
                      clear hb hz
                      simp [depsE, Region.binds, updE, kindOf, Prp.is, Prp.any] at hd
                      go_simp
                      first | exact ⟨Below.refl _ _, rfl⟩ | rfl
                    apply seq_is (by kernel_rfl)
                    · intro u wx hb hd
                      replace hb := hb.nil
                      have hz := hb.size
                      (try simp only [World.size_alloc, World.size_setCell] at hz)
                      have hz0 : bk1 < wx.heap.size := by omega
                      have hz1 : VA < wx.heap.size := by omega
                      have hz2 : VB < wx.heap.size := by omega
                      obtain ⟨hc, hf⟩ := bcell hb
                      clear hb hz
                      simp [depsE, Region.binds, updE, kindOf, Prp.is, Prp.any] at hd
                      go_simp
                      first | exact ⟨Below.refl _ _, rfl⟩ | rfl
                    apply seq_is (by kernel_rfl)
                    · intro u wx hb hd
                      replace hb := hb.nil
                      have hz := hb.size
                      (try simp only [World.size_alloc, World.size_setCell] at hz)
                      have hz0 : bk1 < wx.heap.size := by omega
                      have hz1 : VA < wx.heap.size := by omega
                      have hz2 : VB < wx.heap.size := by omega
                      obtain ⟨hc, hf⟩ := bcell hb
                      clear hb hz
                      simp [depsE, Region.binds, updE, kindOf, Prp.is, Prp.any] at hd
                      go_simp
                      first | exact ⟨Below.refl _ _, rfl⟩ | rfl
                    apply seq_is (by kernel_rfl)
                    · intro u wx hb hd
                      replace hb := hb.nil
                      have hz := hb.size
                      (try simp only [World.size_alloc, World.size_setCell] at hz)
                      have hz0 : bk1 < wx.heap.size := by omega
                      have hz1 : VA < wx.heap.size := by omega
                      have hz2 : VB < wx.heap.size := by omega
                      obtain ⟨hc, hf⟩ := bcell hb
                      clear hb hz
                      simp [depsE, Region.binds, updE, kindOf, Prp.is, Prp.any] at hd
                      go_simp
                      first | exact ⟨Below.refl _ _, rfl⟩ | rfl
                    apply seq_is (by kernel_rfl)
                    · intro u wx hb hd
                      replace hb := hb.nil
                      have hz := hb.size
                      (try simp only [World.size_alloc, World.size_setCell] at hz)
                      have hz0 : bk1 < wx.heap.size := by omega
                      have hz1 : VA < wx.heap.size := by omega
                      have hz2 : VB < wx.heap.size := by omega
                      obtain ⟨hc, hf⟩ := bcell hb
                      clear hb hz
                      simp [depsE, Region.binds, updE, kindOf, Prp.is, Prp.any] at hd
                      go_simp
                      first | exact ⟨Below.refl _ _, rfl⟩ | rfl
                    apply seq_is (by kernel_rfl)
                    · intro u wx hb hd
                      replace hb := hb.nil
                      have hz := hb.size
                      (try simp only [World.size_alloc, World.size_setCell] at hz)
                      have hz0 : bk1 < wx.heap.size := by omega
                      have hz1 : VA < wx.heap.size := by omega
                      have hz2 : VB < wx.heap.size := by omega
                      obtain ⟨hc, hf⟩ := bcell hb
                      clear hb hz
                      simp [depsE, Region.binds, updE, kindOf, Prp.is, Prp.any] at hd
                      go_simp
                      first | exact ⟨Below.refl _ _, rfl⟩ | rfl
                    apply seq_is (by kernel_rfl)
                    · intro u wx hb hd
                      replace hb := hb.nil
                      have hz := hb.size
                      (try simp only [World.size_alloc, World.size_setCell] at hz)
                      have hz0 : bk1 < wx.heap.size := by omega
                      have hz1 : VA < wx.heap.size := by omega
                      have hz2 : VB < wx.heap.size := by omega
                      obtain ⟨hc, hf⟩ := bcell hb
                      clear hb hz
                      simp [depsE, Region.binds, updE, kindOf, Prp.is, Prp.any] at hd
                      go_simp
                      first | exact ⟨Below.refl _ _, rfl⟩ | rfl
                    apply seq_is (by kernel_rfl)
                    · intro u wx hb hd
                      replace hb := hb.nil
                      have hz := hb.size
                      (try simp only [World.size_alloc, World.size_setCell] at hz)
                      have hz0 : bk1 < wx.heap.size := by omega
                      have hz1 : VA < wx.heap.size := by omega
                      have hz2 : VB < wx.heap.size := by omega
                      obtain ⟨hc, hf⟩ := bcell hb
                      clear hb hz
                      simp [depsE, Region.binds, updE, kindOf, Prp.is, Prp.any] at hd
                      go_simp
                      first | exact ⟨Below.refl _ _, rfl⟩ | rfl
                    apply seq_is (by kernel_rfl)
                    · intro u wx hb hd
                      replace hb := hb.nil
                      have hz := hb.size
                      (try simp only [World.size_alloc, World.size_setCell] at hz)
                      have hz0 : bk1 < wx.heap.size := by omega
                      have hz1 : VA < wx.heap.size := by omega
                      have hz2 : VB < wx.heap.size := by omega
                      obtain ⟨hc, hf⟩ := bcell hb
                      clear hb hz
                      simp [depsE, Region.binds, updE, kindOf, Prp.is, Prp.any] at hd
                      go_simp
                      first | exact ⟨Below.refl _ _, rfl⟩ | rfl
                    apply seq_is (by kernel_rfl)
                    · intro u wx hb hd
                      replace hb := hb.nil
                      have hz := hb.size
                      (try simp only [World.size_alloc, World.size_setCell] at hz)
                      have hz0 : bk1 < wx.heap.size := by omega
                      have hz1 : VA < wx.heap.size := by omega
                      have hz2 : VB < wx.heap.size := by omega
                      obtain ⟨hc, hf⟩ := bcell hb
                      clear hb hz
                      simp [depsE, Region.binds, updE, kindOf, Prp.is, Prp.any] at hd
                      go_simp
                      first | exact ⟨Below.refl _ _, rfl⟩ | rfl
                    apply seq_is (by kernel_rfl)
                    · intro u wx hb hd
                      replace hb := hb.nil
                      have hz := hb.size
                      (try simp only [World.size_alloc, World.size_setCell] at hz)
                      have hz0 : bk1 < wx.heap.size := by omega
                      have hz1 : VA < wx.heap.size := by omega
                      have hz2 : VB < wx.heap.size := by omega
                      obtain ⟨hc, hf⟩ := bcell hb
                      clear hb hz
                      simp [depsE, Region.binds, updE, kindOf, Prp.is, Prp.any] at hd
                      go_simp
                      first | exact ⟨Below.refl _ _, rfl⟩ | rfl
                    apply seq_is (by kernel_rfl)
                    · intro u wx hb hd
                      replace hb := hb.nil
                      have hz := hb.size
                      (try simp only [World.size_alloc, World.size_setCell] at hz)
                      have hz0 : bk1 < wx.heap.size := by omega
                      have hz1 : VA < wx.heap.size := by omega
                      have hz2 : VB < wx.heap.size := by omega
                      obtain ⟨hc, hf⟩ := bcell hb
                      clear hb hz
                      simp [depsE, Region.binds, updE, kindOf, Prp.is, Prp.any] at hd
                      go_simp
                      first | exact ⟨Below.refl _ _, rfl⟩ | rfl
                    apply seq_is (by kernel_rfl)
                    · intro u wx hb hd
                      replace hb := hb.nil
                      have hz := hb.size
                      (try simp only [World.size_alloc, World.size_setCell] at hz)
                      have hz0 : bk1 < wx.heap.size := by omega
                      have hz1 : VA < wx.heap.size := by omega
                      have hz2 : VB < wx.heap.size := by omega
                      obtain ⟨hc, hf⟩ := bcell hb
                      clear hb hz
                      simp [depsE, Region.binds, updE, kindOf, Prp.is, Prp.any] at hd
                      go_simp
                      first | exact ⟨Below.refl _ _, rfl⟩ | rfl
                    apply seq_is (by kernel_rfl)
                    · intro u wx hb hd
                      replace hb := hb.nil
                      have hz := hb.size
                      (try simp only [World.size_alloc, World.size_setCell] at hz)
                      have hz0 : bk1 < wx.heap.size := by omega
                      have hz1 : VA < wx.heap.size := by omega
                      have hz2 : VB < wx.heap.size := by omega
                      obtain ⟨hc, hf⟩ := bcell hb
                      clear hb hz
                      simp [depsE, Region.binds, updE, kindOf, Prp.is, Prp.any] at hd
                      go_simp
                      first | exact ⟨Below.refl _ _, rfl⟩ | rfl
                    apply seq_is (by kernel_rfl)
                    · intro u wx hb hd
                      replace hb := hb.nil
                      have hz := hb.size
                      (try simp only [World.size_alloc, World.size_setCell] at hz)
                      have hz0 : bk1 < wx.heap.size := by omega
                      have hz1 : VA < wx.heap.size := by omega
                      have hz2 : VB < wx.heap.size := by omega
                      obtain ⟨hc, hf⟩ := bcell hb
                      clear hb hz
                      simp [depsE, Region.binds, updE, kindOf, Prp.is, Prp.any] at hd
                      go_simp
                      first | exact ⟨Below.refl _ _, rfl⟩ | rfl
                    intro u w9 hb hE hV hP
                    replace hb := hb.nil
                    clear hP
                    have e0 : u 0 = _ := endE_get hE 0 (by decide) (by simp [kindOf])
                    have e1 : u 1 = _ := endE_get hE 1 (by decide) (by simp [kindOf])
                    have e2 : u 2 = _ := endE_get hE 2 (by decide) (by simp [kindOf])
                    have e3 : u 3 = _ := endE_get hE 3 (by decide) (by simp [kindOf])
                    have e4 : u 4 = _ := endE_get hE 4 (by decide) (by simp [kindOf])
                    have e5 : u 5 = _ := endE_get hE 5 (by decide) (by simp [kindOf])
                    have e6 : u 6 = _ := endE_get hE 6 (by decide) (by simp [kindOf])
                    have e7 : u 7 = _ := endE_get hE 7 (by decide) (by simp [kindOf])
                    have e8 : u 8 = _ := endE_get hE 8 (by decide) (by simp [kindOf])
                    have e9 : u 9 = _ := endE_get hE 9 (by decide) (by simp [kindOf])
                    have e10 : u 10 = _ := endE_get hE 10 (by decide) (by simp [kindOf])
                    have e11 : u 11 = _ := endE_get hE 11 (by decide) (by simp [kindOf])
                    have e12 : u 12 = _ := endE_get hE 12 (by decide) (by simp [kindOf])
                    have e13 : u 13 = _ := endE_get hE 13 (by decide) (by simp [kindOf])
                    have e14 : u 14 = _ := endE_get hE 14 (by decide) (by simp [kindOf])
                    have e15 : u 15 = _ := endE_get hE 15 (by decide) (by simp [kindOf])
                    have e16 : u 16 = _ := endE_get hE 16 (by decide) (by simp [kindOf])
                    have e17 : u 17 = _ := endE_get hE 17 (by decide) (by simp [kindOf])
                    have e18 : u 18 = _ := endE_get hE 18 (by decide) (by simp [kindOf])
                    have e19 : u 19 = _ := endE_get hE 19 (by decide) (by simp [kindOf])
                    have e20 : u 20 = _ := endE_get hE 20 (by decide) (by simp [kindOf])
                    have e21 : u 21 = _ := endE_get hE 21 (by decide) (by simp [kindOf])
                    clear hV
                    simp only [List.drop_succ_cons, List.drop_zero, List.take_succ_cons, List.take_zero, fillL, Act.put, List.setIfInBounds_toArray, List.set_cons_zero, List.set_cons_succ, e0, e1, e2, e3, e4, e5, e6, e7, e8, e9, e10, e11, e12, e13, e14, e15, e16, e17, e18, e19, e20, e21]
                    clear e0 e1 e2 e3 e4 e5 e6 e7 e8 e9 e10 e11 e12 e13 e14 e15 e16 e17 e18 e19 e20 e21 hE
                    have HBWw9 := Lib.hid hb
                    have hw9 := below_step (w := w8) (by first | assumption | go_grown) hb
                    have hzw9 := hb.size
                    (try simp only [World.size_alloc, World.size_setCell] at hzw9)
                    have hzw90 : bk1 < w9.heap.size := by omega
                    have hzw91 : VA < w9.heap.size := by omega
                    have hzw92 : VB < w9.heap.size := by omega
                    have HHw9 := Lib.hid hb.block
                    obtain ⟨hcw9, hfw9⟩ := bcell hb
                    clear hb hzw9
                    have HB9 := Lib.hid (below_step HB8r.out HBWw9.out)
                    have A0 := Lib.hid ((hw9.cell (p := ⟨_, _, none⟩) zA).trans M0.out)
                    have A1 := Lib.hid ((hw9.cell (p := ⟨_, _, none⟩) zA).trans M1.out)
                    have A2 := Lib.hid ((hw9.cell (p := ⟨_, _, none⟩) zB).trans M2.out)
                    have A3 := Lib.hid ((hw9.cell (p := ⟨_, _, none⟩) zB).trans M3.out)
                    have zA9 : VA < w9.heap.size := by have := hw9.size; omega
                    have zB9 : VB < w9.heap.size := by have := hw9.size; omega
                    clear hcw9 hfw9 HBWw9
                    have hq6 : Hid (∀ k, j + 2 ≤ k → k < l + 1 → nx n k ≠ j → ¬ meets (P j) (P (nx n j)) (P k) (P (nx n k))) := fun k h1 h2 h3 => by
                      by_cases e : k = l
                      · subst e
                        exact absurd Hs.out h3
                      · exact hq5.out k h1 (by omega) h3
                    go_wp2
                    go_roundw
                    case rel => exact ⟨l + 1, by omega, by omega, by rw [← HL1.out]; rfl, hq6, zA9, zB9, A0.out, A1.out, A2.out, A3.out, HB9.out⟩
                    case measure => have := HL1.out; simp [intOf]; omega
                  · have ke1 : ((s : Int) == (j : Int)) = false := by simp; omega
                    have ke2 : ((s : Int) != (j : Int)) = true := by simp; omega
                    have pc0 : w8.cell? ⟨bk1, f1 + l * 2, none⟩ = some (.int .i64 (P l).1) := (hB8.cell (p := ⟨_, _, none⟩) hbl1).trans (hcl1 l hll).1
                    have pc1 : w8.cell? ⟨bk1, f1 + l * 2 + 1, none⟩ = some (.int .i64 (P l).2) := (hB8.cell (p := ⟨_, _, none⟩) hbl1).trans (hcl1 l hll).2
                    have pd0 : w8.cell? ⟨bk1, f1 + s * 2, none⟩ = some (.int .i64 (P s).1) := (hB8.cell (p := ⟨_, _, none⟩) hbl1).trans (hcl1 s sn).1
                    have pd1 : w8.cell? ⟨bk1, f1 + s * 2 + 1, none⟩ = some (.int .i64 (P s).2) := (hB8.cell (p := ⟨_, _, none⟩) hbl1).trans (hcl1 s sn).2
                    obtain ⟨bb, hbb⟩ : ∃ e, decide (meets (P j) (P q) (P l) (P s)) = e := ⟨_, rfl⟩
                    have HM : Hid (∀ W, Calls Tryd.prog 70 #[.agg #[.int .i64 (P j).1, .int .i64 (P j).2], .agg #[.int .i64 (P q).1, .int .i64 (P q).2], .agg #[.int .i64 (P l).1, .int .i64 (P l).2], .agg #[.int .i64 (P s).1, .int .i64 (P s).2]] W (fun e w' => e = .returned (.bool bb) ∧ Below W.heap.size W w')) := fun W => by
                      rw [← hbb]
                      exact meet12_any _ _ _ _ _ _ _ _ W HN.out HNq.out (near_nr (hnr.out l hll)) (near_nr (hnr.out s sn))
                    rw [HAB.out.1, HAB.out.2.1, HAB.out.2.2.1, HAB.out.2.2.2] at HM
                    have HBB := Lib.hid hbb
                    clear hcl1 hbb
                    obtain ⟨g1, hg1⟩ : ∃ e, (P l).1 = e := ⟨_, rfl⟩
                    rw [hg1] at pc0 HM
                    clear hg1
                    obtain ⟨g2, hg2⟩ : ∃ e, (P l).2 = e := ⟨_, rfl⟩
                    rw [hg2] at pc1 HM
                    clear hg2
                    obtain ⟨k1, hk1⟩ : ∃ e, (P s).1 = e := ⟨_, rfl⟩
                    rw [hk1] at pd0 HM
                    clear hk1
                    obtain ⟨k2, hk2⟩ : ∃ e, (P s).2 = e := ⟨_, rfl⟩
                    rw [hk2] at pd1 HM
                    clear hk2
                    go_wp2_with fail
                    refine wp_region_seq 22 [] [] (by kernel_rfl) (by kernel_rfl) (by kernel_rfl) (by kernel_rfl) (by kernel_rfl) ?_ ?_ ?_
                    · intro r hr; cases hr
                    · intro r hr; cases hr
                    simp only [List.take_succ_cons, List.take_zero, fillL, Act.put, List.setIfInBounds_toArray, List.set_cons_zero, List.set_cons_succ]
                    apply seq_is (by kernel_rfl)
                    · intro u wx hb hd
                      replace hb := hb.nil
                      have hz := hb.size
                      (try simp only [World.size_alloc, World.size_setCell] at hz)
                      have hz0 : bk1 < wx.heap.size := by omega
                      have hz1 : VA < wx.heap.size := by omega
                      have hz2 : VB < wx.heap.size := by omega
                      obtain ⟨hc, hf⟩ := bcell hb
                      clear hb hz
                      simp [depsE, Region.binds, updE, kindOf, Prp.is, Prp.any] at hd
                      go_simp
                      first | exact ⟨Below.refl _ _, rfl⟩ | rfl
                    apply seq_is (by kernel_rfl)
                    · intro u wx hb hd
                      replace hb := hb.nil
                      have hz := hb.size
                      (try simp only [World.size_alloc, World.size_setCell] at hz)
                      have hz0 : bk1 < wx.heap.size := by omega
                      have hz1 : VA < wx.heap.size := by omega
                      have hz2 : VB < wx.heap.size := by omega
                      obtain ⟨hc, hf⟩ := bcell hb
                      clear hb hz
                      simp [depsE, Region.binds, updE, kindOf, Prp.is, Prp.any] at hd
                      go_simp
                      first | exact ⟨Below.refl _ _, rfl⟩ | rfl
                    apply seq_is (by kernel_rfl)
                    · intro u wx hb hd
                      replace hb := hb.nil
                      have hz := hb.size
                      (try simp only [World.size_alloc, World.size_setCell] at hz)
                      have hz0 : bk1 < wx.heap.size := by omega
                      have hz1 : VA < wx.heap.size := by omega
                      have hz2 : VB < wx.heap.size := by omega
                      obtain ⟨hc, hf⟩ := bcell hb
                      clear hb hz
                      simp [depsE, Region.binds, updE, kindOf, Prp.is, Prp.any] at hd
                      go_simp
                      first | exact ⟨Below.refl _ _, rfl⟩ | rfl
                    apply seq_is (by kernel_rfl)
                    · intro u wx hb hd
                      replace hb := hb.nil
                      have hz := hb.size
                      (try simp only [World.size_alloc, World.size_setCell] at hz)
                      have hz0 : bk1 < wx.heap.size := by omega
                      have hz1 : VA < wx.heap.size := by omega
                      have hz2 : VB < wx.heap.size := by omega
                      obtain ⟨hc, hf⟩ := bcell hb
                      clear hb hz
                      simp [depsE, Region.binds, updE, kindOf, Prp.is, Prp.any] at hd
                      go_simp
                      first | exact ⟨Below.refl _ _, rfl⟩ | rfl
                    apply seq_is (by kernel_rfl)
                    · intro u wx hb hd
                      replace hb := hb.nil
                      have hz := hb.size
                      (try simp only [World.size_alloc, World.size_setCell] at hz)
                      have hz0 : bk1 < wx.heap.size := by omega
                      have hz1 : VA < wx.heap.size := by omega
                      have hz2 : VB < wx.heap.size := by omega
                      obtain ⟨hc, hf⟩ := bcell hb
                      clear hb hz
                      simp [depsE, Region.binds, updE, kindOf, Prp.is, Prp.any] at hd
                      go_simp
                      first | exact ⟨Below.refl _ _, rfl⟩ | rfl
                    apply seq_is (by kernel_rfl)
                    · intro u wx hb hd
                      replace hb := hb.nil
                      have hz := hb.size
                      (try simp only [World.size_alloc, World.size_setCell] at hz)
                      have hz0 : bk1 < wx.heap.size := by omega
                      have hz1 : VA < wx.heap.size := by omega
                      have hz2 : VB < wx.heap.size := by omega
                      obtain ⟨hc, hf⟩ := bcell hb
                      clear hb hz
                      simp [depsE, Region.binds, updE, kindOf, Prp.is, Prp.any] at hd
                      go_simp
                      first | exact ⟨Below.refl _ _, rfl⟩ | rfl
                    apply seq_is (by kernel_rfl)
                    · intro u wx hb hd
                      replace hb := hb.nil
                      have hz := hb.size
                      (try simp only [World.size_alloc, World.size_setCell] at hz)
                      have hz0 : bk1 < wx.heap.size := by omega
                      have hz1 : VA < wx.heap.size := by omega
                      have hz2 : VB < wx.heap.size := by omega
                      obtain ⟨hc, hf⟩ := bcell hb
                      clear hb hz
                      simp [depsE, Region.binds, updE, kindOf, Prp.is, Prp.any] at hd
                      go_simp
                      first | exact ⟨Below.refl _ _, rfl⟩ | rfl
                    apply seq_is (by kernel_rfl)
                    · intro u wx hb hd
                      replace hb := hb.nil
                      have hz := hb.size
                      (try simp only [World.size_alloc, World.size_setCell] at hz)
                      have hz0 : bk1 < wx.heap.size := by omega
                      have hz1 : VA < wx.heap.size := by omega
                      have hz2 : VB < wx.heap.size := by omega
                      obtain ⟨hc, hf⟩ := bcell hb
                      clear hb hz
                      simp [depsE, Region.binds, updE, kindOf, Prp.is, Prp.any] at hd
                      go_simp
                      first | exact ⟨Below.refl _ _, rfl⟩ | rfl
                    apply seq_is (by kernel_rfl)
                    · intro u wx hb hd
                      replace hb := hb.nil
                      have hz := hb.size
                      (try simp only [World.size_alloc, World.size_setCell] at hz)
                      have hz0 : bk1 < wx.heap.size := by omega
                      have hz1 : VA < wx.heap.size := by omega
                      have hz2 : VB < wx.heap.size := by omega
                      obtain ⟨hc, hf⟩ := bcell hb
                      clear hb hz
                      simp [depsE, Region.binds, updE, kindOf, Prp.is, Prp.any] at hd
                      go_simp
                      first | exact ⟨Below.refl _ _, rfl⟩ | rfl
                    apply seq_is (by kernel_rfl)
                    · intro u wx hb hd
                      replace hb := hb.nil
                      have hz := hb.size
                      (try simp only [World.size_alloc, World.size_setCell] at hz)
                      have hz0 : bk1 < wx.heap.size := by omega
                      have hz1 : VA < wx.heap.size := by omega
                      have hz2 : VB < wx.heap.size := by omega
                      obtain ⟨hc, hf⟩ := bcell hb
                      clear hb hz
                      simp [depsE, Region.binds, updE, kindOf, Prp.is, Prp.any] at hd
                      go_simp
                      first | exact ⟨Below.refl _ _, rfl⟩ | rfl
                    apply seq_is (by kernel_rfl)
                    · intro u wx hb hd
                      replace hb := hb.nil
                      have hz := hb.size
                      (try simp only [World.size_alloc, World.size_setCell] at hz)
                      have hz0 : bk1 < wx.heap.size := by omega
                      have hz1 : VA < wx.heap.size := by omega
                      have hz2 : VB < wx.heap.size := by omega
                      obtain ⟨hc, hf⟩ := bcell hb
                      clear hb hz
                      simp [depsE, Region.binds, updE, kindOf, Prp.is, Prp.any] at hd
                      go_simp
                      first | exact ⟨Below.refl _ _, rfl⟩ | rfl
                    apply seq_is (by kernel_rfl)
                    · intro u wx hb hd
                      replace hb := hb.nil
                      have hz := hb.size
                      (try simp only [World.size_alloc, World.size_setCell] at hz)
                      have hz0 : bk1 < wx.heap.size := by omega
                      have hz1 : VA < wx.heap.size := by omega
                      have hz2 : VB < wx.heap.size := by omega
                      obtain ⟨hc, hf⟩ := bcell hb
                      clear hb hz
                      simp [depsE, Region.binds, updE, kindOf, Prp.is, Prp.any] at hd
                      go_simp
                      first | exact ⟨Below.refl _ _, rfl⟩ | rfl
                    apply seq_is (by kernel_rfl)
                    · intro u wx hb hd
                      replace hb := hb.nil
                      have hz := hb.size
                      (try simp only [World.size_alloc, World.size_setCell] at hz)
                      have hz0 : bk1 < wx.heap.size := by omega
                      have hz1 : VA < wx.heap.size := by omega
                      have hz2 : VB < wx.heap.size := by omega
                      obtain ⟨hc, hf⟩ := bcell hb
                      clear hb hz
                      simp [depsE, Region.binds, updE, kindOf, Prp.is, Prp.any] at hd
                      go_simp
                      first | exact ⟨Below.refl _ _, rfl⟩ | rfl
                    apply seq_is (by kernel_rfl)
                    · intro u wx hb hd
                      replace hb := hb.nil
                      have hz := hb.size
                      (try simp only [World.size_alloc, World.size_setCell] at hz)
                      have hz0 : bk1 < wx.heap.size := by omega
                      have hz1 : VA < wx.heap.size := by omega
                      have hz2 : VB < wx.heap.size := by omega
                      obtain ⟨hc, hf⟩ := bcell hb
                      clear hb hz
                      simp [depsE, Region.binds, updE, kindOf, Prp.is, Prp.any] at hd
                      go_simp
                      first | exact ⟨Below.refl _ _, rfl⟩ | rfl
                    apply seq_is (by kernel_rfl)
                    · intro u wx hb hd
                      replace hb := hb.nil
                      have hz := hb.size
                      (try simp only [World.size_alloc, World.size_setCell] at hz)
                      have hz0 : bk1 < wx.heap.size := by omega
                      have hz1 : VA < wx.heap.size := by omega
                      have hz2 : VB < wx.heap.size := by omega
                      obtain ⟨hc, hf⟩ := bcell hb
                      clear hb hz
                      simp [depsE, Region.binds, updE, kindOf, Prp.is, Prp.any] at hd
                      go_simp
                      first | exact ⟨Below.refl _ _, rfl⟩ | rfl
                    apply seq_is (by kernel_rfl)
                    · intro u wx hb hd
                      replace hb := hb.nil
                      have hz := hb.size
                      (try simp only [World.size_alloc, World.size_setCell] at hz)
                      have hz0 : bk1 < wx.heap.size := by omega
                      have hz1 : VA < wx.heap.size := by omega
                      have hz2 : VB < wx.heap.size := by omega
                      obtain ⟨hc, hf⟩ := bcell hb
                      clear hb hz
                      simp [depsE, Region.binds, updE, kindOf, Prp.is, Prp.any] at hd
                      go_simp
                      first | exact ⟨Below.refl _ _, rfl⟩ | rfl
                    apply seq_is (by kernel_rfl)
                    · intro u wx hb hd
                      replace hb := hb.nil
                      have hz := hb.size
                      (try simp only [World.size_alloc, World.size_setCell] at hz)
                      have hz0 : bk1 < wx.heap.size := by omega
                      have hz1 : VA < wx.heap.size := by omega
                      have hz2 : VB < wx.heap.size := by omega
                      obtain ⟨hc, hf⟩ := bcell hb
                      clear hb hz
                      simp [depsE, Region.binds, updE, kindOf, Prp.is, Prp.any] at hd
                      go_simp
                      first | exact ⟨Below.refl _ _, rfl⟩ | rfl
                    apply seq_is (by kernel_rfl)
                    · intro u wx hb hd
                      replace hb := hb.nil
                      have hz := hb.size
                      (try simp only [World.size_alloc, World.size_setCell] at hz)
                      have hz0 : bk1 < wx.heap.size := by omega
                      have hz1 : VA < wx.heap.size := by omega
                      have hz2 : VB < wx.heap.size := by omega
                      obtain ⟨hc, hf⟩ := bcell hb
                      clear hb hz
                      simp [depsE, Region.binds, updE, kindOf, Prp.is, Prp.any] at hd
                      go_simp
                      first | exact ⟨Below.refl _ _, rfl⟩ | rfl
                    apply seq_is (by kernel_rfl)
                    · intro u wx hb hd
                      replace hb := hb.nil
                      have hz := hb.size
                      (try simp only [World.size_alloc, World.size_setCell] at hz)
                      have hz0 : bk1 < wx.heap.size := by omega
                      have hz1 : VA < wx.heap.size := by omega
                      have hz2 : VB < wx.heap.size := by omega
                      obtain ⟨hc, hf⟩ := bcell hb
                      clear hb hz
                      simp [depsE, Region.binds, updE, kindOf, Prp.is, Prp.any] at hd
                      go_simp
                      first | exact ⟨Below.refl _ _, rfl⟩ | rfl
                    apply seq_is (by kernel_rfl)
                    · intro u wx hb hd
                      replace hb := hb.nil
                      have hz := hb.size
                      (try simp only [World.size_alloc, World.size_setCell] at hz)
                      have hz0 : bk1 < wx.heap.size := by omega
                      have hz1 : VA < wx.heap.size := by omega
                      have hz2 : VB < wx.heap.size := by omega
                      obtain ⟨hc, hf⟩ := bcell hb
                      clear hb hz
                      simp [depsE, Region.binds, updE, kindOf, Prp.is, Prp.any] at hd
                      go_simp
                      first | exact ⟨Below.refl _ _, rfl⟩ | rfl
                    apply seq_is (by kernel_rfl)
                    · intro u wx hb hd
                      replace hb := hb.nil
                      have hz := hb.size
                      (try simp only [World.size_alloc, World.size_setCell] at hz)
                      have hz0 : bk1 < wx.heap.size := by omega
                      have hz1 : VA < wx.heap.size := by omega
                      have hz2 : VB < wx.heap.size := by omega
                      obtain ⟨hc, hf⟩ := bcell hb
                      clear hb hz
                      simp [depsE, Region.binds, updE, kindOf, Prp.is, Prp.any] at hd
                      go_simp
                      first | rfl | (go_at_call 70; refine (HM.out _).mono ?_; rintro e w1 ⟨rfl, hb1⟩; first | exact ⟨rfl, hb1⟩ | exact ⟨_, rfl, hb1, rfl⟩)
                    apply seq_is (by kernel_rfl)
                    · intro u wx hb hd
                      replace hb := hb.nil
                      have hz := hb.size
                      (try simp only [World.size_alloc, World.size_setCell] at hz)
                      have hz0 : bk1 < wx.heap.size := by omega
                      have hz1 : VA < wx.heap.size := by omega
                      have hz2 : VB < wx.heap.size := by omega
                      obtain ⟨hc, hf⟩ := bcell hb
                      clear hb hz
                      simp [depsE, Region.binds, updE, kindOf, Prp.is, Prp.any] at hd
                      go_simp
                      first | exact ⟨Below.refl _ _, rfl⟩ | rfl
                    intro u w9 hb hE hV hP
                    replace hb := hb.nil
                    clear hP
                    have e0 : u 0 = _ := endE_get hE 0 (by decide) (by simp [kindOf])
                    have e1 : u 1 = _ := endE_get hE 1 (by decide) (by simp [kindOf])
                    have e2 : u 2 = _ := endE_get hE 2 (by decide) (by simp [kindOf])
                    have e3 : u 3 = _ := endE_get hE 3 (by decide) (by simp [kindOf])
                    have e4 : u 4 = _ := endE_get hE 4 (by decide) (by simp [kindOf])
                    have e5 : u 5 = _ := endE_get hE 5 (by decide) (by simp [kindOf])
                    have e6 : u 6 = _ := endE_get hE 6 (by decide) (by simp [kindOf])
                    have e7 : u 7 = _ := endE_get hE 7 (by decide) (by simp [kindOf])
                    have e8 : u 8 = _ := endE_get hE 8 (by decide) (by simp [kindOf])
                    have e9 : u 9 = _ := endE_get hE 9 (by decide) (by simp [kindOf])
                    have e10 : u 10 = _ := endE_get hE 10 (by decide) (by simp [kindOf])
                    have e11 : u 11 = _ := endE_get hE 11 (by decide) (by simp [kindOf])
                    have e12 : u 12 = _ := endE_get hE 12 (by decide) (by simp [kindOf])
                    have e13 : u 13 = _ := endE_get hE 13 (by decide) (by simp [kindOf])
                    have e14 : u 14 = _ := endE_get hE 14 (by decide) (by simp [kindOf])
                    have e15 : u 15 = _ := endE_get hE 15 (by decide) (by simp [kindOf])
                    have e16 : u 16 = _ := endE_get hE 16 (by decide) (by simp [kindOf])
                    have e17 : u 17 = _ := endE_get hE 17 (by decide) (by simp [kindOf])
                    have e18 : u 18 = _ := endE_get hE 18 (by decide) (by simp [kindOf])
                    have e19 : u 19 = _ := endE_get hE 19 (by decide) (by simp [kindOf])
                    have e20 : u 20 = _ := endE_get hE 20 (by decide) (by simp [kindOf])
                    have e21 : u 21 = _ := endE_get hE 21 (by decide) (by simp [kindOf])
                    clear hV
                    simp only [List.drop_succ_cons, List.drop_zero, List.take_succ_cons, List.take_zero, fillL, Act.put, List.setIfInBounds_toArray, List.set_cons_zero, List.set_cons_succ, e0, e1, e2, e3, e4, e5, e6, e7, e8, e9, e10, e11, e12, e13, e14, e15, e16, e17, e18, e19, e20, e21]
                    clear e0 e1 e2 e3 e4 e5 e6 e7 e8 e9 e10 e11 e12 e13 e14 e15 e16 e17 e18 e19 e20 e21 hE
                    have HBWw9 := Lib.hid hb
                    have hw9 := below_step (w := w8) (by first | assumption | go_grown) hb
                    have hzw9 := hb.size
                    (try simp only [World.size_alloc, World.size_setCell] at hzw9)
                    have hzw90 : bk1 < w9.heap.size := by omega
                    have hzw91 : VA < w9.heap.size := by omega
                    have hzw92 : VB < w9.heap.size := by omega
                    have HHw9 := Lib.hid hb.block
                    obtain ⟨hcw9, hfw9⟩ := bcell hb
                    clear hb hzw9
                    cases bb with
                    | true =>
                      have HR0 : Hid (R = false) := by
                        show _ = _
                        rw [← HR.out]
                        exact simp12_no fun hs => hs.nm j l hlt hl hll (by rw [Hs.out]; exact he) (by rw [Hq.out, Hs.out]; exact of_decide_eq_true HBB.out)
                      have HB9 := Lib.hid (below_step HB8r.out HBWw9.out)
                      go_wp2
                      go_returns
                      rw [HR0.out]
                      exact ⟨rfl, HB9.out⟩
                    | false =>
                      have HB9 := Lib.hid (below_step HB8r.out HBWw9.out)
                      have A0 := Lib.hid ((hw9.cell (p := ⟨_, _, none⟩) zA).trans M0.out)
                      have A1 := Lib.hid ((hw9.cell (p := ⟨_, _, none⟩) zA).trans M1.out)
                      have A2 := Lib.hid ((hw9.cell (p := ⟨_, _, none⟩) zB).trans M2.out)
                      have A3 := Lib.hid ((hw9.cell (p := ⟨_, _, none⟩) zB).trans M3.out)
                      have zA9 : VA < w9.heap.size := by have := hw9.size; omega
                      have zB9 : VB < w9.heap.size := by have := hw9.size; omega
                      clear hcw9 hfw9 HBWw9
                      have hq6 : Hid (∀ k, j + 2 ≤ k → k < l + 1 → nx n k ≠ j → ¬ meets (P j) (P (nx n j)) (P k) (P (nx n k))) := fun k h1 h2 h3 => by
                        by_cases e : k = l
                        · subst e
                          rw [Hq.out, Hs.out]
                          exact of_decide_eq_false HBB.out
                        · exact hq5.out k h1 (by omega) h3
                      go_wp2
                      go_roundw
                      case rel => exact ⟨l + 1, by omega, by omega, by rw [← HL1.out]; rfl, hq6, zA9, zB9, A0.out, A1.out, A2.out, A3.out, HB9.out⟩
                      case measure => have := HL1.out; simp [intOf]; omega
                · have hq7 : Hid (∀ i, i < j + 1 → (¬ onS (P (nx n i)) (P (nx n (nx n i))) (P i) ∧ ¬ onS (P i) (P (nx n i)) (P (nx n (nx n i)))) ∧ ∀ k, i + 2 ≤ k → k < n → nx n k ≠ i → ¬ meets (P i) (P (nx n i)) (P k) (P (nx n k))) := fun i hi => by
                    by_cases e : i = j
                    · subst e
                      refine ⟨?_, fun k h1 h2 h3 => hq5.out k h1 (by omega) h3⟩
                      rw [Hq.out, Hr.out]
                      exact ⟨of_decide_eq_false HOO.out.1, of_decide_eq_false HOO.out.2⟩
                    · exact hq4.out i (by omega)
                  go_wp2
                  go_roundw
                  case rel => exact ⟨j + 1, by omega, by rw [← HJ1.out]; rfl, hq7, HB8r.out⟩
                  case measure => have := HJ1.out; simp [intOf]; omega
        · have HR0 : Hid (R = true) := by
            show _ = _
            have e : j = n := by omega
            rw [← HR.out]
            refine simp12_yes ⟨fun a b h1 h2 => HDS.out a b h1 h2, fun i hi => (hq4.out i (by omega)).1, fun i k hi h1 h2 h3 => (hq4.out i (by omega)).2 k h1 h2 h3⟩
          go_wp2
          go_returns
          rw [HR0.out]
          exact ⟨rfl, HB1r.out⟩
end Go.Proofs.YtgbhhjdmochhpaaDoor
namespace Go.Proofs.YtgbhhjdmochhpaaDoor
open Go Go.ChangeShapes Go.WideShapes Go.RowKit Go.ChangeAt
set_option linter.unusedVariables false
set_option linter.unusedSimpArgs false

noncomputable def chk12 (n : Nat) (P : Nat → Pt) : Int := if n < 3 then 3 else if 32 < n then 4 else if allTo (fun i => nearB 32768 (P i)) n = false then 9 else if simp12 n P = false then 17 else 0
theorem chk12_iff {n : Nat} {P : Nat → Pt} : chk12 n P = 0 ↔ RefPol n P := by
  unfold chk12
  constructor
  · intro h
    by_cases h1 : n < 3
    · rw [if_pos h1] at h; exact absurd h (by decide)
    rw [if_neg h1] at h
    by_cases h2 : 32 < n
    · rw [if_pos h2] at h; exact absurd h (by decide)
    rw [if_neg h2] at h
    by_cases h3 : allTo (fun i => nearB 32768 (P i)) n = false
    · rw [if_pos h3] at h; exact absurd h (by decide)
    rw [if_neg h3] at h
    by_cases h4 : simp12 n P = false
    · rw [if_pos h4] at h; exact absurd h (by decide)
    have hs := simp12_of (by simpa using h4)
    have hn := allTo_iff.1 (by simpa using h3)
    exact ⟨by omega, by omega, fun i hi => by have := nearB_iff.1 (hn i hi); omega, hs.ds, hs.nf, hs.nm⟩
  · intro h
    have h1 := h.n3
    have h2 := h.n32
    have h3 : allTo (fun i => nearB 32768 (P i)) n = true := allTo_iff.2 fun i hi => nearB_iff.2 (by have := h.nr i hi; omega)
    have h4 : simp12 n P = true := simp12_yes ⟨h.ds, h.nf, h.nm⟩
    rw [if_neg (by omega), if_neg (by omega), if_neg (by simp [h3]), if_neg (by simp [h4])]
theorem RefPol.near {n : Nat} {P : Nat → Pt} (h : RefPol n P) : ∀ i, i < n → nearB 32768 (P i) = true := fun i hi => nearB_iff.2 (by have := h.nr i hi; omega)

set_option maxHeartbeats 1000000 in
theorem check12_any (v : Value) (n : Nat) (P : Nat → Pt) (w : World) (h : PtsAt w v n P) : Calls Tryd.prog 31 #[v] w fun e w' => e = .returned (.int .i64 (chk12 n P)) ∧ Below w.heap.size w w' := by
  obtain ⟨oa, cap, rfl, hn, hc, -⟩ := h.form
  have H := Lib.hid h
  obtain ⟨R, hR⟩ : ∃ e, chk12 n P = e := ⟨_, rfl⟩
  have HR := Lib.hid hR
  rw [hR]
  clear h
  unfold chk12 at hR
  by_cases h1 : n < 3
  · rw [if_pos h1] at hR
    subst hR
    have k1 : decide ((n : Int) < 3) = true := decide_eq_true (by omega)
    clear h1
    go_enter Tryd.func31, Tryd.ntmps31
    go_wp2
    go_returns
    exact ⟨rfl, Below.refl _ _⟩
  rw [if_neg h1] at hR
  have k1 : decide ((n : Int) < 3) = false := decide_eq_false (by omega)
  by_cases h2 : 32 < n
  · rw [if_pos h2] at hR
    subst hR
    have k2 : decide ((32 : Int) < (n : Int)) = true := decide_eq_true (by omega)
    clear h1 h2
    go_enter Tryd.func31, Tryd.ntmps31
    go_wp2
    go_returns
    exact ⟨rfl, Below.refl _ _⟩
  rw [if_neg h2] at hR
  have k2 : decide ((32 : Int) < (n : Int)) = false := decide_eq_false (by omega)
  obtain ⟨B, hB⟩ : ∃ b, allTo (fun i => nearB 32768 (P i)) n = b := ⟨_, rfl⟩
  have HF : Hid (∀ W v', PtsAt W v' n P → Calls Tryd.prog 53 #[v'] W (fun e w' => e = .returned (.bool B) ∧ Below W.heap.size W w')) := fun W v' h' => by rw [← hB]; exact nears_any v' n P W h'
  rw [hB] at hR
  cases B with
  | false =>
    rw [if_pos rfl] at hR
    subst hR
    clear hB h1 h2
    go_enter Tryd.func31, Tryd.ntmps31
    go_wp2_with fail
    (go_at_call 53; refine (HF.out _ _ H.out).mono ?_; rintro e_ w1 ⟨rfl, hb1⟩)
    go_wp2
    go_returns
    exact ⟨rfl, hb1⟩
  | true =>
    rw [if_neg (by decide)] at hR
    have HNR := Lib.hid (allTo_iff.1 hB)
    obtain ⟨C, hC⟩ : ∃ b, simp12 n P = b := ⟨_, rfl⟩
    have HS : Hid (∀ W v', PtsAt W v' n P → Calls Tryd.prog 54 #[v'] W (fun e w' => e = .returned (.bool C) ∧ Below W.heap.size W w')) := fun W v' h' => by rw [← hC]; exact simple12_any v' n P W h' (by omega) (by omega) HNR
    rw [hC] at hR
    clear hC hB h1 h2
    cases C with
    | false =>
      rw [if_pos rfl] at hR
      subst hR
      go_enter Tryd.func31, Tryd.ntmps31
      go_wp2_with fail
      (go_at_call 53; refine (HF.out _ _ H.out).mono ?_; rintro e_ w1 ⟨rfl, hb1⟩)
      have H1 := Lib.hid (H.out.below hb1)
      go_wp2_with fail
      (go_at_call 54; refine (HS.out _ _ H1.out).mono ?_; rintro e_ w2 ⟨rfl, hb2⟩)
      have HB := Lib.hid (below_step hb1 hb2)
      go_wp2
      go_returns
      exact ⟨rfl, HB.out⟩
    | true =>
      rw [if_neg (by decide)] at hR
      subst hR
      go_enter Tryd.func31, Tryd.ntmps31
      go_wp2_with fail
      (go_at_call 53; refine (HF.out _ _ H.out).mono ?_; rintro e_ w1 ⟨rfl, hb1⟩)
      have H1 := Lib.hid (H.out.below hb1)
      go_wp2_with fail
      (go_at_call 54; refine (HS.out _ _ H1.out).mono ?_; rintro e_ w2 ⟨rfl, hb2⟩)
      have HB := Lib.hid (below_step hb1 hb2)
      go_wp2
      go_returns
      exact ⟨rfl, HB.out⟩
theorem check12_ok (v : Value) (n : Nat) (P : Nat → Pt) (w : World) (h : PtsAt w v n P) (hp : Hid (RefPol n P)) : Calls Tryd.prog 31 #[v] w fun e w' => e = .returned (.int .i64 0) ∧ Below w.heap.size w w' := by
  have h2 := check12_any v n P w h
  rw [chk12_iff.2 hp.out] at h2
  exact h2

set_option maxHeartbeats 2000000 in
set_option maxRecDepth 20000 in
theorem area12_ok (v : Value) (n : Nat) (P : Nat → Pt) (w : World) (h : PtsAt w v n P) (hp : Hid (RefPol n P)) :
    Calls Tryd.prog 32 #[v] w fun e w' => e = .returned (.int .i64 (area2 n P)) ∧ Below w.heap.size w w' := by
  have hnr := Lib.hid hp.out.near
  obtain ⟨oa, cap, rfl, hn, hc, hel⟩ := h.form
  have HEL := Lib.hid hel
  have H := Lib.hid h
  have n3 := hp.out.n3
  have n32 := hp.out.n32
  clear h hel
  obtain ⟨R, hR⟩ : ∃ R, area2 n P = R := ⟨_, rfl⟩
  have HR := Lib.hid hR
  rw [hR]
  clear hR
  go_enter Tryd.func32, Tryd.ntmps32
  go_wp2_with fail
  (go_at_call 31; refine (check12_ok _ n P _ H.out hp).mono ?_; rintro e_ w1 ⟨rfl, hb1⟩)
  have HB1 := Lib.hid hb1
  clear hb1
  go_wp2
  go_loopw [3, 4] (fun t i wr => ∃ (j : Nat) (s : Int), j ≤ n ∧ i = .int .i64 j ∧ t = .int .i64 s ∧ Hid (s = sumZ (fun i => (P i).1 * (P (nx n i)).2 - (P (nx n i)).1 * (P i).2) j) ∧ Hid (-(34359738368 * (j : Int)) ≤ s ∧ s ≤ 34359738368 * (j : Int)) ∧ Below w.heap.size w wr) (fun t i _ => n - (intOf i).toNat)
  case atStart => exact ⟨0, 0, by omega, rfl, rfl, rfl, ⟨by omega, by omega⟩, HB1.out⟩
  case round =>
    obtain ⟨w2, rfl⟩ : ∃ x : World, x = wr := ⟨_, rfl⟩
    obtain ⟨j, s, hj, rfl, rfl, hss, hsb, hB2⟩ := hrel
    have HB2r := Lib.hid hB2
    by_cases hlt : j < n
    · obtain ⟨bk1, f1, rfl, hbl1, hcl1⟩ := HEL.out j hlt
      have hsb0 := hsb.out
      obtain ⟨J1, hJ1⟩ : ∃ e, (j : Int) + 1 = e := ⟨_, rfl⟩
      obtain ⟨q, hq⟩ : ∃ q, nx n j = q := ⟨_, rfl⟩
      have qn : q < n := by rw [← hq]; exact nx_lt (by omega)
      have i1 : IntKind.i64.wrap ((j : Int) + 1) = J1 := by rw [hJ1]; exact IntWalk.i64_in _ (by omega)
      have i2 : J1.tmod (n : Int) = (q : Int) := by rw [← hJ1, ← hq]; exact nx_mod hlt
      have i3 : IntKind.i64.wrap (q : Int) = (q : Int) := IntWalk.i64_in _ (by omega)
      have i4 : ((n : Int) == 0) = false := by simp; omega
      have i0 : ¬ n = 0 := by omega
      have i5 : (0 : Int) ≤ (q : Int) := by omega
      have i6 : (q : Int) < (n : Int) := by omega
      have i7 : IntKind.i64.wrap (J1.tmod (n : Int)) = (q : Int) := by rw [i2]; exact i3
      have HJ1 := Lib.hid hJ1
      have Hq := Lib.hid hq
      have i8 : (0 : Int) ≤ (j : Int) := by omega
      have i9 : (j : Int) < (n : Int) := by omega
      clear hJ1 hq
      have pa0 : w2.cell? ⟨bk1, f1 + j * 2, none⟩ = some (.int .i64 (P j).1) := (hB2.cell (p := ⟨_, _, none⟩) hbl1).trans (hcl1 j hlt).1
      have pa1 : w2.cell? ⟨bk1, f1 + j * 2 + 1, none⟩ = some (.int .i64 (P j).2) := (hB2.cell (p := ⟨_, _, none⟩) hbl1).trans (hcl1 j hlt).2
      have pb0 : w2.cell? ⟨bk1, f1 + q * 2, none⟩ = some (.int .i64 (P q).1) := (hB2.cell (p := ⟨_, _, none⟩) hbl1).trans (hcl1 q qn).1
      have pb1 : w2.cell? ⟨bk1, f1 + q * 2 + 1, none⟩ = some (.int .i64 (P q).2) := (hB2.cell (p := ⟨_, _, none⟩) hbl1).trans (hcl1 q qn).2
      have zb0 : bk1 < w2.heap.size := by have := hB2.size; omega
      clear hcl1
      obtain ⟨a1, ha1⟩ : ∃ e, (P j).1 = e := ⟨_, rfl⟩
      obtain ⟨a2, ha2⟩ : ∃ e, (P j).2 = e := ⟨_, rfl⟩
      obtain ⟨b1, hb1⟩ : ∃ e, (P q).1 = e := ⟨_, rfl⟩
      obtain ⟨b2, hb2⟩ : ∃ e, (P q).2 = e := ⟨_, rfl⟩
      have n1 := nearB_iff.1 (hnr.out j hlt)
      have n2 := nearB_iff.1 (hnr.out q qn)
      rw [ha1, ha2] at n1
      rw [hb1, hb2] at n2
      have g1 := prod_bd (x := a1) (y := b2) (by omega) (by omega)
      have g2 := prod_bd (x := a2) (y := b1) (by omega) (by omega)
      obtain ⟨m1, hm1⟩ : ∃ e, a1 * b2 = e := ⟨_, rfl⟩
      obtain ⟨m2, hm2⟩ : ∃ e, a2 * b1 = e := ⟨_, rfl⟩
      rw [hm1] at g1
      rw [hm2] at g2
      obtain ⟨D, hD⟩ : ∃ e, s + m1 = e := ⟨_, rfl⟩
      obtain ⟨S', hS'⟩ : ∃ e, D - m2 = e := ⟨_, rfl⟩
      have v1 : IntKind.i64.wrap (a1 * b2) = m1 := by rw [hm1]; exact IntWalk.i64_in _ (by omega)
      have v2 : IntKind.i64.wrap (a2 * b1) = m2 := by rw [hm2]; exact IntWalk.i64_in _ (by omega)
      have v3 : IntKind.i64.wrap (s + m1) = D := by rw [hD]; exact IntWalk.i64_in _ (by omega)
      have v4 : IntKind.i64.wrap (D - m2) = S' := by rw [hS']; exact IntWalk.i64_in _ (by omega)
      have HS : Hid (S' = sumZ (fun i => (P i).1 * (P (nx n i)).2 - (P (nx n i)).1 * (P i).2) (j + 1)) := by
        show _ = _
        unfold sumZ
        rw [← hss.out, Hq.out, ha1, ha2, hb1, hb2, hm1, Int.mul_comm b1 a2, hm2]
        omega
      have HB1 : Hid (-(34359738368 * ((j + 1 : Nat) : Int)) ≤ S' ∧ S' ≤ 34359738368 * ((j + 1 : Nat) : Int)) := by
        show _ ∧ _
        have e : ((j + 1 : Nat) : Int) = (j : Int) + 1 := by omega
        rw [e, Int.mul_add]
        omega
      rw [ha1] at pa0
      rw [ha2] at pa1
      rw [hb1] at pb0
      rw [hb2] at pb1
      clear n1 n2 g1 g2 ha1 ha2 hb1 hb2 hm1 hm2 hD hS'
      clear hsb0
      go_wp2_with fail
      refine wp_region_seq 16 [⟨12, 14, #[.int .i64 0, .int .i64 0], 37⟩, ⟨13, 15, #[.int .i64 0, .int .i64 0], 37⟩] [] (by kernel_rfl) (by kernel_rfl) (by kernel_rfl) (by kernel_rfl) (by kernel_rfl) ?_ ?_ ?_
      · intro r hr; cases hr
      · intro r hr; cases hr
      simp only [List.take_succ_cons, List.take_zero, fillL, Act.put, List.setIfInBounds_toArray, List.set_cons_zero, List.set_cons_succ]
      apply seq_is (by kernel_rfl)
      · intro u wx hb hd
        replace hb := hb.nil
        have hz := hb.size
        (try simp only [World.size_alloc, World.size_setCell] at hz)
        have hz0 : bk1 < wx.heap.size := by omega
        obtain ⟨hc, hf⟩ := bcell hb
        clear hb hz
        simp [depsE, Region.binds, updE, kindOf, Prp.is, Prp.any] at hd
        go_simp
        first | exact ⟨Below.refl _ _, rfl⟩ | rfl
      apply seq_is (by kernel_rfl)
      · intro u wx hb hd
        replace hb := hb.nil
        have hz := hb.size
        (try simp only [World.size_alloc, World.size_setCell] at hz)
        have hz0 : bk1 < wx.heap.size := by omega
        obtain ⟨hc, hf⟩ := bcell hb
        clear hb hz
        simp [depsE, Region.binds, updE, kindOf, Prp.is, Prp.any] at hd
        go_simp
        first | exact ⟨Below.refl _ _, rfl⟩ | rfl
      apply seq_is (by kernel_rfl)
      · intro u wx hb hd
        replace hb := hb.nil
        have hz := hb.size
        (try simp only [World.size_alloc, World.size_setCell] at hz)
        have hz0 : bk1 < wx.heap.size := by omega
        obtain ⟨hc, hf⟩ := bcell hb
        clear hb hz
        simp [depsE, Region.binds, updE, kindOf, Prp.is, Prp.any] at hd
        go_simp
        first | exact ⟨Below.refl _ _, rfl⟩ | rfl
      apply seq_is (by kernel_rfl)
      · intro u wx hb hd
        replace hb := hb.nil
        have hz := hb.size
        (try simp only [World.size_alloc, World.size_setCell] at hz)
        have hz0 : bk1 < wx.heap.size := by omega
        obtain ⟨hc, hf⟩ := bcell hb
        clear hb hz
        simp [depsE, Region.binds, updE, kindOf, Prp.is, Prp.any] at hd
        go_simp
        first | exact ⟨Below.refl _ _, rfl⟩ | rfl
      apply seq_is (by kernel_rfl)
      · intro u wx hb hd
        replace hb := hb.nil
        have hz := hb.size
        (try simp only [World.size_alloc, World.size_setCell] at hz)
        have hz0 : bk1 < wx.heap.size := by omega
        obtain ⟨hc, hf⟩ := bcell hb
        clear hb hz
        simp [depsE, Region.binds, updE, kindOf, Prp.is, Prp.any] at hd
        go_simp
        first | exact ⟨Below.refl _ _, rfl⟩ | rfl
      apply seq_is (by kernel_rfl)
      · intro u wx hb hd
        replace hb := hb.nil
        have hz := hb.size
        (try simp only [World.size_alloc, World.size_setCell] at hz)
        have hz0 : bk1 < wx.heap.size := by omega
        obtain ⟨hc, hf⟩ := bcell hb
        clear hb hz
        simp [depsE, Region.binds, updE, kindOf, Prp.is, Prp.any] at hd
        go_simp
        first | exact ⟨Below.refl _ _, rfl⟩ | rfl
      apply seq_is (by kernel_rfl)
      · intro u wx hb hd
        replace hb := hb.nil
        have hz := hb.size
        (try simp only [World.size_alloc, World.size_setCell] at hz)
        have hz0 : bk1 < wx.heap.size := by omega
        obtain ⟨hc, hf⟩ := bcell hb
        clear hb hz
        simp [depsE, Region.binds, updE, kindOf, Prp.is, Prp.any] at hd
        go_simp
        first | exact ⟨Below.refl _ _, rfl⟩ | rfl
      apply seq_is (by kernel_rfl)
      · intro u wx hb hd
        replace hb := hb.nil
        have hz := hb.size
        (try simp only [World.size_alloc, World.size_setCell] at hz)
        have hz0 : bk1 < wx.heap.size := by omega
        obtain ⟨hc, hf⟩ := bcell hb
        clear hb hz
        simp [depsE, Region.binds, updE, kindOf, Prp.is, Prp.any] at hd
        go_simp
        first | exact ⟨Below.refl _ _, rfl⟩ | rfl
      apply seq_is (by kernel_rfl)
      · intro u wx hb hd
        replace hb := hb.nil
        have hz := hb.size
        (try simp only [World.size_alloc, World.size_setCell] at hz)
        have hz0 : bk1 < wx.heap.size := by omega
        obtain ⟨hc, hf⟩ := bcell hb
        clear hb hz
        simp [depsE, Region.binds, updE, kindOf, Prp.is, Prp.any] at hd
        go_simp
        first | exact ⟨Below.refl _ _, rfl⟩ | rfl
      apply seq_is (by kernel_rfl)
      · intro u wx hb hd
        replace hb := hb.nil
        have hz := hb.size
        (try simp only [World.size_alloc, World.size_setCell] at hz)
        have hz0 : bk1 < wx.heap.size := by omega
        obtain ⟨hc, hf⟩ := bcell hb
        clear hb hz
        simp [depsE, Region.binds, updE, kindOf, Prp.is, Prp.any] at hd
        go_simp
        first | exact ⟨Below.refl _ _, rfl⟩ | rfl
      apply seq_is (by kernel_rfl)
      · intro u wx hb hd
        replace hb := hb.nil
        have hz := hb.size
        (try simp only [World.size_alloc, World.size_setCell] at hz)
        have hz0 : bk1 < wx.heap.size := by omega
        obtain ⟨hc, hf⟩ := bcell hb
        clear hb hz
        simp [depsE, Region.binds, updE, kindOf, Prp.is, Prp.any] at hd
        go_simp
        first | exact ⟨Below.refl _ _, rfl⟩ | rfl
      apply seq_is (by kernel_rfl)
      · intro u wx hb hd
        replace hb := hb.nil
        have hz := hb.size
        (try simp only [World.size_alloc, World.size_setCell] at hz)
        have hz0 : bk1 < wx.heap.size := by omega
        obtain ⟨hc, hf⟩ := bcell hb
        clear hb hz
        simp [depsE, Region.binds, updE, kindOf, Prp.is, Prp.any] at hd
        go_simp
        first | exact ⟨Below.refl _ _, rfl⟩ | rfl
      refine seq_var ⟨12, 14, #[.int .i64 0, .int .i64 0], 37⟩ (by simp) rfl ?_ ?_
      · intro u wx hb
        refine ⟨by simp [Region.wanted], ?_⟩
        go_simp
        first | done | rfl | exact ⟨rfl, rfl⟩
      refine seq_var ⟨13, 15, #[.int .i64 0, .int .i64 0], 37⟩ (by simp) rfl ?_ ?_
      · intro u wx hb
        refine ⟨by simp [Region.wanted], ?_⟩
        go_simp
        first | done | rfl | exact ⟨rfl, rfl⟩
      apply seq_sto_agg ⟨12, 14, #[.int .i64 0, .int .i64 0], 37⟩ (by simp) rfl (by kernel_rfl) rfl (by kernel_rfl)
      · intro u wx hb hd
        replace hb := hb.nil
        have hz := hb.size
        (try simp only [World.size_alloc, World.size_setCell] at hz)
        have hz0 : bk1 < wx.heap.size := by omega
        obtain ⟨hc, hf⟩ := bcell hb
        clear hb hz
        simp [depsE, Region.binds, updE, kindOf, Prp.is, Prp.any] at hd
        refine ⟨by simp [Region.wanted], fun b' hub hlb hcells => ?_⟩
        have hub' : u 12 = .pointer (some ⟨b', 0, none⟩) := hub
        have hcells' : wx.heap[b']? = some (.cells #[.int .i64 0, .int .i64 0] 37) := hcells
        have hat := cells_at2 hcells'
        have HCL := Lib.hid hcells'
        clear hcells hcells' hub
        go_simp
        exact Stored.c2 HCL.out _ _
      apply seq_sto_agg ⟨13, 15, #[.int .i64 0, .int .i64 0], 37⟩ (by simp) rfl (by kernel_rfl) rfl (by kernel_rfl)
      · intro u wx hb hd
        replace hb := hb.nil
        have hz := hb.size
        (try simp only [World.size_alloc, World.size_setCell] at hz)
        have hz0 : bk1 < wx.heap.size := by omega
        obtain ⟨hc, hf⟩ := bcell hb
        clear hb hz
        simp [depsE, Region.binds, updE, kindOf, Prp.is, Prp.any] at hd
        refine ⟨by simp [Region.wanted], fun b' hub hlb hcells => ?_⟩
        have hub' : u 13 = .pointer (some ⟨b', 0, none⟩) := hub
        have hcells' : wx.heap[b']? = some (.cells #[.int .i64 0, .int .i64 0] 37) := hcells
        have hat := cells_at2 hcells'
        have HCL := Lib.hid hcells'
        clear hcells hcells' hub
        go_simp
        exact Stored.c2 HCL.out _ _
      intro u w5 hb hE hV hP
      replace hb := hb.nil
      clear hP
      have e0 : u 0 = _ := endE_get hE 0 (by decide) (by simp [kindOf])
      have e1 : u 1 = _ := endE_get hE 1 (by decide) (by simp [kindOf])
      have e2 : u 2 = _ := endE_get hE 2 (by decide) (by simp [kindOf])
      have e3 : u 3 = _ := endE_get hE 3 (by decide) (by simp [kindOf])
      have e4 : u 4 = _ := endE_get hE 4 (by decide) (by simp [kindOf])
      have e5 : u 5 = _ := endE_get hE 5 (by decide) (by simp [kindOf])
      have e6 : u 6 = _ := endE_get hE 6 (by decide) (by simp [kindOf])
      have e7 : u 7 = _ := endE_get hE 7 (by decide) (by simp [kindOf])
      have e8 : u 8 = _ := endE_get hE 8 (by decide) (by simp [kindOf])
      have e9 : u 9 = _ := endE_get hE 9 (by decide) (by simp [kindOf])
      have e10 : u 10 = _ := endE_get hE 10 (by decide) (by simp [kindOf])
      have e11 : u 11 = _ := endE_get hE 11 (by decide) (by simp [kindOf])
      have e14 : u 14 = _ := endE_get hE 14 (by decide) (by simp [kindOf])
      have e15 : u 15 = _ := endE_get hE 15 (by decide) (by simp [kindOf])
      obtain ⟨⟨VA, pv0, lv0, qv0⟩, ⟨nq01, -⟩, ⟨⟨VB, pv1, lv1, qv1⟩, -, -⟩⟩ := hV
      replace qv0 : w5.heap[VA]? = some (.cells (u 14).cells 37) := qv0
      rw [e14] at qv0
      replace pv0 : u 12 = .pointer (some ⟨VA, 0, none⟩) := pv0
      obtain ⟨mVA0, mVA1, mfVA, msVA⟩ := cells_at2 qv0
      have HQVA := Lib.hid qv0
      clear qv0
      replace qv1 : w5.heap[VB]? = some (.cells (u 15).cells 37) := qv1
      rw [e15] at qv1
      replace pv1 : u 13 = .pointer (some ⟨VB, 0, none⟩) := pv1
      obtain ⟨mVB0, mVB1, mfVB, msVB⟩ := cells_at2 qv1
      have HQVB := Lib.hid qv1
      clear qv1
      have dVAVB : VA ≠ VB := fun e => nq01 (by show u _ = u _; rw [pv0, pv1, e])
      clear nq01
      (try simp only [World.size_alloc, World.size_setCell] at lv0)
      have dVAw50 : VA ≠ bk1 := by omega
      (try have lbVA : w2.heap.size ≤ VA := by omega)
      clear lv0
      (try simp only [World.size_alloc, World.size_setCell] at lv1)
      have dVBw50 : VB ≠ bk1 := by omega
      (try have lbVB : w2.heap.size ≤ VB := by omega)
      clear lv1
      simp only [List.drop_succ_cons, List.drop_zero, List.take_succ_cons, List.take_zero, fillL, Act.put, List.setIfInBounds_toArray, List.set_cons_zero, List.set_cons_succ, e0, e1, e2, e3, e4, e5, e6, e7, e8, e9, e10, e11, e14, e15, pv0, pv1]
      clear e0 e1 e2 e3 e4 e5 e6 e7 e8 e9 e10 e11 e14 e15 pv0 pv1 hE
      have HBWw5 := Lib.hid hb
      have hw5 := below_step (w := w2) (by first | assumption | go_grown) hb
      have hzw5 := hb.size
      (try simp only [World.size_alloc, World.size_setCell] at hzw5)
      have hzw50 : bk1 < w5.heap.size := by omega
      have HHw5 := Lib.hid hb.block
      obtain ⟨hcw5, hfw5⟩ := bcell hb
      clear hb hzw5
      have HB5 := Lib.hid (below_step HB2r.out HBWw5.out)
      clear hcw5 hfw5 pa0 pa1 pb0 pb1
      go_wp2
      go_roundw
      case rel => exact ⟨j + 1, S', by omega, by rw [← HJ1.out]; rfl, rfl, HS, HB1.out, HB5.out⟩
      case measure => have := HJ1.out; simp [intOf]; omega
    · have HE : Hid (s = R) := by
        show _ = _
        have e : j = n := by omega
        rw [← HR.out, hss.out, e]
        rfl
      go_wp2
      go_returns
      rw [HE.out]
      exact ⟨rfl, HB2r.out⟩
end Go.Proofs.YtgbhhjdmochhpaaDoor
namespace Go.Proofs.YtgbhhjdmochhpaaDoor
open Go Go.ChangeShapes Go.WideShapes Go.RowKit Go.ChangeAt
set_option linter.unusedVariables false
set_option linter.unusedSimpArgs false

set_option maxHeartbeats 4000000 in
set_option maxRecDepth 20000 in
theorem where12_off (v : Value) (n : Nat) (P : Nat → Pt) (q1 q2 : Int) (w : World) (h : PtsAt w v n P) (hp : Hid (RefPol n P)) (hq : nearB 32768 (q1, q2) = true) (hoff : Hid (Off n P (q1, q2))) :
    Calls Tryd.prog 34 #[v, .agg #[.int .i64 q1, .int .i64 q2]] w fun e w' => e = .returned (.int .i64 (if par n P (q1, q2) = true then 1 else -1)) ∧ Below w.heap.size w w' := by
  have hnr := Lib.hid hp.out.near
  have hqr : Hid (Nr (q1, q2)) := near_nr hq
  have HF : Hid (∀ W, Calls Tryd.prog 56 #[.agg #[.int .i64 q1, .int .i64 q2]] W (fun e w' => e = .returned (.bool true) ∧ Below W.heap.size W w')) := fun W => by have := near12_any q1 q2 W; rw [hq] at this; exact this
  obtain ⟨oa, cap, rfl, hn, hc, hel⟩ := h.form
  have HEL := Lib.hid hel
  have H := Lib.hid h
  have n3 := hp.out.n3
  have n32 := hp.out.n32
  obtain ⟨R, hR⟩ : ∃ e, par n P (q1, q2) = e := ⟨_, rfl⟩
  have HRR := Lib.hid hR
  rw [hR]
  obtain ⟨Z, hZ⟩ : ∃ e : Int, (if R = true then 1 else -1) = e := ⟨_, rfl⟩
  have HZ := Lib.hid hZ
  rw [hZ]
  clear h hel hR hq hZ
  go_enter Tryd.func34, Tryd.ntmps34
  go_wp2_with fail
  (go_at_call 31; refine (check12_ok _ n P _ (H.out.below (by go_grown)) hp).mono ?_; rintro e_ w3 ⟨rfl, hb3⟩)
  have HB3 := Lib.hid (below_step (w := w) (by go_grown) hb3)
  have hQ3 : Hid (w3.heap[w.heap.size]? = some (.cells #[.int .i64 q1, .int .i64 q2] 37)) := (hb3.block w.heap.size (by simp)).trans (heapA_at _ _ _ rfl)
  have zw3 : w.heap.size < w3.heap.size := by have := hb3.size; simp only [World.size_alloc] at this; omega
  clear hb3
  obtain ⟨u3, v3, x3, y3⟩ := cells_at2 hQ3.out
  go_wp2_with fail
  (go_at_call 56; refine (HF.out _).mono ?_; rintro e_ w4 ⟨rfl, hb4⟩)
  have HB4 := Lib.hid (below_step HB3.out hb4)
  have hQ4 : Hid (w4.heap[w.heap.size]? = some (.cells #[.int .i64 q1, .int .i64 q2] 37)) := (hb4.block w.heap.size zw3).trans hQ3.out
  have zw4 : w.heap.size < w4.heap.size := by have := hb4.size; omega
  clear hb4 u3 v3 x3 y3
  go_wp2
  go_loopw [5, 6] (fun t i wr => ∃ (j : Nat) (bx : Bool), j ≤ n ∧ i = .int .i64 j ∧ t = .bool bx ∧ Hid (bx = xorTo (fun i => ray (P i) (P (nx n i)) (q1, q2)) j) ∧ w.heap.size < wr.heap.size ∧ Hid (wr.heap[w.heap.size]? = some (.cells #[.int .i64 q1, .int .i64 q2] 37)) ∧ Below w.heap.size w wr) (fun t i _ => n - (intOf i).toNat)
  case atStart => exact ⟨0, false, by omega, rfl, rfl, rfl, zw4, hQ4, HB4.out⟩
  case round =>
    obtain ⟨w2, rfl⟩ : ∃ x : World, x = wr := ⟨_, rfl⟩
    obtain ⟨j, bx, hj, rfl, rfl, hx, zw, hQ, hB2⟩ := hrel
    have HB2r := Lib.hid hB2
    clear hB2
    by_cases hlt : j < n
    · obtain ⟨J1, hJ1⟩ : ∃ e, (j : Int) + 1 = e := ⟨_, rfl⟩
      obtain ⟨q, hq⟩ : ∃ q, nx n j = q := ⟨_, rfl⟩
      have qn : q < n := by rw [← hq]; exact nx_lt (by omega)
      have i1 : IntKind.i64.wrap ((j : Int) + 1) = J1 := by rw [hJ1]; exact IntWalk.i64_in _ (by omega)
      have i2 : J1.tmod (n : Int) = (q : Int) := by rw [← hJ1, ← hq]; exact nx_mod hlt
      have i3 : IntKind.i64.wrap (q : Int) = (q : Int) := IntWalk.i64_in _ (by omega)
      have i4 : ((n : Int) == 0) = false := by simp; omega
      have i0 : ¬ n = 0 := by omega
      have i5 : (0 : Int) ≤ (q : Int) := by omega
      have i6 : (q : Int) < (n : Int) := by omega
      have i7 : IntKind.i64.wrap (J1.tmod (n : Int)) = (q : Int) := by rw [i2]; exact i3
      have HJ1 := Lib.hid hJ1
      have Hq := Lib.hid hq
      have i8 : (0 : Int) ≤ (j : Int) := by omega
      have i9 : (j : Int) < (n : Int) := by omega
      clear hJ1 hq
      obtain ⟨bk1, f1, rfl, hbl1, hcl1⟩ := HEL.out j hlt
      have hB2 := HB2r.out
      have pa0 : w2.cell? ⟨bk1, f1 + j * 2, none⟩ = some (.int .i64 (P j).1) := (hB2.cell (p := ⟨_, _, none⟩) hbl1).trans (hcl1 j hlt).1
      have pa1 : w2.cell? ⟨bk1, f1 + j * 2 + 1, none⟩ = some (.int .i64 (P j).2) := (hB2.cell (p := ⟨_, _, none⟩) hbl1).trans (hcl1 j hlt).2
      have pb0 : w2.cell? ⟨bk1, f1 + q * 2, none⟩ = some (.int .i64 (P q).1) := (hB2.cell (p := ⟨_, _, none⟩) hbl1).trans (hcl1 q qn).1
      have pb1 : w2.cell? ⟨bk1, f1 + q * 2 + 1, none⟩ = some (.int .i64 (P q).2) := (hB2.cell (p := ⟨_, _, none⟩) hbl1).trans (hcl1 q qn).2
      have zb0 : bk1 < w2.heap.size := by have := hB2.size; omega
      clear hcl1 hB2
      have HN := Lib.hid (near_nr (hnr.out j hlt))
      have HNq := Lib.hid (near_nr (hnr.out q qn))
      have HON : Hid (decide (onS (P j) (P q) (q1, q2)) = false) := decide_eq_false (by have := hoff.out j hlt; rw [Hq.out] at this; exact this)
      have HO : Hid (∀ W, Calls Tryd.prog 57 #[.agg #[.int .i64 q1, .int .i64 q2], .agg #[.int .i64 (P j).1, .int .i64 (P j).2], .agg #[.int .i64 (P q).1, .int .i64 (P q).2]] W (fun e w' => e = .returned (.bool false) ∧ Below W.heap.size W w')) := fun W => by rw [← HON.out]; exact on12_any _ _ _ _ _ _ W HN.out HNq.out hqr.out
      have HC : Hid (∀ W, Calls Tryd.prog 58 #[.agg #[.int .i64 (P j).1, .int .i64 (P j).2], .agg #[.int .i64 (P q).1, .int .i64 (P q).2], .agg #[.int .i64 q1, .int .i64 q2]] W (fun e w' => e = .returned (.int .i64 (crs ((P j).1, (P j).2) ((P q).1, (P q).2) (q1, q2))) ∧ Below W.heap.size W w')) := fun W => crs12_any _ _ _ _ _ _ W HN.out HNq.out hqr.out
      obtain ⟨RY, hRY⟩ : ∃ e, ray (P j) (P (nx n j)) (q1, q2) = e := ⟨_, rfl⟩
      have HR := Lib.hid hRY
      have HR0 : Hid (ray ((P j).1, (P j).2) ((P q).1, (P q).2) (q1, q2) = RY) := by rw [Hq.out] at hRY; exact hRY
      have HON2 : Hid (decide (onS ((P j).1, (P j).2) ((P q).1, (P q).2) (q1, q2)) = false) := HON.out
      clear hRY HON HN HNq
      obtain ⟨a1, ha1⟩ : ∃ e, (P j).1 = e := ⟨_, rfl⟩
      obtain ⟨a2, ha2⟩ : ∃ e, (P j).2 = e := ⟨_, rfl⟩
      obtain ⟨b1, hb1⟩ : ∃ e, (P q).1 = e := ⟨_, rfl⟩
      obtain ⟨b2, hb2⟩ : ∃ e, (P q).2 = e := ⟨_, rfl⟩
      rw [ha1, ha2, hb1, hb2] at HC HO HR0 HON2
      rw [ha1] at pa0
      rw [ha2] at pa1
      rw [hb1] at pb0
      rw [hb2] at pb1
      clear ha1 ha2 hb1 hb2
      obtain ⟨C, hC⟩ : ∃ e, crs (a1, a2) (b1, b2) (q1, q2) = e := ⟨_, rfl⟩
      rw [hC] at HC
      have HCC := Lib.hid hC
      clear hC
      obtain ⟨uQ, vQ, xQ, yQ⟩ := cells_at2 hQ.out
      go_wp2_with fail
      refine wp_region_seq 16 [⟨12, 14, #[.int .i64 0, .int .i64 0], 37⟩, ⟨13, 15, #[.int .i64 0, .int .i64 0], 37⟩] [] (by kernel_rfl) (by kernel_rfl) (by kernel_rfl) (by kernel_rfl) (by kernel_rfl) ?_ ?_ ?_
      · intro r hr; cases hr
      · intro r hr; cases hr
      simp only [List.take_succ_cons, List.take_zero, fillL, Act.put, List.setIfInBounds_toArray, List.set_cons_zero, List.set_cons_succ]
      apply seq_is (by kernel_rfl)
      · intro u wx hb hd
        replace hb := hb.nil
        have hz := hb.size
        (try simp only [World.size_alloc, World.size_setCell] at hz)
        have hz0 : bk1 < wx.heap.size := by omega
        have hz1 : w.heap.size < wx.heap.size := by omega
        obtain ⟨hc, hf⟩ := bcell hb
        clear hb hz
        simp [depsE, Region.binds, updE, kindOf, Prp.is, Prp.any] at hd
        go_simp
        first | exact ⟨Below.refl _ _, rfl⟩ | rfl
      apply seq_is (by kernel_rfl)
      · intro u wx hb hd
        replace hb := hb.nil
        have hz := hb.size
        (try simp only [World.size_alloc, World.size_setCell] at hz)
        have hz0 : bk1 < wx.heap.size := by omega
        have hz1 : w.heap.size < wx.heap.size := by omega
        obtain ⟨hc, hf⟩ := bcell hb
        clear hb hz
        simp [depsE, Region.binds, updE, kindOf, Prp.is, Prp.any] at hd
        go_simp
        first | exact ⟨Below.refl _ _, rfl⟩ | rfl
      apply seq_is (by kernel_rfl)
      · intro u wx hb hd
        replace hb := hb.nil
        have hz := hb.size
        (try simp only [World.size_alloc, World.size_setCell] at hz)
        have hz0 : bk1 < wx.heap.size := by omega
        have hz1 : w.heap.size < wx.heap.size := by omega
        obtain ⟨hc, hf⟩ := bcell hb
        clear hb hz
        simp [depsE, Region.binds, updE, kindOf, Prp.is, Prp.any] at hd
        go_simp
        first | exact ⟨Below.refl _ _, rfl⟩ | rfl
      apply seq_is (by kernel_rfl)
      · intro u wx hb hd
        replace hb := hb.nil
        have hz := hb.size
        (try simp only [World.size_alloc, World.size_setCell] at hz)
        have hz0 : bk1 < wx.heap.size := by omega
        have hz1 : w.heap.size < wx.heap.size := by omega
        obtain ⟨hc, hf⟩ := bcell hb
        clear hb hz
        simp [depsE, Region.binds, updE, kindOf, Prp.is, Prp.any] at hd
        go_simp
        first | exact ⟨Below.refl _ _, rfl⟩ | rfl
      apply seq_is (by kernel_rfl)
      · intro u wx hb hd
        replace hb := hb.nil
        have hz := hb.size
        (try simp only [World.size_alloc, World.size_setCell] at hz)
        have hz0 : bk1 < wx.heap.size := by omega
        have hz1 : w.heap.size < wx.heap.size := by omega
        obtain ⟨hc, hf⟩ := bcell hb
        clear hb hz
        simp [depsE, Region.binds, updE, kindOf, Prp.is, Prp.any] at hd
        go_simp
        first | exact ⟨Below.refl _ _, rfl⟩ | rfl
      apply seq_is (by kernel_rfl)
      · intro u wx hb hd
        replace hb := hb.nil
        have hz := hb.size
        (try simp only [World.size_alloc, World.size_setCell] at hz)
        have hz0 : bk1 < wx.heap.size := by omega
        have hz1 : w.heap.size < wx.heap.size := by omega
        obtain ⟨hc, hf⟩ := bcell hb
        clear hb hz
        simp [depsE, Region.binds, updE, kindOf, Prp.is, Prp.any] at hd
        go_simp
        first | exact ⟨Below.refl _ _, rfl⟩ | rfl
      apply seq_is (by kernel_rfl)
      · intro u wx hb hd
        replace hb := hb.nil
        have hz := hb.size
        (try simp only [World.size_alloc, World.size_setCell] at hz)
        have hz0 : bk1 < wx.heap.size := by omega
        have hz1 : w.heap.size < wx.heap.size := by omega
        obtain ⟨hc, hf⟩ := bcell hb
        clear hb hz
        simp [depsE, Region.binds, updE, kindOf, Prp.is, Prp.any] at hd
        go_simp
        first | exact ⟨Below.refl _ _, rfl⟩ | rfl
      apply seq_is (by kernel_rfl)
      · intro u wx hb hd
        replace hb := hb.nil
        have hz := hb.size
        (try simp only [World.size_alloc, World.size_setCell] at hz)
        have hz0 : bk1 < wx.heap.size := by omega
        have hz1 : w.heap.size < wx.heap.size := by omega
        obtain ⟨hc, hf⟩ := bcell hb
        clear hb hz
        simp [depsE, Region.binds, updE, kindOf, Prp.is, Prp.any] at hd
        go_simp
        first | exact ⟨Below.refl _ _, rfl⟩ | rfl
      apply seq_is (by kernel_rfl)
      · intro u wx hb hd
        replace hb := hb.nil
        have hz := hb.size
        (try simp only [World.size_alloc, World.size_setCell] at hz)
        have hz0 : bk1 < wx.heap.size := by omega
        have hz1 : w.heap.size < wx.heap.size := by omega
        obtain ⟨hc, hf⟩ := bcell hb
        clear hb hz
        simp [depsE, Region.binds, updE, kindOf, Prp.is, Prp.any] at hd
        go_simp
        first | exact ⟨Below.refl _ _, rfl⟩ | rfl
      apply seq_is (by kernel_rfl)
      · intro u wx hb hd
        replace hb := hb.nil
        have hz := hb.size
        (try simp only [World.size_alloc, World.size_setCell] at hz)
        have hz0 : bk1 < wx.heap.size := by omega
        have hz1 : w.heap.size < wx.heap.size := by omega
        obtain ⟨hc, hf⟩ := bcell hb
        clear hb hz
        simp [depsE, Region.binds, updE, kindOf, Prp.is, Prp.any] at hd
        go_simp
        first | exact ⟨Below.refl _ _, rfl⟩ | rfl
      apply seq_is (by kernel_rfl)
      · intro u wx hb hd
        replace hb := hb.nil
        have hz := hb.size
        (try simp only [World.size_alloc, World.size_setCell] at hz)
        have hz0 : bk1 < wx.heap.size := by omega
        have hz1 : w.heap.size < wx.heap.size := by omega
        obtain ⟨hc, hf⟩ := bcell hb
        clear hb hz
        simp [depsE, Region.binds, updE, kindOf, Prp.is, Prp.any] at hd
        go_simp
        first | exact ⟨Below.refl _ _, rfl⟩ | rfl
      apply seq_is (by kernel_rfl)
      · intro u wx hb hd
        replace hb := hb.nil
        have hz := hb.size
        (try simp only [World.size_alloc, World.size_setCell] at hz)
        have hz0 : bk1 < wx.heap.size := by omega
        have hz1 : w.heap.size < wx.heap.size := by omega
        obtain ⟨hc, hf⟩ := bcell hb
        clear hb hz
        simp [depsE, Region.binds, updE, kindOf, Prp.is, Prp.any] at hd
        go_simp
        first | exact ⟨Below.refl _ _, rfl⟩ | rfl
      refine seq_var ⟨12, 14, #[.int .i64 0, .int .i64 0], 37⟩ (by simp) rfl ?_ ?_
      · intro u wx hb
        refine ⟨by simp [Region.wanted], ?_⟩
        go_simp
        first | done | rfl | exact ⟨rfl, rfl⟩
      refine seq_var ⟨13, 15, #[.int .i64 0, .int .i64 0], 37⟩ (by simp) rfl ?_ ?_
      · intro u wx hb
        refine ⟨by simp [Region.wanted], ?_⟩
        go_simp
        first | done | rfl | exact ⟨rfl, rfl⟩
      apply seq_sto_agg ⟨12, 14, #[.int .i64 0, .int .i64 0], 37⟩ (by simp) rfl (by kernel_rfl) rfl (by kernel_rfl)
      · intro u wx hb hd
        replace hb := hb.nil
        have hz := hb.size
        (try simp only [World.size_alloc, World.size_setCell] at hz)
        have hz0 : bk1 < wx.heap.size := by omega
        have hz1 : w.heap.size < wx.heap.size := by omega
        obtain ⟨hc, hf⟩ := bcell hb
        clear hb hz
        simp [depsE, Region.binds, updE, kindOf, Prp.is, Prp.any] at hd
        refine ⟨by simp [Region.wanted], fun b' hub hlb hcells => ?_⟩
        have hub' : u 12 = .pointer (some ⟨b', 0, none⟩) := hub
        have hcells' : wx.heap[b']? = some (.cells #[.int .i64 0, .int .i64 0] 37) := hcells
        have hat := cells_at2 hcells'
        have HCL := Lib.hid hcells'
        clear hcells hcells' hub
        go_simp
        exact Stored.c2 HCL.out _ _
      apply seq_sto_agg ⟨13, 15, #[.int .i64 0, .int .i64 0], 37⟩ (by simp) rfl (by kernel_rfl) rfl (by kernel_rfl)
      · intro u wx hb hd
        replace hb := hb.nil
        have hz := hb.size
        (try simp only [World.size_alloc, World.size_setCell] at hz)
        have hz0 : bk1 < wx.heap.size := by omega
        have hz1 : w.heap.size < wx.heap.size := by omega
        obtain ⟨hc, hf⟩ := bcell hb
        clear hb hz
        simp [depsE, Region.binds, updE, kindOf, Prp.is, Prp.any] at hd
        refine ⟨by simp [Region.wanted], fun b' hub hlb hcells => ?_⟩
        have hub' : u 13 = .pointer (some ⟨b', 0, none⟩) := hub
        have hcells' : wx.heap[b']? = some (.cells #[.int .i64 0, .int .i64 0] 37) := hcells
        have hat := cells_at2 hcells'
        have HCL := Lib.hid hcells'
        clear hcells hcells' hub
        go_simp
        exact Stored.c2 HCL.out _ _
      intro u w5 hb hE hV hP
      replace hb := hb.nil
      clear hP
      have e0 : u 0 = _ := endE_get hE 0 (by decide) (by simp [kindOf])
      have e1 : u 1 = _ := endE_get hE 1 (by decide) (by simp [kindOf])
      have e2 : u 2 = _ := endE_get hE 2 (by decide) (by simp [kindOf])
      have e3 : u 3 = _ := endE_get hE 3 (by decide) (by simp [kindOf])
      have e4 : u 4 = _ := endE_get hE 4 (by decide) (by simp [kindOf])
      have e5 : u 5 = _ := endE_get hE 5 (by decide) (by simp [kindOf])
      have e6 : u 6 = _ := endE_get hE 6 (by decide) (by simp [kindOf])
      have e7 : u 7 = _ := endE_get hE 7 (by decide) (by simp [kindOf])
      have e8 : u 8 = _ := endE_get hE 8 (by decide) (by simp [kindOf])
      have e9 : u 9 = _ := endE_get hE 9 (by decide) (by simp [kindOf])
      have e10 : u 10 = _ := endE_get hE 10 (by decide) (by simp [kindOf])
      have e11 : u 11 = _ := endE_get hE 11 (by decide) (by simp [kindOf])
      have e14 : u 14 = _ := endE_get hE 14 (by decide) (by simp [kindOf])
      have e15 : u 15 = _ := endE_get hE 15 (by decide) (by simp [kindOf])
      obtain ⟨⟨VA, pv0, lv0, qv0⟩, ⟨nq01, -⟩, ⟨⟨VB, pv1, lv1, qv1⟩, -, -⟩⟩ := hV
      replace qv0 : w5.heap[VA]? = some (.cells (u 14).cells 37) := qv0
      rw [e14] at qv0
      replace pv0 : u 12 = .pointer (some ⟨VA, 0, none⟩) := pv0
      obtain ⟨mVA0, mVA1, mfVA, msVA⟩ := cells_at2 qv0
      have HQVA := Lib.hid qv0
      clear qv0
      replace qv1 : w5.heap[VB]? = some (.cells (u 15).cells 37) := qv1
      rw [e15] at qv1
      replace pv1 : u 13 = .pointer (some ⟨VB, 0, none⟩) := pv1
      obtain ⟨mVB0, mVB1, mfVB, msVB⟩ := cells_at2 qv1
      have HQVB := Lib.hid qv1
      clear qv1
      have dVAVB : VA ≠ VB := fun e => nq01 (by show u _ = u _; rw [pv0, pv1, e])
      clear nq01
      (try simp only [World.size_alloc, World.size_setCell] at lv0)
      have dVAw50 : VA ≠ bk1 := by omega
      have dVAw51 : VA ≠ w.heap.size := by omega
      (try have lbVA : w2.heap.size ≤ VA := by omega)
      clear lv0
      (try simp only [World.size_alloc, World.size_setCell] at lv1)
      have dVBw50 : VB ≠ bk1 := by omega
      have dVBw51 : VB ≠ w.heap.size := by omega
      (try have lbVB : w2.heap.size ≤ VB := by omega)
      clear lv1
      simp only [List.drop_succ_cons, List.drop_zero, List.take_succ_cons, List.take_zero, fillL, Act.put, List.setIfInBounds_toArray, List.set_cons_zero, List.set_cons_succ, e0, e1, e2, e3, e4, e5, e6, e7, e8, e9, e10, e11, e14, e15, pv0, pv1]
      clear e0 e1 e2 e3 e4 e5 e6 e7 e8 e9 e10 e11 e14 e15 pv0 pv1 hE
      have HBWw5 := Lib.hid hb
      have hw5 := below_step (w := w2) (by first | assumption | go_grown) hb
      have hzw5 := hb.size
      (try simp only [World.size_alloc, World.size_setCell] at hzw5)
      have hzw50 : bk1 < w5.heap.size := by omega
      have hzw51 : w.heap.size < w5.heap.size := by omega
      have HHw5 := Lib.hid hb.block
      obtain ⟨hcw5, hfw5⟩ := bcell hb
      clear hb hzw5
      have HB5 := Lib.hid (below_step HB2r.out HBWw5.out)
      have hQ5 : Hid (w5.heap[w.heap.size]? = some (.cells #[.int .i64 q1, .int .i64 q2] 37)) := (HBWw5.out.block _ zw).trans hQ.out
      clear hcw5 hfw5 pa0 pa1 pb0 pb1 uQ vQ xQ yQ
      obtain ⟨uQ5, vQ5, xQ5, yQ5⟩ := cells_at2 hQ5.out
      by_cases h1 : q2 < a2
      · by_cases h2 : q2 < b2
        · have k1 : decide (q2 < a2) = true := decide_eq_true h1
          have k2 : decide (q2 < b2) = true := decide_eq_true h2
          have k5 : decide (a2 ≤ q2) = false := decide_eq_false (by omega)
          have k6 : decide (b2 ≤ q2) = false := decide_eq_false (by omega)
          have hR0 : RY = false := by rw [← HR0.out]; unfold ray; dsimp only; rw [k1, k2]; rfl
          clear h1 h2
          go_wp2_with fail
          (go_at_call 57; refine (HO.out _).mono ?_; rintro e_ w6 ⟨rfl, hb6⟩)
          have zw6 := hb6.size
          have KQ : w6.heap[w.heap.size]? = some (.cells #[.int .i64 q1, .int .i64 q2] 37) := (hb6.block (w.heap.size) (by first | omega | (simp; done) | (simp <;> omega))).trans hQ5.out
          obtain ⟨uQ6, vQ6, xQ6, yQ6⟩ := cells_at2 KQ
          have HKQ6 := Lib.hid KQ
          clear KQ
          have KX : w6.heap[VA]? = some (.cells #[.int .i64 a1, .int .i64 a2] 37) := (hb6.block (VA) (by first | omega | (simp; done) | (simp <;> omega))).trans HQVA.out
          obtain ⟨uX6, vX6, xX6, yX6⟩ := cells_at2 KX
          have HKX6 := Lib.hid KX
          clear KX
          have KY : w6.heap[VB]? = some (.cells #[.int .i64 b1, .int .i64 b2] 37) := (hb6.block (VB) (by first | omega | (simp; done) | (simp <;> omega))).trans HQVB.out
          obtain ⟨uY6, vY6, xY6, yY6⟩ := cells_at2 KY
          have HKY6 := Lib.hid KY
          clear KY
          have HB6 := Lib.hid (below_step HB5.out hb6)
          clear uQ5 vQ5 xQ5 yQ5 hb6 mVA0 mVA1 mVB0 mVB1 mfVA mfVB
          have hq2 : Hid (bx = xorTo (fun i => ray (P i) (P (nx n i)) (q1, q2)) (j + 1)) := by
            show _ = _
            unfold xorTo
            rw [← hx.out, HR.out, hR0]
            (cases bx <;> rfl)
          go_wp2
          go_roundw
          case rel => exact ⟨j + 1, bx, by omega, by rw [← HJ1.out]; rfl, by cases bx <;> rfl, hq2, by omega, HKQ6.out, HB6.out⟩
          case measure => have := HJ1.out; simp [intOf]; omega
        · have k1 : decide (q2 < a2) = true := decide_eq_true h1
          have k2 : decide (q2 < b2) = false := decide_eq_false h2
          have k5 : decide (a2 ≤ q2) = false := decide_eq_false (by omega)
          have k6 : decide (b2 ≤ q2) = true := decide_eq_true (by omega)
          have k3 : decide (a2 < b2) = false := decide_eq_false (by omega)
          have HC0 : Hid (C ≠ 0) := fun e => of_decide_eq_false HON2.out (on_of_lev (by show a2 ≠ b2; omega) (HCC.out.trans e) (by show bt a2 b2 q2; unfold bt; omega))
          by_cases h3 : 0 < C
          · have k4 : decide (0 < C) = true := decide_eq_true h3
            have hR0 : RY = false := by rw [← HR0.out]; unfold ray; dsimp only; rw [k1, k2, k3, HCC.out, k4]; rfl
            have k7 : decide (C < 0) = false := decide_eq_false (by have := HC0.out; omega)
            clear h1 h2 h3
            go_wp2_with fail
            (go_at_call 57; refine (HO.out _).mono ?_; rintro e_ w6 ⟨rfl, hb6⟩)
            have zw6 := hb6.size
            have KQ : w6.heap[w.heap.size]? = some (.cells #[.int .i64 q1, .int .i64 q2] 37) := (hb6.block (w.heap.size) (by first | omega | (simp; done) | (simp <;> omega))).trans hQ5.out
            obtain ⟨uQ6, vQ6, xQ6, yQ6⟩ := cells_at2 KQ
            have HKQ6 := Lib.hid KQ
            clear KQ
            have KX : w6.heap[VA]? = some (.cells #[.int .i64 a1, .int .i64 a2] 37) := (hb6.block (VA) (by first | omega | (simp; done) | (simp <;> omega))).trans HQVA.out
            obtain ⟨uX6, vX6, xX6, yX6⟩ := cells_at2 KX
            have HKX6 := Lib.hid KX
            clear KX
            have KY : w6.heap[VB]? = some (.cells #[.int .i64 b1, .int .i64 b2] 37) := (hb6.block (VB) (by first | omega | (simp; done) | (simp <;> omega))).trans HQVB.out
            obtain ⟨uY6, vY6, xY6, yY6⟩ := cells_at2 KY
            have HKY6 := Lib.hid KY
            clear KY
            have HB6 := Lib.hid (below_step HB5.out hb6)
            clear uQ5 vQ5 xQ5 yQ5 hb6 mVA0 mVA1 mVB0 mVB1 mfVA mfVB
            go_wp2_with fail
            (go_at_call 58; refine (HC.out _).mono ?_; rintro e_ w7 ⟨rfl, hb7⟩)
            have zw7 := hb7.size
            have KQ : w7.heap[w.heap.size]? = some (.cells #[.int .i64 q1, .int .i64 q2] 37) := (hb7.block (w.heap.size) (by first | omega | (simp; done) | (simp <;> omega))).trans HKQ6.out
            obtain ⟨uQ7, vQ7, xQ7, yQ7⟩ := cells_at2 KQ
            have HKQ7 := Lib.hid KQ
            clear KQ
            have KX : w7.heap[VA]? = some (.cells #[.int .i64 a1, .int .i64 a2] 37) := (hb7.block (VA) (by first | omega | (simp; done) | (simp <;> omega))).trans HKX6.out
            obtain ⟨uX7, vX7, xX7, yX7⟩ := cells_at2 KX
            have HKX7 := Lib.hid KX
            clear KX
            have KY : w7.heap[VB]? = some (.cells #[.int .i64 b1, .int .i64 b2] 37) := (hb7.block (VB) (by first | omega | (simp; done) | (simp <;> omega))).trans HKY6.out
            obtain ⟨uY7, vY7, xY7, yY7⟩ := cells_at2 KY
            have HKY7 := Lib.hid KY
            clear KY
            have HB7 := Lib.hid (below_step HB6.out hb7)
            clear hb7 uQ6 vQ6 xQ6 yQ6 uX6 vX6 xX6 yX6 uY6 vY6 xY6 yY6
            have hq2 : Hid (bx = xorTo (fun i => ray (P i) (P (nx n i)) (q1, q2)) (j + 1)) := by
              show _ = _
              unfold xorTo
              rw [← hx.out, HR.out, hR0]
              (cases bx <;> rfl)
            go_wp2
            go_roundw
            case rel => exact ⟨j + 1, bx, by omega, by rw [← HJ1.out]; rfl, by cases bx <;> rfl, hq2, by omega, HKQ7.out, HB7.out⟩
            case measure => have := HJ1.out; simp [intOf]; omega
          · have k4 : decide (0 < C) = false := decide_eq_false h3
            have hR0 : RY = true := by rw [← HR0.out]; unfold ray; dsimp only; rw [k1, k2, k3, HCC.out, k4]; rfl
            have k7 : decide (C < 0) = true := decide_eq_true (by have := HC0.out; omega)
            clear h1 h2 h3
            go_wp2_with fail
            (go_at_call 57; refine (HO.out _).mono ?_; rintro e_ w6 ⟨rfl, hb6⟩)
            have zw6 := hb6.size
            have KQ : w6.heap[w.heap.size]? = some (.cells #[.int .i64 q1, .int .i64 q2] 37) := (hb6.block (w.heap.size) (by first | omega | (simp; done) | (simp <;> omega))).trans hQ5.out
            obtain ⟨uQ6, vQ6, xQ6, yQ6⟩ := cells_at2 KQ
            have HKQ6 := Lib.hid KQ
            clear KQ
            have KX : w6.heap[VA]? = some (.cells #[.int .i64 a1, .int .i64 a2] 37) := (hb6.block (VA) (by first | omega | (simp; done) | (simp <;> omega))).trans HQVA.out
            obtain ⟨uX6, vX6, xX6, yX6⟩ := cells_at2 KX
            have HKX6 := Lib.hid KX
            clear KX
            have KY : w6.heap[VB]? = some (.cells #[.int .i64 b1, .int .i64 b2] 37) := (hb6.block (VB) (by first | omega | (simp; done) | (simp <;> omega))).trans HQVB.out
            obtain ⟨uY6, vY6, xY6, yY6⟩ := cells_at2 KY
            have HKY6 := Lib.hid KY
            clear KY
            have HB6 := Lib.hid (below_step HB5.out hb6)
            clear uQ5 vQ5 xQ5 yQ5 hb6 mVA0 mVA1 mVB0 mVB1 mfVA mfVB
            go_wp2_with fail
            (go_at_call 58; refine (HC.out _).mono ?_; rintro e_ w7 ⟨rfl, hb7⟩)
            have zw7 := hb7.size
            have KQ : w7.heap[w.heap.size]? = some (.cells #[.int .i64 q1, .int .i64 q2] 37) := (hb7.block (w.heap.size) (by first | omega | (simp; done) | (simp <;> omega))).trans HKQ6.out
            obtain ⟨uQ7, vQ7, xQ7, yQ7⟩ := cells_at2 KQ
            have HKQ7 := Lib.hid KQ
            clear KQ
            have KX : w7.heap[VA]? = some (.cells #[.int .i64 a1, .int .i64 a2] 37) := (hb7.block (VA) (by first | omega | (simp; done) | (simp <;> omega))).trans HKX6.out
            obtain ⟨uX7, vX7, xX7, yX7⟩ := cells_at2 KX
            have HKX7 := Lib.hid KX
            clear KX
            have KY : w7.heap[VB]? = some (.cells #[.int .i64 b1, .int .i64 b2] 37) := (hb7.block (VB) (by first | omega | (simp; done) | (simp <;> omega))).trans HKY6.out
            obtain ⟨uY7, vY7, xY7, yY7⟩ := cells_at2 KY
            have HKY7 := Lib.hid KY
            clear KY
            have HB7 := Lib.hid (below_step HB6.out hb7)
            clear hb7 uQ6 vQ6 xQ6 yQ6 uX6 vX6 xX6 yX6 uY6 vY6 xY6 yY6
            have hq2 : Hid ((!bx) = xorTo (fun i => ray (P i) (P (nx n i)) (q1, q2)) (j + 1)) := by
              show _ = _
              unfold xorTo
              rw [← hx.out, HR.out, hR0]
              (cases bx <;> rfl)
            go_wp2
            go_roundw
            case rel => exact ⟨j + 1, (!bx), by omega, by rw [← HJ1.out]; rfl, by cases bx <;> rfl, hq2, by omega, HKQ7.out, HB7.out⟩
            case measure => have := HJ1.out; simp [intOf]; omega
      · by_cases h2 : q2 < b2
        · have k1 : decide (q2 < a2) = false := decide_eq_false h1
          have k2 : decide (q2 < b2) = true := decide_eq_true h2
          have k5 : decide (a2 ≤ q2) = true := decide_eq_true (by omega)
          have k6 : decide (b2 ≤ q2) = false := decide_eq_false (by omega)
          have k3 : decide (a2 < b2) = true := decide_eq_true (by omega)
          have HC0 : Hid (C ≠ 0) := fun e => of_decide_eq_false HON2.out (on_of_lev (by show a2 ≠ b2; omega) (HCC.out.trans e) (by show bt a2 b2 q2; unfold bt; omega))
          by_cases h3 : 0 < C
          · have k4 : decide (0 < C) = true := decide_eq_true h3
            have hR0 : RY = true := by rw [← HR0.out]; unfold ray; dsimp only; rw [k1, k2, k3, HCC.out, k4]; rfl
            have k7 : decide (0 < C) = true := k4
            clear h1 h2 h3
            go_wp2_with fail
            (go_at_call 57; refine (HO.out _).mono ?_; rintro e_ w6 ⟨rfl, hb6⟩)
            have zw6 := hb6.size
            have KQ : w6.heap[w.heap.size]? = some (.cells #[.int .i64 q1, .int .i64 q2] 37) := (hb6.block (w.heap.size) (by first | omega | (simp; done) | (simp <;> omega))).trans hQ5.out
            obtain ⟨uQ6, vQ6, xQ6, yQ6⟩ := cells_at2 KQ
            have HKQ6 := Lib.hid KQ
            clear KQ
            have KX : w6.heap[VA]? = some (.cells #[.int .i64 a1, .int .i64 a2] 37) := (hb6.block (VA) (by first | omega | (simp; done) | (simp <;> omega))).trans HQVA.out
            obtain ⟨uX6, vX6, xX6, yX6⟩ := cells_at2 KX
            have HKX6 := Lib.hid KX
            clear KX
            have KY : w6.heap[VB]? = some (.cells #[.int .i64 b1, .int .i64 b2] 37) := (hb6.block (VB) (by first | omega | (simp; done) | (simp <;> omega))).trans HQVB.out
            obtain ⟨uY6, vY6, xY6, yY6⟩ := cells_at2 KY
            have HKY6 := Lib.hid KY
            clear KY
            have HB6 := Lib.hid (below_step HB5.out hb6)
            clear uQ5 vQ5 xQ5 yQ5 hb6 mVA0 mVA1 mVB0 mVB1 mfVA mfVB
            go_wp2_with fail
            (go_at_call 58; refine (HC.out _).mono ?_; rintro e_ w7 ⟨rfl, hb7⟩)
            have zw7 := hb7.size
            have KQ : w7.heap[w.heap.size]? = some (.cells #[.int .i64 q1, .int .i64 q2] 37) := (hb7.block (w.heap.size) (by first | omega | (simp; done) | (simp <;> omega))).trans HKQ6.out
            obtain ⟨uQ7, vQ7, xQ7, yQ7⟩ := cells_at2 KQ
            have HKQ7 := Lib.hid KQ
            clear KQ
            have KX : w7.heap[VA]? = some (.cells #[.int .i64 a1, .int .i64 a2] 37) := (hb7.block (VA) (by first | omega | (simp; done) | (simp <;> omega))).trans HKX6.out
            obtain ⟨uX7, vX7, xX7, yX7⟩ := cells_at2 KX
            have HKX7 := Lib.hid KX
            clear KX
            have KY : w7.heap[VB]? = some (.cells #[.int .i64 b1, .int .i64 b2] 37) := (hb7.block (VB) (by first | omega | (simp; done) | (simp <;> omega))).trans HKY6.out
            obtain ⟨uY7, vY7, xY7, yY7⟩ := cells_at2 KY
            have HKY7 := Lib.hid KY
            clear KY
            have HB7 := Lib.hid (below_step HB6.out hb7)
            clear hb7 uQ6 vQ6 xQ6 yQ6 uX6 vX6 xX6 yX6 uY6 vY6 xY6 yY6
            have hq2 : Hid ((!bx) = xorTo (fun i => ray (P i) (P (nx n i)) (q1, q2)) (j + 1)) := by
              show _ = _
              unfold xorTo
              rw [← hx.out, HR.out, hR0]
              (cases bx <;> rfl)
            go_wp2
            go_roundw
            case rel => exact ⟨j + 1, (!bx), by omega, by rw [← HJ1.out]; rfl, by cases bx <;> rfl, hq2, by omega, HKQ7.out, HB7.out⟩
            case measure => have := HJ1.out; simp [intOf]; omega
          · have k4 : decide (0 < C) = false := decide_eq_false h3
            have hR0 : RY = false := by rw [← HR0.out]; unfold ray; dsimp only; rw [k1, k2, k3, HCC.out, k4]; rfl
            have k7 : decide (0 < C) = false := k4
            clear h1 h2 h3
            go_wp2_with fail
            (go_at_call 57; refine (HO.out _).mono ?_; rintro e_ w6 ⟨rfl, hb6⟩)
            have zw6 := hb6.size
            have KQ : w6.heap[w.heap.size]? = some (.cells #[.int .i64 q1, .int .i64 q2] 37) := (hb6.block (w.heap.size) (by first | omega | (simp; done) | (simp <;> omega))).trans hQ5.out
            obtain ⟨uQ6, vQ6, xQ6, yQ6⟩ := cells_at2 KQ
            have HKQ6 := Lib.hid KQ
            clear KQ
            have KX : w6.heap[VA]? = some (.cells #[.int .i64 a1, .int .i64 a2] 37) := (hb6.block (VA) (by first | omega | (simp; done) | (simp <;> omega))).trans HQVA.out
            obtain ⟨uX6, vX6, xX6, yX6⟩ := cells_at2 KX
            have HKX6 := Lib.hid KX
            clear KX
            have KY : w6.heap[VB]? = some (.cells #[.int .i64 b1, .int .i64 b2] 37) := (hb6.block (VB) (by first | omega | (simp; done) | (simp <;> omega))).trans HQVB.out
            obtain ⟨uY6, vY6, xY6, yY6⟩ := cells_at2 KY
            have HKY6 := Lib.hid KY
            clear KY
            have HB6 := Lib.hid (below_step HB5.out hb6)
            clear uQ5 vQ5 xQ5 yQ5 hb6 mVA0 mVA1 mVB0 mVB1 mfVA mfVB
            go_wp2_with fail
            (go_at_call 58; refine (HC.out _).mono ?_; rintro e_ w7 ⟨rfl, hb7⟩)
            have zw7 := hb7.size
            have KQ : w7.heap[w.heap.size]? = some (.cells #[.int .i64 q1, .int .i64 q2] 37) := (hb7.block (w.heap.size) (by first | omega | (simp; done) | (simp <;> omega))).trans HKQ6.out
            obtain ⟨uQ7, vQ7, xQ7, yQ7⟩ := cells_at2 KQ
            have HKQ7 := Lib.hid KQ
            clear KQ
            have KX : w7.heap[VA]? = some (.cells #[.int .i64 a1, .int .i64 a2] 37) := (hb7.block (VA) (by first | omega | (simp; done) | (simp <;> omega))).trans HKX6.out
            obtain ⟨uX7, vX7, xX7, yX7⟩ := cells_at2 KX
            have HKX7 := Lib.hid KX
            clear KX
            have KY : w7.heap[VB]? = some (.cells #[.int .i64 b1, .int .i64 b2] 37) := (hb7.block (VB) (by first | omega | (simp; done) | (simp <;> omega))).trans HKY6.out
            obtain ⟨uY7, vY7, xY7, yY7⟩ := cells_at2 KY
            have HKY7 := Lib.hid KY
            clear KY
            have HB7 := Lib.hid (below_step HB6.out hb7)
            clear hb7 uQ6 vQ6 xQ6 yQ6 uX6 vX6 xX6 yX6 uY6 vY6 xY6 yY6
            have hq2 : Hid (bx = xorTo (fun i => ray (P i) (P (nx n i)) (q1, q2)) (j + 1)) := by
              show _ = _
              unfold xorTo
              rw [← hx.out, HR.out, hR0]
              (cases bx <;> rfl)
            go_wp2
            go_roundw
            case rel => exact ⟨j + 1, bx, by omega, by rw [← HJ1.out]; rfl, by cases bx <;> rfl, hq2, by omega, HKQ7.out, HB7.out⟩
            case measure => have := HJ1.out; simp [intOf]; omega
        · have k1 : decide (q2 < a2) = false := decide_eq_false h1
          have k2 : decide (q2 < b2) = false := decide_eq_false h2
          have k5 : decide (a2 ≤ q2) = true := decide_eq_true (by omega)
          have k6 : decide (b2 ≤ q2) = true := decide_eq_true (by omega)
          have hR0 : RY = false := by rw [← HR0.out]; unfold ray; dsimp only; rw [k1, k2]; rfl
          clear h1 h2
          go_wp2_with fail
          (go_at_call 57; refine (HO.out _).mono ?_; rintro e_ w6 ⟨rfl, hb6⟩)
          have zw6 := hb6.size
          have KQ : w6.heap[w.heap.size]? = some (.cells #[.int .i64 q1, .int .i64 q2] 37) := (hb6.block (w.heap.size) (by first | omega | (simp; done) | (simp <;> omega))).trans hQ5.out
          obtain ⟨uQ6, vQ6, xQ6, yQ6⟩ := cells_at2 KQ
          have HKQ6 := Lib.hid KQ
          clear KQ
          have KX : w6.heap[VA]? = some (.cells #[.int .i64 a1, .int .i64 a2] 37) := (hb6.block (VA) (by first | omega | (simp; done) | (simp <;> omega))).trans HQVA.out
          obtain ⟨uX6, vX6, xX6, yX6⟩ := cells_at2 KX
          have HKX6 := Lib.hid KX
          clear KX
          have KY : w6.heap[VB]? = some (.cells #[.int .i64 b1, .int .i64 b2] 37) := (hb6.block (VB) (by first | omega | (simp; done) | (simp <;> omega))).trans HQVB.out
          obtain ⟨uY6, vY6, xY6, yY6⟩ := cells_at2 KY
          have HKY6 := Lib.hid KY
          clear KY
          have HB6 := Lib.hid (below_step HB5.out hb6)
          clear uQ5 vQ5 xQ5 yQ5 hb6 mVA0 mVA1 mVB0 mVB1 mfVA mfVB
          have hq2 : Hid (bx = xorTo (fun i => ray (P i) (P (nx n i)) (q1, q2)) (j + 1)) := by
            show _ = _
            unfold xorTo
            rw [← hx.out, HR.out, hR0]
            (cases bx <;> rfl)
          go_wp2
          go_roundw
          case rel => exact ⟨j + 1, bx, by omega, by rw [← HJ1.out]; rfl, by cases bx <;> rfl, hq2, by omega, HKQ6.out, HB6.out⟩
          case measure => have := HJ1.out; simp [intOf]; omega
    · have HE : Hid (R = bx) := by
        show _ = _
        have e : j = n := by omega
        rw [← HRR.out, hx.out, e]
        rfl
      have hB := HB2r.out
      cases bx with
      | false =>
        have HZ0 : Hid (Z = -1) := by show _ = _; rw [← HZ.out, HE.out]; rfl
        go_wp2
        go_returns
        rw [HZ0.out]
        exact ⟨rfl, hB⟩
      | true =>
        have HZ0 : Hid (Z = 1) := by show _ = _; rw [← HZ.out, HE.out]; rfl
        go_wp2
        go_returns
        rw [HZ0.out]
        exact ⟨rfl, hB⟩
end Go.Proofs.YtgbhhjdmochhpaaDoor
