/-
  In a permitted lift no crane carries more than its chart permits, and no crane lifts twice. Conditions: none (the card ties the two tables of unicode/utf8 to the program's text). By an AI agent.
-/
import Derived.Test.YtjgpgfnnbfgkiaaDoorLiftR
import Derived.Test.YtjgpgfnnbfgkiaaDoorLiftP
namespace Go.Proofs.YtjgpgfnnbfgkiaaDoor
open Go Go.ChangeShapes Go.WideShapes Go.RowKit Go.ChangeAt
set_option linter.unusedSimpArgs false
set_option linter.unusedVariables false
theorem liftF_ok {blk : ByteArray} {n : Nat} {cr : Nat → ByteArray} {hx hy hr : Nat → Int} {m x y z v : Int} {nc : Nat} {nm : Nat → ByteArray} {rn : Nat → Nat} {rr qq : Nat → Nat → Int} (h : liftF blk n cr hx hy hr m x y z v nc nm rn rr qq = 0) :
    hooksFrom nc nm cr n 0 = 0 ∧ (loadsF n hx hy m x y z v).2 = 0 ∧ overFrom nc nm rn rr qq cr hr (loadsF n hx hy m x y z v).1 n 0 = 0 := by
  unfold liftF at h
  split at h
  · cases h
  · split at h
    · rename_i h1; exact absurd h h1
    · split at h
      · rename_i h1; exact absurd h h1
      · rename_i h1
        split at h
        · rename_i h2; exact absurd h h2
        · rename_i h2
          exact ⟨by omega, by omega, h⟩
theorem hooks_ok {nc : Nat} {nm cr : Nat → ByteArray} : ∀ k j, hooksFrom nc nm cr k j = 0 → ∀ i, j ≤ i → i < j + k → findF nc nm (cr i) < nc ∧ (0 < i → ((cr i).toList == (cr (i - 1)).toList) = false)
  | 0, j, _, i, h1, h2 => by omega
  | k + 1, j, h, i, h1, h2 => by
    unfold hooksFrom at h
    split at h
    · cases h
    · rename_i hf
      split at h
      · cases h
      · rename_i hd
        by_cases e : i = j
        · subst e
          refine ⟨by omega, fun h0 => ?_⟩
          cases hq : ((cr i).toList == (cr (i - 1)).toList) with
          | false => rfl
          | true => exact absurd ⟨h0, hq⟩ hd
        · exact hooks_ok k (j + 1) h i (by omega) (by omega)
theorem over_ok {nc : Nat} {nm : Nat → ByteArray} {rn : Nat → Nat} {rr qq : Nat → Nat → Int} {cr : Nat → ByteArray} {hr : Nat → Int} {l : List Int} : ∀ k j, overFrom nc nm rn rr qq cr hr l k j = 0 → ∀ i, j ≤ i → i < j + k → l.getD i 0 ≤ craneL nc nm rn rr qq (cr i) (hr i)
  | 0, j, _, i, h1, h2 => by omega
  | k + 1, j, h, i, h1, h2 => by
    unfold overFrom at h
    split at h
    · cases h
    · rename_i hf
      by_cases e : i = j
      · subst e; omega
      · exact over_ok k (j + 1) h i (by omega) (by omega)
set_option maxRecDepth 20000 in
set_option maxHeartbeats 8000000 in
theorem liftCharts_walk (blk : ByteArray) (hv : Value) (n : Nat) (cr : Nat → ByteArray) (hx hy hr : Nat → Int) (m x y z v : Int) (cv : Value) (nc : Nat) (nm : Nat → ByteArray) (cw : Nat → Value) (rn : Nat → Nat) (rr qq : Nat → Nat → Int) (w : World) (hm : MaxLenIs w) (hbk : blk.size ≤ 9223372036854775807) (hh : HooksAt w hv n cr hx hy hr) (hc : CranesAt w cv nc nm cw rn rr qq) : Calls Tryd.prog 7 #[.agg #[.string blk, hv], .agg #[.int .i64 m, .int .i64 x, .int .i64 y, .int .i64 z, .int .i64 v], cv] w fun e w' => e = .returned (.bool true) ∧ Below w.heap.size w w' := by
  have HM := Lib.hid hm
  have HH := Lib.hid hh
  have HC := Lib.hid hc
  obtain ⟨oa, cap, rfl, hn, hel⟩ := hh.form
  have HEL := Lib.hid hel
  obtain ⟨LB, hLB⟩ : ∃ LB, lightB nc rn = LB := ⟨_, rfl⟩
  have HLB := Lib.hid hLB
  obtain ⟨K, hK⟩ : ∃ K, liftF blk n cr hx hy hr m x y z v nc nm rn rr qq = K := ⟨_, rfl⟩
  have HK := Lib.hid hK
  clear hm hh hc hel hLB hK
  by_cases h10 : 10 < n
  · have b10 : decide (10 < (n : Int)) = true := decide_eq_true (by omega)
    go_enter Tryd.func7, Tryd.ntmps7
    go_wp2_with fail
    (go_at_call 13; refine (awake_any _ (HM.out.below (((Below.refl w.heap.size w).alloc (Nat.le_refl _) _).alloc (by simp) _))).mono ?_; rintro e w1 ⟨rfl, hb⟩)
    have HB1 : Hid (Below w.heap.size w w1) := by
      show Below _ _ _
      exact below_step (w := w) (by go_grown) hb
    clear hb
    go_wp2
    go_returns
    exact ⟨rfl, HB1.out⟩
  have b10 : decide (10 < (n : Int)) = false := decide_eq_false (by omega)
  cases LB
  · go_enter Tryd.func7, Tryd.ntmps7
    go_wp2_with fail
    (go_at_call 17; refine (light_any _ _ _ _ _ _ _ _ (HC.out.below (((Below.refl w.heap.size w).alloc (Nat.le_refl _) _).alloc (by simp) _))).mono ?_; rintro e w1 ⟨rfl, hb⟩)
    rw [HLB.out]
    have hs1 := hb.size
    (try simp only [World.size_alloc, World.size_setCell] at hs1)
    have z10 : w.heap.size < w1.heap.size := by omega
    have z11 : w.heap.size + 1 < w1.heap.size := by omega
    have d01 : w1.cell? ⟨w.heap.size, 0, none⟩ = some (.string blk) := (hb.cell (p := ⟨_, _, none⟩) (by simp <;> omega)).trans (by simp [go_sem])
    have d11 : w1.cell? ⟨w.heap.size, 1, none⟩ = some (.slice oa n cap) := (hb.cell (p := ⟨_, _, none⟩) (by simp <;> omega)).trans (by simp [go_sem])
    have c01 : w1.cell? ⟨w.heap.size + 1, 0, none⟩ = some (.int .i64 m) := (hb.cell (p := ⟨_, _, none⟩) (by simp <;> omega)).trans (by simp [go_sem])
    have c11 : w1.cell? ⟨w.heap.size + 1, 1, none⟩ = some (.int .i64 x) := (hb.cell (p := ⟨_, _, none⟩) (by simp <;> omega)).trans (by simp [go_sem])
    have c21 : w1.cell? ⟨w.heap.size + 1, 2, none⟩ = some (.int .i64 y) := (hb.cell (p := ⟨_, _, none⟩) (by simp <;> omega)).trans (by simp [go_sem])
    have c31 : w1.cell? ⟨w.heap.size + 1, 3, none⟩ = some (.int .i64 z) := (hb.cell (p := ⟨_, _, none⟩) (by simp <;> omega)).trans (by simp [go_sem])
    have c41 : w1.cell? ⟨w.heap.size + 1, 4, none⟩ = some (.int .i64 v) := (hb.cell (p := ⟨_, _, none⟩) (by simp <;> omega)).trans (by simp [go_sem])
    have HB1 : Hid (Below w.heap.size w w1) := by
      show Below _ _ _
      exact below_step (w := w) (by go_grown) hb
    clear hb hs1
    go_wp2_with fail
    (go_at_call 13; refine (awake_any _ (HM.out.below HB1.out)).mono ?_; rintro e w2 ⟨rfl, hb⟩)
    have HB2 := Lib.hid (below_step HB1.out hb)
    clear hb
    go_wp2
    go_returns
    exact ⟨rfl, HB2.out⟩
  · obtain ⟨h20, hsm⟩ := light_small HLB.out
    have HSM : Hid (∀ i, i < nc → rn i ≤ 1000) := fun i hi => by have := hsm i hi; omega
    clear hsm
    by_cases hk0 : K = 0
    · subst hk0
      obtain ⟨q0, q1, q2⟩ := liftF_ok HK.out
      have QH := Lib.hid (hooks_ok n 0 q0)
      have QO := Lib.hid (over_ok n 0 q2)
      have hn12 := loadsF_n q1
      have hlen := loadsF_len q1
      obtain ⟨L, LE, hL⟩ : ∃ L LE, loadsF n hx hy m x y z v = (L, LE) := ⟨_, _, rfl⟩
      rw [hL] at q1 QO hlen
      have q1 : LE = 0 := q1
      subst q1
      have HL := Lib.hid hL
      have hlen : L.length = n := hlen
      have n1 : 1 ≤ n := by omega
      have n2 : n ≤ 2 := by omega
      have t1 : ((n : Int) == 0) = false := by simp; omega
      have t2 : decide (2 < (n : Int)) = false := decide_eq_false (by omega)
      clear hL q0 q2
      go_enter Tryd.func7, Tryd.ntmps7
      go_wp2_with fail
      (go_at_call 17; refine (light_any _ _ _ _ _ _ _ _ (HC.out.below (((Below.refl w.heap.size w).alloc (Nat.le_refl _) _).alloc (by simp) _))).mono ?_; rintro e w1 ⟨rfl, hb⟩)
      rw [HLB.out]
      have hs1 := hb.size
      (try simp only [World.size_alloc, World.size_setCell] at hs1)
      have z10 : w.heap.size < w1.heap.size := by omega
      have z11 : w.heap.size + 1 < w1.heap.size := by omega
      have d01 : w1.cell? ⟨w.heap.size, 0, none⟩ = some (.string blk) := (hb.cell (p := ⟨_, _, none⟩) (by simp <;> omega)).trans (by simp [go_sem])
      have d11 : w1.cell? ⟨w.heap.size, 1, none⟩ = some (.slice oa n cap) := (hb.cell (p := ⟨_, _, none⟩) (by simp <;> omega)).trans (by simp [go_sem])
      have c01 : w1.cell? ⟨w.heap.size + 1, 0, none⟩ = some (.int .i64 m) := (hb.cell (p := ⟨_, _, none⟩) (by simp <;> omega)).trans (by simp [go_sem])
      have c11 : w1.cell? ⟨w.heap.size + 1, 1, none⟩ = some (.int .i64 x) := (hb.cell (p := ⟨_, _, none⟩) (by simp <;> omega)).trans (by simp [go_sem])
      have c21 : w1.cell? ⟨w.heap.size + 1, 2, none⟩ = some (.int .i64 y) := (hb.cell (p := ⟨_, _, none⟩) (by simp <;> omega)).trans (by simp [go_sem])
      have c31 : w1.cell? ⟨w.heap.size + 1, 3, none⟩ = some (.int .i64 z) := (hb.cell (p := ⟨_, _, none⟩) (by simp <;> omega)).trans (by simp [go_sem])
      have c41 : w1.cell? ⟨w.heap.size + 1, 4, none⟩ = some (.int .i64 v) := (hb.cell (p := ⟨_, _, none⟩) (by simp <;> omega)).trans (by simp [go_sem])
      have HB1 : Hid (Below w.heap.size w w1) := by
        show Below _ _ _
        exact below_step (w := w) (by go_grown) hb
      clear hb hs1
      go_wp2_with fail
      (go_at_call 18; refine (lift_any blk _ n cr hx hy hr m x y z v _ nc nm _ rn rr qq _ hbk (HM.out.below HB1.out) (HH.out.below HB1.out) (HC.out.below HB1.out) HSM.out).mono ?_; rintro e w2 ⟨rfl, hb⟩)
      rw [HK.out]
      have hs2 := hb.size
      (try simp only [World.size_alloc, World.size_setCell] at hs2)
      have z20 : w.heap.size < w2.heap.size := by omega
      have z21 : w.heap.size + 1 < w2.heap.size := by omega
      have d02 : w2.cell? ⟨w.heap.size, 0, none⟩ = some (.string blk) := (hb.cell (p := ⟨_, _, none⟩) z10).trans d01
      have d12 : w2.cell? ⟨w.heap.size, 1, none⟩ = some (.slice oa n cap) := (hb.cell (p := ⟨_, _, none⟩) z10).trans d11
      have c02 : w2.cell? ⟨w.heap.size + 1, 0, none⟩ = some (.int .i64 m) := (hb.cell (p := ⟨_, _, none⟩) z11).trans c01
      have c12 : w2.cell? ⟨w.heap.size + 1, 1, none⟩ = some (.int .i64 x) := (hb.cell (p := ⟨_, _, none⟩) z11).trans c11
      have c22 : w2.cell? ⟨w.heap.size + 1, 2, none⟩ = some (.int .i64 y) := (hb.cell (p := ⟨_, _, none⟩) z11).trans c21
      have c32 : w2.cell? ⟨w.heap.size + 1, 3, none⟩ = some (.int .i64 z) := (hb.cell (p := ⟨_, _, none⟩) z11).trans c31
      have c42 : w2.cell? ⟨w.heap.size + 1, 4, none⟩ = some (.int .i64 v) := (hb.cell (p := ⟨_, _, none⟩) z11).trans c41
      have HB2 : Hid (Below w.heap.size w w2) := by
        show Below _ _ _
        exact below_step HB1.out hb
      clear hb hs2
      go_wp2_with fail
      (go_at_call 14; refine (loads_any blk _ n cr hx hy hr m x y z v _ (HH.out.below HB2.out)).mono ?_; rintro e w3 ⟨lv, rfl, hlv, -, hb⟩)
      rw [HL.out] at hlv ⊢
      obtain ⟨ol, cl, rfl, -, hll⟩ := hlv.form
      rw [hlen] at hll ⊢
      have HLL := Lib.hid hll
      clear hlv hll hlen
      have hs3 := hb.size
      (try simp only [World.size_alloc, World.size_setCell] at hs3)
      have z30 : w.heap.size < w3.heap.size := by omega
      have z31 : w.heap.size + 1 < w3.heap.size := by omega
      have d03 : w3.cell? ⟨w.heap.size, 0, none⟩ = some (.string blk) := (hb.cell (p := ⟨_, _, none⟩) z20).trans d02
      have d13 : w3.cell? ⟨w.heap.size, 1, none⟩ = some (.slice oa n cap) := (hb.cell (p := ⟨_, _, none⟩) z20).trans d12
      have c03 : w3.cell? ⟨w.heap.size + 1, 0, none⟩ = some (.int .i64 m) := (hb.cell (p := ⟨_, _, none⟩) z21).trans c02
      have c13 : w3.cell? ⟨w.heap.size + 1, 1, none⟩ = some (.int .i64 x) := (hb.cell (p := ⟨_, _, none⟩) z21).trans c12
      have c23 : w3.cell? ⟨w.heap.size + 1, 2, none⟩ = some (.int .i64 y) := (hb.cell (p := ⟨_, _, none⟩) z21).trans c22
      have c33 : w3.cell? ⟨w.heap.size + 1, 3, none⟩ = some (.int .i64 z) := (hb.cell (p := ⟨_, _, none⟩) z21).trans c32
      have c43 : w3.cell? ⟨w.heap.size + 1, 4, none⟩ = some (.int .i64 v) := (hb.cell (p := ⟨_, _, none⟩) z21).trans c42
      have HB3 : Hid (Below w.heap.size w w3) := by
        show Below _ _ _
        exact below_step HB2.out hb
      clear hb hs3
      go_wp2
      go_loopw [9] (fun i wr => ∃ j : Nat, j ≤ n ∧ i = .int .i64 j ∧ Below w3.heap.size w3 wr) (fun i _ => n - (intOf i).toNat)
      case atStart => exact ⟨0, by omega, rfl, Below.refl _ _⟩
      case round =>
        obtain ⟨j, hj, rfl, hb⟩ := hrel
        have HBr := Lib.hid (below_step HB3.out hb)
        have HBR := Lib.hid hb
        have q0 : w.heap.size < wr.heap.size := by have := hb.size; omega
        have e1 := (hb.cell (p := ⟨w.heap.size, 1, none⟩) z30).trans d13
        clear hb
        by_cases hlt : j < n
        · obtain ⟨b, off, rfl, hbl, hcl⟩ := HEL.out j hlt
          have hcr : ∀ o, wr.cell? ⟨b, o, none⟩ = w.cell? ⟨b, o, none⟩ := fun o => (HBr.out).cell (p := ⟨_, _, none⟩) hbl
          have c0 : wr.cell? ⟨b, off + j * 4, none⟩ = some (.string (cr j)) := (hcr _).trans (hcl j hlt).1
          have c3 : wr.cell? ⟨b, off + j * 4 + 3, none⟩ = some (.int .i64 (hr j)) := (hcr _).trans (hcl j hlt).2.2.2
          clear hcr hcl
          obtain ⟨bl, ofl, rfl, hbll, hcll⟩ := HLL.out j hlt
          obtain ⟨lj, hlj⟩ : ∃ lj, L.getD j 0 = lj := ⟨_, rfl⟩
          have l0 : wr.cell? ⟨bl, ofl + j, none⟩ = some (.int .i64 lj) := by rw [← hlj]; exact (HBR.out.cell (p := ⟨_, _, none⟩) hbll).trans (hcll j hlt)
          have hblr : bl < wr.heap.size := by have := HBR.out.size; omega
          have hbr : b < wr.heap.size := by have := HBr.out.size; omega
          obtain ⟨FF, hFF⟩ : ∃ FF, findF nc nm (cr j) = FF := ⟨_, rfl⟩
          have HFF := Lib.hid hFF
          have hfok := (QH.out j (by omega) (by omega)).1
          rw [hFF] at hfok
          have k9 : decide (FF < nc) = true := decide_eq_true hfok
          obtain ⟨CL, hCL⟩ : ∃ CL, loadF (findLen nc rn FF) (rr FF) (qq FF) (hr j) = CL := ⟨_, rfl⟩
          have HCL := Lib.hid hCL
          have hle := QO.out j (by omega) (by omega)
          have hle : lj ≤ CL := by
            have h9 : L.getD j 0 ≤ craneL nc nm rn rr qq (cr j) (hr j) := hle
            unfold craneL at h9
            rw [hFF, hCL, hlj] at h9
            exact h9
          clear hFF hCL hcll hlj
          go_wp2_with fail
          (go_at_call 23; refine (find_any _ _ _ _ _ _ _ _ _ (HC.out.below HBr.out) HSM.out).mono ?_; rintro e w4 ⟨sv, rfl, hp, hb⟩)
          rw [HFF.out] at hp ⊢
          obtain ⟨osv, csv, rfl, -, -⟩ := hp.form
          have HP := Lib.hid hp
          rw [k9]
          have hs4 := hb.size
          have z40 : w.heap.size < w4.heap.size := by omega
          have zb4 : b < w4.heap.size := by omega
          have zbl4 : bl < w4.heap.size := by omega
          have e14 := (hb.cell (p := ⟨w.heap.size, 1, none⟩) q0).trans e1
          have c34 := (hb.cell (p := ⟨b, off + j * 4 + 3, none⟩) hbr).trans c3
          have l04 := (hb.cell (p := ⟨bl, ofl + j, none⟩) hblr).trans l0
          have HBQ := Lib.hid (below_step HBR.out hb)
          clear hb hp hs4
          have u1 : bl ≠ w4.heap.size := by omega
          have u2 : b ≠ w4.heap.size := by omega
          have u3 : w.heap.size ≠ w4.heap.size := by omega
          have u4 : bl < w4.heap.size + 1 := by omega
          have u5 : b < w4.heap.size + 1 := by omega
          have u6 : w.heap.size < w4.heap.size + 1 := by omega
          have hpc := past_cell
          go_wp2_with fail
          refine wp_region_past (by kernel_rfl) (by kernel_rfl) ?_
          iterate 14 go_big_quiet_step (fail)
          go_big_quiet_step ((go_at_call 24; exact past_of (load_any _ _ _ _ _ _ _ ((HP.out.below ((Below.refl w4.heap.size w4).alloc (Nat.le_refl _) _)).below (Past.h _)))))
          iterate 2 go_big_quiet_step (fail)
          refine wpQuiet_nil ?_
          intro w5 hw'
          have hb1 := past_out hw'
          clear hw'
          have HB5 : Hid (Below w3.heap.size w3 w5) := by
            show Below _ _ _
            exact below_step (HBQ.out.alloc HBQ.out.size _) hb1
          clear hb1
          rw [HCL.out]
          go_wp2
          go_roundw
          case rel => exact ⟨j + 1, by omega, by go_num, HB5.out⟩
          case measure => simp [intOf]; omega
        · have hpc := past_cell
          rcases hn12 with rfl | rfl
          · go_wp2_with fail
            refine wp_region_past (by kernel_rfl) (by kernel_rfl) ?_
            iterate 17 go_big_quiet_step (fail)
            go_big_quiet_step ((go_at_call 13; exact past_of (awake_any _ (HM.out.below (below_step HBr.out (Past.h _))))))
            iterate 2 go_big_quiet_step (fail)
            refine wpQuiet_nil ?_
            intro w6 hw'
            have hb1 := past_out hw'
            clear hw'
            have HB6 := Lib.hid (below_step HBr.out hb1)
            clear hb1
            go_wp2
            go_returns
            exact ⟨rfl, HB6.out⟩
          · have hne := (QH.out 1 (by omega) (by omega)).2 (by omega)
            have hne2 : ((cr 0).toList == (cr 1).toList) = false := by
              cases hq : ((cr 0).toList == (cr 1).toList) with
              | false => rfl
              | true =>
                have h9 : ((cr 1).toList == (cr 0).toList) = true := by
                  have := eq_of_beq hq
                  rw [this]; exact beq_self_eq_true _
                have hne3 : ((cr 1).toList == (cr 0).toList) = false := hne
                rw [h9] at hne3; cases hne3
            clear hne
            obtain ⟨b, off, rfl, hbl, hcl⟩ := HEL.out 0 (by omega)
            have hcr : ∀ o, wr.cell? ⟨b, o, none⟩ = w.cell? ⟨b, o, none⟩ := fun o => (HBr.out).cell (p := ⟨_, _, none⟩) hbl
            have c0 : wr.cell? ⟨b, off, none⟩ = some (.string (cr 0)) := (hcr _).trans (by have := (hcl 0 (by omega)).1; simpa using this)
            have c4 : wr.cell? ⟨b, off + 4, none⟩ = some (.string (cr 1)) := (hcr _).trans (by have := (hcl 1 (by omega)).1; simpa using this)
            have hbr : b < wr.heap.size := by have := HBr.out.size; omega
            clear hcl hcr
            go_wp2_with fail
            refine wp_region_past (by kernel_rfl) (by kernel_rfl) ?_
            iterate 17 go_big_quiet_step (fail)
            go_big_quiet_step ((go_at_call 13; exact past_of (awake_any _ (HM.out.below (below_step HBr.out (Past.h _))))))
            iterate 2 go_big_quiet_step (fail)
            refine wpQuiet_nil ?_
            intro w6 hw'
            have hb1 := past_out hw'
            clear hw'
            have HB6 := Lib.hid (below_step HBr.out hb1)
            clear hb1
            go_wp2
            go_returns
            exact ⟨rfl, HB6.out⟩
    · have k0 : (K != 0) = true := by simpa using hk0
      clear hk0
      go_enter Tryd.func7, Tryd.ntmps7
      go_wp2_with fail
      (go_at_call 17; refine (light_any _ _ _ _ _ _ _ _ (HC.out.below (((Below.refl w.heap.size w).alloc (Nat.le_refl _) _).alloc (by simp) _))).mono ?_; rintro e w1 ⟨rfl, hb⟩)
      rw [HLB.out]
      have hs1 := hb.size
      (try simp only [World.size_alloc, World.size_setCell] at hs1)
      have z10 : w.heap.size < w1.heap.size := by omega
      have z11 : w.heap.size + 1 < w1.heap.size := by omega
      have d01 : w1.cell? ⟨w.heap.size, 0, none⟩ = some (.string blk) := (hb.cell (p := ⟨_, _, none⟩) (by simp <;> omega)).trans (by simp [go_sem])
      have d11 : w1.cell? ⟨w.heap.size, 1, none⟩ = some (.slice oa n cap) := (hb.cell (p := ⟨_, _, none⟩) (by simp <;> omega)).trans (by simp [go_sem])
      have c01 : w1.cell? ⟨w.heap.size + 1, 0, none⟩ = some (.int .i64 m) := (hb.cell (p := ⟨_, _, none⟩) (by simp <;> omega)).trans (by simp [go_sem])
      have c11 : w1.cell? ⟨w.heap.size + 1, 1, none⟩ = some (.int .i64 x) := (hb.cell (p := ⟨_, _, none⟩) (by simp <;> omega)).trans (by simp [go_sem])
      have c21 : w1.cell? ⟨w.heap.size + 1, 2, none⟩ = some (.int .i64 y) := (hb.cell (p := ⟨_, _, none⟩) (by simp <;> omega)).trans (by simp [go_sem])
      have c31 : w1.cell? ⟨w.heap.size + 1, 3, none⟩ = some (.int .i64 z) := (hb.cell (p := ⟨_, _, none⟩) (by simp <;> omega)).trans (by simp [go_sem])
      have c41 : w1.cell? ⟨w.heap.size + 1, 4, none⟩ = some (.int .i64 v) := (hb.cell (p := ⟨_, _, none⟩) (by simp <;> omega)).trans (by simp [go_sem])
      have HB1 : Hid (Below w.heap.size w w1) := by
        show Below _ _ _
        exact below_step (w := w) (by go_grown) hb
      clear hb hs1
      go_wp2_with fail
      (go_at_call 18; refine (lift_any blk _ n cr hx hy hr m x y z v _ nc nm _ rn rr qq _ hbk (HM.out.below HB1.out) (HH.out.below HB1.out) (HC.out.below HB1.out) HSM.out).mono ?_; rintro e w2 ⟨rfl, hb⟩)
      rw [HK.out]
      have hs2 := hb.size
      (try simp only [World.size_alloc, World.size_setCell] at hs2)
      have z20 : w.heap.size < w2.heap.size := by omega
      have z21 : w.heap.size + 1 < w2.heap.size := by omega
      have d02 : w2.cell? ⟨w.heap.size, 0, none⟩ = some (.string blk) := (hb.cell (p := ⟨_, _, none⟩) z10).trans d01
      have d12 : w2.cell? ⟨w.heap.size, 1, none⟩ = some (.slice oa n cap) := (hb.cell (p := ⟨_, _, none⟩) z10).trans d11
      have c02 : w2.cell? ⟨w.heap.size + 1, 0, none⟩ = some (.int .i64 m) := (hb.cell (p := ⟨_, _, none⟩) z11).trans c01
      have c12 : w2.cell? ⟨w.heap.size + 1, 1, none⟩ = some (.int .i64 x) := (hb.cell (p := ⟨_, _, none⟩) z11).trans c11
      have c22 : w2.cell? ⟨w.heap.size + 1, 2, none⟩ = some (.int .i64 y) := (hb.cell (p := ⟨_, _, none⟩) z11).trans c21
      have c32 : w2.cell? ⟨w.heap.size + 1, 3, none⟩ = some (.int .i64 z) := (hb.cell (p := ⟨_, _, none⟩) z11).trans c31
      have c42 : w2.cell? ⟨w.heap.size + 1, 4, none⟩ = some (.int .i64 v) := (hb.cell (p := ⟨_, _, none⟩) z11).trans c41
      have HB2 : Hid (Below w.heap.size w w2) := by
        show Below _ _ _
        exact below_step HB1.out hb
      clear hb hs2
      go_wp2_with fail
      (go_at_call 13; refine (awake_any _ (HM.out.below HB2.out)).mono ?_; rintro e w3 ⟨rfl, hb⟩)
      have HB3 := Lib.hid (below_step HB2.out hb)
      clear hb
      go_wp2
      go_returns
      exact ⟨rfl, HB3.out⟩

set_option maxRecDepth 100000 in
theorem liftCharts_contract (H : Type) (enc : TypeId × Value → H) (W : World) (base : Nat) (args : Array Value) (ds gs : List (DataW H)) (before : List MemPlace)
    (hval : ∀ (j : Nat) t v, Tryd.f7.params[j]? = some t → args[j]? = some v → Value.okWide Tryd.prog W .any base t v)
    (hW : DataW.Whole enc Tryd.prog Tryd.f7.params.toList Rows.liftChartsSpec.vars false W args.toList ds gs before) (hL : laidMetH Tryd.prog Rows.liftChartsRow.laid W) (hSh : W.ShapedOpen Tryd.prog) :
    Calls Tryd.prog 7 args W fun e W' => ∃ v, e = .returned v ∧ Rows.liftChartsSpec.post enc Tryd.prog Tryd.f7 false true false false W args v W' := by
  have hW' := hW
  obtain ⟨p, q, hA0, hV, rfl, hfz, hnd⟩ := hW
  have hA : DataW.TrodAll enc Tryd.prog W 0 (fun _ => true) true Tryd.f7.params.toList args.toList ds p := hA0
  rw [Tryd.params7] at hA hval
  obtain ⟨v0, vs0, d0, ds0, p0, q0, hargs, rfl, rfl, h0, r0⟩ := trodAll_cons hA
  obtain ⟨v1, vs1, d1, ds1, p1, q1, rfl, rfl, rfl, h1, r1⟩ := trodAll_cons r0
  obtain ⟨v2, vs2, d2, ds2, p2, q2, rfl, rfl, rfl, h2, r2⟩ := trodAll_cons r1
  obtain ⟨rfl, rfl, rfl⟩ := trodAll_nil r2
  obtain rfl : args = #[v0, v1, v2] := by cases args; simp_all
  obtain ⟨blk, hv, n, cr, hx, hy, hr, rfl, hbk, hh⟩ := lift_arg (hval 0 31 v0 rfl rfl) h0
  obtain ⟨m, x, y, z, v, rfl⟩ := weight_arg (hval 1 23 v1 rfl rfl) h1
  obtain ⟨nc, nm, cw, rn, rr, qq, hcr⟩ := cranes_arg (hval 2 37 v2 rfl rfl) h2
  refine (liftCharts_walk blk hv n cr hx hy hr m x y z v _ nc nm cw rn rr qq W (maxLen_of W hSh) hbk hh hcr).mono fun e W' ⟨he, hb⟩ => ?_
  subst he
  exact ⟨_, rfl, law_post laidOut (by kernel_rfl) (by kernel_rfl) Tryd.underlying4 rfl hW' (fun _ => rfl) hb⟩
theorem liftCharts_laid (os : Os) : laidMet Tryd.prog Rows.liftChartsRow.laid ((laidWorld os).forCall (fun _ _ => 0) ⟨#[], #[.agg #[.string ⟨#[]⟩, .slice none 0 0], .agg #[.int .i64 0, .int .i64 0, .int .i64 0, .int .i64 0, .int .i64 0], .slice none 0 0], []⟩).memory := laidMet_of_run' 8 (by kernel_rfl) (by kernel_rfl)
theorem liftCharts_reads (os : Os) {H : Type} (enc : TypeId × Value → H) : ∃ places, DataW.whole enc Tryd.prog ((laidWorld os).forCall (fun _ _ => 0) ⟨#[], #[.agg #[.string ⟨#[]⟩, .slice none 0 0], .agg #[.int .i64 0, .int .i64 0, .int .i64 0, .int .i64 0, .int .i64 0], .slice none 0 0], []⟩).memory Tryd.f7.params.toList Rows.liftChartsSpec.vars false (#[.agg #[.string ⟨#[]⟩, .slice none 0 0], .agg #[.int .i64 0, .int .i64 0, .int .i64 0, .int .i64 0, .int .i64 0], .slice none 0 0] : Array Value).toList 8 = some ([.agg [.lit (.string []), .nil], .agg [.lit (.int .i64 0), .lit (.int .i64 0), .lit (.int .i64 0), .lit (.int .i64 0), .lit (.int .i64 0)], .nil], [], places) := ⟨[], by kernel_rfl⟩
set_option maxRecDepth 100000 in
theorem liftCharts_lifted (os : Os) (started : os.Started) (H : Type) (enc : TypeId × Value → H) (F : Stop.Interp) :
    ReturnsInHanded {} Tryd.checked os 7 .any ((OpenSpec.ofChange Rows.liftChartsSpec).preRow enc Tryd.prog Tryd.f7 Rows.liftChartsRow.domain false Rows.liftChartsRow.laid) (((OpenSpec.ofChange Rows.liftChartsSpec).at F).post enc Tryd.prog Tryd.f7 false true false false) := by
  obtain ⟨places, hx⟩ := liftCharts_reads os enc
  refine returnsInHanded_of_row (C := Tryd.checked) (s := OpenSpec.ofChange Rows.liftChartsSpec) own started (by kernel_rfl) Tryd.func7
    (witness_row_at (enc := enc) (C := Tryd.checked) false (laidWorld os) #[.agg #[.string ⟨#[]⟩, .slice none 0 0], .agg #[.int .i64 0, .int .i64 0, .int .i64 0, .int .i64 0, .int .i64 0], .slice none 0 0] rfl (by kernel_rfl) (by kernel_rfl) (by kernel_rfl)
      (OpenSpec.preRow_of_cond 8 hx (by kernel_rfl) (fun k hk => by cases hk) (by kernel_rfl) (liftCharts_laid os))) ?_
  intro W base args ds gs before hval hW _ _ _ hL hSh _
  exact liftCharts_contract H enc W base args ds gs before hval hW hL hSh
theorem liftCharts_said : Rows.LiftChartsSaid :=
  OpenClaim.holds_of_cond 7 Tryd.f7 rfl rfl rfl rfl rfl rfl rfl ⟨rfl, rfl, rfl, rfl, rfl⟩ rfl rfl rfl rfl rfl (by kernel_rfl) Tryd.func7 (by kernel_rfl)
    (of_decide_eq_true (by kernel_rfl)) (by unfold Func.isWrapper; rw [if_neg (of_decide_eq_false (by kernel_rfl))]; exact ⟨rfl, rfl⟩)
    (fun os started H enc _ F => by rw [OpenClaim.pre_eq_preRow]; exact liftCharts_lifted os started H enc F)
theorem liftCharts_plain (f : FuncId) (fn : Func) (hf : Tryd.pinned.checked.prog.funcNamed "shipyard/shipyardlaw50.LiftCharts" = some f) (hfn : Tryd.pinned.checked.prog.funcs[f]? = some fn) :
    false = Tryd.pinned.checked.prog.looks [] ∧ ∀ (j : Nat) t, fn.params[j]? = some t → Tryd.pinned.checked.prog.wantsStandIn t = false := by
  obtain rfl : f = 7 := Option.some.inj ((show Tryd.prog.funcNamed "shipyard/shipyardlaw50.LiftCharts" = some 7 by kernel_rfl).symm.trans hf) |>.symm
  obtain rfl : fn = Tryd.f7 := (Option.some.inj (Tryd.func7.symm.trans hfn)).symm
  refine ⟨by kernel_rfl, fun j t ht => ?_⟩
  rw [Tryd.params7] at ht
  have hm : t ∈ [31, 23, 37] := by simpa using Array.mem_of_getElem? ht
  have hall : ([31, 23, 37].all fun u => !Tryd.prog.wantsStandIn u) = true := by kernel_rfl
  exact (show Tryd.prog.wantsStandIn t = false by simpa using List.all_eq_true.1 hall t hm)
/-- the card -/
theorem liftCharts_card : Rows.LiftChartsCardSaid :=
  Claim7.holds_tied_plain_at .later [] _ _ _ _ liftCharts_said (fun _ h => by cases h) (by kernel_rfl) (fun _ h => by cases h) liftCharts_row_tie rfl ⟨rfl, rfl⟩ (by kernel_rfl) rfl liftCharts_plain (by kernel_rfl)
#print axioms liftCharts_card
end Go.Proofs.YtjgpgfnnbfgkiaaDoor
