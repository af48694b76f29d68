/-
  Part of the reference. Conditions: none. By an AI agent.
-/
import Derived.Test.YtgbhhjdmochhpaaGreatDoorPipeI
namespace Go.Proofs.YtgbhhjdmochhpaaGreatDoor
open Go Go.ChangeShapes Go.WideShapes Go.RowKit Go.ChangeAt
set_option linter.unusedSimpArgs false
set_option linter.unusedVariables false

set_option maxRecDepth 20000 in
set_option maxHeartbeats 8000000 in
theorem rpart_pts (id node grade sec : ByteArray) (v : Value) (n : Nat) (x y z : Nat → Int) (r : Int) (w : World) (h : VecsAt w v n x y z) :
    Calls Tryz.prog 7 #[.string id, .string node, .string grade, .string sec, v, .int .i64 r] w fun e w' => e = .returned (.tuple #[partF id node grade sec n x y z r, .int .i64 (partE n x y z r)]) ∧ Below w.heap.size w w' := by
  obtain ⟨C, hC⟩ : ∃ C, checkF n x y z r = C := ⟨_, rfl⟩
  obtain ⟨L, hL⟩ : ∃ L, lengthF n x y z r = L := ⟨_, rfl⟩
  unfold partF partE
  rw [hC, hL]
  have HL : Hid (lengthF n x y z r = L) := hL
  have HC : Hid (checkF n x y z r = C) := hC
  by_cases h0 : C = 0
  · subst h0
    obtain ⟨m2, m32, hA, r1, r2, hG, _⟩ := check_zero hC
    have hin := inP_all hA
    have i0 := hin 0 (by omega)
    have i1 := hin 1 (by omega)
    have hax := good_axis (allTo_have hG 0 (by omega))
    obtain ⟨T, hT⟩ : ∃ T, turnOf (dirV x y z) = T := ⟨_, rfl⟩
    have htt := turn_at (unit_of hax)
    rw [show turnOf (sgn (x (0 + 1) - x 0), sgn (y (0 + 1) - y 0), sgn (z (0 + 1) - z 0)) = T from hT] at htt
    obtain ⟨t1, t2, t3, t4⟩ := htt
    obtain ⟨q, hq⟩ : ∃ q : Nat, T = q := ⟨T.toNat, by omega⟩
    subst hq
    have HT1 := Lib.hid t1
    have HT4 := Lib.hid t4
    have HAX : Hid (isAxis (x 1 - x 0) (y 1 - y 0) (z 1 - z 0) = true) := hax
    have q23 : q ≤ 23 := by omega
    clear t1 t4 hax t2 t3 hA hG hin hC hL
    by_cases hbig : L ≤ 32768
    · rw [if_pos ⟨rfl, hbig⟩, if_pos rfl, if_pos hbig, hT]
      have hbig2 : ¬ 32768 < L := by omega
      clear hT hbig
      unfold partV
      have hel := h.form
      obtain ⟨oa, cap, rfl, hn0, hel⟩ := hel
      have HEL := Lib.hid hel
      have HV := Lib.hid h
      clear hel h
      obtain ⟨b, off, rfl, hbl, hcl⟩ := HEL.out 0 (by omega)
      have c00 : w.cell? ⟨b, off, none⟩ = some (.int .i64 (x 0)) := by simpa using (hcl 0 (by omega)).1
      have c10 : w.cell? ⟨b, off + 1, none⟩ = some (.int .i64 (y 0)) := by simpa using (hcl 0 (by omega)).2.1
      have c20 : w.cell? ⟨b, off + 2, none⟩ = some (.int .i64 (z 0)) := by simpa using (hcl 0 (by omega)).2.2
      have c01 : w.cell? ⟨b, off + 3, none⟩ = some (.int .i64 (x 1)) := by simpa using (hcl 1 (by omega)).1
      have c11 : w.cell? ⟨b, off + 4, none⟩ = some (.int .i64 (y 1)) := by simpa using (hcl 1 (by omega)).2.1
      have c21 : w.cell? ⟨b, off + 5, none⟩ = some (.int .i64 (z 1)) := by simpa using (hcl 1 (by omega)).2.2
      have hnb : b ≠ w.heap.size := by omega
      have k4 : (1 : Int) < n := by omega
      have k6 : (0 : Int) < n := by omega
      have k7 : 1 < n := by omega
      have k8 : 0 < n := by omega
      clear hcl
      go_enter Tryz.func7, Tryz.ntmps7
      go_wp2_with fail
      (go_at_call 22; refine (rlength_pts _ _ _ _ _ _ _ (HV.out.below (by first | exact Below.refl _ _ | exact (Below.refl _ _).alloc (Nat.le_refl _) _))).mono ?_; rintro e w1 ⟨rfl, hb⟩)
      rw [HC.out, HL.out]
      have hB1 := below_step (w := w) (by first | assumption | go_grown) hb
      have hz1 := hb.size
      (try simp only [World.size_alloc, World.size_setCell] at hz1)
      have hz1a : w.heap.size < w1.heap.size := by omega
      have hz1b : b < w1.heap.size := by omega
      have HH1 := Lib.hid hb.block
      obtain ⟨hc1, hf1⟩ := bcell hb
      clear hb hz1
      go_wp2
      go_loopw [16] (fun i wr => ∃ k : Nat, k ≤ q ∧ i = .int .i64 (k : Int) ∧ Below w1.heap.size w1 wr) (fun i _ => 24 - (intOf i).toNat)
      case atStart => exact ⟨0, by omega, rfl, Below.refl _ _⟩
      case round =>
        obtain ⟨k, hk, rfl, hb⟩ := hrel
        have hzr0 : w.heap.size < wr.heap.size := by have := hb.size; omega
        have hzr1 : b < wr.heap.size := by have := hb.size; omega
        obtain ⟨hcr, hfr⟩ := bcell hb
        have HBr := Lib.hid (below_step (w := w) (by assumption) hb)
        have HBR0 := Lib.hid hb
        clear hb
        obtain ⟨⟨p0, p1, p2⟩, hp⟩ : ∃ p, turnV (1, 0, 0) (k : Int) = p := ⟨_, rfl⟩
        have HPT := Lib.hid hp
        have e1 := fun W => neq_vec p0 p1 p2 (sgn (x 1 - x 0)) (sgn (y 1 - y 0)) (sgn (z 1 - z 0)) W
        have hpc := past_cell
        by_cases hlt : k < q
        · have hne : (p0, p1, p2) ≠ ((sgn (x 1 - x 0)), (sgn (y 1 - y 0)), (sgn (z 1 - z 0))) := by rw [← hp]; exact HT4.out k (by omega)
          have s0 := decide_eq_false hne
          clear hp hne
          simp only [s0] at e1
          clear s0
          go_wp2_with fail
          refine wp_region_past (by kernel_rfl) (by kernel_rfl) ?_
          iterate 2 go_big_quiet_step (fail)
          go_big_quiet_step ((go_at_call 23; exact past_of (rTurn_val _ unit_in HPT.out)))
          iterate 6 go_big_quiet_step (fail)
          go_big_quiet_step ((go_at_call 24; exact past_of (rdirection_in _ _ _ _ _ _ _ i0 i1)))
          iterate 1 go_big_quiet_step (fail)
          refine wpQuiet_nil ?_
          intro w6 hw'
          have hb1 := past_out hw'
          clear hw'
          have HB6 := Lib.hid hb1
          obtain ⟨hc6, hf6⟩ := bcell hb1
          have hz60 : w.heap.size < w6.heap.size := by have := hb1.size; omega
          have hz61 : b < w6.heap.size := by have := hb1.size; omega
          clear hb1 e1
          go_wp2
          go_roundw
          case rel => exact ⟨k + 1, by omega, by go_num, by have := HB6.out; exact Below.trans (Below.mono HBR0.out (Nat.le_refl _)) (this.mono HBR0.out.size)⟩
          case measure => simp [intOf]; omega
        · have e : k = q := by omega
          subst e
          have hpe : (p0, p1, p2) = ((sgn (x 1 - x 0)), (sgn (y 1 - y 0)), (sgn (z 1 - z 0))) := by rw [← hp]; exact HT1.out
          have s0 := decide_eq_true hpe
          clear hp hpe
          simp only [s0] at e1
          clear s0
          go_wp2_with fail
          refine wp_region_past (by kernel_rfl) (by kernel_rfl) ?_
          iterate 2 go_big_quiet_step (fail)
          go_big_quiet_step ((go_at_call 23; exact past_of (rTurn_val _ unit_in HPT.out)))
          iterate 6 go_big_quiet_step (fail)
          go_big_quiet_step ((go_at_call 24; exact past_of (rdirection_in _ _ _ _ _ _ _ i0 i1)))
          iterate 1 go_big_quiet_step (fail)
          refine wpQuiet_nil ?_
          intro w6 hw'
          have hb1 := past_out hw'
          clear hw'
          have HB6 := Lib.hid hb1
          obtain ⟨hc6, hf6⟩ := bcell hb1
          have hz60 : w.heap.size < w6.heap.size := by have := hb1.size; omega
          have hz61 : b < w6.heap.size := by have := hb1.size; omega
          clear hb1 e1
          have hBF := below_step (w := w) HBr.out HB6.out
          go_wp2_with (first | (with_reducible refine wpList_store_all 43 w.heap.size 18 _ 43 part_size rfl rfl rfl rfl (⟨_, by rw [HB6.out.block _ (by omega), HBR0.out.block _ (by omega), HH1.out _ (by simp)]; exact (MapKept.heap_alloc w _).1, rfl⟩) ?_; intro w7 hs))
          have hB7 := Stored.below hBF hs (Nat.le_refl _)
          refine bodyPost_ret (results_cell_tmp rfl rfl hs.here part_under part_size rfl) rfl ?_
          exact ⟨rfl, hB7⟩
    · rw [if_neg (fun h => hbig h.2), if_pos rfl, if_neg hbig]
      have hbig2 : 32768 < L := by omega
      clear hT hbig
      unfold zeroPart
      have hel := h.form
      obtain ⟨oa, cap, rfl, hn0, hel⟩ := hel
      have HEL := Lib.hid hel
      have HV := Lib.hid h
      clear hel h
      go_enter Tryz.func7, Tryz.ntmps7
      go_wp2_with fail
      (go_at_call 22; refine (rlength_pts _ _ _ _ _ _ _ (HV.out.below (by first | exact Below.refl _ _ | exact (Below.refl _ _).alloc (Nat.le_refl _) _))).mono ?_; rintro e w1 ⟨rfl, hb⟩)
      rw [HC.out, HL.out]
      have hB1 := below_step (w := w) (by first | assumption | go_grown) hb
      have hz1 := hb.size
      (try simp only [World.size_alloc, World.size_setCell] at hz1)
      have hz1a : w.heap.size < w1.heap.size := by omega
      have HH1 := Lib.hid hb.block
      obtain ⟨hc1, hf1⟩ := bcell hb
      clear hb hz1
      go_wp2_with (first | (with_reducible refine wpList_store_all 43 w.heap.size 18 _ 43 part_size rfl rfl rfl rfl (⟨_, by rw [HH1.out _ (by simp)]; exact (MapKept.heap_alloc w _).1, rfl⟩) ?_; intro w7 hs))
      have hB7 := Stored.below hB1 hs (Nat.le_refl _)
      clear hc1 hf1
      refine bodyPost_ret (results_cell_tmp rfl rfl hs.here part_under part_size rfl) rfl ?_
      exact ⟨rfl, hB7⟩
  · rw [if_neg (fun h => h0 h.1), if_neg h0]
    have k0 : (C != 0) = true := by simpa using h0
    clear h0 hC hL
    unfold zeroPart
    have hel := h.form
    obtain ⟨oa, cap, rfl, hn0, hel⟩ := hel
    have HEL := Lib.hid hel
    have HV := Lib.hid h
    clear hel h
    go_enter Tryz.func7, Tryz.ntmps7
    go_wp2_with fail
    (go_at_call 22; refine (rlength_pts _ _ _ _ _ _ _ (HV.out.below (by first | exact Below.refl _ _ | exact (Below.refl _ _).alloc (Nat.le_refl _) _))).mono ?_; rintro e w1 ⟨rfl, hb⟩)
    rw [HC.out, HL.out]
    have hB1 := below_step (w := w) (by first | assumption | go_grown) hb
    have hz1 := hb.size
    (try simp only [World.size_alloc, World.size_setCell] at hz1)
    have hz1a : w.heap.size < w1.heap.size := by omega
    have HH1 := Lib.hid hb.block
    obtain ⟨hc1, hf1⟩ := bcell hb
    clear hb hz1
    go_wp2_with (first | (with_reducible refine wpList_store_all 43 w.heap.size 18 _ 43 part_size rfl rfl rfl rfl (⟨_, by rw [HH1.out _ (by simp)]; exact (MapKept.heap_alloc w _).1, rfl⟩) ?_; intro w7 hs))
    have hB7 := Stored.below hB1 hs (Nat.le_refl _)
    clear hc1 hf1
    refine bodyPost_ret (results_cell_tmp rfl rfl hs.here part_under part_size rfl) rfl ?_
    exact ⟨rfl, hB7⟩
end Go.Proofs.YtgbhhjdmochhpaaGreatDoor
