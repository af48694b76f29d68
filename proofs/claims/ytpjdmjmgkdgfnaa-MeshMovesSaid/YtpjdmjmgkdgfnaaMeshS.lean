/-
  The reference's Move, by walks. Conditions: none. By an AI agent.
-/
import Derived.Test.YtpjdmjmgkdgfnaaMeshR
import Derived.Test.YtpjdmjmgkdgfnaaMeshN
import Derived.Test.YtpjdmjmgkdgfnaaRef11
import Derived.Test.YtpjdmjmgkdgfnaaAppN
namespace Go.Proofs.Ytpjdmjmgkdgfnaa
open Go Go.RowKit
set_option linter.unusedVariables false
set_option linter.unusedSimpArgs false
set_option maxRecDepth 100000

theorem Below.grow_none {w w' : World} (h : w.grownBy w' none) : Below w.heap.size w w' := ⟨h.os, h.tape, h.output, h.size, fun i hi => h.block i hi (by simp)⟩

set_option maxHeartbeats 4000000 in
theorem rMove_any (v : Value) (np nf : Nat) (P F : Nat → V) (a b c k : Int) (w : World) (h : MAt w v np P nf F) :
    Calls Try.prog 20 #[v, .agg #[.int .i64 a, .int .i64 b, .int .i64 c, .int .i64 k]] w fun e w' => ∃ v', e = .returned (.tuple #[v', .int .i64 (moveE np P nf F a b c k)]) ∧ MAt w' v' (mvN (moveE np P nf F a b c k) np) (moveP a b c k P) (mvN (moveE np P nf F a b c k) nf) F ∧ Below w.heap.size w w' := by
  have HM := Lib.hid h
  obtain ⟨vp, vf, rfl, g1, g2⟩ := h
  have HFA := Lib.hid g2
  obtain ⟨op, cp, rfl, hnp, hcp, help⟩ := g1.form
  obtain ⟨of', cf, rfl, -, -, -⟩ := g2.form
  have HEP := Lib.hid help
  clear g1 g2 help
  obtain ⟨ME, hME⟩ : ∃ e, moveE np P nf F a b c k = e := ⟨_, rfl⟩
  have HME := Lib.hid hME
  rw [hME]
  clear hME
  obtain ⟨E, hE⟩ : ∃ E, checkM np P nf F = E := ⟨_, rfl⟩
  have HE := Lib.hid hE
  clear hE
  obtain ⟨VB, hVB⟩ : ∃ q, validF (a, b, c) k = q := ⟨_, rfl⟩
  have HVA : Hid (∀ W, Calls Try.prog 48 #[.agg #[.int .i64 a, .int .i64 b, .int .i64 c, .int .i64 k]] W fun e w' => e = .returned (.bool VB) ∧ Below W.heap.size W w') := fun W => hVB ▸ rValid_any a b c k W
  have HVB := Lib.hid hVB
  clear hVB
  by_cases h0 : E = 0
  · subst h0
    have HG : Hid (Good np P nf F) := check_iff.1 HE.out
    have hn1 := HG.out.n1
    have hn2 := HG.out.n2
    cases VB
    · have hm : ME = 9 := by rw [← HME.out]; unfold moveE; rw [if_neg (by simp [HE.out]), if_pos HVB.out]
      subst hm
      go_enter Try.func20, Try.ntmps20
      go_wp2_with fail
      (go_at_call 14; refine (rCheck_any _ np nf P F _ (HM.out.below (by first | assumption | go_grown))).mono ?_; rintro e_ w1 ⟨rfl, hb⟩)
      have hsw1 := hb.size
      (try simp only [World.size_alloc, World.size_setCell] at hsw1)
      have zzw1 : w.heap.size < w1.heap.size := by omega
      have hPw1 : Below w.heap.size w w1 := below_step (w := w) (by first | exact Below.refl _ _ | go_grown) hb
      have zmw1 : w.heap.size < w1.heap.size := by omega
      have m0w1 : w1.cell? ⟨w.heap.size, 0, none⟩ = some (.slice op np cp) := (hb.cell (p := ⟨_, _, none⟩) (by simp <;> omega)).trans (by simp [go_sem])
      have m1w1 : w1.cell? ⟨w.heap.size, 1, none⟩ = some (.slice of' nf cf) := (hb.cell (p := ⟨_, _, none⟩) (by simp <;> omega)).trans (by simp [go_sem])
      have zpw1 : w.heap.size + 1 < w1.heap.size := by omega
      have p0w1 : w1.cell? ⟨w.heap.size + 1, 0, none⟩ = some (.int .i64 a) := (hb.cell (p := ⟨_, _, none⟩) (by simp <;> omega)).trans (by simp [go_sem])
      have p1w1 : w1.cell? ⟨w.heap.size + 1, 1, none⟩ = some (.int .i64 b) := (hb.cell (p := ⟨_, _, none⟩) (by simp <;> omega)).trans (by simp [go_sem])
      have p2w1 : w1.cell? ⟨w.heap.size + 1, 2, none⟩ = some (.int .i64 c) := (hb.cell (p := ⟨_, _, none⟩) (by simp <;> omega)).trans (by simp [go_sem])
      have p3w1 : w1.cell? ⟨w.heap.size + 1, 3, none⟩ = some (.int .i64 k) := (hb.cell (p := ⟨_, _, none⟩) (by simp <;> omega)).trans (by simp [go_sem])
      have zrw1 : w.heap.size + 1 + 1 < w1.heap.size := by omega
      have r0w1 : w1.cell? ⟨w.heap.size + 1 + 1, 0, none⟩ = some (.slice none 0 0) := (hb.cell (p := ⟨_, _, none⟩) (by simp <;> omega)).trans (by simp [go_sem])
      have r1w1 : w1.cell? ⟨w.heap.size + 1 + 1, 1, none⟩ = some (.slice none 0 0) := (hb.cell (p := ⟨_, _, none⟩) (by simp <;> omega)).trans (by simp [go_sem])
      have fr0w1 : w1.frozen? ⟨w.heap.size + 1 + 1, 0, none⟩ = false := (hb.frozen (p := ⟨_, _, none⟩) (by simp <;> omega)).trans (by simp [go_sem])
      have fr1w1 : w1.frozen? ⟨w.heap.size + 1 + 1, 1, none⟩ = false := (hb.frozen (p := ⟨_, _, none⟩) (by simp <;> omega)).trans (by simp [go_sem])
      have hBw1 : Below w.heap.size w w1 := below_step (w := w) (by first | assumption | go_grown) hb
      rw [HE.out]
      clear hb hsw1 hPw1
      go_wp2_with fail
      (go_at_call 48; refine (HVA.out _).mono ?_; rintro e_ w2 ⟨rfl, hb⟩)
      have hsw2 := hb.size
      (try simp only [World.size_alloc, World.size_setCell] at hsw2)
      have zzw2 : w.heap.size < w2.heap.size := by omega
      have hPw2 : Below w1.heap.size w1 w2 := below_step (w := w1) (by first | exact Below.refl _ _ | go_grown) hb
      have zmw2 : w.heap.size < w2.heap.size := by omega
      have m0w2 : w2.cell? ⟨w.heap.size, 0, none⟩ = some (.slice op np cp) := (hPw2.cell (p := ⟨_, _, none⟩) zmw1).trans m0w1
      have m1w2 : w2.cell? ⟨w.heap.size, 1, none⟩ = some (.slice of' nf cf) := (hPw2.cell (p := ⟨_, _, none⟩) zmw1).trans m1w1
      have zpw2 : w.heap.size + 1 < w2.heap.size := by omega
      have p0w2 : w2.cell? ⟨w.heap.size + 1, 0, none⟩ = some (.int .i64 a) := (hPw2.cell (p := ⟨_, _, none⟩) zpw1).trans p0w1
      have p1w2 : w2.cell? ⟨w.heap.size + 1, 1, none⟩ = some (.int .i64 b) := (hPw2.cell (p := ⟨_, _, none⟩) zpw1).trans p1w1
      have p2w2 : w2.cell? ⟨w.heap.size + 1, 2, none⟩ = some (.int .i64 c) := (hPw2.cell (p := ⟨_, _, none⟩) zpw1).trans p2w1
      have p3w2 : w2.cell? ⟨w.heap.size + 1, 3, none⟩ = some (.int .i64 k) := (hPw2.cell (p := ⟨_, _, none⟩) zpw1).trans p3w1
      have zrw2 : w.heap.size + 1 + 1 < w2.heap.size := by omega
      have r0w2 : w2.cell? ⟨w.heap.size + 1 + 1, 0, none⟩ = some (.slice none 0 0) := (hPw2.cell (p := ⟨_, _, none⟩) zrw1).trans r0w1
      have r1w2 : w2.cell? ⟨w.heap.size + 1 + 1, 1, none⟩ = some (.slice none 0 0) := (hPw2.cell (p := ⟨_, _, none⟩) zrw1).trans r1w1
      have fr0w2 : w2.frozen? ⟨w.heap.size + 1 + 1, 0, none⟩ = false := (hPw2.frozen (p := ⟨_, _, none⟩) zrw1).trans fr0w1
      have fr1w2 : w2.frozen? ⟨w.heap.size + 1 + 1, 1, none⟩ = false := (hPw2.frozen (p := ⟨_, _, none⟩) zrw1).trans fr1w1
      have hBw2 : Below w.heap.size w w2 := below_step (w := w) (by first | assumption | go_grown) hb
      clear hb hsw2 hPw2
      clear zmw1 zpw1 zrw1 m0w1 m1w1 p0w1 p1w1 p2w1 p3w1 r0w1 r1w1 fr0w1 fr1w1
      go_wp2
      all_goals (refine bodyPost_ret (v := .tuple #[.agg #[.slice none 0 0, .slice none 0 0], .int .i64 9]) (by simp (maxDischargeDepth := 9) [results, Try.results20, go_sem, *]) rfl ?_)
      exact ⟨_, rfl, MAt.nil _ _ _, by go_grown⟩
    · obtain ⟨PP, hPP⟩ : ∃ PP, moveP a b c k P = PP := ⟨_, rfl⟩
      have HPP : Hid (∀ i, applyF (a, b, c) k (P i) = PP i) := fun i => by rw [← hPP]; rfl
      have HMM : Hid (ME = if allTo (fun i => inB20 (PP i)) np = false then 9 else 0) := by
        show _ = _
        rw [← HME.out, ← hPP]
        unfold moveE
        rw [if_neg (by simp [HE.out]), if_neg (by rw [HVB.out]; decide)]
      rw [hPP]
      clear hPP
      go_enter Try.func20, Try.ntmps20
      go_wp2_with fail
      (go_at_call 14; refine (rCheck_any _ np nf P F _ (HM.out.below (by first | assumption | go_grown))).mono ?_; rintro e_ w1 ⟨rfl, hb⟩)
      have hsw1 := hb.size
      (try simp only [World.size_alloc, World.size_setCell] at hsw1)
      have zzw1 : w.heap.size < w1.heap.size := by omega
      have hPw1 : Below w.heap.size w w1 := below_step (w := w) (by first | exact Below.refl _ _ | go_grown) hb
      have zmw1 : w.heap.size < w1.heap.size := by omega
      have m0w1 : w1.cell? ⟨w.heap.size, 0, none⟩ = some (.slice op np cp) := (hb.cell (p := ⟨_, _, none⟩) (by simp <;> omega)).trans (by simp [go_sem])
      have m1w1 : w1.cell? ⟨w.heap.size, 1, none⟩ = some (.slice of' nf cf) := (hb.cell (p := ⟨_, _, none⟩) (by simp <;> omega)).trans (by simp [go_sem])
      have zpw1 : w.heap.size + 1 < w1.heap.size := by omega
      have p0w1 : w1.cell? ⟨w.heap.size + 1, 0, none⟩ = some (.int .i64 a) := (hb.cell (p := ⟨_, _, none⟩) (by simp <;> omega)).trans (by simp [go_sem])
      have p1w1 : w1.cell? ⟨w.heap.size + 1, 1, none⟩ = some (.int .i64 b) := (hb.cell (p := ⟨_, _, none⟩) (by simp <;> omega)).trans (by simp [go_sem])
      have p2w1 : w1.cell? ⟨w.heap.size + 1, 2, none⟩ = some (.int .i64 c) := (hb.cell (p := ⟨_, _, none⟩) (by simp <;> omega)).trans (by simp [go_sem])
      have p3w1 : w1.cell? ⟨w.heap.size + 1, 3, none⟩ = some (.int .i64 k) := (hb.cell (p := ⟨_, _, none⟩) (by simp <;> omega)).trans (by simp [go_sem])
      have zrw1 : w.heap.size + 1 + 1 < w1.heap.size := by omega
      have r0w1 : w1.cell? ⟨w.heap.size + 1 + 1, 0, none⟩ = some (.slice none 0 0) := (hb.cell (p := ⟨_, _, none⟩) (by simp <;> omega)).trans (by simp [go_sem])
      have r1w1 : w1.cell? ⟨w.heap.size + 1 + 1, 1, none⟩ = some (.slice none 0 0) := (hb.cell (p := ⟨_, _, none⟩) (by simp <;> omega)).trans (by simp [go_sem])
      have fr0w1 : w1.frozen? ⟨w.heap.size + 1 + 1, 0, none⟩ = false := (hb.frozen (p := ⟨_, _, none⟩) (by simp <;> omega)).trans (by simp [go_sem])
      have fr1w1 : w1.frozen? ⟨w.heap.size + 1 + 1, 1, none⟩ = false := (hb.frozen (p := ⟨_, _, none⟩) (by simp <;> omega)).trans (by simp [go_sem])
      have hBw1 : Below w.heap.size w w1 := below_step (w := w) (by first | assumption | go_grown) hb
      rw [HE.out]
      clear hb hsw1 hPw1
      go_wp2_with fail
      (go_at_call 48; refine (HVA.out _).mono ?_; rintro e_ w2 ⟨rfl, hb⟩)
      have hsw2 := hb.size
      (try simp only [World.size_alloc, World.size_setCell] at hsw2)
      have zzw2 : w.heap.size < w2.heap.size := by omega
      have hPw2 : Below w1.heap.size w1 w2 := below_step (w := w1) (by first | exact Below.refl _ _ | go_grown) hb
      have zmw2 : w.heap.size < w2.heap.size := by omega
      have m0w2 : w2.cell? ⟨w.heap.size, 0, none⟩ = some (.slice op np cp) := (hPw2.cell (p := ⟨_, _, none⟩) zmw1).trans m0w1
      have m1w2 : w2.cell? ⟨w.heap.size, 1, none⟩ = some (.slice of' nf cf) := (hPw2.cell (p := ⟨_, _, none⟩) zmw1).trans m1w1
      have zpw2 : w.heap.size + 1 < w2.heap.size := by omega
      have p0w2 : w2.cell? ⟨w.heap.size + 1, 0, none⟩ = some (.int .i64 a) := (hPw2.cell (p := ⟨_, _, none⟩) zpw1).trans p0w1
      have p1w2 : w2.cell? ⟨w.heap.size + 1, 1, none⟩ = some (.int .i64 b) := (hPw2.cell (p := ⟨_, _, none⟩) zpw1).trans p1w1
      have p2w2 : w2.cell? ⟨w.heap.size + 1, 2, none⟩ = some (.int .i64 c) := (hPw2.cell (p := ⟨_, _, none⟩) zpw1).trans p2w1
      have p3w2 : w2.cell? ⟨w.heap.size + 1, 3, none⟩ = some (.int .i64 k) := (hPw2.cell (p := ⟨_, _, none⟩) zpw1).trans p3w1
      have zrw2 : w.heap.size + 1 + 1 < w2.heap.size := by omega
      have r0w2 : w2.cell? ⟨w.heap.size + 1 + 1, 0, none⟩ = some (.slice none 0 0) := (hPw2.cell (p := ⟨_, _, none⟩) zrw1).trans r0w1
      have r1w2 : w2.cell? ⟨w.heap.size + 1 + 1, 1, none⟩ = some (.slice none 0 0) := (hPw2.cell (p := ⟨_, _, none⟩) zrw1).trans r1w1
      have fr0w2 : w2.frozen? ⟨w.heap.size + 1 + 1, 0, none⟩ = false := (hPw2.frozen (p := ⟨_, _, none⟩) zrw1).trans fr0w1
      have fr1w2 : w2.frozen? ⟨w.heap.size + 1 + 1, 1, none⟩ = false := (hPw2.frozen (p := ⟨_, _, none⟩) zrw1).trans fr1w1
      have hBw2 : Below w.heap.size w w2 := below_step (w := w) (by first | assumption | go_grown) hb
      clear hb hsw2 hPw2
      clear zmw1 zpw1 zrw1 m0w1 m1w1 p0w1 p1w1 p2w1 p3w1 r0w1 r1w1 fr0w1 fr1w1
      go_wp2
      go_loopw [8] (fun i wr => ∃ (j : Nat) (ol : Option Addr) (cl : Nat), j ≤ np ∧ i = .int .i64 j ∧ Hid (allTo (fun i => inB20 (PP i)) j = true) ∧ Hid (wr.heap[w2.heap.size]? = some (.cells #[.slice ol j cl, .slice none 0 0] 25)) ∧ Hid (wr.ownsRow (w2.heap.size + 1) 40 3 (.slice ol j cl) j (flV PP j)) ∧ w2.heap.size < wr.heap.size ∧ Below w2.heap.size w2 wr) (fun i _ => np - (intOf i).toNat)
      case atStart =>
        refine ⟨0, none, 0, by omega, rfl, rfl, ?_, World.ownsRow_nil _ _ _ _, by simp, by go_grown⟩
        show _ = _
        simp (disch := (first | omega | (simp only [World.size_alloc, World.size_setCell] <;> omega))) only [heapA_at, heapA_old, heapS_same, heapS_other, setObj, Option.map_some]
      case round =>
        obtain ⟨w4, rfl⟩ : ∃ x : World, x = wr := ⟨_, rfl⟩
        obtain ⟨j, ol, cl, hj, rfl, HAL, HOUT, HO, zow4, hB34⟩ := hrel
        have HB34 := Lib.hid hB34
        have hBw4 : Below w.heap.size w w4 := below_step hBw2 hB34
        have m0w4 : w4.cell? ⟨w.heap.size, 0, none⟩ = some (.slice op np cp) := (hB34.cell (p := ⟨_, _, none⟩) zmw2).trans m0w2
        have m1w4 : w4.cell? ⟨w.heap.size, 1, none⟩ = some (.slice of' nf cf) := (hB34.cell (p := ⟨_, _, none⟩) zmw2).trans m1w2
        have p0w4 : w4.cell? ⟨w.heap.size + 1, 0, none⟩ = some (.int .i64 a) := (hB34.cell (p := ⟨_, _, none⟩) zpw2).trans p0w2
        have p1w4 : w4.cell? ⟨w.heap.size + 1, 1, none⟩ = some (.int .i64 b) := (hB34.cell (p := ⟨_, _, none⟩) zpw2).trans p1w2
        have p2w4 : w4.cell? ⟨w.heap.size + 1, 2, none⟩ = some (.int .i64 c) := (hB34.cell (p := ⟨_, _, none⟩) zpw2).trans p2w2
        have p3w4 : w4.cell? ⟨w.heap.size + 1, 3, none⟩ = some (.int .i64 k) := (hB34.cell (p := ⟨_, _, none⟩) zpw2).trans p3w2
        have r0w4 : w4.cell? ⟨w.heap.size + 1 + 1, 0, none⟩ = some (.slice none 0 0) := (hB34.cell (p := ⟨_, _, none⟩) zrw2).trans r0w2
        have r1w4 : w4.cell? ⟨w.heap.size + 1 + 1, 1, none⟩ = some (.slice none 0 0) := (hB34.cell (p := ⟨_, _, none⟩) zrw2).trans r1w2
        have fr0w4 : w4.frozen? ⟨w.heap.size + 1 + 1, 0, none⟩ = false := (hB34.frozen (p := ⟨_, _, none⟩) zrw2).trans fr0w2
        have fr1w4 : w4.frozen? ⟨w.heap.size + 1 + 1, 1, none⟩ = false := (hB34.frozen (p := ⟨_, _, none⟩) zrw2).trans fr1w2
        obtain ⟨o0w4, o1w4, of4, os4⟩ := cells_at2 HOUT.out
        have hs34 := hB34.size
        have zmw4 : w.heap.size < w4.heap.size := by omega
        have zpw4 : w.heap.size + 1 < w4.heap.size := by omega
        have zrw4 : w.heap.size + 1 + 1 < w4.heap.size := by omega
        by_cases hlt : j < np
        · obtain ⟨b1, f1, rfl, hbl1, hcl1⟩ := HEP.out j hlt
          have c0 : w4.cell? ⟨b1, f1 + j * 3, none⟩ = some (.int .i64 (P j).1) := (hBw4.cell (p := ⟨_, _, none⟩) hbl1).trans (hcl1 j hlt).1
          have c1 : w4.cell? ⟨b1, f1 + j * 3 + 1, none⟩ = some (.int .i64 (P j).2.1) := (hBw4.cell (p := ⟨_, _, none⟩) hbl1).trans (hcl1 j hlt).2.1
          have c2 : w4.cell? ⟨b1, f1 + j * 3 + 2, none⟩ = some (.int .i64 (P j).2.2) := (hBw4.cell (p := ⟨_, _, none⟩) hbl1).trans (hcl1 j hlt).2.2
          have hbr : b1 < w4.heap.size := by omega
          have k0 : (0 : Int) ≤ (j : Int) := by omega
          have k1 : (j : Int) < (np : Int) := by omega
          clear hcl1 hs34
          obtain ⟨i0, hi0, hz00, hz01, hz02⟩ := infoR_parts info_vec
          have hu0 : Try.prog.underlying 22 = some (.slice 40) := Try.underlying22
          obtain ⟨x, hx⟩ : ∃ x, (P j).1 = x := ⟨_, rfl⟩
          obtain ⟨y, hy⟩ : ∃ y, (P j).2.1 = y := ⟨_, rfl⟩
          obtain ⟨z, hz⟩ : ∃ z, (P j).2.2 = z := ⟨_, rfl⟩
          obtain ⟨X, hX⟩ : ∃ x, (PP j).1 = x := ⟨_, rfl⟩
          obtain ⟨Y, hY⟩ : ∃ y, (PP j).2.1 = y := ⟨_, rfl⟩
          obtain ⟨Z, hZ⟩ : ∃ z, (PP j).2.2 = z := ⟨_, rfl⟩
          have HAP : Hid (∀ W, Calls Try.prog 49 #[.agg #[.int .i64 a, .int .i64 b, .int .i64 c, .int .i64 k], .agg #[.int .i64 x, .int .i64 y, .int .i64 z]] W fun e w' => e = .returned (.agg #[.int .i64 X, .int .i64 Y, .int .i64 Z]) ∧ Below W.heap.size W w') := by
            show ∀ W, _
            intro W
            have h := rApply_any a b c k x y z W
            rw [show (x, y, z) = P j by rw [← hx, ← hy, ← hz], HPP.out j, hX, hY, hZ] at h
            exact h
          have HFL : Hid (flV PP j ++ [.int .i64 X, .int .i64 Y, .int .i64 Z] = flV PP (j + 1)) := by show _ = _; rw [flV, hX, hY, hZ]
          obtain ⟨IB, hIB⟩ : ∃ q, inB20 (PP j) = q := ⟨_, rfl⟩
          have HIB := Lib.hid hIB
          have HIN : Hid (∀ W, Calls Try.prog 34 #[.agg #[.int .i64 X, .int .i64 Y, .int .i64 Z]] W fun e w' => e = .returned (.bool IB) ∧ Below W.heap.size W w') := fun W => by
            have h := inside_pt (PP j) W
            rw [hX, hY, hZ, hIB] at h
            exact h
          rw [hx] at c0
          rw [hy] at c1
          rw [hz] at c2
          clear hx hy hz hX hY hZ hIB
          go_wp2_with fail
          refine wp_region_seq 9 [⟨7, 8, #[.int .i64 0, .int .i64 0, .int .i64 0], 40⟩] [] (by kernel_rfl) (by kernel_rfl) (by kernel_rfl) (by kernel_rfl) (by kernel_rfl) ?_ ?_ ?_
          · intro r hr; cases hr
          · intro r hr; cases hr
          simp only [List.take_succ_cons, List.take_zero, fillL, Act.put, List.setIfInBounds_toArray, List.set_cons_zero, List.set_cons_succ]
          apply seq_is (by kernel_rfl)
          · intro u wx hb hd
            replace hb := hb.nil
            have hz := hb.size
            (try simp only [World.size_alloc, World.size_setCell] at hz)
            have hz0 : w.heap.size < wx.heap.size := by omega
            have hz1 : w.heap.size + 1 < wx.heap.size := by omega
            have hz2 : b1 < wx.heap.size := by omega
            obtain ⟨hc, hf⟩ := bcell hb
            clear hb hz
            simp [depsE, Region.binds, updE, kindOf, Prp.is, Prp.any] at hd
            go_simp
            first | exact ⟨Below.refl _ _, rfl⟩ | rfl
          apply seq_is (by kernel_rfl)
          · intro u wx hb hd
            replace hb := hb.nil
            have hz := hb.size
            (try simp only [World.size_alloc, World.size_setCell] at hz)
            have hz0 : w.heap.size < wx.heap.size := by omega
            have hz1 : w.heap.size + 1 < wx.heap.size := by omega
            have hz2 : b1 < wx.heap.size := by omega
            obtain ⟨hc, hf⟩ := bcell hb
            clear hb hz
            simp [depsE, Region.binds, updE, kindOf, Prp.is, Prp.any] at hd
            go_simp
            first | exact ⟨Below.refl _ _, rfl⟩ | rfl
          apply seq_is (by kernel_rfl)
          · intro u wx hb hd
            replace hb := hb.nil
            have hz := hb.size
            (try simp only [World.size_alloc, World.size_setCell] at hz)
            have hz0 : w.heap.size < wx.heap.size := by omega
            have hz1 : w.heap.size + 1 < wx.heap.size := by omega
            have hz2 : b1 < wx.heap.size := by omega
            obtain ⟨hc, hf⟩ := bcell hb
            clear hb hz
            simp [depsE, Region.binds, updE, kindOf, Prp.is, Prp.any] at hd
            go_simp
            first | exact ⟨Below.refl _ _, rfl⟩ | rfl
          apply seq_is (by kernel_rfl)
          · intro u wx hb hd
            replace hb := hb.nil
            have hz := hb.size
            (try simp only [World.size_alloc, World.size_setCell] at hz)
            have hz0 : w.heap.size < wx.heap.size := by omega
            have hz1 : w.heap.size + 1 < wx.heap.size := by omega
            have hz2 : b1 < wx.heap.size := by omega
            obtain ⟨hc, hf⟩ := bcell hb
            clear hb hz
            simp [depsE, Region.binds, updE, kindOf, Prp.is, Prp.any] at hd
            go_simp
            first | exact ⟨Below.refl _ _, rfl⟩ | rfl
          apply seq_is (by kernel_rfl)
          · intro u wx hb hd
            replace hb := hb.nil
            have hz := hb.size
            (try simp only [World.size_alloc, World.size_setCell] at hz)
            have hz0 : w.heap.size < wx.heap.size := by omega
            have hz1 : w.heap.size + 1 < wx.heap.size := by omega
            have hz2 : b1 < wx.heap.size := by omega
            obtain ⟨hc, hf⟩ := bcell hb
            clear hb hz
            simp [depsE, Region.binds, updE, kindOf, Prp.is, Prp.any] at hd
            go_simp
            first | exact ⟨Below.refl _ _, rfl⟩ | rfl
          apply seq_is (by kernel_rfl)
          · intro u wx hb hd
            replace hb := hb.nil
            have hz := hb.size
            (try simp only [World.size_alloc, World.size_setCell] at hz)
            have hz0 : w.heap.size < wx.heap.size := by omega
            have hz1 : w.heap.size + 1 < wx.heap.size := by omega
            have hz2 : b1 < wx.heap.size := by omega
            obtain ⟨hc, hf⟩ := bcell hb
            clear hb hz
            simp [depsE, Region.binds, updE, kindOf, Prp.is, Prp.any] at hd
            go_simp
            first | exact ⟨Below.refl _ _, rfl⟩ | rfl
          apply seq_is (by kernel_rfl)
          · intro u wx hb hd
            replace hb := hb.nil
            have hz := hb.size
            (try simp only [World.size_alloc, World.size_setCell] at hz)
            have hz0 : w.heap.size < wx.heap.size := by omega
            have hz1 : w.heap.size + 1 < wx.heap.size := by omega
            have hz2 : b1 < wx.heap.size := by omega
            obtain ⟨hc, hf⟩ := bcell hb
            clear hb hz
            simp [depsE, Region.binds, updE, kindOf, Prp.is, Prp.any] at hd
            go_simp
            first | rfl | (go_at_call 49; refine (HAP.out _).mono ?_; rintro e w1 ⟨rfl, hb1⟩; first | exact ⟨rfl, hb1⟩ | exact ⟨_, rfl, hb1, rfl⟩)
          refine seq_var ⟨7, 8, #[.int .i64 0, .int .i64 0, .int .i64 0], 40⟩ (by simp) rfl ?_ ?_
          · intro u wx hb
            refine ⟨by simp [Region.wanted], ?_⟩
            go_simp
            first | done | rfl | exact ⟨rfl, rfl⟩
          apply seq_sto_agg ⟨7, 8, #[.int .i64 0, .int .i64 0, .int .i64 0], 40⟩ (by simp) rfl (by kernel_rfl) rfl (by kernel_rfl)
          · intro u wx hb hd
            replace hb := hb.nil
            have hz := hb.size
            (try simp only [World.size_alloc, World.size_setCell] at hz)
            have hz0 : w.heap.size < wx.heap.size := by omega
            have hz1 : w.heap.size + 1 < wx.heap.size := by omega
            have hz2 : b1 < wx.heap.size := by omega
            obtain ⟨hc, hf⟩ := bcell hb
            clear hb hz
            simp [depsE, Region.binds, updE, kindOf, Prp.is, Prp.any] at hd
            refine ⟨by simp [Region.wanted], fun b' hub hlb hcells => ?_⟩
            have hub' : u 7 = .pointer (some ⟨b', 0, none⟩) := hub
            have hcells' : wx.heap[b']? = some (.cells #[.int .i64 0, .int .i64 0, .int .i64 0] 40) := hcells
            have hat := cells_at3 hcells'
            have HCL := Lib.hid hcells'
            clear hcells hcells' hub
            go_simp
            exact Stored.c3 HCL.out _ _ _
          intro u w5 hb hE hV hP
          replace hb := hb.nil
          clear hP
          have e0 : u 0 = _ := endE_get hE 0 (by decide) (by simp [kindOf])
          have e1 : u 1 = _ := endE_get hE 1 (by decide) (by simp [kindOf])
          have e2 : u 2 = _ := endE_get hE 2 (by decide) (by simp [kindOf])
          have e3 : u 3 = _ := endE_get hE 3 (by decide) (by simp [kindOf])
          have e4 : u 4 = _ := endE_get hE 4 (by decide) (by simp [kindOf])
          have e5 : u 5 = _ := endE_get hE 5 (by decide) (by simp [kindOf])
          have e6 : u 6 = _ := endE_get hE 6 (by decide) (by simp [kindOf])
          have e8 : u 8 = _ := endE_get hE 8 (by decide) (by simp [kindOf])
          obtain ⟨⟨V0, pv0, lv0, qv0⟩, -, -⟩ := hV
          replace qv0 : w5.heap[V0]? = some (.cells (u 8).cells 40) := qv0
          rw [e8] at qv0
          replace pv0 : u 7 = .pointer (some ⟨V0, 0, none⟩) := pv0
          obtain ⟨mV00, mV01, mV02, mfV0, msV0⟩ := cells_at3 qv0
          have HQV0 := Lib.hid qv0
          clear qv0
          (try simp only [World.size_alloc, World.size_setCell] at lv0)
          have dV0w50 : V0 ≠ w.heap.size := by omega
          have dV0w51 : V0 ≠ w.heap.size + 1 := by omega
          have dV0w52 : V0 ≠ b1 := by omega
          (try have lbV0 : w4.heap.size ≤ V0 := by omega)
          clear lv0
          simp only [List.drop_succ_cons, List.drop_zero, List.take_succ_cons, List.take_zero, fillL, Act.put, List.setIfInBounds_toArray, List.set_cons_zero, List.set_cons_succ, e0, e1, e2, e3, e4, e5, e6, e8, pv0]
          clear e0 e1 e2 e3 e4 e5 e6 e8 pv0 hE
          have HBWw5 := Lib.hid hb
          have hw5 := below_step (w := w4) (by first | assumption | go_grown) hb
          have hzw5 := hb.size
          (try simp only [World.size_alloc, World.size_setCell] at hzw5)
          have hzw50 : w.heap.size < w5.heap.size := by omega
          have hzw51 : w.heap.size + 1 < w5.heap.size := by omega
          have hzw52 : b1 < w5.heap.size := by omega
          have HHw5 := Lib.hid hb.block
          obtain ⟨hcw5, hfw5⟩ := bcell hb
          clear hb hzw5
          cases IB
          · have hm : ME = 9 := by rw [HMM.out, if_pos (allTo_no hlt HIB.out)]
            subst hm
            replace HIN : Hid (∀ W, Calls Try.prog 34 #[.agg #[.int .i64 X, .int .i64 Y, .int .i64 Z]] W fun e w' => e = .returned (.bool false) ∧ Below W.heap.size W w') := HIN
            go_wp2_with fail
            (go_at_call 34; refine (HIN.out _).mono ?_; rintro e_ w6 ⟨rfl, hb⟩)
            have hz6 := hb.size
            have hB56 : Below w5.heap.size w5 w6 := below_step (w := w5) (by first | exact Below.refl _ _ | go_grown) hb
            have HB46 : Hid (Below w4.heap.size w4 w6) := below_step hw5 hB56
            have v0w6 : w6.cell? ⟨V0, 0, none⟩ = some (.int .i64 X) := (hB56.cell (p := ⟨V0, 0, none⟩) msV0).trans mV00
            have v1w6 : w6.cell? ⟨V0, 1, none⟩ = some (.int .i64 Y) := (hB56.cell (p := ⟨V0, 1, none⟩) msV0).trans mV01
            have v2w6 : w6.cell? ⟨V0, 2, none⟩ = some (.int .i64 Z) := (hB56.cell (p := ⟨V0, 2, none⟩) msV0).trans mV02
            have zVw6 : V0 < w6.heap.size := by omega
            have zow6 : w2.heap.size < w6.heap.size := by omega
            have zrw6 : w.heap.size + 1 + 1 < w6.heap.size := by omega
            clear mV00 mV01 mV02 hb hB56
            have r0w6 : w6.cell? ⟨w.heap.size + 1 + 1, 0, none⟩ = some (.slice none 0 0) := (HB46.out.cell (p := ⟨_, _, none⟩) zrw4).trans r0w4
            have r1w6 : w6.cell? ⟨w.heap.size + 1 + 1, 1, none⟩ = some (.slice none 0 0) := (HB46.out.cell (p := ⟨_, _, none⟩) zrw4).trans r1w4
            have fr0w6 : w6.frozen? ⟨w.heap.size + 1 + 1, 0, none⟩ = false := (HB46.out.frozen (p := ⟨_, _, none⟩) zrw4).trans fr0w4
            have fr1w6 : w6.frozen? ⟨w.heap.size + 1 + 1, 1, none⟩ = false := (HB46.out.frozen (p := ⟨_, _, none⟩) zrw4).trans fr1w4
            have hBw6 : Below w.heap.size w w6 := below_step hBw4 HB46.out
            clear r0w4 r1w4 fr0w4 fr1w4
            go_wp2
            all_goals (refine bodyPost_ret (v := .tuple #[.agg #[.slice none 0 0, .slice none 0 0], .int .i64 9]) (by simp (maxDischargeDepth := 9) [results, Try.results20, go_sem, *]) rfl ?_)
            exact ⟨_, rfl, MAt.nil _ _ _, by go_grown⟩
          · replace HIN : Hid (∀ W, Calls Try.prog 34 #[.agg #[.int .i64 X, .int .i64 Y, .int .i64 Z]] W fun e w' => e = .returned (.bool true) ∧ Below W.heap.size W w') := HIN
            go_wp2_with fail
            (go_at_call 34; refine (HIN.out _).mono ?_; rintro e_ w6 ⟨rfl, hb⟩)
            have hz6 := hb.size
            have hB56 : Below w5.heap.size w5 w6 := below_step (w := w5) (by first | exact Below.refl _ _ | go_grown) hb
            have HB46 : Hid (Below w4.heap.size w4 w6) := below_step hw5 hB56
            have v0w6 : w6.cell? ⟨V0, 0, none⟩ = some (.int .i64 X) := (hB56.cell (p := ⟨V0, 0, none⟩) msV0).trans mV00
            have v1w6 : w6.cell? ⟨V0, 1, none⟩ = some (.int .i64 Y) := (hB56.cell (p := ⟨V0, 1, none⟩) msV0).trans mV01
            have v2w6 : w6.cell? ⟨V0, 2, none⟩ = some (.int .i64 Z) := (hB56.cell (p := ⟨V0, 2, none⟩) msV0).trans mV02
            have zVw6 : V0 < w6.heap.size := by omega
            have zow6 : w2.heap.size < w6.heap.size := by omega
            have zrw6 : w.heap.size + 1 + 1 < w6.heap.size := by omega
            clear mV00 mV01 mV02 hb hB56
            have o0w6 : w6.cell? ⟨w2.heap.size, 0, none⟩ = some (.slice ol j cl) := (HB46.out.cell (p := ⟨_, _, none⟩) os4).trans o0w4
            have HOUT6 : Hid (w6.heap[w2.heap.size]? = some (.cells #[.slice ol j cl, .slice none 0 0] 25)) := (HB46.out.block _ zow4).trans HOUT.out
            have HO6 : Hid (w6.ownsRow (w2.heap.size + 1) 40 3 (.slice ol j cl) j (flV PP j)) := owns_on HO.out HB46.out
            have hB26 : Below w2.heap.size w2 w6 := below_step HB34.out HB46.out
            clear o0w4 o1w4 of4 r0w4 r1w4 fr0w4 fr1w4 HBWw5 hcw5 hfw5
            go_wp2_with (at_builtin; refine wpList_append_own _ rfl _ _ 22 rfl (w2.heap.size + 1) 40 i0 _ 3 24 hu0 hi0 hz00 hz01 hz02 rfl (by decide) _ j (flV PP j) rfl (owns_on HO6.out ?c0) _ 1 1 [.int .i64 X, .int .i64 Y, .int .i64 Z] rfl rfl ?c2 ?c3 ?c4 ?c5 ?c6 ?_)
            case c0 => go_grown
            case c2 =>
              intro q u hq
              have hq3 : q < 3 := (List.getElem?_eq_some_iff.1 hq).1
              obtain rfl | rfl | rfl : q = 0 ∨ q = 1 ∨ q = 2 := by omega
              all_goals (cases hq; simp [Addr.add, go_sem])
            case c3 => intro u hu'; simp only [List.mem_cons, List.not_mem_nil, or_false] at hu'; rcases hu' with rfl | rfl | rfl <;> rfl
            case c4 => unfold maxLen; omega
            case c5 => omega
            case c6 => simp <;> omega
            intro v' w7 hown hgrow _
            have hnb : ∀ b, b < w2.heap.size + 1 → some b ≠ (Value.slice ol j cl).ownBlock := fun b hb => owns_low HO.out hb
            have HOUT7 : Hid (w7.heap[w2.heap.size]? = some (.cells #[.slice ol j cl, .slice none 0 0] 25)) := (hgrow.block _ (by simp <;> omega) (hnb _ (by omega))).trans ((heapA_old _ _ _ (by omega)).trans HOUT6.out)
            have hB27 : Below w2.heap.size w2 w7 := Below.grown (by go_grown) hgrow (by simp <;> omega) (fun q hq => by
              rcases Nat.lt_or_ge q (w2.heap.size + 1) with h' | h'
              · exact absurd hq.symm (hnb _ h')
              · omega)
            rw [HFL.out] at hown
            obtain ⟨o5, c5, rfl, -, -, -⟩ := (owns_R (F := PP) hown).form
            obtain ⟨q0, q1, qf, qs⟩ := cells_at2 HOUT7.out
            have HB27 := Lib.hid hB27
            have HOW := Lib.hid hown
            have HNL : Hid (∀ b, b < w2.heap.size + 1 → some b ≠ (Value.slice o5 (j + 1) c5).ownBlock) := fun b hb => owns_low HOW.out hb
            clear hB27 hgrow hown hnb o0w6 hB26
            go_wp2
            go_roundw
            case rel =>
              refine ⟨j + 1, o5, c5, by omega, by go_num, allTo_step HAL.out HIB.out, ?_, owns_kept HOW.out (by simp) (fun g hg => heapS_other _ _ _ _ _ (fun e => HNL.out g (by omega) hg.symm)), by simp <;> omega, by have h := HB27.out; go_grown⟩
              show _ = _
              rw [heapS_same, HOUT7.out]
              rfl
            case measure => simp [intOf]; omega
        · obtain rfl : j = np := by omega
          have hm : ME = 0 := by rw [HMM.out, if_neg (by rw [HAL.out]; decide)]
          subst hm
          obtain ⟨i0, hi0, hz00, hz01, hz02⟩ := infoR_parts info_i3
          have hu0 : Try.prog.underlying 23 = some (.slice 56) := Try.underlying23
          obtain ⟨oa, ca, hoa, hn0, hcells⟩ := (HFA.out.below hBw4).src
          cases hoa
          have HCL := Lib.hid hcells
          have HN0 := Lib.hid hn0
          have HLN : Hid (some (w.heap.size + 1 + 1) ≠ (Value.slice ol j cl).ownBlock) := owns_low HO.out (by omega)
          have HLO : Hid (some w2.heap.size ≠ (Value.slice ol j cl).ownBlock) := owns_low HO.out (by omega)
          have HRP : Hid (RowAt w4 (.slice ol j cl) j PP) := owns_R HO.out
          clear hcells hn0 hs34 hnp
          go_wp2_with (at_builtin; refine wpList_append_sl rfl _ _ 23 rfl w4.heap.size 56 i0 _ 3 24 hu0 hi0 hz00 hz01 hz02 rfl (by decide) _ 0 [] rfl (World.ownsRow_nil _ _ _ _) _ nf cf (flV F nf) rfl ?c1 ?c2 ?c3 ?c4 ?c5 ?c6 ?c7 ?_)
          case c1 => exact flV_len F nf
          case c2 => exact HN0.out
          case c3 => exact HCL.out
          case c4 => exact flV_one F nf
          case c5 => unfold maxLen; omega
          case c6 => omega
          case c7 => omega
          intro vq w7 hown hgrow
          replace hown : w7.ownsRow w4.heap.size 56 3 vq nf (flV F nf) := by simpa using hown
          have hB47 : Below w4.heap.size w4 w7 := Below.grow_none hgrow
          have HFC := Lib.hid (owns_R hown)
          have HFN : Hid (some (w.heap.size + 1 + 1) ≠ vq.ownBlock) := owns_low hown (by omega)
          have HFO : Hid (some w2.heap.size ≠ vq.ownBlock) := owns_low hown (by omega)
          obtain ⟨oc, cc, rfl, -, -, -⟩ := HFC.out.form
          obtain ⟨q0, q1, qf, qs⟩ := cells_at2 ((hB47.block _ zow4).trans HOUT.out)
          have r0w7 : w7.cell? ⟨w.heap.size + 1 + 1, 0, none⟩ = some (.slice none 0 0) := (hB47.cell (p := ⟨_, _, none⟩) zrw4).trans r0w4
          have r1w7 : w7.cell? ⟨w.heap.size + 1 + 1, 1, none⟩ = some (.slice none 0 0) := (hB47.cell (p := ⟨_, _, none⟩) zrw4).trans r1w4
          have fr0w7 : w7.frozen? ⟨w.heap.size + 1 + 1, 0, none⟩ = false := (hB47.frozen (p := ⟨_, _, none⟩) zrw4).trans fr0w4
          have fr1w7 : w7.frozen? ⟨w.heap.size + 1 + 1, 1, none⟩ = false := (hB47.frozen (p := ⟨_, _, none⟩) zrw4).trans fr1w4
          have zrw7 : w.heap.size + 1 + 1 < w7.heap.size := by have := hB47.size; omega
          have zow7 : w2.heap.size < w7.heap.size := by have := hB47.size; omega
          have hBw7 : Below w.heap.size w w7 := below_step hBw4 hB47
          have HRP7 : Hid (RowAt w7 (.slice ol j cl) j PP) := HRP.out.below hB47
          clear hown hgrow hB47 o0w4 o1w4 of4 r0w4 r1w4 fr0w4 fr1w4
          go_wp2
          all_goals (refine bodyPost_ret (v := .tuple #[.agg #[.slice ol j cl, .slice oc nf cc], .int .i64 0]) (by simp (maxDischargeDepth := 9) [results, Try.results20, go_sem, *]) rfl ?_)
          exact ⟨_, rfl, ⟨_, _, rfl, ((HRP7.out.set 1 _ HLO.out).set 0 _ HLN.out).set 1 _ HLN.out, ((HFC.out.set 1 _ HFO.out).set 0 _ HFN.out).set 1 _ HFN.out⟩, by go_grown⟩
  · have kE2 : (E == 0) = false := by simpa using h0
    have kE3 : (E != 0) = true := by simpa using h0
    have hm : ME = E := by rw [← HME.out]; unfold moveE; rw [if_pos (by rw [HE.out]; exact h0), HE.out]
    subst hm
    rw [show mvN ME np = 0 from if_neg h0, show mvN ME nf = 0 from if_neg h0]
    clear h0
    go_enter Try.func20, Try.ntmps20
    go_wp2_with fail
    (go_at_call 14; refine (rCheck_any _ np nf P F _ (HM.out.below (by first | assumption | go_grown))).mono ?_; rintro e_ w1 ⟨rfl, hb⟩)
    have hsw1 := hb.size
    (try simp only [World.size_alloc, World.size_setCell] at hsw1)
    have zzw1 : w.heap.size < w1.heap.size := by omega
    have hPw1 : Below w.heap.size w w1 := below_step (w := w) (by first | exact Below.refl _ _ | go_grown) hb
    have zmw1 : w.heap.size < w1.heap.size := by omega
    have m0w1 : w1.cell? ⟨w.heap.size, 0, none⟩ = some (.slice op np cp) := (hb.cell (p := ⟨_, _, none⟩) (by simp <;> omega)).trans (by simp [go_sem])
    have m1w1 : w1.cell? ⟨w.heap.size, 1, none⟩ = some (.slice of' nf cf) := (hb.cell (p := ⟨_, _, none⟩) (by simp <;> omega)).trans (by simp [go_sem])
    have zpw1 : w.heap.size + 1 < w1.heap.size := by omega
    have p0w1 : w1.cell? ⟨w.heap.size + 1, 0, none⟩ = some (.int .i64 a) := (hb.cell (p := ⟨_, _, none⟩) (by simp <;> omega)).trans (by simp [go_sem])
    have p1w1 : w1.cell? ⟨w.heap.size + 1, 1, none⟩ = some (.int .i64 b) := (hb.cell (p := ⟨_, _, none⟩) (by simp <;> omega)).trans (by simp [go_sem])
    have p2w1 : w1.cell? ⟨w.heap.size + 1, 2, none⟩ = some (.int .i64 c) := (hb.cell (p := ⟨_, _, none⟩) (by simp <;> omega)).trans (by simp [go_sem])
    have p3w1 : w1.cell? ⟨w.heap.size + 1, 3, none⟩ = some (.int .i64 k) := (hb.cell (p := ⟨_, _, none⟩) (by simp <;> omega)).trans (by simp [go_sem])
    have zrw1 : w.heap.size + 1 + 1 < w1.heap.size := by omega
    have r0w1 : w1.cell? ⟨w.heap.size + 1 + 1, 0, none⟩ = some (.slice none 0 0) := (hb.cell (p := ⟨_, _, none⟩) (by simp <;> omega)).trans (by simp [go_sem])
    have r1w1 : w1.cell? ⟨w.heap.size + 1 + 1, 1, none⟩ = some (.slice none 0 0) := (hb.cell (p := ⟨_, _, none⟩) (by simp <;> omega)).trans (by simp [go_sem])
    have fr0w1 : w1.frozen? ⟨w.heap.size + 1 + 1, 0, none⟩ = false := (hb.frozen (p := ⟨_, _, none⟩) (by simp <;> omega)).trans (by simp [go_sem])
    have fr1w1 : w1.frozen? ⟨w.heap.size + 1 + 1, 1, none⟩ = false := (hb.frozen (p := ⟨_, _, none⟩) (by simp <;> omega)).trans (by simp [go_sem])
    have hBw1 : Below w.heap.size w w1 := below_step (w := w) (by first | assumption | go_grown) hb
    rw [HE.out]
    clear hb hsw1 hPw1
    go_wp2
    all_goals (refine bodyPost_ret (v := .tuple #[.agg #[.slice none 0 0, .slice none 0 0], .int .i64 ME]) (by simp (maxDischargeDepth := 9) [results, Try.results20, go_sem, *]) rfl ?_)
    exact ⟨_, rfl, MAt.nil _ _ _, by go_grown⟩
end Go.Proofs.Ytpjdmjmgkdgfnaa
