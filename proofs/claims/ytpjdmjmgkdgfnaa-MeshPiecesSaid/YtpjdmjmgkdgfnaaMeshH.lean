/-
  The reference's Check, by walks. Conditions: none. By an AI agent.
-/
import Derived.Test.YtpjdmjmgkdgfnaaMeshG
namespace Go.Proofs.Ytpjdmjmgkdgfnaa
open Go Go.RowKit
set_option linter.unusedVariables false
set_option linter.unusedSimpArgs false
set_option maxRecDepth 100000

theorem inside_pt (p : V) (w : World) : Calls Try.prog 34 #[.agg #[.int .i64 p.1, .int .i64 p.2.1, .int .i64 p.2.2]] w fun e w' => e = .returned (.bool (inB20 p)) ∧ Below w.heap.size w w' := inside_any _ _ _ w
theorem allTo_step {f : Nat → Bool} {j : Nat} (h : allTo f j = true) (hf : f j = true) : allTo f (j + 1) = true := by unfold allTo; rw [h, hf]; rfl
theorem idxB_of {np : Nat} {f : V} (h : ∀ c, c < 3 → 0 ≤ cmp3 c f ∧ cmp3 c f < np) : idxB np f = true := decide_eq_true ⟨h 0 (by decide), h 1 (by decide), h 2 (by decide)⟩
theorem idxB_no {np : Nat} {f : V} {c : Nat} (hc : c < 3) (h : ¬ (0 ≤ cmp3 c f ∧ cmp3 c f < np)) : idxB np f = false := by
  refine decide_eq_false fun hh => h ?_
  match c, hc with
  | 0, _ => exact hh.1
  | 1, _ => exact hh.2.1
  | 2, _ => exact hh.2.2
theorem check_long {np nf : Nat} {P F : Nat → V} (h : 1024 < np ∨ 2048 < nf) : checkM np P nf F = 4 := by unfold checkM; rw [if_pos h]
theorem check_far {np nf : Nat} {P F : Nat → V} (h1 : np ≤ 1024) (h2 : nf ≤ 2048) (h : allTo (fun i => inB20 (P i)) np = false) : checkM np P nf F = 9 := by unfold checkM; rw [if_neg (by omega), if_pos h]
theorem check_idx {np nf : Nat} {P F : Nat → V} (h1 : np ≤ 1024) (h2 : nf ≤ 2048) (h3 : allTo (fun i => inB20 (P i)) np = true) (h : allTo (fun j => idxB np (F j)) nf = false) : checkM np P nf F = 9 := by unfold checkM; rw [if_neg (by omega), if_neg (by simp [h3]), if_pos h]
theorem check_shape {np nf : Nat} {P F : Nat → V} (h1 : np ≤ 1024) (h2 : nf ≤ 2048) (h3 : allTo (fun i => inB20 (P i)) np = true) (h4 : allTo (fun j => idxB np (F j)) nf = true) : checkM np P nf F = if shapeB P nf F = false then 17 else 0 := by unfold checkM; rw [if_neg (by omega), if_neg (by simp [h3]), if_neg (by simp [h4])]

theorem nthE_mem {l : List E2} {i : Nat} (h : i < l.length) : nthE l i ∈ l := by
  unfold nthE
  rw [List.getD_eq_getElem?_getD, List.getElem?_eq_getElem h]
  exact List.getElem_mem h
theorem mem_nthE {l : List E2} {e : E2} (h : e ∈ l) : ∃ i, i < l.length ∧ nthE l i = e := by
  obtain ⟨i, hi, he⟩ := List.getElem_of_mem h
  exact ⟨i, hi, by unfold nthE; rw [List.getD_eq_getElem?_getD, List.getElem?_eq_getElem hi]; exact he⟩
def okE (l : List E2) (i : Nat) : Prop := (nthE l i).1 ≠ (nthE l i).2 ∧ l.count (nthE l i) = 1 ∧ l.count (swp (nthE l i)) = 1
theorem closed_okE {l : List E2} : (∀ i, i < l.length → okE l i) ↔ Closed l := by
  rw [← closed_count]
  constructor
  · intro h e he
    obtain ⟨i, hi, rfl⟩ := mem_nthE he
    exact h i hi
  · intro h i hi
    exact h _ (nthE_mem hi)
theorem shape_no {P F : Nat → V} {nf i : Nat} (hi : i < (edgesL F nf).length) (h : ¬ okE (edgesL F nf) i) : shapeB P nf F = false := by
  unfold shapeB
  rw [decide_eq_false (fun hc => h (closed_okE.2 hc i hi))]
  rfl
theorem shape_vol {P F : Nat → V} {nf : Nat} (h : ∀ i, i < (edgesL F nf).length → okE (edgesL F nf) i) : shapeB P nf F = decide (0 < volF P F nf) := by
  unfold shapeB
  rw [decide_eq_true (closed_okE.1 h)]
  rfl
theorem cmpI_pos {v : Int} : (cmpI v 0 ≤ 0) ↔ ¬ 0 < v := by
  unfold cmpI
  split
  · omega
  · split <;> omega

set_option maxHeartbeats 4000000 in
theorem rCheck_any (v : Value) (np nf : Nat) (P F : Nat → V) (w : World) (h : MAt w v np P nf F) :
    Calls Try.prog 14 #[v] w fun e w' => e = .returned (.int .i64 (checkM np P nf F)) ∧ Below w.heap.size w w' := by
  have HM := Lib.hid h
  obtain ⟨vp, vf, rfl, g1, g2⟩ := h
  obtain ⟨op, cp, rfl, hnp, hcp, help⟩ := g1.form
  obtain ⟨of', cf, rfl, hnf, hcf, hel⟩ := g2.form
  have HEL := Lib.hid hel
  have HEP := Lib.hid help
  obtain ⟨E, hE⟩ : ∃ E, checkM np P nf F = E := ⟨_, rfl⟩
  have HE := Lib.hid hE
  rw [hE]
  clear g1 g2 hel help hE
  go_enter Try.func14, Try.ntmps14
  by_cases h1 : (1024 : Int) < np
  · have k1 : decide ((1024 : Int) < np) = true := decide_eq_true h1
    go_wp2
    go_returns
    rw [← HE.out, check_long (by omega)]
    exact ⟨rfl, by go_grown⟩
  have k1 : decide ((1024 : Int) < np) = false := decide_eq_false h1
  by_cases h2 : (2048 : Int) < nf
  · have k2 : decide ((2048 : Int) < nf) = true := decide_eq_true h2
    go_wp2
    go_returns
    rw [← HE.out, check_long (by omega)]
    exact ⟨rfl, by go_grown⟩
  have k2 : decide ((2048 : Int) < nf) = false := decide_eq_false h2
  go_wp2
  clear k1 k2
  go_loopw [3] (fun i wr => ∃ j : Nat, j ≤ np ∧ i = .int .i64 j ∧ Hid (allTo (fun i => inB20 (P i)) j = true) ∧ wr.cell? ⟨w.heap.size, 0, none⟩ = some (.slice op np cp) ∧ wr.cell? ⟨w.heap.size, 1, none⟩ = some (.slice of' nf cf) ∧ w.heap.size < wr.heap.size ∧ Below w.heap.size w wr) (fun i _ => np - (intOf i).toNat)
  case atStart => exact ⟨0, by omega, rfl, rfl, by simp [go_sem], by simp [go_sem], by simp <;> omega, by go_grown⟩
  case round =>
    obtain ⟨w1, rfl⟩ : ∃ x : World, x = wr := ⟨_, rfl⟩
    obtain ⟨j, hj, rfl, HA, m0w1, m1w1, zmw1, hBw1⟩ := hrel
    by_cases hlt : j < np
    · obtain ⟨b1, f1, rfl, hbl1, hcl1⟩ := HEP.out j hlt
      have c0 : w1.cell? ⟨b1, f1 + j * 3, none⟩ = some (.int .i64 (P j).1) := (hBw1.cell (p := ⟨_, _, none⟩) hbl1).trans (hcl1 j hlt).1
      have c1 : w1.cell? ⟨b1, f1 + j * 3 + 1, none⟩ = some (.int .i64 (P j).2.1) := (hBw1.cell (p := ⟨_, _, none⟩) hbl1).trans (hcl1 j hlt).2.1
      have c2 : w1.cell? ⟨b1, f1 + j * 3 + 2, none⟩ = some (.int .i64 (P j).2.2) := (hBw1.cell (p := ⟨_, _, none⟩) hbl1).trans (hcl1 j hlt).2.2
      have hbr : b1 < w1.heap.size := by omega
      have k0 : (0 : Int) ≤ (j : Int) := by omega
      have k1 : (j : Int) < (np : Int) := by omega
      clear hcl1
      obtain ⟨I, hI⟩ : ∃ I, inB20 (P j) = I := ⟨_, rfl⟩
      have HI := Lib.hid hI
      have HIN : Hid (∀ W, Calls Try.prog 34 #[.agg #[.int .i64 (P j).1, .int .i64 (P j).2.1, .int .i64 (P j).2.2]] W fun e w' => e = .returned (.bool I) ∧ Below W.heap.size W w') := fun W => hI ▸ inside_pt (P j) W
      clear hI
      cases I
      · go_wp2_with fail
        (go_at_call 34; refine (HIN.out _).mono ?_; rintro e_ w2 ⟨rfl, hb⟩)
        have hsw2 := hb.size
        (try simp only [World.size_alloc, World.size_setCell] at hsw2)
        have zzw2 : w.heap.size < w2.heap.size := by omega
        have hPw2 : Below w1.heap.size w1 w2 := below_step (w := w1) (by first | exact Below.refl _ _ | go_grown) hb
        have zmw2 : w.heap.size < w2.heap.size := by omega
        have m0w2 : w2.cell? ⟨w.heap.size, 0, none⟩ = some (.slice (some ⟨b1, f1, none⟩) np cp) := (hPw2.cell (p := ⟨_, _, none⟩) zmw1).trans m0w1
        have m1w2 : w2.cell? ⟨w.heap.size, 1, none⟩ = some (.slice of' nf cf) := (hPw2.cell (p := ⟨_, _, none⟩) zmw1).trans m1w1
        have hBw2 : Below w.heap.size w w2 := below_step (w := w) (by first | assumption | go_grown) hb
        clear hb hsw2 hPw2
        clear zmw1 m0w1 m1w1
        go_wp2
        go_returns
        rw [← HE.out, check_far (by omega) (by omega) (allTo_no hlt HI.out)]
        exact ⟨rfl, by assumption⟩
      · go_wp2_with fail
        (go_at_call 34; refine (HIN.out _).mono ?_; rintro e_ w2 ⟨rfl, hb⟩)
        have hsw2 := hb.size
        (try simp only [World.size_alloc, World.size_setCell] at hsw2)
        have zzw2 : w.heap.size < w2.heap.size := by omega
        have hPw2 : Below w1.heap.size w1 w2 := below_step (w := w1) (by first | exact Below.refl _ _ | go_grown) hb
        have zmw2 : w.heap.size < w2.heap.size := by omega
        have m0w2 : w2.cell? ⟨w.heap.size, 0, none⟩ = some (.slice (some ⟨b1, f1, none⟩) np cp) := (hPw2.cell (p := ⟨_, _, none⟩) zmw1).trans m0w1
        have m1w2 : w2.cell? ⟨w.heap.size, 1, none⟩ = some (.slice of' nf cf) := (hPw2.cell (p := ⟨_, _, none⟩) zmw1).trans m1w1
        have hBw2 : Below w.heap.size w w2 := below_step (w := w) (by first | assumption | go_grown) hb
        clear hb hsw2 hPw2
        clear zmw1 m0w1 m1w1
        go_wp2
        go_roundw
        case rel => exact ⟨j + 1, by omega, by go_num, allTo_step HA.out HI.out, m0w2, m1w2, by assumption, by assumption⟩
        case measure => simp [intOf]; omega
    · obtain rfl : j = np := by omega
      have HAP : Hid (allTo (fun i => inB20 (P i)) j = true) := HA
      clear hj hlt HA
      go_wp2
      go_loopw [4] (fun i wr => ∃ k : Nat, k ≤ nf ∧ i = .int .i64 k ∧ Hid (allTo (fun i => idxB j (F i)) k = true) ∧ wr.cell? ⟨w.heap.size, 0, none⟩ = some (.slice op j cp) ∧ wr.cell? ⟨w.heap.size, 1, none⟩ = some (.slice of' nf cf) ∧ w.heap.size < wr.heap.size ∧ Below w.heap.size w wr) (fun i _ => nf - (intOf i).toNat)
      case atStart => exact ⟨0, by omega, rfl, rfl, m0w1, m1w1, zmw1, hBw1⟩
      case round =>
        clear m0w1 m1w1 zmw1 hBw1
        obtain ⟨w2, rfl⟩ : ∃ x : World, x = wr := ⟨_, rfl⟩
        obtain ⟨k, hk, rfl, HA, m0w2, m1w2, zmw2, hBw2⟩ := hrel
        by_cases hlt : k < nf
        · obtain ⟨b1, f1, rfl, hbl1, hcl1⟩ := HEL.out k hlt
          have HCL : Hid (∀ q, q < 3 → w.cell? ⟨b1, f1 + k * 3 + q, none⟩ = some (.int .i64 (cmp3 q (F k)))) := fun q hq => by
            match q, hq with
            | 0, _ => exact (hcl1 k hlt).1
            | 1, _ => exact (hcl1 k hlt).2.1
            | 2, _ => exact (hcl1 k hlt).2.2
          clear hcl1
          have k0 : (0 : Int) ≤ (k : Int) := by omega
          have k1 : (k : Int) < (nf : Int) := by omega
          have kk : decide ((k : Int) < nf) = true := decide_eq_true k1
          go_wp2
          go_loopw [5] (fun i wr => ∃ q : Nat, q ≤ 3 ∧ i = .int .i64 q ∧ Hid (∀ c, c < q → 0 ≤ cmp3 c (F k) ∧ cmp3 c (F k) < j) ∧ wr.cell? ⟨w.heap.size, 0, none⟩ = some (.slice op j cp) ∧ wr.cell? ⟨w.heap.size, 1, none⟩ = some (.slice (some ⟨b1, f1, none⟩) nf cf) ∧ w.heap.size < wr.heap.size ∧ Below w.heap.size w wr) (fun i _ => 3 - (intOf i).toNat)
          case atStart => exact ⟨0, by omega, rfl, fun c hc => absurd hc (by omega), m0w2, m1w2, zmw2, hBw2⟩
          case round =>
            clear m0w2 m1w2 zmw2 hBw2
            obtain ⟨w3, rfl⟩ : ∃ x : World, x = wr := ⟨_, rfl⟩
            obtain ⟨q, hq, rfl, HQ, m0w3, m1w3, zmw3, hBw3⟩ := hrel
            by_cases hq3 : q < 3
            · have cq : w3.cell? ⟨b1, f1 + k * 3 + q, none⟩ = some (.int .i64 (cmp3 q (F k))) := (hBw3.cell (p := ⟨_, _, none⟩) hbl1).trans (HCL.out q hq3)
              obtain ⟨x, hx⟩ : ∃ x, cmp3 q (F k) = x := ⟨_, rfl⟩
              rw [hx] at cq
              have HX := Lib.hid hx
              clear hx
              have hbr : b1 < w3.heap.size := by have := hBw3.size; omega
              have q0 : (0 : Int) ≤ (q : Int) := by omega
              have q1 : (q : Int) < 3 := by omega
              have qq : decide ((q : Int) < 3) = true := decide_eq_true q1
              by_cases hx0 : x < 0
              · have x0 : decide (x < 0) = true := decide_eq_true hx0
                have HNO : Hid (idxB j (F k) = false) := idxB_no hq3 (by rw [HX.out]; omega)
                go_wp2_with fail
                refine wp_region_relw 21 (by kernel_rfl) (by kernel_rfl) (by kernel_rfl) ?_
                simp only [List.take_succ_cons, List.take_zero, fillL, Act.put, List.setIfInBounds_toArray, List.set_cons_zero, List.set_cons_succ]
                iterate 21
                  apply rel_is
                  · intro u wx hb hd
                    have hz := hb.size
                    (try simp only [World.size_alloc, World.size_setCell] at hz)
                    have hz0 : w.heap.size < wx.heap.size := by omega
                    have hz1 : b1 < wx.heap.size := by omega
                    obtain ⟨hc, hf⟩ := bcell hb
                    have HBX := Lib.hid hb
                    clear hb hz
                    simp [depsS, Region.binds, updS, Stay.is, Stay.any] at hd
                    go_simp
                    first | exact ⟨Below.refl _ _, rfl⟩ | rfl
                intro u w5 hb hE
                have e0 : u 0 = _ := endS_get hE 0 (by decide)
                have e1 : u 1 = _ := endS_get hE 1 (by decide)
                have e2 : u 2 = _ := endS_get hE 2 (by decide)
                have e3 : u 3 = _ := endS_get hE 3 (by decide)
                have e4 : u 4 = _ := endS_get hE 4 (by decide)
                have e5 : u 5 = _ := endS_get hE 5 (by decide)
                have e6 : u 6 = _ := endS_get hE 6 (by decide)
                have e7 : u 7 = _ := endS_get hE 7 (by decide)
                have e8 : u 8 = _ := endS_get hE 8 (by decide)
                have e9 : u 9 = _ := endS_get hE 9 (by decide)
                have e10 : u 10 = _ := endS_get hE 10 (by decide)
                have e11 : u 11 = _ := endS_get hE 11 (by decide)
                have e12 : u 12 = _ := endS_get hE 12 (by decide)
                have e13 : u 13 = _ := endS_get hE 13 (by decide)
                have e14 : u 14 = _ := endS_get hE 14 (by decide)
                have e15 : u 15 = _ := endS_get hE 15 (by decide)
                have e16 : u 16 = _ := endS_get hE 16 (by decide)
                have e17 : u 17 = _ := endS_get hE 17 (by decide)
                have e18 : u 18 = _ := endS_get hE 18 (by decide)
                have e19 : u 19 = _ := endS_get hE 19 (by decide)
                have e20 : u 20 = _ := endS_get hE 20 (by decide)
                simp only [List.drop_succ_cons, List.drop_zero, List.take_succ_cons, List.take_zero, fillL, Act.put, List.setIfInBounds_toArray, List.set_cons_zero, List.set_cons_succ, e0, e1, e2, e3, e4, e5, e6, e7, e8, e9, e10, e11, e12, e13, e14, e15, e16, e17, e18, e19, e20]
                clear e0 e1 e2 e3 e4 e5 e6 e7 e8 e9 e10 e11 e12 e13 e14 e15 e16 e17 e18 e19 e20 hE
                have HBw5 := Lib.hid (below_step (w := w) (by first | assumption | go_grown) hb)
                have HBXw5 := Lib.hid hb
                have hzw5 := hb.size
                (try simp only [World.size_alloc, World.size_setCell] at hzw5)
                have hzw50 : w.heap.size < w5.heap.size := by omega
                have hzw51 : b1 < w5.heap.size := by omega
                obtain ⟨hcw5, hfw5⟩ := bcell hb
                clear hb hzw5
                have hBw5 : Below w.heap.size w w5 := HBw5.out
                go_wp2
                go_returns
                rw [← HE.out, check_idx (by omega) (by omega) HAP.out (allTo_no hlt HNO.out)]
                exact ⟨rfl, hBw5⟩
              · have x0 : decide (x < 0) = false := decide_eq_false hx0
                by_cases hxn : (j : Int) ≤ x
                · have xn : decide ((j : Int) ≤ x) = true := decide_eq_true hxn
                  have HNO : Hid (idxB j (F k) = false) := idxB_no hq3 (by rw [HX.out]; omega)
                  go_wp2_with fail
                  refine wp_region_relw 21 (by kernel_rfl) (by kernel_rfl) (by kernel_rfl) ?_
                  simp only [List.take_succ_cons, List.take_zero, fillL, Act.put, List.setIfInBounds_toArray, List.set_cons_zero, List.set_cons_succ]
                  iterate 21
                    apply rel_is
                    · intro u wx hb hd
                      have hz := hb.size
                      (try simp only [World.size_alloc, World.size_setCell] at hz)
                      have hz0 : w.heap.size < wx.heap.size := by omega
                      have hz1 : b1 < wx.heap.size := by omega
                      obtain ⟨hc, hf⟩ := bcell hb
                      have HBX := Lib.hid hb
                      clear hb hz
                      simp [depsS, Region.binds, updS, Stay.is, Stay.any] at hd
                      go_simp
                      first | exact ⟨Below.refl _ _, rfl⟩ | rfl
                  intro u w5 hb hE
                  have e0 : u 0 = _ := endS_get hE 0 (by decide)
                  have e1 : u 1 = _ := endS_get hE 1 (by decide)
                  have e2 : u 2 = _ := endS_get hE 2 (by decide)
                  have e3 : u 3 = _ := endS_get hE 3 (by decide)
                  have e4 : u 4 = _ := endS_get hE 4 (by decide)
                  have e5 : u 5 = _ := endS_get hE 5 (by decide)
                  have e6 : u 6 = _ := endS_get hE 6 (by decide)
                  have e7 : u 7 = _ := endS_get hE 7 (by decide)
                  have e8 : u 8 = _ := endS_get hE 8 (by decide)
                  have e9 : u 9 = _ := endS_get hE 9 (by decide)
                  have e10 : u 10 = _ := endS_get hE 10 (by decide)
                  have e11 : u 11 = _ := endS_get hE 11 (by decide)
                  have e12 : u 12 = _ := endS_get hE 12 (by decide)
                  have e13 : u 13 = _ := endS_get hE 13 (by decide)
                  have e14 : u 14 = _ := endS_get hE 14 (by decide)
                  have e15 : u 15 = _ := endS_get hE 15 (by decide)
                  have e16 : u 16 = _ := endS_get hE 16 (by decide)
                  have e17 : u 17 = _ := endS_get hE 17 (by decide)
                  have e18 : u 18 = _ := endS_get hE 18 (by decide)
                  have e19 : u 19 = _ := endS_get hE 19 (by decide)
                  have e20 : u 20 = _ := endS_get hE 20 (by decide)
                  simp only [List.drop_succ_cons, List.drop_zero, List.take_succ_cons, List.take_zero, fillL, Act.put, List.setIfInBounds_toArray, List.set_cons_zero, List.set_cons_succ, e0, e1, e2, e3, e4, e5, e6, e7, e8, e9, e10, e11, e12, e13, e14, e15, e16, e17, e18, e19, e20]
                  clear e0 e1 e2 e3 e4 e5 e6 e7 e8 e9 e10 e11 e12 e13 e14 e15 e16 e17 e18 e19 e20 hE
                  have HBw5 := Lib.hid (below_step (w := w) (by first | assumption | go_grown) hb)
                  have HBXw5 := Lib.hid hb
                  have hzw5 := hb.size
                  (try simp only [World.size_alloc, World.size_setCell] at hzw5)
                  have hzw50 : w.heap.size < w5.heap.size := by omega
                  have hzw51 : b1 < w5.heap.size := by omega
                  obtain ⟨hcw5, hfw5⟩ := bcell hb
                  clear hb hzw5
                  have hBw5 : Below w.heap.size w w5 := HBw5.out
                  go_wp2
                  go_returns
                  rw [← HE.out, check_idx (by omega) (by omega) HAP.out (allTo_no hlt HNO.out)]
                  exact ⟨rfl, hBw5⟩
                · have xn : decide ((j : Int) ≤ x) = false := decide_eq_false hxn
                  have HQ1 : Hid (∀ c, c < q + 1 → 0 ≤ cmp3 c (F k) ∧ cmp3 c (F k) < j) := fun c hc => by
                    rcases Nat.lt_or_ge c q with h | h
                    · exact HQ.out c h
                    · obtain rfl : c = q := by omega
                      rw [HX.out]
                      omega
                  go_wp2_with fail
                  refine wp_region_relw 21 (by kernel_rfl) (by kernel_rfl) (by kernel_rfl) ?_
                  simp only [List.take_succ_cons, List.take_zero, fillL, Act.put, List.setIfInBounds_toArray, List.set_cons_zero, List.set_cons_succ]
                  iterate 21
                    apply rel_is
                    · intro u wx hb hd
                      have hz := hb.size
                      (try simp only [World.size_alloc, World.size_setCell] at hz)
                      have hz0 : w.heap.size < wx.heap.size := by omega
                      have hz1 : b1 < wx.heap.size := by omega
                      obtain ⟨hc, hf⟩ := bcell hb
                      have HBX := Lib.hid hb
                      clear hb hz
                      simp [depsS, Region.binds, updS, Stay.is, Stay.any] at hd
                      go_simp
                      first | exact ⟨Below.refl _ _, rfl⟩ | rfl
                  intro u w5 hb hE
                  have e0 : u 0 = _ := endS_get hE 0 (by decide)
                  have e1 : u 1 = _ := endS_get hE 1 (by decide)
                  have e2 : u 2 = _ := endS_get hE 2 (by decide)
                  have e3 : u 3 = _ := endS_get hE 3 (by decide)
                  have e4 : u 4 = _ := endS_get hE 4 (by decide)
                  have e5 : u 5 = _ := endS_get hE 5 (by decide)
                  have e6 : u 6 = _ := endS_get hE 6 (by decide)
                  have e7 : u 7 = _ := endS_get hE 7 (by decide)
                  have e8 : u 8 = _ := endS_get hE 8 (by decide)
                  have e9 : u 9 = _ := endS_get hE 9 (by decide)
                  have e10 : u 10 = _ := endS_get hE 10 (by decide)
                  have e11 : u 11 = _ := endS_get hE 11 (by decide)
                  have e12 : u 12 = _ := endS_get hE 12 (by decide)
                  have e13 : u 13 = _ := endS_get hE 13 (by decide)
                  have e14 : u 14 = _ := endS_get hE 14 (by decide)
                  have e15 : u 15 = _ := endS_get hE 15 (by decide)
                  have e16 : u 16 = _ := endS_get hE 16 (by decide)
                  have e17 : u 17 = _ := endS_get hE 17 (by decide)
                  have e18 : u 18 = _ := endS_get hE 18 (by decide)
                  have e19 : u 19 = _ := endS_get hE 19 (by decide)
                  have e20 : u 20 = _ := endS_get hE 20 (by decide)
                  simp only [List.drop_succ_cons, List.drop_zero, List.take_succ_cons, List.take_zero, fillL, Act.put, List.setIfInBounds_toArray, List.set_cons_zero, List.set_cons_succ, e0, e1, e2, e3, e4, e5, e6, e7, e8, e9, e10, e11, e12, e13, e14, e15, e16, e17, e18, e19, e20]
                  clear e0 e1 e2 e3 e4 e5 e6 e7 e8 e9 e10 e11 e12 e13 e14 e15 e16 e17 e18 e19 e20 hE
                  have HBw5 := Lib.hid (below_step (w := w) (by first | assumption | go_grown) hb)
                  have HBXw5 := Lib.hid hb
                  have hzw5 := hb.size
                  (try simp only [World.size_alloc, World.size_setCell] at hzw5)
                  have hzw50 : w.heap.size < w5.heap.size := by omega
                  have hzw51 : b1 < w5.heap.size := by omega
                  obtain ⟨hcw5, hfw5⟩ := bcell hb
                  clear hb hzw5
                  have hBw5 : Below w.heap.size w w5 := HBw5.out
                  go_wp2
                  go_roundw
                  case rel => exact ⟨q + 1, by omega, by go_num, HQ1, by simp [go_sem, *], by simp [go_sem, *], by omega, hBw5⟩
                  case measure => simp [intOf]; omega
            · obtain rfl : q = 3 := by omega
              go_wp2
              go_roundw
              case rel => exact ⟨k + 1, by omega, by go_num, allTo_step HA.out (idxB_of HQ.out), m0w3, m1w3, zmw3, hBw3⟩
              case measure => simp [intOf]; omega
        · obtain rfl : k = nf := by omega
          have HAI : Hid (allTo (fun i => idxB j (F i)) k = true) := HA
          have h1' : j ≤ 1024 := by omega
          have h2' : k ≤ 2048 := by omega
          clear hk hlt HA h1 h2
          go_wp2_with fail
          (go_at_call 35; refine (edges_any _ j k P F _ (HM.out.below (by first | assumption | go_grown)) (by omega)).mono ?_; rintro e_ w3 ⟨v', rfl, hO, hb⟩)
          have hsw3 := hb.size
          (try simp only [World.size_alloc, World.size_setCell] at hsw3)
          have zzw3 : w.heap.size < w3.heap.size := by omega
          have hPw3 : Below w2.heap.size w2 w3 := below_step (w := w2) (by first | exact Below.refl _ _ | go_grown) hb
          have zmw3 : w.heap.size < w3.heap.size := by omega
          have m0w3 : w3.cell? ⟨w.heap.size, 0, none⟩ = some (.slice op j cp) := (hPw3.cell (p := ⟨_, _, none⟩) zmw2).trans m0w2
          have m1w3 : w3.cell? ⟨w.heap.size, 1, none⟩ = some (.slice of' k cf) := (hPw3.cell (p := ⟨_, _, none⟩) zmw2).trans m1w2
          have hBw3 : Below w.heap.size w w3 := below_step (w := w) (by first | assumption | go_grown) hb
          have HEA := Lib.hid (owns_E hO (edges_len F k))
          clear hO
          clear hb hsw3 hPw3
          clear zmw2 m0w2 m1w2
          obtain ⟨oa, cap, rfl, hle, hcap, hell⟩ := HEA.out.form
          obtain ⟨n, hln⟩ : ∃ n, (edgesL F k).length = n := ⟨_, rfl⟩
          have HLN := Lib.hid hln
          rw [hln] at hle hell
          rw [hln]
          have hn3 : n ≤ 6144 := by rw [← hln, edges_len]; omega
          have HLL := Lib.hid hell
          have HBw3 := Lib.hid hBw3
          clear hell hln
          go_wp2
          go_loopw [7] (fun i wr => ∃ r : Nat, r ≤ n ∧ i = .int .i64 r ∧ Hid (∀ i, i < r → okE (edgesL F k) i) ∧ Below w3.heap.size w3 wr) (fun i _ => n - (intOf i).toNat)
          case atStart => exact ⟨0, by omega, rfl, fun c hc => absurd hc (by omega), by go_grown⟩
          case round =>
            obtain ⟨w4, rfl⟩ : ∃ x : World, x = wr := ⟨_, rfl⟩
            obtain ⟨r, hr, rfl, HOK, hB34⟩ := hrel
            have HB34 := Lib.hid hB34
            have m0w4 := (hB34.cell (p := ⟨w.heap.size, 0, none⟩) zmw3).trans m0w3
            have m1w4 := (hB34.cell (p := ⟨w.heap.size, 1, none⟩) zmw3).trans m1w3
            have hs4 := hB34.size
            have zmw4 : w.heap.size < w4.heap.size := by omega
            clear m0w3 m1w3
            by_cases hlt : r < n
            · obtain ⟨b1, f1, rfl, hbl1, hcl1⟩ := HLL.out r hlt
              have c0 := (hB34.cell (p := ⟨_, _, none⟩) hbl1).trans (hcl1 r hlt).1
              have c1 := (hB34.cell (p := ⟨_, _, none⟩) hbl1).trans (hcl1 r hlt).2
              have HRL : Hid (r < (edgesL F k).length) := by show _ < _; rw [HLN.out]; exact hlt
              obtain ⟨x, hx⟩ : ∃ x, (nthE (edgesL F k) r).1 = x := ⟨_, rfl⟩
              obtain ⟨y, hy⟩ : ∃ y, (nthE (edgesL F k) r).2 = y := ⟨_, rfl⟩
              rw [hx] at c0
              rw [hy] at c1
              have HN : Hid (nthE (edgesL F k) r = (x, y)) := by show _ = _; rw [← hx, ← hy]
              have hbr : b1 < w4.heap.size := by omega
              have k0 : (0 : Int) ≤ (r : Int) := by omega
              have k1 : (r : Int) < (n : Int) := by omega
              obtain ⟨n1, hn1⟩ : ∃ c : Int, (((edgesL F k).count (x, y) : Nat) : Int) = c := ⟨_, rfl⟩
              obtain ⟨n2, hn2⟩ : ∃ c : Int, (((edgesL F k).count (y, x) : Nat) : Int) = c := ⟨_, rfl⟩
              have HN1 := Lib.hid hn1
              have HN2 := Lib.hid hn2
              have HC1 : Hid (∀ W, Below w3.heap.size w3 W → Calls Try.prog 36 #[.slice (some ⟨b1, f1, none⟩) n cap, .int .i64 x, .int .i64 y] W fun e w' => e = .returned (.int .i64 n1) ∧ Below W.heap.size W w') := fun W hW => by
                have h := count_any _ _ x y W (HEA.out.below hW)
                rw [HLN.out, HN1.out] at h
                exact h
              have HC2 : Hid (∀ W, Below w3.heap.size w3 W → Calls Try.prog 36 #[.slice (some ⟨b1, f1, none⟩) n cap, .int .i64 y, .int .i64 x] W fun e w' => e = .returned (.int .i64 n2) ∧ Below W.heap.size W w') := fun W hW => by
                have h := count_any _ _ y x W (HEA.out.below hW)
                rw [HLN.out, HN2.out] at h
                exact h
              clear hcl1 hx hy hn1 hn2 hs4 hB34
              by_cases hxy : x = y
              · have HNO : Hid (¬ okE (edgesL F k) r) := fun h => by have h := h.1; rw [HN.out] at h; exact h hxy
                subst hxy
                go_wp2_with fail
                refine wp_region_relw 41 (by kernel_rfl) (by kernel_rfl) (by kernel_rfl) ?_
                simp only [List.take_succ_cons, List.take_zero, fillL, Act.put, List.setIfInBounds_toArray, List.set_cons_zero, List.set_cons_succ]
                iterate 41
                  apply rel_is
                  · intro u wx hb hd
                    have hz := hb.size
                    (try simp only [World.size_alloc, World.size_setCell] at hz)
                    have hz0 : w.heap.size < wx.heap.size := by omega
                    have hz1 : b1 < wx.heap.size := by omega
                    obtain ⟨hc, hf⟩ := bcell hb
                    have HBX := Lib.hid hb
                    clear hb hz
                    simp [depsS, Region.binds, updS, Stay.is, Stay.any] at hd
                    go_simp
                    first | exact ⟨Below.refl _ _, rfl⟩ | rfl
                intro u w5 hb hE
                have e0 : u 0 = _ := endS_get hE 0 (by decide)
                have e1 : u 1 = _ := endS_get hE 1 (by decide)
                have e2 : u 2 = _ := endS_get hE 2 (by decide)
                have e3 : u 3 = _ := endS_get hE 3 (by decide)
                have e4 : u 4 = _ := endS_get hE 4 (by decide)
                have e5 : u 5 = _ := endS_get hE 5 (by decide)
                have e6 : u 6 = _ := endS_get hE 6 (by decide)
                have e7 : u 7 = _ := endS_get hE 7 (by decide)
                have e8 : u 8 = _ := endS_get hE 8 (by decide)
                have e9 : u 9 = _ := endS_get hE 9 (by decide)
                have e10 : u 10 = _ := endS_get hE 10 (by decide)
                have e11 : u 11 = _ := endS_get hE 11 (by decide)
                have e12 : u 12 = _ := endS_get hE 12 (by decide)
                have e13 : u 13 = _ := endS_get hE 13 (by decide)
                have e14 : u 14 = _ := endS_get hE 14 (by decide)
                have e15 : u 15 = _ := endS_get hE 15 (by decide)
                have e16 : u 16 = _ := endS_get hE 16 (by decide)
                have e17 : u 17 = _ := endS_get hE 17 (by decide)
                have e18 : u 18 = _ := endS_get hE 18 (by decide)
                have e19 : u 19 = _ := endS_get hE 19 (by decide)
                have e20 : u 20 = _ := endS_get hE 20 (by decide)
                have e21 : u 21 = _ := endS_get hE 21 (by decide)
                have e22 : u 22 = _ := endS_get hE 22 (by decide)
                have e23 : u 23 = _ := endS_get hE 23 (by decide)
                have e24 : u 24 = _ := endS_get hE 24 (by decide)
                have e25 : u 25 = _ := endS_get hE 25 (by decide)
                have e26 : u 26 = _ := endS_get hE 26 (by decide)
                have e27 : u 27 = _ := endS_get hE 27 (by decide)
                have e28 : u 28 = _ := endS_get hE 28 (by decide)
                have e29 : u 29 = _ := endS_get hE 29 (by decide)
                have e30 : u 30 = _ := endS_get hE 30 (by decide)
                have e31 : u 31 = _ := endS_get hE 31 (by decide)
                have e32 : u 32 = _ := endS_get hE 32 (by decide)
                have e33 : u 33 = _ := endS_get hE 33 (by decide)
                have e34 : u 34 = _ := endS_get hE 34 (by decide)
                have e35 : u 35 = _ := endS_get hE 35 (by decide)
                have e36 : u 36 = _ := endS_get hE 36 (by decide)
                have e37 : u 37 = _ := endS_get hE 37 (by decide)
                have e38 : u 38 = _ := endS_get hE 38 (by decide)
                have e39 : u 39 = _ := endS_get hE 39 (by decide)
                have e40 : u 40 = _ := endS_get hE 40 (by decide)
                simp only [List.drop_succ_cons, List.drop_zero, List.take_succ_cons, List.take_zero, fillL, Act.put, List.setIfInBounds_toArray, List.set_cons_zero, List.set_cons_succ, e0, e1, e2, e3, e4, e5, e6, e7, e8, e9, e10, e11, e12, e13, e14, e15, e16, e17, e18, e19, e20, e21, e22, e23, e24, e25, e26, e27, e28, e29, e30, e31, e32, e33, e34, e35, e36, e37, e38, e39, e40]
                clear e0 e1 e2 e3 e4 e5 e6 e7 e8 e9 e10 e11 e12 e13 e14 e15 e16 e17 e18 e19 e20 e21 e22 e23 e24 e25 e26 e27 e28 e29 e30 e31 e32 e33 e34 e35 e36 e37 e38 e39 e40 hE
                have HBw5 := Lib.hid (below_step (w := w4) (by first | assumption | go_grown) hb)
                have HBXw5 := Lib.hid hb
                have hzw5 := hb.size
                (try simp only [World.size_alloc, World.size_setCell] at hzw5)
                have hzw50 : w.heap.size < w5.heap.size := by omega
                have hzw51 : b1 < w5.heap.size := by omega
                obtain ⟨hcw5, hfw5⟩ := bcell hb
                clear hb hzw5
                have hB45 : Below w4.heap.size w4 w5 := HBw5.out
                have hBe : Below w.heap.size w w5 := below_step HBw3.out (below_step HB34.out hB45)
                clear hB45
                go_wp2
                go_returns
                rw [← HE.out, check_shape (by omega) (by omega) HAP.out HAI.out, shape_no HRL.out HNO.out]
                exact ⟨rfl, hBe⟩
              · have kxy : (x == y) = false := by simpa using hxy
                have HXY := Lib.hid hxy
                clear hxy
                by_cases hc1 : n1 = 1
                · subst hc1
                  by_cases hc2 : n2 = 1
                  · subst hc2
                    have HOK1 : Hid (∀ i, i < r + 1 → okE (edgesL F k) i) := fun i hi => by
                      rcases Nat.lt_or_ge i r with h | h
                      · exact HOK.out i h
                      · obtain rfl : i = r := by omega
                        have a1 := HN1.out
                        have a2 := HN2.out
                        unfold okE
                        rw [HN.out]
                        exact ⟨HXY.out, by omega, by show List.count (y, x) _ = 1; omega⟩
                    go_wp2_with fail
                    refine wp_region_relw 41 (by kernel_rfl) (by kernel_rfl) (by kernel_rfl) ?_
                    simp only [List.take_succ_cons, List.take_zero, fillL, Act.put, List.setIfInBounds_toArray, List.set_cons_zero, List.set_cons_succ]
                    iterate 23
                      apply rel_is
                      · intro u wx hb hd
                        have hz := hb.size
                        (try simp only [World.size_alloc, World.size_setCell] at hz)
                        have hz0 : w.heap.size < wx.heap.size := by omega
                        have hz1 : b1 < wx.heap.size := by omega
                        obtain ⟨hc, hf⟩ := bcell hb
                        have HBX := Lib.hid hb
                        clear hb hz
                        simp [depsS, Region.binds, updS, Stay.is, Stay.any] at hd
                        go_simp
                        first | exact ⟨Below.refl _ _, rfl⟩ | rfl
                    apply rel_is
                    · intro u wx hb hd
                      have hz := hb.size
                      (try simp only [World.size_alloc, World.size_setCell] at hz)
                      have hz0 : w.heap.size < wx.heap.size := by omega
                      have hz1 : b1 < wx.heap.size := by omega
                      obtain ⟨hc, hf⟩ := bcell hb
                      have HBX := Lib.hid hb
                      clear hb hz
                      simp [depsS, Region.binds, updS, Stay.is, Stay.any] at hd
                      go_simp
                      first | rfl | (go_at_call 36; refine (HC1.out _ (below_step HB34.out HBX.out)).mono ?_; rintro e w1 ⟨rfl, hb1⟩; first | exact ⟨rfl, hb1⟩ | exact ⟨_, rfl, hb1, rfl⟩)
                    iterate 14
                      apply rel_is
                      · intro u wx hb hd
                        have hz := hb.size
                        (try simp only [World.size_alloc, World.size_setCell] at hz)
                        have hz0 : w.heap.size < wx.heap.size := by omega
                        have hz1 : b1 < wx.heap.size := by omega
                        obtain ⟨hc, hf⟩ := bcell hb
                        have HBX := Lib.hid hb
                        clear hb hz
                        simp [depsS, Region.binds, updS, Stay.is, Stay.any] at hd
                        go_simp
                        first | exact ⟨Below.refl _ _, rfl⟩ | rfl
                    apply rel_is
                    · intro u wx hb hd
                      have hz := hb.size
                      (try simp only [World.size_alloc, World.size_setCell] at hz)
                      have hz0 : w.heap.size < wx.heap.size := by omega
                      have hz1 : b1 < wx.heap.size := by omega
                      obtain ⟨hc, hf⟩ := bcell hb
                      have HBX := Lib.hid hb
                      clear hb hz
                      simp [depsS, Region.binds, updS, Stay.is, Stay.any] at hd
                      go_simp
                      first | rfl | (go_at_call 36; refine (HC2.out _ (below_step HB34.out HBX.out)).mono ?_; rintro e w1 ⟨rfl, hb1⟩; first | exact ⟨rfl, hb1⟩ | exact ⟨_, rfl, hb1, rfl⟩)
                    iterate 2
                      apply rel_is
                      · intro u wx hb hd
                        have hz := hb.size
                        (try simp only [World.size_alloc, World.size_setCell] at hz)
                        have hz0 : w.heap.size < wx.heap.size := by omega
                        have hz1 : b1 < wx.heap.size := by omega
                        obtain ⟨hc, hf⟩ := bcell hb
                        have HBX := Lib.hid hb
                        clear hb hz
                        simp [depsS, Region.binds, updS, Stay.is, Stay.any] at hd
                        go_simp
                        first | exact ⟨Below.refl _ _, rfl⟩ | rfl
                    intro u w5 hb hE
                    have e0 : u 0 = _ := endS_get hE 0 (by decide)
                    have e1 : u 1 = _ := endS_get hE 1 (by decide)
                    have e2 : u 2 = _ := endS_get hE 2 (by decide)
                    have e3 : u 3 = _ := endS_get hE 3 (by decide)
                    have e4 : u 4 = _ := endS_get hE 4 (by decide)
                    have e5 : u 5 = _ := endS_get hE 5 (by decide)
                    have e6 : u 6 = _ := endS_get hE 6 (by decide)
                    have e7 : u 7 = _ := endS_get hE 7 (by decide)
                    have e8 : u 8 = _ := endS_get hE 8 (by decide)
                    have e9 : u 9 = _ := endS_get hE 9 (by decide)
                    have e10 : u 10 = _ := endS_get hE 10 (by decide)
                    have e11 : u 11 = _ := endS_get hE 11 (by decide)
                    have e12 : u 12 = _ := endS_get hE 12 (by decide)
                    have e13 : u 13 = _ := endS_get hE 13 (by decide)
                    have e14 : u 14 = _ := endS_get hE 14 (by decide)
                    have e15 : u 15 = _ := endS_get hE 15 (by decide)
                    have e16 : u 16 = _ := endS_get hE 16 (by decide)
                    have e17 : u 17 = _ := endS_get hE 17 (by decide)
                    have e18 : u 18 = _ := endS_get hE 18 (by decide)
                    have e19 : u 19 = _ := endS_get hE 19 (by decide)
                    have e20 : u 20 = _ := endS_get hE 20 (by decide)
                    have e21 : u 21 = _ := endS_get hE 21 (by decide)
                    have e22 : u 22 = _ := endS_get hE 22 (by decide)
                    have e23 : u 23 = _ := endS_get hE 23 (by decide)
                    have e24 : u 24 = _ := endS_get hE 24 (by decide)
                    have e25 : u 25 = _ := endS_get hE 25 (by decide)
                    have e26 : u 26 = _ := endS_get hE 26 (by decide)
                    have e27 : u 27 = _ := endS_get hE 27 (by decide)
                    have e28 : u 28 = _ := endS_get hE 28 (by decide)
                    have e29 : u 29 = _ := endS_get hE 29 (by decide)
                    have e30 : u 30 = _ := endS_get hE 30 (by decide)
                    have e31 : u 31 = _ := endS_get hE 31 (by decide)
                    have e32 : u 32 = _ := endS_get hE 32 (by decide)
                    have e33 : u 33 = _ := endS_get hE 33 (by decide)
                    have e34 : u 34 = _ := endS_get hE 34 (by decide)
                    have e35 : u 35 = _ := endS_get hE 35 (by decide)
                    have e36 : u 36 = _ := endS_get hE 36 (by decide)
                    have e37 : u 37 = _ := endS_get hE 37 (by decide)
                    have e38 : u 38 = _ := endS_get hE 38 (by decide)
                    have e39 : u 39 = _ := endS_get hE 39 (by decide)
                    have e40 : u 40 = _ := endS_get hE 40 (by decide)
                    simp only [List.drop_succ_cons, List.drop_zero, List.take_succ_cons, List.take_zero, fillL, Act.put, List.setIfInBounds_toArray, List.set_cons_zero, List.set_cons_succ, e0, e1, e2, e3, e4, e5, e6, e7, e8, e9, e10, e11, e12, e13, e14, e15, e16, e17, e18, e19, e20, e21, e22, e23, e24, e25, e26, e27, e28, e29, e30, e31, e32, e33, e34, e35, e36, e37, e38, e39, e40]
                    clear e0 e1 e2 e3 e4 e5 e6 e7 e8 e9 e10 e11 e12 e13 e14 e15 e16 e17 e18 e19 e20 e21 e22 e23 e24 e25 e26 e27 e28 e29 e30 e31 e32 e33 e34 e35 e36 e37 e38 e39 e40 hE
                    have HBw5 := Lib.hid (below_step (w := w4) (by first | assumption | go_grown) hb)
                    have HBXw5 := Lib.hid hb
                    have hzw5 := hb.size
                    (try simp only [World.size_alloc, World.size_setCell] at hzw5)
                    have hzw50 : w.heap.size < w5.heap.size := by omega
                    have hzw51 : b1 < w5.heap.size := by omega
                    obtain ⟨hcw5, hfw5⟩ := bcell hb
                    clear hb hzw5
                    have hB45 : Below w4.heap.size w4 w5 := HBw5.out
                    have hB35 : Below w3.heap.size w3 w5 := below_step HB34.out hB45
                    clear hB45
                    go_wp2
                    go_roundw
                    case rel => exact ⟨r + 1, by omega, by go_num, HOK1, hB35⟩
                    case measure => simp [intOf]; omega
                  · have kc2 : (n2 == 1) = false := by simpa using hc2
                    have kc3 : (n2 != 1) = true := by simpa using hc2
                    have HNO : Hid (¬ okE (edgesL F k) r) := fun h => by
                      have h := h.2.2
                      rw [HN.out] at h
                      have a2 := HN2.out
                      have h : List.count (y, x) (edgesL F k) = 1 := h
                      omega
                    clear hc2
                    go_wp2_with fail
                    refine wp_region_relw 41 (by kernel_rfl) (by kernel_rfl) (by kernel_rfl) ?_
                    simp only [List.take_succ_cons, List.take_zero, fillL, Act.put, List.setIfInBounds_toArray, List.set_cons_zero, List.set_cons_succ]
                    iterate 23
                      apply rel_is
                      · intro u wx hb hd
                        have hz := hb.size
                        (try simp only [World.size_alloc, World.size_setCell] at hz)
                        have hz0 : w.heap.size < wx.heap.size := by omega
                        have hz1 : b1 < wx.heap.size := by omega
                        obtain ⟨hc, hf⟩ := bcell hb
                        have HBX := Lib.hid hb
                        clear hb hz
                        simp [depsS, Region.binds, updS, Stay.is, Stay.any] at hd
                        go_simp
                        first | exact ⟨Below.refl _ _, rfl⟩ | rfl
                    apply rel_is
                    · intro u wx hb hd
                      have hz := hb.size
                      (try simp only [World.size_alloc, World.size_setCell] at hz)
                      have hz0 : w.heap.size < wx.heap.size := by omega
                      have hz1 : b1 < wx.heap.size := by omega
                      obtain ⟨hc, hf⟩ := bcell hb
                      have HBX := Lib.hid hb
                      clear hb hz
                      simp [depsS, Region.binds, updS, Stay.is, Stay.any] at hd
                      go_simp
                      first | rfl | (go_at_call 36; refine (HC1.out _ (below_step HB34.out HBX.out)).mono ?_; rintro e w1 ⟨rfl, hb1⟩; first | exact ⟨rfl, hb1⟩ | exact ⟨_, rfl, hb1, rfl⟩)
                    iterate 14
                      apply rel_is
                      · intro u wx hb hd
                        have hz := hb.size
                        (try simp only [World.size_alloc, World.size_setCell] at hz)
                        have hz0 : w.heap.size < wx.heap.size := by omega
                        have hz1 : b1 < wx.heap.size := by omega
                        obtain ⟨hc, hf⟩ := bcell hb
                        have HBX := Lib.hid hb
                        clear hb hz
                        simp [depsS, Region.binds, updS, Stay.is, Stay.any] at hd
                        go_simp
                        first | exact ⟨Below.refl _ _, rfl⟩ | rfl
                    apply rel_is
                    · intro u wx hb hd
                      have hz := hb.size
                      (try simp only [World.size_alloc, World.size_setCell] at hz)
                      have hz0 : w.heap.size < wx.heap.size := by omega
                      have hz1 : b1 < wx.heap.size := by omega
                      obtain ⟨hc, hf⟩ := bcell hb
                      have HBX := Lib.hid hb
                      clear hb hz
                      simp [depsS, Region.binds, updS, Stay.is, Stay.any] at hd
                      go_simp
                      first | rfl | (go_at_call 36; refine (HC2.out _ (below_step HB34.out HBX.out)).mono ?_; rintro e w1 ⟨rfl, hb1⟩; first | exact ⟨rfl, hb1⟩ | exact ⟨_, rfl, hb1, rfl⟩)
                    iterate 2
                      apply rel_is
                      · intro u wx hb hd
                        have hz := hb.size
                        (try simp only [World.size_alloc, World.size_setCell] at hz)
                        have hz0 : w.heap.size < wx.heap.size := by omega
                        have hz1 : b1 < wx.heap.size := by omega
                        obtain ⟨hc, hf⟩ := bcell hb
                        have HBX := Lib.hid hb
                        clear hb hz
                        simp [depsS, Region.binds, updS, Stay.is, Stay.any] at hd
                        go_simp
                        first | exact ⟨Below.refl _ _, rfl⟩ | rfl
                    intro u w5 hb hE
                    have e0 : u 0 = _ := endS_get hE 0 (by decide)
                    have e1 : u 1 = _ := endS_get hE 1 (by decide)
                    have e2 : u 2 = _ := endS_get hE 2 (by decide)
                    have e3 : u 3 = _ := endS_get hE 3 (by decide)
                    have e4 : u 4 = _ := endS_get hE 4 (by decide)
                    have e5 : u 5 = _ := endS_get hE 5 (by decide)
                    have e6 : u 6 = _ := endS_get hE 6 (by decide)
                    have e7 : u 7 = _ := endS_get hE 7 (by decide)
                    have e8 : u 8 = _ := endS_get hE 8 (by decide)
                    have e9 : u 9 = _ := endS_get hE 9 (by decide)
                    have e10 : u 10 = _ := endS_get hE 10 (by decide)
                    have e11 : u 11 = _ := endS_get hE 11 (by decide)
                    have e12 : u 12 = _ := endS_get hE 12 (by decide)
                    have e13 : u 13 = _ := endS_get hE 13 (by decide)
                    have e14 : u 14 = _ := endS_get hE 14 (by decide)
                    have e15 : u 15 = _ := endS_get hE 15 (by decide)
                    have e16 : u 16 = _ := endS_get hE 16 (by decide)
                    have e17 : u 17 = _ := endS_get hE 17 (by decide)
                    have e18 : u 18 = _ := endS_get hE 18 (by decide)
                    have e19 : u 19 = _ := endS_get hE 19 (by decide)
                    have e20 : u 20 = _ := endS_get hE 20 (by decide)
                    have e21 : u 21 = _ := endS_get hE 21 (by decide)
                    have e22 : u 22 = _ := endS_get hE 22 (by decide)
                    have e23 : u 23 = _ := endS_get hE 23 (by decide)
                    have e24 : u 24 = _ := endS_get hE 24 (by decide)
                    have e25 : u 25 = _ := endS_get hE 25 (by decide)
                    have e26 : u 26 = _ := endS_get hE 26 (by decide)
                    have e27 : u 27 = _ := endS_get hE 27 (by decide)
                    have e28 : u 28 = _ := endS_get hE 28 (by decide)
                    have e29 : u 29 = _ := endS_get hE 29 (by decide)
                    have e30 : u 30 = _ := endS_get hE 30 (by decide)
                    have e31 : u 31 = _ := endS_get hE 31 (by decide)
                    have e32 : u 32 = _ := endS_get hE 32 (by decide)
                    have e33 : u 33 = _ := endS_get hE 33 (by decide)
                    have e34 : u 34 = _ := endS_get hE 34 (by decide)
                    have e35 : u 35 = _ := endS_get hE 35 (by decide)
                    have e36 : u 36 = _ := endS_get hE 36 (by decide)
                    have e37 : u 37 = _ := endS_get hE 37 (by decide)
                    have e38 : u 38 = _ := endS_get hE 38 (by decide)
                    have e39 : u 39 = _ := endS_get hE 39 (by decide)
                    have e40 : u 40 = _ := endS_get hE 40 (by decide)
                    simp only [List.drop_succ_cons, List.drop_zero, List.take_succ_cons, List.take_zero, fillL, Act.put, List.setIfInBounds_toArray, List.set_cons_zero, List.set_cons_succ, e0, e1, e2, e3, e4, e5, e6, e7, e8, e9, e10, e11, e12, e13, e14, e15, e16, e17, e18, e19, e20, e21, e22, e23, e24, e25, e26, e27, e28, e29, e30, e31, e32, e33, e34, e35, e36, e37, e38, e39, e40]
                    clear e0 e1 e2 e3 e4 e5 e6 e7 e8 e9 e10 e11 e12 e13 e14 e15 e16 e17 e18 e19 e20 e21 e22 e23 e24 e25 e26 e27 e28 e29 e30 e31 e32 e33 e34 e35 e36 e37 e38 e39 e40 hE
                    have HBw5 := Lib.hid (below_step (w := w4) (by first | assumption | go_grown) hb)
                    have HBXw5 := Lib.hid hb
                    have hzw5 := hb.size
                    (try simp only [World.size_alloc, World.size_setCell] at hzw5)
                    have hzw50 : w.heap.size < w5.heap.size := by omega
                    have hzw51 : b1 < w5.heap.size := by omega
                    obtain ⟨hcw5, hfw5⟩ := bcell hb
                    clear hb hzw5
                    have hB45 : Below w4.heap.size w4 w5 := HBw5.out
                    have hBe : Below w.heap.size w w5 := below_step HBw3.out (below_step HB34.out hB45)
                    clear hB45
                    go_wp2
                    go_returns
                    rw [← HE.out, check_shape (by omega) (by omega) HAP.out HAI.out, shape_no HRL.out HNO.out]
                    exact ⟨rfl, hBe⟩
                · have kc2 : (n1 == 1) = false := by simpa using hc1
                  have kc3 : (n1 != 1) = true := by simpa using hc1
                  have HNO : Hid (¬ okE (edgesL F k) r) := fun h => by
                    have h := h.2.1
                    rw [HN.out] at h
                    have a1 := HN1.out
                    omega
                  clear hc1
                  go_wp2_with fail
                  refine wp_region_relw 41 (by kernel_rfl) (by kernel_rfl) (by kernel_rfl) ?_
                  simp only [List.take_succ_cons, List.take_zero, fillL, Act.put, List.setIfInBounds_toArray, List.set_cons_zero, List.set_cons_succ]
                  iterate 23
                    apply rel_is
                    · intro u wx hb hd
                      have hz := hb.size
                      (try simp only [World.size_alloc, World.size_setCell] at hz)
                      have hz0 : w.heap.size < wx.heap.size := by omega
                      have hz1 : b1 < wx.heap.size := by omega
                      obtain ⟨hc, hf⟩ := bcell hb
                      have HBX := Lib.hid hb
                      clear hb hz
                      simp [depsS, Region.binds, updS, Stay.is, Stay.any] at hd
                      go_simp
                      first | exact ⟨Below.refl _ _, rfl⟩ | rfl
                  apply rel_is
                  · intro u wx hb hd
                    have hz := hb.size
                    (try simp only [World.size_alloc, World.size_setCell] at hz)
                    have hz0 : w.heap.size < wx.heap.size := by omega
                    have hz1 : b1 < wx.heap.size := by omega
                    obtain ⟨hc, hf⟩ := bcell hb
                    have HBX := Lib.hid hb
                    clear hb hz
                    simp [depsS, Region.binds, updS, Stay.is, Stay.any] at hd
                    go_simp
                    first | rfl | (go_at_call 36; refine (HC1.out _ (below_step HB34.out HBX.out)).mono ?_; rintro e w1 ⟨rfl, hb1⟩; first | exact ⟨rfl, hb1⟩ | exact ⟨_, rfl, hb1, rfl⟩)
                  iterate 17
                    apply rel_is
                    · intro u wx hb hd
                      have hz := hb.size
                      (try simp only [World.size_alloc, World.size_setCell] at hz)
                      have hz0 : w.heap.size < wx.heap.size := by omega
                      have hz1 : b1 < wx.heap.size := by omega
                      obtain ⟨hc, hf⟩ := bcell hb
                      have HBX := Lib.hid hb
                      clear hb hz
                      simp [depsS, Region.binds, updS, Stay.is, Stay.any] at hd
                      go_simp
                      first | exact ⟨Below.refl _ _, rfl⟩ | rfl
                  intro u w5 hb hE
                  have e0 : u 0 = _ := endS_get hE 0 (by decide)
                  have e1 : u 1 = _ := endS_get hE 1 (by decide)
                  have e2 : u 2 = _ := endS_get hE 2 (by decide)
                  have e3 : u 3 = _ := endS_get hE 3 (by decide)
                  have e4 : u 4 = _ := endS_get hE 4 (by decide)
                  have e5 : u 5 = _ := endS_get hE 5 (by decide)
                  have e6 : u 6 = _ := endS_get hE 6 (by decide)
                  have e7 : u 7 = _ := endS_get hE 7 (by decide)
                  have e8 : u 8 = _ := endS_get hE 8 (by decide)
                  have e9 : u 9 = _ := endS_get hE 9 (by decide)
                  have e10 : u 10 = _ := endS_get hE 10 (by decide)
                  have e11 : u 11 = _ := endS_get hE 11 (by decide)
                  have e12 : u 12 = _ := endS_get hE 12 (by decide)
                  have e13 : u 13 = _ := endS_get hE 13 (by decide)
                  have e14 : u 14 = _ := endS_get hE 14 (by decide)
                  have e15 : u 15 = _ := endS_get hE 15 (by decide)
                  have e16 : u 16 = _ := endS_get hE 16 (by decide)
                  have e17 : u 17 = _ := endS_get hE 17 (by decide)
                  have e18 : u 18 = _ := endS_get hE 18 (by decide)
                  have e19 : u 19 = _ := endS_get hE 19 (by decide)
                  have e20 : u 20 = _ := endS_get hE 20 (by decide)
                  have e21 : u 21 = _ := endS_get hE 21 (by decide)
                  have e22 : u 22 = _ := endS_get hE 22 (by decide)
                  have e23 : u 23 = _ := endS_get hE 23 (by decide)
                  have e24 : u 24 = _ := endS_get hE 24 (by decide)
                  have e25 : u 25 = _ := endS_get hE 25 (by decide)
                  have e26 : u 26 = _ := endS_get hE 26 (by decide)
                  have e27 : u 27 = _ := endS_get hE 27 (by decide)
                  have e28 : u 28 = _ := endS_get hE 28 (by decide)
                  have e29 : u 29 = _ := endS_get hE 29 (by decide)
                  have e30 : u 30 = _ := endS_get hE 30 (by decide)
                  have e31 : u 31 = _ := endS_get hE 31 (by decide)
                  have e32 : u 32 = _ := endS_get hE 32 (by decide)
                  have e33 : u 33 = _ := endS_get hE 33 (by decide)
                  have e34 : u 34 = _ := endS_get hE 34 (by decide)
                  have e35 : u 35 = _ := endS_get hE 35 (by decide)
                  have e36 : u 36 = _ := endS_get hE 36 (by decide)
                  have e37 : u 37 = _ := endS_get hE 37 (by decide)
                  have e38 : u 38 = _ := endS_get hE 38 (by decide)
                  have e39 : u 39 = _ := endS_get hE 39 (by decide)
                  have e40 : u 40 = _ := endS_get hE 40 (by decide)
                  simp only [List.drop_succ_cons, List.drop_zero, List.take_succ_cons, List.take_zero, fillL, Act.put, List.setIfInBounds_toArray, List.set_cons_zero, List.set_cons_succ, e0, e1, e2, e3, e4, e5, e6, e7, e8, e9, e10, e11, e12, e13, e14, e15, e16, e17, e18, e19, e20, e21, e22, e23, e24, e25, e26, e27, e28, e29, e30, e31, e32, e33, e34, e35, e36, e37, e38, e39, e40]
                  clear e0 e1 e2 e3 e4 e5 e6 e7 e8 e9 e10 e11 e12 e13 e14 e15 e16 e17 e18 e19 e20 e21 e22 e23 e24 e25 e26 e27 e28 e29 e30 e31 e32 e33 e34 e35 e36 e37 e38 e39 e40 hE
                  have HBw5 := Lib.hid (below_step (w := w4) (by first | assumption | go_grown) hb)
                  have HBXw5 := Lib.hid hb
                  have hzw5 := hb.size
                  (try simp only [World.size_alloc, World.size_setCell] at hzw5)
                  have hzw50 : w.heap.size < w5.heap.size := by omega
                  have hzw51 : b1 < w5.heap.size := by omega
                  obtain ⟨hcw5, hfw5⟩ := bcell hb
                  clear hb hzw5
                  have hB45 : Below w4.heap.size w4 w5 := HBw5.out
                  have hBe : Below w.heap.size w w5 := below_step HBw3.out (below_step HB34.out hB45)
                  clear hB45
                  go_wp2
                  go_returns
                  rw [← HE.out, check_shape (by omega) (by omega) HAP.out HAI.out, shape_no HRL.out HNO.out]
                  exact ⟨rfl, hBe⟩
            · obtain rfl : r = n := by omega
              have HSH : Hid (shapeB P k F = decide (0 < volF P F k)) := shape_vol (by rw [HLN.out]; exact HOK.out)
              have HIP : Hid (∀ i, i < j → InB 1048576 (P i)) := fun i hi => of_decide_eq_true (allTo_iff.1 HAP.out i hi)
              have HIX : Hid (∀ i, i < k → idxB j (F i) = true) := fun i hi => allTo_iff.1 HAI.out i hi
              have hBw4 : Below w.heap.size w w4 := below_step HBw3.out hB34
              obtain ⟨C, hC⟩ : ∃ C, cmpI (volF P F k) 0 = C := ⟨_, rfl⟩
              have HC := Lib.hid hC
              have HCMP : Hid (∀ W, Calls Try.prog 37 #[.agg #[.bool (decide (volF P F k < 0)), .int .u64 ((wdF (volF P F k)) 0), .int .u64 ((wdF (volF P F k)) 1), .int .u64 ((wdF (volF P F k)) 2), .int .u64 ((wdF (volF P F k)) 3)], .agg #[.bool (decide (0 < 0)), .int .u64 ((wdF (0)) 0), .int .u64 ((wdF (0)) 1), .int .u64 ((wdF (0)) 2), .int .u64 ((wdF (0)) 3)]] W fun e w' => e = .returned (.int .i64 C) ∧ Below W.heap.size W w') := fun W => by
                have hb := sumTo_bd (f := fun j => fdet P (F j)) (B := 6917529027641081856) (n := k) (fun i hi => fdet_bd HIP.out (HIX.out i hi))
                have h2 : (k : Int) * 6917529027641081856 ≤ 2048 * 6917529027641081856 := Int.mul_le_mul_of_nonneg_right (by omega) (by decide)
                have h := rCmp_any (volF P F k) 0 _ _ _ _ W (wdF_is (by unfold volF; omega)) (wdF_is (by decide))
                rw [hC] at h
                exact h
              clear hC hB34 hs4
              by_cases hc : C ≤ 0
              · have kc : decide (C ≤ 0) = true := decide_eq_true hc
                have HEV : Hid (E = 17) := by
                  show _ = _
                  rw [← HE.out, check_shape (by omega) (by omega) HAP.out HAI.out, HSH.out, decide_eq_false (cmpI_pos.1 (by rw [HC.out]; exact hc))]
                  rfl
                go_wp2_with fail
                (go_at_call 38; refine (rvolume_any _ j k P F _ (HM.out.below (by first | assumption | go_grown)) (by omega) HIP.out HIX.out).mono ?_; rintro e_ w5 ⟨rfl, hb⟩)
                have hsw5 := hb.size
                (try simp only [World.size_alloc, World.size_setCell] at hsw5)
                have zzw5 : w.heap.size < w5.heap.size := by omega
                have hPw5 : Below w4.heap.size w4 w5 := below_step (w := w4) (by first | exact Below.refl _ _ | go_grown) hb
                have hBw5 : Below w.heap.size w w5 := below_step (w := w) (by first | assumption | go_grown) hb
                clear hb hsw5 hPw5
                go_wp2_with fail
                (go_at_call 39; refine (rOf_wd 0 _ (by decide)).mono ?_; rintro e_ w6 ⟨rfl, hb⟩)
                have hsw6 := hb.size
                (try simp only [World.size_alloc, World.size_setCell] at hsw6)
                have zzw6 : w.heap.size < w6.heap.size := by omega
                have hPw6 : Below w5.heap.size w5 w6 := below_step (w := w5) (by first | exact Below.refl _ _ | go_grown) hb
                have hBw6 : Below w.heap.size w w6 := below_step (w := w) (by first | assumption | go_grown) hb
                clear hb hsw6 hPw6
                go_wp2_with fail
                (go_at_call 37; refine (HCMP.out _).mono ?_; rintro e_ w7 ⟨rfl, hb⟩)
                have hsw7 := hb.size
                (try simp only [World.size_alloc, World.size_setCell] at hsw7)
                have zzw7 : w.heap.size < w7.heap.size := by omega
                have hPw7 : Below w6.heap.size w6 w7 := below_step (w := w6) (by first | exact Below.refl _ _ | go_grown) hb
                have hBw7 : Below w.heap.size w w7 := below_step (w := w) (by first | assumption | go_grown) hb
                clear hb hsw7 hPw7
                go_wp2
                go_returns
                rw [HEV.out]
                exact ⟨rfl, by assumption⟩
              · have kc : decide (C ≤ 0) = false := decide_eq_false hc
                have HEV : Hid (E = 0) := by
                  show _ = _
                  have hv : 0 < volF P F k := Decidable.byContradiction fun hv => hc (by rw [← HC.out]; exact cmpI_pos.2 hv)
                  rw [← HE.out, check_shape (by omega) (by omega) HAP.out HAI.out, HSH.out, decide_eq_true hv]
                  rfl
                go_wp2_with fail
                (go_at_call 38; refine (rvolume_any _ j k P F _ (HM.out.below (by first | assumption | go_grown)) (by omega) HIP.out HIX.out).mono ?_; rintro e_ w5 ⟨rfl, hb⟩)
                have hsw5 := hb.size
                (try simp only [World.size_alloc, World.size_setCell] at hsw5)
                have zzw5 : w.heap.size < w5.heap.size := by omega
                have hPw5 : Below w4.heap.size w4 w5 := below_step (w := w4) (by first | exact Below.refl _ _ | go_grown) hb
                have hBw5 : Below w.heap.size w w5 := below_step (w := w) (by first | assumption | go_grown) hb
                clear hb hsw5 hPw5
                go_wp2_with fail
                (go_at_call 39; refine (rOf_wd 0 _ (by decide)).mono ?_; rintro e_ w6 ⟨rfl, hb⟩)
                have hsw6 := hb.size
                (try simp only [World.size_alloc, World.size_setCell] at hsw6)
                have zzw6 : w.heap.size < w6.heap.size := by omega
                have hPw6 : Below w5.heap.size w5 w6 := below_step (w := w5) (by first | exact Below.refl _ _ | go_grown) hb
                have hBw6 : Below w.heap.size w w6 := below_step (w := w) (by first | assumption | go_grown) hb
                clear hb hsw6 hPw6
                go_wp2_with fail
                (go_at_call 37; refine (HCMP.out _).mono ?_; rintro e_ w7 ⟨rfl, hb⟩)
                have hsw7 := hb.size
                (try simp only [World.size_alloc, World.size_setCell] at hsw7)
                have zzw7 : w.heap.size < w7.heap.size := by omega
                have hPw7 : Below w6.heap.size w6 w7 := below_step (w := w6) (by first | exact Below.refl _ _ | go_grown) hb
                have hBw7 : Below w.heap.size w w7 := below_step (w := w) (by first | assumption | go_grown) hb
                clear hb hsw7 hPw7
                go_wp2
                go_returns
                rw [HEV.out]
                exact ⟨rfl, by assumption⟩

end Go.Proofs.Ytpjdmjmgkdgfnaa
