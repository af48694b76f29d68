/-
  The reference's Way, by a walk. Conditions: as stated. By an AI agent.
-/
import Derived.Test.YtpkgadjglidnaaaDoorCabL
namespace Go.Proofs.YtpkgadjglidnaaaDoor
open Go Go.ChangeShapes Go.WideShapes Go.RowKit Go.ChangeAt
set_option linter.unusedVariables false
set_option linter.unusedSimpArgs false

set_option maxHeartbeats 8000000 in
theorem way_any (v u : Value) (n ln : Nat) (T : Nat → Tr) (f : Nat → Int) (ci : ByteArray) (cf ct cs : Int) (w : World) (h : TraysAt w v n T) (h' : IntsAt w u ln f) (hix : ∀ q, q < ln → 0 ≤ f q ∧ f q < n) (hne : cf ≠ ct) :
    Calls Tryd.prog 25 #[v, .agg #[.string ci, .int .i64 cf, .int .i64 ct, .int .i64 cs], u] w fun e w' => e = .returned (.bool (isWayB T cf ct f ln)) ∧ Below w.heap.size w w' := by
  have HNE := Lib.hid hne
  have HIX := Lib.hid hix
  obtain ⟨oa, ca, rfl, hn, hel⟩ := h.form
  obtain ⟨ob, cb, rfl, hn', hub⟩ := h'.form
  have HEL := Lib.hid hel
  have HUL := Lib.hid hub
  obtain ⟨R, hR⟩ : ∃ R, isWayB T cf ct f ln = R := ⟨_, rfl⟩
  rw [hR]
  have HR := Lib.hid hR
  clear h h' hel hub hR hix hne
  go_enter Tryd.func25, Tryd.ntmps25
  go_wp2
  go_loopw [7, 8] (fun a i wr => ∃ (k : Nat) (x : Int), k ≤ ln ∧ i = .int .i64 k ∧ a = .int .i64 x ∧ Hid (wayA T cf f k = (x, true)) ∧ wr.cell? ⟨w.heap.size, 2, none⟩ = some (.int .i64 ct) ∧ w.heap.size < wr.heap.size ∧ Below w.heap.size w wr) (fun _ i _ => ln - (intOf i).toNat)
  case atStart => exact ⟨0, cf, by omega, rfl, rfl, rfl, by simp [go_sem], by simp, by go_grown⟩
  case round =>
    obtain ⟨w3, rfl⟩ : ∃ x : World, x = wr := ⟨_, rfl⟩
    obtain ⟨k, x, hk, rfl, rfl, HW, x2, zc, hB⟩ := hrel
    by_cases hkn : k < ln
    · obtain ⟨b2, f2, rfl, hbl2, hcl2⟩ := HUL.out k hkn
      have cu : w3.cell? ⟨b2, f2 + k, none⟩ = some (.int .i64 (f k)) := (hB.cell (p := ⟨_, _, none⟩) hbl2).trans (hcl2 k hkn)
      have HCL2 := Lib.hid hcl2
      obtain ⟨hi0, hi1⟩ := HIX.out k hkn
      obtain ⟨i, hi⟩ : ∃ i : Nat, f k = (i : Int) := ⟨(f k).toNat, by omega⟩
      rw [hi] at cu hi0 hi1
      have hin : i < n := by omega
      obtain ⟨b1, f1, rfl, hbl1, hcl1⟩ := HEL.out i hin
      have c0 : w3.cell? ⟨b1, f1 + i * 4, none⟩ = some (.int .i64 (T i).A) := (hB.cell (p := ⟨_, _, none⟩) hbl1).trans (hcl1 i hin).1
      have c1 : w3.cell? ⟨b1, f1 + i * 4 + 1, none⟩ = some (.int .i64 (T i).B) := (hB.cell (p := ⟨_, _, none⟩) hbl1).trans (hcl1 i hin).2.1
      have c2 : w3.cell? ⟨b1, f1 + i * 4 + 2, none⟩ = some (.int .i64 (T i).L) := (hB.cell (p := ⟨_, _, none⟩) hbl1).trans (hcl1 i hin).2.2.1
      have c3 : w3.cell? ⟨b1, f1 + i * 4 + 3, none⟩ = some (.int .i64 (T i).S) := (hB.cell (p := ⟨_, _, none⟩) hbl1).trans (hcl1 i hin).2.2.2
      obtain ⟨⟨ta, tb, tl, tsp⟩, htj⟩ : ∃ t, T i = t := ⟨_, rfl⟩
      rw [htj] at c0 c1 c2 c3
      dsimp only at c0 c1 c2 c3
      have HFK : Hid (f k = (i : Int)) := hi
      have HST : Hid (wayA T cf f (k + 1) = (othN ta tb x, true && othB ta tb x && allTo (fun q => decide (f q ≠ (i : Int))) k)) := by
        show _ = _
        rw [wayA_step, HW.out, hi]
        simp only [Int.toNat_natCast]
        rw [htj]
      have hbr1 : b1 < w3.heap.size := by have := hB.size; omega
      have hbr2 : b2 < w3.heap.size := by have := hB.size; omega
      have k0 : (0 : Int) ≤ (k : Int) := by omega
      have k1 : (k : Int) < (ln : Int) := by omega
      clear hcl1 hcl2 hi htj
      go_wp2_with fail
      (go_at_call 35; refine (rother_any ta tb tl tsp x _).mono ?_; rintro e_ w4 ⟨rfl, hb⟩)
      have hB4 : Below w.heap.size w w4 := below_step hB hb
      have y2 : w4.cell? ⟨w.heap.size, 2, none⟩ = some (.int .i64 ct) := (hb.cell (p := ⟨_, _, none⟩) zc).trans x2
      have zc4 : w.heap.size < w4.heap.size := by have := hb.size; omega
      clear hb c0 c1 c2 c3 cu x2
      obtain ⟨nx, hnx⟩ : ∃ y, rothN ta tb x = y := ⟨_, rfl⟩
      obtain ⟨ob, hob⟩ : ∃ y, othB ta tb x = y := ⟨_, rfl⟩
      rw [hnx, hob]
      have HNX : Hid (ob = true → nx = othN ta tb x) := fun e => by rw [← hnx]; exact roth_oth (by rw [hob]; exact e)
      have HOB := Lib.hid hob
      clear hnx hob
      go_wp2
      go_loopw [10, 11] (fun a i wr => ∃ (q : Nat) (bv : Bool), q ≤ k ∧ i = .int .i64 q ∧ a = .bool bv ∧ Hid ((ob && allTo (fun q => decide (f q ≠ f k)) q) = bv) ∧ Below w4.heap.size w4 wr) (fun _ i _ => k - (intOf i).toNat)
      case atStart => exact ⟨0, ob, by omega, rfl, rfl, Bool.and_true _, Below.refl _ _⟩
      case round =>
        obtain ⟨w5, rfl⟩ : ∃ x : World, x = wr := ⟨_, rfl⟩
        obtain ⟨q, bv, hq, rfl, rfl, HA, hB45⟩ := hrel
        have hB5 : Below w.heap.size w w5 := below_step hB4 hB45
        have HBX5 := Lib.hid hB45
        by_cases hqk : q < k
        · have hqn : q < ln := by omega
          have d0 : w5.cell? ⟨b2, f2 + q, none⟩ = some (.int .i64 (f q)) := (hB5.cell (p := ⟨_, _, none⟩) hbl2).trans (HCL2.out q hqn)
          have d1 : w5.cell? ⟨b2, f2 + k, none⟩ = some (.int .i64 (f k)) := (hB5.cell (p := ⟨_, _, none⟩) hbl2).trans (HCL2.out k hkn)
          have zb5 : b2 < w5.heap.size := by have := hB5.size; omega
          have zc5 : w.heap.size < w5.heap.size := by have := hB45.size; omega
          have m0 : (0 : Int) ≤ (q : Int) := by omega
          have m1 : (q : Int) < (ln : Int) := by omega
          obtain ⟨y, hy⟩ : ∃ y, f q = y := ⟨_, rfl⟩
          obtain ⟨z, hz⟩ : ∃ z, f k = z := ⟨_, rfl⟩
          have HSA : Hid ((ob && allTo (fun q => decide (f q ≠ f k)) (q + 1)) = (bv && decide (y ≠ z))) := by
            show _ = _
            rw [← HA.out, ← hy, ← hz, Bool.and_assoc]
            rfl
          rw [hy] at d0
          rw [hz] at d1
          clear hy hz
          cases bv
          · have HA2 : Hid ((ob && allTo (fun q => decide (f q ≠ f k)) (q + 1)) = false) := HSA.out
            go_wp2_with fail
            refine wp_region_relw 12 (by kernel_rfl) (by kernel_rfl) (by kernel_rfl) ?_
            simp only [List.take_succ_cons, List.take_zero, fillL, Act.put, List.setIfInBounds_toArray, List.set_cons_zero, List.set_cons_succ]
            iterate 12
              apply rel_is
              · intro u wx hb hd
                have hz := hb.size
                (try simp only [World.size_alloc, World.size_setCell] at hz)
                have hz0 : b2 < wx.heap.size := by omega
                have hz1 : w.heap.size < wx.heap.size := by omega
                obtain ⟨hc, hf⟩ := bcell hb
                have HBX := Lib.hid hb
                clear hb hz
                simp [depsS, Region.binds, updS, Stay.is, Stay.any] at hd
                go_simp
                first | exact ⟨Below.refl _ _, rfl⟩ | rfl
            intro u w6 hb hE
            have e0 : u 0 = _ := endS_get hE 0 (by decide)
            have e1 : u 1 = _ := endS_get hE 1 (by decide)
            have e2 : u 2 = _ := endS_get hE 2 (by decide)
            have e3 : u 3 = _ := endS_get hE 3 (by decide)
            have e4 : u 4 = _ := endS_get hE 4 (by decide)
            have e5 : u 5 = _ := endS_get hE 5 (by decide)
            have e6 : u 6 = _ := endS_get hE 6 (by decide)
            have e7 : u 7 = _ := endS_get hE 7 (by decide)
            have e8 : u 8 = _ := endS_get hE 8 (by decide)
            have e9 : u 9 = _ := endS_get hE 9 (by decide)
            have e10 : u 10 = _ := endS_get hE 10 (by decide)
            have e11 : u 11 = _ := endS_get hE 11 (by decide)
            simp only [List.drop_succ_cons, List.drop_zero, List.take_succ_cons, List.take_zero, fillL, Act.put, List.setIfInBounds_toArray, List.set_cons_zero, List.set_cons_succ, e0, e1, e2, e3, e4, e5, e6, e7, e8, e9, e10, e11]
            clear e0 e1 e2 e3 e4 e5 e6 e7 e8 e9 e10 e11 hE
            have HBw6 := Lib.hid (below_step (w := w5) (by first | assumption | go_grown) hb)
            have HBXw6 := Lib.hid hb
            have hzw6 := hb.size
            (try simp only [World.size_alloc, World.size_setCell] at hzw6)
            have hzw60 : b2 < w6.heap.size := by omega
            have hzw61 : w.heap.size < w6.heap.size := by omega
            obtain ⟨hcw6, hfw6⟩ := bcell hb
            clear hb hzw6
            have HB46 := Lib.hid (below_step HBX5.out HBXw6.out)
            go_wp2
            go_roundw
            case rel => exact ⟨q + 1, false, by omega, by go_num, rfl, HA2, HB46.out⟩
            case measure => simp [intOf]; omega
          · by_cases hyz : y = z
            · have HA2 : Hid ((ob && allTo (fun q => decide (f q ≠ f k)) (q + 1)) = false) := by show _ = _; rw [HSA.out]; simp [hyz]
              subst hyz
              go_wp2_with fail
              refine wp_region_relw 12 (by kernel_rfl) (by kernel_rfl) (by kernel_rfl) ?_
              simp only [List.take_succ_cons, List.take_zero, fillL, Act.put, List.setIfInBounds_toArray, List.set_cons_zero, List.set_cons_succ]
              iterate 12
                apply rel_is
                · intro u wx hb hd
                  have hz := hb.size
                  (try simp only [World.size_alloc, World.size_setCell] at hz)
                  have hz0 : b2 < wx.heap.size := by omega
                  have hz1 : w.heap.size < wx.heap.size := by omega
                  obtain ⟨hc, hf⟩ := bcell hb
                  have HBX := Lib.hid hb
                  clear hb hz
                  simp [depsS, Region.binds, updS, Stay.is, Stay.any] at hd
                  go_simp
                  first | exact ⟨Below.refl _ _, rfl⟩ | rfl
              intro u w6 hb hE
              have e0 : u 0 = _ := endS_get hE 0 (by decide)
              have e1 : u 1 = _ := endS_get hE 1 (by decide)
              have e2 : u 2 = _ := endS_get hE 2 (by decide)
              have e3 : u 3 = _ := endS_get hE 3 (by decide)
              have e4 : u 4 = _ := endS_get hE 4 (by decide)
              have e5 : u 5 = _ := endS_get hE 5 (by decide)
              have e6 : u 6 = _ := endS_get hE 6 (by decide)
              have e7 : u 7 = _ := endS_get hE 7 (by decide)
              have e8 : u 8 = _ := endS_get hE 8 (by decide)
              have e9 : u 9 = _ := endS_get hE 9 (by decide)
              have e10 : u 10 = _ := endS_get hE 10 (by decide)
              have e11 : u 11 = _ := endS_get hE 11 (by decide)
              simp only [List.drop_succ_cons, List.drop_zero, List.take_succ_cons, List.take_zero, fillL, Act.put, List.setIfInBounds_toArray, List.set_cons_zero, List.set_cons_succ, e0, e1, e2, e3, e4, e5, e6, e7, e8, e9, e10, e11]
              clear e0 e1 e2 e3 e4 e5 e6 e7 e8 e9 e10 e11 hE
              have HBw6 := Lib.hid (below_step (w := w5) (by first | assumption | go_grown) hb)
              have HBXw6 := Lib.hid hb
              have hzw6 := hb.size
              (try simp only [World.size_alloc, World.size_setCell] at hzw6)
              have hzw60 : b2 < w6.heap.size := by omega
              have hzw61 : w.heap.size < w6.heap.size := by omega
              obtain ⟨hcw6, hfw6⟩ := bcell hb
              clear hb hzw6
              have HB46 := Lib.hid (below_step HBX5.out HBXw6.out)
              go_wp2
              go_roundw
              case rel => exact ⟨q + 1, false, by omega, by go_num, rfl, HA2, HB46.out⟩
              case measure => simp [intOf]; omega
            · have HA2 : Hid ((ob && allTo (fun q => decide (f q ≠ f k)) (q + 1)) = true) := by show _ = _; rw [HSA.out]; simp [hyz]
              have kyz : (y == z) = false := by simpa using hyz
              have kyz2 : (y != z) = true := by simpa using hyz
              clear hyz
              go_wp2_with fail
              refine wp_region_relw 12 (by kernel_rfl) (by kernel_rfl) (by kernel_rfl) ?_
              simp only [List.take_succ_cons, List.take_zero, fillL, Act.put, List.setIfInBounds_toArray, List.set_cons_zero, List.set_cons_succ]
              iterate 12
                apply rel_is
                · intro u wx hb hd
                  have hz := hb.size
                  (try simp only [World.size_alloc, World.size_setCell] at hz)
                  have hz0 : b2 < wx.heap.size := by omega
                  have hz1 : w.heap.size < wx.heap.size := by omega
                  obtain ⟨hc, hf⟩ := bcell hb
                  have HBX := Lib.hid hb
                  clear hb hz
                  simp [depsS, Region.binds, updS, Stay.is, Stay.any] at hd
                  go_simp
                  first | exact ⟨Below.refl _ _, rfl⟩ | rfl
              intro u w6 hb hE
              have e0 : u 0 = _ := endS_get hE 0 (by decide)
              have e1 : u 1 = _ := endS_get hE 1 (by decide)
              have e2 : u 2 = _ := endS_get hE 2 (by decide)
              have e3 : u 3 = _ := endS_get hE 3 (by decide)
              have e4 : u 4 = _ := endS_get hE 4 (by decide)
              have e5 : u 5 = _ := endS_get hE 5 (by decide)
              have e6 : u 6 = _ := endS_get hE 6 (by decide)
              have e7 : u 7 = _ := endS_get hE 7 (by decide)
              have e8 : u 8 = _ := endS_get hE 8 (by decide)
              have e9 : u 9 = _ := endS_get hE 9 (by decide)
              have e10 : u 10 = _ := endS_get hE 10 (by decide)
              have e11 : u 11 = _ := endS_get hE 11 (by decide)
              simp only [List.drop_succ_cons, List.drop_zero, List.take_succ_cons, List.take_zero, fillL, Act.put, List.setIfInBounds_toArray, List.set_cons_zero, List.set_cons_succ, e0, e1, e2, e3, e4, e5, e6, e7, e8, e9, e10, e11]
              clear e0 e1 e2 e3 e4 e5 e6 e7 e8 e9 e10 e11 hE
              have HBw6 := Lib.hid (below_step (w := w5) (by first | assumption | go_grown) hb)
              have HBXw6 := Lib.hid hb
              have hzw6 := hb.size
              (try simp only [World.size_alloc, World.size_setCell] at hzw6)
              have hzw60 : b2 < w6.heap.size := by omega
              have hzw61 : w.heap.size < w6.heap.size := by omega
              obtain ⟨hcw6, hfw6⟩ := bcell hb
              clear hb hzw6
              have HB46 := Lib.hid (below_step HBX5.out HBXw6.out)
              go_wp2
              go_roundw
              case rel => exact ⟨q + 1, true, by omega, by go_num, rfl, HA2, HB46.out⟩
              case measure => simp [intOf]; omega
        · have hqe : q = k := by omega
          have HAE : Hid ((wayA T cf f (k + 1)).2 = bv) := by
            have h := HA.out
            rw [hqe, HFK.out] at h
            show _ = _
            rw [HST.out, HOB.out, ← h]
            rfl
          have y5 : w5.cell? ⟨w.heap.size, 2, none⟩ = some (.int .i64 ct) := (hB45.cell (p := ⟨_, _, none⟩) zc4).trans y2
          have zc5 : w.heap.size < w5.heap.size := by have := hB45.size; omega
          cases bv
          · have HNO := HAE
            have HRF : Hid (R = false) := by show _ = _; rw [← HR.out]; exact isWayB_no (k := k + 1) (by omega) HNO.out
            clear hqe
            go_wp2
            go_returns
            rw [HRF.out]
            exact ⟨rfl, hB5⟩
          · have HOT : Hid (ob = true) := by
              have h := HA.out
              cases ob
              · simp at h
              · rfl
            have HW2 : Hid (wayA T cf f (k + 1) = (nx, true)) := by
              show _ = _
              rw [HNX.out HOT.out]
              have h1 := HAE.out
              have h2 := HST.out
              rw [h2] at h1 ⊢
              dsimp only at h1
              rw [h1]
            clear hqe
            go_wp2
            go_roundw
            case rel => exact ⟨k + 1, nx, by omega, by go_num, rfl, HW2, y5, zc5, hB5⟩
            case measure => simp [intOf]; omega
    · have hke : k = ln := by omega
      have HRE : Hid (R = decide (x = ct)) := by
        show _ = _
        rw [← HR.out]
        unfold isWayB
        rw [← hke, HW.out]
        rfl
      by_cases hl0 : 0 < ln
      · have kl : decide ((0 : Int) < (ln : Int)) = true := decide_eq_true (by omega)
        by_cases hx : x = ct
        · have HRT : Hid (R = true) := by show _ = _; rw [HRE.out]; exact decide_eq_true hx
          subst hx
          clear hke
          go_wp2
          go_returns
          rw [HRT.out]
          exact ⟨by simp, hB⟩
        · have HRT : Hid (R = false) := by show _ = _; rw [HRE.out]; exact decide_eq_false hx
          have kx : (x == ct) = false := by simpa using hx
          clear hke hx
          go_wp2
          go_returns
          rw [HRT.out]
          exact ⟨rfl, hB⟩
      · have kl : decide ((0 : Int) < (ln : Int)) = false := decide_eq_false (by omega)
        have HRT : Hid (R = false) := by
          have h0 : k = 0 := by omega
          have h := HW.out
          rw [h0] at h
          cases h
          show _ = _
          rw [HRE.out]
          exact decide_eq_false HNE.out
        clear hke
        go_wp2
        go_returns
        rw [HRT.out]
        exact ⟨rfl, hB⟩
end Go.Proofs.YtpkgadjglidnaaaDoor
