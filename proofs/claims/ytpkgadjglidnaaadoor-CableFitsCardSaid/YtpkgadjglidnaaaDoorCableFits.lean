/-
  The law CableFits. Conditions: as stated. By an AI agent.
-/
import Derived.Test.YtpkgadjglidnaaaDoorCabT
import Derived.Test.YtpkgadjglidnaaaDoorCabV
import Derived.Test.YtpkgadjglidnaaaDoorCabX
import Derived.Test.YtpkgadjglidnaaaDoorRelw
namespace Go.Proofs.YtpkgadjglidnaaaDoor
open Go Go.ChangeShapes Go.WideShapes Go.RowKit Go.ChangeAt
set_option linter.unusedVariables false
set_option linter.unusedSimpArgs false

def Stay.ints (n : Nat) (f : Nat → Int) : Stay := ⟨fun v w => IntsAt w v n f, fun _ _ _ hb h => h.below hb⟩
def Stay.path (P : List Nat) : Stay := ⟨fun v w => PathAt w v P, fun _ _ _ hb h => h.below hb⟩
def Stay.rt (P : List Nat) (D E : Int) : Stay := ⟨fun v w => ∃ pv, v = .tuple #[pv, .int .i64 D, .int .i64 E] ∧ PathAt w pv P, fun _ _ _ hb ⟨pv, h1, h2⟩ => ⟨pv, h1, h2.below hb⟩⟩
theorem lay_check {n m : Nat} {T : Nat → Tr} {C : Nat → Cb} (h : layErr n T m C = 0) : checkF n T m C = 0 := by
  unfold layErr at h
  split at h
  · rename_i h1; exact absurd h h1
  · rename_i h1; simpa using h1

set_option maxHeartbeats 8000000 in
set_option maxRecDepth 20000 in
theorem cableFits_walk (v c : Value) (n m : Nat) (T : Nat → Tr) (C : Nat → Cb) (w : World) (ht : TraysAt w v n T) (hc : CabsAt w c m C) (hml : MaxLenIs w) : Calls Tryd.prog 9 #[v, c] w fun e w' => e = .returned (.bool true) ∧ Below w.heap.size w w' := by
  have HML := Lib.hid hml
  clear hml
  have hBw : Below w.heap.size w w := Below.refl _ _
  have HT := Lib.hid ht
  have HC := Lib.hid hc
  obtain ⟨oa, ca, rfl, hn9, hel⟩ := ht.form
  obtain ⟨oC, cC, rfl, hm9, hcl⟩ := hc.form
  have HEL := Lib.hid hel
  have HCL := Lib.hid hcl
  clear ht hc hel hcl
  obtain ⟨GR, hGR⟩ : ∃ b, greatB n m C = b := ⟨_, rfl⟩
  have HGR := Lib.hid hGR
  clear hGR
  go_enter Tryd.func9, Tryd.ntmps9
  go_wp2_with fail
  (go_at_call 10; refine (great_any _ _ n m T C _ HT.out HC.out).mono ?_; rintro e_ w1 ⟨rfl, hb⟩)
  have hPw1 : Below w.heap.size w w1 := below_step (w := w) (by first | exact Below.refl _ _ | go_grown) hb
  have hBw1 : Below w.heap.size w w1 := below_step hBw hPw1
  replace HML := Lib.hid (HML.out.below hPw1)
  replace HT := Lib.hid (HT.out.below hPw1)
  replace HC := Lib.hid (HC.out.below hPw1)
  rw [HGR.out]
  clear hb hPw1 hBw
  cases GR
  rotate_left
  · go_wp2_with fail
    (go_at_call 11; refine (alive_any _ (HML.out.below (by first | exact Below.refl _ _ | (show Below w1.heap.size w1 _; go_grown)))).mono ?_; rintro e_ wz ⟨rfl, hb⟩)
    have hPwz : Below w1.heap.size w1 wz := below_step (w := w1) (by first | exact Below.refl _ _ | go_grown) hb
    have hBwz : Below w.heap.size w wz := below_step hBw1 hPwz
    clear hb hPwz hBw1
    go_wp2
    go_returns
    exact ⟨rfl, hBwz⟩
  obtain ⟨hn, hm, hs⟩ := greatB_no HGR.out
  have HS := Lib.hid hs
  obtain ⟨E, hE⟩ : ∃ e, layErr n T m C = e := ⟨_, rfl⟩
  have HE := Lib.hid hE
  have HL1 : Hid (∀ W u c, TraysAt W u n T → CabsAt W c m C → MaxLenIs W → Calls Tryd.prog 19 #[u, c] W fun e w' => ∃ lv, e = .returned (.tuple #[lv, .int .i64 E]) ∧ PathsAt w' lv (okN E m) (layP n T C) ∧ Below W.heap.size W w') := fun W u c h1 h2 h3 => by
    have h := lay_any u c n m T C W h1 h2 HS.out h3
    rw [hE] at h
    exact h
  clear hE hs
  go_wp2_with fail
  (go_at_call 19; refine (HL1.out _ _ _ (HT.out.below (by first | exact Below.refl _ _ | (show Below w1.heap.size w1 _; go_grown))) (HC.out.below (by first | exact Below.refl _ _ | (show Below w1.heap.size w1 _; go_grown))) (HML.out.below (by first | exact Below.refl _ _ | (show Below w1.heap.size w1 _; go_grown)))).mono ?_; rintro e_ w2 ⟨lv, rfl, hlp, hb⟩)
  have hPw2 : Below w1.heap.size w1 w2 := below_step (w := w1) (by first | exact Below.refl _ _ | go_grown) hb
  have hBw2 : Below w.heap.size w w2 := below_step hBw1 hPw2
  replace HML := Lib.hid (HML.out.below hPw2)
  replace HT := Lib.hid (HT.out.below hPw2)
  replace HC := Lib.hid (HC.out.below hPw2)
  clear hb hPw2 hBw1
  have HLP := Lib.hid hlp
  obtain ⟨pv, hp1, hp2⟩ := hlp
  obtain ⟨oL, cL, rfl, hL1, hL2, hL3⟩ := hp1
  by_cases hE0 : E = 0
  rotate_left
  · have kE : (E == 0) = false := by simpa using hE0
    have kE2 : (E != 0) = true := by simpa using hE0
    have k0 : okN E m = 0 := okN_no hE0
    clear hE0 hp2 hL3
    rw [k0]
    clear k0
    go_wp2_with fail
    (go_at_call 11; refine (alive_any _ (HML.out.below (by first | exact Below.refl _ _ | (show Below w2.heap.size w2 _; go_grown)))).mono ?_; rintro e_ wz ⟨rfl, hb⟩)
    have hPwz : Below w2.heap.size w2 wz := below_step (w := w2) (by first | exact Below.refl _ _ | go_grown) hb
    have hBwz : Below w.heap.size w wz := below_step hBw2 hPwz
    clear hb hPwz hBw2
    go_wp2
    go_returns
    exact ⟨rfl, hBwz⟩
  subst hE0
  have k0 : okN 0 m = m := if_pos rfl
  rw [k0] at HLP hp2 hL3 ⊢
  clear k0
  have HPS : Hid (∀ k, k < m → ∃ b off, oL = some ⟨b, off, none⟩ ∧ b < w2.heap.size ∧ ∀ q, q < m → w2.cell? ⟨b, off + q, none⟩ = some (pv q)) := fun k hk => by
    obtain ⟨b, off, e, hlt, hc⟩ := hL3 (by omega)
    exact ⟨b, off, e, hlt, fun q hq => by have := hc q 0 hq (by decide); simpa using this⟩
  have HPA := Lib.hid hp2
  obtain ⟨f1, f2, f3⟩ := fits_all HE.out
  have HF2 := Lib.hid f2
  have HF3 := Lib.hid f3
  have HUS : Hid (∀ W u c p, TraysAt W u n T → CabsAt W c m C → PathsAt W p m (layP n T C) → MaxLenIs W → Calls Tryd.prog 22 #[u, c, p] W fun e w' => ∃ uv, e = .returned (.tuple #[uv, .int .i64 0]) ∧ IntsAt w' uv n (usdU C (fun k => (layP n T C k).length) (fun k => pathF (layP n T C k)) m) ∧ Below W.heap.size W w') := fun W u c p h1 h2 h4 h3 => by
    have h := used_any u c p n m m T C (fun k => (layP n T C k).length) (fun k => pathF (layP n T C k)) W h1 h2 h4 HS.out h3
    rw [f1] at h
    exact h
  clear f1 f2 f3 hp2 hL3
  go_wp2_with fail
  (go_at_call 22; refine (HUS.out _ _ _ _ (HT.out.below (by first | exact Below.refl _ _ | (show Below w2.heap.size w2 _; go_grown))) (HC.out.below (by first | exact Below.refl _ _ | (show Below w2.heap.size w2 _; go_grown))) (HLP.out.below (by first | exact Below.refl _ _ | (show Below w2.heap.size w2 _; go_grown))) (HML.out.below (by first | exact Below.refl _ _ | (show Below w2.heap.size w2 _; go_grown)))).mono ?_; rintro e_ w3 ⟨uv, rfl, huv, hb⟩)
  have hPw3 : Below w2.heap.size w2 w3 := below_step (w := w2) (by first | exact Below.refl _ _ | go_grown) hb
  have hBw3 : Below w.heap.size w w3 := below_step hBw2 hPw3
  replace HML := Lib.hid (HML.out.below hPw3)
  replace HT := Lib.hid (HT.out.below hPw3)
  replace HC := Lib.hid (HC.out.below hPw3)
  have HB23 := Lib.hid hPw3
  clear hb hPw3 hBw2
  obtain ⟨oU, cU, rfl, hU9, hul⟩ := huv.form
  have HUL := Lib.hid hul
  clear huv hul
  obtain ⟨UF, hUF⟩ : ∃ g, usdU C (fun k => (layP n T C k).length) (fun k => pathF (layP n T C k)) m = g := ⟨_, rfl⟩
  rw [hUF] at HF2 HUL
  clear hUF
  go_wp2
  go_loopw [9] (fun i wr => ∃ j : Nat, j ≤ n ∧ i = .int .i64 j ∧ Below w3.heap.size w3 wr) (fun i _ => n - (intOf i).toNat)
  case atStart => exact ⟨0, by omega, rfl, Below.refl _ _⟩
  case round =>
    obtain ⟨w4, rfl⟩ : ∃ x : World, x = wr := ⟨_, rfl⟩
    obtain ⟨j, hj, rfl, hB34⟩ := hrel
    have hBw4 : Below w.heap.size w w4 := below_step hBw3 hB34
    have HB34 := Lib.hid hB34
    by_cases hjn : j < n
    · obtain ⟨b1, f1, rfl, hbl1, hcl1⟩ := HEL.out j hjn
      obtain ⟨b2, f2, rfl, hbl2, hcl2⟩ := HUL.out j hjn
      have c3 : w4.cell? ⟨b1, f1 + j * 4 + 3, none⟩ = some (.int .i64 (T j).S) := (hBw4.cell (p := ⟨_, _, none⟩) hbl1).trans (hcl1 j hjn).2.2.2
      have cu : w4.cell? ⟨b2, f2 + j, none⟩ = some (.int .i64 (UF j)) := (hB34.cell (p := ⟨_, _, none⟩) hbl2).trans (hcl2 j hjn)
      have hfit := HF2.out j hjn
      obtain ⟨y, hy⟩ : ∃ y, UF j = y := ⟨_, rfl⟩
      obtain ⟨s, hs⟩ : ∃ y, (T j).S = y := ⟨_, rfl⟩
      rw [hy] at cu hfit
      rw [hs] at c3 hfit
      have ky : decide (y < 0) = false := decide_eq_false (by omega)
      have ky2 : decide (s < y) = false := decide_eq_false (by omega)
      have z1 : b1 < w4.heap.size := by have := hBw4.size; omega
      have z2 : b2 < w4.heap.size := by have := hB34.size; omega
      have k0 : (0 : Int) ≤ (j : Int) := by omega
      have k1 : (j : Int) < (n : Int) := by omega
      clear hcl1 hcl2 hy hs hfit hB34
      go_wp2_with fail
      refine wp_region_relw 17 (by kernel_rfl) (by kernel_rfl) (by kernel_rfl) ?_
      simp only [List.take_succ_cons, List.take_zero, fillL, Act.put, List.setIfInBounds_toArray, List.set_cons_zero, List.set_cons_succ]
      iterate 17
        apply rel_is
        · intro u wx hb hd
          have hz := hb.size
          (try simp only [World.size_alloc, World.size_setCell] at hz)
          have hz0 : b1 < wx.heap.size := by omega
          have hz1 : b2 < wx.heap.size := by omega
          obtain ⟨hc, hf⟩ := bcell hb
          have HBX := Lib.hid hb
          clear hb hz
          simp [depsS, Region.binds, updS, Stay.is, Stay.any] at hd
          go_simp
          first | exact ⟨Below.refl _ _, rfl⟩ | rfl
      intro u w5 hb hE
      have e0 : u 0 = _ := endS_get hE 0 (by decide)
      have e1 : u 1 = _ := endS_get hE 1 (by decide)
      have e2 : u 2 = _ := endS_get hE 2 (by decide)
      have e3 : u 3 = _ := endS_get hE 3 (by decide)
      have e4 : u 4 = _ := endS_get hE 4 (by decide)
      have e5 : u 5 = _ := endS_get hE 5 (by decide)
      have e6 : u 6 = _ := endS_get hE 6 (by decide)
      have e7 : u 7 = _ := endS_get hE 7 (by decide)
      have e8 : u 8 = _ := endS_get hE 8 (by decide)
      have e9 : u 9 = _ := endS_get hE 9 (by decide)
      have e10 : u 10 = _ := endS_get hE 10 (by decide)
      have e11 : u 11 = _ := endS_get hE 11 (by decide)
      have e12 : u 12 = _ := endS_get hE 12 (by decide)
      have e13 : u 13 = _ := endS_get hE 13 (by decide)
      have e14 : u 14 = _ := endS_get hE 14 (by decide)
      have e15 : u 15 = _ := endS_get hE 15 (by decide)
      have e16 : u 16 = _ := endS_get hE 16 (by decide)
      simp only [List.drop_succ_cons, List.drop_zero, List.take_succ_cons, List.take_zero, fillL, Act.put, List.setIfInBounds_toArray, List.set_cons_zero, List.set_cons_succ, e0, e1, e2, e3, e4, e5, e6, e7, e8, e9, e10, e11, e12, e13, e14, e15, e16]
      clear e0 e1 e2 e3 e4 e5 e6 e7 e8 e9 e10 e11 e12 e13 e14 e15 e16 hE
      have HBw5 := Lib.hid (below_step (w := w4) (by first | assumption | go_grown) hb)
      have HBXw5 := Lib.hid hb
      have hzw5 := hb.size
      (try simp only [World.size_alloc, World.size_setCell] at hzw5)
      have hzw50 : b1 < w5.heap.size := by omega
      have hzw51 : b2 < w5.heap.size := by omega
      obtain ⟨hcw5, hfw5⟩ := bcell hb
      clear hb hzw5
      go_wp2
      go_roundw
      case rel => exact ⟨j + 1, by omega, by go_num, below_step HB34.out HBXw5.out⟩
      case measure => simp [intOf]; omega
    · replace HML := Lib.hid (HML.out.below hB34)
      replace HT := Lib.hid (HT.out.below hB34)
      have hB24 : Below w2.heap.size w2 w4 := below_step HB23.out hB34
      have HMK : Hid (∀ W, (Instr.makeSlice 32 (.int .i64 (n : Int)) (.int .i64 (n : Int))).run Tryd.prog W = .ok (.slice (some ⟨W.heap.size, 0, none⟩) n n) (W.alloc (.cells (arrI n (fun _ => 0)) 3))) := fun W => by
        obtain ⟨i0, hi0, hz0, hs0, hb0⟩ := info1_parts info_int
        have h := run_make_row (P := Tryd.prog) 32 3 i0 _ Tryd.underlying32 hi0 hz0 hs0 rfl .i64 .i64 n (by rw [hb0]; omega) (by omega) W
        rw [madeI] at h
        exact h
      clear hB34 HB34
      go_wp2
      go_loopw [10] (fun i wr => ∃ k : Nat, k ≤ m ∧ i = .int .i64 k ∧ Below w4.heap.size w4 wr) (fun i _ => m - (intOf i).toNat)
      case atStart => exact ⟨0, by omega, rfl, Below.refl _ _⟩
      case round =>
        obtain ⟨w5, rfl⟩ : ∃ x : World, x = wr := ⟨_, rfl⟩
        obtain ⟨k, hk, rfl, hB45⟩ := hrel
        have hBw5 : Below w.heap.size w w5 := below_step hBw4 hB45
        have hB25 : Below w2.heap.size w2 w5 := below_step hB24 hB45
        have HB45 := Lib.hid hB45
        by_cases hkm : k < m
        · obtain ⟨b1, f1, rfl, hbl1, hcl1⟩ := HCL.out k hkm
          obtain ⟨bv, fv, rfl, hblv, hclv⟩ := HPS.out k hkm
          have c0 : w5.cell? ⟨b1, f1 + k * 4, none⟩ = some (.string (C k).id) := (hBw5.cell (p := ⟨_, _, none⟩) hbl1).trans (hcl1 k hkm).1
          have c1 : w5.cell? ⟨b1, f1 + k * 4 + 1, none⟩ = some (.int .i64 (C k).fr) := (hBw5.cell (p := ⟨_, _, none⟩) hbl1).trans (hcl1 k hkm).2.1
          have c2 : w5.cell? ⟨b1, f1 + k * 4 + 2, none⟩ = some (.int .i64 (C k).to) := (hBw5.cell (p := ⟨_, _, none⟩) hbl1).trans (hcl1 k hkm).2.2.1
          have c3 : w5.cell? ⟨b1, f1 + k * 4 + 3, none⟩ = some (.int .i64 (C k).sz) := (hBw5.cell (p := ⟨_, _, none⟩) hbl1).trans (hcl1 k hkm).2.2.2
          have cpv := (hclv k hkm)
          obtain ⟨g1, g2, g3, g4⟩ := HF3.out k hkm
          have hsz := HS.out k hkm
          have hpa := HPA.out k hkm
          obtain ⟨oP, cP, hpk, hlP, -⟩ := hpa.form
          rw [hpk] at cpv hpa
          have HPA2 := Lib.hid hpa
          have HCV := Lib.hid cpv
          obtain ⟨⟨ci, cf, ct, cs⟩, hcj⟩ : ∃ c, C k = c := ⟨_, rfl⟩
          rw [hcj] at c0 c1 c2 c3 g1 g2 hsz
          dsimp only at c0 c1 c2 c3 hsz
          obtain ⟨PL, hPL⟩ : ∃ p, layP n T C k = p := ⟨_, rfl⟩
          rw [hPL] at g2 g3 g4 HPA2 hpk HCV
          obtain ⟨PR, hPR⟩ : ∃ p, routeP n T n (fun _ => 0) ⟨ci, cf, ct, cs⟩ = p := ⟨_, rfl⟩
          obtain ⟨D, hD⟩ : ∃ p, routeD n T n (fun _ => 0) ⟨ci, cf, ct, cs⟩ = p := ⟨_, rfl⟩
          rw [hD] at g2
          have HRT : Hid (∀ W u c, TraysAt W u n T → IntsAt W c n (fun _ => 0) → MaxLenIs W → Calls Tryd.prog 16 #[u, c, .agg #[.string ci, .int .i64 cf, .int .i64 ct, .int .i64 cs]] W fun e w' => ∃ pv, e = .returned (.tuple #[pv, .int .i64 D, .int .i64 0]) ∧ PathAt w' pv PR ∧ Below W.heap.size W w') := fun W u c h1 h2 h3 => by
            refine (route_any u c n n T (fun _ => 0) ci cf ct cs W h1 h2 hsz h3).mono ?_
            rintro e w' ⟨pv, rfl, h4, -, hb⟩
            rw [hD, g1]
            rw [hPR] at h4
            exact ⟨pv, rfl, h4, hb⟩
          have zb1 : b1 < w5.heap.size := by have := hBw5.size; omega
          have zbv : bv < w5.heap.size := by have := hB25.size; omega
          have k0 : (0 : Int) ≤ (k : Int) := by omega
          have k1 : (k : Int) < (m : Int) := by omega
          have hTK := (checkF_ok (lay_check HE.out)).2.2.1
          have HTK := Lib.hid hTK
          have HX := Lib.hid g3
          have HTx := Lib.hid (HT.out.below hB45)
          have HMx := Lib.hid (HML.out.below hB45)
          clear hcl1 hclv cpv hpa hpk hcj hPL hPR hD g1 g3 hTK hB45 hsz
          go_wp2_with fail
          refine wp_region_relw 16 (by kernel_rfl) (by kernel_rfl) (by kernel_rfl) ?_
          simp only [List.take_succ_cons, List.take_zero, fillL, Act.put, List.setIfInBounds_toArray, List.set_cons_zero, List.set_cons_succ]
          iterate 3
            apply rel_is
            · intro u wx hb hd
              have hz := hb.size
              (try simp only [World.size_alloc, World.size_setCell] at hz)
              have hz0 : b1 < wx.heap.size := by omega
              have hz1 : bv < wx.heap.size := by omega
              obtain ⟨hc, hf⟩ := bcell hb
              have HBX := Lib.hid hb
              clear hb hz
              simp [depsS, Region.binds, updS, Stay.is, Stay.any] at hd
              go_simp
              first | exact ⟨Below.refl _ _, rfl⟩ | rfl
          refine rel_new (Stay.ints n (fun _ => 0)) ?_ ?_
          · intro u wx hb hd
            have hz := hb.size
            (try simp only [World.size_alloc, World.size_setCell] at hz)
            have hz0 : b1 < wx.heap.size := by omega
            have hz1 : bv < wx.heap.size := by omega
            obtain ⟨hc, hf⟩ := bcell hb
            have HBX := Lib.hid hb
            clear hb hz
            simp [depsS, Region.binds, updS, Stay.is, Stay.any] at hd
            refine ⟨by simp [Region.wanted, yielded, hd], ?_⟩
            have hmk := HMK.out wx
            go_simp
            exact ⟨(Below.refl _ _).alloc (Nat.le_refl _) _, ints_of (heapA_at _ _ _ rfl) (by omega)⟩
          iterate 4
            apply rel_is
            · intro u wx hb hd
              have hz := hb.size
              (try simp only [World.size_alloc, World.size_setCell] at hz)
              have hz0 : b1 < wx.heap.size := by omega
              have hz1 : bv < wx.heap.size := by omega
              obtain ⟨hc, hf⟩ := bcell hb
              have HBX := Lib.hid hb
              clear hb hz
              simp [depsS, Region.binds, updS, Stay.is, Stay.any] at hd
              go_simp
              first | exact ⟨Below.refl _ _, rfl⟩ | rfl
          refine rel_new (Stay.rt (PR) (D) (0)) ?_ ?_
          · intro u wx hb hd
            have hz := hb.size
            (try simp only [World.size_alloc, World.size_setCell] at hz)
            have hz0 : b1 < wx.heap.size := by omega
            have hz1 : bv < wx.heap.size := by omega
            obtain ⟨hc, hf⟩ := bcell hb
            have HBX := Lib.hid hb
            clear hb hz
            simp [depsS, Region.binds, updS, Stay.is, Stay.any] at hd
            refine ⟨by simp [Region.wanted, yielded, hd], ?_⟩
            have hin := hd.2.1
            go_simp
            (go_at_call 16; refine (HRT.out _ _ _ (HTx.out.below HBX.out) hin (HMx.out.below HBX.out)).mono ?_; rintro e w9 ⟨pv', rfl, hpa', hb1⟩)
            first | exact ⟨hb1, pv', rfl, hpa'⟩ | exact ⟨_, rfl, hb1, pv', rfl, hpa'⟩
          refine rel_new (Stay.rt (PR) (D) (0)) ?_ ?_
          · intro u wx hb hd
            have hz := hb.size
            (try simp only [World.size_alloc, World.size_setCell] at hz)
            have hz0 : b1 < wx.heap.size := by omega
            have hz1 : bv < wx.heap.size := by omega
            obtain ⟨hc, hf⟩ := bcell hb
            have HBX := Lib.hid hb
            clear hb hz
            simp [depsS, Region.binds, updS, Stay.is, Stay.any] at hd
            refine ⟨by simp [Region.wanted, yielded, hd], ?_⟩
            have hrt := hd
            go_simp
            first | exact ⟨Below.refl _ _, hrt⟩ | exact Below.refl _ _
          refine rel_new (Stay.path (PR)) ?_ ?_
          · intro u wx hb hd
            have hz := hb.size
            (try simp only [World.size_alloc, World.size_setCell] at hz)
            have hz0 : b1 < wx.heap.size := by omega
            have hz1 : bv < wx.heap.size := by omega
            obtain ⟨hc, hf⟩ := bcell hb
            have HBX := Lib.hid hb
            clear hb hz
            simp [depsS, Region.binds, updS, Stay.is, Stay.any] at hd
            refine ⟨by simp [Region.wanted, yielded, hd], ?_⟩
            obtain ⟨pv', hpv', hpa'⟩ := hd
            have HPA' := Lib.hid hpa'
            clear hpa'
            go_simp
            first | exact ⟨Below.refl _ _, HPA'.out⟩ | exact Below.refl _ _
          apply rel_is
          · intro u wx hb hd
            have hz := hb.size
            (try simp only [World.size_alloc, World.size_setCell] at hz)
            have hz0 : b1 < wx.heap.size := by omega
            have hz1 : bv < wx.heap.size := by omega
            obtain ⟨hc, hf⟩ := bcell hb
            have HBX := Lib.hid hb
            clear hb hz
            simp [depsS, Region.binds, updS, Stay.is, Stay.any] at hd
            obtain ⟨pv', hpv', hpa'⟩ := hd
            clear hpa'
            go_simp
            first | exact ⟨Below.refl _ _, rfl⟩ | rfl
          apply rel_is
          · intro u wx hb hd
            have hz := hb.size
            (try simp only [World.size_alloc, World.size_setCell] at hz)
            have hz0 : b1 < wx.heap.size := by omega
            have hz1 : bv < wx.heap.size := by omega
            obtain ⟨hc, hf⟩ := bcell hb
            have HBX := Lib.hid hb
            clear hb hz
            simp [depsS, Region.binds, updS, Stay.is, Stay.any] at hd
            obtain ⟨pv', hpv', hpa'⟩ := hd
            clear hpa'
            go_simp
            first | exact ⟨Below.refl _ _, rfl⟩ | rfl
          refine rel_new (Stay.path (PR)) ?_ ?_
          · intro u wx hb hd
            have hz := hb.size
            (try simp only [World.size_alloc, World.size_setCell] at hz)
            have hz0 : b1 < wx.heap.size := by omega
            have hz1 : bv < wx.heap.size := by omega
            obtain ⟨hc, hf⟩ := bcell hb
            have HBX := Lib.hid hb
            clear hb hz
            simp [depsS, Region.binds, updS, Stay.is, Stay.any] at hd
            refine ⟨by simp [Region.wanted, yielded, hd], ?_⟩
            have hpth := hd
            go_simp
            first | exact ⟨Below.refl _ _, hpth⟩ | exact Below.refl _ _
          iterate 2
            apply rel_is
            · intro u wx hb hd
              have hz := hb.size
              (try simp only [World.size_alloc, World.size_setCell] at hz)
              have hz0 : b1 < wx.heap.size := by omega
              have hz1 : bv < wx.heap.size := by omega
              obtain ⟨hc, hf⟩ := bcell hb
              have HBX := Lib.hid hb
              clear hb hz
              simp [depsS, Region.binds, updS, Stay.is, Stay.any] at hd
              go_simp
              first | exact ⟨Below.refl _ _, rfl⟩ | rfl
          intro u w6 hb hE
          have e0 : u 0 = _ := endS_get hE 0 (by decide)
          have e1 : u 1 = _ := endS_get hE 1 (by decide)
          have e2 : u 2 = _ := endS_get hE 2 (by decide)
          have e4 : u 4 = _ := endS_get hE 4 (by decide)
          have e5 : u 5 = _ := endS_get hE 5 (by decide)
          have e6 : u 6 = _ := endS_get hE 6 (by decide)
          have e7 : u 7 = _ := endS_get hE 7 (by decide)
          have e11 : u 11 = _ := endS_get hE 11 (by decide)
          have e12 : u 12 = _ := endS_get hE 12 (by decide)
          have HPu : Hid (PathAt w6 (u 13) (PR)) := endS_get hE 13 (by decide)
          have e14 : u 14 = _ := endS_get hE 14 (by decide)
          have e15 : u 15 = _ := endS_get hE 15 (by decide)
          simp only [List.drop_succ_cons, List.drop_zero, List.take_succ_cons, List.take_zero, fillL, Act.put, List.setIfInBounds_toArray, List.set_cons_zero, List.set_cons_succ, e0, e1, e2, e4, e5, e6, e7, e11, e12, e14, e15]
          clear e0 e1 e2 e4 e5 e6 e7 e11 e12 e14 e15 hE
          have HBw6 := Lib.hid (below_step (w := w5) (by first | assumption | go_grown) hb)
          have HBXw6 := Lib.hid hb
          have hzw6 := hb.size
          (try simp only [World.size_alloc, World.size_setCell] at hzw6)
          have hzw60 : b1 < w6.heap.size := by omega
          have hzw61 : bv < w6.heap.size := by omega
          obtain ⟨hcw6, hfw6⟩ := bcell hb
          clear hb hzw6
          have cp6 : w6.cell? ⟨bv, fv + k, none⟩ = some (.slice oP PL.length cP) := (HBXw6.out.cell (p := ⟨_, _, none⟩) zbv).trans ((hB25.cell (p := ⟨_, _, none⟩) hblv).trans HCV.out)
          have zb6 : bv < w6.heap.size := by have := HBXw6.out.size; omega
          have hB26 : Below w2.heap.size w2 w6 := below_step hB25 HBXw6.out
          have hBw6 : Below w.heap.size w w6 := below_step hBw5 HBXw6.out
          have HT6 := Lib.hid (HTx.out.below HBXw6.out)
          have HP6 := Lib.hid (HPA2.out.below hB26)
          obtain ⟨SM, hSM⟩ : ∃ s, sumF T (pathF PL) PL.length = s := ⟨_, rfl⟩
          rw [hSM] at g2
          have HSM := Lib.hid hSM
          have kD : decide (SM < D) = false := decide_eq_false (by omega)
          obtain ⟨ln, hln⟩ : ∃ l, PL.length = l := ⟨_, rfl⟩
          have HLN := Lib.hid hln
          rw [hln] at cp6
          have HIN : Hid (∀ W, IntsAt W (.slice oP ln cP) PL.length (pathF PL) → Calls Tryd.prog 24 #[.slice oP ln cP, .int .i64 (n : Int)] W fun e w' => e = .returned (.bool true) ∧ Below W.heap.size W w') := fun W h => by
            have h2 := indices_any (.slice oP ln cP) PL.length n (pathF PL) W h
            rw [HX.out] at h2
            exact h2
          have HSU : Hid (∀ W u, TraysAt W u n T → IntsAt W (.slice oP ln cP) PL.length (pathF PL) → Calls Tryd.prog 26 #[u, .slice oP ln cP] W fun e w' => e = .returned (.int .i64 SM) ∧ Below W.heap.size W w') := fun W u h1 h => by
            have h2 := sum_any u (.slice oP ln cP) n PL.length T (pathF PL) W h1 h HTK.out (idxB_ix HX.out) g4
            rw [HSM.out] at h2
            exact h2
          have HP7 : Hid (IntsAt w6 (.slice oP ln cP) PL.length (pathF PL)) := by
            have h : PathAt w6 (.slice oP PL.length cP) PL := HP6.out
            show IntsAt _ _ _ _
            rw [← hln]
            exact h
          clear hSM hln hcw6 hfw6 c0 c1 c2 c3 g2 g4
          go_wp2_with fail
          (go_at_call 24; refine (HIN.out _ HP7.out).mono ?_; rintro e_ w7 ⟨rfl, hb⟩)
          have hB67 : Below w6.heap.size w6 w7 := hb
          have cp7 : w7.cell? ⟨bv, fv + k, none⟩ = some (.slice oP ln cP) := (hb.cell (p := ⟨_, _, none⟩) zb6).trans cp6
          have zb7 : bv < w7.heap.size := by have := hb.size; omega
          have HB67 := Lib.hid hB67
          clear hb cp6 hB67
          go_wp2_with fail
          (go_at_call 26; refine (HSU.out _ _ (HT6.out.below HB67.out) (HP7.out.below HB67.out)).mono ?_; rintro e_ w8 ⟨rfl, hb⟩)
          have HB68 := Lib.hid (below_step HB67.out hb)
          clear hb cp7
          go_wp2
          go_roundw
          case rel => exact ⟨k + 1, by omega, by go_num, below_step HB45.out (below_step HBXw6.out HB68.out)⟩
          case measure => simp [intOf]; omega
        · replace HML := Lib.hid (HML.out.below hB45)
          clear hB45 HB45 hB25 hBw4
          go_wp2_with fail
          (go_at_call 11; refine (alive_any _ (HML.out.below (by first | exact Below.refl _ _ | (show Below w5.heap.size w5 _; go_grown)))).mono ?_; rintro e_ wz ⟨rfl, hb⟩)
          have hPwz : Below w5.heap.size w5 wz := below_step (w := w5) (by first | exact Below.refl _ _ | go_grown) hb
          have hBwz : Below w.heap.size w wz := below_step hBw5 hPwz
          clear hb hPwz hBw5
          go_wp2
          go_returns
          exact ⟨rfl, hBwz⟩

set_option maxRecDepth 100000 in
theorem cableFits_contract (H : Type) (enc : TypeId × Value → H) (W : World) (base : Nat) (args : Array Value) (ds gs : List (DataW H)) (before : List MemPlace)
    (hval : ∀ (j : Nat) t v, Tryd.f9.params[j]? = some t → args[j]? = some v → Value.okWide Tryd.prog W .any base t v)
    (hW : DataW.Whole enc Tryd.prog Tryd.f9.params.toList Rows.cableFitsSpec.vars false W args.toList ds gs before) (hL : laidMetH Tryd.prog Rows.cableFitsRow.laid W) (hSh : W.ShapedOpen Tryd.prog) :
    Calls Tryd.prog 9 args W fun e W' => ∃ v, e = .returned v ∧ Rows.cableFitsSpec.post enc Tryd.prog Tryd.f9 false true false false W args v W' := by
  have hW' := hW
  obtain ⟨p, q, hA0, hV, rfl, hfz, hnd⟩ := hW
  have hA : DataW.TrodAll enc Tryd.prog W 0 (fun _ => true) true Tryd.f9.params.toList args.toList ds p := hA0
  rw [Tryd.params9] at hA hval
  obtain ⟨v0, vs0, d0, ds0, p0, q0, hargs, rfl, rfl, h0, r0⟩ := trodAll_cons hA
  obtain ⟨v1, vs1, d1, ds1, p1, q1, rfl, rfl, rfl, h1, r1⟩ := trodAll_cons r0
  obtain ⟨rfl, rfl, rfl⟩ := trodAll_nil r1
  obtain rfl : args = #[v0, v1] := by cases args; simp_all
  obtain ⟨n, T, ht⟩ := trays_arg (hval 0 22 v0 rfl rfl) h0
  obtain ⟨m, C, hc⟩ := cabs_arg (hval 1 23 v1 rfl rfl) h1
  refine (cableFits_walk _ _ n m T C W ht hc (maxLen_of W hSh)).mono fun e W' ⟨he, hb⟩ => ?_
  subst he
  exact ⟨_, rfl, law_post laidOut (by kernel_rfl) (by kernel_rfl) Tryd.underlying4 rfl hW' (fun _ => rfl) hb⟩
theorem cableFits_laid (os : Os) : laidMet Tryd.prog Rows.cableFitsRow.laid ((laidWorld os).forCall (fun _ _ => 0) ⟨#[], #[.slice none 0 0, .slice none 0 0], []⟩).memory := laidMet_of_run' 8 (by kernel_rfl) (by kernel_rfl)
theorem cableFits_reads (os : Os) {H : Type} (enc : TypeId × Value → H) : ∃ places, DataW.whole enc Tryd.prog ((laidWorld os).forCall (fun _ _ => 0) ⟨#[], #[.slice none 0 0, .slice none 0 0], []⟩).memory Tryd.f9.params.toList Rows.cableFitsSpec.vars false (#[.slice none 0 0, .slice none 0 0] : Array Value).toList 8 = some ([.nil, .nil], [], places) := ⟨[], by kernel_rfl⟩
set_option maxRecDepth 100000 in
theorem cableFits_lifted (os : Os) (started : os.Started) (H : Type) (enc : TypeId × Value → H) (F : Stop.Interp) :
    ReturnsInHanded {} Tryd.checked os 9 .any ((OpenSpec.ofChange Rows.cableFitsSpec).preRow enc Tryd.prog Tryd.f9 Rows.cableFitsRow.domain false Rows.cableFitsRow.laid) (((OpenSpec.ofChange Rows.cableFitsSpec).at F).post enc Tryd.prog Tryd.f9 false true false false) := by
  obtain ⟨places, hx⟩ := cableFits_reads os enc
  refine returnsInHanded_of_row (C := Tryd.checked) (s := OpenSpec.ofChange Rows.cableFitsSpec) own started (by kernel_rfl) Tryd.func9
    (witness_row_at (enc := enc) (C := Tryd.checked) false (laidWorld os) #[.slice none 0 0, .slice none 0 0] rfl (by kernel_rfl) (by kernel_rfl) (by kernel_rfl)
      (OpenSpec.preRow_of_cond 8 hx (by kernel_rfl) (fun k hk => by cases hk) (by kernel_rfl) (cableFits_laid os))) ?_
  intro W base args ds gs before hval hW _ _ _ hL hSh _
  exact cableFits_contract H enc W base args ds gs before hval hW hL hSh
theorem cableFits_said : Rows.CableFitsSaid :=
  OpenClaim.holds_of_cond 9 Tryd.f9 rfl rfl rfl rfl rfl rfl rfl ⟨rfl, rfl, rfl, rfl, rfl⟩ rfl rfl rfl rfl rfl (by kernel_rfl) Tryd.func9 (by kernel_rfl)
    (of_decide_eq_true (by kernel_rfl)) (by unfold Func.isWrapper; rw [if_neg (of_decide_eq_false (by kernel_rfl))]; exact ⟨rfl, rfl⟩)
    (fun os started H enc _ F => by rw [OpenClaim.pre_eq_preRow]; exact cableFits_lifted os started H enc F)
theorem cableFits_plain (f : FuncId) (fn : Func) (hf : Tryd.pinned.checked.prog.funcNamed "shipyard/shipyardlaw45.CableFits" = some f) (hfn : Tryd.pinned.checked.prog.funcs[f]? = some fn) :
    false = Tryd.pinned.checked.prog.looks [] ∧ ∀ (j : Nat) t, fn.params[j]? = some t → Tryd.pinned.checked.prog.wantsStandIn t = false := by
  obtain rfl : f = 9 := Option.some.inj ((show Tryd.prog.funcNamed "shipyard/shipyardlaw45.CableFits" = some 9 by kernel_rfl).symm.trans hf) |>.symm
  obtain rfl : fn = Tryd.f9 := (Option.some.inj (Tryd.func9.symm.trans hfn)).symm
  refine ⟨by kernel_rfl, fun j t ht => ?_⟩
  rw [Tryd.params9] at ht
  have hm : t ∈ [22, 23] := by simpa using Array.mem_of_getElem? ht
  have hall : ([22, 23].all fun u => !Tryd.prog.wantsStandIn u) = true := by kernel_rfl
  exact (show Tryd.prog.wantsStandIn t = false by simpa using List.all_eq_true.1 hall t hm)
/-- the card -/
theorem cableFits_card : Rows.CableFitsCardSaid :=
  Claim7.holds_tied_plain_at .later [] _ _ _ _ cableFits_said (fun _ h => by cases h) (by kernel_rfl) (fun _ h => by cases h) cableFits_row_tie rfl ⟨rfl, rfl⟩ (by kernel_rfl) rfl cableFits_plain (by kernel_rfl)
#print axioms cableFits_card
end Go.Proofs.YtpkgadjglidnaaaDoor
