/-
  The law CableBack. Conditions: as stated. By an AI agent.
-/
import Derived.Test.YtpkgadjglidnaaaDoorCabT
import Derived.Test.YtpkgadjglidnaaaDoorCabV
import Derived.Test.YtpkgadjglidnaaaDoorCabW
namespace Go.Proofs.YtpkgadjglidnaaaDoor
open Go Go.ChangeShapes Go.WideShapes Go.RowKit Go.ChangeAt
set_option linter.unusedVariables false
set_option linter.unusedSimpArgs false

set_option maxHeartbeats 8000000 in
set_option maxRecDepth 20000 in
theorem cableBack_walk (v u : Value) (n nb : Nat) (T : Nat → Tr) (fb : Nat → Int) (ci : ByteArray) (cf ct cs : Int) (w : World) (ht : TraysAt w v n T) (hby : BytesAt w u nb fb) (hml : MaxLenIs w) : Calls Tryd.prog 8 #[v, .agg #[.string ci, .int .i64 cf, .int .i64 ct, .int .i64 cs], u] w fun e w' => e = .returned (.bool true) ∧ Below w.heap.size w w' := by
  have HML := Lib.hid hml
  clear hml
  have hBw : Below w.heap.size w w := Below.refl _ _
  have HT := Lib.hid ht
  obtain ⟨oa, ca, rfl, hn9, hel⟩ := ht.form
  obtain ⟨ou, cu, rfl, hnb9, hul⟩ := hby.form
  have HEL := Lib.hid hel
  have HUL := Lib.hid hul
  have HBY := Lib.hid hby.2
  clear ht hby hel hul
  obtain ⟨GR, hGR⟩ : ∃ b, greatB n 1 (fun _ => ⟨ci, cf, ct, cs⟩) = b := ⟨_, rfl⟩
  have HGR := Lib.hid hGR
  obtain ⟨E, hE⟩ : ∃ e, checkF n T 1 (fun _ => ⟨ci, cf, ct, cs⟩) = e := ⟨_, rfl⟩
  have HE := Lib.hid hE
  clear hGR hE
  go_enter Tryd.func8, Tryd.ntmps8
  go_wp2_with fail
  obtain ⟨w2, hw2⟩ : ∃ x, ((w.alloc (.cells #[.string ci, .int .i64 cf, .int .i64 ct, .int .i64 cs] 34)).alloc (.cells #[.string ci, .int .i64 cf, .int .i64 ct, .int .i64 cs] 34)) = x := ⟨_, rfl⟩
  have HBX : Hid (Blk w2 w.heap.size #[.string ci, .int .i64 cf, .int .i64 ct, .int .i64 cs] 34) := by
    show _ = _
    rw [← hw2]
    exact (heapA_old _ _ _ (by simp)).trans (heapA_at _ _ _ rfl)
  have HB1 : Hid (Blk w2 (w.heap.size + 1) #[.string ci, .int .i64 cf, .int .i64 ct, .int .i64 cs] 34) := by
    show _ = _
    rw [← hw2]
    exact heapA_at _ _ _ (by simp)
  have hBw2 : Below w.heap.size w w2 := by rw [← hw2]; exact (((Below.refl w.heap.size w).alloc (Nat.le_refl _) _).alloc (by simp) _)
  rw [hw2]
  clear hw2
  replace HML := Lib.hid (HML.out.below hBw2)
  replace HT := Lib.hid (HT.out.below hBw2)
  (go_at_call 10; refine (great_any _ _ n 1 T (fun _ => ⟨ci, cf, ct, cs⟩) _ HT.out (one_cab w2 (w.heap.size + 1) ci cf ct cs 34 HB1.out)).mono ?_; rintro e_ w3 ⟨rfl, hb⟩)
  have hPw3 : Below w2.heap.size w2 w3 := below_step (w := w2) (by first | exact Below.refl _ _ | go_grown) hb
  have hBw3 : Below w.heap.size w w3 := below_step hBw2 hPw3
  replace HML := Lib.hid (HML.out.below hPw3)
  replace HT := Lib.hid (HT.out.below hPw3)
  replace HBX := Lib.hid (HBX.out.below hPw3)
  rw [HGR.out]
  clear HB1
  clear hb hPw3 hBw2
  cases GR
  rotate_left
  · go_wp2_with fail
    (go_at_call 11; refine (alive_any _ (HML.out.below (by first | exact Below.refl _ _ | (show Below w3.heap.size w3 _; go_grown)))).mono ?_; rintro e_ wz ⟨rfl, hb⟩)
    have hPwz : Below w3.heap.size w3 wz := below_step (w := w3) (by first | exact Below.refl _ _ | go_grown) hb
    have hBwz : Below w.heap.size w wz := below_step hBw3 hPwz
    clear hb hPwz hBw3
    go_wp2
    go_returns
    exact ⟨rfl, hBwz⟩
  have hs := (greatB_no HGR.out).2.2 0 (by omega)
  obtain ⟨x0, x1, x2, x3, xf, xs⟩ := cells_at4 (show _ = _ from HBX.out)
  go_wp2_with fail
  have HB4 : Hid (Blk (w3.alloc (.cells #[.string ci, .int .i64 cf, .int .i64 ct, .int .i64 cs] 34)) w3.heap.size #[.string ci, .int .i64 cf, .int .i64 ct, .int .i64 cs] 34) := heapA_at _ _ _ rfl
  (go_at_call 14; refine (check_any _ _ n 1 T (fun _ => ⟨ci, cf, ct, cs⟩) _ (HT.out.below (by first | exact Below.refl _ _ | (show Below w3.heap.size w3 _; go_grown))) (one_cab _ w3.heap.size ci cf ct cs 34 HB4.out) (fun _ _ => hs) (HML.out.below (by first | exact Below.refl _ _ | (show Below w3.heap.size w3 _; go_grown)))).mono ?_; rintro e_ w4 ⟨rfl, hb⟩)
  have hPw4 : Below w3.heap.size w3 w4 := below_step (w := w3) (by first | exact Below.refl _ _ | go_grown) hb
  have hBw4 : Below w.heap.size w w4 := below_step hBw3 hPw4
  replace HML := Lib.hid (HML.out.below hPw4)
  replace HT := Lib.hid (HT.out.below hPw4)
  replace HBX := Lib.hid (HBX.out.below hPw4)
  rw [HE.out]
  clear HB4
  clear x0 x1 x2 x3 xf xs
  clear hb hPw4 hBw3
  by_cases hE0 : E = 0
  rotate_left
  · have kE : (E == 0) = false := by simpa using hE0
    have kE2 : (E != 0) = true := by simpa using hE0
    clear hE0
    go_wp2_with fail
    (go_at_call 11; refine (alive_any _ (HML.out.below (by first | exact Below.refl _ _ | (show Below w4.heap.size w4 _; go_grown)))).mono ?_; rintro e_ wz ⟨rfl, hb⟩)
    have hPwz : Below w4.heap.size w4 wz := below_step (w := w4) (by first | exact Below.refl _ _ | go_grown) hb
    have hBwz : Below w.heap.size w wz := below_step hBw4 hPwz
    clear hb hPwz hBw4
    go_wp2
    go_returns
    exact ⟨rfl, hBwz⟩
  subst hE0
  obtain ⟨hn64, hTok, hcb⟩ := check1_ok HE.out
  have HTK := Lib.hid hTok
  obtain ⟨q1, q2, q3, q4, q5⟩ := back_all (nb := nb) (fb := fb) HE.out HBY.out
  obtain ⟨E1, hE1⟩ : ∃ e, routeErr n T n (fun _ => 0) ⟨ci, cf, ct, cs⟩ = e := ⟨_, rfl⟩
  obtain ⟨D1, hD1⟩ : ∃ e, routeD n T n (fun _ => 0) ⟨ci, cf, ct, cs⟩ = e := ⟨_, rfl⟩
  obtain ⟨E3, hE3⟩ : ∃ e, routeErr n (wideT T nb fb) n (fun _ => 0) ⟨ci, cf, ct, cs⟩ = e := ⟨_, rfl⟩
  obtain ⟨D3, hD3⟩ : ∃ e, routeD n (wideT T nb fb) n (fun _ => 0) ⟨ci, cf, ct, cs⟩ = e := ⟨_, rfl⟩
  have HL1 : Hid (∀ W u c, TraysAt W u n T → IntsAt W c n (fun _ => 0) → MaxLenIs W → Calls Tryd.prog 16 #[u, c, .agg #[.string ci, .int .i64 cf, .int .i64 ct, .int .i64 cs]] W fun e w' => ∃ pv, e = .returned (.tuple #[pv, .int .i64 D1, .int .i64 E1]) ∧ Below W.heap.size W w') := fun W u c h1 h2 h3 => by
    refine (route_any u c n n T (fun _ => 0) ci cf ct cs W h1 h2 hs h3).mono ?_
    rintro e w' ⟨pv, rfl, h4, -, hb⟩
    rw [hD1, hE1]
    exact ⟨pv, rfl, hb⟩
  have HL2 : Hid (∀ W u c, TraysAt W u n T → IntsAt W c n (fun _ => 0) → MaxLenIs W → Calls Tryd.prog 16 #[u, c, .agg #[.string ci, .int .i64 ct, .int .i64 cf, .int .i64 cs]] W fun e w' => ∃ pv, e = .returned (.tuple #[pv, .int .i64 D1, .int .i64 E1]) ∧ Below W.heap.size W w') := fun W u c h1 h2 h3 => by
    refine (route_any u c n n T (fun _ => 0) ci ct cf cs W h1 h2 hs h3).mono ?_
    rintro e w' ⟨pv, rfl, h4, -, hb⟩
    rw [q1, q2, hD1, hE1]
    exact ⟨pv, rfl, hb⟩
  have HL3 : Hid (∀ W u c, TraysAt W u n (wideT T nb fb) → IntsAt W c n (fun _ => 0) → MaxLenIs W → Calls Tryd.prog 16 #[u, c, .agg #[.string ci, .int .i64 cf, .int .i64 ct, .int .i64 cs]] W fun e w' => ∃ pv, e = .returned (.tuple #[pv, .int .i64 D3, .int .i64 E3]) ∧ Below W.heap.size W w') := fun W u c h1 h2 h3 => by
    refine (route_any u c n n (wideT T nb fb) (fun _ => 0) ci cf ct cs W h1 h2 hs h3).mono ?_
    rintro e w' ⟨pv, rfl, h4, -, hb⟩
    rw [hD3, hE3]
    exact ⟨pv, rfl, hb⟩
  rw [hE1, hD1, hE3, hD3] at q3
  rw [hE3] at q4
  rw [hE1] at q5
  have HQ3 := Lib.hid q3
  have HQ4 := Lib.hid q4
  have HQ5 := Lib.hid q5
  clear hE1 hD1 hE3 hD3 q1 q2 q3 q4 q5 hTok hcb
  obtain ⟨i0, hi0, hz0, hs0, hb0⟩ := info1_parts info_int
  obtain ⟨j0, hj0, hzj0, hsj0, hbj0⟩ := info1_parts info_tray
  have huj : Tryd.prog.underlying 22 = some (.slice 28) := Tryd.underlying22
  obtain ⟨UBK, hUBK⟩ : ∃ b, w4.heap.size = b := ⟨_, rfl⟩
  have HUBK := Lib.hid hUBK
  have HNU : Hid (Blk (w4.alloc (.cells (arrI n (fun _ => 0)) 3)) UBK (arrI n (fun _ => 0)) 3) := heapA_at _ _ _ hUBK.symm
  obtain ⟨w5, hw5⟩ : ∃ x, (w4.alloc (.cells (arrI n (fun _ => 0)) 3)) = x := ⟨_, rfl⟩
  have hP5 : Below w4.heap.size w4 w5 := by rw [← hw5]; exact (Below.refl _ _).alloc (Nat.le_refl _) _
  have HW5 := Lib.hid hw5
  rw [hw5] at HNU
  have hBw5 : Below w.heap.size w w5 := below_step hBw4 hP5
  replace HBX := Lib.hid (HBX.out.below hP5)
  obtain ⟨x0, x1, x2, x3, xf, xs⟩ := cells_at4 (show _ = _ from HBX.out)
  clear hUBK hw5
  have KW5 : (w4.alloc (.cells (arrI n (fun _ => 0)) 3)) = w5 := HW5.out
  go_wp2_with (with_reducible refine wpList_make_row _ rfl _ _ 32 rfl 3 i0 _ Tryd.underlying32 hi0 hz0 hs0 rfl _ _ n rfl rfl (by rw [hb0]; omega) (by omega) ?_; rw [madeI, HUBK.out, KW5])
  clear KW5
  replace HML := Lib.hid (HML.out.below hP5)
  replace HT := Lib.hid (HT.out.below hP5)
  clear hP5 hBw4
  (go_at_call 16; refine (HL1.out _ _ _ (HT.out.below (by first | exact Below.refl _ _ | (show Below w5.heap.size w5 _; go_grown))) (ints_of (HNU.out.below (by first | exact Below.refl _ _ | (show Below w5.heap.size w5 _; go_grown))) (by omega)) (HML.out.below (by first | exact Below.refl _ _ | (show Below w5.heap.size w5 _; go_grown)))).mono ?_; rintro e_ w6 ⟨pv1, rfl, hb⟩)
  have hPw6 : Below w5.heap.size w5 w6 := below_step (w := w5) (by first | exact Below.refl _ _ | go_grown) hb
  have hBw6 : Below w.heap.size w w6 := below_step hBw5 hPw6
  replace HML := Lib.hid (HML.out.below hPw6)
  replace HT := Lib.hid (HT.out.below hPw6)
  replace HBX := Lib.hid (HBX.out.below hPw6)
  replace HNU := Lib.hid (HNU.out.below hPw6)
  clear x0 x1 x2 x3 xf xs
  clear hb hPw6 hBw5
  obtain ⟨x0, x1, x2, x3, xf, xs⟩ := cells_at4 (show _ = _ from HBX.out)
  go_wp2_with fail
  (go_at_call 16; refine (HL2.out _ _ _ (HT.out.below (by first | exact Below.refl _ _ | (show Below w6.heap.size w6 _; go_grown))) (ints_of (HNU.out.below (by first | exact Below.refl _ _ | (show Below w6.heap.size w6 _; go_grown))) (by omega)) (HML.out.below (by first | exact Below.refl _ _ | (show Below w6.heap.size w6 _; go_grown)))).mono ?_; rintro e_ w7 ⟨pv2, rfl, hb⟩)
  have hPw7 : Below w6.heap.size w6 w7 := below_step (w := w6) (by first | exact Below.refl _ _ | go_grown) hb
  have hBw7 : Below w.heap.size w w7 := below_step hBw6 hPw7
  replace HML := Lib.hid (HML.out.below hPw7)
  replace HT := Lib.hid (HT.out.below hPw7)
  replace HBX := Lib.hid (HBX.out.below hPw7)
  replace HNU := Lib.hid (HNU.out.below hPw7)
  clear x0 x1 x2 x3 xf xs
  clear hb hPw7 hBw6
  have HMW := Lib.hid hBw7
  go_wp2
  go_loopw [14, 15] (fun lw i wr => ∃ (lv : Value) (j : Nat), lv = lw ∧ j ≤ n ∧ i = .int .i64 j ∧ Hid (wr.ownsRow w7.heap.size 28 4 lv j (flT (wideT T nb fb) j)) ∧ Below w7.heap.size w7 wr) (fun _ i _ => n - (intOf i).toNat)
  case atStart => exact ⟨_, 0, rfl, by omega, rfl, World.ownsRow_nil _ _ _ _, Below.refl _ _⟩
  case round =>
    obtain ⟨w8, rfl⟩ : ∃ x : World, x = wr := ⟨_, rfl⟩
    obtain ⟨lv, j, rfl, hj, rfl, HO, hB78⟩ := hrel
    have hBw8 : Below w.heap.size w w8 := below_step hBw7 hB78
    by_cases hjn : j < n
    · obtain ⟨b1, f1, rfl, hbl1, hcl1⟩ := HEL.out j hjn
      have c0 : w8.cell? ⟨b1, f1 + j * 4, none⟩ = some (.int .i64 (T j).A) := (hBw8.cell (p := ⟨_, _, none⟩) hbl1).trans (hcl1 j hjn).1
      have c1 : w8.cell? ⟨b1, f1 + j * 4 + 1, none⟩ = some (.int .i64 (T j).B) := (hBw8.cell (p := ⟨_, _, none⟩) hbl1).trans (hcl1 j hjn).2.1
      have c2 : w8.cell? ⟨b1, f1 + j * 4 + 2, none⟩ = some (.int .i64 (T j).L) := (hBw8.cell (p := ⟨_, _, none⟩) hbl1).trans (hcl1 j hjn).2.2.1
      have c3 : w8.cell? ⟨b1, f1 + j * 4 + 3, none⟩ = some (.int .i64 (T j).S) := (hBw8.cell (p := ⟨_, _, none⟩) hbl1).trans (hcl1 j hjn).2.2.2
      have hok := HTK.out j hjn
      unfold Tr.ok at hok
      obtain ⟨⟨ta, tb, tl, tsp⟩, htj⟩ : ∃ t, T j = t := ⟨_, rfl⟩
      rw [htj] at c0 c1 c2 c3 hok
      dsimp only at c0 c1 c2 c3 hok
      have hbr1 : b1 < w8.heap.size := by have := hBw8.size; omega
      have k0 : (0 : Int) ≤ (j : Int) := by omega
      have k1 : (j : Int) < (n : Int) := by omega
      have hs8 := hB78.size
      have HTJ := Lib.hid htj
      clear hcl1 htj
      by_cases hjb : j < nb
      · obtain ⟨b2, f2, rfl, hbl2, hcl2⟩ := HUL.out j hjb
        have cb : w8.cell? ⟨b2, f2 + j, none⟩ = some (.int .u8 (fb j)) := (hBw8.cell (p := ⟨_, _, none⟩) hbl2).trans (hcl2 j hjb)
        have hbd := HBY.out j hjb
        obtain ⟨y, hy⟩ : ∃ y, fb j = y := ⟨_, rfl⟩
        rw [hy] at cb hbd
        have HWJ : Hid (wideT T nb fb j = ⟨ta, tb, tl, mn3 1000000 (tsp + y)⟩) := by
          show _ = _
          unfold wideT
          rw [if_pos hjb, HTJ.out, hy]
          rfl
        have hbr2 : b2 < w8.heap.size := by have := hBw8.size; omega
        have k2 : (j : Int) < (nb : Int) := by omega
        have wy : IntKind.i64.wrap y = y := IntWalk.i64_in _ (by omega)
        have wsum : IntKind.i64.wrap (tsp + y) = tsp + y := IntWalk.i64_in _ (by omega)
        have hmn := run_mn3
        clear hcl2 hy hok
        go_wp2_with fail
        obtain ⟨XBK, hXBK⟩ : ∃ b, w8.heap.size = b := ⟨_, rfl⟩
        obtain ⟨w9, hw9⟩ : ∃ x, (w8.alloc (.cells #[.int .i64 ta, .int .i64 tb, .int .i64 tl, .int .i64 tsp] 28)) = x := ⟨_, rfl⟩
        have HX9 : Hid (Blk w9 XBK #[.int .i64 ta, .int .i64 tb, .int .i64 tl, .int .i64 tsp] 28) := by
          show _ = _
          rw [← hw9]
          exact heapA_at _ _ _ hXBK.symm
        have hP9 : Below w8.heap.size w8 w9 := by rw [← hw9]; exact (Below.refl _ _).alloc (Nat.le_refl _) _
        have d0 : w9.cell? ⟨b2, f2 + j, none⟩ = some (.int .u8 y) := (hP9.cell (p := ⟨_, _, none⟩) hbr2).trans cb
        rw [hw9, hXBK]
        have z9 : XBK < w9.heap.size := block_lt HX9.out
        have z92 : b2 < w9.heap.size := by have := hP9.size; omega
        have hXW : w8.heap.size ≤ XBK := by omega
        have HP9 := Lib.hid hP9
        obtain ⟨x0, x1, x2, x3, xf, xs⟩ := cells_at4 (show _ = _ from HX9.out)
        have hpc := past_cell
        clear hw9 hXBK hP9 c0 c1 c2 c3 cb
        go_wp2_with fail
        refine wp_region_past_tail 10 (by kernel_rfl) (by kernel_rfl) ?_
        simp only [List.take_succ_cons, List.take_zero, List.drop_succ_cons, List.drop_zero]
        iterate 10 go_big_quiet_step (fail)
        refine wpQuiet_nil ?_
        intro w10 hw'
        have hb1 := past_out hw'
        clear hw'
        have y0 : w10.cell? ⟨XBK, 0, none⟩ = some (.int .i64 ta) := (hb1.cell (p := ⟨_, _, none⟩) z9).trans x0
        have y1 : w10.cell? ⟨XBK, 1, none⟩ = some (.int .i64 tb) := (hb1.cell (p := ⟨_, _, none⟩) z9).trans x1
        have y2 : w10.cell? ⟨XBK, 2, none⟩ = some (.int .i64 tl) := (hb1.cell (p := ⟨_, _, none⟩) z9).trans x2
        have y3 : w10.cell? ⟨XBK, 3, none⟩ = some (.int .i64 tsp) := (hb1.cell (p := ⟨_, _, none⟩) z9).trans x3
        have yf : ∀ i, w10.frozen? ⟨XBK, i, none⟩ = false := fun i => (hb1.frozen (p := ⟨_, _, none⟩) z9).trans (xf i)
        have z10 : XBK < w10.heap.size := by have := hb1.size; omega
        have hP10 : Below w8.heap.size w8 w10 := below_step HP9.out hb1
        have hs10 := hP10.size
        have hP710 : Below w7.heap.size w7 w10 := below_step hB78 hP10
        clear hb1 x0 x1 x2 x3 xf xs hpc hmn d0
        go_wp2_with (at_builtin; refine wpList_append2 rfl _ _ 22 rfl w7.heap.size 28 j0 _ 4 32 huj hj0 hzj0 hsj0 hbj0 rfl (by decide) _ j (flT (wideT T nb fb) j) rfl (owns_below HO.out ?d1) (some ⟨w10.heap.size, 0, none⟩) 1 1 [.int .i64 ta, .int .i64 tb, .int .i64 tl, .int .i64 (mn3 1000000 (tsp + y))] rfl rfl (fun h => by cases h) ?d2 (fun u hu => by simp only [List.mem_cons, List.not_mem_nil, or_false] at hu; rcases hu with rfl | rfl | rfl | rfl <;> rfl) (by unfold maxLen; omega) (by omega) ?d6 ?_)
        case d1 => go_grown
        case d2 =>
          intro ad had q u hq
          cases had
          exact built_cells (heapA_at _ _ _ (by simp)) q u hq
        case d6 => simp <;> omega
        intro lv2 w12 hown hgrow hnew
        have HO2 : Hid (w12.ownsRow w7.heap.size 28 4 lv2 (j + 1) (flT (wideT T nb fb) (j + 1))) := by
          show World.ownsRow _ _ _ _ _ _ _
          rw [flT, HWJ.out]
          exact hown
        have hB12 : Below w7.heap.size w7 w12 := Below.grown (by go_grown) hgrow (by simp <;> omega) (fun g hg => (HO.out.lt g hg).1)
        have HB12 := Lib.hid hB12
        clear hown hgrow hnew hB12
        go_wp2
        go_roundw
        case rel => exact ⟨_, j + 1, rfl, by omega, by go_num, HO2, HB12.out⟩
        case measure => simp [intOf]; omega
      · have HWJ : Hid (wideT T nb fb j = ⟨ta, tb, tl, tsp⟩) := by
          show _ = _
          unfold wideT
          rw [if_neg hjb, HTJ.out]
        clear hok
        go_wp2_with (at_builtin; refine wpList_append2 rfl _ _ 22 rfl w7.heap.size 28 j0 _ 4 32 huj hj0 hzj0 hsj0 hbj0 rfl (by decide) _ j (flT (wideT T nb fb) j) rfl (owns_below HO.out ?d1) (some ⟨w8.heap.size + 1, 0, none⟩) 1 1 [.int .i64 ta, .int .i64 tb, .int .i64 tl, .int .i64 tsp] rfl rfl (fun h => by cases h) ?d2 (fun u hu => by simp only [List.mem_cons, List.not_mem_nil, or_false] at hu; rcases hu with rfl | rfl | rfl | rfl <;> rfl) (by unfold maxLen; omega) (by omega) ?d6 ?_)
        case d1 => go_grown
        case d2 =>
          intro ad had q u hq
          cases had
          exact built_cells (heapA_at _ _ _ (by simp)) q u hq
        case d6 => simp <;> omega
        intro lv2 w12 hown hgrow hnew
        have HO2 : Hid (w12.ownsRow w7.heap.size 28 4 lv2 (j + 1) (flT (wideT T nb fb) (j + 1))) := by
          show World.ownsRow _ _ _ _ _ _ _
          rw [flT, HWJ.out]
          exact hown
        have hB12 : Below w7.heap.size w7 w12 := Below.grown (by go_grown) hgrow (by simp <;> omega) (fun g hg => (HO.out.lt g hg).1)
        have HB12 := Lib.hid hB12
        clear hown hgrow hnew hB12
        go_wp2
        go_roundw
        case rel => exact ⟨_, j + 1, rfl, by omega, by go_num, HO2, HB12.out⟩
        case measure => simp [intOf]; omega
    · obtain rfl : n = j := by omega
      have HTW : Hid (TraysAt w8 lv n (wideT T nb fb)) := owns_T HO.out
      replace HML := Lib.hid (HML.out.below hB78)
      replace HT := Lib.hid (HT.out.below hB78)
      replace HBX := Lib.hid (HBX.out.below hB78)
      replace HNU := Lib.hid (HNU.out.below hB78)
      clear hB78 HO
      obtain ⟨x0, x1, x2, x3, xf, xs⟩ := cells_at4 (show _ = _ from HBX.out)
      go_wp2_with fail
      (go_at_call 16; refine (HL3.out _ _ _ (HTW.out.below (by first | exact Below.refl _ _ | (show Below w8.heap.size w8 _; go_grown))) (ints_of (HNU.out.below (by first | exact Below.refl _ _ | (show Below w8.heap.size w8 _; go_grown))) (by omega)) (HML.out.below (by first | exact Below.refl _ _ | (show Below w8.heap.size w8 _; go_grown)))).mono ?_; rintro e_ w9 ⟨pv3, rfl, hb⟩)
      have hPw9 : Below w8.heap.size w8 w9 := below_step (w := w8) (by first | exact Below.refl _ _ | go_grown) hb
      have hBw9 : Below w.heap.size w w9 := below_step hBw8 hPw9
      replace HML := Lib.hid (HML.out.below hPw9)
      replace HT := Lib.hid (HT.out.below hPw9)
      replace HBX := Lib.hid (HBX.out.below hPw9)
      replace HNU := Lib.hid (HNU.out.below hPw9)
      clear x0 x1 x2 x3 xf xs
      clear hb hPw9 hBw8
      rcases HQ5.out with rfl | rfl
      · obtain ⟨rfl, hle⟩ := HQ3.out rfl
        have kle : decide (D3 ≤ D1) = true := decide_eq_true hle
        go_wp2_with fail
        (go_at_call 11; refine (alive_any _ (HML.out.below (by first | exact Below.refl _ _ | (show Below w9.heap.size w9 _; go_grown)))).mono ?_; rintro e_ wz ⟨rfl, hb⟩)
        have hPwz : Below w9.heap.size w9 wz := below_step (w := w9) (by first | exact Below.refl _ _ | go_grown) hb
        have hBwz : Below w.heap.size w wz := below_step hBw9 hPwz
        clear hb hPwz hBw9
        go_wp2
        go_returns
        exact ⟨rfl, hBwz⟩
      · rcases HQ4.out with rfl | rfl
        · go_wp2_with fail
          (go_at_call 11; refine (alive_any _ (HML.out.below (by first | exact Below.refl _ _ | (show Below w9.heap.size w9 _; go_grown)))).mono ?_; rintro e_ wz ⟨rfl, hb⟩)
          have hPwz : Below w9.heap.size w9 wz := below_step (w := w9) (by first | exact Below.refl _ _ | go_grown) hb
          have hBwz : Below w.heap.size w wz := below_step hBw9 hPwz
          clear hb hPwz hBw9
          go_wp2
          go_returns
          exact ⟨rfl, hBwz⟩
        · go_wp2_with fail
          (go_at_call 11; refine (alive_any _ (HML.out.below (by first | exact Below.refl _ _ | (show Below w9.heap.size w9 _; go_grown)))).mono ?_; rintro e_ wz ⟨rfl, hb⟩)
          have hPwz : Below w9.heap.size w9 wz := below_step (w := w9) (by first | exact Below.refl _ _ | go_grown) hb
          have hBwz : Below w.heap.size w wz := below_step hBw9 hPwz
          clear hb hPwz hBw9
          go_wp2
          go_returns
          exact ⟨rfl, hBwz⟩

set_option maxRecDepth 100000 in
theorem cableBack_contract (H : Type) (enc : TypeId × Value → H) (W : World) (base : Nat) (args : Array Value) (ds gs : List (DataW H)) (before : List MemPlace)
    (hval : ∀ (j : Nat) t v, Tryd.f8.params[j]? = some t → args[j]? = some v → Value.okWide Tryd.prog W .any base t v)
    (hW : DataW.Whole enc Tryd.prog Tryd.f8.params.toList Rows.cableBackSpec.vars false W args.toList ds gs before) (hL : laidMetH Tryd.prog Rows.cableBackRow.laid W) (hSh : W.ShapedOpen Tryd.prog) :
    Calls Tryd.prog 8 args W fun e W' => ∃ v, e = .returned v ∧ Rows.cableBackSpec.post enc Tryd.prog Tryd.f8 false true false false W args v W' := by
  have hW' := hW
  obtain ⟨p, q, hA0, hV, rfl, hfz, hnd⟩ := hW
  have hA : DataW.TrodAll enc Tryd.prog W 0 (fun _ => true) true Tryd.f8.params.toList args.toList ds p := hA0
  rw [Tryd.params8] at hA hval
  obtain ⟨v0, vs0, d0, ds0, p0, q0, hargs, rfl, rfl, h0, r0⟩ := trodAll_cons hA
  obtain ⟨v1, vs1, d1, ds1, p1, q1, rfl, rfl, rfl, h1, r1⟩ := trodAll_cons r0
  obtain ⟨v2, vs2, d2, ds2, p2, q2, rfl, rfl, rfl, h2, r2⟩ := trodAll_cons r1
  obtain ⟨rfl, rfl, rfl⟩ := trodAll_nil r2
  obtain rfl : args = #[v0, v1, v2] := by cases args; simp_all
  obtain ⟨n, T, ht⟩ := trays_arg (hval 0 22 v0 rfl rfl) h0
  obtain ⟨ci, cf, ct, cs, rfl⟩ := cable_arg (hval 1 34 v1 rfl rfl) h1
  obtain ⟨nb, fb, hby⟩ := bytes_arg (hval 2 49 v2 rfl rfl) h2
  refine (cableBack_walk _ _ n nb T fb ci cf ct cs W ht hby (maxLen_of W hSh)).mono fun e W' ⟨he, hb⟩ => ?_
  subst he
  exact ⟨_, rfl, law_post laidOut (by kernel_rfl) (by kernel_rfl) Tryd.underlying4 rfl hW' (fun _ => rfl) hb⟩
theorem cableBack_laid (os : Os) : laidMet Tryd.prog Rows.cableBackRow.laid ((laidWorld os).forCall (fun _ _ => 0) ⟨#[], #[.slice none 0 0, .agg #[.string ⟨#[]⟩, .int .i64 0, .int .i64 0, .int .i64 0], .slice none 0 0], []⟩).memory := laidMet_of_run' 8 (by kernel_rfl) (by kernel_rfl)
theorem cableBack_reads (os : Os) {H : Type} (enc : TypeId × Value → H) : ∃ places, DataW.whole enc Tryd.prog ((laidWorld os).forCall (fun _ _ => 0) ⟨#[], #[.slice none 0 0, .agg #[.string ⟨#[]⟩, .int .i64 0, .int .i64 0, .int .i64 0], .slice none 0 0], []⟩).memory Tryd.f8.params.toList Rows.cableBackSpec.vars false (#[.slice none 0 0, .agg #[.string ⟨#[]⟩, .int .i64 0, .int .i64 0, .int .i64 0], .slice none 0 0] : Array Value).toList 8 = some ([.nil, .agg [.lit (.string []), .lit (.int .i64 0), .lit (.int .i64 0), .lit (.int .i64 0)], .nil], [], places) := ⟨[], by kernel_rfl⟩
set_option maxRecDepth 100000 in
theorem cableBack_lifted (os : Os) (started : os.Started) (H : Type) (enc : TypeId × Value → H) (F : Stop.Interp) :
    ReturnsInHanded {} Tryd.checked os 8 .any ((OpenSpec.ofChange Rows.cableBackSpec).preRow enc Tryd.prog Tryd.f8 Rows.cableBackRow.domain false Rows.cableBackRow.laid) (((OpenSpec.ofChange Rows.cableBackSpec).at F).post enc Tryd.prog Tryd.f8 false true false false) := by
  obtain ⟨places, hx⟩ := cableBack_reads os enc
  refine returnsInHanded_of_row (C := Tryd.checked) (s := OpenSpec.ofChange Rows.cableBackSpec) own started (by kernel_rfl) Tryd.func8
    (witness_row_at (enc := enc) (C := Tryd.checked) false (laidWorld os) #[.slice none 0 0, .agg #[.string ⟨#[]⟩, .int .i64 0, .int .i64 0, .int .i64 0], .slice none 0 0] rfl (by kernel_rfl) (by kernel_rfl) (by kernel_rfl)
      (OpenSpec.preRow_of_cond 8 hx (by kernel_rfl) (fun k hk => by cases hk) (by kernel_rfl) (cableBack_laid os))) ?_
  intro W base args ds gs before hval hW _ _ _ hL hSh _
  exact cableBack_contract H enc W base args ds gs before hval hW hL hSh
theorem cableBack_said : Rows.CableBackSaid :=
  OpenClaim.holds_of_cond 8 Tryd.f8 rfl rfl rfl rfl rfl rfl rfl ⟨rfl, rfl, rfl, rfl, rfl⟩ rfl rfl rfl rfl rfl (by kernel_rfl) Tryd.func8 (by kernel_rfl)
    (of_decide_eq_true (by kernel_rfl)) (by unfold Func.isWrapper; rw [if_neg (of_decide_eq_false (by kernel_rfl))]; exact ⟨rfl, rfl⟩)
    (fun os started H enc _ F => by rw [OpenClaim.pre_eq_preRow]; exact cableBack_lifted os started H enc F)
theorem cableBack_plain (f : FuncId) (fn : Func) (hf : Tryd.pinned.checked.prog.funcNamed "shipyard/shipyardlaw45.CableBack" = some f) (hfn : Tryd.pinned.checked.prog.funcs[f]? = some fn) :
    false = Tryd.pinned.checked.prog.looks [] ∧ ∀ (j : Nat) t, fn.params[j]? = some t → Tryd.pinned.checked.prog.wantsStandIn t = false := by
  obtain rfl : f = 8 := Option.some.inj ((show Tryd.prog.funcNamed "shipyard/shipyardlaw45.CableBack" = some 8 by kernel_rfl).symm.trans hf) |>.symm
  obtain rfl : fn = Tryd.f8 := (Option.some.inj (Tryd.func8.symm.trans hfn)).symm
  refine ⟨by kernel_rfl, fun j t ht => ?_⟩
  rw [Tryd.params8] at ht
  have hm : t ∈ [22, 34, 49] := by simpa using Array.mem_of_getElem? ht
  have hall : ([22, 34, 49].all fun u => !Tryd.prog.wantsStandIn u) = true := by kernel_rfl
  exact (show Tryd.prog.wantsStandIn t = false by simpa using List.all_eq_true.1 hall t hm)
/-- the card -/
theorem cableBack_card : Rows.CableBackCardSaid :=
  Claim7.holds_tied_plain_at .later [] _ _ _ _ cableBack_said (fun _ h => by cases h) (by kernel_rfl) (fun _ h => by cases h) cableBack_row_tie rfl ⟨rfl, rfl⟩ (by kernel_rfl) rfl cableBack_plain (by kernel_rfl)
#print axioms cableBack_card
end Go.Proofs.YtpkgadjglidnaaaDoor
