/-
  cable.Route, by a walk. Conditions: as stated. By an AI agent.
-/
import Derived.Test.YtpkgadjglidnaaaDoorCabF
import Derived.WalkMore
namespace Go.Proofs.YtpkgadjglidnaaaDoor
open Go Go.ChangeShapes Go.WideShapes Go.RowKit Go.ChangeAt
set_option linter.unusedVariables false
set_option linter.unusedSimpArgs false

set_option maxHeartbeats 8000000 in
set_option maxRecDepth 20000 in
theorem route_any (v u : Value) (n nu : Nat) (T : Nat → Tr) (F : Nat → Int) (ci : ByteArray) (cf ct cs : Int) (w : World) (h : TraysAt w v n T) (h' : IntsAt w u nu F) (hs : ci.size ≤ 200) (hml : MaxLenIs w) :
    Calls Tryd.prog 16 #[v, u, .agg #[.string ci, .int .i64 cf, .int .i64 ct, .int .i64 cs]] w fun e w' => ∃ pv, e = .returned (.tuple #[pv, .int .i64 (routeD n T nu F ⟨ci, cf, ct, cs⟩), .int .i64 (routeErr n T nu F ⟨ci, cf, ct, cs⟩)]) ∧ PathAt w' pv (routeP n T nu F ⟨ci, cf, ct, cs⟩) ∧ NewFrom w.heap.size pv ∧ Below w.heap.size w w' := by
  have HML := Lib.hid hml
  have HTA := Lib.hid h
  obtain ⟨oa, ca, rfl, hn, hel⟩ := h.form
  obtain ⟨ob, cb, rfl, hn', hub⟩ := h'.form
  have HEL := Lib.hid hel
  have HUL := Lib.hid hub
  clear h h' hel hub hml
  go_enter Tryd.func16, Tryd.ntmps16
  go_wp2_with fail
  go_step3
  go_wp2_with fail
  (go_at_call 14; refine (check_any _ _ n 1 T (fun _ => ⟨ci, cf, ct, cs⟩) _ (HTA.out.below (((Below.refl w.heap.size w).alloc (Nat.le_refl _) _).alloc (by simp) _)) (one_cab ((w.alloc (.cells #[.string ci, .int .i64 cf, .int .i64 ct, .int .i64 cs] 34)).alloc (.cells #[.string ci, .int .i64 cf, .int .i64 ct, .int .i64 cs] 34)) (w.heap.size + 1) ci cf ct cs 34 (heapA_at _ _ _ (by simp))) (fun _ _ => hs) (HML.out.below (((Below.refl w.heap.size w).alloc (Nat.le_refl _) _).alloc (by simp) _))).mono ?_; rintro e_ w1 ⟨rfl, hb⟩)
  have hBw1 : Below w.heap.size w w1 := below_step (w := w) (by go_grown) hb
  have hs1 := hb.size
  (try simp only [World.size_alloc] at hs1)
  have zc1 : w.heap.size < w1.heap.size := by omega
  have x1w1 : w1.cell? ⟨w.heap.size, 1, none⟩ = some (.int .i64 cf) := (hb.cell (p := ⟨_, _, none⟩) (by simp <;> omega)).trans (by simp [go_sem])
  have x2w1 : w1.cell? ⟨w.heap.size, 2, none⟩ = some (.int .i64 ct) := (hb.cell (p := ⟨_, _, none⟩) (by simp <;> omega)).trans (by simp [go_sem])
  have x3w1 : w1.cell? ⟨w.heap.size, 3, none⟩ = some (.int .i64 cs) := (hb.cell (p := ⟨_, _, none⟩) (by simp <;> omega)).trans (by simp [go_sem])
  clear hb hs1
  obtain ⟨E, hE⟩ : ∃ E, checkF n T 1 (fun _ => ⟨ci, cf, ct, cs⟩) = E := ⟨_, rfl⟩
  rw [hE]
  have HE := Lib.hid hE
  clear hE
  by_cases hE0 : E = 0
  rotate_left
  · have kE : (E == 0) = false := by simpa using hE0
    have kE2 : (E != 0) = true := by simpa using hE0
    have hre : routeErr n T nu F ⟨ci, cf, ct, cs⟩ = E := (routeErr_1 (by rw [HE.out]; exact hE0)).trans HE.out
    have hne : routeErr n T nu F ⟨ci, cf, ct, cs⟩ ≠ 0 := by rw [hre]; exact hE0
    have HRX := Lib.hid (routeP_no hne)
    have HRE := Lib.hid hre
    clear hre hne
    go_wp2
    rw [Exit.noGoto_ret]
    go_returns
    rw [HRX.out.2, HRE.out]
    exact ⟨_, rfl, by rw [HRX.out.1]; exact path_nil _, newFrom_nil _, hBw1⟩
  subst hE0
  have HE0 : Hid (checkF n T 1 (fun _ => ⟨ci, cf, ct, cs⟩) = 0) := HE.out
  obtain ⟨hn64, hTok, hcb⟩ := check1_ok HE0.out
  have HTK := Lib.hid hTok
  have hfr := hcb.fr
  have hto := hcb.to
  have hsz := hcb.sz
  have hfne := hcb.ne
  dsimp only at hfr hto hsz hfne
  clear hTok hcb
  by_cases hnu : nu = n
  rotate_left
  · have kn : ((nu : Int) == (n : Int)) = false := by simp; omega
    have kn2 : ((nu : Int) != (n : Int)) = true := by simp; omega
    have hre : routeErr n T nu F ⟨ci, cf, ct, cs⟩ = 17 := routeErr_2 HE0.out hnu
    have hne : routeErr n T nu F ⟨ci, cf, ct, cs⟩ ≠ 0 := by rw [hre]; decide
    have HRX := Lib.hid (routeP_no hne)
    have HRE := Lib.hid hre
    clear hre hne
    go_wp2
    rw [Exit.noGoto_ret]
    go_returns
    rw [HRX.out.2, HRE.out]
    exact ⟨_, rfl, by rw [HRX.out.1]; exact path_nil _, newFrom_nil _, hBw1⟩
  obtain rfl : n = nu := hnu.symm
  clear hnu
  obtain ⟨ib, hib, hzb, hsb, hbb⟩ := info1_parts info_bool
  obtain ⟨UBK, hUBK⟩ : ∃ b, w1.heap.size = b := ⟨_, rfl⟩
  have hUB0 : w.heap.size < UBK := by omega
  have HUBK := Lib.hid hUBK
  clear hUBK
  go_wp2_with (refine wpList_make_row _ rfl _ _ 55 rfl 4 ib _ Tryd.underlying55 hib hzb hsb rfl _ _ n rfl rfl (by rw [hbb]; omega) (by omega) ?_; rw [madeB])
  rw [HUBK.out]
  go_loopw [37] (fun i wr => ∃ j : Nat, j ≤ n ∧ i = .int .i64 j ∧ Hid (wr.heap[UBK]? = some (.cells (arrB n (fun k => if k < j then usU T F ⟨ci, cf, ct, cs⟩ k else false)) 4)) ∧ Hid (∀ i, i < j → inB (F i) 0 1000000 = true) ∧ wr.cell? ⟨w.heap.size, 1, none⟩ = some (.int .i64 cf) ∧ wr.cell? ⟨w.heap.size, 2, none⟩ = some (.int .i64 ct) ∧ wr.cell? ⟨w.heap.size, 3, none⟩ = some (.int .i64 cs) ∧ UBK < wr.heap.size ∧ Below w.heap.size w wr) (fun i _ => n - (intOf i).toNat)
  case atStart =>
    have e0 := HUBK.out
    refine ⟨0, by omega, rfl, heapA_at _ _ _ e0.symm, fun i hi => (by omega), ?_, ?_, ?_, by simp <;> omega, by go_grown⟩
    all_goals simp [go_sem, *]
  case round =>
    clear x1w1 x2w1 x3w1
    obtain ⟨w3, rfl⟩ : ∃ x : World, x = wr := ⟨_, rfl⟩
    obtain ⟨j, hj, rfl, HU, hq, c1c, c2c, c3c, hzU, hB⟩ := hrel
    have hzc : w.heap.size < w3.heap.size := by omega
    by_cases hjn : j < n
    · obtain ⟨b2, f2, rfl, hbl2, hcl2⟩ := HUL.out j hjn
      obtain ⟨b1, f1, rfl, hbl1, hcl1⟩ := HEL.out j hjn
      have cu : w3.cell? ⟨b2, f2 + j, none⟩ = some (.int .i64 (F j)) := (hB.cell (p := ⟨_, _, none⟩) hbl2).trans (hcl2 j hjn)
      have c3 : w3.cell? ⟨b1, f1 + j * 4 + 3, none⟩ = some (.int .i64 (T j).S) := (hB.cell (p := ⟨_, _, none⟩) hbl1).trans (hcl1 j hjn).2.2.2
      have hSr := (HTK.out j hjn).2.2.2.2.2.2.1
      have hSr2 := (HTK.out j hjn).2.2.2.2.2.2.2.1
      obtain ⟨fu, hfu⟩ : ∃ x, F j = x := ⟨_, rfl⟩
      obtain ⟨sp, hsp⟩ : ∃ x, (T j).S = x := ⟨_, rfl⟩
      rw [hfu] at cu
      rw [hsp] at c3 hSr hSr2
      have HFU := Lib.hid hfu
      have HSP := Lib.hid hsp
      have hsz3 := hB.size
      have hbr1 : b1 < w3.heap.size := by omega
      have hbr2 : b2 < w3.heap.size := by omega
      have zU := block_lt HU.out
      have k0 : (0 : Int) ≤ (j : Int) := by omega
      have k1 : (j : Int) < (n : Int) := by omega
      clear hcl1 hcl2 hfu hsp
      go_wp2_with fail
      (go_at_call 27; refine (from_any fu 0 1000000 _).mono ?_; rintro e_ w4 ⟨rfl, hb⟩)
      have hB4 : Below w.heap.size w w4 := below_step hB hb
      have HU4 : Hid (w4.heap[UBK]? = some (.cells (arrB n (fun k => if k < j then usU T F ⟨ci, cf, ct, cs⟩ k else false)) 4)) := (hb.block _ zU).trans HU.out
      have d3 : w4.cell? ⟨b1, f1 + j * 4 + 3, none⟩ = some (.int .i64 sp) := (hb.cell (p := ⟨_, _, none⟩) hbr1).trans c3
      have du : w4.cell? ⟨b2, f2 + j, none⟩ = some (.int .i64 fu) := (hb.cell (p := ⟨_, _, none⟩) hbr2).trans cu
      have e3 : w4.cell? ⟨w.heap.size, 3, none⟩ = some (.int .i64 cs) := (hb.cell (p := ⟨_, _, none⟩) hzc).trans c3c
      have e2 : w4.cell? ⟨w.heap.size, 2, none⟩ = some (.int .i64 ct) := (hb.cell (p := ⟨_, _, none⟩) hzc).trans c2c
      have e1 : w4.cell? ⟨w.heap.size, 1, none⟩ = some (.int .i64 cf) := (hb.cell (p := ⟨_, _, none⟩) hzc).trans c1c
      have hs4 := hb.size
      have hzc4 : w.heap.size < w4.heap.size := by omega
      have hzb14 : b1 < w4.heap.size := by omega
      have hzb24 : b2 < w4.heap.size := by omega
      have zU4 : UBK < w4.heap.size := by omega
      clear hb cu c3 c1c c2c c3c hs4
      cases hin : inB fu 0 1000000
      · have hre : routeErr n T n F ⟨ci, cf, ct, cs⟩ = 9 := routeErr_3 HE0.out hjn (by rw [HFU.out]; exact hin)
        have hne : routeErr n T n F ⟨ci, cf, ct, cs⟩ ≠ 0 := by rw [hre]; decide
        have HRX := Lib.hid (routeP_no hne)
        have HRE := Lib.hid hre
        clear hre hne
        go_wp2
        rw [Exit.noGoto_ret]
        go_returns
        rw [HRX.out.2, HRE.out]
        exact ⟨_, rfl, by rw [HRX.out.1]; exact path_nil _, newFrom_nil _, hB4⟩
      · have hin2 := inB_true hin
        have HIN := Lib.hid hin
        have wd : IntKind.i64.wrap (sp - fu) = sp - fu := IntWalk.i64_in _ (by omega)
        have uc : w4.cell? ⟨UBK, j, none⟩ = some (.bool false) := by
          rw [arrB_cell HU4.out hjn]
          simp
        have uf : ∀ i, w4.frozen? ⟨UBK, i, none⟩ = false := fun i => frozen_of_row _ _ _ _ _ HU4.out
        have hpc := past_cell
        clear hin
        go_wp2_with fail
        refine wp_region_past_tail 13 (by kernel_rfl) (by kernel_rfl) ?_
        simp only [List.take_succ_cons, List.take_zero, List.drop_succ_cons, List.drop_zero]
        iterate 13 go_big_quiet_step (fail)
        refine wpQuiet_nil ?_
        intro w5 hw'
        have hb1 := past_out hw'
        clear hw'
        have uc5 : w5.cell? ⟨UBK, j, none⟩ = some (.bool false) := (hb1.cell (p := ⟨UBK, j, none⟩) zU4).trans uc
        have uf5 : w5.frozen? ⟨UBK, j, none⟩ = false := (hb1.frozen (p := ⟨UBK, j, none⟩) zU4).trans (uf j)
        have HU5 : Hid (w5.heap[UBK]? = some (.cells (arrB n (fun k => if k < j then usU T F ⟨ci, cf, ct, cs⟩ k else false)) 4)) := (hb1.block _ zU4).trans HU4.out
        have g3 : w5.cell? ⟨w.heap.size, 3, none⟩ = some (.int .i64 cs) := (hb1.cell (p := ⟨_, _, none⟩) hzc4).trans e3
        have g2 : w5.cell? ⟨w.heap.size, 2, none⟩ = some (.int .i64 ct) := (hb1.cell (p := ⟨_, _, none⟩) hzc4).trans e2
        have g1 : w5.cell? ⟨w.heap.size, 1, none⟩ = some (.int .i64 cf) := (hb1.cell (p := ⟨_, _, none⟩) hzc4).trans e1
        have hB5 : Below w.heap.size w w5 := below_step hB4 hb1
        have hs5 := hb1.size
        have zU5 : UBK < w5.heap.size := by omega
        have hzc5 : w.heap.size < w5.heap.size := by omega
        have HU6 : Hid ((w5.setCell ⟨UBK, j, none⟩ (.bool (decide (cs ≤ sp - fu)))).heap[UBK]? = some (.cells (arrB n (fun k => if k < j + 1 then usU T F ⟨ci, cf, ct, cs⟩ k else false)) 4)) := by
          show _ = _
          rw [setArrB HU5.out]
          congr 2
          refine arrB_congr fun i hi => ?_
          unfold updB
          (try dsimp only)
          by_cases e : i = j
          · rw [if_pos e, if_pos (by omega), e]
            unfold usU
            rw [HSP.out, HFU.out]
          · rw [if_neg e]
            by_cases e2 : i < j
            · rw [if_pos e2, if_pos (by omega)]
            · rw [if_neg e2, if_neg (by omega)]
        have hq2 : Hid (∀ i, i < j + 1 → inB (F i) 0 1000000 = true) := fun i hi => by
          by_cases e : i = j
          · subst e; rw [HFU.out]; exact HIN.out
          · exact hq.out i (by omega)
        clear hb1 e1 e2 e3 d3 du uc uf hs5 hpc
        go_wp2
        go_roundw
        case rel => exact ⟨j + 1, by omega, by go_num, HU6, hq2, cell_other g1 (by omega), cell_other g2 (by omega), cell_other g3 (by omega), by simp <;> omega, by go_grown⟩
        case measure => simp [intOf]; omega
    · obtain rfl : n = j := by omega
      have zU3 := block_lt HU.out
      go_wp2_with fail
      (go_at_call 32; refine (distances_any _ _ n T (usU T F ⟨ci, cf, ct, cs⟩) ct _ (HTA.out.below hB) (bools_of HU.out (by omega) (fun i hi => if_pos hi)) HTK.out hto).mono ?_; rintro e_ w4 ⟨rfl, hb⟩)
      have hB4 : Below w.heap.size w w4 := below_step hB hb
      have hs4 := hb.size
      have zc4 : w.heap.size < w4.heap.size := by omega
      have zU4 : UBK < w4.heap.size := by omega
      have y1 : w4.cell? ⟨w.heap.size, 1, none⟩ = some (.int .i64 cf) := (hb.cell (p := ⟨_, _, none⟩) hzc).trans c1c
      have y2 : w4.cell? ⟨w.heap.size, 2, none⟩ = some (.int .i64 ct) := (hb.cell (p := ⟨_, _, none⟩) hzc).trans c2c
      have HU4 : Hid (w4.heap[UBK]? = some (.cells (arrB n (fun k => if k < n then usU T F ⟨ci, cf, ct, cs⟩ k else false)) 4)) := (hb.block _ zU3).trans HU.out
      clear hb c1c c2c c3c hs4
      obtain ⟨d0, hd0⟩ : ∃ d, distF n T (usU T F ⟨ci, cf, ct, cs⟩) ct cf = d := ⟨_, rfl⟩
      have hdb := dist_bound HTK.out (distF_is (U := (usU T F ⟨ci, cf, ct, cs⟩)) (to := ct) HTK.out) hfr
      rw [hd0] at hdb
      have HD0 := Lib.hid hd0
      have kf0 := hfr.1
      have kf1 : cf < 256 := by omega
      clear hd0
      have FX : Hid (∀ w5, Stored (w4.alloc (.cells (arrI 256 (fun _ => 0)) 56)) w5 w4.heap.size (arrI 256 (fun i => distF n T (usU T F ⟨ci, cf, ct, cs⟩) ct (i : Int))) 56 → Hid (w5.heap[w4.heap.size]? = some (.cells (arrI 256 (fun i => distF n T (usU T F ⟨ci, cf, ct, cs⟩) ct (i : Int))) 56)) ∧ w5.cell? ⟨w.heap.size, 1, none⟩ = some (.int .i64 cf) ∧ w5.cell? ⟨w.heap.size, 2, none⟩ = some (.int .i64 ct) ∧ w5.cell? ⟨w4.heap.size, cf.toNat, none⟩ = some (.int .i64 d0) ∧ Hid (w5.heap[UBK]? = some (.cells (arrB n (fun k => if k < n then usU T F ⟨ci, cf, ct, cs⟩ k else false)) 4)) ∧ w4.heap.size < w5.heap.size ∧ Hid (Below w.heap.size w w5)) := fun w5 hs5 => by
        have hb5 : Below w4.heap.size w4 w5 := Stored.below ((Below.refl _ _).alloc (Nat.le_refl _) _) hs5 (Nat.le_refl _)
        have HG5 : Hid (w5.heap[w4.heap.size]? = some (.cells (arrI 256 (fun i => distF n T (usU T F ⟨ci, cf, ct, cs⟩) ct (i : Int))) 56)) := hs5.here
        refine ⟨HG5, (hb5.cell (p := ⟨_, _, none⟩) zc4).trans y1, (hb5.cell (p := ⟨_, _, none⟩) zc4).trans y2, (arr_cell HG5.out (by omega)).trans ?_, (hb5.block _ zU4).trans HU4.out, block_lt HG5.out, below_step hB4 hb5⟩
        rw [Int.toNat_of_nonneg hfr.1, HD0.out]
      clear y1 y2
      by_cases hneg : d0 < 0
      · have kd : decide (d0 < 0) = true := decide_eq_true hneg
        have HN := Lib.hid hneg
        go_wp2_with (first | (with_reducible refine wpList_alloc_all rfl 56 rfl _ zero256 ?_) | (with_reducible refine wpList_store_all 56 w4.heap.size 256 (arrI 256 (fun i => distF n T (usU T F ⟨ci, cf, ct, cs⟩) ct (i : Int))) 56 info256 rfl rfl (arrI_size _ _) (arrI_oneL _ _) ⟨_, heap_alloc_new _ _, arrI_size _ _⟩ ?_; intro w5 hs5; obtain ⟨HG5, p1, p2, gd, HU5, zG5, HB5⟩ := FX.out w5 hs5; clear hs5))
        have hre : routeErr n T n F ⟨ci, cf, ct, cs⟩ = 8 := (routeErr_4 HE0.out (fun i hi => hq.out i hi)).trans (if_pos (by show distF n T (usU T F ⟨ci, cf, ct, cs⟩) ct cf < 0; rw [HD0.out]; have h0 := HN.out; omega))
        have hne : routeErr n T n F ⟨ci, cf, ct, cs⟩ ≠ 0 := by rw [hre]; decide
        have HRX := Lib.hid (routeP_no hne)
        have HRE := Lib.hid hre
        clear hre hne
        go_wp2
        rw [Exit.noGoto_ret]
        go_returns
        rw [HRX.out.2, HRE.out]
        exact ⟨_, rfl, by rw [HRX.out.1]; exact path_nil _, newFrom_nil _, HB5.out⟩
      · have kd : decide (d0 < 0) = false := decide_eq_false hneg
        have kdl : ¬ d0 < 0 := hneg
        have HN := Lib.hid hneg
        go_wp2_with (first | (with_reducible refine wpList_alloc_all rfl 56 rfl _ zero256 ?_) | (with_reducible refine wpList_store_all 56 w4.heap.size 256 (arrI 256 (fun i => distF n T (usU T F ⟨ci, cf, ct, cs⟩) ct (i : Int))) 56 info256 rfl rfl (arrI_size _ _) (arrI_oneL _ _) ⟨_, heap_alloc_new _ _, arrI_size _ _⟩ ?_; intro w5 hs5; obtain ⟨HG5, p1, p2, gd, HU5, zG5, HB5⟩ := FX.out w5 hs5; clear hs5))
        have hz5 : w4.heap.size + 1 ≤ w5.heap.size := zG5
        have zc5 : w.heap.size < w5.heap.size := by omega
        go_step3
        have hle0 : 0 ≤ d0 := by omega
        have HRE : Hid (routeErr n T n F ⟨ci, cf, ct, cs⟩ = 0) := (routeErr_4 HE0.out (fun i hi => hq.out i hi)).trans (if_neg (by show ¬ distF n T (usU T F ⟨ci, cf, ct, cs⟩) ct cf < 0; rw [HD0.out]; have h0 := HN.out; omega))
        have HRD : Hid (routeD n T n F ⟨ci, cf, ct, cs⟩ = d0) := (if_pos HRE.out).trans HD0.out
        have HRP : Hid (routeP n T n F ⟨ci, cf, ct, cs⟩ = routeL n T (usU T F ⟨ci, cf, ct, cs⟩) ct cf) := if_pos HRE.out
        obtain ⟨i0, hi0, hz0, hs0, hb0⟩ := info1_parts info_int
        have hui : Tryd.prog.underlying 32 = some (.slice 3) := Tryd.underlying32
        go_wp2
        go_loopw [14, 15] (fun pw at_ wr => ∃ (pv : Value) (xs : List Nat) (v : Int), pv = pw ∧ at_ = .int .i64 v ∧ Hid (Pre n T (usU T F ⟨ci, cf, ct, cs⟩) ct cf v xs) ∧ Hid (wr.ownsRow w5.heap.size 3 1 pv xs.length (lvals xs)) ∧ Below w5.heap.size w5 wr) (fun _ a _ => (distF n T (usU T F ⟨ci, cf, ct, cs⟩) ct (intOf a)).toNat)
        case atStart => exact ⟨_, [], cf, rfl, rfl, Pre.start hfr (by rw [HD0.out]; exact hle0), World.ownsRow_nil _ _ _ _, Below.refl _ _⟩
        case round =>
          obtain ⟨w6, rfl⟩ : ∃ x : World, x = wr := ⟨_, rfl⟩
          obtain ⟨pv, xs, v, rfl, rfl, HP, HO, hB56⟩ := hrel
          have HBZ6 := Lib.hid hB56
          have hB6 : Below w.heap.size w w6 := below_step HB5.out hB56
          have hs6 := hB56.size
          obtain ⟨hv0, hv1, hvd, hvl, -⟩ := HP.out
          have q1 : w6.cell? ⟨w.heap.size, 1, none⟩ = some (.int .i64 cf) := (hB56.cell (p := ⟨_, _, none⟩) zc5).trans p1
          have q2 : w6.cell? ⟨w.heap.size, 2, none⟩ = some (.int .i64 ct) := (hB56.cell (p := ⟨_, _, none⟩) zc5).trans p2
          have zc6 : w.heap.size < w6.heap.size := by omega
          by_cases hv : v = ct
          · have HDN : Hid (routeL n T (usU T F ⟨ci, cf, ct, cs⟩) ct cf = xs) := by
              have h := HP.out
              rw [hv] at h
              exact h.done HTK.out
            have kv : (v == ct) = true := by simpa using hv
            have kv2 : (v != ct) = false := by simpa using hv
            have gd6 : w6.cell? ⟨w4.heap.size, cf.toNat, none⟩ = some (.int .i64 d0) := (hB56.cell (p := ⟨_, _, none⟩) zG5).trans gd
            have zG6 : w4.heap.size < w6.heap.size := by omega
            have HPA : Hid (PathAt w6 pv xs) := owns_path HO.out
            have HPN : Hid (NewFrom w.heap.size pv) := (owns_new HO.out).mono (by omega)
            clear hv hvl hvd hB56
            go_wp2_with fail
            refine wp_region_relw 8 (by kernel_rfl) (by kernel_rfl) (by kernel_rfl) ?_
            simp only [List.take_succ_cons, List.take_zero, fillL, Act.put, List.setIfInBounds_toArray, List.set_cons_zero, List.set_cons_succ]
            iterate 8
              apply rel_is
              · intro u wx hb hd
                have hz := hb.size
                (try simp only [World.size_alloc, World.size_setCell] at hz)
                have hz0 : w4.heap.size < wx.heap.size := by omega
                have hz1 : w.heap.size < wx.heap.size := by omega
                obtain ⟨hc, hf⟩ := bcell hb
                have HBX := Lib.hid hb
                clear hb hz
                simp [depsS, Region.binds, updS, Stay.is, Stay.any] at hd
                go_simp
                first | exact ⟨Below.refl _ _, rfl⟩ | rfl
            intro u w9 hb hE
            have e0 : u 0 = _ := endS_get hE 0 (by decide)
            have e1 : u 1 = _ := endS_get hE 1 (by decide)
            have e2 : u 2 = _ := endS_get hE 2 (by decide)
            have e3 : u 3 = _ := endS_get hE 3 (by decide)
            have e4 : u 4 = _ := endS_get hE 4 (by decide)
            have e5 : u 5 = _ := endS_get hE 5 (by decide)
            have e6 : u 6 = _ := endS_get hE 6 (by decide)
            have e7 : u 7 = _ := endS_get hE 7 (by decide)
            simp only [List.drop_succ_cons, List.drop_zero, List.take_succ_cons, List.take_zero, fillL, Act.put, List.setIfInBounds_toArray, List.set_cons_zero, List.set_cons_succ, e0, e1, e2, e3, e4, e5, e6, e7]
            clear e0 e1 e2 e3 e4 e5 e6 e7 hE
            have HBw9 := Lib.hid (below_step (w := w6) (by first | assumption | go_grown) hb)
            have HBXw9 := Lib.hid hb
            have hzw9 := hb.size
            (try simp only [World.size_alloc, World.size_setCell] at hzw9)
            have hzw90 : w4.heap.size < w9.heap.size := by omega
            have hzw91 : w.heap.size < w9.heap.size := by omega
            obtain ⟨hcw9, hfw9⟩ := bcell hb
            clear hb hzw9
            go_wp2
            rw [Exit.noGoto_ret]
            go_returns
            rw [HRD.out, HRE.out]
            exact ⟨_, rfl, by rw [HRP.out, HDN.out]; exact HPA.out.below HBXw9.out, HPN.out, below_step hB6 HBXw9.out⟩
          · have kv : (v == ct) = false := by simpa using hv
            have kv2 : (v != ct) = true := by simpa using hv
            have HV := Lib.hid hv
            have hlen : xs.length ≤ 255000000 := by have e := HD0.out; omega
            clear hv
            go_wp2
            go_loopw [14, 15, 77] (fun pw at_ i wr => ∃ j : Nat, pv = pw ∧ at_ = .int .i64 v ∧ j ≤ n ∧ i = .int .i64 j ∧ Hid (∀ q, q < j → ∀ w', ¬ StepOk n T (usU T F ⟨ci, cf, ct, cs⟩) (distF n T (usU T F ⟨ci, cf, ct, cs⟩) ct) v q w') ∧ Below w6.heap.size w6 wr) (fun _ _ i _ => n - (intOf i).toNat)
            case atStart => exact ⟨0, rfl, rfl, by omega, rfl, fun q hq => (by omega), Below.refl _ _⟩
            case round =>
              obtain ⟨w7, rfl⟩ : ∃ x : World, x = wr := ⟨_, rfl⟩
              obtain ⟨j, rfl, rfl, hj, rfl, HNS, hB67⟩ := hrel
              have hB7 : Below w.heap.size w w7 := below_step hB6 hB67
              have hs7 := hB67.size
              by_cases hjn : j < n
              · obtain ⟨b1, f1, rfl, hbl1, hcl1⟩ := HEL.out j hjn
                have c0 : w7.cell? ⟨b1, f1 + j * 4, none⟩ = some (.int .i64 (T j).A) := (hB7.cell (p := ⟨_, _, none⟩) hbl1).trans (hcl1 j hjn).1
                have c1 : w7.cell? ⟨b1, f1 + j * 4 + 1, none⟩ = some (.int .i64 (T j).B) := (hB7.cell (p := ⟨_, _, none⟩) hbl1).trans (hcl1 j hjn).2.1
                have c2 : w7.cell? ⟨b1, f1 + j * 4 + 2, none⟩ = some (.int .i64 (T j).L) := (hB7.cell (p := ⟨_, _, none⟩) hbl1).trans (hcl1 j hjn).2.2.1
                have c3 : w7.cell? ⟨b1, f1 + j * 4 + 3, none⟩ = some (.int .i64 (T j).S) := (hB7.cell (p := ⟨_, _, none⟩) hbl1).trans (hcl1 j hjn).2.2.2
                have hok := HTK.out j hjn
                unfold Tr.ok at hok
                obtain ⟨⟨ta, tb, tl, tsp⟩, htj⟩ : ∃ t, T j = t := ⟨_, rfl⟩
                rw [htj] at c0 c1 c2 c3 hok
                dsimp only at c0 c1 c2 c3 hok
                obtain ⟨e0, e1, e2, e3, e4, e5, e6, e7, hne⟩ := hok
                have HTJ := Lib.hid htj
                have hbr1 : b1 < w7.heap.size := by have := hB7.size; omega
                have k0 : (0 : Int) ≤ (j : Int) := by omega
                have k1 : (j : Int) < (n : Int) := by omega
                clear hcl1 htj
                go_wp2_with fail
                (go_at_call 33; refine (other_any ta tb tl tsp v _).mono ?_; rintro e_ w8 ⟨rfl, hb⟩)
                have hB68 : Below w6.heap.size w6 w8 := below_step (by first | assumption | go_grown) hb
                have hB58 : Below w5.heap.size w5 w8 := below_step HBZ6.out hB68
                have hs8 := hB68.size
                have l2 : w8.cell? ⟨w7.heap.size, 2, none⟩ = some (.int .i64 tl) := (hb.cell (p := ⟨_, _, none⟩) (by simp)).trans (by simp [go_sem])
                have zt8 : w7.heap.size < w8.heap.size := by have := hb.size; simp only [World.size_alloc] at this; omega
                have uc : w8.cell? ⟨UBK, j, none⟩ = some (.bool (usU T F ⟨ci, cf, ct, cs⟩ j)) := (hB58.cell (p := ⟨_, _, none⟩) (block_lt HU5.out)).trans ((arrB_cell HU5.out hjn).trans (by rw [if_pos hjn]))
                have r2 : w8.cell? ⟨w.heap.size, 2, none⟩ = some (.int .i64 ct) := (hB58.cell (p := ⟨_, _, none⟩) zc5).trans p2
                have zU8 : UBK < w8.heap.size := by have := block_lt HU5.out; omega
                have zG8 : w4.heap.size < w8.heap.size := by omega
                have zc8 : w.heap.size < w8.heap.size := by omega
                clear hb c0 c1 c2 c3
                cases hob : othB ta tb v
                · have HOB := Lib.hid hob
                  obtain ⟨nx, hnx⟩ : ∃ x, othN ta tb v = x := ⟨_, rfl⟩
                  rw [hnx]
                  clear hnx hob
                  have HNS2 : Hid (∀ q, q < j + 1 → ∀ w', ¬ StepOk n T (usU T F ⟨ci, cf, ct, cs⟩) (distF n T (usU T F ⟨ci, cf, ct, cs⟩) ct) v q w') := fun q hq' => by
                    by_cases e : q = j
                    · subst e; exact not_step_B (HTK.out q hjn) (by rw [HTJ.out]; exact HOB.out)
                    · exact HNS.out q (by omega)
                  go_wp2_with fail
                  refine wp_region_relw 25 (by kernel_rfl) (by kernel_rfl) (by kernel_rfl) ?_
                  simp only [List.take_succ_cons, List.take_zero, fillL, Act.put, List.setIfInBounds_toArray, List.set_cons_zero, List.set_cons_succ]
                  iterate 25
                    apply rel_is
                    · intro u wx hb hd
                      have hz := hb.size
                      (try simp only [World.size_alloc, World.size_setCell] at hz)
                      have hz0 : UBK < wx.heap.size := by omega
                      have hz1 : w4.heap.size < wx.heap.size := by omega
                      have hz2 : w.heap.size < wx.heap.size := by omega
                      have hz3 : w7.heap.size < wx.heap.size := by omega
                      obtain ⟨hc, hf⟩ := bcell hb
                      have HBX := Lib.hid hb
                      clear hb hz
                      simp [depsS, Region.binds, updS, Stay.is, Stay.any] at hd
                      go_simp
                      first | exact ⟨Below.refl _ _, rfl⟩ | rfl
                  intro u w9 hb hE
                  have e0 : u 0 = _ := endS_get hE 0 (by decide)
                  have e1 : u 1 = _ := endS_get hE 1 (by decide)
                  have e2 : u 2 = _ := endS_get hE 2 (by decide)
                  have e3 : u 3 = _ := endS_get hE 3 (by decide)
                  have e4 : u 4 = _ := endS_get hE 4 (by decide)
                  have e5 : u 5 = _ := endS_get hE 5 (by decide)
                  have e6 : u 6 = _ := endS_get hE 6 (by decide)
                  have e7 : u 7 = _ := endS_get hE 7 (by decide)
                  have e8 : u 8 = _ := endS_get hE 8 (by decide)
                  have e9 : u 9 = _ := endS_get hE 9 (by decide)
                  have e10 : u 10 = _ := endS_get hE 10 (by decide)
                  have e11 : u 11 = _ := endS_get hE 11 (by decide)
                  have e12 : u 12 = _ := endS_get hE 12 (by decide)
                  have e13 : u 13 = _ := endS_get hE 13 (by decide)
                  have e14 : u 14 = _ := endS_get hE 14 (by decide)
                  have e15 : u 15 = _ := endS_get hE 15 (by decide)
                  have e16 : u 16 = _ := endS_get hE 16 (by decide)
                  have e17 : u 17 = _ := endS_get hE 17 (by decide)
                  have e18 : u 18 = _ := endS_get hE 18 (by decide)
                  have e19 : u 19 = _ := endS_get hE 19 (by decide)
                  have e20 : u 20 = _ := endS_get hE 20 (by decide)
                  have e21 : u 21 = _ := endS_get hE 21 (by decide)
                  have e22 : u 22 = _ := endS_get hE 22 (by decide)
                  have e23 : u 23 = _ := endS_get hE 23 (by decide)
                  have e24 : u 24 = _ := endS_get hE 24 (by decide)
                  simp only [List.drop_succ_cons, List.drop_zero, List.take_succ_cons, List.take_zero, fillL, Act.put, List.setIfInBounds_toArray, List.set_cons_zero, List.set_cons_succ, e0, e1, e2, e3, e4, e5, e6, e7, e8, e9, e10, e11, e12, e13, e14, e15, e16, e17, e18, e19, e20, e21, e22, e23, e24]
                  clear e0 e1 e2 e3 e4 e5 e6 e7 e8 e9 e10 e11 e12 e13 e14 e15 e16 e17 e18 e19 e20 e21 e22 e23 e24 hE
                  have HBw9 := Lib.hid (below_step (w := w8) (by first | assumption | go_grown) hb)
                  have HBXw9 := Lib.hid hb
                  have hzw9 := hb.size
                  (try simp only [World.size_alloc, World.size_setCell] at hzw9)
                  have hzw90 : UBK < w9.heap.size := by omega
                  have hzw91 : w4.heap.size < w9.heap.size := by omega
                  have hzw92 : w.heap.size < w9.heap.size := by omega
                  have hzw93 : w7.heap.size < w9.heap.size := by omega
                  obtain ⟨hcw9, hfw9⟩ := bcell hb
                  clear hb hzw9
                  have hB69 : Below w6.heap.size w6 w9 := below_step hB68 HBXw9.out
                  have HBN := Lib.hid hB69
                  go_wp2
                  go_roundw
                  case rel => exact ⟨j + 1, rfl, rfl, by omega, by go_num, HNS2, HBN.out⟩
                  case measure => simp [intOf]; omega
                · obtain ⟨nx, hnx⟩ : ∃ x, othN ta tb v = x := ⟨_, rfl⟩
                  have hgo : Goes (T j) v nx := (oth_goes (HTK.out j hjn).2.2.2.2.2.2.2.2).2 (by rw [HTJ.out]; exact ⟨hob, hnx⟩)
                  have HGO := Lib.hid hgo
                  have hrg := hgo.range (HTK.out j hjn)
                  obtain ⟨-, -, hn0, hn1, -⟩ := hrg
                  have hn2 : nx < 256 := by omega
                  have hv2 : v < 256 := by omega
                  rw [hnx]
                  clear hnx hob hgo
                  cases hub : usU T F ⟨ci, cf, ct, cs⟩ j
                  · rw [hub] at uc
                    have HUBF := Lib.hid hub
                    clear hub
                    have HNS2 : Hid (∀ q, q < j + 1 → ∀ w', ¬ StepOk n T (usU T F ⟨ci, cf, ct, cs⟩) (distF n T (usU T F ⟨ci, cf, ct, cs⟩) ct) v q w') := fun q hq' => by
                      by_cases e : q = j
                      · subst e; exact not_step_U HUBF.out
                      · exact HNS.out q (by omega)
                    go_wp2_with fail
                    refine wp_region_relw 25 (by kernel_rfl) (by kernel_rfl) (by kernel_rfl) ?_
                    simp only [List.take_succ_cons, List.take_zero, fillL, Act.put, List.setIfInBounds_toArray, List.set_cons_zero, List.set_cons_succ]
                    iterate 25
                      apply rel_is
                      · intro u wx hb hd
                        have hz := hb.size
                        (try simp only [World.size_alloc, World.size_setCell] at hz)
                        have hz0 : UBK < wx.heap.size := by omega
                        have hz1 : w4.heap.size < wx.heap.size := by omega
                        have hz2 : w.heap.size < wx.heap.size := by omega
                        have hz3 : w7.heap.size < wx.heap.size := by omega
                        obtain ⟨hc, hf⟩ := bcell hb
                        have HBX := Lib.hid hb
                        clear hb hz
                        simp [depsS, Region.binds, updS, Stay.is, Stay.any] at hd
                        go_simp
                        first | exact ⟨Below.refl _ _, rfl⟩ | rfl
                    intro u w9 hb hE
                    have e0 : u 0 = _ := endS_get hE 0 (by decide)
                    have e1 : u 1 = _ := endS_get hE 1 (by decide)
                    have e2 : u 2 = _ := endS_get hE 2 (by decide)
                    have e3 : u 3 = _ := endS_get hE 3 (by decide)
                    have e4 : u 4 = _ := endS_get hE 4 (by decide)
                    have e5 : u 5 = _ := endS_get hE 5 (by decide)
                    have e6 : u 6 = _ := endS_get hE 6 (by decide)
                    have e7 : u 7 = _ := endS_get hE 7 (by decide)
                    have e8 : u 8 = _ := endS_get hE 8 (by decide)
                    have e9 : u 9 = _ := endS_get hE 9 (by decide)
                    have e10 : u 10 = _ := endS_get hE 10 (by decide)
                    have e11 : u 11 = _ := endS_get hE 11 (by decide)
                    have e12 : u 12 = _ := endS_get hE 12 (by decide)
                    have e13 : u 13 = _ := endS_get hE 13 (by decide)
                    have e14 : u 14 = _ := endS_get hE 14 (by decide)
                    have e15 : u 15 = _ := endS_get hE 15 (by decide)
                    have e16 : u 16 = _ := endS_get hE 16 (by decide)
                    have e17 : u 17 = _ := endS_get hE 17 (by decide)
                    have e18 : u 18 = _ := endS_get hE 18 (by decide)
                    have e19 : u 19 = _ := endS_get hE 19 (by decide)
                    have e20 : u 20 = _ := endS_get hE 20 (by decide)
                    have e21 : u 21 = _ := endS_get hE 21 (by decide)
                    have e22 : u 22 = _ := endS_get hE 22 (by decide)
                    have e23 : u 23 = _ := endS_get hE 23 (by decide)
                    have e24 : u 24 = _ := endS_get hE 24 (by decide)
                    simp only [List.drop_succ_cons, List.drop_zero, List.take_succ_cons, List.take_zero, fillL, Act.put, List.setIfInBounds_toArray, List.set_cons_zero, List.set_cons_succ, e0, e1, e2, e3, e4, e5, e6, e7, e8, e9, e10, e11, e12, e13, e14, e15, e16, e17, e18, e19, e20, e21, e22, e23, e24]
                    clear e0 e1 e2 e3 e4 e5 e6 e7 e8 e9 e10 e11 e12 e13 e14 e15 e16 e17 e18 e19 e20 e21 e22 e23 e24 hE
                    have HBw9 := Lib.hid (below_step (w := w8) (by first | assumption | go_grown) hb)
                    have HBXw9 := Lib.hid hb
                    have hzw9 := hb.size
                    (try simp only [World.size_alloc, World.size_setCell] at hzw9)
                    have hzw90 : UBK < w9.heap.size := by omega
                    have hzw91 : w4.heap.size < w9.heap.size := by omega
                    have hzw92 : w.heap.size < w9.heap.size := by omega
                    have hzw93 : w7.heap.size < w9.heap.size := by omega
                    obtain ⟨hcw9, hfw9⟩ := bcell hb
                    clear hb hzw9
                    have hB69 : Below w6.heap.size w6 w9 := below_step hB68 HBXw9.out
                    have HBN := Lib.hid hB69
                    go_wp2
                    go_roundw
                    case rel => exact ⟨j + 1, rfl, rfl, by omega, by go_num, HNS2, HBN.out⟩
                    case measure => simp [intOf]; omega
                  · rw [hub] at uc
                    have HUBT := Lib.hid hub
                    clear hub
                    obtain ⟨xn, hxn⟩ : ∃ x, distF n T (usU T F ⟨ci, cf, ct, cs⟩) ct nx = x := ⟨_, rfl⟩
                    obtain ⟨xv, hxv⟩ : ∃ x, distF n T (usU T F ⟨ci, cf, ct, cs⟩) ct v = x := ⟨_, rfl⟩
                    rw [hxv] at hvl hvd
                    have hxb := dist_bound HTK.out (distF_is (U := (usU T F ⟨ci, cf, ct, cs⟩)) (to := ct) HTK.out) (v := nx) (by omega)
                    have hxl := (distF_is (U := (usU T F ⟨ci, cf, ct, cs⟩)) (to := ct) HTK.out).low nx (by omega) (by omega)
                    rw [hxn] at hxb hxl
                    have gn : w8.cell? ⟨w4.heap.size, nx.toNat, none⟩ = some (.int .i64 xn) := (hB58.cell (p := ⟨_, _, none⟩) zG5).trans ((arr_cell HG5.out (by omega)).trans (by rw [Int.toNat_of_nonneg (by omega), hxn]))
                    have gv : w8.cell? ⟨w4.heap.size, v.toNat, none⟩ = some (.int .i64 xv) := (hB58.cell (p := ⟨_, _, none⟩) zG5).trans ((arr_cell HG5.out (by omega)).trans (by rw [Int.toNat_of_nonneg (by omega), hxv]))
                    have HXN := Lib.hid hxn
                    have HXV := Lib.hid hxv
                    have wsum : IntKind.i64.wrap (xn + tl) = xn + tl := IntWalk.i64_in _ (by omega)
                    clear hxn hxv
                    by_cases hx0 : 0 ≤ xn
                    · have kx0 : decide (0 ≤ xn) = true := decide_eq_true hx0
                      by_cases heq : xn + tl = xv
                      · subst heq
                        have HSO : Hid (StepOk n T (usU T F ⟨ci, cf, ct, cs⟩) (distF n T (usU T F ⟨ci, cf, ct, cs⟩) ct) v j nx) := ⟨hjn, HUBT.out, HGO.out, by rw [HXN.out]; omega, by rw [HXN.out, HXV.out, HTJ.out]⟩
                        have HPS := Lib.hid (HP.out.step HTK.out HV.out HSO.out HNS.out)
                        go_wp2_with fail
                        refine wp_region_relw 25 (by kernel_rfl) (by kernel_rfl) (by kernel_rfl) ?_
                        simp only [List.take_succ_cons, List.take_zero, fillL, Act.put, List.setIfInBounds_toArray, List.set_cons_zero, List.set_cons_succ]
                        iterate 25
                          apply rel_is
                          · intro u wx hb hd
                            have hz := hb.size
                            (try simp only [World.size_alloc, World.size_setCell] at hz)
                            have hz0 : UBK < wx.heap.size := by omega
                            have hz1 : w4.heap.size < wx.heap.size := by omega
                            have hz2 : w.heap.size < wx.heap.size := by omega
                            have hz3 : w7.heap.size < wx.heap.size := by omega
                            obtain ⟨hc, hf⟩ := bcell hb
                            have HBX := Lib.hid hb
                            clear hb hz
                            simp [depsS, Region.binds, updS, Stay.is, Stay.any] at hd
                            go_simp
                            first | exact ⟨Below.refl _ _, rfl⟩ | rfl
                        intro u w9 hb hE
                        have e0 : u 0 = _ := endS_get hE 0 (by decide)
                        have e1 : u 1 = _ := endS_get hE 1 (by decide)
                        have e2 : u 2 = _ := endS_get hE 2 (by decide)
                        have e3 : u 3 = _ := endS_get hE 3 (by decide)
                        have e4 : u 4 = _ := endS_get hE 4 (by decide)
                        have e5 : u 5 = _ := endS_get hE 5 (by decide)
                        have e6 : u 6 = _ := endS_get hE 6 (by decide)
                        have e7 : u 7 = _ := endS_get hE 7 (by decide)
                        have e8 : u 8 = _ := endS_get hE 8 (by decide)
                        have e9 : u 9 = _ := endS_get hE 9 (by decide)
                        have e10 : u 10 = _ := endS_get hE 10 (by decide)
                        have e11 : u 11 = _ := endS_get hE 11 (by decide)
                        have e12 : u 12 = _ := endS_get hE 12 (by decide)
                        have e13 : u 13 = _ := endS_get hE 13 (by decide)
                        have e14 : u 14 = _ := endS_get hE 14 (by decide)
                        have e15 : u 15 = _ := endS_get hE 15 (by decide)
                        have e16 : u 16 = _ := endS_get hE 16 (by decide)
                        have e17 : u 17 = _ := endS_get hE 17 (by decide)
                        have e18 : u 18 = _ := endS_get hE 18 (by decide)
                        have e19 : u 19 = _ := endS_get hE 19 (by decide)
                        have e20 : u 20 = _ := endS_get hE 20 (by decide)
                        have e21 : u 21 = _ := endS_get hE 21 (by decide)
                        have e22 : u 22 = _ := endS_get hE 22 (by decide)
                        have e23 : u 23 = _ := endS_get hE 23 (by decide)
                        have e24 : u 24 = _ := endS_get hE 24 (by decide)
                        simp only [List.drop_succ_cons, List.drop_zero, List.take_succ_cons, List.take_zero, fillL, Act.put, List.setIfInBounds_toArray, List.set_cons_zero, List.set_cons_succ, e0, e1, e2, e3, e4, e5, e6, e7, e8, e9, e10, e11, e12, e13, e14, e15, e16, e17, e18, e19, e20, e21, e22, e23, e24]
                        clear e0 e1 e2 e3 e4 e5 e6 e7 e8 e9 e10 e11 e12 e13 e14 e15 e16 e17 e18 e19 e20 e21 e22 e23 e24 hE
                        have HBw9 := Lib.hid (below_step (w := w8) (by first | assumption | go_grown) hb)
                        have HBXw9 := Lib.hid hb
                        have hzw9 := hb.size
                        (try simp only [World.size_alloc, World.size_setCell] at hzw9)
                        have hzw90 : UBK < w9.heap.size := by omega
                        have hzw91 : w4.heap.size < w9.heap.size := by omega
                        have hzw92 : w.heap.size < w9.heap.size := by omega
                        have hzw93 : w7.heap.size < w9.heap.size := by omega
                        obtain ⟨hcw9, hfw9⟩ := bcell hb
                        clear hb hzw9
                        have hB69 : Below w6.heap.size w6 w9 := below_step hB68 HBXw9.out
                        have hz9 := hB69.size
                        have HBN := Lib.hid hB69
                        clear hcw9 hfw9
                        go_wp2_with (at_builtin; refine wpList_append2 rfl _ _ 32 rfl w5.heap.size 3 i0 _ 1 8 hui hi0 hz0 hs0 hb0 rfl (by decide) _ xs.length (lvals xs) rfl (owns_below HO.out ?d1) (some ⟨w9.heap.size, 0, none⟩) 1 1 [.int .i64 (j : Int)] rfl rfl (fun h => by cases h) ?d2 (fun u hu => by obtain rfl := List.mem_singleton.1 hu; rfl) (by unfold maxLen; omega) (by omega) ?d6 ?_)
                        case d1 => go_grown
                        case d2 =>
                          intro ad had q u hq
                          cases had
                          exact built_cells (heapA_at _ _ _ rfl) q u hq
                        case d6 => simp <;> omega
                        intro pv2 w10 hown hgrow hnew
                        have HO2 : Hid (w10.ownsRow w5.heap.size 3 1 pv2 (xs ++ [j]).length (lvals (xs ++ [j]))) := by
                          show World.ownsRow _ _ _ _ _ _ _
                          rw [← lvals_snoc, List.length_append]
                          exact hown
                        have hB510 : Below w5.heap.size w5 w10 := Below.grown (by have h1 := HBZ6.out; have h2 := HBN.out; have h3 : Below w5.heap.size w5 w9 := below_step h1 h2; go_grown) hgrow (by simp <;> omega) (fun g hg => (HO.out.lt g hg).1)
                        have HBF := Lib.hid hB510
                        clear hown hgrow hnew hB510
                        go_wp2
                        go_roundw
                        case rel => exact ⟨_, xs ++ [j], nx, rfl, rfl, HPS.out.1, HO2, HBF.out⟩
                        case measure => simpa [intOf] using HPS.out.2
                      · have keq : (xn + tl == xv) = false := by simpa using heq
                        have HNS2 : Hid (∀ q, q < j + 1 → ∀ w', ¬ StepOk n T (usU T F ⟨ci, cf, ct, cs⟩) (distF n T (usU T F ⟨ci, cf, ct, cs⟩) ct) v q w') := fun q hq' => by
                          by_cases e : q = j
                          · subst e; exact not_step_D (HTK.out q hjn) HGO.out (by rw [HXN.out, HXV.out, HTJ.out]; exact fun h => heq h.2)
                          · exact HNS.out q (by omega)
                        go_wp2_with fail
                        refine wp_region_relw 25 (by kernel_rfl) (by kernel_rfl) (by kernel_rfl) ?_
                        simp only [List.take_succ_cons, List.take_zero, fillL, Act.put, List.setIfInBounds_toArray, List.set_cons_zero, List.set_cons_succ]
                        iterate 25
                          apply rel_is
                          · intro u wx hb hd
                            have hz := hb.size
                            (try simp only [World.size_alloc, World.size_setCell] at hz)
                            have hz0 : UBK < wx.heap.size := by omega
                            have hz1 : w4.heap.size < wx.heap.size := by omega
                            have hz2 : w.heap.size < wx.heap.size := by omega
                            have hz3 : w7.heap.size < wx.heap.size := by omega
                            obtain ⟨hc, hf⟩ := bcell hb
                            have HBX := Lib.hid hb
                            clear hb hz
                            simp [depsS, Region.binds, updS, Stay.is, Stay.any] at hd
                            go_simp
                            first | exact ⟨Below.refl _ _, rfl⟩ | rfl
                        intro u w9 hb hE
                        have e0 : u 0 = _ := endS_get hE 0 (by decide)
                        have e1 : u 1 = _ := endS_get hE 1 (by decide)
                        have e2 : u 2 = _ := endS_get hE 2 (by decide)
                        have e3 : u 3 = _ := endS_get hE 3 (by decide)
                        have e4 : u 4 = _ := endS_get hE 4 (by decide)
                        have e5 : u 5 = _ := endS_get hE 5 (by decide)
                        have e6 : u 6 = _ := endS_get hE 6 (by decide)
                        have e7 : u 7 = _ := endS_get hE 7 (by decide)
                        have e8 : u 8 = _ := endS_get hE 8 (by decide)
                        have e9 : u 9 = _ := endS_get hE 9 (by decide)
                        have e10 : u 10 = _ := endS_get hE 10 (by decide)
                        have e11 : u 11 = _ := endS_get hE 11 (by decide)
                        have e12 : u 12 = _ := endS_get hE 12 (by decide)
                        have e13 : u 13 = _ := endS_get hE 13 (by decide)
                        have e14 : u 14 = _ := endS_get hE 14 (by decide)
                        have e15 : u 15 = _ := endS_get hE 15 (by decide)
                        have e16 : u 16 = _ := endS_get hE 16 (by decide)
                        have e17 : u 17 = _ := endS_get hE 17 (by decide)
                        have e18 : u 18 = _ := endS_get hE 18 (by decide)
                        have e19 : u 19 = _ := endS_get hE 19 (by decide)
                        have e20 : u 20 = _ := endS_get hE 20 (by decide)
                        have e21 : u 21 = _ := endS_get hE 21 (by decide)
                        have e22 : u 22 = _ := endS_get hE 22 (by decide)
                        have e23 : u 23 = _ := endS_get hE 23 (by decide)
                        have e24 : u 24 = _ := endS_get hE 24 (by decide)
                        simp only [List.drop_succ_cons, List.drop_zero, List.take_succ_cons, List.take_zero, fillL, Act.put, List.setIfInBounds_toArray, List.set_cons_zero, List.set_cons_succ, e0, e1, e2, e3, e4, e5, e6, e7, e8, e9, e10, e11, e12, e13, e14, e15, e16, e17, e18, e19, e20, e21, e22, e23, e24]
                        clear e0 e1 e2 e3 e4 e5 e6 e7 e8 e9 e10 e11 e12 e13 e14 e15 e16 e17 e18 e19 e20 e21 e22 e23 e24 hE
                        have HBw9 := Lib.hid (below_step (w := w8) (by first | assumption | go_grown) hb)
                        have HBXw9 := Lib.hid hb
                        have hzw9 := hb.size
                        (try simp only [World.size_alloc, World.size_setCell] at hzw9)
                        have hzw90 : UBK < w9.heap.size := by omega
                        have hzw91 : w4.heap.size < w9.heap.size := by omega
                        have hzw92 : w.heap.size < w9.heap.size := by omega
                        have hzw93 : w7.heap.size < w9.heap.size := by omega
                        obtain ⟨hcw9, hfw9⟩ := bcell hb
                        clear hb hzw9
                        have hB69 : Below w6.heap.size w6 w9 := below_step hB68 HBXw9.out
                        have HBN := Lib.hid hB69
                        go_wp2
                        go_roundw
                        case rel => exact ⟨j + 1, rfl, rfl, by omega, by go_num, HNS2, HBN.out⟩
                        case measure => simp [intOf]; omega
                    · have kx0 : decide (0 ≤ xn) = false := decide_eq_false hx0
                      have HNS2 : Hid (∀ q, q < j + 1 → ∀ w', ¬ StepOk n T (usU T F ⟨ci, cf, ct, cs⟩) (distF n T (usU T F ⟨ci, cf, ct, cs⟩) ct) v q w') := fun q hq' => by
                        by_cases e : q = j
                        · subst e; exact not_step_D (HTK.out q hjn) HGO.out (by rw [HXN.out]; exact fun h => hx0 h.1)
                        · exact HNS.out q (by omega)
                      go_wp2_with fail
                      refine wp_region_relw 25 (by kernel_rfl) (by kernel_rfl) (by kernel_rfl) ?_
                      simp only [List.take_succ_cons, List.take_zero, fillL, Act.put, List.setIfInBounds_toArray, List.set_cons_zero, List.set_cons_succ]
                      iterate 25
                        apply rel_is
                        · intro u wx hb hd
                          have hz := hb.size
                          (try simp only [World.size_alloc, World.size_setCell] at hz)
                          have hz0 : UBK < wx.heap.size := by omega
                          have hz1 : w4.heap.size < wx.heap.size := by omega
                          have hz2 : w.heap.size < wx.heap.size := by omega
                          have hz3 : w7.heap.size < wx.heap.size := by omega
                          obtain ⟨hc, hf⟩ := bcell hb
                          have HBX := Lib.hid hb
                          clear hb hz
                          simp [depsS, Region.binds, updS, Stay.is, Stay.any] at hd
                          go_simp
                          first | exact ⟨Below.refl _ _, rfl⟩ | rfl
                      intro u w9 hb hE
                      have e0 : u 0 = _ := endS_get hE 0 (by decide)
                      have e1 : u 1 = _ := endS_get hE 1 (by decide)
                      have e2 : u 2 = _ := endS_get hE 2 (by decide)
                      have e3 : u 3 = _ := endS_get hE 3 (by decide)
                      have e4 : u 4 = _ := endS_get hE 4 (by decide)
                      have e5 : u 5 = _ := endS_get hE 5 (by decide)
                      have e6 : u 6 = _ := endS_get hE 6 (by decide)
                      have e7 : u 7 = _ := endS_get hE 7 (by decide)
                      have e8 : u 8 = _ := endS_get hE 8 (by decide)
                      have e9 : u 9 = _ := endS_get hE 9 (by decide)
                      have e10 : u 10 = _ := endS_get hE 10 (by decide)
                      have e11 : u 11 = _ := endS_get hE 11 (by decide)
                      have e12 : u 12 = _ := endS_get hE 12 (by decide)
                      have e13 : u 13 = _ := endS_get hE 13 (by decide)
                      have e14 : u 14 = _ := endS_get hE 14 (by decide)
                      have e15 : u 15 = _ := endS_get hE 15 (by decide)
                      have e16 : u 16 = _ := endS_get hE 16 (by decide)
                      have e17 : u 17 = _ := endS_get hE 17 (by decide)
                      have e18 : u 18 = _ := endS_get hE 18 (by decide)
                      have e19 : u 19 = _ := endS_get hE 19 (by decide)
                      have e20 : u 20 = _ := endS_get hE 20 (by decide)
                      have e21 : u 21 = _ := endS_get hE 21 (by decide)
                      have e22 : u 22 = _ := endS_get hE 22 (by decide)
                      have e23 : u 23 = _ := endS_get hE 23 (by decide)
                      have e24 : u 24 = _ := endS_get hE 24 (by decide)
                      simp only [List.drop_succ_cons, List.drop_zero, List.take_succ_cons, List.take_zero, fillL, Act.put, List.setIfInBounds_toArray, List.set_cons_zero, List.set_cons_succ, e0, e1, e2, e3, e4, e5, e6, e7, e8, e9, e10, e11, e12, e13, e14, e15, e16, e17, e18, e19, e20, e21, e22, e23, e24]
                      clear e0 e1 e2 e3 e4 e5 e6 e7 e8 e9 e10 e11 e12 e13 e14 e15 e16 e17 e18 e19 e20 e21 e22 e23 e24 hE
                      have HBw9 := Lib.hid (below_step (w := w8) (by first | assumption | go_grown) hb)
                      have HBXw9 := Lib.hid hb
                      have hzw9 := hb.size
                      (try simp only [World.size_alloc, World.size_setCell] at hzw9)
                      have hzw90 : UBK < w9.heap.size := by omega
                      have hzw91 : w4.heap.size < w9.heap.size := by omega
                      have hzw92 : w.heap.size < w9.heap.size := by omega
                      have hzw93 : w7.heap.size < w9.heap.size := by omega
                      obtain ⟨hcw9, hfw9⟩ := bcell hb
                      clear hb hzw9
                      have hB69 : Below w6.heap.size w6 w9 := below_step hB68 HBXw9.out
                      have HBN := Lib.hid hB69
                      go_wp2
                      go_roundw
                      case rel => exact ⟨j + 1, rfl, rfl, by omega, by go_num, HNS2, HBN.out⟩
                      case measure => simp [intOf]; omega
              · exfalso
                exact HP.out.none HTK.out HV.out (fun q hq' => HNS.out q (by omega))
end Go.Proofs.YtpkgadjglidnaaaDoor
