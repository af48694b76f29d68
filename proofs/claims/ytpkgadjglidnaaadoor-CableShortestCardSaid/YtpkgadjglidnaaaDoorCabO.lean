/-
  cable.Used, by a walk. Conditions: as stated. By an AI agent.
-/
import Derived.Test.YtpkgadjglidnaaaDoorCabN
namespace Go.Proofs.YtpkgadjglidnaaaDoor
open Go Go.ChangeShapes Go.WideShapes Go.RowKit Go.ChangeAt
set_option linter.unusedVariables false
set_option linter.unusedSimpArgs false

set_option maxHeartbeats 8000000 in
set_option maxRecDepth 20000 in
theorem used_any (v c u : Value) (n m mp : Nat) (T : Nat → Tr) (C : Nat → Cb) (L : Nat → Nat) (f : Nat → Nat → Int) (w : World) (h : TraysAt w v n T) (h' : CabsAt w c m C) (hp : IPathsAt w u mp L f) (hs : ∀ i, i < m → (C i).id.size ≤ 200) (hml : MaxLenIs w) :
    Calls Tryd.prog 22 #[v, c, u] w fun e w' => ∃ uv, e = .returned (.tuple #[uv, .int .i64 (usedErr n T m C mp L f)]) ∧ IntsAt w' uv (okN (usedErr n T m C mp L f) n) (usdU C L f m) ∧ Below w.heap.size w w' := by
  have HML := Lib.hid hml
  have HTA := Lib.hid h
  have HCA := Lib.hid h'
  obtain ⟨oa, ca, rfl, hn, hel⟩ := h.form
  obtain ⟨ob, cb, rfl, hn', hub⟩ := h'.form
  obtain ⟨pv, hp1, hp2⟩ := hp
  obtain ⟨oc, cc, rfl, hn2, hn3, hps⟩ := hp1
  have hps2 : ∀ k, k < mp → ∃ b off, oc = some ⟨b, off, none⟩ ∧ b < w.heap.size ∧ ∀ q, q < mp → w.cell? ⟨b, off + q, none⟩ = some (pv q) := fun k hk => by
    obtain ⟨b, off, e, hlt, hc⟩ := hps (by omega)
    exact ⟨b, off, e, hlt, fun q hq => by have := hc q 0 hq (by decide); simpa using this⟩
  have HEL := Lib.hid hel
  have HCL := Lib.hid hub
  have HPS := Lib.hid hps2
  have HPA := Lib.hid hp2
  have HSZ := Lib.hid hs
  obtain ⟨R, hR⟩ : ∃ R, usedErr n T m C mp L f = R := ⟨_, rfl⟩
  rw [hR]
  have HR := Lib.hid hR
  clear h h' hel hub hs hR hps hps2 hp2 hml
  go_enter Tryd.func22, Tryd.ntmps22
  go_wp2_with fail
  (go_at_call 14; refine (check_any _ _ n m T C _ HTA.out HCA.out HSZ.out HML.out).mono ?_; rintro e_ w1 ⟨rfl, hb⟩)
  have hBw1 : Below w.heap.size w w1 := hb
  have hs1 := hb.size
  clear hb
  obtain ⟨E, hE⟩ : ∃ E, checkF n T m C = E := ⟨_, rfl⟩
  rw [hE]
  have HE := Lib.hid hE
  clear hE
  by_cases hE0 : E = 0
  rotate_left
  · have kE : (E == 0) = false := by simpa using hE0
    have kE2 : (E != 0) = true := by simpa using hE0
    have HRX : Hid (R = E) := by show _ = _; rw [← HR.out]; unfold usedErr; rw [HE.out]; exact if_pos hE0
    have HNE : Hid (E ≠ 0) := hE0
    clear hE0
    go_wp2
    go_returns
    rw [HRX.out]
    exact ⟨_, rfl, by rw [okN_no HNE.out]; exact intsAt_nil _ _, hBw1⟩
  subst hE0
  obtain ⟨hn64, hm64, hTok, hCok⟩ := checkF_ok HE.out
  have HTK := Lib.hid hTok
  have HCK := Lib.hid hCok
  clear hTok hCok
  by_cases hmp : mp = m
  rotate_left
  · have kn : ((mp : Int) == (m : Int)) = false := by simp; omega
    have kn2 : ((mp : Int) != (m : Int)) = true := by simp; omega
    have HRX : Hid (R = 17) := by show _ = _; rw [← HR.out]; unfold usedErr; rw [HE.out]; exact if_pos hmp
    clear hmp
    go_wp2
    go_returns
    rw [HRX.out]
    exact ⟨_, rfl, by rw [okN_no (by decide)]; exact intsAt_nil _ _, hBw1⟩
  obtain rfl : m = mp := hmp.symm
  clear hmp
  have HRB : Hid ((if firstE (pathE n T C L f) m ≠ 0 then firstE (pathE n T C L f) m else if allTo (fun i => decide (usdU C L f m i ≤ (T i).S)) n = false then 18 else 0) = R) := by
    show _ = _
    rw [← HR.out]
    exact (usedErr_ok HE.out).symm
  have HNO : Hid (∀ k, k < m → (∀ q, q < k → pathE n T C L f q = 0) → pathE n T C L f k ≠ 0 → R = pathE n T C L f k) := fun k h1 h2 h3 => by rw [← HRB.out, firstE_hit h2 h3 h1, if_pos h3]
  obtain ⟨i0, hi0, hz0, hs0, hb0⟩ := info1_parts info_int
  obtain ⟨UBK, hUBK⟩ : ∃ b, w1.heap.size = b := ⟨_, rfl⟩
  have hUB0 : w.heap.size ≤ UBK := by omega
  have HUBK := Lib.hid hUBK
  clear hUBK
  go_wp2_with (refine wpList_make_row _ rfl _ _ 32 rfl 3 i0 _ Tryd.underlying32 hi0 hz0 hs0 rfl _ _ n rfl rfl (by rw [hb0]; omega) (by omega) ?_; rw [madeI])
  rw [HUBK.out]
  go_loopw [34] (fun i wr => ∃ k : Nat, k ≤ m ∧ i = .int .i64 k ∧ Hid (wr.heap[UBK]? = some (.cells (arrI n (usdU C L f k)) 3)) ∧ Hid (∀ q, q < k → pathE n T C L f q = 0) ∧ Below w.heap.size w wr) (fun i _ => m - (intOf i).toNat)
  case atStart =>
    have e0 := HUBK.out
    exact ⟨0, by omega, rfl, heapA_at _ _ _ e0.symm, fun q hq => (by omega), by go_grown⟩
  case round =>
    obtain ⟨w3, rfl⟩ : ∃ x : World, x = wr := ⟨_, rfl⟩
    obtain ⟨k, hk, rfl, HU, hqs, hB⟩ := hrel
    by_cases hkm : k < m
    · obtain ⟨b1, f1, rfl, hbl1, hcl1⟩ := HCL.out k hkm
      obtain ⟨bv, fv, rfl, hblv, hclv⟩ := HPS.out k hkm
      have cpv : w3.cell? ⟨bv, fv + k, none⟩ = some (pv k) := (hB.cell (p := ⟨_, _, none⟩) hblv).trans (hclv k hkm)
      have hcsz := (HCK.out k hkm).sz
      have hcft := (HCK.out k hkm).ne
      obtain ⟨⟨ci, cf, ct, cs⟩, hcj⟩ : ∃ c, C k = c := ⟨_, rfl⟩
      obtain ⟨hc0, hc1, hc2, hc3⟩ := hcl1 k hkm
      rw [hcj] at hc0 hc1 hc2 hc3 hcsz hcft
      dsimp only at hc0 hc1 hc2 hc3 hcsz hcft
      have HFT := Lib.hid hcft
      have HC0 := Lib.hid hc0
      have HC1 := Lib.hid hc1
      have HC2 := Lib.hid hc2
      have HC3 := Lib.hid hc3
      have HCJ := Lib.hid hcj
      have hpi := HPA.out k hkm
      obtain ⟨oP, cP, hpk, hlP, hclP⟩ := hpi.form
      rw [hpk] at cpv hpi
      obtain ⟨ln, hln⟩ : ∃ l, L k = l := ⟨_, rfl⟩
      have hpv := hclv k hkm
      rw [hpk] at hpv
      rw [hln] at cpv hpi hclP hlP hpv
      have HPI := Lib.hid hpi
      have HPL := Lib.hid hclP
      have HLN := Lib.hid hln
      have HPV := Lib.hid hpv
      have hbrv : bv < w3.heap.size := by have := hB.size; omega
      have k0 : (0 : Int) ≤ (k : Int) := by omega
      have k1 : (k : Int) < (m : Int) := by omega
      clear hcl1 hclv hcj hc0 hc1 hc2 hc3 hpi hclP hln hpk hpv hcft
      go_wp2
      go_loopw [41] (fun i wr => ∃ q : Nat, q ≤ ln ∧ i = .int .i64 q ∧ Hid (∀ r, r < q → inB (f k r) 0 ((n : Int) - 1) = true) ∧ Hid (wr.heap[UBK]? = some (.cells (arrI n (usdU C L f k)) 3)) ∧ Below w.heap.size w wr) (fun i _ => ln - (intOf i).toNat)
      case atStart => exact ⟨0, by omega, rfl, fun r hr => (by omega), HU.out, hB⟩
      case round =>
        clear HU hB
        obtain ⟨w4, rfl⟩ : ∃ x : World, x = wr := ⟨_, rfl⟩
        obtain ⟨q, hq, rfl, hr1, HU, hB4⟩ := hrel
        by_cases hql : q < ln
        · obtain ⟨bp, fp, rfl, hblp, hclp⟩ := HPL.out q hql
          have cq : w4.cell? ⟨bp, fp + q, none⟩ = some (.int .i64 (f k q)) := (hB4.cell (p := ⟨_, _, none⟩) hblp).trans (hclp q hql)
          obtain ⟨y, hy⟩ : ∃ y, f k q = y := ⟨_, rfl⟩
          rw [hy] at cq
          have HY := Lib.hid hy
          have zp : bp < w4.heap.size := by have := hB4.size; omega
          have k0 : (0 : Int) ≤ (q : Int) := by omega
          have k1 : (q : Int) < (ln : Int) := by omega
          have wn : IntKind.i64.wrap ((n : Int) - 1) = (n : Int) - 1 := IntWalk.i64_in _ (by omega)
          clear hclp hy
          go_wp2_with fail
          (go_at_call 27; refine (from_any y 0 ((n : Int) - 1) _).mono ?_; rintro e_ w5 ⟨rfl, hb⟩)
          have hB5 : Below w.heap.size w w5 := below_step hB4 hb
          have HU5 : Hid (w5.heap[UBK]? = some (.cells (arrI n (usdU C L f k)) 3)) := (hb.block _ (block_lt HU.out)).trans HU.out
          clear hb cq
          cases hin : inB y 0 ((n : Int) - 1)
          · have HRX : Hid (R = 9) := by
              have e : pathE n T C L f k = 9 := pathE_9 (q := q) (by rw [HLN.out]; exact hql) (by rw [HY.out]; exact hin)
              show _ = _
              rw [HNO.out k hkm hqs.out (by rw [e]; decide), e]
            clear hin
            go_wp2
            go_returns
            rw [HRX.out]
            exact ⟨_, rfl, by rw [okN_no (by decide)]; exact intsAt_nil _ _, hB5⟩
          · have hr2 : Hid (∀ r, r < q + 1 → inB (f k r) 0 ((n : Int) - 1) = true) := fun r hr' => by
              by_cases e : r = q
              · subst e; rw [HY.out]; exact hin
              · exact hr1.out r (by omega)
            clear hin
            go_wp2
            go_roundw
            case rel => exact ⟨q + 1, by omega, by go_num, hr2, HU5, hB5⟩
            case measure => simp [intOf]; omega
        · have hqe : q = ln := by omega
          have HIX : Hid (∀ r, r < ln → 0 ≤ f k r ∧ f k r < n) := fun r hr' => by have := inB_true (hr1.out r (by omega)); omega
          have HPW : Hid (pathE n T C L f k = if isWayB T (C k).fr (C k).to (f k) (L k) = false then 17 else 0) := pathE_w (fun r hr' => hr1.out r (by rw [HLN.out] at hr'; omega))
          clear hqe
          have d0 : w4.cell? ⟨b1, f1 + k * 4, none⟩ = some (.string ci) := (hB4.cell (p := ⟨_, _, none⟩) hbl1).trans HC0.out
          have d1 : w4.cell? ⟨b1, f1 + k * 4 + 1, none⟩ = some (.int .i64 cf) := (hB4.cell (p := ⟨_, _, none⟩) hbl1).trans HC1.out
          have d2 : w4.cell? ⟨b1, f1 + k * 4 + 2, none⟩ = some (.int .i64 ct) := (hB4.cell (p := ⟨_, _, none⟩) hbl1).trans HC2.out
          have d3 : w4.cell? ⟨b1, f1 + k * 4 + 3, none⟩ = some (.int .i64 cs) := (hB4.cell (p := ⟨_, _, none⟩) hbl1).trans HC3.out
          have zb4 : b1 < w4.heap.size := by have := hB4.size; omega
          have k0 : (0 : Int) ≤ (k : Int) := by omega
          have k1 : (k : Int) < (m : Int) := by omega
          go_wp2_with fail
          (go_at_call 36; refine (isWay_any _ _ n ln T (f k) ci cf ct cs _ (HTA.out.below hB4) (HPI.out.below hB4) HIX.out).mono ?_; rintro e_ w5 ⟨rfl, hb⟩)
          have hB5 : Below w.heap.size w w5 := below_step hB4 hb
          have HU5 : Hid (w5.heap[UBK]? = some (.cells (arrI n (usdU C L f k)) 3)) := (hb.block _ (block_lt HU.out)).trans HU.out
          clear hb d0 d1 d2
          cases hway : isWayB T cf ct (f k) ln
          · have HRX : Hid (R = 17) := by
              have e : pathE n T C L f k = 17 := by rw [HPW.out, HCJ.out, HLN.out]; exact if_pos hway
              show _ = _
              rw [HNO.out k hkm hqs.out (by rw [e]; decide), e]
            clear hway
            go_wp2
            go_returns
            rw [HRX.out]
            exact ⟨_, rfl, by rw [okN_no (by decide)]; exact intsAt_nil _ _, hB5⟩
          · have hpe : pathE n T C L f k = 0 := by rw [HPW.out, HCJ.out, HLN.out]; exact if_neg (by simp only [hway]; decide)
            have HPE := Lib.hid hpe
            have hnd : (trL (f k) ln).Nodup := trL_nodup hway HIX.out
            have HND := Lib.hid hnd
            clear hway hpe hnd
            go_wp2
            go_loopw [62] (fun i wr => ∃ q : Nat, q ≤ ln ∧ i = .int .i64 q ∧ Hid (wr.heap[UBK]? = some (.cells (arrI n (addQ (usdU C L f k) (trL (f k) ln) cs q)) 3)) ∧ Below w.heap.size w wr) (fun i _ => ln - (intOf i).toNat)
            case atStart => exact ⟨0, by omega, rfl, by rw [addQ_0]; exact HU5.out, hB5⟩
            case round =>
              clear HU5 hB5
              obtain ⟨w6, rfl⟩ : ∃ x : World, x = wr := ⟨_, rfl⟩
              obtain ⟨q, hq, rfl, HU6, hB6⟩ := hrel
              have zU6 := block_lt HU6.out
              by_cases hql : q < ln
              · obtain ⟨bp, fp, rfl, hblp, hclp⟩ := HPL.out q hql
                have cq : w6.cell? ⟨bp, fp + q, none⟩ = some (.int .i64 (f k q)) := (hB6.cell (p := ⟨_, _, none⟩) hblp).trans (hclp q hql)
                have hix := HIX.out q hql
                obtain ⟨i, hi⟩ : ∃ i : Nat, f k q = (i : Int) := ⟨(f k q).toNat, by omega⟩
                have hst := addQ_step (F := usdU C L f k) (P := trL (f k) ln) (sz := cs) (q := q) (by rw [trL_len]; exact hql)
                rw [trL_at hql, hi] at hst
                simp only [Int.toNat_natCast] at hst
                rw [hi] at cq hix
                have hin : i < n := by omega
                have hbd := addQ_nodup (F := usdU C L f k) (P := trL (f k) ln) (sz := cs) (q := q) (i := i) (by omega) HND.out
                have hub := usdU_bd HCK.out (k := k) (by omega) hqs.out i
                obtain ⟨y, hy⟩ : ∃ y, addQ (usdU C L f k) (trL (f k) ln) cs q i = y := ⟨_, rfl⟩
                rw [hy] at hst hbd
                have cu : w6.cell? ⟨UBK, i, none⟩ = some (.int .i64 y) := by rw [← hy]; exact arr_cell HU6.out hin
                have cuf := arr_frozen HU6.out
                have cs6 : w6.cell? ⟨b1, f1 + k * 4 + 3, none⟩ = some (.int .i64 cs) := (hB6.cell (p := ⟨_, _, none⟩) hbl1).trans HC3.out
                have zb6 : b1 < w6.heap.size := by have := hB6.size; omega
                have zp6 : bp < w6.heap.size := by have := hB6.size; omega
                have k0 : (0 : Int) ≤ (q : Int) := by omega
                have k1 : (q : Int) < (ln : Int) := by omega
                have k2 : (0 : Int) ≤ (i : Int) := by omega
                have k3 : (i : Int) < (n : Int) := by omega
                have k4 : (0 : Int) ≤ (k : Int) := by omega
                have k5 : (k : Int) < (m : Int) := by omega
                have wsum : IntKind.i64.wrap (y + cs) = y + cs := IntWalk.i64_in _ (by omega)
                have HST := Lib.hid hst
                have hpc := past_cell
                clear hclp hi hst hy
                go_wp2_with fail
                refine wp_region_past_tail 11 (by kernel_rfl) (by kernel_rfl) ?_
                simp only [List.take_succ_cons, List.take_zero, List.drop_succ_cons, List.drop_zero]
                iterate 11 go_big_quiet_step (fail)
                refine wpQuiet_nil ?_
                intro w7 hw'
                have hb1 := past_out hw'
                clear hw'
                have cu7 : w7.cell? ⟨UBK, i, none⟩ = some (.int .i64 y) := (hb1.cell (p := ⟨UBK, i, none⟩) zU6).trans cu
                have cf7 : w7.frozen? ⟨UBK, i, none⟩ = false := (hb1.frozen (p := ⟨UBK, i, none⟩) zU6).trans (cuf i)
                have HU7 : Hid (w7.heap[UBK]? = some (.cells (arrI n (addQ (usdU C L f k) (trL (f k) ln) cs q)) 3)) := (hb1.block _ zU6).trans HU6.out
                have hB7 : Below w.heap.size w w7 := below_step hB6 hb1
                have HU8 : Hid ((w7.setCell ⟨UBK, i, none⟩ (.int .i64 (y + cs))).heap[UBK]? = some (.cells (arrI n (addQ (usdU C L f k) (trL (f k) ln) cs (q + 1))) 3)) := by
                  show _ = _
                  rw [setArr HU7.out, HST.out]
                clear hb1 cu cuf cq cs6 hpc
                go_wp2
                go_roundw
                case rel => exact ⟨q + 1, by omega, by go_num, HU8, by go_grown⟩
                case measure => simp [intOf]; omega
              · have hqe : q = ln := by omega
                have HU7 : Hid (w6.heap[UBK]? = some (.cells (arrI n (usdU C L f (k + 1))) 3)) := by
                  have h := HU6.out
                  rw [hqe] at h
                  rw [usdU_succ, HLN.out, HCJ.out]
                  exact h
                have hq2 : Hid (∀ q, q < k + 1 → pathE n T C L f q = 0) := fun q hq' => by
                  by_cases e : q = k
                  · subst e; exact HPE.out
                  · exact hqs.out q (by omega)
                clear hqe HU6
                go_wp2
                go_roundw
                case rel => exact ⟨k + 1, by omega, by go_num, HU7, hq2, hB6⟩
                case measure => simp [intOf]; omega
    · have hkm2 : k = m := by omega
      have HU3 : Hid (w3.heap[UBK]? = some (.cells (arrI n (usdU C L f m)) 3)) := by have h := HU.out; rw [hkm2] at h; exact h
      have HFIN : Hid ((if allTo (fun i => decide (usdU C L f m i ≤ (T i).S)) n = false then (18 : Int) else 0) = R) := by
        show _ = _
        rw [← HRB.out, firstE_all (fun q hq => hqs.out q (by omega))]
        rfl
      clear HU hkm2
      go_wp2
      go_loopw [81] (fun i wr => ∃ j : Nat, j ≤ n ∧ i = .int .i64 j ∧ Hid (∀ q, q < j → decide (usdU C L f m q ≤ (T q).S) = true) ∧ Hid (wr.heap[UBK]? = some (.cells (arrI n (usdU C L f m)) 3)) ∧ Below w.heap.size w wr) (fun i _ => n - (intOf i).toNat)
      case atStart => exact ⟨0, by omega, rfl, fun q hq => (by omega), HU3.out, hB⟩
      case round =>
        clear HU3 hB
        obtain ⟨w4, rfl⟩ : ∃ x : World, x = wr := ⟨_, rfl⟩
        obtain ⟨i, hi, rfl, hq3, HU4, hB4⟩ := hrel
        have zU4 := block_lt HU4.out
        by_cases hin : i < n
        · obtain ⟨b1, f1, rfl, hbl1, hcl1⟩ := HEL.out i hin
          have cS : w4.cell? ⟨b1, f1 + i * 4 + 3, none⟩ = some (.int .i64 (T i).S) := (hB4.cell (p := ⟨_, _, none⟩) hbl1).trans (hcl1 i hin).2.2.2
          obtain ⟨s, hs⟩ : ∃ s, (T i).S = s := ⟨_, rfl⟩
          obtain ⟨y, hy⟩ : ∃ y, usdU C L f m i = y := ⟨_, rfl⟩
          have cu : w4.cell? ⟨UBK, i, none⟩ = some (.int .i64 y) := by rw [← hy]; exact arr_cell HU4.out hin
          rw [hs] at cS
          have HS := Lib.hid hs
          have HY := Lib.hid hy
          have zb4 : b1 < w4.heap.size := by have := hB4.size; omega
          have k0 : (0 : Int) ≤ (i : Int) := by omega
          have k1 : (i : Int) < (n : Int) := by omega
          clear hcl1 hs hy
          by_cases hys : y ≤ s
          · have kd : decide (s < y) = false := decide_eq_false (by omega)
            have hq4 : Hid (∀ q, q < i + 1 → decide (usdU C L f m q ≤ (T q).S) = true) := fun q hq' => by
              by_cases e : q = i
              · subst e; rw [HY.out, HS.out]; exact decide_eq_true hys
              · exact hq3.out q (by omega)
            clear hys
            go_wp2
            go_roundw
            case rel => exact ⟨i + 1, by omega, by go_num, hq4, HU4, hB4⟩
            case measure => simp [intOf]; omega
          · have kd : decide (s < y) = true := decide_eq_true (by omega)
            have HRX : Hid (R = 18) := by
              show _ = _
              rw [← HFIN.out]
              exact if_pos (allTo_no hin (by rw [HY.out, HS.out]; exact decide_eq_false hys))
            clear hys
            go_wp2
            go_returns
            rw [HRX.out]
            exact ⟨_, rfl, by rw [okN_no (by decide)]; exact intsAt_nil _ _, hB4⟩
        · have HRX : Hid (R = 0) := by
            show _ = _
            rw [← HFIN.out]
            exact if_neg (by rw [allTo_iff.2 fun q hq' => hq3.out q (by omega)]; decide)
          go_wp2
          go_returns
          rw [HRX.out]
          exact ⟨_, rfl, ints_of HU4.out (by omega), hB4⟩
end Go.Proofs.YtpkgadjglidnaaaDoor
