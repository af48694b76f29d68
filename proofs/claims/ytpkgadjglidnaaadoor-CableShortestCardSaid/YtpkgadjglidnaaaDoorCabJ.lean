/-
  cable.Lay, by a walk. Conditions: as stated. By an AI agent.
-/
import Derived.Test.YtpkgadjglidnaaaDoorCabI
import Derived.Test.YtpkgadjglidnaaaDoorCabG
namespace Go.Proofs.YtpkgadjglidnaaaDoor
open Go Go.ChangeShapes Go.WideShapes Go.RowKit Go.ChangeAt
set_option linter.unusedVariables false
set_option linter.unusedSimpArgs false

theorem cell_keep {w w' : World} {b : Nat} (h : w'.heap[b]? = w.heap[b]?) (o : Nat) : w'.cell? ⟨b, o, none⟩ = w.cell? ⟨b, o, none⟩ := by
  unfold World.cell?
  dsimp only
  rw [h]
set_option maxHeartbeats 8000000 in
set_option maxRecDepth 20000 in
theorem lay_any (v c : Value) (n m : Nat) (T : Nat → Tr) (C : Nat → Cb) (w : World) (h : TraysAt w v n T) (h' : CabsAt w c m C) (hs : ∀ i, i < m → (C i).id.size ≤ 200) (hml : MaxLenIs w) :
    Calls Tryd.prog 19 #[v, c] w fun e w' => ∃ lv, e = .returned (.tuple #[lv, .int .i64 (layErr n T m C)]) ∧ PathsAt w' lv (okN (layErr n T m C) m) (layP n T C) ∧ Below w.heap.size w w' := by
  have HML := Lib.hid hml
  have HTA := Lib.hid h
  have HCA := Lib.hid h'
  obtain ⟨oa, ca, rfl, hn, hel⟩ := h.form
  obtain ⟨ob, cb, rfl, hn', hub⟩ := h'.form
  have HEL := Lib.hid hel
  have HCL := Lib.hid hub
  have HSZ := Lib.hid hs
  obtain ⟨R, hR⟩ : ∃ R, layErr n T m C = R := ⟨_, rfl⟩
  rw [hR]
  have HR := Lib.hid hR
  clear h h' hel hub hs hR hml
  go_enter Tryd.func19, Tryd.ntmps19
  go_wp2_with fail
  (go_at_call 14; refine (check_any _ _ n m T C _ HTA.out HCA.out HSZ.out HML.out).mono ?_; rintro e_ w1 ⟨rfl, hb⟩)
  have hBw1 : Below w.heap.size w w1 := hb
  have hs1 := hb.size
  clear hb
  obtain ⟨E, hE⟩ : ∃ E, checkF n T m C = E := ⟨_, rfl⟩
  rw [hE]
  have HE := Lib.hid hE
  clear hE
  by_cases hE0 : E = 0
  rotate_left
  · have kE : (E == 0) = false := by simpa using hE0
    have kE2 : (E != 0) = true := by simpa using hE0
    have HRX : Hid (R = E) := by show _ = _; rw [← HR.out]; unfold layErr; rw [HE.out]; exact if_pos hE0
    have HNE : Hid (E ≠ 0) := hE0
    clear hE0
    go_wp2
    go_returns
    rw [HRX.out]
    exact ⟨_, rfl, by rw [okN_no HNE.out]; exact paths_nil _ _, hBw1⟩
  subst hE0
  obtain ⟨hn64, hm64, hTok, hCok⟩ := checkF_ok HE.out
  have HTK := Lib.hid hTok
  have HCK := Lib.hid hCok
  have HRB : Hid (firstE (layR n T C) m = R) := by
    show _ = _
    rw [← HR.out]
    unfold layErr
    rw [HE.out]
    rfl
  have HNO : Hid (∀ k, k < m → (∀ q, q < k → layR n T C q = 0) → layR n T C k ≠ 0 → R = layR n T C k) := fun k h1 h2 h3 => by rw [← HRB.out, firstE_hit h2 h3 h1]
  clear hTok hCok
  obtain ⟨i0, hi0, hz0, hs0, hb0⟩ := info1_parts info_int
  obtain ⟨j0, hj0, hzj0, hsj0, hbj0⟩ := info1_parts info_ints
  have huj : Tryd.prog.underlying 39 = some (.slice 32) := Tryd.underlying39
  obtain ⟨UBK, hUBK⟩ : ∃ b, w1.heap.size = b := ⟨_, rfl⟩
  have hUB0 : w.heap.size ≤ UBK := by omega
  have HUBK := Lib.hid hUBK
  clear hUBK
  go_wp2_with (refine wpList_make_row _ rfl _ _ 32 rfl 3 i0 _ Tryd.underlying32 hi0 hz0 hs0 rfl _ _ n rfl rfl (by rw [hb0]; omega) (by omega) ?_; rw [madeI])
  rw [HUBK.out]
  go_loopw [8, 27] (fun lw i wr => ∃ (lv : Value) (k : Nat) (pv : Nat → Value), lv = lw ∧ k ≤ m ∧ i = .int .i64 k ∧ Hid (wr.heap[UBK]? = some (.cells (arrI n (layU n T C k)) 3)) ∧ Hid (wr.ownsRow (UBK + 1) 32 1 lv k (listOf pv k)) ∧ Hid (PathsSo wr (UBK + 1) lv k pv (layP n T C)) ∧ Hid (∀ q, q < k → layR n T C q = 0) ∧ Below w.heap.size w wr) (fun _ i _ => m - (intOf i).toNat)
  case atStart =>
    have e0 := HUBK.out
    exact ⟨_, 0, fun _ => .slice none 0 0, rfl, by omega, rfl, heapA_at _ _ _ e0.symm, World.ownsRow_nil _ _ _ _, fun q hq => (by omega), fun q hq => (by omega), by go_grown⟩
  case round =>
    obtain ⟨w3, rfl⟩ : ∃ x : World, x = wr := ⟨_, rfl⟩
    obtain ⟨lv, k, pv, rfl, hk, rfl, HU, HO, HSO, hqs, hB⟩ := hrel
    have hzU := block_lt HU.out
    by_cases hkm : k < m
    · obtain ⟨b1, f1, rfl, hbl1, hcl1⟩ := HCL.out k hkm
      have c0 : w3.cell? ⟨b1, f1 + k * 4, none⟩ = some (.string (C k).id) := (hB.cell (p := ⟨_, _, none⟩) hbl1).trans (hcl1 k hkm).1
      have c1 : w3.cell? ⟨b1, f1 + k * 4 + 1, none⟩ = some (.int .i64 (C k).fr) := (hB.cell (p := ⟨_, _, none⟩) hbl1).trans (hcl1 k hkm).2.1
      have c2 : w3.cell? ⟨b1, f1 + k * 4 + 2, none⟩ = some (.int .i64 (C k).to) := (hB.cell (p := ⟨_, _, none⟩) hbl1).trans (hcl1 k hkm).2.2.1
      have c3 : w3.cell? ⟨b1, f1 + k * 4 + 3, none⟩ = some (.int .i64 (C k).sz) := (hB.cell (p := ⟨_, _, none⟩) hbl1).trans (hcl1 k hkm).2.2.2
      have hsz0 := HSZ.out k hkm
      have hcbk := HCK.out k hkm
      have hcsz := hcbk.sz
      obtain ⟨⟨ci, cf, ct, cs⟩, hcj⟩ : ∃ c, C k = c := ⟨_, rfl⟩
      rw [hcj] at c0 c1 c2 c3 hsz0 hcsz
      dsimp only at c0 c1 c2 c3 hsz0 hcsz
      have HCJ := Lib.hid hcj
      have HCS : Hid ((C k).sz = cs) := by show _ = _; rw [hcj]
      have hbr1 : b1 < w3.heap.size := by have := hB.size; omega
      have k0 : (0 : Int) ≤ (k : Int) := by omega
      have k1 : (k : Int) < (m : Int) := by omega
      clear hcl1 hcj
      go_wp2_with fail
      (go_at_call 16; refine (route_any _ _ n n T (layU n T C k) ci cf ct cs _ (HTA.out.below (hB.alloc hB.size _)) (ints_of ((heapA_old _ _ _ (by omega)).trans HU.out) (by omega)) (by omega) (HML.out.below (hB.alloc hB.size _))).mono ?_; rintro e_ w4 ⟨pk, rfl, hpa, hpn, hb⟩)
      have hs4 := hb.size
      (try simp only [World.size_alloc] at hs4)
      have HPN : Hid (NewFrom w3.heap.size pk) := hpn.mono (by simp <;> omega)
      have hrk : routeErr n T n (layU n T C k) ⟨ci, cf, ct, cs⟩ = layR n T C k := by unfold layR; rw [HCJ.out]
      have hrp : routeP n T n (layU n T C k) ⟨ci, cf, ct, cs⟩ = layP n T C k := by unfold layP; rw [HCJ.out]
      rw [hrp] at hpa
      rw [hrk]
      have HPA := Lib.hid hpa
      have hB34 : Below w3.heap.size w3 w4 := below_step (w := w3) (by first | exact Below.refl _ _ | go_grown) hb
      have HB34 := Lib.hid hB34
      have hB4 : Below w.heap.size w w4 := below_step hB hB34
      have cs4 : w4.cell? ⟨w3.heap.size, 3, none⟩ = some (.int .i64 cs) := (hb.cell (p := ⟨_, _, none⟩) (by simp)).trans (by simp [go_sem])
      have HU4 : Hid (w4.heap[UBK]? = some (.cells (arrI n (layU n T C k)) 3)) := (hB34.block _ hzU).trans HU.out
      clear hb hpa hpn hrk hrp hB34 c0 c1 c2 c3
      obtain ⟨D, hD⟩ : ∃ d, routeD n T n (layU n T C k) ⟨ci, cf, ct, cs⟩ = d := ⟨_, rfl⟩
      rw [hD]
      clear hD
      obtain ⟨E, hE⟩ : ∃ e, layR n T C k = e := ⟨_, rfl⟩
      have HE := Lib.hid hE
      rw [hE]
      clear hE
      obtain ⟨oP, cP, hpk, hlP, hclP⟩ := HPA.out.form
      have HPK := Lib.hid hpk.symm
      have HPL := Lib.hid hclP
      by_cases hE0 : E = 0
      rotate_left
      · have kE : (E == 0) = false := by simpa using hE0
        have kE2 : (E != 0) = true := by simpa using hE0
        have hr : R = E := by rw [HNO.out k hkm hqs.out (by rw [HE.out]; exact hE0), HE.out]
        have HRX := Lib.hid hr
        have HNE : Hid (E ≠ 0) := hE0
        clear hr hE0 hclP hpk
        go_wp2
        go_returns
        rw [HRX.out]
        exact ⟨_, rfl, by rw [okN_no HNE.out]; exact paths_nil _ _, hB4⟩
      subst hE0
      have HRK : Hid (layR n T C k = 0) := HE.out
      obtain ⟨ln, hln⟩ : ∃ l, (layP n T C k).length = l := ⟨_, rfl⟩
      have HLN := Lib.hid hln
      rw [hln] at hpk hlP HPL
      obtain rfl := hpk
      clear hclP hln
      go_wp2
      go_loopw [44] (fun i wr => ∃ q : Nat, q ≤ ln ∧ i = .int .i64 q ∧ Hid (wr.heap[UBK]? = some (.cells (arrI n (addQ (layU n T C k) (layP n T C k) cs q)) 3)) ∧ Hid (∀ b, b < w4.heap.size → b ≠ UBK → wr.heap[b]? = w4.heap[b]?) ∧ w4.heap.size ≤ wr.heap.size ∧ Below w.heap.size w wr) (fun i _ => ln - (intOf i).toNat)
      case atStart => exact ⟨0, by omega, rfl, by rw [addQ_0]; exact HU4.out, fun b _ _ => rfl, Nat.le_refl _, hB4⟩
      case round =>
        obtain ⟨w5, rfl⟩ : ∃ x : World, x = wr := ⟨_, rfl⟩
        obtain ⟨q, hq, rfl, HU5, HK5, hz5, hB5⟩ := hrel
        have zU5 := block_lt HU5.out
        by_cases hqn : q < ln
        · obtain ⟨bp, fp, rfl, hblp, hclp⟩ := HPL.out q hqn
          have hbpn : w3.heap.size ≤ bp := HPN.out bp rfl
          have hbpU : bp ≠ UBK := by omega
          have cq : w5.cell? ⟨bp, fp + q, none⟩ = some (.int .i64 (pathF (layP n T C k) q)) := (cell_keep (HK5.out bp hblp hbpU) _).trans (hclp q hqn)
          have hin : (layP n T C k).getD q 0 < n := by
            have h1 : q < (layP n T C k).length := by rw [HLN.out]; exact hqn
            rw [List.getD_eq_getElem?_getD, List.getElem?_eq_getElem h1]
            exact routeP_lt HRK.out _ (List.getElem_mem h1)
          have hst := addQ_step (F := layU n T C k) (P := layP n T C k) (sz := cs) (q := q) (by rw [HLN.out]; exact hqn)
          have hbd := addQ_bd (q := q) (i := (layP n T C k).getD q 0) (P := layP n T C k) (F := layU n T C k) (inB_true ((routeErr_ok HRK.out).2.2.1 _ hin)) (sz := cs) ⟨by omega, by omega⟩ (routeP_len HRK.out)
          obtain ⟨i, hi⟩ : ∃ i, (layP n T C k).getD q 0 = i := ⟨_, rfl⟩
          have hpf : pathF (layP n T C k) q = (i : Int) := by unfold pathF; rw [hi]
          rw [hpf] at cq
          rw [hi] at hin hst hbd
          obtain ⟨y, hy⟩ : ∃ y, addQ (layU n T C k) (layP n T C k) cs q i = y := ⟨_, rfl⟩
          rw [hy] at hst hbd
          have cu : w5.cell? ⟨UBK, i, none⟩ = some (.int .i64 y) := by rw [← hy]; exact arr_cell HU5.out hin
          have cuf := arr_frozen HU5.out
          have hbp5 : bp < w5.heap.size := by omega
          have k0 : (0 : Int) ≤ (q : Int) := by omega
          have k1 : (q : Int) < (ln : Int) := by omega
          have k2 : (0 : Int) ≤ (i : Int) := by omega
          have k3 : (i : Int) < (n : Int) := by omega
          have wsum : IntKind.i64.wrap (y + cs) = y + cs := IntWalk.i64_in _ (by omega)
          have HST := Lib.hid hst
          have cs5 : w5.cell? ⟨w3.heap.size, 3, none⟩ = some (.int .i64 cs) := (cell_keep (HK5.out w3.heap.size (by omega) (by omega)) _).trans cs4
          have zc5 : w3.heap.size < w5.heap.size := by omega
          have hpc := past_cell
          clear hclp hi hpf hst hy
          go_wp2_with fail
          refine wp_region_past_tail 8 (by kernel_rfl) (by kernel_rfl) ?_
          simp only [List.take_succ_cons, List.take_zero, List.drop_succ_cons, List.drop_zero]
          iterate 8 go_big_quiet_step (fail)
          refine wpQuiet_nil ?_
          intro w6 hw'
          have hb1 := past_out hw'
          clear hw'
          have cu6 : w6.cell? ⟨UBK, i, none⟩ = some (.int .i64 y) := (hb1.cell (p := ⟨UBK, i, none⟩) zU5).trans cu
          have cf6 : w6.frozen? ⟨UBK, i, none⟩ = false := (hb1.frozen (p := ⟨UBK, i, none⟩) zU5).trans (cuf i)
          have HU6 : Hid (w6.heap[UBK]? = some (.cells (arrI n (addQ (layU n T C k) (layP n T C k) cs q)) 3)) := (hb1.block _ zU5).trans HU5.out
          have hs6 := hb1.size
          have hB6 : Below w.heap.size w w6 := below_step hB5 hb1
          have HU7 : Hid ((w6.setCell ⟨UBK, i, none⟩ (.int .i64 (y + cs))).heap[UBK]? = some (.cells (arrI n (addQ (layU n T C k) (layP n T C k) cs (q + 1))) 3)) := by
            show _ = _
            rw [setArr HU6.out, HST.out]
          have HK7 : Hid (∀ b, b < w4.heap.size → b ≠ UBK → (w6.setCell ⟨UBK, i, none⟩ (.int .i64 (y + cs))).heap[b]? = w4.heap[b]?) := fun b hb hne => (heap_setCell_other _ _ _ _ hne).trans ((hb1.block b (by omega)).trans (HK5.out b hb hne))
          have z7 : w4.heap.size ≤ w6.heap.size := by omega
          clear hb1 cu cuf cq cs5 hpc hs6
          go_wp2
          go_roundw
          case rel => exact ⟨q + 1, by omega, by go_num, HU7, HK7, by simp <;> omega, by go_grown⟩
          case measure => simp [intOf]; omega
        · have hqe : q = ln := by omega
          have HU6 : Hid (w5.heap[UBK]? = some (.cells (arrI n (layU n T C (k + 1))) 3)) := by
            have h := HU5.out
            rw [hqe, ← HLN.out] at h
            rw [layU_succ, HCS.out]
            exact h
          have HO5 : Hid (w5.ownsRow (UBK + 1) 32 1 lv k (listOf pv k)) := owns_kept HO.out (by omega) (fun g hg => by
            have h1 := (HO.out.lt g hg)
            exact (HK5.out g (by omega) (by omega)).trans (HB34.out.block g h1.2))
          have HS5 : Hid (PathsSo w5 (UBK + 1) lv k pv (layP n T C)) := HSO.out.kept (by omega) (fun g hg hlt _ => (HK5.out g (by omega) (by omega)).trans (HB34.out.block g hlt))
          have HPA5 : Hid (PathAt w5 (.slice oP ln cP) (layP n T C k)) := HPA.out.kept hz5 (fun g hg => HK5.out g (HPA.out.own_lt (routeP_ne HRK.out) hg) (by have := HPN.out g hg; omega))
          have hq2 : Hid (∀ q, q < k + 1 → layR n T C q = 0) := fun q hq' => by
            by_cases e : q = k
            · subst e; exact HRK.out
            · exact hqs.out q (by omega)
          clear HU5 HK5 hqe
          go_wp2_with (at_builtin; refine wpList_append2 rfl _ _ 39 rfl (UBK + 1) 32 j0 _ 1 24 huj hj0 hzj0 hsj0 hbj0 rfl (by decide) _ k (listOf pv k) rfl (owns_below HO5.out ?d1) (some ⟨w5.heap.size, 0, none⟩) 1 1 [.slice oP ln cP] rfl rfl (fun h => by cases h) ?d2 (fun u hu => by obtain rfl := List.mem_singleton.1 hu; rfl) (by unfold maxLen; omega) (by omega) ?d6 ?_)
          case d1 => go_grown
          case d2 =>
            intro ad had qq u hqq
            cases had
            exact built_cells (heapA_at _ _ _ rfl) qq u hqq
          case d6 => simp <;> omega
          intro lv2 w8 hown hgrow hnew
          obtain ⟨pv2, hpv2⟩ : ∃ f, (fun q => if q = k then .slice oP ln cP else pv q) = f := ⟨_, rfl⟩
          have hpk : pv2 k = .slice oP ln cP := by rw [← hpv2]; exact if_pos rfl
          have hpo : ∀ q, q < k → pv2 q = pv q := fun q hq' => by rw [← hpv2]; exact if_neg (by omega)
          have HO8 : Hid (w8.ownsRow (UBK + 1) 32 1 lv2 (k + 1) (listOf pv2 (k + 1))) := by
            show World.ownsRow _ _ _ _ _ _ _
            rw [← listOf_snoc, listOf_congr hpo, hpk]
            exact hown
          have hg8 := hgrow.size
          simp only [World.size_alloc] at hg8
          have hB8 : Below w.heap.size w w8 := Below.grown (by go_grown) hgrow (by simp <;> omega) (fun g hg => by have := (HO.out.lt g hg).1; omega)
          have HU8 : Hid (w8.heap[UBK]? = some (.cells (arrI n (layU n T C (k + 1))) 3)) := (hgrow.block _ (by simp <;> omega) (owns_low HO.out (by omega))).trans ((heapA_old _ _ _ zU5).trans HU6.out)
          have HS8 : Hid (PathsSo w8 (UBK + 1) lv2 (k + 1) pv2 (layP n T C)) := fun q hq' => by
            by_cases e : q = k
            · subst e
              rw [hpk]
              refine ⟨HPA5.out.kept (by omega) (fun g hg => ?_), routeP_ne HRK.out, HPN.out.mono (by omega), fun g hg e2 => ?_⟩
              · have h1 := HPA5.out.own_lt (routeP_ne HRK.out) hg
                have h2 := HPN.out g hg
                exact (hgrow.block g (by simp <;> omega) (fun e3 => by have := (HO.out.lt g e3.symm).2; omega)).trans (heapA_old _ _ _ h1)
              · have h1 := HPA5.out.own_lt (routeP_ne HRK.out) e2
                have h2 := HPN.out g e2
                rcases hnew g hg with h | h
                · (try simp only [World.size_alloc] at h); omega
                · have := (HO.out.lt g h).2; omega
            · rw [hpo q (by omega)]
              obtain ⟨a1, a0, a2, a3⟩ := HS5.out q (by omega)
              have hl : ∀ g, (pv q).ownBlock = some g → g < w5.heap.size := fun g hg => a1.own_lt a0 hg
              refine ⟨a1.kept (by omega) (fun g hg => ?_), a0, a2, fun g hg e2 => ?_⟩
              · exact (hgrow.block g (by have := hl g hg; simp <;> omega) (fun e3 => a3 g e3.symm hg)).trans (heapA_old _ _ _ (hl g hg))
              · rcases hnew g hg with h | h
                · have := hl g e2
                  (try simp only [World.size_alloc] at h)
                  omega
                · exact a3 g h e2
          have HB8 := Lib.hid hB8
          clear hown hgrow hnew hpv2 hpk hpo hB8 hg8
          go_wp2
          go_roundw
          case rel => exact ⟨_, k + 1, pv2, rfl, by omega, by go_num, HU8, HO8, HS8, hq2, HB8.out⟩
          case measure => simp [intOf]; omega
    · have hkm2 : k = m := by omega
      have hr : R = 0 := by rw [← HRB.out, ← hkm2, firstE_all hqs.out]
      have HRX := Lib.hid hr
      have HPX : Hid (PathsAt w3 lv m (layP n T C)) := by
        rw [← hkm2]
        exact ⟨pv, owns_slice HO.out _ (by decide) (fun i j hi hj => by
          obtain rfl : j = 0 := by omega
          have := listOf_at pv k i hi
          simpa using this), fun q hq => (HSO.out q hq).1⟩
      clear hr hkm2
      go_wp2
      go_returns
      rw [HRX.out]
      exact ⟨_, rfl, HPX.out, hB⟩
end Go.Proofs.YtpkgadjglidnaaaDoor
