/-
  What the reference's Loads returns. Conditions: none. By an AI agent.
-/
import Derived.Test.YtbfbifogamlepaaDoorLiftC
namespace Go.Proofs.YtbfbifogamlepaaDoor
open Go Go.ChangeShapes Go.WideShapes Go.RowKit Go.ChangeAt
set_option linter.unusedSimpArgs false
set_option linter.unusedVariables false
theorem seg_far {px py qx qy tx ty : Int} (hp : -524288 ≤ px ∧ px ≤ 524288 ∧ -524288 ≤ py ∧ py ≤ 524288) (hq : -524288 ≤ qx ∧ qx ≤ 524288 ∧ -524288 ≤ qy ∧ qy ≤ 524288) (hne : (px, py) ≠ (qx, qy)) (hd : ab (py - qy) ≤ ab (px - qx)) (hf : ¬ (Nr 2097152 tx ∧ Nr 2097152 ty)) : SegBad px py qx qy tx ty := by
  obtain ⟨p0, p1, p2, p3⟩ := hp
  obtain ⟨q0, q1, q2, q3⟩ := hq
  by_cases g0 : tx < mn px qx
  · exact .inl g0
  by_cases g1 : mx px qx < tx
  · exact .inr (.inl g1)
  by_cases g2 : 4194304 < ab ty
  · exact .inr (.inr (.inl g2))
  refine .inr (.inr (.inr ?_))
  obtain ⟨x0, x1⟩ := mn_mx_in (by omega : mn px qx ≤ tx) (by omega : tx ≤ mx px qx) ⟨p0, p1⟩ ⟨q0, q1⟩
  have hy : ty < -2097152 ∨ 2097152 < ty := by
    unfold Nr at hf
    omega
  have hd0 : qx - px ≠ 0 := by
    intro h
    have h1 : ab (px - qx) = 0 := by rw [show px - qx = 0 by omega]; rfl
    rw [h1] at hd
    have h2 := ab_zero hd
    exact hne (by rw [show px = qx by omega, show py = qy by omega])
  obtain ⟨D, hD⟩ : ∃ D, ab (qx - px) = D := ⟨_, rfl⟩
  have hD2 : ab (px - qx) = D := by rw [ab_sub]; exact hD
  rw [hD2] at hd
  have hyD : -D ≤ qy - py ∧ qy - py ≤ D := by unfold ab mx at hd; split at hd <;> omega
  obtain ⟨m0, m1⟩ := mul_in (x := qy - py) (y := tx - px) (B := D) (C := 1048576) hyD ⟨by omega, by omega⟩
  have key : ∀ d e : Int, (0 < d → 1572864 < e → d * 1572865 ≤ d * e) := fun d e h1 h2 => Int.mul_le_mul_of_nonneg_left (by omega) (by omega)
  rw [hD]
  generalize hU : (qy - py) * (tx - px) = U at *
  rcases Int.lt_or_gt_of_ne hd0 with h | h
  · have hDv : D = -(qx - px) := by rw [← hD]; unfold ab mx; split <;> omega
    rcases hy with h2 | h2
    · have := key (-(qx - px)) (-(ty - py)) (by omega) (by omega)
      rw [Int.neg_mul_neg] at this
      generalize (qx - px) * (ty - py) = V at *
      unfold ab mx; split <;> omega
    · have := key (-(qx - px)) (ty - py) (by omega) (by omega)
      rw [Int.neg_mul] at this
      rw [Int.neg_mul] at this
      generalize (qx - px) * (ty - py) = V at *
      unfold ab mx; split <;> omega
  · have hDv : D = qx - px := by rw [← hD]; unfold ab mx; split <;> omega
    rcases hy with h2 | h2
    · have := key (qx - px) (-(ty - py)) (by omega) (by omega)
      rw [Int.mul_neg] at this
      generalize (qx - px) * (ty - py) = V at *
      unfold ab mx; split <;> omega
    · have := key (qx - px) (ty - py) (by omega) (by omega)
      generalize (qx - px) * (ty - py) = V at *
      unfold ab mx; split <;> omega
theorem shared_far {g ax ay bx by' cx cy : Int} (ha : -524288 ≤ ax ∧ ax ≤ 524288 ∧ -524288 ≤ ay ∧ ay ≤ 524288) (hb : -524288 ≤ bx ∧ bx ≤ 524288 ∧ -524288 ≤ by' ∧ by' ≤ 524288) (hne : (ax, ay) ≠ (bx, by')) (hf : ¬ (Nr 2097152 cx ∧ Nr 2097152 cy)) : sharedF g ax ay bx by' cx cy = ([], 18) := by
  unfold sharedF
  rw [if_neg hne]
  split
  · rename_i h
    exact if_pos (seg_far ⟨ha.2.2.1, ha.2.2.2, ha.1, ha.2.1⟩ ⟨hb.2.2.1, hb.2.2.2, hb.1, hb.2.1⟩ (fun e => hne (by simp at e ⊢; exact ⟨e.2, e.1⟩)) (by omega) (fun h => hf ⟨h.2, h.1⟩))
  · rename_i h
    exact if_pos (seg_far ha hb hne (by omega) hf)
set_option maxRecDepth 20000 in
set_option maxHeartbeats 8000000 in
theorem rloads_any (blk : ByteArray) (hv : Value) (n : Nat) (cr : Nat → ByteArray) (hx hy hr : Nat → Int) (m x y z v : Int) (w : World) (h : HooksAt w hv n cr hx hy hr) :
    Calls Tryd.prog 18 #[.agg #[.string blk, hv], .agg #[.int .i64 m, .int .i64 x, .int .i64 y, .int .i64 z, .int .i64 v]] w fun e w' => ∃ v', e = .returned (.tuple #[v', .int .i64 (loadsF n hx hy m x y z v).2]) ∧ OutI w' v' (loadsF n hx hy m x y z v).1 ∧ NewFrom w.heap.size v' ∧ Below w.heap.size w w' := by
  obtain ⟨oa, cap, rfl, hn, hel⟩ := h.form
  have HEL := Lib.hid hel
  have HHK := Lib.hid h
  clear h hel
  by_cases hc : countF n ≠ 0
  · have E1 : Hid (loadsF n hx hy m x y z v = ([], countF n)) := by
      show _ = _
      unfold loadsF countF
      unfold countF at hc
      split
      · rfl
      · split
        · rfl
        · rename_i h1 h2; rw [if_neg h1, if_neg h2] at hc; exact absurd rfl hc
    have c0 : (countF n != 0) = true := by simpa using hc
    clear hc
    go_enter Tryd.func18, Tryd.ntmps18
    go_wp2_with fail
    (go_at_call 16; refine (count_any _ _ _ _ _ hn).mono ?_; rintro e w0 ⟨rfl, hb⟩)
    have HB0 : Hid (Below w.heap.size w w0) := by
      show Below _ _ _
      exact below_step (w := w) (by go_grown) hb
    clear hb
    go_wp2
    go_returns
    rw [E1.out]
    exact ⟨_, rfl, outI_nil _, newFrom_nil _, HB0.out⟩
  have hc0 : countF n = 0 := by omega
  have n0 : n = 1 ∨ n = 2 := by
    unfold countF at hc0
    split at hc0
    · cases hc0
    · split at hc0
      · cases hc0
      · omega
  have HC0 := Lib.hid hc0
  obtain ⟨G, GE, hG⟩ : ∃ G GE, grossF m x y z v = (G, GE) := ⟨_, _, rfl⟩
  have E0 : Hid (loadsF n hx hy m x y z v = if GE ≠ 0 then ([], GE) else if allTo (hookIn hx hy) n = false then ([], 9) else if n = 1 then (if Nr 100 (roundF x m - hx 0) ∧ Nr 100 (roundF y m - hy 0) then ([G], 0) else ([], 18)) else sharedF G (hx 0) (hy 0) (hx 1) (hy 1) (roundF x m) (roundF y m)) := by
    show _ = _
    unfold loadsF
    rw [if_neg (by omega), if_neg (by omega), hG]
  have HG := Lib.hid hG
  have n1 : 1 ≤ n := by omega
  have n2 : n ≤ 2 := by omega
  clear n0 hG hc hc0
  go_enter Tryd.func18, Tryd.ntmps18
  go_wp2_with fail
  (go_at_call 16; refine (count_any _ _ _ _ _ hn).mono ?_; rintro e w0 ⟨rfl, hb⟩)
  rw [HC0.out]
  have hsw0 := hb.size
  (try simp only [World.size_alloc, World.size_setCell] at hsw0)
  have zw00 : w.heap.size < w0.heap.size := by omega
  have zw01 : w.heap.size + 1 < w0.heap.size := by omega
  clear hsw0
  have kHw0 : w0.cell? ⟨w.heap.size, 1, none⟩ = some (.slice oa n cap) := (hb.cell (p := ⟨_, _, none⟩) (by simp <;> omega)).trans (by simp [go_sem])
  have kBw0 : w0.cell? ⟨w.heap.size, 0, none⟩ = some (.string blk) := (hb.cell (p := ⟨_, _, none⟩) (by simp <;> omega)).trans (by simp [go_sem])
  have k0w0 : w0.cell? ⟨w.heap.size + 1, 0, none⟩ = some (.int .i64 m) := (hb.cell (p := ⟨_, _, none⟩) (by simp <;> omega)).trans (by simp [go_sem])
  have k1w0 : w0.cell? ⟨w.heap.size + 1, 1, none⟩ = some (.int .i64 x) := (hb.cell (p := ⟨_, _, none⟩) (by simp <;> omega)).trans (by simp [go_sem])
  have k2w0 : w0.cell? ⟨w.heap.size + 1, 2, none⟩ = some (.int .i64 y) := (hb.cell (p := ⟨_, _, none⟩) (by simp <;> omega)).trans (by simp [go_sem])
  have k3w0 : w0.cell? ⟨w.heap.size + 1, 3, none⟩ = some (.int .i64 z) := (hb.cell (p := ⟨_, _, none⟩) (by simp <;> omega)).trans (by simp [go_sem])
  have k4w0 : w0.cell? ⟨w.heap.size + 1, 4, none⟩ = some (.int .i64 v) := (hb.cell (p := ⟨_, _, none⟩) (by simp <;> omega)).trans (by simp [go_sem])
  have HBW0 : Hid (Below w.heap.size w w0) := by
    show Below _ _ _
    exact below_step (w := w) (by go_grown) hb
  clear hb
  go_wp2_with fail
  (go_at_call 32; refine (rgross_any _ _ _ _ _ _).mono ?_; rintro e w1 ⟨rfl, hb⟩)
  rw [HG.out]
  have hsw1 := hb.size
  (try simp only [World.size_alloc, World.size_setCell] at hsw1)
  have zw10 : w.heap.size < w1.heap.size := by omega
  have zw11 : w.heap.size + 1 < w1.heap.size := by omega
  clear hsw1
  have kHw1 : w1.cell? ⟨w.heap.size, 1, none⟩ = some (.slice oa n cap) := (hb.cell (p := ⟨_, _, none⟩) zw00).trans kHw0
  have kBw1 : w1.cell? ⟨w.heap.size, 0, none⟩ = some (.string blk) := (hb.cell (p := ⟨_, _, none⟩) zw00).trans kBw0
  have k0w1 : w1.cell? ⟨w.heap.size + 1, 0, none⟩ = some (.int .i64 m) := (hb.cell (p := ⟨_, _, none⟩) zw01).trans k0w0
  have k1w1 : w1.cell? ⟨w.heap.size + 1, 1, none⟩ = some (.int .i64 x) := (hb.cell (p := ⟨_, _, none⟩) zw01).trans k1w0
  have k2w1 : w1.cell? ⟨w.heap.size + 1, 2, none⟩ = some (.int .i64 y) := (hb.cell (p := ⟨_, _, none⟩) zw01).trans k2w0
  have k3w1 : w1.cell? ⟨w.heap.size + 1, 3, none⟩ = some (.int .i64 z) := (hb.cell (p := ⟨_, _, none⟩) zw01).trans k3w0
  have k4w1 : w1.cell? ⟨w.heap.size + 1, 4, none⟩ = some (.int .i64 v) := (hb.cell (p := ⟨_, _, none⟩) zw01).trans k4w0
  have HBW := Lib.hid (below_step HBW0.out hb)
  clear hb kHw0 kBw0 k0w0 k1w0 k2w0 k3w0 k4w0
  by_cases hge : GE = 0
  · subst hge
    have HOK := Lib.hid (gross_ok (by rw [HG.out] : (grossF m x y z v).2 = 0))
    have E0' : Hid (loadsF n hx hy m x y z v = if allTo (hookIn hx hy) n = false then ([], 9) else if n = 1 then (if Nr 100 (roundF x m - hx 0) ∧ Nr 100 (roundF y m - hy 0) then ([G], 0) else ([], 18)) else sharedF G (hx 0) (hy 0) (hx 1) (hy 1) (roundF x m) (roundF y m)) := E0.out.trans (if_neg (fun h => h rfl))
    clear E0
    go_wp2
    go_loopw [9] (fun i wr => ∃ j : Nat, j ≤ n ∧ i = .int .i64 j ∧ Hid (∀ k, k < j → hookIn hx hy k = true) ∧ Below w1.heap.size w1 wr) (fun i _ => n - (intOf i).toNat)
    case atStart => exact ⟨0, by omega, rfl, fun k hk => by omega, Below.refl _ _⟩
    case round =>
      obtain ⟨j, hj, rfl, hq, hb⟩ := hrel
      have hswr := hb.size
      (try simp only [World.size_alloc, World.size_setCell] at hswr)
      have zwr0 : w.heap.size < wr.heap.size := by omega
      have zwr1 : w.heap.size + 1 < wr.heap.size := by omega
      clear hswr
      have kHwr : wr.cell? ⟨w.heap.size, 1, none⟩ = some (.slice oa n cap) := (hb.cell (p := ⟨_, _, none⟩) zw10).trans kHw1
      have kBwr : wr.cell? ⟨w.heap.size, 0, none⟩ = some (.string blk) := (hb.cell (p := ⟨_, _, none⟩) zw10).trans kBw1
      have k0wr : wr.cell? ⟨w.heap.size + 1, 0, none⟩ = some (.int .i64 m) := (hb.cell (p := ⟨_, _, none⟩) zw11).trans k0w1
      have k1wr : wr.cell? ⟨w.heap.size + 1, 1, none⟩ = some (.int .i64 x) := (hb.cell (p := ⟨_, _, none⟩) zw11).trans k1w1
      have k2wr : wr.cell? ⟨w.heap.size + 1, 2, none⟩ = some (.int .i64 y) := (hb.cell (p := ⟨_, _, none⟩) zw11).trans k2w1
      have k3wr : wr.cell? ⟨w.heap.size + 1, 3, none⟩ = some (.int .i64 z) := (hb.cell (p := ⟨_, _, none⟩) zw11).trans k3w1
      have k4wr : wr.cell? ⟨w.heap.size + 1, 4, none⟩ = some (.int .i64 v) := (hb.cell (p := ⟨_, _, none⟩) zw11).trans k4w1
      have HBr := Lib.hid hb
      by_cases hlt : j < n
      · obtain ⟨b, off, rfl, hbl, hcl⟩ := HEL.out j hlt
        have hb0 : b < w1.heap.size := by omega
        have hcr : ∀ o, wr.cell? ⟨b, o, none⟩ = w.cell? ⟨b, o, none⟩ := fun o => (hb.cell (p := ⟨_, _, none⟩) hb0).trans (HBW.out.cell (p := ⟨_, _, none⟩) hbl)
        have c1 : wr.cell? ⟨b, off + j * 4 + 1, none⟩ = some (.int .i64 (hx j)) := (hcr _).trans (hcl j hlt).2.1
        have c2 : wr.cell? ⟨b, off + j * 4 + 2, none⟩ = some (.int .i64 (hy j)) := (hcr _).trans (hcl j hlt).2.2.1
        have hbr : b < wr.heap.size := by have := hb.size; omega
        clear hcl hb hcr
        go_wp2_with fail
        (go_at_call 33; refine (inside_any (hx j) 524288 _ ⟨by omega, by omega⟩).mono ?_; rintro e w2 ⟨rfl, hb⟩)
        have HB2 := Lib.hid hb
        have kHw2 := (hb.cell (p := ⟨w.heap.size, 1, none⟩) zwr0).trans kHwr
        have d2 := (hb.cell (p := ⟨b, off + j * 4 + 2, none⟩) hbr).trans c2
        clear hb
        by_cases hN : Nr 524288 (hx j)
        · rw [decide_eq_true hN]
          go_wp2_with fail
          (go_at_call 33; refine (inside_any (hy j) 524288 _ ⟨by omega, by omega⟩).mono ?_; rintro e w3 ⟨rfl, hb⟩)
          have HB3 := Lib.hid (below_step HB2.out hb)
          clear hb
          by_cases hM : Nr 524288 (hy j)
          · rw [decide_eq_true hM]
            have hq2 : Hid (∀ k, k < j + 1 → hookIn hx hy k = true) := fun k hk => by
              by_cases e : k = j
              · subst e; exact decide_eq_true ⟨hN, hM⟩
              · exact hq.out k (by omega)
            clear hN hM
            go_wp2
            go_roundw
            case rel => exact ⟨j + 1, by omega, by go_num, hq2, below_step HBr.out HB3.out⟩
            case measure => simp [intOf]; omega
          · rw [decide_eq_false hM]
            have E1 : Hid (loadsF n hx hy m x y z v = ([], 9)) := E0'.out.trans (if_pos (allTo_no hlt (decide_eq_false fun h => hM h.2)))
            clear hN hM
            go_wp2
            go_returns
            rw [E1.out]
            exact ⟨_, rfl, outI_nil _, newFrom_nil _, below_step HBW.out (below_step HBr.out HB3.out)⟩
        · rw [decide_eq_false hN]
          have E1 : Hid (loadsF n hx hy m x y z v = ([], 9)) := E0'.out.trans (if_pos (allTo_no hlt (decide_eq_false fun h => hN h.1)))
          clear hN
          go_wp2
          go_returns
          rw [E1.out]
          exact ⟨_, rfl, outI_nil _, newFrom_nil _, below_step HBW.out (below_step HBr.out HB2.out)⟩
      · have hjn : j = n := by omega
        subst hjn
        have hall : allTo (hookIn hx hy) j = true := allTo_iff.2 hq.out
        have E2 : Hid (loadsF j hx hy m x y z v = if j = 1 then (if Nr 100 (roundF x m - hx 0) ∧ Nr 100 (roundF y m - hy 0) then ([G], 0) else ([], 18)) else sharedF G (hx 0) (hy 0) (hx 1) (hy 1) (roundF x m) (roundF y m)) := E0'.out.trans (if_neg (by rw [hall]; decide))
        have h0in := of_decide_eq_true (hq.out 0 (by omega))
        obtain ⟨⟨p0, p1⟩, p2, p3⟩ := h0in
        obtain ⟨CX, hCX⟩ : ∃ X, roundF x m = X := ⟨_, rfl⟩
        obtain ⟨CY, hCY⟩ : ∃ X, roundF y m = X := ⟨_, rfl⟩
        obtain ⟨CZ, hCZ⟩ : ∃ X, roundF z m = X := ⟨_, rfl⟩
        obtain ⟨q0, q1⟩ := roundF_bd HOK.out.1.2.2.1 HOK.out.2
        obtain ⟨q2, q3⟩ := roundF_bd HOK.out.1.2.2.2.1 HOK.out.2
        rw [hCX] at q0 q1
        rw [hCY] at q2 q3
        rw [hCX, hCY] at E2
        have HRV : Hid (roundedV m x y z v = .tuple #[.agg #[.int .i64 CX, .int .i64 CY, .int .i64 CZ], .int .i64 0]) := by
          show _ = _
          have hd : divF m x y z v = 0 := by unfold divF; rw [if_pos HOK.out.1, if_neg (by have := HOK.out.2; omega)]
          unfold roundedV
          rw [if_pos hd, if_pos hd, if_pos hd, hd, hCX, hCY, hCZ]
        obtain ⟨b, off, rfl, hbl, hcl⟩ := HEL.out 0 (by omega)
        have hb0 : b < w1.heap.size := by omega
        have hcr : ∀ o, wr.cell? ⟨b, o, none⟩ = w.cell? ⟨b, o, none⟩ := fun o => (hb.cell (p := ⟨_, _, none⟩) hb0).trans (HBW.out.cell (p := ⟨_, _, none⟩) hbl)
        have hbr : b < wr.heap.size := by have := hb.size; omega
        have c01 : wr.cell? ⟨b, off + 1, none⟩ = some (.int .i64 (hx 0)) := (hcr _).trans (by have := (hcl 0 (by omega)).2.1; simpa using this)
        have c02 : wr.cell? ⟨b, off + 2, none⟩ = some (.int .i64 (hy 0)) := (hcr _).trans (by have := (hcl 0 (by omega)).2.2.1; simpa using this)
        clear hb hCX hCY hCZ hall E0'
        by_cases e1 : j = 1
        · subst e1
          have E3 : Hid (loadsF 1 hx hy m x y z v = if Nr 100 (CX - hx 0) ∧ Nr 100 (CY - hy 0) then ([G], 0) else ([], 18)) := E2.out.trans (if_pos rfl)
          clear E2 hcr hcl
          go_wp2_with fail
          (go_at_call 34; refine (rrounded_any _ _ _ _ _ _).mono ?_; rintro e w3 ⟨rfl, hb⟩)
          rw [HRV.out]
          have hsw3 := hb.size
          (try simp only [World.size_alloc, World.size_setCell] at hsw3)
          have zw30 : w.heap.size < w3.heap.size := by omega
          have zw31 : w.heap.size + 1 < w3.heap.size := by omega
          clear hsw3
          have kHw3 := (hb.cell (p := ⟨w.heap.size, 1, none⟩) zwr0).trans kHwr
          have hbr3 : b < w3.heap.size := by have := hb.size; omega
          have d01 := (hb.cell (p := ⟨b, off + 1, none⟩) hbr).trans c01
          have d02 := (hb.cell (p := ⟨b, off + 2, none⟩) hbr).trans c02
          have HB3 := Lib.hid hb
          clear hb
          go_wp2_with fail
          (go_at_call 33; refine (inside_any (CX - hx 0) 100 _ ⟨by omega, by omega⟩).mono ?_; rintro e w4 ⟨rfl, hb⟩)
          have hsw4 := hb.size
          (try simp only [World.size_alloc, World.size_setCell] at hsw4)
          have yw40 : w3.heap.size < w4.heap.size := by omega
          have yw41 : w3.heap.size + 1 < w4.heap.size := by omega
          clear hsw4
          have f0w4 : w4.cell? ⟨w3.heap.size, 0, none⟩ = some (.int .i64 CX) := (hb.cell (p := ⟨_, _, none⟩) (by simp <;> omega)).trans (by simp [go_sem])
          have f1w4 : w4.cell? ⟨w3.heap.size, 1, none⟩ = some (.int .i64 CY) := (hb.cell (p := ⟨_, _, none⟩) (by simp <;> omega)).trans (by simp [go_sem])
          have a0w4 : w4.cell? ⟨w3.heap.size + 1, 0, none⟩ = some (.int .i64 (hx 0)) := (hb.cell (p := ⟨_, _, none⟩) (by simp <;> omega)).trans (by simp [go_sem])
          have a1w4 : w4.cell? ⟨w3.heap.size + 1, 1, none⟩ = some (.int .i64 (hy 0)) := (hb.cell (p := ⟨_, _, none⟩) (by simp <;> omega)).trans (by simp [go_sem])
          have HB4 := Lib.hid (below_step (w := w3) (by go_grown) hb)
          clear hb
          by_cases hN : Nr 100 (CX - hx 0)
          · rw [decide_eq_true hN]
            go_wp2_with fail
            (go_at_call 33; refine (inside_any (CY - hy 0) 100 _ ⟨by omega, by omega⟩).mono ?_; rintro e w5 ⟨rfl, hb⟩)
            have HB5 := Lib.hid (below_step HB4.out hb)
            clear hb
            by_cases hM : Nr 100 (CY - hy 0)
            · rw [decide_eq_true hM]
              have E1 : Hid (loadsF 1 hx hy m x y z v = ([G], 0)) := E3.out.trans (if_pos ⟨hN, hM⟩)
              clear hN hM
              go_wp2
              go_returns
              rw [E1.out]
              exact ⟨_, rfl, outI_one _ _ _, newFrom_at (below_step HBW.out (below_step HBr.out (below_step HB3.out HB5.out))).size, (below_step HBW.out (below_step HBr.out (below_step HB3.out HB5.out))).alloc (below_step HBW.out (below_step HBr.out (below_step HB3.out HB5.out))).size _⟩
            · rw [decide_eq_false hM]
              have E1 : Hid (loadsF 1 hx hy m x y z v = ([], 18)) := E3.out.trans (if_neg fun h => hM h.2)
              clear hN hM
              go_wp2
              go_returns
              rw [E1.out]
              exact ⟨_, rfl, outI_nil _, newFrom_nil _, below_step HBW.out (below_step HBr.out (below_step HB3.out HB5.out))⟩
          · rw [decide_eq_false hN]
            have E1 : Hid (loadsF 1 hx hy m x y z v = ([], 18)) := E3.out.trans (if_neg fun h => hN h.1)
            clear hN
            go_wp2
            go_returns
            rw [E1.out]
            exact ⟨_, rfl, outI_nil _, newFrom_nil _, below_step HBW.out (below_step HBr.out (below_step HB3.out HB4.out))⟩
        · have e2 : j = 2 := by omega
          subst e2
          have E4 : Hid (loadsF 2 hx hy m x y z v = sharedF G (hx 0) (hy 0) (hx 1) (hy 1) CX CY) := E2.out.trans (if_neg (by decide))
          obtain ⟨⟨r0, r1⟩, r2, r3⟩ := of_decide_eq_true (hq.out 1 (by omega))
          have c11 : wr.cell? ⟨b, off + 4 + 1, none⟩ = some (.int .i64 (hx 1)) := (hcr _).trans (by have := (hcl 1 (by omega)).2.1; simpa using this)
          have c12 : wr.cell? ⟨b, off + 4 + 2, none⟩ = some (.int .i64 (hy 1)) := (hcr _).trans (by have := (hcl 1 (by omega)).2.2.1; simpa using this)
          clear E2 hcr hcl e1
          obtain ⟨ax, hax⟩ : ∃ X, hx 0 = X := ⟨_, rfl⟩
          obtain ⟨ay, hay⟩ : ∃ X, hy 0 = X := ⟨_, rfl⟩
          obtain ⟨bx, hbx⟩ : ∃ X, hx 1 = X := ⟨_, rfl⟩
          obtain ⟨by', hby⟩ : ∃ X, hy 1 = X := ⟨_, rfl⟩
          rw [hax] at p0 p1 c01 E4
          rw [hay] at p2 p3 c02 E4
          rw [hbx] at r0 r1 c11 E4
          rw [hby] at r2 r3 c12 E4
          clear hax hay hbx hby
          by_cases he : (ax, ay) = (bx, by')
          · have E1 : Hid (loadsF 2 hx hy m x y z v = ([], 17)) := E4.out.trans (if_pos he)
            have heq := fun W => eql_point ax ay bx by' W
            rw [decide_eq_true he] at heq
            go_wp2_with fail
            (go_at_call 34; refine (rrounded_any _ _ _ _ _ _).mono ?_; rintro e w3 ⟨rfl, hb⟩)
            rw [HRV.out]
            have hsw3 := hb.size
            (try simp only [World.size_alloc, World.size_setCell] at hsw3)
            have zw30 : w.heap.size < w3.heap.size := by omega
            have zw31 : w.heap.size + 1 < w3.heap.size := by omega
            clear hsw3
            have kHw3 := (hb.cell (p := ⟨w.heap.size, 1, none⟩) zwr0).trans kHwr
            have hbr3 : b < w3.heap.size := by have := hb.size; omega
            have d01 := (hb.cell (p := ⟨b, off + 1, none⟩) hbr).trans c01
            have d02 := (hb.cell (p := ⟨b, off + 2, none⟩) hbr).trans c02
            have d11 := (hb.cell (p := ⟨b, off + 4 + 1, none⟩) hbr).trans c11
            have d12 := (hb.cell (p := ⟨b, off + 4 + 2, none⟩) hbr).trans c12
            have HB3 := Lib.hid hb
            have kC3 : b ≠ w3.heap.size := by omega
            have kC4 : b ≠ w3.heap.size + 1 := by omega
            have kC5 : w.heap.size ≠ w3.heap.size := by omega
            have kC6 : w.heap.size ≠ w3.heap.size + 1 := by omega
            have hBW3 : Below w.heap.size w w3 := below_step HBW.out (below_step HBr.out HB3.out)
            have HBW3 := Lib.hid hBW3
            clear hb hBW3
            go_wp2
            go_returns
            rw [E1.out]
            exact ⟨_, rfl, outI_nil _, newFrom_nil _, (((HBW3.out.alloc HBW3.out.size _).alloc (HBW3.out.alloc HBW3.out.size _).size _).alloc ((HBW3.out.alloc HBW3.out.size _).alloc (HBW3.out.alloc HBW3.out.size _).size _).size _)⟩
          · have heq := fun W => eql_point ax ay bx by' W
            rw [decide_eq_false he] at heq
            have HNE := Lib.hid he
            clear he
            go_wp2_with fail
            (go_at_call 34; refine (rrounded_any _ _ _ _ _ _).mono ?_; rintro e w3 ⟨rfl, hb⟩)
            rw [HRV.out]
            have hsw3 := hb.size
            (try simp only [World.size_alloc, World.size_setCell] at hsw3)
            have zw30 : w.heap.size < w3.heap.size := by omega
            have zw31 : w.heap.size + 1 < w3.heap.size := by omega
            clear hsw3
            have kHw3 := (hb.cell (p := ⟨w.heap.size, 1, none⟩) zwr0).trans kHwr
            have hbr3 : b < w3.heap.size := by have := hb.size; omega
            have d01 := (hb.cell (p := ⟨b, off + 1, none⟩) hbr).trans c01
            have d02 := (hb.cell (p := ⟨b, off + 2, none⟩) hbr).trans c02
            have d11 := (hb.cell (p := ⟨b, off + 4 + 1, none⟩) hbr).trans c11
            have d12 := (hb.cell (p := ⟨b, off + 4 + 2, none⟩) hbr).trans c12
            have HB3 := Lib.hid hb
            have kC3 : b ≠ w3.heap.size := by omega
            have kC4 : b ≠ w3.heap.size + 1 := by omega
            have kC5 : w.heap.size ≠ w3.heap.size := by omega
            have kC6 : w.heap.size ≠ w3.heap.size + 1 := by omega
            have hBW3 : Below w.heap.size w w3 := below_step HBW.out (below_step HBr.out HB3.out)
            have HBW3 := Lib.hid hBW3
            clear hb hBW3
            go_wp2_with fail
            (go_at_call 33; refine (inside_any (CX) 2097152 _ ⟨by omega, by omega⟩).mono ?_; rintro e w4 ⟨rfl, hb⟩)
            have hsw4 := hb.size
            (try simp only [World.size_alloc, World.size_setCell] at hsw4)
            have yw40 : w3.heap.size < w4.heap.size := by omega
            have yw41 : w3.heap.size + 1 < w4.heap.size := by omega
            have yw42 : w3.heap.size + 1 + 1 < w4.heap.size := by omega
            clear hsw4
            have f0w4 : w4.cell? ⟨w3.heap.size, 0, none⟩ = some (.int .i64 CX) := (hb.cell (p := ⟨_, _, none⟩) (by simp <;> omega)).trans (by simp [go_sem])
            have f1w4 : w4.cell? ⟨w3.heap.size, 1, none⟩ = some (.int .i64 CY) := (hb.cell (p := ⟨_, _, none⟩) (by simp <;> omega)).trans (by simp [go_sem])
            have a0w4 : w4.cell? ⟨w3.heap.size + 1, 0, none⟩ = some (.int .i64 ax) := (hb.cell (p := ⟨_, _, none⟩) (by simp <;> omega)).trans (by simp [go_sem])
            have a1w4 : w4.cell? ⟨w3.heap.size + 1, 1, none⟩ = some (.int .i64 ay) := (hb.cell (p := ⟨_, _, none⟩) (by simp <;> omega)).trans (by simp [go_sem])
            have b0w4 : w4.cell? ⟨w3.heap.size + 1 + 1, 0, none⟩ = some (.int .i64 bx) := (hb.cell (p := ⟨_, _, none⟩) (by simp <;> omega)).trans (by simp [go_sem])
            have b1w4 : w4.cell? ⟨w3.heap.size + 1 + 1, 1, none⟩ = some (.int .i64 by') := (hb.cell (p := ⟨_, _, none⟩) (by simp <;> omega)).trans (by simp [go_sem])
            have HB4 : Hid (Below w.heap.size w w4) := by
              show Below _ _ _
              exact below_step (w := w) (by first | exact ((HBW3.out.alloc HBW3.out.size _).alloc (HBW3.out.alloc HBW3.out.size _).size _).alloc ((HBW3.out.alloc HBW3.out.size _).alloc (HBW3.out.alloc HBW3.out.size _).size _).size _) hb
            clear hb heq
            by_cases hN : Nr 2097152 CX
            · rw [decide_eq_true hN]
              go_wp2_with fail
              (go_at_call 33; refine (inside_any (CY) 2097152 _ ⟨by omega, by omega⟩).mono ?_; rintro e w5 ⟨rfl, hb⟩)
              have hsw5 := hb.size
              (try simp only [World.size_alloc, World.size_setCell] at hsw5)
              have yw50 : w3.heap.size < w5.heap.size := by omega
              have yw51 : w3.heap.size + 1 < w5.heap.size := by omega
              have yw52 : w3.heap.size + 1 + 1 < w5.heap.size := by omega
              clear hsw5
              have f0w5 : w5.cell? ⟨w3.heap.size, 0, none⟩ = some (.int .i64 CX) := (hb.cell (p := ⟨_, _, none⟩) yw40).trans f0w4
              have f1w5 : w5.cell? ⟨w3.heap.size, 1, none⟩ = some (.int .i64 CY) := (hb.cell (p := ⟨_, _, none⟩) yw40).trans f1w4
              have a0w5 : w5.cell? ⟨w3.heap.size + 1, 0, none⟩ = some (.int .i64 ax) := (hb.cell (p := ⟨_, _, none⟩) yw41).trans a0w4
              have a1w5 : w5.cell? ⟨w3.heap.size + 1, 1, none⟩ = some (.int .i64 ay) := (hb.cell (p := ⟨_, _, none⟩) yw41).trans a1w4
              have b0w5 : w5.cell? ⟨w3.heap.size + 1 + 1, 0, none⟩ = some (.int .i64 bx) := (hb.cell (p := ⟨_, _, none⟩) yw42).trans b0w4
              have b1w5 : w5.cell? ⟨w3.heap.size + 1 + 1, 1, none⟩ = some (.int .i64 by') := (hb.cell (p := ⟨_, _, none⟩) yw42).trans b1w4
              have HB5 := Lib.hid (below_step HB4.out hb)
              clear hb f0w4 f1w4 a0w4 a1w4 b0w4 b1w4
              by_cases hM : Nr 2097152 CY
              · rw [decide_eq_true hM]
                obtain ⟨n0, n1'⟩ := hN
                obtain ⟨n2', n3⟩ := hM
                have hpc := past_cell
                have hmx := run_mx
                have hmn := run_mn
                obtain ⟨P, hP⟩ : ∃ P, ab (ax - bx) = P := ⟨_, rfl⟩
                obtain ⟨Q, hQ⟩ : ∃ Q, ab (ay - by') = Q := ⟨_, rfl⟩
                have HP := Lib.hid hP
                have HQ := Lib.hid hQ
                clear hP hQ
                go_wp2_with fail
                refine wp_region_past (by kernel_rfl) (by kernel_rfl) ?_
                iterate 9 go_big_quiet_step (fail)
                refine wpQuiet_nil ?_
                intro w6 hw'
                have hb1 := past_out hw'
                clear hw'
                have hsw6 := hb1.size
                (try simp only [World.size_alloc, World.size_setCell] at hsw6)
                have yw60 : w3.heap.size < w6.heap.size := by omega
                have yw61 : w3.heap.size + 1 < w6.heap.size := by omega
                have yw62 : w3.heap.size + 1 + 1 < w6.heap.size := by omega
                clear hsw6
                have f0w6 : w6.cell? ⟨w3.heap.size, 0, none⟩ = some (.int .i64 CX) := (hb1.cell (p := ⟨_, _, none⟩) yw50).trans f0w5
                have f1w6 : w6.cell? ⟨w3.heap.size, 1, none⟩ = some (.int .i64 CY) := (hb1.cell (p := ⟨_, _, none⟩) yw50).trans f1w5
                have a0w6 : w6.cell? ⟨w3.heap.size + 1, 0, none⟩ = some (.int .i64 ax) := (hb1.cell (p := ⟨_, _, none⟩) yw51).trans a0w5
                have a1w6 : w6.cell? ⟨w3.heap.size + 1, 1, none⟩ = some (.int .i64 ay) := (hb1.cell (p := ⟨_, _, none⟩) yw51).trans a1w5
                have b0w6 : w6.cell? ⟨w3.heap.size + 1 + 1, 0, none⟩ = some (.int .i64 bx) := (hb1.cell (p := ⟨_, _, none⟩) yw52).trans b0w5
                have b1w6 : w6.cell? ⟨w3.heap.size + 1 + 1, 1, none⟩ = some (.int .i64 by') := (hb1.cell (p := ⟨_, _, none⟩) yw52).trans b1w5
                have HB6 := Lib.hid (below_step HB5.out hb1)
                clear hb1 f0w5 f1w5 a0w5 a1w5 b0w5 b1w5
                go_wp2_with fail
                refine wp_region_past (by kernel_rfl) (by kernel_rfl) ?_
                iterate 9 go_big_quiet_step (fail)
                refine wpQuiet_nil ?_
                intro w7 hw'
                have hb1 := past_out hw'
                clear hw'
                have hsw7 := hb1.size
                (try simp only [World.size_alloc, World.size_setCell] at hsw7)
                have yw70 : w3.heap.size < w7.heap.size := by omega
                have yw71 : w3.heap.size + 1 < w7.heap.size := by omega
                have yw72 : w3.heap.size + 1 + 1 < w7.heap.size := by omega
                clear hsw7
                have f0w7 : w7.cell? ⟨w3.heap.size, 0, none⟩ = some (.int .i64 CX) := (hb1.cell (p := ⟨_, _, none⟩) yw60).trans f0w6
                have f1w7 : w7.cell? ⟨w3.heap.size, 1, none⟩ = some (.int .i64 CY) := (hb1.cell (p := ⟨_, _, none⟩) yw60).trans f1w6
                have a0w7 : w7.cell? ⟨w3.heap.size + 1, 0, none⟩ = some (.int .i64 ax) := (hb1.cell (p := ⟨_, _, none⟩) yw61).trans a0w6
                have a1w7 : w7.cell? ⟨w3.heap.size + 1, 1, none⟩ = some (.int .i64 ay) := (hb1.cell (p := ⟨_, _, none⟩) yw61).trans a1w6
                have b0w7 : w7.cell? ⟨w3.heap.size + 1 + 1, 0, none⟩ = some (.int .i64 bx) := (hb1.cell (p := ⟨_, _, none⟩) yw62).trans b0w6
                have b1w7 : w7.cell? ⟨w3.heap.size + 1 + 1, 1, none⟩ = some (.int .i64 by') := (hb1.cell (p := ⟨_, _, none⟩) yw62).trans b1w6
                have HB7 := Lib.hid (below_step HB6.out hb1)
                clear hb1 f0w6 f1w6 a0w6 a1w6 b0w6 b1w6
                go_wp2_with fail
                refine wp_region_past (by kernel_rfl) (by kernel_rfl) ?_
                iterate 5 go_big_quiet_step (fail)
                go_big_quiet_step ((go_at_call 35; exact past_of (rmag_in _ _ _ ⟨by omega, by omega⟩ HQ.out)))
                iterate 5 go_big_quiet_step (fail)
                go_big_quiet_step ((go_at_call 35; exact past_of (rmag_in _ _ _ ⟨by omega, by omega⟩ HP.out)))
                iterate 1 go_big_quiet_step (fail)
                refine wpQuiet_nil ?_
                intro w8 hw'
                have hb1 := past_out hw'
                clear hw'
                have hsw8 := hb1.size
                (try simp only [World.size_alloc, World.size_setCell] at hsw8)
                have yw80 : w3.heap.size < w8.heap.size := by omega
                have yw81 : w3.heap.size + 1 < w8.heap.size := by omega
                have yw82 : w3.heap.size + 1 + 1 < w8.heap.size := by omega
                clear hsw8
                have f0w8 : w8.cell? ⟨w3.heap.size, 0, none⟩ = some (.int .i64 CX) := (hb1.cell (p := ⟨_, _, none⟩) yw70).trans f0w7
                have f1w8 : w8.cell? ⟨w3.heap.size, 1, none⟩ = some (.int .i64 CY) := (hb1.cell (p := ⟨_, _, none⟩) yw70).trans f1w7
                have a0w8 : w8.cell? ⟨w3.heap.size + 1, 0, none⟩ = some (.int .i64 ax) := (hb1.cell (p := ⟨_, _, none⟩) yw71).trans a0w7
                have a1w8 : w8.cell? ⟨w3.heap.size + 1, 1, none⟩ = some (.int .i64 ay) := (hb1.cell (p := ⟨_, _, none⟩) yw71).trans a1w7
                have b0w8 : w8.cell? ⟨w3.heap.size + 1 + 1, 0, none⟩ = some (.int .i64 bx) := (hb1.cell (p := ⟨_, _, none⟩) yw72).trans b0w7
                have b1w8 : w8.cell? ⟨w3.heap.size + 1 + 1, 1, none⟩ = some (.int .i64 by') := (hb1.cell (p := ⟨_, _, none⟩) yw72).trans b1w7
                have HB8 := Lib.hid (below_step HB7.out hb1)
                clear hb1 f0w7 f1w7 a0w7 a1w7 b0w7 b1w7
                by_cases hPQ : P < Q
                · have E6 : Hid (loadsF 2 hx hy m x y z v = segF G ay ax by' bx CY CX) := by
                    show _ = _
                    rw [E4.out]
                    unfold sharedF
                    rw [if_neg HNE.out, HP.out, HQ.out, if_pos hPQ]
                  go_wp2_with fail
                  refine wp_region_past (by kernel_rfl) (by kernel_rfl) ?_
                  iterate 9 go_big_quiet_step (fail)
                  refine wpQuiet_nil ?_
                  intro w9 hw'
                  have hb1 := past_out hw'
                  clear hw'
                  have hsw9 := hb1.size
                  (try simp only [World.size_alloc, World.size_setCell] at hsw9)
                  have yw90 : w3.heap.size < w9.heap.size := by omega
                  have yw91 : w3.heap.size + 1 < w9.heap.size := by omega
                  have yw92 : w3.heap.size + 1 + 1 < w9.heap.size := by omega
                  clear hsw9
                  have f0w9 : w9.cell? ⟨w3.heap.size, 0, none⟩ = some (.int .i64 CX) := (hb1.cell (p := ⟨_, _, none⟩) yw80).trans f0w8
                  have f1w9 : w9.cell? ⟨w3.heap.size, 1, none⟩ = some (.int .i64 CY) := (hb1.cell (p := ⟨_, _, none⟩) yw80).trans f1w8
                  have a0w9 : w9.cell? ⟨w3.heap.size + 1, 0, none⟩ = some (.int .i64 ax) := (hb1.cell (p := ⟨_, _, none⟩) yw81).trans a0w8
                  have a1w9 : w9.cell? ⟨w3.heap.size + 1, 1, none⟩ = some (.int .i64 ay) := (hb1.cell (p := ⟨_, _, none⟩) yw81).trans a1w8
                  have b0w9 : w9.cell? ⟨w3.heap.size + 1 + 1, 0, none⟩ = some (.int .i64 bx) := (hb1.cell (p := ⟨_, _, none⟩) yw82).trans b0w8
                  have b1w9 : w9.cell? ⟨w3.heap.size + 1 + 1, 1, none⟩ = some (.int .i64 by') := (hb1.cell (p := ⟨_, _, none⟩) yw82).trans b1w8
                  have HB9 := Lib.hid (below_step HB8.out hb1)
                  clear hb1 f0w8 f1w8 a0w8 a1w8 b0w8 b1w8
                  go_wp2_with fail
                  refine wp_region_past (by kernel_rfl) (by kernel_rfl) ?_
                  iterate 9 go_big_quiet_step (fail)
                  refine wpQuiet_nil ?_
                  intro w10 hw'
                  have hb1 := past_out hw'
                  clear hw'
                  have hsw10 := hb1.size
                  (try simp only [World.size_alloc, World.size_setCell] at hsw10)
                  have yw100 : w3.heap.size < w10.heap.size := by omega
                  have yw101 : w3.heap.size + 1 < w10.heap.size := by omega
                  have yw102 : w3.heap.size + 1 + 1 < w10.heap.size := by omega
                  clear hsw10
                  have f0w10 : w10.cell? ⟨w3.heap.size, 0, none⟩ = some (.int .i64 CX) := (hb1.cell (p := ⟨_, _, none⟩) yw90).trans f0w9
                  have f1w10 : w10.cell? ⟨w3.heap.size, 1, none⟩ = some (.int .i64 CY) := (hb1.cell (p := ⟨_, _, none⟩) yw90).trans f1w9
                  have a0w10 : w10.cell? ⟨w3.heap.size + 1, 0, none⟩ = some (.int .i64 ax) := (hb1.cell (p := ⟨_, _, none⟩) yw91).trans a0w9
                  have a1w10 : w10.cell? ⟨w3.heap.size + 1, 1, none⟩ = some (.int .i64 ay) := (hb1.cell (p := ⟨_, _, none⟩) yw91).trans a1w9
                  have b0w10 : w10.cell? ⟨w3.heap.size + 1 + 1, 0, none⟩ = some (.int .i64 bx) := (hb1.cell (p := ⟨_, _, none⟩) yw92).trans b0w9
                  have b1w10 : w10.cell? ⟨w3.heap.size + 1 + 1, 1, none⟩ = some (.int .i64 by') := (hb1.cell (p := ⟨_, _, none⟩) yw92).trans b1w9
                  have HB10 := Lib.hid (below_step HB9.out hb1)
                  clear hb1 f0w9 f1w9 a0w9 a1w9 b0w9 b1w9
                  by_cases g0 : CY < mn ay by'
                  · have E1 : Hid (loadsF 2 hx hy m x y z v = ([], 18)) := E6.out.trans (if_pos (.inl g0))
                    go_wp2
                    go_returns
                    rw [E1.out]
                    exact ⟨_, rfl, outI_nil _, newFrom_nil _, HB10.out⟩
                  have g0 : mn ay by' ≤ CY := by omega
                  by_cases g1 : mx ay by' < CY
                  · have E1 : Hid (loadsF 2 hx hy m x y z v = ([], 18)) := E6.out.trans (if_pos (.inr (.inl g1)))
                    go_wp2
                    go_returns
                    rw [E1.out]
                    exact ⟨_, rfl, outI_nil _, newFrom_nil _, HB10.out⟩
                  have g1 : CY ≤ mx ay by' := by omega
                  obtain ⟨x0, x1⟩ := mn_mx_in g0 g1 ⟨by omega, by omega⟩ ⟨by omega, by omega⟩
                  have g2 : ¬ 4194304 < ab CX := by unfold ab mx; split <;> omega
                  have G2 := Lib.hid g2
                  clear g2
                  obtain ⟨m0, m1⟩ := mul_in (x := CX - ax) (y := by' - ay) (B := 4718592) (C := 1048576) ⟨by omega, by omega⟩ ⟨by omega, by omega⟩
                  obtain ⟨m2, m3⟩ := mul_in (x := bx - ax) (y := CY - ay) (B := 1048576) (C := 1048576) ⟨by omega, by omega⟩ ⟨by omega, by omega⟩
                  simp only [Int.reduceMul, Int.reduceNeg] at m0 m1 m2 m3
                  obtain ⟨N, hN⟩ : ∃ N, ab ((CX - ax) * (by' - ay) - (bx - ax) * (CY - ay)) = N := ⟨_, rfl⟩
                  obtain ⟨D, hD⟩ : ∃ D, ab (by' - ay) = D := ⟨_, rfl⟩
                  obtain ⟨dd0, dd1⟩ := ab_in (n := by' - ay) (B := 1048576) ⟨by omega, by omega⟩
                  rw [hD] at dd0 dd1
                  have hN2 : ab ((by' - ay) * (CX - ax) - (bx - ax) * (CY - ay)) = N := by rw [Int.mul_comm (by' - ay)]; exact hN
                  have HN := Lib.hid hN
                  have HN2 := Lib.hid hN2
                  have HD := Lib.hid hD
                  clear hN hD hN2
                  go_wp2_with fail
                  (go_at_call 35; refine (rmag_in _ _ _ ⟨by omega, by omega⟩ HN.out).mono ?_; rintro e wA ⟨rfl, hb⟩)
                  have HBA := Lib.hid (below_step HB10.out hb)
                  clear hb
                  go_wp2_with fail
                  (go_at_call 35; refine (rmag_in _ _ _ ⟨by omega, by omega⟩ HD.out).mono ?_; rintro e wB ⟨rfl, hb⟩)
                  have HBB := Lib.hid (below_step HBA.out hb)
                  clear hb
                  by_cases g3 : 100 * D < N
                  · have E1 : Hid (loadsF 2 hx hy m x y z v = ([], 18)) := E6.out.trans (if_pos (.inr (.inr (.inr (by rw [HN2.out, HD.out]; exact g3)))))
                    go_wp2
                    go_returns
                    rw [E1.out]
                    exact ⟨_, rfl, outI_nil _, newFrom_nil _, HBB.out⟩
                  have g4 : ¬ SegBad ay ax by' bx CY CX := by
                    rintro (h | h | h | h)
                    · omega
                    · omega
                    · have := G2.out; omega
                    · rw [HN2.out, HD.out] at h; exact g3 h
                  have g5 : N ≤ 100 * D := by omega
                  obtain ⟨X, Y, Z, hS⟩ : ∃ X Y Z, shareF G ay 0 by' 0 CY 0 = (X, Y, Z) := ⟨_, _, _, rfl⟩
                  have E1 : Hid (loadsF 2 hx hy m x y z v = if Z = 0 then ([X, Y], 0) else ([], Z)) := by
                    show _ = _
                    rw [E6.out]
                    unfold segF
                    rw [if_neg g4, hS]
                  have HS := Lib.hid hS
                  clear hS g4 g3
                  go_wp2_with fail
                  (go_at_call 36; refine (rshare_any _ _ _ _ _ _ _ _).mono ?_; rintro e wC ⟨rfl, hb⟩)
                  rw [HS.out]
                  have HBC := Lib.hid (below_step HBB.out hb)
                  clear hb
                  by_cases hz : Z = 0
                  · subst hz
                    have E7 : Hid (loadsF 2 hx hy m x y z v = ([X, Y], 0)) := E1.out.trans (if_pos rfl)
                    simp only [shareV]
                    go_wp2
                    go_returns
                    rw [E7.out]
                    exact ⟨_, rfl, outI_two _ _ _ _, newFrom_at HBC.out.size, HBC.out.alloc HBC.out.size _⟩
                  · have E7 : Hid (loadsF 2 hx hy m x y z v = ([], Z)) := E1.out.trans (if_neg hz)
                    have z0 : (Z != 0) = true := by simpa using hz
                    clear hz
                    simp only [shareV]
                    go_wp2
                    go_returns
                    rw [E7.out]
                    exact ⟨_, rfl, outI_nil _, newFrom_nil _, HBC.out⟩
                · have E6 : Hid (loadsF 2 hx hy m x y z v = segF G ax ay bx by' CX CY) := by
                    show _ = _
                    rw [E4.out]
                    unfold sharedF
                    rw [if_neg HNE.out, HP.out, HQ.out, if_neg hPQ]
                  have hPQ2 : Q ≤ P := by omega
                  by_cases g0 : CX < mn ax bx
                  · have E1 : Hid (loadsF 2 hx hy m x y z v = ([], 18)) := E6.out.trans (if_pos (.inl g0))
                    go_wp2
                    go_returns
                    rw [E1.out]
                    exact ⟨_, rfl, outI_nil _, newFrom_nil _, HB8.out⟩
                  have g0 : mn ax bx ≤ CX := by omega
                  by_cases g1 : mx ax bx < CX
                  · have E1 : Hid (loadsF 2 hx hy m x y z v = ([], 18)) := E6.out.trans (if_pos (.inr (.inl g1)))
                    go_wp2
                    go_returns
                    rw [E1.out]
                    exact ⟨_, rfl, outI_nil _, newFrom_nil _, HB8.out⟩
                  have g1 : CX ≤ mx ax bx := by omega
                  obtain ⟨x0, x1⟩ := mn_mx_in g0 g1 ⟨by omega, by omega⟩ ⟨by omega, by omega⟩
                  have g2 : ¬ 4194304 < ab CY := by unfold ab mx; split <;> omega
                  have G2 := Lib.hid g2
                  clear g2
                  obtain ⟨m0, m1⟩ := mul_in (x := CY - ay) (y := bx - ax) (B := 4718592) (C := 1048576) ⟨by omega, by omega⟩ ⟨by omega, by omega⟩
                  obtain ⟨m2, m3⟩ := mul_in (x := by' - ay) (y := CX - ax) (B := 1048576) (C := 1048576) ⟨by omega, by omega⟩ ⟨by omega, by omega⟩
                  simp only [Int.reduceMul, Int.reduceNeg] at m0 m1 m2 m3
                  obtain ⟨N, hN⟩ : ∃ N, ab ((CY - ay) * (bx - ax) - (by' - ay) * (CX - ax)) = N := ⟨_, rfl⟩
                  obtain ⟨D, hD⟩ : ∃ D, ab (bx - ax) = D := ⟨_, rfl⟩
                  obtain ⟨dd0, dd1⟩ := ab_in (n := bx - ax) (B := 1048576) ⟨by omega, by omega⟩
                  rw [hD] at dd0 dd1
                  have hN2 : ab ((bx - ax) * (CY - ay) - (by' - ay) * (CX - ax)) = N := by rw [Int.mul_comm (bx - ax)]; exact hN
                  have HN := Lib.hid hN
                  have HN2 := Lib.hid hN2
                  have HD := Lib.hid hD
                  clear hN hD hN2
                  go_wp2_with fail
                  (go_at_call 35; refine (rmag_in _ _ _ ⟨by omega, by omega⟩ HN.out).mono ?_; rintro e wA ⟨rfl, hb⟩)
                  have HBA := Lib.hid (below_step HB8.out hb)
                  clear hb
                  go_wp2_with fail
                  (go_at_call 35; refine (rmag_in _ _ _ ⟨by omega, by omega⟩ HD.out).mono ?_; rintro e wB ⟨rfl, hb⟩)
                  have HBB := Lib.hid (below_step HBA.out hb)
                  clear hb
                  by_cases g3 : 100 * D < N
                  · have E1 : Hid (loadsF 2 hx hy m x y z v = ([], 18)) := E6.out.trans (if_pos (.inr (.inr (.inr (by rw [HN2.out, HD.out]; exact g3)))))
                    go_wp2
                    go_returns
                    rw [E1.out]
                    exact ⟨_, rfl, outI_nil _, newFrom_nil _, HBB.out⟩
                  have g4 : ¬ SegBad ax ay bx by' CX CY := by
                    rintro (h | h | h | h)
                    · omega
                    · omega
                    · have := G2.out; omega
                    · rw [HN2.out, HD.out] at h; exact g3 h
                  have g5 : N ≤ 100 * D := by omega
                  obtain ⟨X, Y, Z, hS⟩ : ∃ X Y Z, shareF G ax 0 bx 0 CX 0 = (X, Y, Z) := ⟨_, _, _, rfl⟩
                  have E1 : Hid (loadsF 2 hx hy m x y z v = if Z = 0 then ([X, Y], 0) else ([], Z)) := by
                    show _ = _
                    rw [E6.out]
                    unfold segF
                    rw [if_neg g4, hS]
                  have HS := Lib.hid hS
                  clear hS g4 g3
                  go_wp2_with fail
                  (go_at_call 36; refine (rshare_any _ _ _ _ _ _ _ _).mono ?_; rintro e wC ⟨rfl, hb⟩)
                  rw [HS.out]
                  have HBC := Lib.hid (below_step HBB.out hb)
                  clear hb
                  by_cases hz : Z = 0
                  · subst hz
                    have E7 : Hid (loadsF 2 hx hy m x y z v = ([X, Y], 0)) := E1.out.trans (if_pos rfl)
                    simp only [shareV]
                    go_wp2
                    go_returns
                    rw [E7.out]
                    exact ⟨_, rfl, outI_two _ _ _ _, newFrom_at HBC.out.size, HBC.out.alloc HBC.out.size _⟩
                  · have E7 : Hid (loadsF 2 hx hy m x y z v = ([], Z)) := E1.out.trans (if_neg hz)
                    have z0 : (Z != 0) = true := by simpa using hz
                    clear hz
                    simp only [shareV]
                    go_wp2
                    go_returns
                    rw [E7.out]
                    exact ⟨_, rfl, outI_nil _, newFrom_nil _, HBC.out⟩
              · rw [decide_eq_false hM]
                have E1 : Hid (loadsF 2 hx hy m x y z v = ([], 18)) := E4.out.trans (shared_far ⟨p0, p1, p2, p3⟩ ⟨r0, r1, r2, r3⟩ HNE.out fun h => hM h.2)
                clear hN hM
                go_wp2
                go_returns
                rw [E1.out]
                exact ⟨_, rfl, outI_nil _, newFrom_nil _, HB5.out⟩
            · rw [decide_eq_false hN]
              have E1 : Hid (loadsF 2 hx hy m x y z v = ([], 18)) := E4.out.trans (shared_far ⟨p0, p1, p2, p3⟩ ⟨r0, r1, r2, r3⟩ HNE.out fun h => hN h.1)
              clear hN
              go_wp2
              go_returns
              rw [E1.out]
              exact ⟨_, rfl, outI_nil _, newFrom_nil _, HB4.out⟩
  · have E1 : Hid (loadsF n hx hy m x y z v = ([], GE)) := E0.out.trans (if_pos hge)
    have g0 : (GE != 0) = true := by simpa using hge
    clear hge
    go_wp2
    go_returns
    rw [E1.out]
    exact ⟨_, rfl, outI_nil _, newFrom_nil _, HBW.out⟩
end Go.Proofs.YtbfbifogamlepaaDoor
