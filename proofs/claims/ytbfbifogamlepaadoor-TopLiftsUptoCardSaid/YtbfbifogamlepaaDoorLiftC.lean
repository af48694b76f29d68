/-
  What the program's Loads returns. Conditions: none. By an AI agent.
-/
import Derived.Test.YtbfbifogamlepaaDoorLiftB
import Derived.Test.YtbfbifogamlepaaDoorGross
import Derived.Test.YtbfbifogamlepaaDoorRounded2
namespace Go.Proofs.YtbfbifogamlepaaDoor
open Go Go.ChangeShapes Go.WideShapes Go.RowKit Go.ChangeAt
set_option linter.unusedSimpArgs false
set_option linter.unusedVariables false
theorem roundF_bd {a b : Int} (ha : -1152921504606846976 ≤ a ∧ a ≤ 1152921504606846976) (hb : 0 < b) : -2305843009213693952 ≤ roundF a b ∧ roundF a b ≤ 2305843009213693952 := by
  have h1 : -1152921504606846976 ≤ a / b := by
    rw [Int.le_ediv_iff_mul_le hb]
    have : -1152921504606846976 * b ≤ -1152921504606846976 * 1 := Int.mul_le_mul_of_nonpos_left (by omega) (by omega)
    omega
  have h2 : a / b ≤ 1152921504606846976 := by
    have : a / b < 1152921504606846977 := by
      rw [Int.ediv_lt_iff_lt_mul hb]
      have : 1152921504606846977 * 1 ≤ 1152921504606846977 * b := Int.mul_le_mul_of_nonneg_left (by omega) (by omega)
      omega
    omega
  unfold roundF
  split <;> omega
theorem gross_ok {m x y z v : Int} (h : (grossF m x y z v).2 = 0) : WOk m x y z v ∧ 0 < m := by
  unfold grossF at h
  split at h
  · rename_i hw
    split at h
    · cases h
    · exact ⟨hw, by have := hw.1.1; omega⟩
  · cases h
/-- hooks in memory -/
def HooksAt (w : World) (v : Value) (n : Nat) (cr : Nat → ByteArray) (hx hy hr : Nat → Int) : Prop :=
  SliceAt w v n 4 (fun i j => match j with | 0 => .string (cr i) | 1 => .int .i64 (hx i) | 2 => .int .i64 (hy i) | _ => .int .i64 (hr i)) ∧ ∀ i, i < n → (cr i).size ≤ 9223372036854775807
theorem HooksAt.below {w w' : World} {v : Value} {n : Nat} {cr : Nat → ByteArray} {hx hy hr : Nat → Int} (h : HooksAt w v n cr hx hy hr) (hb : Below w.heap.size w w') : HooksAt w' v n cr hx hy hr := ⟨h.1.below hb, h.2⟩
theorem HooksAt.form {w : World} {v : Value} {n : Nat} {cr : Nat → ByteArray} {hx hy hr : Nat → Int} (h : HooksAt w v n cr hx hy hr) : ∃ (oa : Option Addr) (cap : Nat), v = .slice oa n cap ∧ n ≤ 9223372036854775807 ∧
    ∀ i, i < n → ∃ b off, oa = some ⟨b, off, none⟩ ∧ b < w.heap.size ∧ ∀ k, k < n → w.cell? ⟨b, off + k * 4, none⟩ = some (.string (cr k)) ∧ w.cell? ⟨b, off + k * 4 + 1, none⟩ = some (.int .i64 (hx k)) ∧ w.cell? ⟨b, off + k * 4 + 2, none⟩ = some (.int .i64 (hy k)) ∧ w.cell? ⟨b, off + k * 4 + 3, none⟩ = some (.int .i64 (hr k)) := by
  obtain ⟨⟨oa, cap, h1, h2, h3, h4⟩, _⟩ := h
  refine ⟨oa, cap, h1, by omega, fun i hi => ?_⟩
  obtain ⟨b, off, e, hlt, hc⟩ := h4 (by omega)
  exact ⟨b, off, e, hlt, fun k hk => ⟨hc k 0 hk (by decide), hc k 1 hk (by decide), hc k 2 hk (by decide), hc k 3 hk (by decide)⟩⟩
def hookIn (hx hy : Nat → Int) (i : Nat) : Bool := decide (Nr 524288 (hx i) ∧ Nr 524288 (hy i))
/-- the loads and the error -/
def loadsF (n : Nat) (hx hy : Nat → Int) (m x y z v : Int) : List Int × Int :=
  if n = 0 then ([], 3) else if 2 < n then ([], 4) else if (grossF m x y z v).2 ≠ 0 then ([], (grossF m x y z v).2)
  else if allTo (hookIn hx hy) n = false then ([], 9)
  else if n = 1 then (if Nr 100 (roundF x m - hx 0) ∧ Nr 100 (roundF y m - hy 0) then ([(grossF m x y z v).1], 0) else ([], 18))
  else sharedF (grossF m x y z v).1 (hx 0) (hy 0) (hx 1) (hy 1) (roundF x m) (roundF y m)
set_option maxRecDepth 20000 in
set_option maxHeartbeats 4000000 in
theorem loads_any (blk : ByteArray) (hv : Value) (n : Nat) (cr : Nat → ByteArray) (hx hy hr : Nat → Int) (m x y z v : Int) (w : World) (h : HooksAt w hv n cr hx hy hr) :
    Calls Tryd.prog 7 #[.agg #[.string blk, hv], .agg #[.int .i64 m, .int .i64 x, .int .i64 y, .int .i64 z, .int .i64 v]] w fun e w' => ∃ v', e = .returned (.tuple #[v', .int .i64 (loadsF n hx hy m x y z v).2]) ∧ OutI w' v' (loadsF n hx hy m x y z v).1 ∧ NewFrom w.heap.size v' ∧ Below w.heap.size w w' := by
  obtain ⟨oa, cap, rfl, hn, hel⟩ := h.form
  have HEL := Lib.hid hel
  have HHK := Lib.hid h
  clear h hel
  by_cases h0 : n = 0
  · have E1 : Hid (loadsF n hx hy m x y z v = ([], 3)) := if_pos h0
    have b0 : ((n : Int) == 0) = true := by simpa using h0
    clear h0
    go_enter Tryd.func7, Tryd.ntmps7
    go_wp2
    go_returns
    rw [E1.out]
    exact ⟨_, rfl, outI_nil _, newFrom_nil _, by go_grown⟩
  have b0 : ((n : Int) == 0) = false := by simpa using h0
  by_cases h2 : 2 < n
  · have E1 : Hid (loadsF n hx hy m x y z v = ([], 4)) := by show _ = _; unfold loadsF; rw [if_neg h0, if_pos h2]
    have b2 : decide (2 < (n : Int)) = true := decide_eq_true (by omega)
    clear h0
    go_enter Tryd.func7, Tryd.ntmps7
    go_wp2
    go_returns
    rw [E1.out]
    exact ⟨_, rfl, outI_nil _, newFrom_nil _, by go_grown⟩
  have b2 : decide (2 < (n : Int)) = false := decide_eq_false (by omega)
  obtain ⟨G, GE, hG⟩ : ∃ G GE, grossF m x y z v = (G, GE) := ⟨_, _, rfl⟩
  have E0 : Hid (loadsF n hx hy m x y z v = if GE ≠ 0 then ([], GE) else if allTo (hookIn hx hy) n = false then ([], 9) else if n = 1 then (if Nr 100 (roundF x m - hx 0) ∧ Nr 100 (roundF y m - hy 0) then ([G], 0) else ([], 18)) else sharedF G (hx 0) (hy 0) (hx 1) (hy 1) (roundF x m) (roundF y m)) := by
    show _ = _
    unfold loadsF
    rw [if_neg h0, if_neg h2, hG]
  have HG := Lib.hid hG
  have n1 : 1 ≤ n := by omega
  have n2 : n ≤ 2 := by omega
  clear h0 h2 hG
  go_enter Tryd.func7, Tryd.ntmps7
  go_wp2_with fail
  (go_at_call 8; refine (gross_any _ _ _ _ _ _).mono ?_; rintro e w1 ⟨rfl, hb⟩)
  rw [HG.out]
  have hsw1 := hb.size
  (try simp only [World.size_alloc, World.size_setCell] at hsw1)
  have zw10 : w.heap.size < w1.heap.size := by omega
  have zw11 : w.heap.size + 1 < w1.heap.size := by omega
  clear hsw1
  have kHw1 : w1.cell? ⟨w.heap.size, 1, none⟩ = some (.slice oa n cap) := (hb.cell (p := ⟨_, _, none⟩) (by simp <;> omega)).trans (by simp [go_sem])
  have kBw1 : w1.cell? ⟨w.heap.size, 0, none⟩ = some (.string blk) := (hb.cell (p := ⟨_, _, none⟩) (by simp <;> omega)).trans (by simp [go_sem])
  have k0w1 : w1.cell? ⟨w.heap.size + 1, 0, none⟩ = some (.int .i64 m) := (hb.cell (p := ⟨_, _, none⟩) (by simp <;> omega)).trans (by simp [go_sem])
  have k1w1 : w1.cell? ⟨w.heap.size + 1, 1, none⟩ = some (.int .i64 x) := (hb.cell (p := ⟨_, _, none⟩) (by simp <;> omega)).trans (by simp [go_sem])
  have k2w1 : w1.cell? ⟨w.heap.size + 1, 2, none⟩ = some (.int .i64 y) := (hb.cell (p := ⟨_, _, none⟩) (by simp <;> omega)).trans (by simp [go_sem])
  have k3w1 : w1.cell? ⟨w.heap.size + 1, 3, none⟩ = some (.int .i64 z) := (hb.cell (p := ⟨_, _, none⟩) (by simp <;> omega)).trans (by simp [go_sem])
  have k4w1 : w1.cell? ⟨w.heap.size + 1, 4, none⟩ = some (.int .i64 v) := (hb.cell (p := ⟨_, _, none⟩) (by simp <;> omega)).trans (by simp [go_sem])
  have HB1 : Hid (Below ((w.alloc (.cells #[.string blk, .slice oa n cap] 24)).alloc (.cells #[.int .i64 m, .int .i64 x, .int .i64 y, .int .i64 z, .int .i64 v] 26)).heap.size ((w.alloc (.cells #[.string blk, .slice oa n cap] 24)).alloc (.cells #[.int .i64 m, .int .i64 x, .int .i64 y, .int .i64 z, .int .i64 v] 26)) w1) := hb
  have HBW : Hid (Below w.heap.size w w1) := by
    show Below _ _ _
    exact below_step (w := w) (by go_grown) hb
  clear hb
  by_cases hge : GE = 0
  · subst hge
    have HOK := Lib.hid (gross_ok (by rw [HG.out] : (grossF m x y z v).2 = 0))
    have E0' : Hid (loadsF n hx hy m x y z v = if allTo (hookIn hx hy) n = false then ([], 9) else if n = 1 then (if Nr 100 (roundF x m - hx 0) ∧ Nr 100 (roundF y m - hy 0) then ([G], 0) else ([], 18)) else sharedF G (hx 0) (hy 0) (hx 1) (hy 1) (roundF x m) (roundF y m)) := E0.out.trans (if_neg (fun h => h rfl))
    clear E0
    go_wp2
    go_loopw [32] (fun i wr => ∃ j : Nat, j ≤ n ∧ i = .int .i64 j ∧ Hid (∀ k, k < j → hookIn hx hy k = true) ∧ Below w1.heap.size w1 wr) (fun i _ => n - (intOf i).toNat)
    case atStart => exact ⟨0, by omega, rfl, fun k hk => by omega, Below.refl _ _⟩
    case round =>
      obtain ⟨j, hj, rfl, hq, hb⟩ := hrel
      have hswr := hb.size
      (try simp only [World.size_alloc, World.size_setCell] at hswr)
      have zwr0 : w.heap.size < wr.heap.size := by omega
      have zwr1 : w.heap.size + 1 < wr.heap.size := by omega
      clear hswr
      have kHwr : wr.cell? ⟨w.heap.size, 1, none⟩ = some (.slice oa n cap) := (hb.cell (p := ⟨_, _, none⟩) zw10).trans kHw1
      have kBwr : wr.cell? ⟨w.heap.size, 0, none⟩ = some (.string blk) := (hb.cell (p := ⟨_, _, none⟩) zw10).trans kBw1
      have k0wr : wr.cell? ⟨w.heap.size + 1, 0, none⟩ = some (.int .i64 m) := (hb.cell (p := ⟨_, _, none⟩) zw11).trans k0w1
      have k1wr : wr.cell? ⟨w.heap.size + 1, 1, none⟩ = some (.int .i64 x) := (hb.cell (p := ⟨_, _, none⟩) zw11).trans k1w1
      have k2wr : wr.cell? ⟨w.heap.size + 1, 2, none⟩ = some (.int .i64 y) := (hb.cell (p := ⟨_, _, none⟩) zw11).trans k2w1
      have k3wr : wr.cell? ⟨w.heap.size + 1, 3, none⟩ = some (.int .i64 z) := (hb.cell (p := ⟨_, _, none⟩) zw11).trans k3w1
      have k4wr : wr.cell? ⟨w.heap.size + 1, 4, none⟩ = some (.int .i64 v) := (hb.cell (p := ⟨_, _, none⟩) zw11).trans k4w1
      have HBr := Lib.hid hb
      by_cases hlt : j < n
      · obtain ⟨b, off, rfl, hbl, hcl⟩ := HEL.out j hlt
        have hb0 : b < w1.heap.size := by omega
        have hcr : ∀ o, wr.cell? ⟨b, o, none⟩ = w.cell? ⟨b, o, none⟩ := fun o => (hb.cell (p := ⟨_, _, none⟩) hb0).trans (HBW.out.cell (p := ⟨_, _, none⟩) hbl)
        have c0 : wr.cell? ⟨b, off + j * 4, none⟩ = some (.string (cr j)) := (hcr _).trans (hcl j hlt).1
        have c1 : wr.cell? ⟨b, off + j * 4 + 1, none⟩ = some (.int .i64 (hx j)) := (hcr _).trans (hcl j hlt).2.1
        have c2 : wr.cell? ⟨b, off + j * 4 + 2, none⟩ = some (.int .i64 (hy j)) := (hcr _).trans (hcl j hlt).2.2.1
        have c3 : wr.cell? ⟨b, off + j * 4 + 3, none⟩ = some (.int .i64 (hr j)) := (hcr _).trans (hcl j hlt).2.2.2
        have hbr : b < wr.heap.size := by have := hb.size; omega
        clear hcl hb hcr
        go_wp2_with fail
        (go_at_call 20; refine (near_two 524288 (hx j) (hy j) _ _ ⟨by omega, by omega⟩ (by simp) (by simp [go_sem]) (by simp [go_sem])).mono ?_; rintro e w2 ⟨rfl, hb⟩)
        have HB2 := Lib.hid (below_step (w := wr) (by go_grown) hb)
        have hs2 := hb.size
        (try simp only [World.size_alloc, World.size_setCell] at hs2)
        clear hb
        by_cases hN : Nr 524288 (hx j) ∧ Nr 524288 (hy j)
        · rw [decide_eq_true hN]
          have hq2 : Hid (∀ k, k < j + 1 → hookIn hx hy k = true) := fun k hk => by
            by_cases e : k = j
            · subst e; exact decide_eq_true hN
            · exact hq.out k (by omega)
          clear hN
          go_wp2
          go_roundw
          case rel => exact ⟨j + 1, by omega, by go_num, hq2, below_step HBr.out HB2.out⟩
          case measure => simp [intOf]; omega
        · rw [decide_eq_false hN]
          have E1 : Hid (loadsF n hx hy m x y z v = ([], 9)) := E0'.out.trans (if_pos (allTo_no hlt (decide_eq_false hN)))
          clear hN
          go_wp2
          go_returns
          rw [E1.out]
          exact ⟨_, rfl, outI_nil _, newFrom_nil _, below_step HBW.out (below_step HBr.out HB2.out)⟩
      · have hjn : j = n := by omega
        subst hjn
        have hall : allTo (hookIn hx hy) j = true := allTo_iff.2 hq.out
        have E2 : Hid (loadsF j hx hy m x y z v = if j = 1 then (if Nr 100 (roundF x m - hx 0) ∧ Nr 100 (roundF y m - hy 0) then ([G], 0) else ([], 18)) else sharedF G (hx 0) (hy 0) (hx 1) (hy 1) (roundF x m) (roundF y m)) := E0'.out.trans (if_neg (by rw [hall]; decide))
        have h0in := of_decide_eq_true (hq.out 0 (by omega))
        obtain ⟨⟨p0, p1⟩, p2, p3⟩ := h0in
        obtain ⟨CX, hCX⟩ : ∃ X, roundF x m = X := ⟨_, rfl⟩
        obtain ⟨CY, hCY⟩ : ∃ X, roundF y m = X := ⟨_, rfl⟩
        obtain ⟨CZ, hCZ⟩ : ∃ X, roundF z m = X := ⟨_, rfl⟩
        obtain ⟨q0, q1⟩ := roundF_bd HOK.out.1.2.2.1 HOK.out.2
        obtain ⟨q2, q3⟩ := roundF_bd HOK.out.1.2.2.2.1 HOK.out.2
        rw [hCX] at q0 q1
        rw [hCY] at q2 q3
        rw [hCX, hCY] at E2
        have HRV : Hid (roundedV m x y z v = .tuple #[.agg #[.int .i64 CX, .int .i64 CY, .int .i64 CZ], .int .i64 0]) := by
          show _ = _
          have hd : divF m x y z v = 0 := by unfold divF; rw [if_pos HOK.out.1, if_neg (by have := HOK.out.2; omega)]
          unfold roundedV
          rw [if_pos hd, if_pos hd, if_pos hd, hd, hCX, hCY, hCZ]
        obtain ⟨b, off, rfl, hbl, hcl⟩ := HEL.out 0 (by omega)
        have hb0 : b < w1.heap.size := by omega
        have hcr : ∀ o, wr.cell? ⟨b, o, none⟩ = w.cell? ⟨b, o, none⟩ := fun o => (hb.cell (p := ⟨_, _, none⟩) hb0).trans (HBW.out.cell (p := ⟨_, _, none⟩) hbl)
        have hbr : b < wr.heap.size := by have := hb.size; omega
        have c01 : wr.cell? ⟨b, off + 1, none⟩ = some (.int .i64 (hx 0)) := (hcr _).trans (by have := (hcl 0 (by omega)).2.1; simpa using this)
        have c02 : wr.cell? ⟨b, off + 2, none⟩ = some (.int .i64 (hy 0)) := (hcr _).trans (by have := (hcl 0 (by omega)).2.2.1; simpa using this)
        clear hb hCX hCY hCZ hall E0'
        by_cases e1 : j = 1
        · subst e1
          have E3 : Hid (loadsF 1 hx hy m x y z v = if Nr 100 (CX - hx 0) ∧ Nr 100 (CY - hy 0) then ([G], 0) else ([], 18)) := E2.out.trans (if_pos rfl)
          clear E2 hcr hcl
          go_wp2_with fail
          (go_at_call 21; refine (rounded_any _ _ _ _ _ _).mono ?_; rintro e w3 ⟨rfl, hb⟩)
          rw [HRV.out]
          have hsw3 := hb.size
          (try simp only [World.size_alloc, World.size_setCell] at hsw3)
          have zw30 : w.heap.size < w3.heap.size := by omega
          have zw31 : w.heap.size + 1 < w3.heap.size := by omega
          clear hsw3
          have kHw3 := (hb.cell (p := ⟨w.heap.size, 1, none⟩) zwr0).trans kHwr
          have hbr3 : b < w3.heap.size := by have := hb.size; omega
          have d01 := (hb.cell (p := ⟨b, off + 1, none⟩) hbr).trans c01
          have d02 := (hb.cell (p := ⟨b, off + 2, none⟩) hbr).trans c02
          have HB3 := Lib.hid hb
          clear hb
          go_wp2_with fail
          (go_at_call 20; refine (near_two 100 (CX - hx 0) (CY - hy 0) _ _ ⟨by omega, by omega⟩ (by simp) (by simp [go_sem]) (by simp [go_sem])).mono ?_; rintro e w4 ⟨rfl, hb⟩)
          have HB4 := Lib.hid (below_step (w := w3) (by go_grown) hb)
          clear hb
          by_cases hN : Nr 100 (CX - hx 0) ∧ Nr 100 (CY - hy 0)
          · rw [decide_eq_true hN]
            have E1 : Hid (loadsF 1 hx hy m x y z v = ([G], 0)) := E3.out.trans (if_pos hN)
            clear hN
            go_wp2
            go_returns
            rw [E1.out]
            exact ⟨_, rfl, outI_one _ _ _, newFrom_at (below_step HBW.out (below_step HBr.out (below_step HB3.out HB4.out))).size, (below_step HBW.out (below_step HBr.out (below_step HB3.out HB4.out))).alloc (below_step HBW.out (below_step HBr.out (below_step HB3.out HB4.out))).size _⟩
          · rw [decide_eq_false hN]
            have E1 : Hid (loadsF 1 hx hy m x y z v = ([], 18)) := E3.out.trans (if_neg hN)
            clear hN
            go_wp2
            go_returns
            rw [E1.out]
            exact ⟨_, rfl, outI_nil _, newFrom_nil _, below_step HBW.out (below_step HBr.out (below_step HB3.out HB4.out))⟩
        · have e2 : j = 2 := by omega
          subst e2
          have E1 : Hid (loadsF 2 hx hy m x y z v = sharedF G (hx 0) (hy 0) (hx 1) (hy 1) CX CY) := E2.out.trans (if_neg (by decide))
          obtain ⟨⟨r0, r1⟩, r2, r3⟩ := of_decide_eq_true (hq.out 1 (by omega))
          have c11 : wr.cell? ⟨b, off + 4 + 1, none⟩ = some (.int .i64 (hx 1)) := (hcr _).trans (by have := (hcl 1 (by omega)).2.1; simpa using this)
          have c12 : wr.cell? ⟨b, off + 4 + 2, none⟩ = some (.int .i64 (hy 1)) := (hcr _).trans (by have := (hcl 1 (by omega)).2.2.1; simpa using this)
          clear E2 hcr hcl e1
          go_wp2_with fail
          (go_at_call 21; refine (rounded_any _ _ _ _ _ _).mono ?_; rintro e w3 ⟨rfl, hb⟩)
          rw [HRV.out]
          have hsw3 := hb.size
          (try simp only [World.size_alloc, World.size_setCell] at hsw3)
          have zw30 : w.heap.size < w3.heap.size := by omega
          have zw31 : w.heap.size + 1 < w3.heap.size := by omega
          clear hsw3
          have kHw3 := (hb.cell (p := ⟨w.heap.size, 1, none⟩) zwr0).trans kHwr
          have hbr3 : b < w3.heap.size := by have := hb.size; omega
          have d01 := (hb.cell (p := ⟨b, off + 1, none⟩) hbr).trans c01
          have d02 := (hb.cell (p := ⟨b, off + 2, none⟩) hbr).trans c02
          have d11 := (hb.cell (p := ⟨b, off + 4 + 1, none⟩) hbr).trans c11
          have d12 := (hb.cell (p := ⟨b, off + 4 + 2, none⟩) hbr).trans c12
          have HB3 := Lib.hid hb
          clear hb
          have HS2 : Hid (∃ S SE, sharedF G (hx 0) (hy 0) (hx 1) (hy 1) CX CY = (S, SE)) := ⟨_, _, rfl⟩
          obtain ⟨S, SE, hS⟩ := HS2.out
          have HS := Lib.hid hS
          have E5 : Hid (loadsF 2 hx hy m x y z v = (S, SE)) := E1.out.trans hS
          have hBW3 : Below w.heap.size w w3 := below_step HBW.out (below_step HBr.out HB3.out)
          have kC0 : w3.heap.size < w3.heap.size + 1 + 1 := by omega
          have kC1 : w.heap.size < w3.heap.size + 1 + 1 := by omega
          have kC2 : b < w3.heap.size + 1 + 1 := by omega
          have kC3 : b ≠ w3.heap.size := by omega
          have kC4 : b ≠ w3.heap.size + 1 := by omega
          have kC5 : w.heap.size ≠ w3.heap.size := by omega
          have kC6 : w.heap.size ≠ w3.heap.size + 1 := by omega
          have kC7 : b < w3.heap.size + 1 := by omega
          have kC8 : w.heap.size < w3.heap.size + 1 := by omega
          clear hS HS2
          go_wp2_with fail
          refine wp_region_seq 17 [] [] (by kernel_rfl) (by kernel_rfl) (by kernel_rfl) (by kernel_rfl) (by kernel_rfl) ?_ ?_ ?_
          · intro r hr; cases hr
          · intro r hr; cases hr
          simp only [List.take_succ_cons, List.take_zero, fillL, Act.put, List.setIfInBounds_toArray, List.set_cons_zero, List.set_cons_succ]
          apply seq_is (by kernel_rfl)
          · intro u wx hb hd
            replace hb := hb.nil
            have hz := hb.size
            (try simp only [World.size_alloc, World.size_setCell] at hz)
            have hz0 : w.heap.size < wx.heap.size := by omega
            have hz1 : b < wx.heap.size := by omega
            have hz2 : w3.heap.size < wx.heap.size := by omega
            have hz3 : w3.heap.size + 1 < wx.heap.size := by omega
            obtain ⟨hc, hf⟩ := bcell hb
            clear hb hz
            simp [depsE, Region.binds, updE, kindOf, Prp.is, Prp.any] at hd
            go_simp
            first | exact ⟨Below.refl _ _, rfl⟩ | rfl
          apply seq_is (by kernel_rfl)
          · intro u wx hb hd
            replace hb := hb.nil
            have hz := hb.size
            (try simp only [World.size_alloc, World.size_setCell] at hz)
            have hz0 : w.heap.size < wx.heap.size := by omega
            have hz1 : b < wx.heap.size := by omega
            have hz2 : w3.heap.size < wx.heap.size := by omega
            have hz3 : w3.heap.size + 1 < wx.heap.size := by omega
            obtain ⟨hc, hf⟩ := bcell hb
            clear hb hz
            simp [depsE, Region.binds, updE, kindOf, Prp.is, Prp.any] at hd
            go_simp
            first | exact ⟨Below.refl _ _, rfl⟩ | rfl
          apply seq_is (by kernel_rfl)
          · intro u wx hb hd
            replace hb := hb.nil
            have hz := hb.size
            (try simp only [World.size_alloc, World.size_setCell] at hz)
            have hz0 : w.heap.size < wx.heap.size := by omega
            have hz1 : b < wx.heap.size := by omega
            have hz2 : w3.heap.size < wx.heap.size := by omega
            have hz3 : w3.heap.size + 1 < wx.heap.size := by omega
            obtain ⟨hc, hf⟩ := bcell hb
            clear hb hz
            simp [depsE, Region.binds, updE, kindOf, Prp.is, Prp.any] at hd
            go_simp
            first | exact ⟨Below.refl _ _, rfl⟩ | rfl
          apply seq_is (by kernel_rfl)
          · intro u wx hb hd
            replace hb := hb.nil
            have hz := hb.size
            (try simp only [World.size_alloc, World.size_setCell] at hz)
            have hz0 : w.heap.size < wx.heap.size := by omega
            have hz1 : b < wx.heap.size := by omega
            have hz2 : w3.heap.size < wx.heap.size := by omega
            have hz3 : w3.heap.size + 1 < wx.heap.size := by omega
            obtain ⟨hc, hf⟩ := bcell hb
            clear hb hz
            simp [depsE, Region.binds, updE, kindOf, Prp.is, Prp.any] at hd
            go_simp
            first | exact ⟨Below.refl _ _, rfl⟩ | rfl
          apply seq_is (by kernel_rfl)
          · intro u wx hb hd
            replace hb := hb.nil
            have hz := hb.size
            (try simp only [World.size_alloc, World.size_setCell] at hz)
            have hz0 : w.heap.size < wx.heap.size := by omega
            have hz1 : b < wx.heap.size := by omega
            have hz2 : w3.heap.size < wx.heap.size := by omega
            have hz3 : w3.heap.size + 1 < wx.heap.size := by omega
            obtain ⟨hc, hf⟩ := bcell hb
            clear hb hz
            simp [depsE, Region.binds, updE, kindOf, Prp.is, Prp.any] at hd
            go_simp
            first | exact ⟨Below.refl _ _, rfl⟩ | rfl
          apply seq_is (by kernel_rfl)
          · intro u wx hb hd
            replace hb := hb.nil
            have hz := hb.size
            (try simp only [World.size_alloc, World.size_setCell] at hz)
            have hz0 : w.heap.size < wx.heap.size := by omega
            have hz1 : b < wx.heap.size := by omega
            have hz2 : w3.heap.size < wx.heap.size := by omega
            have hz3 : w3.heap.size + 1 < wx.heap.size := by omega
            obtain ⟨hc, hf⟩ := bcell hb
            clear hb hz
            simp [depsE, Region.binds, updE, kindOf, Prp.is, Prp.any] at hd
            go_simp
            first | exact ⟨Below.refl _ _, rfl⟩ | rfl
          apply seq_is (by kernel_rfl)
          · intro u wx hb hd
            replace hb := hb.nil
            have hz := hb.size
            (try simp only [World.size_alloc, World.size_setCell] at hz)
            have hz0 : w.heap.size < wx.heap.size := by omega
            have hz1 : b < wx.heap.size := by omega
            have hz2 : w3.heap.size < wx.heap.size := by omega
            have hz3 : w3.heap.size + 1 < wx.heap.size := by omega
            obtain ⟨hc, hf⟩ := bcell hb
            clear hb hz
            simp [depsE, Region.binds, updE, kindOf, Prp.is, Prp.any] at hd
            go_simp
            first | exact ⟨Below.refl _ _, rfl⟩ | rfl
          apply seq_is (by kernel_rfl)
          · intro u wx hb hd
            replace hb := hb.nil
            have hz := hb.size
            (try simp only [World.size_alloc, World.size_setCell] at hz)
            have hz0 : w.heap.size < wx.heap.size := by omega
            have hz1 : b < wx.heap.size := by omega
            have hz2 : w3.heap.size < wx.heap.size := by omega
            have hz3 : w3.heap.size + 1 < wx.heap.size := by omega
            obtain ⟨hc, hf⟩ := bcell hb
            clear hb hz
            simp [depsE, Region.binds, updE, kindOf, Prp.is, Prp.any] at hd
            go_simp
            first | exact ⟨Below.refl _ _, rfl⟩ | rfl
          apply seq_is (by kernel_rfl)
          · intro u wx hb hd
            replace hb := hb.nil
            have hz := hb.size
            (try simp only [World.size_alloc, World.size_setCell] at hz)
            have hz0 : w.heap.size < wx.heap.size := by omega
            have hz1 : b < wx.heap.size := by omega
            have hz2 : w3.heap.size < wx.heap.size := by omega
            have hz3 : w3.heap.size + 1 < wx.heap.size := by omega
            obtain ⟨hc, hf⟩ := bcell hb
            clear hb hz
            simp [depsE, Region.binds, updE, kindOf, Prp.is, Prp.any] at hd
            go_simp
            first | exact ⟨Below.refl _ _, rfl⟩ | rfl
          apply seq_is (by kernel_rfl)
          · intro u wx hb hd
            replace hb := hb.nil
            have hz := hb.size
            (try simp only [World.size_alloc, World.size_setCell] at hz)
            have hz0 : w.heap.size < wx.heap.size := by omega
            have hz1 : b < wx.heap.size := by omega
            have hz2 : w3.heap.size < wx.heap.size := by omega
            have hz3 : w3.heap.size + 1 < wx.heap.size := by omega
            obtain ⟨hc, hf⟩ := bcell hb
            clear hb hz
            simp [depsE, Region.binds, updE, kindOf, Prp.is, Prp.any] at hd
            go_simp
            first | exact ⟨Below.refl _ _, rfl⟩ | rfl
          apply seq_is (by kernel_rfl)
          · intro u wx hb hd
            replace hb := hb.nil
            have hz := hb.size
            (try simp only [World.size_alloc, World.size_setCell] at hz)
            have hz0 : w.heap.size < wx.heap.size := by omega
            have hz1 : b < wx.heap.size := by omega
            have hz2 : w3.heap.size < wx.heap.size := by omega
            have hz3 : w3.heap.size + 1 < wx.heap.size := by omega
            obtain ⟨hc, hf⟩ := bcell hb
            clear hb hz
            simp [depsE, Region.binds, updE, kindOf, Prp.is, Prp.any] at hd
            go_simp
            first | exact ⟨Below.refl _ _, rfl⟩ | rfl
          apply seq_is (by kernel_rfl)
          · intro u wx hb hd
            replace hb := hb.nil
            have hz := hb.size
            (try simp only [World.size_alloc, World.size_setCell] at hz)
            have hz0 : w.heap.size < wx.heap.size := by omega
            have hz1 : b < wx.heap.size := by omega
            have hz2 : w3.heap.size < wx.heap.size := by omega
            have hz3 : w3.heap.size + 1 < wx.heap.size := by omega
            obtain ⟨hc, hf⟩ := bcell hb
            clear hb hz
            simp [depsE, Region.binds, updE, kindOf, Prp.is, Prp.any] at hd
            go_simp
            first | exact ⟨Below.refl _ _, rfl⟩ | rfl
          refine seq_new (Prp.tupI w.heap.size S SE) (by kernel_rfl) ?_ ?_
          · intro u wx hb hd
            replace hb := hb.nil
            have hz := hb.size
            (try simp only [World.size_alloc, World.size_setCell] at hz)
            have hz0 : w.heap.size < wx.heap.size := by omega
            have hz1 : b < wx.heap.size := by omega
            have hz2 : w3.heap.size < wx.heap.size := by omega
            have hz3 : w3.heap.size + 1 < wx.heap.size := by omega
            obtain ⟨hc, hf⟩ := bcell hb
            clear hb hz
            simp [depsE, Region.binds, updE, kindOf, Prp.is, Prp.any] at hd
            refine ⟨by simp [Region.wanted], ?_⟩
            go_simp
            (go_at_call 22; refine (shared_any _ _ _ _ _ _ _ _ ⟨p0, p1, p2, p3⟩ ⟨r0, r1, r2, r3⟩ ⟨q0, q1, q2, q3⟩).mono ?_; rintro e w9 ⟨v', rfl, hv, hn, hb1⟩)
            rw [HS.out] at hv ⊢
            exact ⟨_, rfl, hb1, ⟨v', rfl, hv, hn.mono (by omega)⟩, fun b hb => .inr (.inl (by obtain ⟨v2, e2, -, e3⟩ := hb; simp at e2; subst e2; exact hn b e3))⟩
          refine seq_new (Prp.outI w.heap.size S) (by kernel_rfl) ?_ ?_
          · intro u wx hb hd
            replace hb := hb.nil
            have hz := hb.size
            (try simp only [World.size_alloc, World.size_setCell] at hz)
            have hz0 : w.heap.size < wx.heap.size := by omega
            have hz1 : b < wx.heap.size := by omega
            have hz2 : w3.heap.size < wx.heap.size := by omega
            have hz3 : w3.heap.size + 1 < wx.heap.size := by omega
            obtain ⟨hc, hf⟩ := bcell hb
            clear hb hz
            simp [depsE, Region.binds, updE, kindOf, Prp.is, Prp.any] at hd
            refine ⟨by simp [Region.wanted], ?_⟩
            obtain ⟨v', e', hv⟩ := hd
            go_simp
            exact ⟨Below.refl _ _, hv, fun b hb => .inr (.inr ⟨12, by simp [kindOf], by kernel_rfl, by simp [updE]; exact ⟨v', e', hb.1, hb.2⟩⟩)⟩
          apply seq_is (by kernel_rfl)
          · intro u wx hb hd
            replace hb := hb.nil
            have hz := hb.size
            (try simp only [World.size_alloc, World.size_setCell] at hz)
            have hz0 : w.heap.size < wx.heap.size := by omega
            have hz1 : b < wx.heap.size := by omega
            have hz2 : w3.heap.size < wx.heap.size := by omega
            have hz3 : w3.heap.size + 1 < wx.heap.size := by omega
            obtain ⟨hc, hf⟩ := bcell hb
            clear hb hz
            simp [depsE, Region.binds, updE, kindOf, Prp.is, Prp.any] at hd
            obtain ⟨v', e', hv⟩ := hd
            go_simp
            exact ⟨Below.refl _ _, rfl⟩
          refine seq_new (Prp.outI w.heap.size S) (by kernel_rfl) ?_ ?_
          · intro u wx hb hd
            replace hb := hb.nil
            have hz := hb.size
            (try simp only [World.size_alloc, World.size_setCell] at hz)
            have hz0 : w.heap.size < wx.heap.size := by omega
            have hz1 : b < wx.heap.size := by omega
            have hz2 : w3.heap.size < wx.heap.size := by omega
            have hz3 : w3.heap.size + 1 < wx.heap.size := by omega
            obtain ⟨hc, hf⟩ := bcell hb
            clear hb hz
            simp [depsE, Region.binds, updE, kindOf, Prp.is, Prp.any] at hd
            refine ⟨by simp [Region.wanted], ?_⟩
            go_simp
            first | exact ⟨Below.refl _ _, fun b hb => .inr (.inr ⟨13, by simp [kindOf], by kernel_rfl, by simp [updE]; exact hb⟩)⟩ | exact ⟨Below.refl _ _, hd.1, fun b hb => .inr (.inr ⟨13, by simp [kindOf], by kernel_rfl, by simp [updE]; exact hb⟩)⟩ | exact ⟨Below.refl _ _, hd.1.1, hd.1.2, fun b hb => .inr (.inr ⟨13, by simp [kindOf], by kernel_rfl, by simp [updE]; exact hb⟩)⟩ | exact ⟨Below.refl _ _, hd.1, hd.2.1, fun b hb => .inr (.inr ⟨13, by simp [kindOf], by kernel_rfl, by simp [updE]; exact hb⟩)⟩
          apply seq_is (by kernel_rfl)
          · intro u wx hb hd
            replace hb := hb.nil
            have hz := hb.size
            (try simp only [World.size_alloc, World.size_setCell] at hz)
            have hz0 : w.heap.size < wx.heap.size := by omega
            have hz1 : b < wx.heap.size := by omega
            have hz2 : w3.heap.size < wx.heap.size := by omega
            have hz3 : w3.heap.size + 1 < wx.heap.size := by omega
            obtain ⟨hc, hf⟩ := bcell hb
            clear hb hz
            simp [depsE, Region.binds, updE, kindOf, Prp.is, Prp.any] at hd
            go_simp
            first | exact ⟨Below.refl _ _, rfl⟩ | rfl
          intro u w5 hb hE hV hP
          replace hb := hb.nil
          clear hP
          have e0 : u 0 = _ := endE_get hE 0 (by decide) (by simp [kindOf])
          have e1 : u 1 = _ := endE_get hE 1 (by decide) (by simp [kindOf])
          have e2 : u 2 = _ := endE_get hE 2 (by decide) (by simp [kindOf])
          have e3 : u 3 = _ := endE_get hE 3 (by decide) (by simp [kindOf])
          have e4 : u 4 = _ := endE_get hE 4 (by decide) (by simp [kindOf])
          have e5 : u 5 = _ := endE_get hE 5 (by decide) (by simp [kindOf])
          have e6 : u 6 = _ := endE_get hE 6 (by decide) (by simp [kindOf])
          have e7 : u 7 = _ := endE_get hE 7 (by decide) (by simp [kindOf])
          have e8 : u 8 = _ := endE_get hE 8 (by decide) (by simp [kindOf])
          have e9 : u 9 = _ := endE_get hE 9 (by decide) (by simp [kindOf])
          have e10 : u 10 = _ := endE_get hE 10 (by decide) (by simp [kindOf])
          have e11 : u 11 = _ := endE_get hE 11 (by decide) (by simp [kindOf])
          have e14 : u 14 = _ := endE_get hE 14 (by decide) (by simp [kindOf])
          have h15 : OutI w5 (u 15) S ∧ NewFrom w.heap.size (u 15) := endE_get hE 15 (by decide) (by simp [kindOf])
          have e16 : u 16 = _ := endE_get hE 16 (by decide) (by simp [kindOf])
          clear hV
          simp only [List.drop_succ_cons, List.drop_zero, List.take_succ_cons, List.take_zero, fillL, Act.put, List.setIfInBounds_toArray, List.set_cons_zero, List.set_cons_succ, e0, e1, e2, e3, e4, e5, e6, e7, e8, e9, e10, e11, e14, e16]
          clear e0 e1 e2 e3 e4 e5 e6 e7 e8 e9 e10 e11 e14 e16 hE
          have HBWw5 := Lib.hid hb
          have hw5 := below_step (w := w) (by first | assumption | go_grown) hb
          have hzw5 := hb.size
          (try simp only [World.size_alloc, World.size_setCell] at hzw5)
          have hzw50 : w.heap.size < w5.heap.size := by omega
          have hzw51 : b < w5.heap.size := by omega
          have hzw52 : w3.heap.size < w5.heap.size := by omega
          have hzw53 : w3.heap.size + 1 < w5.heap.size := by omega
          have HHw5 := Lib.hid hb.block
          obtain ⟨hcw5, hfw5⟩ := bcell hb
          clear hb hzw5
          go_wp2
          go_returns
          rw [E5.out]
          exact ⟨_, rfl, h15.1, h15.2, hw5⟩
  · have E1 : Hid (loadsF n hx hy m x y z v = ([], GE)) := E0.out.trans (if_pos hge)
    have g0 : (GE != 0) = true := by simpa using hge
    clear hge
    go_wp2
    go_returns
    rw [E1.out]
    exact ⟨_, rfl, outI_nil _, newFrom_nil _, HBW.out⟩
end Go.Proofs.YtbfbifogamlepaaDoor
