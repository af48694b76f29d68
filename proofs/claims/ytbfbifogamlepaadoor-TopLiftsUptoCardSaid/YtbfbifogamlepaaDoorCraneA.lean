/-
  What chart returns, the program's and the reference's, by walks. Conditions: none. By an AI agent.
-/
import Derived.Test.YtbfbifogamlepaaDoorSlices
namespace Go.Proofs.YtbfbifogamlepaaDoor
open Go.RowKit
set_option linter.unusedSimpArgs false

def RowBad (r q : Nat → Int) (j : Nat) : Prop := r j < 0 ∨ 524288 < r j ∨ q j < 1 ∨ 1099511627776 < q j
def RowDown (r q : Nat → Int) (j : Nat) : Prop := 0 < j ∧ (r j ≤ r (j - 1) ∨ q (j - 1) < q j)
instance rowBad_dec (r q : Nat → Int) (j : Nat) : Decidable (RowBad r q j) := by unfold RowBad; exact inferInstance
instance rowDown_dec (r q : Nat → Int) (j : Nat) : Decidable (RowDown r q j) := by unfold RowDown; exact inferInstance
def chartFrom (r q : Nat → Int) : Nat → Nat → Int
  | 0, _ => 0
  | m + 1, j => if RowBad r q j then 9 else if RowDown r q j then 11 else chartFrom r q m (j + 1)
def chartF (n : Nat) (r q : Nat → Int) : Int := if n = 0 then 3 else if 16 < n then 4 else chartFrom r q n 0
set_option maxHeartbeats 4000000 in
theorem rchart_any (v : Value) (n : Nat) (r q : Nat → Int) (w : World) (h : PairsAt w v n r q) :
    Calls Tryd.prog 13 #[v] w fun e w' => e = .returned (.int .i64 (chartF n r q)) ∧ Below w.heap.size w w' := by
  obtain ⟨oa, cap, rfl, hn, hel⟩ := h.form
  have HEL := Lib.hid hel
  clear h hel
  by_cases h0 : n = 0
  · have E : chartF n r q = 3 := if_pos h0
    rw [E]
    have b0 : ((n : Int) == 0) = true := by simpa using h0
    clear E h0
    go_enter Tryd.func13, Tryd.ntmps13
    go_wp2
    go_returns
    exact ⟨rfl, by go_grown⟩
  have b0 : ((n : Int) == 0) = false := by simpa using h0
  by_cases h16 : 16 < n
  · have E : chartF n r q = 4 := by unfold chartF; rw [if_neg h0, if_pos h16]
    rw [E]
    clear E h0
    go_enter Tryd.func13, Tryd.ntmps13
    go_wp2
    go_returns
    exact ⟨rfl, by go_grown⟩
  have E : chartF n r q = chartFrom r q n 0 := by unfold chartF; rw [if_neg h0, if_neg h16]
  rw [E]
  obtain ⟨R, hR⟩ : ∃ R, chartFrom r q n 0 = R := ⟨_, rfl⟩
  have HR := Lib.hid hR
  rw [hR]
  clear E h0 hR
  have h17 : n ≤ 16 := by omega
  clear h16
  go_enter Tryd.func13, Tryd.ntmps13
  go_wp2
  go_loopw [3] (fun i wr => ∃ j : Nat, j ≤ n ∧ i = .int .i64 j ∧ Hid (chartFrom r q (n - j) j = R) ∧ Below w.heap.size w wr) (fun i _ => n - (intOf i).toNat)
  case atStart => exact ⟨0, by omega, rfl, HR.out, Below.refl _ _⟩
  case round =>
    obtain ⟨j, hj, rfl, hq, hb⟩ := hrel
    by_cases hlt : j < n
    · obtain ⟨b, off, rfl, hbl, hcl⟩ := HEL.out j hlt
      have c0 : wr.cell? ⟨b, off + j * 2, none⟩ = some (.int .i64 (r j)) := (hb.cell (p := ⟨_, _, none⟩) hbl).trans (hcl j hlt).1
      have c1 : wr.cell? ⟨b, off + j * 2 + 1, none⟩ = some (.int .i64 (q j)) := (hb.cell (p := ⟨_, _, none⟩) hbl).trans (hcl j hlt).2
      have hbr : b < wr.heap.size := Nat.lt_of_lt_of_le hbl hb.size
      have HBr := Lib.hid hb
      have hsz : w.heap.size ≤ wr.heap.size := hb.size
      by_cases bad : RowBad r q j
      · have hr : R = 9 := by
          rw [← hq.out, show n - j = (n - j - 1) + 1 by omega, chartFrom, if_pos bad]
        unfold RowBad at bad
        have HR9 := Lib.hid hr
        clear hcl hb hr
        go_wp2_with fail
        all_goals go_returns
        all_goals rw [HR9.out]
        all_goals (have hb := HBr.out)
        all_goals exact ⟨rfl, by first | assumption | go_grown⟩
      · have bad2 := bad
        unfold RowBad at bad
        have g0 : 0 ≤ r j := by omega
        have g1 : r j ≤ 524288 := by omega
        have g2 : 1 ≤ q j := by omega
        have g3 : q j ≤ 1099511627776 := by omega
        clear bad
        have hpc := past_cell
        have hne : b ≠ wr.heap.size := by omega
        by_cases hj0 : j = 0
        · have hq2 : Hid (chartFrom r q (n - (j + 1)) (j + 1) = R) := by
            show _ = R
            rw [← hq.out, show n - j = (n - (j + 1)) + 1 by omega, chartFrom, if_neg bad2, if_neg (fun h => by have := h.1; omega)]
          have k0 : decide (0 < (j : Int)) = false := decide_eq_false (by omega)
          have k9 : decide (0 < j) = false := decide_eq_false (by omega)
          clear hcl hb bad2 hj0
          go_wp2_with fail
          refine wp_region_past (by kernel_rfl) (by kernel_rfl) ?_
          iterate 30 go_big_quiet_step (fail)
          refine wpQuiet_nil ?_
          intro w1 hw'
          have hb1 := past_out hw'
          clear hw'
          have hb := HBr.out
          have hB1 := below_step (w := w) (by go_grown) hb1
          have HB1 := Lib.hid hB1
          clear hb1 hb hB1
          go_wp2
          go_roundw
          case rel => exact ⟨j + 1, by omega, by go_num, hq2, HB1.out⟩
          case measure => simp [intOf]; omega
        have hjp : 0 < j := by omega
        have d0 : wr.cell? ⟨b, off + (j - 1) * 2, none⟩ = some (.int .i64 (r (j - 1))) := (hb.cell (p := ⟨_, _, none⟩) hbl).trans (hcl (j - 1) (by omega)).1
        have d1 : wr.cell? ⟨b, off + (j - 1) * 2 + 1, none⟩ = some (.int .i64 (q (j - 1))) := (hb.cell (p := ⟨_, _, none⟩) hbl).trans (hcl (j - 1) (by omega)).2
        have k0 : decide (0 < (j : Int)) = true := decide_eq_true (by omega)
        have k3 : (0 : Int) ≤ (j : Int) - 1 := by omega
        have k4 : (j : Int) - 1 < n := by omega
        have k5 : ((j : Int) - 1).toNat = j - 1 := by omega
        have k1 : IntKind.i64.wrap ((j : Int) - 1) = (j : Int) - 1 := IntWalk.i64_in _ (by omega)
        by_cases hd1 : r j ≤ r (j - 1)
        · have hr : R = 11 := by
            rw [← hq.out, show n - j = (n - (j + 1)) + 1 by omega, chartFrom, if_neg bad2, if_pos ⟨hjp, .inl hd1⟩]
          have HR9 := Lib.hid hr
          clear hcl hb hr bad2 hj0
          go_wp2_with fail
          refine wp_region_past (by kernel_rfl) (by kernel_rfl) ?_
          iterate 30 go_big_quiet_step (fail)
          refine wpQuiet_nil ?_
          intro w1 hw'
          have hb1 := past_out hw'
          clear hw'
          have hb := HBr.out
          have hB1 := below_step (w := w) (by go_grown) hb1
          have HB1 := Lib.hid hB1
          clear hb1 hb hB1
          go_wp2
          go_returns
          rw [HR9.out]
          exact ⟨rfl, HB1.out⟩
        have e1 : decide (r j ≤ r (j - 1)) = false := decide_eq_false hd1
        by_cases hd2 : q (j - 1) < q j
        · have hr : R = 11 := by
            rw [← hq.out, show n - j = (n - (j + 1)) + 1 by omega, chartFrom, if_neg bad2, if_pos ⟨hjp, .inr hd2⟩]
          have HR9 := Lib.hid hr
          clear hcl hb hr bad2 hj0
          go_wp2_with fail
          refine wp_region_past (by kernel_rfl) (by kernel_rfl) ?_
          iterate 30 go_big_quiet_step (fail)
          refine wpQuiet_nil ?_
          intro w1 hw'
          have hb1 := past_out hw'
          clear hw'
          have hb := HBr.out
          have hB1 := below_step (w := w) (by go_grown) hb1
          have HB1 := Lib.hid hB1
          clear hb1 hb hB1
          go_wp2
          go_returns
          rw [HR9.out]
          exact ⟨rfl, HB1.out⟩
        have hq2 : Hid (chartFrom r q (n - (j + 1)) (j + 1) = R) := by
          show _ = R
          rw [← hq.out, show n - j = (n - (j + 1)) + 1 by omega, chartFrom, if_neg bad2, if_neg (fun h => by rcases h.2 with h | h <;> omega)]
        have e2 : decide (q (j - 1) < q j) = false := decide_eq_false hd2
        clear hcl hb bad2 hj0
        go_wp2_with fail
        refine wp_region_past (by kernel_rfl) (by kernel_rfl) ?_
        iterate 30 go_big_quiet_step (fail)
        refine wpQuiet_nil ?_
        intro w1 hw'
        have hb1 := past_out hw'
        clear hw'
        have hb := HBr.out
        have hB1 := below_step (w := w) (by go_grown) hb1
        have HB1 := Lib.hid hB1
        clear hb1 hb hB1
        go_wp2
        go_roundw
        case rel => exact ⟨j + 1, by omega, by go_num, hq2, HB1.out⟩
        case measure => simp [intOf]; omega
    · have hr : R = 0 := by
        rw [← hq.out, show n - j = 0 by omega, chartFrom]
      have HR9 := Lib.hid hr
      clear hr
      have HBr := Lib.hid hb
      clear hb
      go_wp2
      go_returns
      rw [HR9.out]
      exact ⟨rfl, HBr.out⟩
end Go.Proofs.YtbfbifogamlepaaDoor
