/-
  The helpers of package lift and of its reference. Conditions: none. By an AI agent.
-/
import Derived.Test.YtbfbifogamlepaaDoorCraneK
import Derived.Test.YtbfbifogamlepaaDoorInts
namespace Go.Proofs.YtbfbifogamlepaaDoor
open Go Go.ChangeShapes Go.WideShapes Go.RowKit Go.ChangeAt
set_option linter.unusedSimpArgs false
set_option linter.unusedVariables false
/-- from -B to B -/
def Nr (B n : Int) : Prop := -B ≤ n ∧ n ≤ B
instance (B n : Int) : Decidable (Nr B n) := by unfold Nr; exact inferInstance
set_option maxHeartbeats 2000000 in
theorem near_two (B a b : Int) (g : Nat) (w : World) (hB : 0 ≤ B ∧ B ≤ 1099511627776) (hg : g < w.heap.size) (h0 : w.cell? ⟨g, 0, none⟩ = some (.int .i64 a)) (h1 : w.cell? ⟨g, 1, none⟩ = some (.int .i64 b)) :
    Calls Tryd.prog 20 #[.int .i64 B, .slice (some ⟨g, 0, none⟩) 2 2] w fun e w' => e = .returned (.bool (decide (Nr B a ∧ Nr B b))) ∧ Below w.heap.size w w' := by
  obtain ⟨R, hR⟩ : ∃ R, decide (Nr B a ∧ Nr B b) = R := ⟨_, rfl⟩
  have HR := Lib.hid hR
  rw [hR]
  clear hR
  obtain ⟨hB0, hB1⟩ := hB
  go_enter Tryd.func20, Tryd.ntmps20
  go_wp2
  go_loopw [9] (fun i wr => ∃ j : Nat, j ≤ 2 ∧ i = .int .i64 j ∧ Hid ((0 < j → Nr B a) ∧ (1 < j → Nr B b)) ∧ Below w.heap.size w wr) (fun i _ => 2 - (intOf i).toNat)
  case atStart => exact ⟨0, by omega, rfl, ⟨fun h => by omega, fun h => by omega⟩, Below.refl _ _⟩
  case round =>
    obtain ⟨j, hj, rfl, hq, hb⟩ := hrel
    have HBr := Lib.hid hb
    have c0 : wr.cell? ⟨g, 0, none⟩ = some (.int .i64 a) := (hb.cell (p := ⟨_, _, none⟩) hg).trans h0
    have c1 : wr.cell? ⟨g, 1, none⟩ = some (.int .i64 b) := (hb.cell (p := ⟨_, _, none⟩) hg).trans h1
    have hgr : g < wr.heap.size := by have := hb.size; omega
    clear hb h0 h1
    rcases (by omega : j = 0 ∨ j = 1 ∨ j = 2) with rfl | rfl | rfl
    · by_cases hN : Nr B a
      · have hq2 : Hid ((0 < 1 → Nr B a) ∧ (1 < 1 → Nr B b)) := ⟨fun _ => hN, fun h => by omega⟩
        obtain ⟨n0, n1⟩ := hN
        go_wp2
        go_roundw
        case rel => exact ⟨1, by omega, by rfl, hq2, HBr.out⟩
        case measure => simp [intOf]
      · have HR0 : Hid (R = false) := by show R = false; rw [← HR.out]; exact decide_eq_false fun h => hN h.1
        unfold Nr at hN
        by_cases n0 : a < -B
        · go_wp2
          go_returns
          rw [HR0.out]
          exact ⟨rfl, HBr.out⟩
        · have n1 : B < a := by omega
          clear hN
          go_wp2
          go_returns
          rw [HR0.out]
          exact ⟨rfl, HBr.out⟩
    · by_cases hN : Nr B b
      · have hq2 : Hid ((0 < 2 → Nr B a) ∧ (1 < 2 → Nr B b)) := ⟨fun _ => hq.out.1 (by omega), fun h => hN⟩
        obtain ⟨n0, n1⟩ := hN
        go_wp2
        go_roundw
        case rel => exact ⟨2, by omega, by rfl, hq2, HBr.out⟩
        case measure => simp [intOf]
      · have HR0 : Hid (R = false) := by show R = false; rw [← HR.out]; exact decide_eq_false fun h => hN h.2
        unfold Nr at hN
        by_cases n0 : b < -B
        · go_wp2
          go_returns
          rw [HR0.out]
          exact ⟨rfl, HBr.out⟩
        · have n1 : B < b := by omega
          clear hN
          go_wp2
          go_returns
          rw [HR0.out]
          exact ⟨rfl, HBr.out⟩
    · have HR0 : Hid (R = true) := by show R = true; rw [← HR.out]; exact decide_eq_true ⟨hq.out.1 (by omega), hq.out.2 (by omega)⟩
      go_wp2
      go_returns
      rw [HR0.out]
      exact ⟨rfl, HBr.out⟩
theorem inside_any (n B : Int) (w : World) (hB : 0 ≤ B ∧ B ≤ 1099511627776) :
    Calls Tryd.prog 33 #[.int .i64 n, .int .i64 B] w fun e w' => e = .returned (.bool (decide (Nr B n))) ∧ Below w.heap.size w w' := by
  obtain ⟨hB0, hB1⟩ := hB
  by_cases h1 : -B ≤ n
  · by_cases h2 : n ≤ B
    · have E := Lib.hid (decide_eq_true (show Nr B n from ⟨h1, h2⟩))
      go_enter Tryd.func33, Tryd.ntmps33
      go_wp2
      go_returns
      exact ⟨by rw [E.out]; rfl, by go_grown⟩
    · have E := Lib.hid (decide_eq_false (show ¬ Nr B n from fun h => h2 h.2))
      go_enter Tryd.func33, Tryd.ntmps33
      go_wp2
      go_returns
      exact ⟨by rw [E.out]; rfl, by go_grown⟩
  · have E := Lib.hid (decide_eq_false (show ¬ Nr B n from fun h => h1 h.1))
    go_enter Tryd.func33, Tryd.ntmps33
    go_wp2
    go_returns
    exact ⟨by rw [E.out]; rfl, by go_grown⟩
theorem labs_in (n A : Int) (w : World) (hn : -4611686018427387904 ≤ n ∧ n ≤ 4611686018427387904) (h : ab n = A) : Calls Tryd.prog 39 #[.int .i64 n] w fun e w' => e = .returned (.int .i64 A) ∧ Below w.heap.size w w' := by
  have hmx := run_mx
  obtain ⟨h0, h1⟩ := hn
  have h2 : Hid (mx n (-n) = A) := h
  clear h
  go_enter Tryd.func39, Tryd.ntmps39
  go_wp2
  go_returns
  rw [h2.out]
  exact ⟨rfl, by go_grown⟩
theorem rmag_in (n A : Int) (w : World) (hn : -4611686018427387904 ≤ n ∧ n ≤ 4611686018427387904) (h : ab n = A) : Calls Tryd.prog 35 #[.int .i64 n] w fun e w' => e = .returned (.int .i64 A) ∧ Below w.heap.size w w' := by
  have hmx := run_mx
  obtain ⟨h0, h1⟩ := hn
  have h2 : Hid (mx n (-n) = A) := h
  clear h
  go_enter Tryd.func35, Tryd.ntmps35
  go_wp2
  go_returns
  rw [h2.out]
  exact ⟨rfl, by go_grown⟩
theorem turned_any (x y : Int) (w : World) : Calls Tryd.prog 40 #[.agg #[.int .i64 x, .int .i64 y]] w fun e w' => e = .returned (.agg #[.int .i64 y, .int .i64 x]) ∧ Below w.heap.size w w' := by
  go_enter Tryd.func40, Tryd.ntmps40
  go_wp2
  all_goals (refine bodyPost_ret (v := .agg #[.int .i64 y, .int .i64 x]) (by simp [results, Tryd.results40, go_sem, *]) rfl ?_)
  exact ⟨rfl, by go_grown⟩
/-- the error of the number of hooks -/
def countF (n : Nat) : Int := if n = 0 then 3 else if 2 < n then 4 else 0
theorem count_any (blk : ByteArray) (oa : Option Addr) (n cap : Nat) (w : World) (hn : n ≤ 9223372036854775807) :
    Calls Tryd.prog 16 #[.agg #[.string blk, .slice oa n cap]] w fun e w' => e = .returned (.int .i64 (countF n)) ∧ Below w.heap.size w w' := by
  by_cases h0 : n = 0
  · have E : Hid (countF n = 3) := if_pos h0
    have b0 : ((n : Int) == 0) = true := by simpa using h0
    go_enter Tryd.func16, Tryd.ntmps16
    go_wp2
    go_returns
    exact ⟨by rw [E.out]; rfl, by go_grown⟩
  have b0 : ((n : Int) == 0) = false := by simpa using h0
  by_cases h2 : 2 < n
  · have E : Hid (countF n = 4) := by show _ = _; unfold countF; rw [if_neg h0, if_pos h2]
    have b2 : decide (2 < (n : Int)) = true := decide_eq_true (by omega)
    clear h0
    go_enter Tryd.func16, Tryd.ntmps16
    go_wp2
    go_returns
    exact ⟨by rw [E.out]; rfl, by go_grown⟩
  have E : Hid (countF n = 0) := by show _ = _; unfold countF; rw [if_neg h0, if_neg h2]
  have b2 : decide (2 < (n : Int)) = false := decide_eq_false (by omega)
  clear h0
  go_enter Tryd.func16, Tryd.ntmps16
  go_wp2
  go_returns
  exact ⟨by rw [E.out]; rfl, by go_grown⟩
end Go.Proofs.YtbfbifogamlepaaDoor
