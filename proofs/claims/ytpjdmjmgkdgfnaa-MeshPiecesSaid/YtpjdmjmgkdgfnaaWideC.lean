/-
  The reference's split, zero, compare, join, plus, minus, by walks. Conditions: none. By an AI agent.
-/
import Derived.Test.YtpjdmjmgkdgfnaaWideA
namespace Go.Proofs.Ytpjdmjmgkdgfnaa
open Go Go.RowKit Go.Shelf
set_option linter.unusedVariables false
set_option linter.unusedSimpArgs false
set_option maxRecDepth 100000

set_option maxHeartbeats 2000000 in
theorem zero_any (D : Nat → Int) (w : World) (hd : dig 4294967296 8 D) :
    Calls Try.prog 74 #[.agg #[.int .u64 (D 0), .int .u64 (D 1), .int .u64 (D 2), .int .u64 (D 3), .int .u64 (D 4), .int .u64 (D 5), .int .u64 (D 6), .int .u64 (D 7)]] w fun e w' => e = .returned (.bool (decide (valN 4294967296 D 8 = 0))) ∧ Below w.heap.size w w' := by
  have HD := Lib.hid hd
  clear hd
  obtain ⟨ZZ, hZZ⟩ : ∃ b, decide (valN 4294967296 D 8 = 0) = b := ⟨_, rfl⟩
  have HZZ := Lib.hid hZZ
  rw [hZZ]
  clear hZZ
  go_enter Try.func74, Try.ntmps74
  go_wp2
  go_loopw [3] (fun i wr => ∃ j : Nat, j ≤ 8 ∧ i = .int .i64 j ∧ (∀ k, k < j → D k = 0) ∧ Below (w.alloc (.cells #[.int .u64 (D 0), .int .u64 (D 1), .int .u64 (D 2), .int .u64 (D 3), .int .u64 (D 4), .int .u64 (D 5), .int .u64 (D 6), .int .u64 (D 7)] 84)).heap.size (w.alloc (.cells #[.int .u64 (D 0), .int .u64 (D 1), .int .u64 (D 2), .int .u64 (D 3), .int .u64 (D 4), .int .u64 (D 5), .int .u64 (D 6), .int .u64 (D 7)] 84)) wr) (fun i _ => 8 - (intOf i).toNat)
  case atStart => exact ⟨0, by omega, rfl, fun k hk => absurd hk (by omega), Below.refl _ _⟩
  case round =>
    obtain ⟨j, hj, rfl, hq, hB⟩ := hrel
    have HBr : Hid (Below w.heap.size w wr) := by
      show Below _ _ _
      exact below_step (w := w) (by go_grown) hB
    have HBX := Lib.hid hB
    have HQ := Lib.hid hq
    have HX : Hid (DigAt wr w.heap.size 8 D) := by
      show DigAt _ _ _ _
      exact DigAt.below (w := (w.alloc (.cells #[.int .u64 (D 0), .int .u64 (D 1), .int .u64 (D 2), .int .u64 (D 3), .int .u64 (D 4), .int .u64 (D 5), .int .u64 (D 6), .int .u64 (D 7)] 84))) (fun k hk => by
        match k, hk with
        | 0, _ => simp [go_sem]
        | 1, _ => simp [go_sem]
        | 2, _ => simp [go_sem]
        | 3, _ => simp [go_sem]
        | 4, _ => simp [go_sem]
        | 5, _ => simp [go_sem]
        | 6, _ => simp [go_sem]
        | 7, _ => simp [go_sem]) hB (by simp <;> omega)
    have hs0 := hB.size
    (try simp only [World.size_alloc, World.size_setCell] at hs0)
    have z0 : w.heap.size < wr.heap.size := by omega
    clear hq hB
    by_cases hlt : j < 8
    · have cx := HX.out j hlt
      have k0 : (0 : Int) ≤ (j : Int) := by omega
      have k1 : (j : Int) < 8 := by omega
      by_cases h0 : D j = 0
      · have kz : (D j != 0) = false := by simpa using h0
        have HZ := Lib.hid h0
        clear h0
        go_wp2
        go_roundw
        case rel => exact ⟨j + 1, by omega, by go_num, (fun k hk => by
          by_cases hkj : k = j
          · subst hkj; exact HZ.out
          · exact HQ.out k (by omega)), HBX.out⟩
        case measure => simp [intOf]; omega
      · have kz : (D j != 0) = true := by simpa using h0
        have HZ : Hid (ZZ = false) := by
          show _ = _
          rw [← HZZ.out]
          refine decide_eq_false fun he => h0 ?_
          have := valN_one (Y := zeroF) (by decide) HD.out (fun k hk => by unfold zeroF; omega) (he.trans (valN_zero fun k hk => rfl).symm) j hlt
          exact this
        clear h0
        go_wp2
        go_returns
        rw [HZ.out]
        exact ⟨rfl, HBr.out⟩
    · have HZ : Hid (ZZ = true) := by
        show _ = _
        rw [← HZZ.out]
        exact decide_eq_true (valN_zero fun k hk => HQ.out k (by omega))
      go_wp2
      go_returns
      rw [HZ.out]
      exact ⟨rfl, HBr.out⟩

set_option maxHeartbeats 2000000 in
theorem split_any (b : Bool) (X : Nat → Int) (w : World) (hx : dig 18446744073709551616 4 X) :
    Calls Try.prog 58 #[.agg #[.bool b, .int .u64 (X 0), .int .u64 (X 1), .int .u64 (X 2), .int .u64 (X 3)]] w fun e w' => e = .returned (.agg #[.int .u64 (splitF X 0), .int .u64 (splitF X 1), .int .u64 (splitF X 2), .int .u64 (splitF X 3), .int .u64 (splitF X 4), .int .u64 (splitF X 5), .int .u64 (splitF X 6), .int .u64 (splitF X 7)]) ∧ Below w.heap.size w w' := by
  have HDX := Lib.hid hx
  clear hx
  go_enter Try.func58, Try.ntmps58
  go_wp2
  go_loopw [4] (fun i wr => ∃ (j : Nat) (D : Nat → Int), j ≤ 4 ∧ i = .int .i64 j ∧ (∀ k, k < 2 * j → D k = splitF X k) ∧ DigAt wr (w.heap.size + 1 + 1) 8 D ∧ FreeAt wr (w.heap.size + 1 + 1) 8 ∧ (w.heap.size + 1 + 1) < wr.heap.size ∧ Below ((w.alloc (.cells #[.bool b, .int .u64 (X 0), .int .u64 (X 1), .int .u64 (X 2), .int .u64 (X 3)] 33)).alloc (.cells #[.int .u64 0, .int .u64 0, .int .u64 0, .int .u64 0, .int .u64 0, .int .u64 0, .int .u64 0, .int .u64 0] 84)).heap.size ((w.alloc (.cells #[.bool b, .int .u64 (X 0), .int .u64 (X 1), .int .u64 (X 2), .int .u64 (X 3)] 33)).alloc (.cells #[.int .u64 0, .int .u64 0, .int .u64 0, .int .u64 0, .int .u64 0, .int .u64 0, .int .u64 0, .int .u64 0] 84)) wr) (fun i _ => 4 - (intOf i).toNat)
  case atStart =>
    refine ⟨0, zeroF, by omega, rfl, fun k hk => absurd hk (by omega), ?_, ?_, by simp <;> omega, by go_grown⟩
    · intro k hk
      match k, hk with
      | 0, _ => simp [go_sem, zeroF]
      | 1, _ => simp [go_sem, zeroF]
      | 2, _ => simp [go_sem, zeroF]
      | 3, _ => simp [go_sem, zeroF]
      | 4, _ => simp [go_sem, zeroF]
      | 5, _ => simp [go_sem, zeroF]
      | 6, _ => simp [go_sem, zeroF]
      | 7, _ => simp [go_sem, zeroF]
    · intro k hk
      match k, hk with
      | 0, _ => simp [go_sem]
      | 1, _ => simp [go_sem]
      | 2, _ => simp [go_sem]
      | 3, _ => simp [go_sem]
      | 4, _ => simp [go_sem]
      | 5, _ => simp [go_sem]
      | 6, _ => simp [go_sem]
      | 7, _ => simp [go_sem]
  case round =>
    obtain ⟨j, D, hj, rfl, he, hA, hF, z3, hB⟩ := hrel
    have HB0 := Lib.hid hB
    have HE := Lib.hid he
    have HA := Lib.hid hA
    have HF := Lib.hid hF
    have HX : Hid (∀ k, k < 4 → wr.cell? ⟨w.heap.size, 1 + k, none⟩ = some (.int .u64 (X k))) := by
      show ∀ k, _
      intro k hk
      refine (hB.cell (p := ⟨_, _, none⟩) (by simp <;> omega)).trans ?_
      match k, hk with
      | 0, _ => simp [go_sem]
      | 1, _ => simp [go_sem]
      | 2, _ => simp [go_sem]
      | 3, _ => simp [go_sem]
    have z0 : w.heap.size < wr.heap.size := by omega
    have z1 : w.heap.size + 1 < wr.heap.size := by omega
    have r0 : ∀ k, k < 8 → wr.cell? ⟨w.heap.size + 1, k, none⟩ = some (.int .u64 0) ∧ wr.frozen? ⟨w.heap.size + 1, k, none⟩ = false := fun k hk => ⟨(hB.cell (p := ⟨_, _, none⟩) (by simp <;> omega)).trans (by
      match k, hk with
      | 0, _ => simp [go_sem]
      | 1, _ => simp [go_sem]
      | 2, _ => simp [go_sem]
      | 3, _ => simp [go_sem]
      | 4, _ => simp [go_sem]
      | 5, _ => simp [go_sem]
      | 6, _ => simp [go_sem]
      | 7, _ => simp [go_sem]), (hB.frozen (p := ⟨_, _, none⟩) (by simp <;> omega)).trans (by
      match k, hk with
      | 0, _ => simp [go_sem]
      | 1, _ => simp [go_sem]
      | 2, _ => simp [go_sem]
      | 3, _ => simp [go_sem]
      | 4, _ => simp [go_sem]
      | 5, _ => simp [go_sem]
      | 6, _ => simp [go_sem]
      | 7, _ => simp [go_sem])⟩
    have HR := Lib.hid r0
    clear he hA hF hB r0
    by_cases hlt : j < 4
    · have cx := HX.out j hlt
      have c0 := HA.out (2 * j) (by omega)
      have f0 := HF.out (2 * j) (by omega)
      have c1 := HA.out (2 * j + 1) (by omega)
      have f1 := HF.out (2 * j + 1) (by omega)
      have w0 : IntKind.i64.wrap (2 * (j : Int)) = ((2 * j : Nat) : Int) := by rw [IntWalk.i64_in _ (by omega)]; omega
      have w1 : IntKind.i64.wrap (((2 * j : Nat) : Int) + 1) = ((2 * j + 1 : Nat) : Int) := by rw [IntWalk.i64_in _ (by omega)]; omega
      have k0 : (0 : Int) ≤ (j : Int) := by omega
      have k1 : (j : Int) < 4 := by omega
      have k2 : ((2 * j : Nat) : Int) < 8 := by omega
      have k3 : ((2 * j + 1 : Nat) : Int) < 8 := by omega
      have k4 : (0 : Int) ≤ ((2 * j : Nat) : Int) := by omega
      have k5 : (0 : Int) ≤ ((2 * j + 1 : Nat) : Int) := by omega
      have HXJ := HDX.out j hlt
      have m0 : (X j).tmod 4294967296 = X j % 4294967296 := Int.tmod_eq_emod_of_nonneg HXJ.1
      have m1 : IntKind.u64.wrap ((X j).tdiv 4294967296) = X j / 4294967296 := by rw [Int.tdiv_eq_ediv_of_nonneg HXJ.1, IntKind.wrap_u64]; omega
      clear HXJ
      go_wp2
      go_roundw
      case rel =>
        refine ⟨j + 1, updF (updF D (2 * j) (X j % 4294967296)) (2 * j + 1) (X j / 4294967296), by omega, by go_num, ?_, ?_, ?_, by simpa using z3, (HB0.out.setCell (by simp <;> omega) _).setCell (by simp <;> omega) _⟩
        · intro k hk
          unfold updF
          by_cases h1 : k = 2 * j + 1
          · rw [if_pos h1, h1]
            unfold splitF
            rw [if_neg (by omega), show (2 * j + 1) / 2 = j by omega]
          · rw [if_neg h1]
            by_cases h2 : k = 2 * j
            · rw [if_pos h2, h2]
              unfold splitF
              rw [if_pos (by omega), show 2 * j / 2 = j by omega]
            · rw [if_neg h2]
              exact HE.out k (by omega)
        · exact (HA.out.upd (i := 2 * j) (by omega)).upd (i := 2 * j + 1) (by omega)
        · intro p hp
          rw [World.frozen?_setCell, World.frozen?_setCell]
          exact HF.out p hp
      case measure => simp [intOf]; omega
    · obtain rfl : j = 4 := by omega
      have m0 : wr.cell? ⟨(w.heap.size + 1 + 1), 0, none⟩ = some (.int .u64 (splitF X 0)) := (HA.out 0 (by decide)).trans (by rw [HE.out 0 (by decide)])
      have m1 : wr.cell? ⟨(w.heap.size + 1 + 1), 1, none⟩ = some (.int .u64 (splitF X 1)) := (HA.out 1 (by decide)).trans (by rw [HE.out 1 (by decide)])
      have m2 : wr.cell? ⟨(w.heap.size + 1 + 1), 2, none⟩ = some (.int .u64 (splitF X 2)) := (HA.out 2 (by decide)).trans (by rw [HE.out 2 (by decide)])
      have m3 : wr.cell? ⟨(w.heap.size + 1 + 1), 3, none⟩ = some (.int .u64 (splitF X 3)) := (HA.out 3 (by decide)).trans (by rw [HE.out 3 (by decide)])
      have m4 : wr.cell? ⟨(w.heap.size + 1 + 1), 4, none⟩ = some (.int .u64 (splitF X 4)) := (HA.out 4 (by decide)).trans (by rw [HE.out 4 (by decide)])
      have m5 : wr.cell? ⟨(w.heap.size + 1 + 1), 5, none⟩ = some (.int .u64 (splitF X 5)) := (HA.out 5 (by decide)).trans (by rw [HE.out 5 (by decide)])
      have m6 : wr.cell? ⟨(w.heap.size + 1 + 1), 6, none⟩ = some (.int .u64 (splitF X 6)) := (HA.out 6 (by decide)).trans (by rw [HE.out 6 (by decide)])
      have m7 : wr.cell? ⟨(w.heap.size + 1 + 1), 7, none⟩ = some (.int .u64 (splitF X 7)) := (HA.out 7 (by decide)).trans (by rw [HE.out 7 (by decide)])
      have q0 := (HR.out 0 (by decide)).1
      have fq0 := (HR.out 0 (by decide)).2
      have q1 := (HR.out 1 (by decide)).1
      have fq1 := (HR.out 1 (by decide)).2
      have q2 := (HR.out 2 (by decide)).1
      have fq2 := (HR.out 2 (by decide)).2
      have q3 := (HR.out 3 (by decide)).1
      have fq3 := (HR.out 3 (by decide)).2
      have q4 := (HR.out 4 (by decide)).1
      have fq4 := (HR.out 4 (by decide)).2
      have q5 := (HR.out 5 (by decide)).1
      have fq5 := (HR.out 5 (by decide)).2
      have q6 := (HR.out 6 (by decide)).1
      have fq6 := (HR.out 6 (by decide)).2
      have q7 := (HR.out 7 (by decide)).1
      have fq7 := (HR.out 7 (by decide)).2
      have HBW : Hid (Below w.heap.size w wr) := by
        show Below _ _ _
        exact below_step (w := w) (by go_grown) HB0.out
      go_wp2
      all_goals (refine bodyPost_ret (v := .agg #[.int .u64 (splitF X 0), .int .u64 (splitF X 1), .int .u64 (splitF X 2), .int .u64 (splitF X 3), .int .u64 (splitF X 4), .int .u64 (splitF X 5), .int .u64 (splitF X 6), .int .u64 (splitF X 7)]) (by simp (maxDischargeDepth := 9) [results, Try.results58, go_sem, *]) rfl ?_)
      exact ⟨rfl, (((((((HBW.out.setCell (by dsimp only; omega) _).setCell (by dsimp only; omega) _).setCell (by dsimp only; omega) _).setCell (by dsimp only; omega) _).setCell (by dsimp only; omega) _).setCell (by dsimp only; omega) _).setCell (by dsimp only; omega) _).setCell (by dsimp only; omega) _⟩

set_option maxHeartbeats 4000000 in
theorem rcompare_any (X Y : Nat → Int) (w : World) (hx : dig 4294967296 8 X) (hy : dig 4294967296 8 Y) :
    Calls Try.prog 59 #[.agg #[.int .u64 (X 0), .int .u64 (X 1), .int .u64 (X 2), .int .u64 (X 3), .int .u64 (X 4), .int .u64 (X 5), .int .u64 (X 6), .int .u64 (X 7)], .agg #[.int .u64 (Y 0), .int .u64 (Y 1), .int .u64 (Y 2), .int .u64 (Y 3), .int .u64 (Y 4), .int .u64 (Y 5), .int .u64 (Y 6), .int .u64 (Y 7)]] w fun e w' => e = .returned (.int .i64 (cmpI (valN 4294967296 X 8) (valN 4294967296 Y 8))) ∧ Below w.heap.size w w' := by
  have HDX := Lib.hid hx
  have HDY := Lib.hid hy
  clear hx hy
  obtain ⟨CC, hCC⟩ : ∃ c, cmpI (valN 4294967296 X 8) (valN 4294967296 Y 8) = c := ⟨_, rfl⟩
  have HCC := Lib.hid hCC
  rw [hCC]
  clear hCC
  go_enter Try.func59, Try.ntmps59
  go_wp2
  go_loopw [5] (fun i wr => ∃ j : Nat, j ≤ 8 ∧ i = .int .i64 ((j : Int) - 1) ∧ (∀ k, j ≤ k → k < 8 → X k = Y k) ∧ Below ((w.alloc (.cells #[.int .u64 (X 0), .int .u64 (X 1), .int .u64 (X 2), .int .u64 (X 3), .int .u64 (X 4), .int .u64 (X 5), .int .u64 (X 6), .int .u64 (X 7)] 84)).alloc (.cells #[.int .u64 (Y 0), .int .u64 (Y 1), .int .u64 (Y 2), .int .u64 (Y 3), .int .u64 (Y 4), .int .u64 (Y 5), .int .u64 (Y 6), .int .u64 (Y 7)] 84)).heap.size ((w.alloc (.cells #[.int .u64 (X 0), .int .u64 (X 1), .int .u64 (X 2), .int .u64 (X 3), .int .u64 (X 4), .int .u64 (X 5), .int .u64 (X 6), .int .u64 (X 7)] 84)).alloc (.cells #[.int .u64 (Y 0), .int .u64 (Y 1), .int .u64 (Y 2), .int .u64 (Y 3), .int .u64 (Y 4), .int .u64 (Y 5), .int .u64 (Y 6), .int .u64 (Y 7)] 84)) wr) (fun i _ => (intOf i + 1).toNat)
  case atStart => exact ⟨8, by omega, rfl, fun k h1 h2 => absurd h1 (by omega), Below.refl _ _⟩
  case round =>
    obtain ⟨j, hj, rfl, hq, hB⟩ := hrel
    have HBr : Hid (Below w.heap.size w wr) := by
      show Below _ _ _
      exact below_step (w := w) (by go_grown) hB
    have HBX := Lib.hid hB
    have HQ := Lib.hid hq
    have HX : Hid (DigAt wr w.heap.size 8 X) := by
      show DigAt _ _ _ _
      exact DigAt.below (w := ((w.alloc (.cells #[.int .u64 (X 0), .int .u64 (X 1), .int .u64 (X 2), .int .u64 (X 3), .int .u64 (X 4), .int .u64 (X 5), .int .u64 (X 6), .int .u64 (X 7)] 84)).alloc (.cells #[.int .u64 (Y 0), .int .u64 (Y 1), .int .u64 (Y 2), .int .u64 (Y 3), .int .u64 (Y 4), .int .u64 (Y 5), .int .u64 (Y 6), .int .u64 (Y 7)] 84))) (fun k hk => by match k, hk with
        | 0, _ => simp [go_sem]
        | 1, _ => simp [go_sem]
        | 2, _ => simp [go_sem]
        | 3, _ => simp [go_sem]
        | 4, _ => simp [go_sem]
        | 5, _ => simp [go_sem]
        | 6, _ => simp [go_sem]
        | 7, _ => simp [go_sem]
      ) hB (by simp <;> omega)
    have HY : Hid (DigAt wr (w.heap.size + 1) 8 Y) := by
      show DigAt _ _ _ _
      exact DigAt.below (w := ((w.alloc (.cells #[.int .u64 (X 0), .int .u64 (X 1), .int .u64 (X 2), .int .u64 (X 3), .int .u64 (X 4), .int .u64 (X 5), .int .u64 (X 6), .int .u64 (X 7)] 84)).alloc (.cells #[.int .u64 (Y 0), .int .u64 (Y 1), .int .u64 (Y 2), .int .u64 (Y 3), .int .u64 (Y 4), .int .u64 (Y 5), .int .u64 (Y 6), .int .u64 (Y 7)] 84))) (fun k hk => by match k, hk with
        | 0, _ => simp [go_sem]
        | 1, _ => simp [go_sem]
        | 2, _ => simp [go_sem]
        | 3, _ => simp [go_sem]
        | 4, _ => simp [go_sem]
        | 5, _ => simp [go_sem]
        | 6, _ => simp [go_sem]
        | 7, _ => simp [go_sem]
      ) hB (by simp <;> omega)
    have hs0 := hB.size
    (try simp only [World.size_alloc, World.size_setCell] at hs0)
    have z0 : w.heap.size < wr.heap.size := by omega
    have z1 : w.heap.size + 1 < wr.heap.size := by omega
    clear hq hB
    cases j with
    | zero =>
      have kg : decide ((0 : Int) ≤ -1) = false := by decide
      have HE : Hid (cmpI (valN 4294967296 X 8) (valN 4294967296 Y 8) = 0) := by
        show _ = _
        rw [valN_congr (fun k hk => HQ.out k (by omega) hk)]
        unfold cmpI
        rw [if_neg (by omega), if_neg (by omega)]
      simp only [show ((0 : Nat) : Int) - 1 = -1 from rfl] at *
      go_wp2
      go_returns
      rw [← HCC.out, HE.out]
      exact ⟨rfl, HBr.out⟩
    | succ i =>
      simp only [show ((i + 1 : Nat) : Int) - 1 = (i : Int) by omega]
      have hi : i < 8 := by omega
      have cx := HX.out i hi
      have cy := HY.out i hi
      have k0 : (0 : Int) ≤ (i : Int) := by omega
      have k1 : (i : Int) < 8 := by omega
      have kg : decide ((0 : Int) ≤ (i : Int)) = true := decide_eq_true k0
      by_cases hl : X i < Y i
      · have kl : decide (X i < Y i) = true := decide_eq_true hl
        have HE : Hid (cmpI (valN 4294967296 X 8) (valN 4294967296 Y 8) = -1) := if_pos (valN_lt (by decide) HDX.out HDY.out hi hl (fun k h1 h2 => HQ.out k (by omega) h2))
        go_wp2_with fail
        refine wp_region_relw 7 (by kernel_rfl) (by kernel_rfl) (by kernel_rfl) ?_
        simp only [List.take_succ_cons, List.take_zero, fillL, Act.put, List.setIfInBounds_toArray, List.set_cons_zero, List.set_cons_succ]
        iterate 7
          apply rel_is
          · intro u wx hb hd
            have hz := hb.size
            (try simp only [World.size_alloc, World.size_setCell] at hz)
            have hz0 : w.heap.size < wx.heap.size := by omega
            have hz1 : w.heap.size + 1 < wx.heap.size := by omega
            obtain ⟨hc, hf⟩ := bcell hb
            have HBX := Lib.hid hb
            clear hb hz
            simp [depsS, Region.binds, updS, Stay.is, Stay.any] at hd
            go_simp
            first | exact ⟨Below.refl _ _, rfl⟩ | rfl
        intro u w5 hb hE
        have e0 : u 0 = _ := endS_get hE 0 (by decide)
        have e1 : u 1 = _ := endS_get hE 1 (by decide)
        have e2 : u 2 = _ := endS_get hE 2 (by decide)
        have e3 : u 3 = _ := endS_get hE 3 (by decide)
        have e4 : u 4 = _ := endS_get hE 4 (by decide)
        have e5 : u 5 = _ := endS_get hE 5 (by decide)
        have e6 : u 6 = _ := endS_get hE 6 (by decide)
        simp only [List.drop_succ_cons, List.drop_zero, List.take_succ_cons, List.take_zero, fillL, Act.put, List.setIfInBounds_toArray, List.set_cons_zero, List.set_cons_succ, e0, e1, e2, e3, e4, e5, e6]
        clear e0 e1 e2 e3 e4 e5 e6 hE
        have HBw5 := Lib.hid (below_step (w := wr) (by first | assumption | go_grown) hb)
        have HBXw5 := Lib.hid hb
        have hzw5 := hb.size
        (try simp only [World.size_alloc, World.size_setCell] at hzw5)
        have hzw50 : w.heap.size < w5.heap.size := by omega
        have hzw51 : w.heap.size + 1 < w5.heap.size := by omega
        obtain ⟨hcw5, hfw5⟩ := bcell hb
        clear hb hzw5
        have HBv : Hid (Below w.heap.size w w5) := below_step HBr.out HBXw5.out
        go_wp2
        go_returns
        rw [← HCC.out, HE.out]
        exact ⟨rfl, HBv.out⟩
      · have kl : decide (X i < Y i) = false := decide_eq_false hl
        by_cases hg : Y i < X i
        · have kl2 : decide (Y i < X i) = true := decide_eq_true hg
          have HE : Hid (cmpI (valN 4294967296 X 8) (valN 4294967296 Y 8) = 1) := by
            show _ = _
            have := valN_lt (by decide) HDY.out HDX.out hi hg (fun k h1 h2 => (HQ.out k (by omega) h2).symm)
            unfold cmpI
            rw [if_neg (by omega), if_pos this]
          go_wp2_with fail
          refine wp_region_relw 7 (by kernel_rfl) (by kernel_rfl) (by kernel_rfl) ?_
          simp only [List.take_succ_cons, List.take_zero, fillL, Act.put, List.setIfInBounds_toArray, List.set_cons_zero, List.set_cons_succ]
          iterate 7
            apply rel_is
            · intro u wx hb hd
              have hz := hb.size
              (try simp only [World.size_alloc, World.size_setCell] at hz)
              have hz0 : w.heap.size < wx.heap.size := by omega
              have hz1 : w.heap.size + 1 < wx.heap.size := by omega
              obtain ⟨hc, hf⟩ := bcell hb
              have HBX := Lib.hid hb
              clear hb hz
              simp [depsS, Region.binds, updS, Stay.is, Stay.any] at hd
              go_simp
              first | exact ⟨Below.refl _ _, rfl⟩ | rfl
          intro u w5 hb hE
          have e0 : u 0 = _ := endS_get hE 0 (by decide)
          have e1 : u 1 = _ := endS_get hE 1 (by decide)
          have e2 : u 2 = _ := endS_get hE 2 (by decide)
          have e3 : u 3 = _ := endS_get hE 3 (by decide)
          have e4 : u 4 = _ := endS_get hE 4 (by decide)
          have e5 : u 5 = _ := endS_get hE 5 (by decide)
          have e6 : u 6 = _ := endS_get hE 6 (by decide)
          simp only [List.drop_succ_cons, List.drop_zero, List.take_succ_cons, List.take_zero, fillL, Act.put, List.setIfInBounds_toArray, List.set_cons_zero, List.set_cons_succ, e0, e1, e2, e3, e4, e5, e6]
          clear e0 e1 e2 e3 e4 e5 e6 hE
          have HBw5 := Lib.hid (below_step (w := wr) (by first | assumption | go_grown) hb)
          have HBXw5 := Lib.hid hb
          have hzw5 := hb.size
          (try simp only [World.size_alloc, World.size_setCell] at hzw5)
          have hzw50 : w.heap.size < w5.heap.size := by omega
          have hzw51 : w.heap.size + 1 < w5.heap.size := by omega
          obtain ⟨hcw5, hfw5⟩ := bcell hb
          clear hb hzw5
          have HBv : Hid (Below w.heap.size w w5) := below_step HBr.out HBXw5.out
          go_wp2_with fail
          refine wp_region_relw 7 (by kernel_rfl) (by kernel_rfl) (by kernel_rfl) ?_
          simp only [List.take_succ_cons, List.take_zero, fillL, Act.put, List.setIfInBounds_toArray, List.set_cons_zero, List.set_cons_succ]
          iterate 7
            apply rel_is
            · intro u wx hb hd
              have hz := hb.size
              (try simp only [World.size_alloc, World.size_setCell] at hz)
              have hz0 : w.heap.size < wx.heap.size := by omega
              have hz1 : w.heap.size + 1 < wx.heap.size := by omega
              obtain ⟨hc, hf⟩ := bcell hb
              have HBX := Lib.hid hb
              clear hb hz
              simp [depsS, Region.binds, updS, Stay.is, Stay.any] at hd
              go_simp
              first | exact ⟨Below.refl _ _, rfl⟩ | rfl
          intro u w6 hb hE
          have e0 : u 0 = _ := endS_get hE 0 (by decide)
          have e1 : u 1 = _ := endS_get hE 1 (by decide)
          have e2 : u 2 = _ := endS_get hE 2 (by decide)
          have e3 : u 3 = _ := endS_get hE 3 (by decide)
          have e4 : u 4 = _ := endS_get hE 4 (by decide)
          have e5 : u 5 = _ := endS_get hE 5 (by decide)
          have e6 : u 6 = _ := endS_get hE 6 (by decide)
          simp only [List.drop_succ_cons, List.drop_zero, List.take_succ_cons, List.take_zero, fillL, Act.put, List.setIfInBounds_toArray, List.set_cons_zero, List.set_cons_succ, e0, e1, e2, e3, e4, e5, e6]
          clear e0 e1 e2 e3 e4 e5 e6 hE
          have HBw6 := Lib.hid (below_step (w := w5) (by first | assumption | go_grown) hb)
          have HBXw6 := Lib.hid hb
          have hzw6 := hb.size
          (try simp only [World.size_alloc, World.size_setCell] at hzw6)
          have hzw60 : w.heap.size < w6.heap.size := by omega
          have hzw61 : w.heap.size + 1 < w6.heap.size := by omega
          obtain ⟨hcw6, hfw6⟩ := bcell hb
          clear hb hzw6
          have HBz : Hid (Below w.heap.size w w6) := below_step HBv.out HBXw6.out
          go_wp2
          go_returns
          rw [← HCC.out, HE.out]
          exact ⟨rfl, HBz.out⟩
        · have kl2 : decide (Y i < X i) = false := decide_eq_false hg
          go_wp2_with fail
          refine wp_region_relw 7 (by kernel_rfl) (by kernel_rfl) (by kernel_rfl) ?_
          simp only [List.take_succ_cons, List.take_zero, fillL, Act.put, List.setIfInBounds_toArray, List.set_cons_zero, List.set_cons_succ]
          iterate 7
            apply rel_is
            · intro u wx hb hd
              have hz := hb.size
              (try simp only [World.size_alloc, World.size_setCell] at hz)
              have hz0 : w.heap.size < wx.heap.size := by omega
              have hz1 : w.heap.size + 1 < wx.heap.size := by omega
              obtain ⟨hc, hf⟩ := bcell hb
              have HBX := Lib.hid hb
              clear hb hz
              simp [depsS, Region.binds, updS, Stay.is, Stay.any] at hd
              go_simp
              first | exact ⟨Below.refl _ _, rfl⟩ | rfl
          intro u w5 hb hE
          have e0 : u 0 = _ := endS_get hE 0 (by decide)
          have e1 : u 1 = _ := endS_get hE 1 (by decide)
          have e2 : u 2 = _ := endS_get hE 2 (by decide)
          have e3 : u 3 = _ := endS_get hE 3 (by decide)
          have e4 : u 4 = _ := endS_get hE 4 (by decide)
          have e5 : u 5 = _ := endS_get hE 5 (by decide)
          have e6 : u 6 = _ := endS_get hE 6 (by decide)
          simp only [List.drop_succ_cons, List.drop_zero, List.take_succ_cons, List.take_zero, fillL, Act.put, List.setIfInBounds_toArray, List.set_cons_zero, List.set_cons_succ, e0, e1, e2, e3, e4, e5, e6]
          clear e0 e1 e2 e3 e4 e5 e6 hE
          have HBw5 := Lib.hid (below_step (w := wr) (by first | assumption | go_grown) hb)
          have HBXw5 := Lib.hid hb
          have hzw5 := hb.size
          (try simp only [World.size_alloc, World.size_setCell] at hzw5)
          have hzw50 : w.heap.size < w5.heap.size := by omega
          have hzw51 : w.heap.size + 1 < w5.heap.size := by omega
          obtain ⟨hcw5, hfw5⟩ := bcell hb
          clear hb hzw5
          have HBv : Hid (Below w.heap.size w w5) := below_step HBr.out HBXw5.out
          go_wp2_with fail
          refine wp_region_relw 7 (by kernel_rfl) (by kernel_rfl) (by kernel_rfl) ?_
          simp only [List.take_succ_cons, List.take_zero, fillL, Act.put, List.setIfInBounds_toArray, List.set_cons_zero, List.set_cons_succ]
          iterate 7
            apply rel_is
            · intro u wx hb hd
              have hz := hb.size
              (try simp only [World.size_alloc, World.size_setCell] at hz)
              have hz0 : w.heap.size < wx.heap.size := by omega
              have hz1 : w.heap.size + 1 < wx.heap.size := by omega
              obtain ⟨hc, hf⟩ := bcell hb
              have HBX := Lib.hid hb
              clear hb hz
              simp [depsS, Region.binds, updS, Stay.is, Stay.any] at hd
              go_simp
              first | exact ⟨Below.refl _ _, rfl⟩ | rfl
          intro u w6 hb hE
          have e0 : u 0 = _ := endS_get hE 0 (by decide)
          have e1 : u 1 = _ := endS_get hE 1 (by decide)
          have e2 : u 2 = _ := endS_get hE 2 (by decide)
          have e3 : u 3 = _ := endS_get hE 3 (by decide)
          have e4 : u 4 = _ := endS_get hE 4 (by decide)
          have e5 : u 5 = _ := endS_get hE 5 (by decide)
          have e6 : u 6 = _ := endS_get hE 6 (by decide)
          simp only [List.drop_succ_cons, List.drop_zero, List.take_succ_cons, List.take_zero, fillL, Act.put, List.setIfInBounds_toArray, List.set_cons_zero, List.set_cons_succ, e0, e1, e2, e3, e4, e5, e6]
          clear e0 e1 e2 e3 e4 e5 e6 hE
          have HBw6 := Lib.hid (below_step (w := w5) (by first | assumption | go_grown) hb)
          have HBXw6 := Lib.hid hb
          have hzw6 := hb.size
          (try simp only [World.size_alloc, World.size_setCell] at hzw6)
          have hzw60 : w.heap.size < w6.heap.size := by omega
          have hzw61 : w.heap.size + 1 < w6.heap.size := by omega
          obtain ⟨hcw6, hfw6⟩ := bcell hb
          clear hb hzw6
          have HBz : Hid (Below w.heap.size w w6) := below_step HBv.out HBXw6.out
          go_wp2
          go_roundw
          case rel => exact ⟨i, by omega, by first | rfl | go_num, (fun k h1 h2 => by
            by_cases hk : k = i
            · subst hk; omega
            · exact HQ.out k (by omega) h2), below_step (below_step HBX.out HBXw5.out) HBXw6.out⟩
          case measure => simp [intOf] <;> omega

theorem lit5_upd (b : Bool) (X : Nat → Int) (j : Nat) (v : Int) (h : j < 4) : (#[.bool b, .int .u64 (X 0), .int .u64 (X 1), .int .u64 (X 2), .int .u64 (X 3)] : Array Value).setIfInBounds (1 + j) (.int .u64 v) = #[.bool b, .int .u64 ((updF X j v) 0), .int .u64 ((updF X j v) 1), .int .u64 ((updF X j v) 2), .int .u64 ((updF X j v) 3)] := by
  match j, h with
  | 0, _ => simp [updF]
  | 1, _ => simp [updF]
  | 2, _ => simp [updF]
  | 3, _ => simp [updF]
theorem dig5_at {w : World} {b : Nat} {s : Bool} {X : Nat → Int} {t : TypeId} (h : w.heap[b]? = some (.cells #[.bool s, .int .u64 (X 0), .int .u64 (X 1), .int .u64 (X 2), .int .u64 (X 3)] t)) : ∀ k, k < 4 → w.cell? ⟨b, 1 + k, none⟩ = some (.int .u64 (X k)) ∧ w.frozen? ⟨b, 1 + k, none⟩ = false := fun k hk => by
  obtain ⟨h0, h1, h2, h3, h4, h5, h6⟩ := cells_at5 h
  refine ⟨?_, h5 _⟩
  match k, hk with
  | 0, _ => exact h1
  | 1, _ => exact h2
  | 2, _ => exact h3
  | 3, _ => exact h4
set_option maxHeartbeats 2000000 in
theorem join_any (n : Bool) (D : Nat → Int) (w : World) (hd : dig 4294967296 8 D) :
    Calls Try.prog 57 #[.bool n, .agg #[.int .u64 (D 0), .int .u64 (D 1), .int .u64 (D 2), .int .u64 (D 3), .int .u64 (D 4), .int .u64 (D 5), .int .u64 (D 6), .int .u64 (D 7)]] w fun e w' => e = .returned (.agg #[.bool (sgB n (valN 4294967296 D 8)), .int .u64 ((joinF D) 0), .int .u64 ((joinF D) 1), .int .u64 ((joinF D) 2), .int .u64 ((joinF D) 3)]) ∧ Below w.heap.size w w' := by
  have HDD := Lib.hid hd
  clear hd
  obtain ⟨SG, hSG⟩ : ∃ b, sgB n (valN 4294967296 D 8) = b := ⟨_, rfl⟩
  have HSG0 := Lib.hid hSG
  rw [hSG]
  clear hSG
  go_enter Try.func57, Try.ntmps57
  go_wp2
  go_loopw [6] (fun i wr => ∃ (j : Nat) (M : Nat → Int), j ≤ 4 ∧ i = .int .i64 j ∧ (∀ k, k < j → M k = joinF D k) ∧ wr.heap[w.heap.size + 1 + 1]? = some (.cells #[.bool false, .int .u64 (M 0), .int .u64 (M 1), .int .u64 (M 2), .int .u64 (M 3)] 33) ∧ w.heap.size + 1 + 1 < wr.heap.size ∧ Below ((w.alloc (.cells #[.int .u64 (D 0), .int .u64 (D 1), .int .u64 (D 2), .int .u64 (D 3), .int .u64 (D 4), .int .u64 (D 5), .int .u64 (D 6), .int .u64 (D 7)] 84)).alloc (.cells #[.bool false, .int .u64 0, .int .u64 0, .int .u64 0, .int .u64 0] 33)).heap.size ((w.alloc (.cells #[.int .u64 (D 0), .int .u64 (D 1), .int .u64 (D 2), .int .u64 (D 3), .int .u64 (D 4), .int .u64 (D 5), .int .u64 (D 6), .int .u64 (D 7)] 84)).alloc (.cells #[.bool false, .int .u64 0, .int .u64 0, .int .u64 0, .int .u64 0] 33)) wr) (fun i _ => 4 - (intOf i).toNat)
  case atStart => exact ⟨0, zeroF, by omega, rfl, fun k hk => absurd hk (by omega), heapA_at _ _ _ (by simp), by simp <;> omega, by go_grown⟩
  case round =>
    obtain ⟨j, M, hj, rfl, he, hR, z2, hB⟩ := hrel
    have HB0 := Lib.hid hB
    have HE := Lib.hid he
    have HRB := Lib.hid hR
    have HX : Hid (DigAt wr w.heap.size 8 D) := by
      show DigAt _ _ _ _
      exact DigAt.below (w := ((w.alloc (.cells #[.int .u64 (D 0), .int .u64 (D 1), .int .u64 (D 2), .int .u64 (D 3), .int .u64 (D 4), .int .u64 (D 5), .int .u64 (D 6), .int .u64 (D 7)] 84)).alloc (.cells #[.bool false, .int .u64 0, .int .u64 0, .int .u64 0, .int .u64 0] 33))) (fun k hk => by
        match k, hk with
        | 0, _ => simp [go_sem]
        | 1, _ => simp [go_sem]
        | 2, _ => simp [go_sem]
        | 3, _ => simp [go_sem]
        | 4, _ => simp [go_sem]
        | 5, _ => simp [go_sem]
        | 6, _ => simp [go_sem]
        | 7, _ => simp [go_sem]) hB (by simp <;> omega)
    have HBr : Hid (Below w.heap.size w wr) := by
      show Below _ _ _
      exact below_step (w := w) (by go_grown) hB
    have hBw := HBr.out
    have z0 : w.heap.size < wr.heap.size := by omega
    have z1 : w.heap.size + 1 < wr.heap.size := by omega
    have q0 : wr.cell? ⟨w.heap.size + 1, 0, none⟩ = some (.bool false) := (hB.cell (p := ⟨_, _, none⟩) (by simp <;> omega)).trans (by simp [go_sem])
    have fq0 : wr.frozen? ⟨w.heap.size + 1, 0, none⟩ = false := (hB.frozen (p := ⟨_, _, none⟩) (by simp <;> omega)).trans (by simp [go_sem])
    have q1 : wr.cell? ⟨w.heap.size + 1, 1, none⟩ = some (.int .u64 0) := (hB.cell (p := ⟨_, _, none⟩) (by simp <;> omega)).trans (by simp [go_sem])
    have fq1 : wr.frozen? ⟨w.heap.size + 1, 1, none⟩ = false := (hB.frozen (p := ⟨_, _, none⟩) (by simp <;> omega)).trans (by simp [go_sem])
    have q2 : wr.cell? ⟨w.heap.size + 1, 2, none⟩ = some (.int .u64 0) := (hB.cell (p := ⟨_, _, none⟩) (by simp <;> omega)).trans (by simp [go_sem])
    have fq2 : wr.frozen? ⟨w.heap.size + 1, 2, none⟩ = false := (hB.frozen (p := ⟨_, _, none⟩) (by simp <;> omega)).trans (by simp [go_sem])
    have q3 : wr.cell? ⟨w.heap.size + 1, 3, none⟩ = some (.int .u64 0) := (hB.cell (p := ⟨_, _, none⟩) (by simp <;> omega)).trans (by simp [go_sem])
    have fq3 : wr.frozen? ⟨w.heap.size + 1, 3, none⟩ = false := (hB.frozen (p := ⟨_, _, none⟩) (by simp <;> omega)).trans (by simp [go_sem])
    have q4 : wr.cell? ⟨w.heap.size + 1, 4, none⟩ = some (.int .u64 0) := (hB.cell (p := ⟨_, _, none⟩) (by simp <;> omega)).trans (by simp [go_sem])
    have fq4 : wr.frozen? ⟨w.heap.size + 1, 4, none⟩ = false := (hB.frozen (p := ⟨_, _, none⟩) (by simp <;> omega)).trans (by simp [go_sem])
    clear he hR hB
    by_cases hlt : j < 4
    · have c0 := HX.out (2 * j) (by omega)
      have c1 := HX.out (2 * j + 1) (by omega)
      have k0 : (0 : Int) ≤ (j : Int) := by omega
      have k1 : (j : Int) < 4 := by omega
      have k2 : ((2 * j : Nat) : Int) < 8 := by omega
      have k3 : ((2 * j + 1 : Nat) : Int) < 8 := by omega
      have k4 : (0 : Int) ≤ ((2 * j : Nat) : Int) := by omega
      have k5 : (0 : Int) ≤ ((2 * j + 1 : Nat) : Int) := by omega
      have k6 : 2 * (j : Int) < 8 := by omega
      have k7 : 0 ≤ 2 * (j : Int) := by omega
      have k8 : 2 * (j : Int) + 1 < 8 := by omega
      have k9 : 0 ≤ 2 * (j : Int) + 1 := by omega
      have v0 : IntKind.i64.wrap (2 * (j : Int)) = 2 * (j : Int) := IntWalk.i64_in _ (by omega)
      have v1 : IntKind.i64.wrap (2 * (j : Int) + 1) = 2 * (j : Int) + 1 := IntWalk.i64_in _ (by omega)
      have t0 : (2 * (j : Int)).toNat = 2 * j := by omega
      have t1 : (2 * (j : Int) + 1).toNat = 2 * j + 1 := by omega
      have h1 := HDD.out (2 * j) (by omega)
      have h2 := HDD.out (2 * j + 1) (by omega)
      have m0 : IntKind.u64.wrap (4294967296 * D (2 * j + 1)) = 4294967296 * D (2 * j + 1) := by rw [IntKind.wrap_u64]; omega
      have m1 : IntKind.u64.wrap (D (2 * j) + 4294967296 * D (2 * j + 1)) = joinF D j := by rw [IntKind.wrap_u64]; unfold joinF; omega
      clear h1 h2
      go_wp2_with fail
      refine wp_region_seq 15 [] [⟨w.heap.size + 1 + 1, 14, #[.bool false, .int .u64 (M 0), .int .u64 (M 1), .int .u64 (M 2), .int .u64 (M 3)], 33⟩] (by kernel_rfl) (by kernel_rfl) (by kernel_rfl) (by kernel_rfl) (by kernel_rfl) ?_ ?_ ?_
      · intro r hr
        simp only [List.mem_singleton] at hr
        subst hr
        have x0 := HRB.out
        refine ⟨by show w.heap.size + 1 + 1 < _; first | omega | (simp <;> omega), ?_⟩
        show _[w.heap.size + 1 + 1]? = _
        first | assumption | (simp (disch := (first | omega | (simp only [World.size_alloc, World.size_setCell] <;> omega))) only [x0, heapA_at, heapA_old, heapS_same, heapS_other, setObj, Option.map_some]; done)
      · intro r hr s hs h
        simp only [List.mem_singleton] at hr hs
        subst hr hs
        exact absurd rfl h
      simp only [List.take_succ_cons, List.take_zero, fillL, Act.put, List.setIfInBounds_toArray, List.set_cons_zero, List.set_cons_succ]
      apply seq_is (by kernel_rfl)
      · intro u wx hb hd
        have hz := hb.size
        (try simp only [World.size_alloc, World.size_setCell] at hz)
        have hz0 : w.heap.size < wx.heap.size := by omega
        have hz1 : w.heap.size + 1 < wx.heap.size := by omega
        have hz2 : w.heap.size + 1 + 1 < wx.heap.size := by omega
        obtain ⟨kc0, kf0⟩ := hb.cell (w.heap.size) (by first | omega | (simp <;> omega)) (by intro r hr; simp only [List.mem_singleton] at hr; subst hr; show w.heap.size + 1 + 1 ≠ w.heap.size; omega)
        obtain ⟨kc1, kf1⟩ := hb.cell (w.heap.size + 1) (by first | omega | (simp <;> omega)) (by intro r hr; simp only [List.mem_singleton] at hr; subst hr; show w.heap.size + 1 + 1 ≠ w.heap.size + 1; omega)
        clear hb hz
        simp [depsE, Region.binds, updE, kindOf, Prp.is, Prp.any] at hd
        go_simp
        first | exact ⟨Below.refl _ _, rfl⟩ | rfl
      apply seq_is (by kernel_rfl)
      · intro u wx hb hd
        have hz := hb.size
        (try simp only [World.size_alloc, World.size_setCell] at hz)
        have hz0 : w.heap.size < wx.heap.size := by omega
        have hz1 : w.heap.size + 1 < wx.heap.size := by omega
        have hz2 : w.heap.size + 1 + 1 < wx.heap.size := by omega
        obtain ⟨kc0, kf0⟩ := hb.cell (w.heap.size) (by first | omega | (simp <;> omega)) (by intro r hr; simp only [List.mem_singleton] at hr; subst hr; show w.heap.size + 1 + 1 ≠ w.heap.size; omega)
        obtain ⟨kc1, kf1⟩ := hb.cell (w.heap.size + 1) (by first | omega | (simp <;> omega)) (by intro r hr; simp only [List.mem_singleton] at hr; subst hr; show w.heap.size + 1 + 1 ≠ w.heap.size + 1; omega)
        clear hb hz
        simp [depsE, Region.binds, updE, kindOf, Prp.is, Prp.any] at hd
        go_simp
        first | exact ⟨Below.refl _ _, rfl⟩ | rfl
      apply seq_is (by kernel_rfl)
      · intro u wx hb hd
        have hz := hb.size
        (try simp only [World.size_alloc, World.size_setCell] at hz)
        have hz0 : w.heap.size < wx.heap.size := by omega
        have hz1 : w.heap.size + 1 < wx.heap.size := by omega
        have hz2 : w.heap.size + 1 + 1 < wx.heap.size := by omega
        obtain ⟨kc0, kf0⟩ := hb.cell (w.heap.size) (by first | omega | (simp <;> omega)) (by intro r hr; simp only [List.mem_singleton] at hr; subst hr; show w.heap.size + 1 + 1 ≠ w.heap.size; omega)
        obtain ⟨kc1, kf1⟩ := hb.cell (w.heap.size + 1) (by first | omega | (simp <;> omega)) (by intro r hr; simp only [List.mem_singleton] at hr; subst hr; show w.heap.size + 1 + 1 ≠ w.heap.size + 1; omega)
        clear hb hz
        simp [depsE, Region.binds, updE, kindOf, Prp.is, Prp.any] at hd
        go_simp
        first | exact ⟨Below.refl _ _, rfl⟩ | rfl
      apply seq_is (by kernel_rfl)
      · intro u wx hb hd
        have hz := hb.size
        (try simp only [World.size_alloc, World.size_setCell] at hz)
        have hz0 : w.heap.size < wx.heap.size := by omega
        have hz1 : w.heap.size + 1 < wx.heap.size := by omega
        have hz2 : w.heap.size + 1 + 1 < wx.heap.size := by omega
        obtain ⟨kc0, kf0⟩ := hb.cell (w.heap.size) (by first | omega | (simp <;> omega)) (by intro r hr; simp only [List.mem_singleton] at hr; subst hr; show w.heap.size + 1 + 1 ≠ w.heap.size; omega)
        obtain ⟨kc1, kf1⟩ := hb.cell (w.heap.size + 1) (by first | omega | (simp <;> omega)) (by intro r hr; simp only [List.mem_singleton] at hr; subst hr; show w.heap.size + 1 + 1 ≠ w.heap.size + 1; omega)
        clear hb hz
        simp [depsE, Region.binds, updE, kindOf, Prp.is, Prp.any] at hd
        go_simp
        first | exact ⟨Below.refl _ _, rfl⟩ | rfl
      apply seq_is (by kernel_rfl)
      · intro u wx hb hd
        have hz := hb.size
        (try simp only [World.size_alloc, World.size_setCell] at hz)
        have hz0 : w.heap.size < wx.heap.size := by omega
        have hz1 : w.heap.size + 1 < wx.heap.size := by omega
        have hz2 : w.heap.size + 1 + 1 < wx.heap.size := by omega
        obtain ⟨kc0, kf0⟩ := hb.cell (w.heap.size) (by first | omega | (simp <;> omega)) (by intro r hr; simp only [List.mem_singleton] at hr; subst hr; show w.heap.size + 1 + 1 ≠ w.heap.size; omega)
        obtain ⟨kc1, kf1⟩ := hb.cell (w.heap.size + 1) (by first | omega | (simp <;> omega)) (by intro r hr; simp only [List.mem_singleton] at hr; subst hr; show w.heap.size + 1 + 1 ≠ w.heap.size + 1; omega)
        clear hb hz
        simp [depsE, Region.binds, updE, kindOf, Prp.is, Prp.any] at hd
        go_simp
        first | exact ⟨Below.refl _ _, rfl⟩ | rfl
      apply seq_is (by kernel_rfl)
      · intro u wx hb hd
        have hz := hb.size
        (try simp only [World.size_alloc, World.size_setCell] at hz)
        have hz0 : w.heap.size < wx.heap.size := by omega
        have hz1 : w.heap.size + 1 < wx.heap.size := by omega
        have hz2 : w.heap.size + 1 + 1 < wx.heap.size := by omega
        obtain ⟨kc0, kf0⟩ := hb.cell (w.heap.size) (by first | omega | (simp <;> omega)) (by intro r hr; simp only [List.mem_singleton] at hr; subst hr; show w.heap.size + 1 + 1 ≠ w.heap.size; omega)
        obtain ⟨kc1, kf1⟩ := hb.cell (w.heap.size + 1) (by first | omega | (simp <;> omega)) (by intro r hr; simp only [List.mem_singleton] at hr; subst hr; show w.heap.size + 1 + 1 ≠ w.heap.size + 1; omega)
        clear hb hz
        simp [depsE, Region.binds, updE, kindOf, Prp.is, Prp.any] at hd
        go_simp
        first | exact ⟨Below.refl _ _, rfl⟩ | rfl
      apply seq_is (by kernel_rfl)
      · intro u wx hb hd
        have hz := hb.size
        (try simp only [World.size_alloc, World.size_setCell] at hz)
        have hz0 : w.heap.size < wx.heap.size := by omega
        have hz1 : w.heap.size + 1 < wx.heap.size := by omega
        have hz2 : w.heap.size + 1 + 1 < wx.heap.size := by omega
        obtain ⟨kc0, kf0⟩ := hb.cell (w.heap.size) (by first | omega | (simp <;> omega)) (by intro r hr; simp only [List.mem_singleton] at hr; subst hr; show w.heap.size + 1 + 1 ≠ w.heap.size; omega)
        obtain ⟨kc1, kf1⟩ := hb.cell (w.heap.size + 1) (by first | omega | (simp <;> omega)) (by intro r hr; simp only [List.mem_singleton] at hr; subst hr; show w.heap.size + 1 + 1 ≠ w.heap.size + 1; omega)
        clear hb hz
        simp [depsE, Region.binds, updE, kindOf, Prp.is, Prp.any] at hd
        go_simp
        first | exact ⟨Below.refl _ _, rfl⟩ | rfl
      apply seq_is (by kernel_rfl)
      · intro u wx hb hd
        have hz := hb.size
        (try simp only [World.size_alloc, World.size_setCell] at hz)
        have hz0 : w.heap.size < wx.heap.size := by omega
        have hz1 : w.heap.size + 1 < wx.heap.size := by omega
        have hz2 : w.heap.size + 1 + 1 < wx.heap.size := by omega
        obtain ⟨kc0, kf0⟩ := hb.cell (w.heap.size) (by first | omega | (simp <;> omega)) (by intro r hr; simp only [List.mem_singleton] at hr; subst hr; show w.heap.size + 1 + 1 ≠ w.heap.size; omega)
        obtain ⟨kc1, kf1⟩ := hb.cell (w.heap.size + 1) (by first | omega | (simp <;> omega)) (by intro r hr; simp only [List.mem_singleton] at hr; subst hr; show w.heap.size + 1 + 1 ≠ w.heap.size + 1; omega)
        clear hb hz
        simp [depsE, Region.binds, updE, kindOf, Prp.is, Prp.any] at hd
        go_simp
        first | exact ⟨Below.refl _ _, rfl⟩ | rfl
      apply seq_is (by kernel_rfl)
      · intro u wx hb hd
        have hz := hb.size
        (try simp only [World.size_alloc, World.size_setCell] at hz)
        have hz0 : w.heap.size < wx.heap.size := by omega
        have hz1 : w.heap.size + 1 < wx.heap.size := by omega
        have hz2 : w.heap.size + 1 + 1 < wx.heap.size := by omega
        obtain ⟨kc0, kf0⟩ := hb.cell (w.heap.size) (by first | omega | (simp <;> omega)) (by intro r hr; simp only [List.mem_singleton] at hr; subst hr; show w.heap.size + 1 + 1 ≠ w.heap.size; omega)
        obtain ⟨kc1, kf1⟩ := hb.cell (w.heap.size + 1) (by first | omega | (simp <;> omega)) (by intro r hr; simp only [List.mem_singleton] at hr; subst hr; show w.heap.size + 1 + 1 ≠ w.heap.size + 1; omega)
        clear hb hz
        simp [depsE, Region.binds, updE, kindOf, Prp.is, Prp.any] at hd
        go_simp
        first | exact ⟨Below.refl _ _, rfl⟩ | rfl
      apply seq_is (by kernel_rfl)
      · intro u wx hb hd
        have hz := hb.size
        (try simp only [World.size_alloc, World.size_setCell] at hz)
        have hz0 : w.heap.size < wx.heap.size := by omega
        have hz1 : w.heap.size + 1 < wx.heap.size := by omega
        have hz2 : w.heap.size + 1 + 1 < wx.heap.size := by omega
        obtain ⟨kc0, kf0⟩ := hb.cell (w.heap.size) (by first | omega | (simp <;> omega)) (by intro r hr; simp only [List.mem_singleton] at hr; subst hr; show w.heap.size + 1 + 1 ≠ w.heap.size; omega)
        obtain ⟨kc1, kf1⟩ := hb.cell (w.heap.size + 1) (by first | omega | (simp <;> omega)) (by intro r hr; simp only [List.mem_singleton] at hr; subst hr; show w.heap.size + 1 + 1 ≠ w.heap.size + 1; omega)
        clear hb hz
        simp [depsE, Region.binds, updE, kindOf, Prp.is, Prp.any] at hd
        go_simp
        first | exact ⟨Below.refl _ _, rfl⟩ | rfl
      apply seq_is (by kernel_rfl)
      · intro u wx hb hd
        have hz := hb.size
        (try simp only [World.size_alloc, World.size_setCell] at hz)
        have hz0 : w.heap.size < wx.heap.size := by omega
        have hz1 : w.heap.size + 1 < wx.heap.size := by omega
        have hz2 : w.heap.size + 1 + 1 < wx.heap.size := by omega
        obtain ⟨kc0, kf0⟩ := hb.cell (w.heap.size) (by first | omega | (simp <;> omega)) (by intro r hr; simp only [List.mem_singleton] at hr; subst hr; show w.heap.size + 1 + 1 ≠ w.heap.size; omega)
        obtain ⟨kc1, kf1⟩ := hb.cell (w.heap.size + 1) (by first | omega | (simp <;> omega)) (by intro r hr; simp only [List.mem_singleton] at hr; subst hr; show w.heap.size + 1 + 1 ≠ w.heap.size + 1; omega)
        clear hb hz
        simp [depsE, Region.binds, updE, kindOf, Prp.is, Prp.any] at hd
        go_simp
        first | exact ⟨Below.refl _ _, rfl⟩ | rfl
      apply seq_is (by kernel_rfl)
      · intro u wx hb hd
        have hz := hb.size
        (try simp only [World.size_alloc, World.size_setCell] at hz)
        have hz0 : w.heap.size < wx.heap.size := by omega
        have hz1 : w.heap.size + 1 < wx.heap.size := by omega
        have hz2 : w.heap.size + 1 + 1 < wx.heap.size := by omega
        obtain ⟨kc0, kf0⟩ := hb.cell (w.heap.size) (by first | omega | (simp <;> omega)) (by intro r hr; simp only [List.mem_singleton] at hr; subst hr; show w.heap.size + 1 + 1 ≠ w.heap.size; omega)
        obtain ⟨kc1, kf1⟩ := hb.cell (w.heap.size + 1) (by first | omega | (simp <;> omega)) (by intro r hr; simp only [List.mem_singleton] at hr; subst hr; show w.heap.size + 1 + 1 ≠ w.heap.size + 1; omega)
        clear hb hz
        simp [depsE, Region.binds, updE, kindOf, Prp.is, Prp.any] at hd
        go_simp
        first | exact ⟨Below.refl _ _, rfl⟩ | rfl
      apply seq_is (by kernel_rfl)
      · intro u wx hb hd
        have hz := hb.size
        (try simp only [World.size_alloc, World.size_setCell] at hz)
        have hz0 : w.heap.size < wx.heap.size := by omega
        have hz1 : w.heap.size + 1 < wx.heap.size := by omega
        have hz2 : w.heap.size + 1 + 1 < wx.heap.size := by omega
        obtain ⟨kc0, kf0⟩ := hb.cell (w.heap.size) (by first | omega | (simp <;> omega)) (by intro r hr; simp only [List.mem_singleton] at hr; subst hr; show w.heap.size + 1 + 1 ≠ w.heap.size; omega)
        obtain ⟨kc1, kf1⟩ := hb.cell (w.heap.size + 1) (by first | omega | (simp <;> omega)) (by intro r hr; simp only [List.mem_singleton] at hr; subst hr; show w.heap.size + 1 + 1 ≠ w.heap.size + 1; omega)
        clear hb hz
        simp [depsE, Region.binds, updE, kindOf, Prp.is, Prp.any] at hd
        go_simp
        first | exact ⟨Below.refl _ _, rfl⟩ | rfl
      apply seq_is (by kernel_rfl)
      · intro u wx hb hd
        have hz := hb.size
        (try simp only [World.size_alloc, World.size_setCell] at hz)
        have hz0 : w.heap.size < wx.heap.size := by omega
        have hz1 : w.heap.size + 1 < wx.heap.size := by omega
        have hz2 : w.heap.size + 1 + 1 < wx.heap.size := by omega
        obtain ⟨kc0, kf0⟩ := hb.cell (w.heap.size) (by first | omega | (simp <;> omega)) (by intro r hr; simp only [List.mem_singleton] at hr; subst hr; show w.heap.size + 1 + 1 ≠ w.heap.size; omega)
        obtain ⟨kc1, kf1⟩ := hb.cell (w.heap.size + 1) (by first | omega | (simp <;> omega)) (by intro r hr; simp only [List.mem_singleton] at hr; subst hr; show w.heap.size + 1 + 1 ≠ w.heap.size + 1; omega)
        clear hb hz
        simp [depsE, Region.binds, updE, kindOf, Prp.is, Prp.any] at hd
        go_simp
        first | exact ⟨Below.refl _ _, rfl⟩ | rfl
      apply seq_pre_agg (cs := #[.bool false, .int .u64 ((updF M j (joinF D j)) 0), .int .u64 ((updF M j (joinF D j)) 1), .int .u64 ((updF M j (joinF D j)) 2), .int .u64 ((updF M j (joinF D j)) 3)]) ⟨w.heap.size + 1 + 1, 14, #[.bool false, .int .u64 (M 0), .int .u64 (M 1), .int .u64 (M 2), .int .u64 (M 3)], 33⟩ (by simp) rfl (by kernel_rfl) rfl
      · intro u wx hb hd
        have hz := hb.size
        (try simp only [World.size_alloc, World.size_setCell] at hz)
        have hz0 : w.heap.size < wx.heap.size := by omega
        have hz1 : w.heap.size + 1 < wx.heap.size := by omega
        have hz2 : w.heap.size + 1 + 1 < wx.heap.size := by omega
        obtain ⟨kc0, kf0⟩ := hb.cell (w.heap.size) (by first | omega | (simp <;> omega)) (by intro r hr; simp only [List.mem_singleton] at hr; subst hr; show w.heap.size + 1 + 1 ≠ w.heap.size; omega)
        obtain ⟨kc1, kf1⟩ := hb.cell (w.heap.size + 1) (by first | omega | (simp <;> omega)) (by intro r hr; simp only [List.mem_singleton] at hr; subst hr; show w.heap.size + 1 + 1 ≠ w.heap.size + 1; omega)
        clear hb hz
        simp [depsE, Region.binds, updE, kindOf, Prp.is, Prp.any] at hd
        refine ⟨by simp [Region.wanted], fun hcells => ?_⟩
        have hcells' : wx.heap[w.heap.size + 1 + 1]? = some (.cells #[.bool false, .int .u64 (M 0), .int .u64 (M 1), .int .u64 (M 2), .int .u64 (M 3)] 33) := hcells
        obtain ⟨crx, frx⟩ := dig5_at hcells' j hlt
        have HCL := Lib.hid hcells'
        clear hcells hcells'
        go_simp
        have hst := (Stored.refl HCL.out).set (1 + j) (.int .u64 (joinF D j))
        rwa [lit5_upd false M j (joinF D j) hlt] at hst
      intro u w5 hb hE hV hP
      have e0 : u 0 = _ := endE_get hE 0 (by decide) (by simp [kindOf])
      have e1 : u 1 = _ := endE_get hE 1 (by decide) (by simp [kindOf])
      have e2 : u 2 = _ := endE_get hE 2 (by decide) (by simp [kindOf])
      have e3 : u 3 = _ := endE_get hE 3 (by decide) (by simp [kindOf])
      have e4 : u 4 = _ := endE_get hE 4 (by decide) (by simp [kindOf])
      have e5 : u 5 = _ := endE_get hE 5 (by decide) (by simp [kindOf])
      have e6 : u 6 = _ := endE_get hE 6 (by decide) (by simp [kindOf])
      have e7 : u 7 = _ := endE_get hE 7 (by decide) (by simp [kindOf])
      have e8 : u 8 = _ := endE_get hE 8 (by decide) (by simp [kindOf])
      have e9 : u 9 = _ := endE_get hE 9 (by decide) (by simp [kindOf])
      have e10 : u 10 = _ := endE_get hE 10 (by decide) (by simp [kindOf])
      have e11 : u 11 = _ := endE_get hE 11 (by decide) (by simp [kindOf])
      have e12 : u 12 = _ := endE_get hE 12 (by decide) (by simp [kindOf])
      have e13 : u 13 = _ := endE_get hE 13 (by decide) (by simp [kindOf])
      have e14 : u 14 = _ := endE_get hE 14 (by decide) (by simp [kindOf])
      clear hV
      have qp : w5.heap[w.heap.size + 1 + 1]? = some (.cells (u 14).cells 33) := hP.1
      rw [e14] at qp
      obtain ⟨mpw50, mpw51, mpw52, mpw53, mpw54, mpfw5, mpsw5⟩ := cells_at5 qp
      have HPw5 := Lib.hid qp
      clear qp hP
      simp only [List.drop_succ_cons, List.drop_zero, List.take_succ_cons, List.take_zero, fillL, Act.put, List.setIfInBounds_toArray, List.set_cons_zero, List.set_cons_succ, e0, e1, e2, e3, e4, e5, e6, e7, e8, e9, e10, e11, e12, e13, e14]
      clear e0 e1 e2 e3 e4 e5 e6 e7 e8 e9 e10 e11 e12 e13 e14 hE
      have hw5 : Below w.heap.size w w5 := Below.trans (by first | assumption | go_grown) (hb.below (B := w.heap.size) (by first | omega | (simp <;> omega)) (by intro r hr; simp only [List.mem_singleton] at hr; subst hr; show w.heap.size ≤ w.heap.size + 1 + 1; omega))
      have hzw5 := hb.size
      (try simp only [World.size_alloc, World.size_setCell] at hzw5)
      have hzw50 : w.heap.size < w5.heap.size := by omega
      have hzw51 : w.heap.size + 1 < w5.heap.size := by omega
      have hzw52 : w.heap.size + 1 + 1 < w5.heap.size := by omega
      obtain ⟨hcw50, hfw50⟩ := hb.cell (w.heap.size) (by first | omega | (simp <;> omega)) (by intro r hr; simp only [List.mem_singleton] at hr; subst hr; show w.heap.size + 1 + 1 ≠ w.heap.size; omega)
      obtain ⟨hcw51, hfw51⟩ := hb.cell (w.heap.size + 1) (by first | omega | (simp <;> omega)) (by intro r hr; simp only [List.mem_singleton] at hr; subst hr; show w.heap.size + 1 + 1 ≠ w.heap.size + 1; omega)
      have HKP := Lib.hid hb
      clear hb hzw5
      have HBY : Hid (Below ((w.alloc (.cells #[.int .u64 (D 0), .int .u64 (D 1), .int .u64 (D 2), .int .u64 (D 3), .int .u64 (D 4), .int .u64 (D 5), .int .u64 (D 6), .int .u64 (D 7)] 84)).alloc (.cells #[.bool false, .int .u64 0, .int .u64 0, .int .u64 0, .int .u64 0] 33)).heap.size ((w.alloc (.cells #[.int .u64 (D 0), .int .u64 (D 1), .int .u64 (D 2), .int .u64 (D 3), .int .u64 (D 4), .int .u64 (D 5), .int .u64 (D 6), .int .u64 (D 7)] 84)).alloc (.cells #[.bool false, .int .u64 0, .int .u64 0, .int .u64 0, .int .u64 0] 33)) w5) := by
        show Below _ _ _
        exact HB0.out.trans (HKP.out.below (B := ((w.alloc (.cells #[.int .u64 (D 0), .int .u64 (D 1), .int .u64 (D 2), .int .u64 (D 3), .int .u64 (D 4), .int .u64 (D 5), .int .u64 (D 6), .int .u64 (D 7)] 84)).alloc (.cells #[.bool false, .int .u64 0, .int .u64 0, .int .u64 0, .int .u64 0] 33)).heap.size) (by simp <;> omega) (by intro r hr; simp only [List.mem_singleton] at hr; subst hr; simp))
      go_wp2
      go_roundw
      case rel => exact ⟨j + 1, updF M j (joinF D j), by omega, by go_num, (fun k hk => by
        unfold updF
        split
        · rename_i hkj; rw [hkj]
        · exact HE.out k (by omega)), HPw5.out, by omega, HBY.out⟩
      case measure => simp [intOf]; omega
    · obtain rfl : j = 4 := by omega
      have HQ : Hid (wr.heap[w.heap.size + 1 + 1]? = some (.cells #[.bool false, .int .u64 ((joinF D) 0), .int .u64 ((joinF D) 1), .int .u64 ((joinF D) 2), .int .u64 ((joinF D) 3)] 33)) := by
        show _ = _
        rw [HRB.out, HE.out 0 (by decide), HE.out 1 (by decide), HE.out 2 (by decide), HE.out 3 (by decide)]
      obtain ⟨m0, m1, m2, m3, m4, mf, -⟩ := cells_at5 HQ.out
      cases n with
      | false =>
        have HSG : Hid (SG = false) := by
          show _ = _
          rw [← HSG0.out]
          have := valN_bd (by decide) HDD.out
          exact decide_eq_false (by simp; omega)
        go_wp2
        all_goals (refine bodyPost_ret (v := .agg #[.bool false, .int .u64 (joinF D 0), .int .u64 (joinF D 1), .int .u64 (joinF D 2), .int .u64 (joinF D 3)]) (by simp (maxDischargeDepth := 9) [results, Try.results57, go_sem, *]) rfl ?_)
        rw [HSG.out]
        exact ⟨rfl, by go_grown⟩
      | true =>
        obtain ⟨ZZ, hZZ⟩ : ∃ b, decide (valN 4294967296 D 8 = 0) = b := ⟨_, rfl⟩
        have HZZ := Lib.hid hZZ
        have HSG : Hid (SG = !ZZ) := by
          show _ = _
          rw [← HSG0.out, ← hZZ]
          have := valN_bd (by decide) HDD.out
          unfold sgB
          by_cases h0 : valN 4294967296 D 8 = 0
          · rw [decide_eq_true h0, decide_eq_false (by rw [if_pos rfl, h0]; decide)]
            rfl
          · rw [decide_eq_false h0, decide_eq_true (by rw [if_pos rfl]; omega)]
            rfl
        clear hZZ
        have x0 := HX.out 0 (by decide)
        have x1 := HX.out 1 (by decide)
        have x2 := HX.out 2 (by decide)
        have x3 := HX.out 3 (by decide)
        have x4 := HX.out 4 (by decide)
        have x5 := HX.out 5 (by decide)
        have x6 := HX.out 6 (by decide)
        have x7 := HX.out 7 (by decide)
        go_wp2_with fail
        (go_at_call 74; refine (zero_any D _ HDD.out).mono ?_; rintro e_ w6 ⟨rfl, hb⟩)
        rw [HZZ.out]
        have hB6 : Below w.heap.size w w6 := below_step hBw hb
        have zs6 := hb.size
        have p0 : w6.cell? ⟨w.heap.size + 1, 0, none⟩ = some (.bool false) := (hb.cell (p := ⟨_, _, none⟩) z1).trans q0
        have fp0 : w6.frozen? ⟨w.heap.size + 1, 0, none⟩ = false := (hb.frozen (p := ⟨_, _, none⟩) z1).trans fq0
        have p1 : w6.cell? ⟨w.heap.size + 1, 1, none⟩ = some (.int .u64 0) := (hb.cell (p := ⟨_, _, none⟩) z1).trans q1
        have fp1 : w6.frozen? ⟨w.heap.size + 1, 1, none⟩ = false := (hb.frozen (p := ⟨_, _, none⟩) z1).trans fq1
        have p2 : w6.cell? ⟨w.heap.size + 1, 2, none⟩ = some (.int .u64 0) := (hb.cell (p := ⟨_, _, none⟩) z1).trans q2
        have fp2 : w6.frozen? ⟨w.heap.size + 1, 2, none⟩ = false := (hb.frozen (p := ⟨_, _, none⟩) z1).trans fq2
        have p3 : w6.cell? ⟨w.heap.size + 1, 3, none⟩ = some (.int .u64 0) := (hb.cell (p := ⟨_, _, none⟩) z1).trans q3
        have fp3 : w6.frozen? ⟨w.heap.size + 1, 3, none⟩ = false := (hb.frozen (p := ⟨_, _, none⟩) z1).trans fq3
        have p4 : w6.cell? ⟨w.heap.size + 1, 4, none⟩ = some (.int .u64 0) := (hb.cell (p := ⟨_, _, none⟩) z1).trans q4
        have fp4 : w6.frozen? ⟨w.heap.size + 1, 4, none⟩ = false := (hb.frozen (p := ⟨_, _, none⟩) z1).trans fq4
        have n0 := (hb.cell (p := ⟨_, 0, none⟩) z2).trans m0
        have nf0 := (hb.frozen (p := ⟨_, 0, none⟩) z2).trans (mf 0)
        have n1 := (hb.cell (p := ⟨_, 1, none⟩) z2).trans m1
        have nf1 := (hb.frozen (p := ⟨_, 1, none⟩) z2).trans (mf 1)
        have n2 := (hb.cell (p := ⟨_, 2, none⟩) z2).trans m2
        have nf2 := (hb.frozen (p := ⟨_, 2, none⟩) z2).trans (mf 2)
        have n3 := (hb.cell (p := ⟨_, 3, none⟩) z2).trans m3
        have nf3 := (hb.frozen (p := ⟨_, 3, none⟩) z2).trans (mf 3)
        have n4 := (hb.cell (p := ⟨_, 4, none⟩) z2).trans m4
        have nf4 := (hb.frozen (p := ⟨_, 4, none⟩) z2).trans (mf 4)
        clear hb
        go_wp2
        all_goals (refine bodyPost_ret (v := .agg #[.bool (!ZZ), .int .u64 (joinF D 0), .int .u64 (joinF D 1), .int .u64 (joinF D 2), .int .u64 (joinF D 3)]) (by simp (maxDischargeDepth := 9) [results, Try.results57, go_sem, *]) rfl ?_)
        rw [HSG.out]
        exact ⟨rfl, by go_grown⟩

set_option maxHeartbeats 2000000 in
theorem rplus_any (X Y : Nat → Int) (w : World) (hx : dig 4294967296 8 X) (hy : dig 4294967296 8 Y) :
    Calls Try.prog 75 #[.agg #[.int .u64 (X 0), .int .u64 (X 1), .int .u64 (X 2), .int .u64 (X 3), .int .u64 (X 4), .int .u64 (X 5), .int .u64 (X 6), .int .u64 (X 7)], .agg #[.int .u64 (Y 0), .int .u64 (Y 1), .int .u64 (Y 2), .int .u64 (Y 3), .int .u64 (Y 4), .int .u64 (Y 5), .int .u64 (Y 6), .int .u64 (Y 7)]] w fun e w' => ∃ (Z : Nat → Int) (k : Int), e = .returned (.tuple #[.agg #[.int .u64 (Z 0), .int .u64 (Z 1), .int .u64 (Z 2), .int .u64 (Z 3), .int .u64 (Z 4), .int .u64 (Z 5), .int .u64 (Z 6), .int .u64 (Z 7)], .bool (decide (0 < k))]) ∧ dig 4294967296 8 Z ∧ (0 ≤ k ∧ k ≤ 1) ∧ valN 4294967296 Z 8 + k * pw 4294967296 8 = valN 4294967296 X 8 + valN 4294967296 Y 8 ∧ Below w.heap.size w w' := by
  have HDX := Lib.hid hx
  have HDY := Lib.hid hy
  clear hx hy
  go_enter Try.func75, Try.ntmps75
  go_wp2
  go_loopw [6, 7] (fun c i wr => ∃ (j : Nat) (Z : Nat → Int) (k : Int), j ≤ 8 ∧ c = .int .u64 k ∧ i = .int .i64 j ∧ (0 ≤ k ∧ k ≤ 1) ∧ dig 4294967296 8 Z ∧ (∀ q, j ≤ q → Z q = X q) ∧ valN 4294967296 Z j + k * pw 4294967296 j = valN 4294967296 X j + valN 4294967296 Y j ∧ DigAt wr w.heap.size 8 Z ∧ FreeAt wr w.heap.size 8 ∧ DigAt wr (w.heap.size + 1) 8 Y ∧ DigAt wr (w.heap.size + 1 + 1) 8 zeroF ∧ FreeAt wr (w.heap.size + 1 + 1) 8 ∧ (w.heap.size + 1 + 1) < wr.heap.size ∧ Below w.heap.size w wr) (fun _ i _ => 8 - (intOf i).toNat)
  case atStart =>
    refine ⟨0, X, 0, by omega, rfl, rfl, by decide, HDX.out, fun _ _ => rfl, by simp [valN], ?_, ?_, ?_, ?_, ?_, by simp <;> omega, by go_grown⟩
    · intro k hk
      match k, hk with
      | 0, _ => simp [go_sem]
      | 1, _ => simp [go_sem]
      | 2, _ => simp [go_sem]
      | 3, _ => simp [go_sem]
      | 4, _ => simp [go_sem]
      | 5, _ => simp [go_sem]
      | 6, _ => simp [go_sem]
      | 7, _ => simp [go_sem]
    · intro k hk
      match k, hk with
      | 0, _ => simp [go_sem]
      | 1, _ => simp [go_sem]
      | 2, _ => simp [go_sem]
      | 3, _ => simp [go_sem]
      | 4, _ => simp [go_sem]
      | 5, _ => simp [go_sem]
      | 6, _ => simp [go_sem]
      | 7, _ => simp [go_sem]
    · intro k hk
      match k, hk with
      | 0, _ => simp [go_sem]
      | 1, _ => simp [go_sem]
      | 2, _ => simp [go_sem]
      | 3, _ => simp [go_sem]
      | 4, _ => simp [go_sem]
      | 5, _ => simp [go_sem]
      | 6, _ => simp [go_sem]
      | 7, _ => simp [go_sem]
    · intro k hk
      match k, hk with
      | 0, _ => simp [go_sem, zeroF]
      | 1, _ => simp [go_sem, zeroF]
      | 2, _ => simp [go_sem, zeroF]
      | 3, _ => simp [go_sem, zeroF]
      | 4, _ => simp [go_sem, zeroF]
      | 5, _ => simp [go_sem, zeroF]
      | 6, _ => simp [go_sem, zeroF]
      | 7, _ => simp [go_sem, zeroF]
    · intro k hk
      match k, hk with
      | 0, _ => simp [go_sem]
      | 1, _ => simp [go_sem]
      | 2, _ => simp [go_sem]
      | 3, _ => simp [go_sem]
      | 4, _ => simp [go_sem]
      | 5, _ => simp [go_sem]
      | 6, _ => simp [go_sem]
      | 7, _ => simp [go_sem]
  case round =>
    obtain ⟨j, Z, k, hj, rfl, rfl, hk, hd, hz, he, hA, hF, hY, hR, hG, z2, hB⟩ := hrel
    have HBr := Lib.hid hB
    have HD := Lib.hid hd
    have HZ := Lib.hid hz
    have HE := Lib.hid he
    have HA := Lib.hid hA
    have HF := Lib.hid hF
    have HY := Lib.hid hY
    have HR := Lib.hid hR
    have HG := Lib.hid hG
    have HK := Lib.hid hk
    have z0 : w.heap.size < wr.heap.size := by omega
    have z1 : w.heap.size + 1 < wr.heap.size := by omega
    clear hd hz he hA hF hY hR hG hB
    by_cases hlt : j < 8
    · have cx : wr.cell? ⟨w.heap.size, j, none⟩ = some (.int .u64 (X j)) := (HA.out j hlt).trans (by rw [HZ.out j (Nat.le_refl _)])
      have fx := HF.out j hlt
      have cy := HY.out j hlt
      have k0 : (0 : Int) ≤ (j : Int) := by omega
      have k1 : (j : Int) < 8 := by omega
      have h1 := HDX.out j hlt
      have h2 := HDY.out j hlt
      have m0 : IntKind.u64.wrap (k + X j) = k + X j := by rw [IntKind.wrap_u64]; omega
      have m2 : IntKind.u64.wrap (k + X j + Y j) = (k + X j + Y j) := by rw [IntKind.wrap_u64]; omega
      have m3 : (k + X j + Y j).tmod 4294967296 = (k + X j + Y j) % 4294967296 := Int.tmod_eq_emod_of_nonneg (by omega)
      have m4 : IntKind.u64.wrap ((k + X j + Y j).tdiv 4294967296) = (k + X j + Y j) / 4294967296 := by rw [Int.tdiv_eq_ediv_of_nonneg (by omega), IntKind.wrap_u64]; omega
      have hs : 0 ≤ (k + X j + Y j) % 4294967296 ∧ (k + X j + Y j) % 4294967296 < 4294967296 := by omega
      have hkn : 0 ≤ ((k + X j + Y j) / 4294967296) ∧ ((k + X j + Y j) / 4294967296) ≤ 1 := by omega
      have hq : (k + X j + Y j) % 4294967296 + ((k + X j + Y j) / 4294967296) * 4294967296 = X j + Y j + k := by omega
      have HS := Lib.hid hs
      have HKN := Lib.hid hkn
      have HQ := Lib.hid hq
      clear h1 h2 hs hkn hq hk
      go_wp2_with fail
      refine wp_region_relw 9 (by kernel_rfl) (by kernel_rfl) (by kernel_rfl) ?_
      simp only [List.take_succ_cons, List.take_zero, fillL, Act.put, List.setIfInBounds_toArray, List.set_cons_zero, List.set_cons_succ]
      iterate 9
        apply rel_is
        · intro u wx hb hd
          have hz := hb.size
          (try simp only [World.size_alloc, World.size_setCell] at hz)
          have hz0 : w.heap.size < wx.heap.size := by omega
          have hz1 : w.heap.size + 1 < wx.heap.size := by omega
          have hz2 : w.heap.size + 1 + 1 < wx.heap.size := by omega
          obtain ⟨hc, hf⟩ := bcell hb
          have HBX := Lib.hid hb
          clear hb hz
          simp [depsS, Region.binds, updS, Stay.is, Stay.any] at hd
          go_simp
          first | exact ⟨Below.refl _ _, rfl⟩ | rfl
      intro u w5 hb hE
      have e0 : u 0 = _ := endS_get hE 0 (by decide)
      have e1 : u 1 = _ := endS_get hE 1 (by decide)
      have e2 : u 2 = _ := endS_get hE 2 (by decide)
      have e3 : u 3 = _ := endS_get hE 3 (by decide)
      have e4 : u 4 = _ := endS_get hE 4 (by decide)
      have e5 : u 5 = _ := endS_get hE 5 (by decide)
      have e6 : u 6 = _ := endS_get hE 6 (by decide)
      have e7 : u 7 = _ := endS_get hE 7 (by decide)
      have e8 : u 8 = _ := endS_get hE 8 (by decide)
      simp only [List.drop_succ_cons, List.drop_zero, List.take_succ_cons, List.take_zero, fillL, Act.put, List.setIfInBounds_toArray, List.set_cons_zero, List.set_cons_succ, e0, e1, e2, e3, e4, e5, e6, e7, e8]
      clear e0 e1 e2 e3 e4 e5 e6 e7 e8 hE
      have HBw5 := Lib.hid (below_step (w := wr) (by first | assumption | go_grown) hb)
      have HBXw5 := Lib.hid hb
      have hzw5 := hb.size
      (try simp only [World.size_alloc, World.size_setCell] at hzw5)
      have hzw50 : w.heap.size < w5.heap.size := by omega
      have hzw51 : w.heap.size + 1 < w5.heap.size := by omega
      have hzw52 : w.heap.size + 1 + 1 < w5.heap.size := by omega
      obtain ⟨hcw5, hfw5⟩ := bcell hb
      clear hb hzw5
      go_wp2
      go_roundw
      case rel =>
        refine ⟨j + 1, updF Z j ((k + X j + Y j) % 4294967296), ((k + X j + Y j) / 4294967296), by omega, rfl, by go_num, HKN.out, ?_, ?_, ?_, (HA.out.below HBXw5.out z0).upd hlt, ?_, (HY.out.below HBXw5.out z1).set (by omega), (HR.out.below HBXw5.out z2).set (by omega), ?_, by simpa using hzw52, (below_step HBr.out HBXw5.out).setCell (by dsimp only; omega) _⟩
        · intro q hq
          unfold updF
          split
          · exact HS.out
          · exact HD.out q hq
        · intro q hq
          unfold updF
          rw [if_neg (by omega)]
          exact HZ.out q (by omega)
        · have h1 := HE.out
          have h2 := HQ.out
          rw [valN, valN, valN, pw, valN_congr (X := updF Z j ((k + X j + Y j) % 4294967296)) (Y := Z) (fun q hq => by unfold updF; rw [if_neg (by omega)]), show updF Z j ((k + X j + Y j) % 4294967296) j = (k + X j + Y j) % 4294967296 by simp [updF]]
          generalize (k + X j + Y j) % 4294967296 = s at *
          generalize ((k + X j + Y j) / 4294967296) = kn at *
          clear HE HQ
          grind
        · intro q hq
          rw [World.frozen?_setCell]
          exact (HBXw5.out.frozen (p := ⟨_, _, none⟩) z0).trans (HF.out q hq)
        · intro q hq
          rw [World.frozen?_setCell]
          exact (HBXw5.out.frozen (p := ⟨_, _, none⟩) z2).trans (HG.out q hq)
      case measure => simp [intOf]; omega
    · obtain rfl : j = 8 := by omega
      have m0 := HA.out 0 (by decide)
      have q0 := HR.out 0 (by decide)
      have fq0 := HG.out 0 (by decide)
      have m1 := HA.out 1 (by decide)
      have q1 := HR.out 1 (by decide)
      have fq1 := HG.out 1 (by decide)
      have m2 := HA.out 2 (by decide)
      have q2 := HR.out 2 (by decide)
      have fq2 := HG.out 2 (by decide)
      have m3 := HA.out 3 (by decide)
      have q3 := HR.out 3 (by decide)
      have fq3 := HG.out 3 (by decide)
      have m4 := HA.out 4 (by decide)
      have q4 := HR.out 4 (by decide)
      have fq4 := HG.out 4 (by decide)
      have m5 := HA.out 5 (by decide)
      have q5 := HR.out 5 (by decide)
      have fq5 := HG.out 5 (by decide)
      have m6 := HA.out 6 (by decide)
      have q6 := HR.out 6 (by decide)
      have fq6 := HG.out 6 (by decide)
      have m7 := HA.out 7 (by decide)
      have q7 := HR.out 7 (by decide)
      have fq7 := HG.out 7 (by decide)
      go_wp2
      all_goals (refine bodyPost_ret (v := .tuple #[.agg #[.int .u64 (Z 0), .int .u64 (Z 1), .int .u64 (Z 2), .int .u64 (Z 3), .int .u64 (Z 4), .int .u64 (Z 5), .int .u64 (Z 6), .int .u64 (Z 7)], .bool (decide (0 < k))]) (by simp (maxDischargeDepth := 9) [results, Try.results75, go_sem, *]) rfl ?_)
      have hbw := HBr.out
      exact ⟨Z, k, rfl, HD.out, HK.out, HE.out, by go_grown⟩

set_option maxHeartbeats 2000000 in
theorem rminus_any (X Y : Nat → Int) (w : World) (hx : dig 4294967296 8 X) (hy : dig 4294967296 8 Y) :
    Calls Try.prog 76 #[.agg #[.int .u64 (X 0), .int .u64 (X 1), .int .u64 (X 2), .int .u64 (X 3), .int .u64 (X 4), .int .u64 (X 5), .int .u64 (X 6), .int .u64 (X 7)], .agg #[.int .u64 (Y 0), .int .u64 (Y 1), .int .u64 (Y 2), .int .u64 (Y 3), .int .u64 (Y 4), .int .u64 (Y 5), .int .u64 (Y 6), .int .u64 (Y 7)]] w fun e w' => ∃ (Z : Nat → Int) (k : Int), e = .returned (.agg #[.int .u64 (Z 0), .int .u64 (Z 1), .int .u64 (Z 2), .int .u64 (Z 3), .int .u64 (Z 4), .int .u64 (Z 5), .int .u64 (Z 6), .int .u64 (Z 7)]) ∧ dig 4294967296 8 Z ∧ (0 ≤ k ∧ k ≤ 1) ∧ valN 4294967296 Z 8 - k * pw 4294967296 8 = valN 4294967296 X 8 - valN 4294967296 Y 8 ∧ Below w.heap.size w w' := by
  have HDX := Lib.hid hx
  have HDY := Lib.hid hy
  clear hx hy
  go_enter Try.func76, Try.ntmps76
  go_wp2
  go_loopw [5, 6] (fun c i wr => ∃ (j : Nat) (Z : Nat → Int) (k : Int), j ≤ 8 ∧ c = .int .u64 k ∧ i = .int .i64 j ∧ (0 ≤ k ∧ k ≤ 1) ∧ dig 4294967296 8 Z ∧ (∀ q, j ≤ q → Z q = X q) ∧ valN 4294967296 Z j - k * pw 4294967296 j = valN 4294967296 X j - valN 4294967296 Y j ∧ DigAt wr w.heap.size 8 Z ∧ FreeAt wr w.heap.size 8 ∧ DigAt wr (w.heap.size + 1) 8 Y ∧ DigAt wr (w.heap.size + 1 + 1) 8 zeroF ∧ FreeAt wr (w.heap.size + 1 + 1) 8 ∧ (w.heap.size + 1 + 1) < wr.heap.size ∧ Below w.heap.size w wr) (fun _ i _ => 8 - (intOf i).toNat)
  case atStart =>
    refine ⟨0, X, 0, by omega, rfl, rfl, by decide, HDX.out, fun _ _ => rfl, by simp [valN], ?_, ?_, ?_, ?_, ?_, by simp <;> omega, by go_grown⟩
    · intro k hk
      match k, hk with
      | 0, _ => simp [go_sem]
      | 1, _ => simp [go_sem]
      | 2, _ => simp [go_sem]
      | 3, _ => simp [go_sem]
      | 4, _ => simp [go_sem]
      | 5, _ => simp [go_sem]
      | 6, _ => simp [go_sem]
      | 7, _ => simp [go_sem]
    · intro k hk
      match k, hk with
      | 0, _ => simp [go_sem]
      | 1, _ => simp [go_sem]
      | 2, _ => simp [go_sem]
      | 3, _ => simp [go_sem]
      | 4, _ => simp [go_sem]
      | 5, _ => simp [go_sem]
      | 6, _ => simp [go_sem]
      | 7, _ => simp [go_sem]
    · intro k hk
      match k, hk with
      | 0, _ => simp [go_sem]
      | 1, _ => simp [go_sem]
      | 2, _ => simp [go_sem]
      | 3, _ => simp [go_sem]
      | 4, _ => simp [go_sem]
      | 5, _ => simp [go_sem]
      | 6, _ => simp [go_sem]
      | 7, _ => simp [go_sem]
    · intro k hk
      match k, hk with
      | 0, _ => simp [go_sem, zeroF]
      | 1, _ => simp [go_sem, zeroF]
      | 2, _ => simp [go_sem, zeroF]
      | 3, _ => simp [go_sem, zeroF]
      | 4, _ => simp [go_sem, zeroF]
      | 5, _ => simp [go_sem, zeroF]
      | 6, _ => simp [go_sem, zeroF]
      | 7, _ => simp [go_sem, zeroF]
    · intro k hk
      match k, hk with
      | 0, _ => simp [go_sem]
      | 1, _ => simp [go_sem]
      | 2, _ => simp [go_sem]
      | 3, _ => simp [go_sem]
      | 4, _ => simp [go_sem]
      | 5, _ => simp [go_sem]
      | 6, _ => simp [go_sem]
      | 7, _ => simp [go_sem]
  case round =>
    obtain ⟨j, Z, k, hj, rfl, rfl, hk, hd, hz, he, hA, hF, hY, hR, hG, z2, hB⟩ := hrel
    have HBr := Lib.hid hB
    have HD := Lib.hid hd
    have HZ := Lib.hid hz
    have HE := Lib.hid he
    have HA := Lib.hid hA
    have HF := Lib.hid hF
    have HY := Lib.hid hY
    have HR := Lib.hid hR
    have HG := Lib.hid hG
    have HK := Lib.hid hk
    have z0 : w.heap.size < wr.heap.size := by omega
    have z1 : w.heap.size + 1 < wr.heap.size := by omega
    clear hd hz he hA hF hY hR hG hB
    by_cases hlt : j < 8
    · have cx : wr.cell? ⟨w.heap.size, j, none⟩ = some (.int .u64 (X j)) := (HA.out j hlt).trans (by rw [HZ.out j (Nat.le_refl _)])
      have fx := HF.out j hlt
      have cy := HY.out j hlt
      have k0 : (0 : Int) ≤ (j : Int) := by omega
      have k1 : (j : Int) < 8 := by omega
      have h1 := HDX.out j hlt
      have h2 := HDY.out j hlt
      have m0 : IntKind.u64.wrap (4294967296 + X j) = 4294967296 + X j := by rw [IntKind.wrap_u64]; omega
      have m1 : IntKind.u64.wrap (4294967296 + X j - Y j) = 4294967296 + X j - Y j := by rw [IntKind.wrap_u64]; omega
      have m2 : IntKind.u64.wrap (4294967296 + X j - Y j - k) = (4294967296 + X j - Y j - k) := by rw [IntKind.wrap_u64]; omega
      have m3 : (4294967296 + X j - Y j - k).tmod 4294967296 = (4294967296 + X j - Y j - k) % 4294967296 := Int.tmod_eq_emod_of_nonneg (by omega)
      have m4 : IntKind.u64.wrap ((4294967296 + X j - Y j - k).tdiv 4294967296) = (4294967296 + X j - Y j - k) / 4294967296 := by rw [Int.tdiv_eq_ediv_of_nonneg (by omega), IntKind.wrap_u64]; omega
      have m5 : IntKind.u64.wrap (1 - (4294967296 + X j - Y j - k) / 4294967296) = (1 - (4294967296 + X j - Y j - k) / 4294967296) := by rw [IntKind.wrap_u64]; omega
      have hs : 0 ≤ (4294967296 + X j - Y j - k) % 4294967296 ∧ (4294967296 + X j - Y j - k) % 4294967296 < 4294967296 := by omega
      have hkn : 0 ≤ (1 - (4294967296 + X j - Y j - k) / 4294967296) ∧ (1 - (4294967296 + X j - Y j - k) / 4294967296) ≤ 1 := by omega
      have hq : (4294967296 + X j - Y j - k) % 4294967296 - (1 - (4294967296 + X j - Y j - k) / 4294967296) * 4294967296 = X j - Y j - k := by omega
      have HS := Lib.hid hs
      have HKN := Lib.hid hkn
      have HQ := Lib.hid hq
      clear h1 h2 hs hkn hq hk
      go_wp2_with fail
      refine wp_region_relw 10 (by kernel_rfl) (by kernel_rfl) (by kernel_rfl) ?_
      simp only [List.take_succ_cons, List.take_zero, fillL, Act.put, List.setIfInBounds_toArray, List.set_cons_zero, List.set_cons_succ]
      iterate 10
        apply rel_is
        · intro u wx hb hd
          have hz := hb.size
          (try simp only [World.size_alloc, World.size_setCell] at hz)
          have hz0 : w.heap.size < wx.heap.size := by omega
          have hz1 : w.heap.size + 1 < wx.heap.size := by omega
          have hz2 : w.heap.size + 1 + 1 < wx.heap.size := by omega
          obtain ⟨hc, hf⟩ := bcell hb
          have HBX := Lib.hid hb
          clear hb hz
          simp [depsS, Region.binds, updS, Stay.is, Stay.any] at hd
          go_simp
          first | exact ⟨Below.refl _ _, rfl⟩ | rfl
      intro u w5 hb hE
      have e0 : u 0 = _ := endS_get hE 0 (by decide)
      have e1 : u 1 = _ := endS_get hE 1 (by decide)
      have e2 : u 2 = _ := endS_get hE 2 (by decide)
      have e3 : u 3 = _ := endS_get hE 3 (by decide)
      have e4 : u 4 = _ := endS_get hE 4 (by decide)
      have e5 : u 5 = _ := endS_get hE 5 (by decide)
      have e6 : u 6 = _ := endS_get hE 6 (by decide)
      have e7 : u 7 = _ := endS_get hE 7 (by decide)
      have e8 : u 8 = _ := endS_get hE 8 (by decide)
      have e9 : u 9 = _ := endS_get hE 9 (by decide)
      simp only [List.drop_succ_cons, List.drop_zero, List.take_succ_cons, List.take_zero, fillL, Act.put, List.setIfInBounds_toArray, List.set_cons_zero, List.set_cons_succ, e0, e1, e2, e3, e4, e5, e6, e7, e8, e9]
      clear e0 e1 e2 e3 e4 e5 e6 e7 e8 e9 hE
      have HBw5 := Lib.hid (below_step (w := wr) (by first | assumption | go_grown) hb)
      have HBXw5 := Lib.hid hb
      have hzw5 := hb.size
      (try simp only [World.size_alloc, World.size_setCell] at hzw5)
      have hzw50 : w.heap.size < w5.heap.size := by omega
      have hzw51 : w.heap.size + 1 < w5.heap.size := by omega
      have hzw52 : w.heap.size + 1 + 1 < w5.heap.size := by omega
      obtain ⟨hcw5, hfw5⟩ := bcell hb
      clear hb hzw5
      go_wp2
      go_roundw
      case rel =>
        refine ⟨j + 1, updF Z j ((4294967296 + X j - Y j - k) % 4294967296), (1 - (4294967296 + X j - Y j - k) / 4294967296), by omega, rfl, by go_num, HKN.out, ?_, ?_, ?_, (HA.out.below HBXw5.out z0).upd hlt, ?_, (HY.out.below HBXw5.out z1).set (by omega), (HR.out.below HBXw5.out z2).set (by omega), ?_, by simpa using hzw52, (below_step HBr.out HBXw5.out).setCell (by dsimp only; omega) _⟩
        · intro q hq
          unfold updF
          split
          · exact HS.out
          · exact HD.out q hq
        · intro q hq
          unfold updF
          rw [if_neg (by omega)]
          exact HZ.out q (by omega)
        · have h1 := HE.out
          have h2 := HQ.out
          rw [valN, valN, valN, pw, valN_congr (X := updF Z j ((4294967296 + X j - Y j - k) % 4294967296)) (Y := Z) (fun q hq => by unfold updF; rw [if_neg (by omega)]), show updF Z j ((4294967296 + X j - Y j - k) % 4294967296) j = (4294967296 + X j - Y j - k) % 4294967296 by simp [updF]]
          generalize (4294967296 + X j - Y j - k) % 4294967296 = s at *
          generalize (1 - (4294967296 + X j - Y j - k) / 4294967296) = kn at *
          clear HE HQ
          grind
        · intro q hq
          rw [World.frozen?_setCell]
          exact (HBXw5.out.frozen (p := ⟨_, _, none⟩) z0).trans (HF.out q hq)
        · intro q hq
          rw [World.frozen?_setCell]
          exact (HBXw5.out.frozen (p := ⟨_, _, none⟩) z2).trans (HG.out q hq)
      case measure => simp [intOf]; omega
    · obtain rfl : j = 8 := by omega
      have m0 := HA.out 0 (by decide)
      have q0 := HR.out 0 (by decide)
      have fq0 := HG.out 0 (by decide)
      have m1 := HA.out 1 (by decide)
      have q1 := HR.out 1 (by decide)
      have fq1 := HG.out 1 (by decide)
      have m2 := HA.out 2 (by decide)
      have q2 := HR.out 2 (by decide)
      have fq2 := HG.out 2 (by decide)
      have m3 := HA.out 3 (by decide)
      have q3 := HR.out 3 (by decide)
      have fq3 := HG.out 3 (by decide)
      have m4 := HA.out 4 (by decide)
      have q4 := HR.out 4 (by decide)
      have fq4 := HG.out 4 (by decide)
      have m5 := HA.out 5 (by decide)
      have q5 := HR.out 5 (by decide)
      have fq5 := HG.out 5 (by decide)
      have m6 := HA.out 6 (by decide)
      have q6 := HR.out 6 (by decide)
      have fq6 := HG.out 6 (by decide)
      have m7 := HA.out 7 (by decide)
      have q7 := HR.out 7 (by decide)
      have fq7 := HG.out 7 (by decide)
      go_wp2
      all_goals (refine bodyPost_ret (v := .agg #[.int .u64 (Z 0), .int .u64 (Z 1), .int .u64 (Z 2), .int .u64 (Z 3), .int .u64 (Z 4), .int .u64 (Z 5), .int .u64 (Z 6), .int .u64 (Z 7)]) (by simp (maxDischargeDepth := 9) [results, Try.results76, go_sem, *]) rfl ?_)
      have hbw := HBr.out
      exact ⟨Z, k, rfl, HD.out, HK.out, HE.out, by go_grown⟩
end Go.Proofs.Ytpjdmjmgkdgfnaa
