/-
  The check of a weight. Conditions: none. By an AI agent.
-/
import Derived.Test.YtbfbifogamlepaaDoorNum
import Derived.Test.YtbfbifogamlepaaDoorSlices
namespace Go.Proofs.YtbfbifogamlepaaDoor
open Go Go.ChangeShapes Go.WideShapes Go.RowKit Go.ChangeAt
set_option linter.unusedSimpArgs false
set_option linter.unusedVariables false
def Bt (lo hi n : Int) : Prop := lo ≤ n ∧ n ≤ hi
instance (lo hi n : Int) : Decidable (Bt lo hi n) := by unfold Bt; exact inferInstance
theorem between_any (n lo hi : Int) (w : World) :
    Calls Tryd.prog 25 #[.int .i64 n, .int .i64 lo, .int .i64 hi] w fun e w' => e = .returned (.bool (decide (Bt lo hi n))) ∧ Below w.heap.size w w' := by
  by_cases h1 : lo ≤ n
  · by_cases h2 : n ≤ hi
    · have E := Lib.hid (decide_eq_true (show Bt lo hi n from ⟨h1, h2⟩))
      go_enter Tryd.func25, Tryd.ntmps25
      go_wp2
      go_returns
      exact ⟨by rw [E.out]; rfl, by go_grown⟩
    · have E := Lib.hid (decide_eq_false (show ¬ Bt lo hi n from fun h => h2 h.2))
      go_enter Tryd.func25, Tryd.ntmps25
      go_wp2
      go_returns
      exact ⟨by rw [E.out]; rfl, by go_grown⟩
  · have E := Lib.hid (decide_eq_false (show ¬ Bt lo hi n from fun h => h1 h.1))
    go_enter Tryd.func25, Tryd.ntmps25
    go_wp2
    go_returns
    exact ⟨by rw [E.out]; rfl, by go_grown⟩
theorem idxw0 (a b c : Value) (w : World) : (Instr.index 73 (.agg #[a, b, c]) (.int .i64 0)).run Tryd.prog w = .ok a w := by kernel_rfl
theorem idxw1 (a b c : Value) (w : World) : (Instr.index 73 (.agg #[a, b, c]) (.int .i64 1)).run Tryd.prog w = .ok b w := by kernel_rfl
theorem idxw2 (a b c : Value) (w : World) : (Instr.index 73 (.agg #[a, b, c]) (.int .i64 2)).run Tryd.prog w = .ok c w := by kernel_rfl
/-- a valid weight -/
def WOk (m x y z v : Int) : Prop := Bt 0 1099511627776 m ∧ Bt 0 1152921504606846976 v ∧ Bt (-1152921504606846976) 1152921504606846976 x ∧ Bt (-1152921504606846976) 1152921504606846976 y ∧ Bt (-1152921504606846976) 1152921504606846976 z
instance (m x y z v : Int) : Decidable (WOk m x y z v) := by unfold WOk; exact inferInstance
def wcF (m x y z v : Int) : Int := if WOk m x y z v then 0 else 9
set_option maxRecDepth 20000 in
set_option maxHeartbeats 4000000 in
theorem wcheck_any (m x y z v : Int) (w : World) :
    Calls Tryd.prog 23 #[.agg #[.int .i64 m, .int .i64 x, .int .i64 y, .int .i64 z, .int .i64 v]] w fun e w' => e = .returned (.int .i64 (wcF m x y z v)) ∧ Below w.heap.size w w' := by
  by_cases h1 : Bt 0 1099511627776 m
  · by_cases h2 : Bt 0 1152921504606846976 v
    · go_enter Tryd.func23, Tryd.ntmps23
      go_wp2_with fail
      (go_at_call 25; refine (between_any _ _ _ _).mono ?_; rintro e w1 ⟨rfl, hb⟩)
      have HB1 := Lib.hid (below_step (w := w) (by go_grown) hb)
      obtain ⟨hc1, hf1⟩ := bcell hb
      have hz1 : w.heap.size < w1.heap.size := by have := hb.size; (try simp only [World.size_alloc] at this); omega
      clear hb
      rw [decide_eq_true h1]
      go_wp2_with fail
      (go_at_call 25; refine (between_any _ _ _ _).mono ?_; rintro e w2 ⟨rfl, hb⟩)
      have HB2 := Lib.hid (below_step HB1.out hb)
      obtain ⟨hc2, hf2⟩ := bcell hb
      have hz2 : w.heap.size < w2.heap.size := by have := hb.size; (try simp only [World.size_alloc] at this); omega
      clear hb
      rw [decide_eq_true h2]
      go_wp2
      go_loopw [22] (fun i wr => ∃ k : Int, (k = 0 ∨ k = 1 ∨ k = 2 ∨ k = 3) ∧ i = .int .i64 k ∧ (0 < k → Bt (-1152921504606846976) 1152921504606846976 x) ∧ (1 < k → Bt (-1152921504606846976) 1152921504606846976 y) ∧ (2 < k → Bt (-1152921504606846976) 1152921504606846976 z) ∧ Below w.heap.size w wr) (fun i _ => 3 - (intOf i).toNat)
      case atStart => exact ⟨0, .inl rfl, rfl, by omega, by omega, by omega, HB2.out⟩
      case round =>
        obtain ⟨k, hk, rfl, g0, g1, g2, hb⟩ := hrel
        have HBr := Lib.hid hb
        clear hb
        rcases hk with rfl | rfl | rfl | rfl
        · have ix := fun W => idxw0 (.int .i64 x) (.int .i64 y) (.int .i64 z) W
          by_cases hx : Bt (-1152921504606846976) 1152921504606846976 x
          · go_wp2_with fail
            (go_at_call 25; refine (between_any _ _ _ _).mono ?_; rintro e w3 ⟨rfl, hb⟩)
            have HB3 := Lib.hid (below_step HBr.out hb)
            obtain ⟨hc3, hf3⟩ := bcell hb
            clear hb
            rw [decide_eq_true hx]
            go_wp2
            go_roundw
            case rel => exact ⟨1, by omega, rfl, fun _ => hx, by omega, by omega, HB3.out⟩
            case measure => simp [intOf]
          · have E : Hid (wcF m x y z v = 9) := if_neg fun h => hx h.2.2.1
            go_wp2_with fail
            (go_at_call 25; refine (between_any _ _ _ _).mono ?_; rintro e w3 ⟨rfl, hb⟩)
            have HB3 := Lib.hid (below_step HBr.out hb)
            obtain ⟨hc3, hf3⟩ := bcell hb
            clear hb
            rw [decide_eq_false hx]
            go_wp2
            go_returns
            exact ⟨by rw [E.out]; rfl, HB3.out⟩
        · have ix := fun W => idxw1 (.int .i64 x) (.int .i64 y) (.int .i64 z) W
          by_cases hx : Bt (-1152921504606846976) 1152921504606846976 y
          · go_wp2_with fail
            (go_at_call 25; refine (between_any _ _ _ _).mono ?_; rintro e w3 ⟨rfl, hb⟩)
            have HB3 := Lib.hid (below_step HBr.out hb)
            obtain ⟨hc3, hf3⟩ := bcell hb
            clear hb
            rw [decide_eq_true hx]
            go_wp2
            go_roundw
            case rel => exact ⟨2, by omega, rfl, fun _ => g0 (by omega), fun _ => hx, by omega, HB3.out⟩
            case measure => simp [intOf]
          · have E : Hid (wcF m x y z v = 9) := if_neg fun h => hx h.2.2.2.1
            go_wp2_with fail
            (go_at_call 25; refine (between_any _ _ _ _).mono ?_; rintro e w3 ⟨rfl, hb⟩)
            have HB3 := Lib.hid (below_step HBr.out hb)
            obtain ⟨hc3, hf3⟩ := bcell hb
            clear hb
            rw [decide_eq_false hx]
            go_wp2
            go_returns
            exact ⟨by rw [E.out]; rfl, HB3.out⟩
        · have ix := fun W => idxw2 (.int .i64 x) (.int .i64 y) (.int .i64 z) W
          by_cases hx : Bt (-1152921504606846976) 1152921504606846976 z
          · go_wp2_with fail
            (go_at_call 25; refine (between_any _ _ _ _).mono ?_; rintro e w3 ⟨rfl, hb⟩)
            have HB3 := Lib.hid (below_step HBr.out hb)
            obtain ⟨hc3, hf3⟩ := bcell hb
            clear hb
            rw [decide_eq_true hx]
            go_wp2
            go_roundw
            case rel => exact ⟨3, by omega, rfl, fun _ => g0 (by omega), fun _ => g1 (by omega), fun _ => hx, HB3.out⟩
            case measure => simp [intOf]
          · have E : Hid (wcF m x y z v = 9) := if_neg fun h => hx h.2.2.2.2
            go_wp2_with fail
            (go_at_call 25; refine (between_any _ _ _ _).mono ?_; rintro e w3 ⟨rfl, hb⟩)
            have HB3 := Lib.hid (below_step HBr.out hb)
            obtain ⟨hc3, hf3⟩ := bcell hb
            clear hb
            rw [decide_eq_false hx]
            go_wp2
            go_returns
            exact ⟨by rw [E.out]; rfl, HB3.out⟩
        · have E : Hid (wcF m x y z v = 0) := if_pos ⟨h1, h2, g0 (by omega), g1 (by omega), g2 (by omega)⟩
          go_wp2
          go_returns
          exact ⟨by rw [E.out]; rfl, HBr.out⟩
    · have E : Hid (wcF m x y z v = 9) := if_neg fun h => h2 h.2.1
      go_enter Tryd.func23, Tryd.ntmps23
      go_wp2_with fail
      (go_at_call 25; refine (between_any _ _ _ _).mono ?_; rintro e w1 ⟨rfl, hb⟩)
      have HB1 := Lib.hid (below_step (w := w) (by go_grown) hb)
      obtain ⟨hc1, hf1⟩ := bcell hb
      have hz1 : w.heap.size < w1.heap.size := by have := hb.size; (try simp only [World.size_alloc] at this); omega
      clear hb
      rw [decide_eq_true h1]
      go_wp2_with fail
      (go_at_call 25; refine (between_any _ _ _ _).mono ?_; rintro e w2 ⟨rfl, hb⟩)
      have HB2 := Lib.hid (below_step HB1.out hb)
      obtain ⟨hc2, hf2⟩ := bcell hb
      have hz2 : w.heap.size < w2.heap.size := by have := hb.size; (try simp only [World.size_alloc] at this); omega
      clear hb
      rw [decide_eq_false h2]
      go_wp2
      go_returns
      exact ⟨by rw [E.out]; rfl, HB2.out⟩
  · have E : Hid (wcF m x y z v = 9) := if_neg fun h => h1 h.1
    go_enter Tryd.func23, Tryd.ntmps23
    go_wp2_with fail
    (go_at_call 25; refine (between_any _ _ _ _).mono ?_; rintro e w1 ⟨rfl, hb⟩)
    have HB1 := Lib.hid (below_step (w := w) (by go_grown) hb)
    obtain ⟨hc1, hf1⟩ := bcell hb
    have hz1 : w.heap.size < w1.heap.size := by have := hb.size; (try simp only [World.size_alloc] at this); omega
    clear hb
    rw [decide_eq_false h1]
    go_wp2
    go_returns
    exact ⟨by rw [E.out]; rfl, HB1.out⟩
set_option maxRecDepth 20000 in
set_option maxHeartbeats 4000000 in
theorem rwcheck_any (m x y z v : Int) (w : World) :
    Calls Tryd.prog 46 #[.agg #[.int .i64 m, .int .i64 x, .int .i64 y, .int .i64 z, .int .i64 v]] w fun e w' => e = .returned (.int .i64 (wcF m x y z v)) ∧ Below w.heap.size w w' := by
  by_cases p0 : 0 ≤ m
  · by_cases p1 : m ≤ 1099511627776
    · by_cases p2 : -1152921504606846976 ≤ x
      · by_cases p3 : x ≤ 1152921504606846976
        · by_cases p4 : -1152921504606846976 ≤ y
          · by_cases p5 : y ≤ 1152921504606846976
            · by_cases p6 : -1152921504606846976 ≤ z
              · by_cases p7 : z ≤ 1152921504606846976
                · by_cases p8 : 0 ≤ v
                  · by_cases p9 : v ≤ 1152921504606846976
                    · have E : Hid (wcF m x y z v = 0) := if_pos ⟨⟨p0, p1⟩, ⟨p8, p9⟩, ⟨p2, p3⟩, ⟨p4, p5⟩, ⟨p6, p7⟩⟩
                      go_enter Tryd.func46, Tryd.ntmps46
                      go_wp2
                      go_returns
                      exact ⟨by rw [E.out]; rfl, by go_grown⟩
                    · have E : Hid (wcF m x y z v = 9) := if_neg fun h => p9 h.2.1.2
                      go_enter Tryd.func46, Tryd.ntmps46
                      go_wp2
                      go_returns
                      exact ⟨by rw [E.out]; rfl, by go_grown⟩
                  · have E : Hid (wcF m x y z v = 9) := if_neg fun h => p8 h.2.1.1
                    go_enter Tryd.func46, Tryd.ntmps46
                    go_wp2
                    go_returns
                    exact ⟨by rw [E.out]; rfl, by go_grown⟩
                · have E : Hid (wcF m x y z v = 9) := if_neg fun h => p7 h.2.2.2.2.2
                  go_enter Tryd.func46, Tryd.ntmps46
                  go_wp2
                  go_returns
                  exact ⟨by rw [E.out]; rfl, by go_grown⟩
              · have E : Hid (wcF m x y z v = 9) := if_neg fun h => p6 h.2.2.2.2.1
                go_enter Tryd.func46, Tryd.ntmps46
                go_wp2
                go_returns
                exact ⟨by rw [E.out]; rfl, by go_grown⟩
            · have E : Hid (wcF m x y z v = 9) := if_neg fun h => p5 h.2.2.2.1.2
              go_enter Tryd.func46, Tryd.ntmps46
              go_wp2
              go_returns
              exact ⟨by rw [E.out]; rfl, by go_grown⟩
          · have E : Hid (wcF m x y z v = 9) := if_neg fun h => p4 h.2.2.2.1.1
            go_enter Tryd.func46, Tryd.ntmps46
            go_wp2
            go_returns
            exact ⟨by rw [E.out]; rfl, by go_grown⟩
        · have E : Hid (wcF m x y z v = 9) := if_neg fun h => p3 h.2.2.1.2
          go_enter Tryd.func46, Tryd.ntmps46
          go_wp2
          go_returns
          exact ⟨by rw [E.out]; rfl, by go_grown⟩
      · have E : Hid (wcF m x y z v = 9) := if_neg fun h => p2 h.2.2.1.1
        go_enter Tryd.func46, Tryd.ntmps46
        go_wp2
        go_returns
        exact ⟨by rw [E.out]; rfl, by go_grown⟩
    · have E : Hid (wcF m x y z v = 9) := if_neg fun h => p1 h.1.2
      go_enter Tryd.func46, Tryd.ntmps46
      go_wp2
      go_returns
      exact ⟨by rw [E.out]; rfl, by go_grown⟩
  · have E : Hid (wcF m x y z v = 9) := if_neg fun h => p0 h.1.1
    go_enter Tryd.func46, Tryd.ntmps46
    go_wp2
    go_returns
    exact ⟨by rw [E.out]; rfl, by go_grown⟩
end Go.Proofs.YtbfbifogamlepaaDoor
