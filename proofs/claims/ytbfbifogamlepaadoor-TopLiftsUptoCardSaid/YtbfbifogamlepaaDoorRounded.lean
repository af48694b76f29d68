/-
  The rounded centre: its error. Conditions: none. By an AI agent.
-/
import Derived.Test.YtbfbifogamlepaaDoorRound2
namespace Go.Proofs.YtbfbifogamlepaaDoor
open Go Go.ChangeShapes Go.WideShapes Go.RowKit Go.ChangeAt
set_option linter.unusedSimpArgs false
set_option linter.unusedVariables false
/-- the error of the quotients -/
def divF (m x y z v : Int) : Int := if WOk m x y z v then (if m = 0 then 22 else 0) else 9
set_option maxRecDepth 20000 in
set_option maxHeartbeats 4000000 in
theorem div_any (m x y z v : Int) (w : World) :
    Calls Tryd.prog 37 #[.agg #[.int .i64 m, .int .i64 x, .int .i64 y, .int .i64 z, .int .i64 v]] w fun e w' => e = .returned (.int .i64 (divF m x y z v)) ∧ Below w.heap.size w w' := by
  by_cases h : WOk m x y z v
  · have HO : Hid (wcF m x y z v = 0) := if_pos h
    by_cases hz : m = 0
    · subst hz
      have E : Hid (divF 0 x y z v = 22) := by show _ = _; unfold divF; rw [if_pos h, if_pos rfl]
      clear h
      go_enter Tryd.func37, Tryd.ntmps37
      go_wp2_with fail
      (go_at_call 23; refine (wcheck_any _ _ _ _ _ _).mono ?_; rintro e w1 ⟨rfl, hb⟩)
      rw [HO.out]
      have HB1 := Lib.hid (below_step (w := w) (by go_grown) hb)
      obtain ⟨hc1, hf1⟩ := bcell hb
      have hz1 : w.heap.size < w1.heap.size := by have := hb.size; (try simp only [World.size_alloc] at this); omega
      clear hb
      go_wp2
      go_returns
      exact ⟨by rw [E.out]; rfl, HB1.out⟩
    · have m0 : (m == 0) = false := by simpa using hz
      have E : Hid (divF m x y z v = 0) := by show _ = _; unfold divF; rw [if_pos h, if_neg hz]
      clear h hz
      go_enter Tryd.func37, Tryd.ntmps37
      go_wp2_with fail
      (go_at_call 23; refine (wcheck_any _ _ _ _ _ _).mono ?_; rintro e w1 ⟨rfl, hb⟩)
      rw [HO.out]
      have HB1 := Lib.hid (below_step (w := w) (by go_grown) hb)
      obtain ⟨hc1, hf1⟩ := bcell hb
      have hz1 : w.heap.size < w1.heap.size := by have := hb.size; (try simp only [World.size_alloc] at this); omega
      clear hb
      go_wp2
      go_returns
      exact ⟨by rw [E.out]; rfl, HB1.out⟩
  · have HO : Hid (wcF m x y z v = 9) := if_neg h
    have E : Hid (divF m x y z v = 9) := if_neg h
    clear h
    go_enter Tryd.func37, Tryd.ntmps37
    go_wp2_with fail
    (go_at_call 23; refine (wcheck_any _ _ _ _ _ _).mono ?_; rintro e w1 ⟨rfl, hb⟩)
    rw [HO.out]
    have HB1 := Lib.hid (below_step (w := w) (by go_grown) hb)
    obtain ⟨hc1, hf1⟩ := bcell hb
    have hz1 : w.heap.size < w1.heap.size := by have := hb.size; (try simp only [World.size_alloc] at this); omega
    clear hb
    go_wp2
    go_returns
    exact ⟨by rw [E.out]; rfl, HB1.out⟩
set_option maxRecDepth 20000 in
set_option maxHeartbeats 4000000 in
theorem rdiv_any (m x y z v : Int) (w : World) :
    Calls Tryd.prog 48 #[.agg #[.int .i64 m, .int .i64 x, .int .i64 y, .int .i64 z, .int .i64 v]] w fun e w' => e = .returned (.int .i64 (divF m x y z v)) ∧ Below w.heap.size w w' := by
  by_cases h : WOk m x y z v
  · have HO : Hid (wcF m x y z v = 0) := if_pos h
    by_cases hz : m = 0
    · subst hz
      have E : Hid (divF 0 x y z v = 22) := by show _ = _; unfold divF; rw [if_pos h, if_pos rfl]
      clear h
      go_enter Tryd.func48, Tryd.ntmps48
      go_wp2_with fail
      (go_at_call 46; refine (rwcheck_any _ _ _ _ _ _).mono ?_; rintro e w1 ⟨rfl, hb⟩)
      rw [HO.out]
      have HB1 := Lib.hid (below_step (w := w) (by go_grown) hb)
      obtain ⟨hc1, hf1⟩ := bcell hb
      have hz1 : w.heap.size < w1.heap.size := by have := hb.size; (try simp only [World.size_alloc] at this); omega
      clear hb
      go_wp2
      go_returns
      exact ⟨by rw [E.out]; rfl, HB1.out⟩
    · have m0 : (m == 0) = false := by simpa using hz
      have E : Hid (divF m x y z v = 0) := by show _ = _; unfold divF; rw [if_pos h, if_neg hz]
      clear h hz
      go_enter Tryd.func48, Tryd.ntmps48
      go_wp2_with fail
      (go_at_call 46; refine (rwcheck_any _ _ _ _ _ _).mono ?_; rintro e w1 ⟨rfl, hb⟩)
      rw [HO.out]
      have HB1 := Lib.hid (below_step (w := w) (by go_grown) hb)
      obtain ⟨hc1, hf1⟩ := bcell hb
      have hz1 : w.heap.size < w1.heap.size := by have := hb.size; (try simp only [World.size_alloc] at this); omega
      clear hb
      go_wp2
      go_returns
      exact ⟨by rw [E.out]; rfl, HB1.out⟩
  · have HO : Hid (wcF m x y z v = 9) := if_neg h
    have E : Hid (divF m x y z v = 9) := if_neg h
    clear h
    go_enter Tryd.func48, Tryd.ntmps48
    go_wp2_with fail
    (go_at_call 46; refine (rwcheck_any _ _ _ _ _ _).mono ?_; rintro e w1 ⟨rfl, hb⟩)
    rw [HO.out]
    have HB1 := Lib.hid (below_step (w := w) (by go_grown) hb)
    obtain ⟨hc1, hf1⟩ := bcell hb
    have hz1 : w.heap.size < w1.heap.size := by have := hb.size; (try simp only [World.size_alloc] at this); omega
    clear hb
    go_wp2
    go_returns
    exact ⟨by rw [E.out]; rfl, HB1.out⟩
end Go.Proofs.YtbfbifogamlepaaDoor
