/-
  Of the law CraneReaches: the ways on which the law asks. Conditions: none. By an AI agent.
-/
import Derived.Test.YtmaopenmbngenaaCraneQ
namespace Go.Proofs.Ytmaopenmbngenaa
open Go Go.ChangeShapes Go.WideShapes Go.RowKit Go.ChangeAt
set_option linter.unusedSimpArgs false
set_option linter.unusedVariables false

set_option maxRecDepth 20000 in
set_option maxHeartbeats 4000000 in
theorem reaches_yes (s : ByteArray) (oa : Option Addr) (n cap : Nat) (r q : Nat → Int) (x0 x1 y : Int) (w : World) (hs : s.size ≤ 9223372036854775807) (h : PairsAt w (.slice oa n cap) n r q) (L0 L1 L2 R0 : Int) (hF : fewB 1 (fun _ => s) (fun _ => n) = true) (hK : checkF 1 (fun _ => s) (fun _ => n) (fun _ => r) (fun _ => q) = 0) (h0 : 0 ≤ x0) (h1 : 0 ≤ x1) (h2 : 1 ≤ y) (hL0 : loadF n r q x0 = L0) (hL1 : loadF n r q (mx x0 x1) = L1) (hL2 : loadF n r q (mn x0 x1) = L2) (hR0 : reachTo r q y n = R0) (g0 : y ≤ L0) (g1 : x0 ≤ R0) (g2 : L1 ≤ L2) (g3 : 0 ≤ L0) : Calls Try.prog 7 #[.agg #[.string s, .slice oa n cap], .agg #[.int .i64 x0, .int .i64 x1], .int .i64 y] w fun e w' => e = .returned (.bool true) ∧ Below w.heap.size w w' := by
  have HPB : Hid (PairsAt ((w.alloc (.cells #[.string s, .slice oa n cap] 29)).alloc (.cells #[.int .i64 x0, .int .i64 x1] 32)) (.slice oa n cap) n r q) := h.below (((Below.refl w.heap.size w).alloc (Nat.le_refl _) _).alloc (by simp) _)
  have HC : Hid (CranesAt (((w.alloc (.cells #[.string s, .slice oa n cap] 29)).alloc (.cells #[.int .i64 x0, .int .i64 x1] 32)).alloc (.cells #[.string s, .slice oa n cap] 29)) (.slice (some ⟨w.heap.size + 1 + 1, 0, none⟩) 1 1) 1 (fun _ => s) (fun _ => .slice oa n cap) (fun _ => n) (fun _ => r) (fun _ => q)) := by
    have h1 := one_slice hs HPB.out
    simp only [World.size_alloc] at h1
    exact h1
  clear h
  have HF := Lib.hid hF
  clear hF
  have HK := Lib.hid hK
  clear hK
  have hpc := past_cell
  have hmx := run_mx
  have hmn := run_mn
  go_enter Try.func7, Try.ntmps7
  go_wp2_with fail
  (go_at_call 9; refine (few_any _ 1 (fun _ => s) (fun _ => .slice oa n cap) (fun _ => n) (fun _ => r) (fun _ => q) _ HC.out).mono ?_; rintro e w1 ⟨rfl, hb1⟩)
  rw [HF.out]
  have HB1 : Hid (Below ((w.alloc (.cells #[.string s, .slice oa n cap] 29)).alloc (.cells #[.int .i64 x0, .int .i64 x1] 32)).heap.size ((w.alloc (.cells #[.string s, .slice oa n cap] 29)).alloc (.cells #[.int .i64 x0, .int .i64 x1] 32)) w1) := (((Below.refl ((w.alloc (.cells #[.string s, .slice oa n cap] 29)).alloc (.cells #[.int .i64 x0, .int .i64 x1] 32)).heap.size ((w.alloc (.cells #[.string s, .slice oa n cap] 29)).alloc (.cells #[.int .i64 x0, .int .i64 x1] 32))).alloc (Nat.le_refl _) _).trans (hb1.mono (by simp)))
  clear hb1
  have z1a : w.heap.size + 1 < w1.heap.size := by have := HB1.out.size; simp at this; omega
  have z1 : w.heap.size < w1.heap.size := by omega
  have x10 : w1.cell? ⟨w.heap.size, 0, none⟩ = some (.string s) := by rw [HB1.out.cell (p := ⟨_, _, none⟩) (by simp <;> omega)]; simp [go_sem]
  have x11 : w1.cell? ⟨w.heap.size, 1, none⟩ = some (.slice oa n cap) := by rw [HB1.out.cell (p := ⟨_, _, none⟩) (by simp <;> omega)]; simp [go_sem]
  have x12 : w1.cell? ⟨w.heap.size + 1, 0, none⟩ = some (.int .i64 x0) := by rw [HB1.out.cell (p := ⟨_, _, none⟩) (by simp <;> omega)]; simp [go_sem]
  have x13 : w1.cell? ⟨w.heap.size + 1, 1, none⟩ = some (.int .i64 x1) := by rw [HB1.out.cell (p := ⟨_, _, none⟩) (by simp <;> omega)]; simp [go_sem]
  go_wp2_with fail
  (go_at_call 10; refine (check_any _ 1 (fun _ => s) (fun _ => .slice oa n cap) (fun _ => n) (fun _ => r) (fun _ => q) _ (one_slice hs (HPB.out.below HB1.out))).mono ?_; rintro e w2 ⟨rfl, hb1⟩)
  rw [HK.out]
  have HB2 : Hid (Below ((w.alloc (.cells #[.string s, .slice oa n cap] 29)).alloc (.cells #[.int .i64 x0, .int .i64 x1] 32)).heap.size ((w.alloc (.cells #[.string s, .slice oa n cap] 29)).alloc (.cells #[.int .i64 x0, .int .i64 x1] 32)) w2) := ((HB1.out.alloc HB1.out.size _).trans (hb1.mono (by have := HB1.out.size; simp at this ⊢; omega)))
  clear hb1
  have z2a : w.heap.size + 1 < w2.heap.size := by have := HB2.out.size; simp at this; omega
  have z2 : w.heap.size < w2.heap.size := by omega
  have x20 : w2.cell? ⟨w.heap.size, 0, none⟩ = some (.string s) := by rw [HB2.out.cell (p := ⟨_, _, none⟩) (by simp <;> omega)]; simp [go_sem]
  have x21 : w2.cell? ⟨w.heap.size, 1, none⟩ = some (.slice oa n cap) := by rw [HB2.out.cell (p := ⟨_, _, none⟩) (by simp <;> omega)]; simp [go_sem]
  have x22 : w2.cell? ⟨w.heap.size + 1, 0, none⟩ = some (.int .i64 x0) := by rw [HB2.out.cell (p := ⟨_, _, none⟩) (by simp <;> omega)]; simp [go_sem]
  have x23 : w2.cell? ⟨w.heap.size + 1, 1, none⟩ = some (.int .i64 x1) := by rw [HB2.out.cell (p := ⟨_, _, none⟩) (by simp <;> omega)]; simp [go_sem]
  go_wp2_with fail
  refine wp_region_past (by kernel_rfl) (by kernel_rfl) ?_
  iterate 3 go_big_quiet_step (fail)
  go_big_quiet_step ((go_at_call 13; exact past_of (load_val ((HPB.out.below HB2.out).below (Past.h _)) hL0)))
  iterate 6 go_big_quiet_step (fail)
  go_big_quiet_step ((go_at_call 15; exact past_of (reach_val ((HPB.out.below HB2.out).below (Past.h _)) hR0)))
  iterate 2 go_big_quiet_step (fail)
  refine wpQuiet_nil ?_
  intro w3 hw'
  have hb1 := past_out hw'
  clear hw'
  have HB3 : Hid (Below ((w.alloc (.cells #[.string s, .slice oa n cap] 29)).alloc (.cells #[.int .i64 x0, .int .i64 x1] 32)).heap.size ((w.alloc (.cells #[.string s, .slice oa n cap] 29)).alloc (.cells #[.int .i64 x0, .int .i64 x1] 32)) w3) := HB2.out.trans (hb1.mono HB2.out.size)
  clear hb1
  have z3a : w.heap.size + 1 < w3.heap.size := by have := HB3.out.size; simp at this; omega
  have z3 : w.heap.size < w3.heap.size := by omega
  have x30 : w3.cell? ⟨w.heap.size, 0, none⟩ = some (.string s) := by rw [HB3.out.cell (p := ⟨_, _, none⟩) (by simp <;> omega)]; simp [go_sem]
  have x31 : w3.cell? ⟨w.heap.size, 1, none⟩ = some (.slice oa n cap) := by rw [HB3.out.cell (p := ⟨_, _, none⟩) (by simp <;> omega)]; simp [go_sem]
  have x32 : w3.cell? ⟨w.heap.size + 1, 0, none⟩ = some (.int .i64 x0) := by rw [HB3.out.cell (p := ⟨_, _, none⟩) (by simp <;> omega)]; simp [go_sem]
  have x33 : w3.cell? ⟨w.heap.size + 1, 1, none⟩ = some (.int .i64 x1) := by rw [HB3.out.cell (p := ⟨_, _, none⟩) (by simp <;> omega)]; simp [go_sem]
  go_wp2_with fail
  refine wp_region_past (by kernel_rfl) (by kernel_rfl) ?_
  iterate 6 go_big_quiet_step (fail)
  go_big_quiet_step ((go_at_call 13; exact past_of (load_val ((HPB.out.below HB3.out).below (Past.h _)) hL1)))
  iterate 6 go_big_quiet_step (fail)
  go_big_quiet_step ((go_at_call 13; exact past_of (load_val ((HPB.out.below HB3.out).below (Past.h _)) hL2)))
  iterate 5 go_big_quiet_step (fail)
  go_big_quiet_step ((go_at_call 13; exact past_of (load_val ((HPB.out.below HB3.out).below (Past.h _)) hL0)))
  iterate 3 go_big_quiet_step (fail)
  go_big_quiet_step ((go_at_call 12; exact past_of (alive_any _)))
  iterate 2 go_big_quiet_step (fail)
  refine wpQuiet_nil ?_
  intro w4 hw'
  have hb1 := past_out hw'
  clear hw'
  have HBZ := Lib.hid (HB3.out.trans (hb1.mono HB3.out.size))
  go_wp2
  go_returns
  exact ⟨rfl, below_step (w := w) (by go_grown) HBZ.out⟩
set_option maxRecDepth 20000 in
set_option maxHeartbeats 4000000 in
theorem reaches_no (s : ByteArray) (oa : Option Addr) (n cap : Nat) (r q : Nat → Int) (x0 x1 y : Int) (w : World) (hs : s.size ≤ 9223372036854775807) (h : PairsAt w (.slice oa n cap) n r q) (L0 L1 L2 R0 : Int) (hF : fewB 1 (fun _ => s) (fun _ => n) = true) (hK : checkF 1 (fun _ => s) (fun _ => n) (fun _ => r) (fun _ => q) = 0) (h0 : 0 ≤ x0) (h1 : 0 ≤ x1) (h2 : 1 ≤ y) (hL0 : loadF n r q x0 = L0) (hL1 : loadF n r q (mx x0 x1) = L1) (hL2 : loadF n r q (mn x0 x1) = L2) (hR0 : reachTo r q y n = R0) (g0 : L0 < y) (g1 : R0 < x0) (g2 : L1 ≤ L2) (g3 : 0 ≤ L0) : Calls Try.prog 7 #[.agg #[.string s, .slice oa n cap], .agg #[.int .i64 x0, .int .i64 x1], .int .i64 y] w fun e w' => e = .returned (.bool true) ∧ Below w.heap.size w w' := by
  have HPB : Hid (PairsAt ((w.alloc (.cells #[.string s, .slice oa n cap] 29)).alloc (.cells #[.int .i64 x0, .int .i64 x1] 32)) (.slice oa n cap) n r q) := h.below (((Below.refl w.heap.size w).alloc (Nat.le_refl _) _).alloc (by simp) _)
  have HC : Hid (CranesAt (((w.alloc (.cells #[.string s, .slice oa n cap] 29)).alloc (.cells #[.int .i64 x0, .int .i64 x1] 32)).alloc (.cells #[.string s, .slice oa n cap] 29)) (.slice (some ⟨w.heap.size + 1 + 1, 0, none⟩) 1 1) 1 (fun _ => s) (fun _ => .slice oa n cap) (fun _ => n) (fun _ => r) (fun _ => q)) := by
    have h1 := one_slice hs HPB.out
    simp only [World.size_alloc] at h1
    exact h1
  clear h
  have HF := Lib.hid hF
  clear hF
  have HK := Lib.hid hK
  clear hK
  have kn0 : decide (y ≤ L0) = false := decide_eq_false (by omega)
  have kn1 : decide (x0 ≤ R0) = false := decide_eq_false (by omega)
  have hpc := past_cell
  have hmx := run_mx
  have hmn := run_mn
  go_enter Try.func7, Try.ntmps7
  go_wp2_with fail
  (go_at_call 9; refine (few_any _ 1 (fun _ => s) (fun _ => .slice oa n cap) (fun _ => n) (fun _ => r) (fun _ => q) _ HC.out).mono ?_; rintro e w1 ⟨rfl, hb1⟩)
  rw [HF.out]
  have HB1 : Hid (Below ((w.alloc (.cells #[.string s, .slice oa n cap] 29)).alloc (.cells #[.int .i64 x0, .int .i64 x1] 32)).heap.size ((w.alloc (.cells #[.string s, .slice oa n cap] 29)).alloc (.cells #[.int .i64 x0, .int .i64 x1] 32)) w1) := (((Below.refl ((w.alloc (.cells #[.string s, .slice oa n cap] 29)).alloc (.cells #[.int .i64 x0, .int .i64 x1] 32)).heap.size ((w.alloc (.cells #[.string s, .slice oa n cap] 29)).alloc (.cells #[.int .i64 x0, .int .i64 x1] 32))).alloc (Nat.le_refl _) _).trans (hb1.mono (by simp)))
  clear hb1
  have z1a : w.heap.size + 1 < w1.heap.size := by have := HB1.out.size; simp at this; omega
  have z1 : w.heap.size < w1.heap.size := by omega
  have x10 : w1.cell? ⟨w.heap.size, 0, none⟩ = some (.string s) := by rw [HB1.out.cell (p := ⟨_, _, none⟩) (by simp <;> omega)]; simp [go_sem]
  have x11 : w1.cell? ⟨w.heap.size, 1, none⟩ = some (.slice oa n cap) := by rw [HB1.out.cell (p := ⟨_, _, none⟩) (by simp <;> omega)]; simp [go_sem]
  have x12 : w1.cell? ⟨w.heap.size + 1, 0, none⟩ = some (.int .i64 x0) := by rw [HB1.out.cell (p := ⟨_, _, none⟩) (by simp <;> omega)]; simp [go_sem]
  have x13 : w1.cell? ⟨w.heap.size + 1, 1, none⟩ = some (.int .i64 x1) := by rw [HB1.out.cell (p := ⟨_, _, none⟩) (by simp <;> omega)]; simp [go_sem]
  go_wp2_with fail
  (go_at_call 10; refine (check_any _ 1 (fun _ => s) (fun _ => .slice oa n cap) (fun _ => n) (fun _ => r) (fun _ => q) _ (one_slice hs (HPB.out.below HB1.out))).mono ?_; rintro e w2 ⟨rfl, hb1⟩)
  rw [HK.out]
  have HB2 : Hid (Below ((w.alloc (.cells #[.string s, .slice oa n cap] 29)).alloc (.cells #[.int .i64 x0, .int .i64 x1] 32)).heap.size ((w.alloc (.cells #[.string s, .slice oa n cap] 29)).alloc (.cells #[.int .i64 x0, .int .i64 x1] 32)) w2) := ((HB1.out.alloc HB1.out.size _).trans (hb1.mono (by have := HB1.out.size; simp at this ⊢; omega)))
  clear hb1
  have z2a : w.heap.size + 1 < w2.heap.size := by have := HB2.out.size; simp at this; omega
  have z2 : w.heap.size < w2.heap.size := by omega
  have x20 : w2.cell? ⟨w.heap.size, 0, none⟩ = some (.string s) := by rw [HB2.out.cell (p := ⟨_, _, none⟩) (by simp <;> omega)]; simp [go_sem]
  have x21 : w2.cell? ⟨w.heap.size, 1, none⟩ = some (.slice oa n cap) := by rw [HB2.out.cell (p := ⟨_, _, none⟩) (by simp <;> omega)]; simp [go_sem]
  have x22 : w2.cell? ⟨w.heap.size + 1, 0, none⟩ = some (.int .i64 x0) := by rw [HB2.out.cell (p := ⟨_, _, none⟩) (by simp <;> omega)]; simp [go_sem]
  have x23 : w2.cell? ⟨w.heap.size + 1, 1, none⟩ = some (.int .i64 x1) := by rw [HB2.out.cell (p := ⟨_, _, none⟩) (by simp <;> omega)]; simp [go_sem]
  go_wp2_with fail
  refine wp_region_past (by kernel_rfl) (by kernel_rfl) ?_
  iterate 3 go_big_quiet_step (fail)
  go_big_quiet_step ((go_at_call 13; exact past_of (load_val ((HPB.out.below HB2.out).below (Past.h _)) hL0)))
  iterate 6 go_big_quiet_step (fail)
  go_big_quiet_step ((go_at_call 15; exact past_of (reach_val ((HPB.out.below HB2.out).below (Past.h _)) hR0)))
  iterate 2 go_big_quiet_step (fail)
  refine wpQuiet_nil ?_
  intro w3 hw'
  have hb1 := past_out hw'
  clear hw'
  have HB3 : Hid (Below ((w.alloc (.cells #[.string s, .slice oa n cap] 29)).alloc (.cells #[.int .i64 x0, .int .i64 x1] 32)).heap.size ((w.alloc (.cells #[.string s, .slice oa n cap] 29)).alloc (.cells #[.int .i64 x0, .int .i64 x1] 32)) w3) := HB2.out.trans (hb1.mono HB2.out.size)
  clear hb1
  have z3a : w.heap.size + 1 < w3.heap.size := by have := HB3.out.size; simp at this; omega
  have z3 : w.heap.size < w3.heap.size := by omega
  have x30 : w3.cell? ⟨w.heap.size, 0, none⟩ = some (.string s) := by rw [HB3.out.cell (p := ⟨_, _, none⟩) (by simp <;> omega)]; simp [go_sem]
  have x31 : w3.cell? ⟨w.heap.size, 1, none⟩ = some (.slice oa n cap) := by rw [HB3.out.cell (p := ⟨_, _, none⟩) (by simp <;> omega)]; simp [go_sem]
  have x32 : w3.cell? ⟨w.heap.size + 1, 0, none⟩ = some (.int .i64 x0) := by rw [HB3.out.cell (p := ⟨_, _, none⟩) (by simp <;> omega)]; simp [go_sem]
  have x33 : w3.cell? ⟨w.heap.size + 1, 1, none⟩ = some (.int .i64 x1) := by rw [HB3.out.cell (p := ⟨_, _, none⟩) (by simp <;> omega)]; simp [go_sem]
  go_wp2_with fail
  refine wp_region_past (by kernel_rfl) (by kernel_rfl) ?_
  iterate 6 go_big_quiet_step (fail)
  go_big_quiet_step ((go_at_call 13; exact past_of (load_val ((HPB.out.below HB3.out).below (Past.h _)) hL1)))
  iterate 6 go_big_quiet_step (fail)
  go_big_quiet_step ((go_at_call 13; exact past_of (load_val ((HPB.out.below HB3.out).below (Past.h _)) hL2)))
  iterate 5 go_big_quiet_step (fail)
  go_big_quiet_step ((go_at_call 13; exact past_of (load_val ((HPB.out.below HB3.out).below (Past.h _)) hL0)))
  iterate 3 go_big_quiet_step (fail)
  go_big_quiet_step ((go_at_call 12; exact past_of (alive_any _)))
  iterate 2 go_big_quiet_step (fail)
  refine wpQuiet_nil ?_
  intro w4 hw'
  have hb1 := past_out hw'
  clear hw'
  have HBZ := Lib.hid (HB3.out.trans (hb1.mono HB3.out.size))
  go_wp2
  go_returns
  exact ⟨rfl, below_step (w := w) (by go_grown) HBZ.out⟩
end Go.Proofs.Ytmaopenmbngenaa
