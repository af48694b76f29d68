/-
  Of the law CraneReaches: the ways on which the law asks nothing. Conditions: none. By an AI agent.
-/
import Derived.Test.YtmaopenmbngenaaCraneQ
namespace Go.Proofs.Ytmaopenmbngenaa
open Go Go.ChangeShapes Go.WideShapes Go.RowKit Go.ChangeAt
set_option linter.unusedSimpArgs false
set_option linter.unusedVariables false

set_option maxRecDepth 20000 in
set_option maxHeartbeats 4000000 in
theorem reaches_few (s : ByteArray) (oa : Option Addr) (n cap : Nat) (r q : Nat → Int) (x0 x1 y : Int) (w : World) (hs : s.size ≤ 9223372036854775807) (h : PairsAt w (.slice oa n cap) n r q) (hF : fewB 1 (fun _ => s) (fun _ => n) = false) : Calls Try.prog 7 #[.agg #[.string s, .slice oa n cap], .agg #[.int .i64 x0, .int .i64 x1], .int .i64 y] w fun e w' => e = .returned (.bool true) ∧ Below w.heap.size w w' := by
  have HPB : Hid (PairsAt ((w.alloc (.cells #[.string s, .slice oa n cap] 29)).alloc (.cells #[.int .i64 x0, .int .i64 x1] 32)) (.slice oa n cap) n r q) := h.below (((Below.refl w.heap.size w).alloc (Nat.le_refl _) _).alloc (by simp) _)
  have HC : Hid (CranesAt (((w.alloc (.cells #[.string s, .slice oa n cap] 29)).alloc (.cells #[.int .i64 x0, .int .i64 x1] 32)).alloc (.cells #[.string s, .slice oa n cap] 29)) (.slice (some ⟨w.heap.size + 1 + 1, 0, none⟩) 1 1) 1 (fun _ => s) (fun _ => .slice oa n cap) (fun _ => n) (fun _ => r) (fun _ => q)) := by
    have h1 := one_slice hs HPB.out
    simp only [World.size_alloc] at h1
    exact h1
  clear h
  have HF := Lib.hid hF
  clear hF
  go_enter Try.func7, Try.ntmps7
  go_wp2_with fail
  (go_at_call 9; refine (few_any _ 1 (fun _ => s) (fun _ => .slice oa n cap) (fun _ => n) (fun _ => r) (fun _ => q) _ HC.out).mono ?_; rintro e w1 ⟨rfl, hb1⟩)
  rw [HF.out]
  have HB1 : Hid (Below ((w.alloc (.cells #[.string s, .slice oa n cap] 29)).alloc (.cells #[.int .i64 x0, .int .i64 x1] 32)).heap.size ((w.alloc (.cells #[.string s, .slice oa n cap] 29)).alloc (.cells #[.int .i64 x0, .int .i64 x1] 32)) w1) := (((Below.refl ((w.alloc (.cells #[.string s, .slice oa n cap] 29)).alloc (.cells #[.int .i64 x0, .int .i64 x1] 32)).heap.size ((w.alloc (.cells #[.string s, .slice oa n cap] 29)).alloc (.cells #[.int .i64 x0, .int .i64 x1] 32))).alloc (Nat.le_refl _) _).trans (hb1.mono (by simp)))
  clear hb1
  have z1a : w.heap.size + 1 < w1.heap.size := by have := HB1.out.size; simp at this; omega
  have z1 : w.heap.size < w1.heap.size := by omega
  have x10 : w1.cell? ⟨w.heap.size, 0, none⟩ = some (.string s) := by rw [HB1.out.cell (p := ⟨_, _, none⟩) (by simp <;> omega)]; simp [go_sem]
  have x11 : w1.cell? ⟨w.heap.size, 1, none⟩ = some (.slice oa n cap) := by rw [HB1.out.cell (p := ⟨_, _, none⟩) (by simp <;> omega)]; simp [go_sem]
  have x12 : w1.cell? ⟨w.heap.size + 1, 0, none⟩ = some (.int .i64 x0) := by rw [HB1.out.cell (p := ⟨_, _, none⟩) (by simp <;> omega)]; simp [go_sem]
  have x13 : w1.cell? ⟨w.heap.size + 1, 1, none⟩ = some (.int .i64 x1) := by rw [HB1.out.cell (p := ⟨_, _, none⟩) (by simp <;> omega)]; simp [go_sem]
  go_wp2_with fail
  (go_at_call 12; refine (alive_any _).mono ?_; rintro e w2 ⟨rfl, hb1⟩)
  have HBZ := Lib.hid (HB1.out.trans (hb1.mono HB1.out.size))
  go_wp2
  go_returns
  exact ⟨rfl, below_step (w := w) (by go_grown) HBZ.out⟩
set_option maxRecDepth 20000 in
set_option maxHeartbeats 4000000 in
theorem reaches_check (s : ByteArray) (oa : Option Addr) (n cap : Nat) (r q : Nat → Int) (x0 x1 y : Int) (w : World) (hs : s.size ≤ 9223372036854775807) (h : PairsAt w (.slice oa n cap) n r q) (C : Int) (hF : fewB 1 (fun _ => s) (fun _ => n) = true) (hK : checkF 1 (fun _ => s) (fun _ => n) (fun _ => r) (fun _ => q) = C) (hC : C ≠ 0) : Calls Try.prog 7 #[.agg #[.string s, .slice oa n cap], .agg #[.int .i64 x0, .int .i64 x1], .int .i64 y] w fun e w' => e = .returned (.bool true) ∧ Below w.heap.size w w' := by
  have HPB : Hid (PairsAt ((w.alloc (.cells #[.string s, .slice oa n cap] 29)).alloc (.cells #[.int .i64 x0, .int .i64 x1] 32)) (.slice oa n cap) n r q) := h.below (((Below.refl w.heap.size w).alloc (Nat.le_refl _) _).alloc (by simp) _)
  have HC : Hid (CranesAt (((w.alloc (.cells #[.string s, .slice oa n cap] 29)).alloc (.cells #[.int .i64 x0, .int .i64 x1] 32)).alloc (.cells #[.string s, .slice oa n cap] 29)) (.slice (some ⟨w.heap.size + 1 + 1, 0, none⟩) 1 1) 1 (fun _ => s) (fun _ => .slice oa n cap) (fun _ => n) (fun _ => r) (fun _ => q)) := by
    have h1 := one_slice hs HPB.out
    simp only [World.size_alloc] at h1
    exact h1
  clear h
  have HF := Lib.hid hF
  clear hF
  have HK := Lib.hid hK
  clear hK
  have k : (C != 0) = true := by simpa using hC
  clear hC
  go_enter Try.func7, Try.ntmps7
  go_wp2_with fail
  (go_at_call 9; refine (few_any _ 1 (fun _ => s) (fun _ => .slice oa n cap) (fun _ => n) (fun _ => r) (fun _ => q) _ HC.out).mono ?_; rintro e w1 ⟨rfl, hb1⟩)
  rw [HF.out]
  have HB1 : Hid (Below ((w.alloc (.cells #[.string s, .slice oa n cap] 29)).alloc (.cells #[.int .i64 x0, .int .i64 x1] 32)).heap.size ((w.alloc (.cells #[.string s, .slice oa n cap] 29)).alloc (.cells #[.int .i64 x0, .int .i64 x1] 32)) w1) := (((Below.refl ((w.alloc (.cells #[.string s, .slice oa n cap] 29)).alloc (.cells #[.int .i64 x0, .int .i64 x1] 32)).heap.size ((w.alloc (.cells #[.string s, .slice oa n cap] 29)).alloc (.cells #[.int .i64 x0, .int .i64 x1] 32))).alloc (Nat.le_refl _) _).trans (hb1.mono (by simp)))
  clear hb1
  have z1a : w.heap.size + 1 < w1.heap.size := by have := HB1.out.size; simp at this; omega
  have z1 : w.heap.size < w1.heap.size := by omega
  have x10 : w1.cell? ⟨w.heap.size, 0, none⟩ = some (.string s) := by rw [HB1.out.cell (p := ⟨_, _, none⟩) (by simp <;> omega)]; simp [go_sem]
  have x11 : w1.cell? ⟨w.heap.size, 1, none⟩ = some (.slice oa n cap) := by rw [HB1.out.cell (p := ⟨_, _, none⟩) (by simp <;> omega)]; simp [go_sem]
  have x12 : w1.cell? ⟨w.heap.size + 1, 0, none⟩ = some (.int .i64 x0) := by rw [HB1.out.cell (p := ⟨_, _, none⟩) (by simp <;> omega)]; simp [go_sem]
  have x13 : w1.cell? ⟨w.heap.size + 1, 1, none⟩ = some (.int .i64 x1) := by rw [HB1.out.cell (p := ⟨_, _, none⟩) (by simp <;> omega)]; simp [go_sem]
  go_wp2_with fail
  (go_at_call 10; refine (check_any _ 1 (fun _ => s) (fun _ => .slice oa n cap) (fun _ => n) (fun _ => r) (fun _ => q) _ (one_slice hs (HPB.out.below HB1.out))).mono ?_; rintro e w2 ⟨rfl, hb1⟩)
  rw [HK.out]
  have HB2 : Hid (Below ((w.alloc (.cells #[.string s, .slice oa n cap] 29)).alloc (.cells #[.int .i64 x0, .int .i64 x1] 32)).heap.size ((w.alloc (.cells #[.string s, .slice oa n cap] 29)).alloc (.cells #[.int .i64 x0, .int .i64 x1] 32)) w2) := ((HB1.out.alloc HB1.out.size _).trans (hb1.mono (by have := HB1.out.size; simp at this ⊢; omega)))
  clear hb1
  have z2a : w.heap.size + 1 < w2.heap.size := by have := HB2.out.size; simp at this; omega
  have z2 : w.heap.size < w2.heap.size := by omega
  have x20 : w2.cell? ⟨w.heap.size, 0, none⟩ = some (.string s) := by rw [HB2.out.cell (p := ⟨_, _, none⟩) (by simp <;> omega)]; simp [go_sem]
  have x21 : w2.cell? ⟨w.heap.size, 1, none⟩ = some (.slice oa n cap) := by rw [HB2.out.cell (p := ⟨_, _, none⟩) (by simp <;> omega)]; simp [go_sem]
  have x22 : w2.cell? ⟨w.heap.size + 1, 0, none⟩ = some (.int .i64 x0) := by rw [HB2.out.cell (p := ⟨_, _, none⟩) (by simp <;> omega)]; simp [go_sem]
  have x23 : w2.cell? ⟨w.heap.size + 1, 1, none⟩ = some (.int .i64 x1) := by rw [HB2.out.cell (p := ⟨_, _, none⟩) (by simp <;> omega)]; simp [go_sem]
  go_wp2_with fail
  (go_at_call 12; refine (alive_any _).mono ?_; rintro e w3 ⟨rfl, hb1⟩)
  have HBZ := Lib.hid (HB2.out.trans (hb1.mono HB2.out.size))
  go_wp2
  go_returns
  exact ⟨rfl, below_step (w := w) (by go_grown) HBZ.out⟩
set_option maxRecDepth 20000 in
set_option maxHeartbeats 4000000 in
theorem reaches_r0 (s : ByteArray) (oa : Option Addr) (n cap : Nat) (r q : Nat → Int) (x0 x1 y : Int) (w : World) (hs : s.size ≤ 9223372036854775807) (h : PairsAt w (.slice oa n cap) n r q) (hF : fewB 1 (fun _ => s) (fun _ => n) = true) (hK : checkF 1 (fun _ => s) (fun _ => n) (fun _ => r) (fun _ => q) = 0) (h0 : x0 < 0) : Calls Try.prog 7 #[.agg #[.string s, .slice oa n cap], .agg #[.int .i64 x0, .int .i64 x1], .int .i64 y] w fun e w' => e = .returned (.bool true) ∧ Below w.heap.size w w' := by
  have HPB : Hid (PairsAt ((w.alloc (.cells #[.string s, .slice oa n cap] 29)).alloc (.cells #[.int .i64 x0, .int .i64 x1] 32)) (.slice oa n cap) n r q) := h.below (((Below.refl w.heap.size w).alloc (Nat.le_refl _) _).alloc (by simp) _)
  have HC : Hid (CranesAt (((w.alloc (.cells #[.string s, .slice oa n cap] 29)).alloc (.cells #[.int .i64 x0, .int .i64 x1] 32)).alloc (.cells #[.string s, .slice oa n cap] 29)) (.slice (some ⟨w.heap.size + 1 + 1, 0, none⟩) 1 1) 1 (fun _ => s) (fun _ => .slice oa n cap) (fun _ => n) (fun _ => r) (fun _ => q)) := by
    have h1 := one_slice hs HPB.out
    simp only [World.size_alloc] at h1
    exact h1
  clear h
  have HF := Lib.hid hF
  clear hF
  have HK := Lib.hid hK
  clear hK
  go_enter Try.func7, Try.ntmps7
  go_wp2_with fail
  (go_at_call 9; refine (few_any _ 1 (fun _ => s) (fun _ => .slice oa n cap) (fun _ => n) (fun _ => r) (fun _ => q) _ HC.out).mono ?_; rintro e w1 ⟨rfl, hb1⟩)
  rw [HF.out]
  have HB1 : Hid (Below ((w.alloc (.cells #[.string s, .slice oa n cap] 29)).alloc (.cells #[.int .i64 x0, .int .i64 x1] 32)).heap.size ((w.alloc (.cells #[.string s, .slice oa n cap] 29)).alloc (.cells #[.int .i64 x0, .int .i64 x1] 32)) w1) := (((Below.refl ((w.alloc (.cells #[.string s, .slice oa n cap] 29)).alloc (.cells #[.int .i64 x0, .int .i64 x1] 32)).heap.size ((w.alloc (.cells #[.string s, .slice oa n cap] 29)).alloc (.cells #[.int .i64 x0, .int .i64 x1] 32))).alloc (Nat.le_refl _) _).trans (hb1.mono (by simp)))
  clear hb1
  have z1a : w.heap.size + 1 < w1.heap.size := by have := HB1.out.size; simp at this; omega
  have z1 : w.heap.size < w1.heap.size := by omega
  have x10 : w1.cell? ⟨w.heap.size, 0, none⟩ = some (.string s) := by rw [HB1.out.cell (p := ⟨_, _, none⟩) (by simp <;> omega)]; simp [go_sem]
  have x11 : w1.cell? ⟨w.heap.size, 1, none⟩ = some (.slice oa n cap) := by rw [HB1.out.cell (p := ⟨_, _, none⟩) (by simp <;> omega)]; simp [go_sem]
  have x12 : w1.cell? ⟨w.heap.size + 1, 0, none⟩ = some (.int .i64 x0) := by rw [HB1.out.cell (p := ⟨_, _, none⟩) (by simp <;> omega)]; simp [go_sem]
  have x13 : w1.cell? ⟨w.heap.size + 1, 1, none⟩ = some (.int .i64 x1) := by rw [HB1.out.cell (p := ⟨_, _, none⟩) (by simp <;> omega)]; simp [go_sem]
  go_wp2_with fail
  (go_at_call 10; refine (check_any _ 1 (fun _ => s) (fun _ => .slice oa n cap) (fun _ => n) (fun _ => r) (fun _ => q) _ (one_slice hs (HPB.out.below HB1.out))).mono ?_; rintro e w2 ⟨rfl, hb1⟩)
  rw [HK.out]
  have HB2 : Hid (Below ((w.alloc (.cells #[.string s, .slice oa n cap] 29)).alloc (.cells #[.int .i64 x0, .int .i64 x1] 32)).heap.size ((w.alloc (.cells #[.string s, .slice oa n cap] 29)).alloc (.cells #[.int .i64 x0, .int .i64 x1] 32)) w2) := ((HB1.out.alloc HB1.out.size _).trans (hb1.mono (by have := HB1.out.size; simp at this ⊢; omega)))
  clear hb1
  have z2a : w.heap.size + 1 < w2.heap.size := by have := HB2.out.size; simp at this; omega
  have z2 : w.heap.size < w2.heap.size := by omega
  have x20 : w2.cell? ⟨w.heap.size, 0, none⟩ = some (.string s) := by rw [HB2.out.cell (p := ⟨_, _, none⟩) (by simp <;> omega)]; simp [go_sem]
  have x21 : w2.cell? ⟨w.heap.size, 1, none⟩ = some (.slice oa n cap) := by rw [HB2.out.cell (p := ⟨_, _, none⟩) (by simp <;> omega)]; simp [go_sem]
  have x22 : w2.cell? ⟨w.heap.size + 1, 0, none⟩ = some (.int .i64 x0) := by rw [HB2.out.cell (p := ⟨_, _, none⟩) (by simp <;> omega)]; simp [go_sem]
  have x23 : w2.cell? ⟨w.heap.size + 1, 1, none⟩ = some (.int .i64 x1) := by rw [HB2.out.cell (p := ⟨_, _, none⟩) (by simp <;> omega)]; simp [go_sem]
  go_wp2_with fail
  (go_at_call 12; refine (alive_any _).mono ?_; rintro e w3 ⟨rfl, hb1⟩)
  have HBZ := Lib.hid (HB2.out.trans (hb1.mono HB2.out.size))
  go_wp2
  go_returns
  exact ⟨rfl, below_step (w := w) (by go_grown) HBZ.out⟩
set_option maxRecDepth 20000 in
set_option maxHeartbeats 4000000 in
theorem reaches_r1 (s : ByteArray) (oa : Option Addr) (n cap : Nat) (r q : Nat → Int) (x0 x1 y : Int) (w : World) (hs : s.size ≤ 9223372036854775807) (h : PairsAt w (.slice oa n cap) n r q) (hF : fewB 1 (fun _ => s) (fun _ => n) = true) (hK : checkF 1 (fun _ => s) (fun _ => n) (fun _ => r) (fun _ => q) = 0) (h0 : 0 ≤ x0) (h1 : x1 < 0) : Calls Try.prog 7 #[.agg #[.string s, .slice oa n cap], .agg #[.int .i64 x0, .int .i64 x1], .int .i64 y] w fun e w' => e = .returned (.bool true) ∧ Below w.heap.size w w' := by
  have HPB : Hid (PairsAt ((w.alloc (.cells #[.string s, .slice oa n cap] 29)).alloc (.cells #[.int .i64 x0, .int .i64 x1] 32)) (.slice oa n cap) n r q) := h.below (((Below.refl w.heap.size w).alloc (Nat.le_refl _) _).alloc (by simp) _)
  have HC : Hid (CranesAt (((w.alloc (.cells #[.string s, .slice oa n cap] 29)).alloc (.cells #[.int .i64 x0, .int .i64 x1] 32)).alloc (.cells #[.string s, .slice oa n cap] 29)) (.slice (some ⟨w.heap.size + 1 + 1, 0, none⟩) 1 1) 1 (fun _ => s) (fun _ => .slice oa n cap) (fun _ => n) (fun _ => r) (fun _ => q)) := by
    have h1 := one_slice hs HPB.out
    simp only [World.size_alloc] at h1
    exact h1
  clear h
  have HF := Lib.hid hF
  clear hF
  have HK := Lib.hid hK
  clear hK
  go_enter Try.func7, Try.ntmps7
  go_wp2_with fail
  (go_at_call 9; refine (few_any _ 1 (fun _ => s) (fun _ => .slice oa n cap) (fun _ => n) (fun _ => r) (fun _ => q) _ HC.out).mono ?_; rintro e w1 ⟨rfl, hb1⟩)
  rw [HF.out]
  have HB1 : Hid (Below ((w.alloc (.cells #[.string s, .slice oa n cap] 29)).alloc (.cells #[.int .i64 x0, .int .i64 x1] 32)).heap.size ((w.alloc (.cells #[.string s, .slice oa n cap] 29)).alloc (.cells #[.int .i64 x0, .int .i64 x1] 32)) w1) := (((Below.refl ((w.alloc (.cells #[.string s, .slice oa n cap] 29)).alloc (.cells #[.int .i64 x0, .int .i64 x1] 32)).heap.size ((w.alloc (.cells #[.string s, .slice oa n cap] 29)).alloc (.cells #[.int .i64 x0, .int .i64 x1] 32))).alloc (Nat.le_refl _) _).trans (hb1.mono (by simp)))
  clear hb1
  have z1a : w.heap.size + 1 < w1.heap.size := by have := HB1.out.size; simp at this; omega
  have z1 : w.heap.size < w1.heap.size := by omega
  have x10 : w1.cell? ⟨w.heap.size, 0, none⟩ = some (.string s) := by rw [HB1.out.cell (p := ⟨_, _, none⟩) (by simp <;> omega)]; simp [go_sem]
  have x11 : w1.cell? ⟨w.heap.size, 1, none⟩ = some (.slice oa n cap) := by rw [HB1.out.cell (p := ⟨_, _, none⟩) (by simp <;> omega)]; simp [go_sem]
  have x12 : w1.cell? ⟨w.heap.size + 1, 0, none⟩ = some (.int .i64 x0) := by rw [HB1.out.cell (p := ⟨_, _, none⟩) (by simp <;> omega)]; simp [go_sem]
  have x13 : w1.cell? ⟨w.heap.size + 1, 1, none⟩ = some (.int .i64 x1) := by rw [HB1.out.cell (p := ⟨_, _, none⟩) (by simp <;> omega)]; simp [go_sem]
  go_wp2_with fail
  (go_at_call 10; refine (check_any _ 1 (fun _ => s) (fun _ => .slice oa n cap) (fun _ => n) (fun _ => r) (fun _ => q) _ (one_slice hs (HPB.out.below HB1.out))).mono ?_; rintro e w2 ⟨rfl, hb1⟩)
  rw [HK.out]
  have HB2 : Hid (Below ((w.alloc (.cells #[.string s, .slice oa n cap] 29)).alloc (.cells #[.int .i64 x0, .int .i64 x1] 32)).heap.size ((w.alloc (.cells #[.string s, .slice oa n cap] 29)).alloc (.cells #[.int .i64 x0, .int .i64 x1] 32)) w2) := ((HB1.out.alloc HB1.out.size _).trans (hb1.mono (by have := HB1.out.size; simp at this ⊢; omega)))
  clear hb1
  have z2a : w.heap.size + 1 < w2.heap.size := by have := HB2.out.size; simp at this; omega
  have z2 : w.heap.size < w2.heap.size := by omega
  have x20 : w2.cell? ⟨w.heap.size, 0, none⟩ = some (.string s) := by rw [HB2.out.cell (p := ⟨_, _, none⟩) (by simp <;> omega)]; simp [go_sem]
  have x21 : w2.cell? ⟨w.heap.size, 1, none⟩ = some (.slice oa n cap) := by rw [HB2.out.cell (p := ⟨_, _, none⟩) (by simp <;> omega)]; simp [go_sem]
  have x22 : w2.cell? ⟨w.heap.size + 1, 0, none⟩ = some (.int .i64 x0) := by rw [HB2.out.cell (p := ⟨_, _, none⟩) (by simp <;> omega)]; simp [go_sem]
  have x23 : w2.cell? ⟨w.heap.size + 1, 1, none⟩ = some (.int .i64 x1) := by rw [HB2.out.cell (p := ⟨_, _, none⟩) (by simp <;> omega)]; simp [go_sem]
  go_wp2_with fail
  (go_at_call 12; refine (alive_any _).mono ?_; rintro e w3 ⟨rfl, hb1⟩)
  have HBZ := Lib.hid (HB2.out.trans (hb1.mono HB2.out.size))
  go_wp2
  go_returns
  exact ⟨rfl, below_step (w := w) (by go_grown) HBZ.out⟩
set_option maxRecDepth 20000 in
set_option maxHeartbeats 4000000 in
theorem reaches_lo (s : ByteArray) (oa : Option Addr) (n cap : Nat) (r q : Nat → Int) (x0 x1 y : Int) (w : World) (hs : s.size ≤ 9223372036854775807) (h : PairsAt w (.slice oa n cap) n r q) (hF : fewB 1 (fun _ => s) (fun _ => n) = true) (hK : checkF 1 (fun _ => s) (fun _ => n) (fun _ => r) (fun _ => q) = 0) (h0 : 0 ≤ x0) (h1 : 0 ≤ x1) (h2 : y < 1) : Calls Try.prog 7 #[.agg #[.string s, .slice oa n cap], .agg #[.int .i64 x0, .int .i64 x1], .int .i64 y] w fun e w' => e = .returned (.bool true) ∧ Below w.heap.size w w' := by
  have HPB : Hid (PairsAt ((w.alloc (.cells #[.string s, .slice oa n cap] 29)).alloc (.cells #[.int .i64 x0, .int .i64 x1] 32)) (.slice oa n cap) n r q) := h.below (((Below.refl w.heap.size w).alloc (Nat.le_refl _) _).alloc (by simp) _)
  have HC : Hid (CranesAt (((w.alloc (.cells #[.string s, .slice oa n cap] 29)).alloc (.cells #[.int .i64 x0, .int .i64 x1] 32)).alloc (.cells #[.string s, .slice oa n cap] 29)) (.slice (some ⟨w.heap.size + 1 + 1, 0, none⟩) 1 1) 1 (fun _ => s) (fun _ => .slice oa n cap) (fun _ => n) (fun _ => r) (fun _ => q)) := by
    have h1 := one_slice hs HPB.out
    simp only [World.size_alloc] at h1
    exact h1
  clear h
  have HF := Lib.hid hF
  clear hF
  have HK := Lib.hid hK
  clear hK
  go_enter Try.func7, Try.ntmps7
  go_wp2_with fail
  (go_at_call 9; refine (few_any _ 1 (fun _ => s) (fun _ => .slice oa n cap) (fun _ => n) (fun _ => r) (fun _ => q) _ HC.out).mono ?_; rintro e w1 ⟨rfl, hb1⟩)
  rw [HF.out]
  have HB1 : Hid (Below ((w.alloc (.cells #[.string s, .slice oa n cap] 29)).alloc (.cells #[.int .i64 x0, .int .i64 x1] 32)).heap.size ((w.alloc (.cells #[.string s, .slice oa n cap] 29)).alloc (.cells #[.int .i64 x0, .int .i64 x1] 32)) w1) := (((Below.refl ((w.alloc (.cells #[.string s, .slice oa n cap] 29)).alloc (.cells #[.int .i64 x0, .int .i64 x1] 32)).heap.size ((w.alloc (.cells #[.string s, .slice oa n cap] 29)).alloc (.cells #[.int .i64 x0, .int .i64 x1] 32))).alloc (Nat.le_refl _) _).trans (hb1.mono (by simp)))
  clear hb1
  have z1a : w.heap.size + 1 < w1.heap.size := by have := HB1.out.size; simp at this; omega
  have z1 : w.heap.size < w1.heap.size := by omega
  have x10 : w1.cell? ⟨w.heap.size, 0, none⟩ = some (.string s) := by rw [HB1.out.cell (p := ⟨_, _, none⟩) (by simp <;> omega)]; simp [go_sem]
  have x11 : w1.cell? ⟨w.heap.size, 1, none⟩ = some (.slice oa n cap) := by rw [HB1.out.cell (p := ⟨_, _, none⟩) (by simp <;> omega)]; simp [go_sem]
  have x12 : w1.cell? ⟨w.heap.size + 1, 0, none⟩ = some (.int .i64 x0) := by rw [HB1.out.cell (p := ⟨_, _, none⟩) (by simp <;> omega)]; simp [go_sem]
  have x13 : w1.cell? ⟨w.heap.size + 1, 1, none⟩ = some (.int .i64 x1) := by rw [HB1.out.cell (p := ⟨_, _, none⟩) (by simp <;> omega)]; simp [go_sem]
  go_wp2_with fail
  (go_at_call 10; refine (check_any _ 1 (fun _ => s) (fun _ => .slice oa n cap) (fun _ => n) (fun _ => r) (fun _ => q) _ (one_slice hs (HPB.out.below HB1.out))).mono ?_; rintro e w2 ⟨rfl, hb1⟩)
  rw [HK.out]
  have HB2 : Hid (Below ((w.alloc (.cells #[.string s, .slice oa n cap] 29)).alloc (.cells #[.int .i64 x0, .int .i64 x1] 32)).heap.size ((w.alloc (.cells #[.string s, .slice oa n cap] 29)).alloc (.cells #[.int .i64 x0, .int .i64 x1] 32)) w2) := ((HB1.out.alloc HB1.out.size _).trans (hb1.mono (by have := HB1.out.size; simp at this ⊢; omega)))
  clear hb1
  have z2a : w.heap.size + 1 < w2.heap.size := by have := HB2.out.size; simp at this; omega
  have z2 : w.heap.size < w2.heap.size := by omega
  have x20 : w2.cell? ⟨w.heap.size, 0, none⟩ = some (.string s) := by rw [HB2.out.cell (p := ⟨_, _, none⟩) (by simp <;> omega)]; simp [go_sem]
  have x21 : w2.cell? ⟨w.heap.size, 1, none⟩ = some (.slice oa n cap) := by rw [HB2.out.cell (p := ⟨_, _, none⟩) (by simp <;> omega)]; simp [go_sem]
  have x22 : w2.cell? ⟨w.heap.size + 1, 0, none⟩ = some (.int .i64 x0) := by rw [HB2.out.cell (p := ⟨_, _, none⟩) (by simp <;> omega)]; simp [go_sem]
  have x23 : w2.cell? ⟨w.heap.size + 1, 1, none⟩ = some (.int .i64 x1) := by rw [HB2.out.cell (p := ⟨_, _, none⟩) (by simp <;> omega)]; simp [go_sem]
  go_wp2_with fail
  (go_at_call 12; refine (alive_any _).mono ?_; rintro e w3 ⟨rfl, hb1⟩)
  have HBZ := Lib.hid (HB2.out.trans (hb1.mono HB2.out.size))
  go_wp2
  go_returns
  exact ⟨rfl, below_step (w := w) (by go_grown) HBZ.out⟩
end Go.Proofs.Ytmaopenmbngenaa
