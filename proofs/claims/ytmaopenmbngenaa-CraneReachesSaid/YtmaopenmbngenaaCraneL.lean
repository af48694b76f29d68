/-
  The law's own examples, by a walk. Conditions: none. By an AI agent.
-/
import Derived.Test.YtmaopenmbngenaaCraneK
import Derived.Test.YtmaopenmbngenaaCraneF
namespace Go.Proofs.Ytmaopenmbngenaa
open Go.RowKit
set_option linter.unusedSimpArgs false

def aNm (i : Nat) : ByteArray := match i with | 0 => ⟨#[75, 49]⟩ | _ => ⟨#[75, 50]⟩
def aRn (i : Nat) : Nat := match i with | 0 => 2 | _ => 1
def aR (i j : Nat) : Int := match i, j with | 0, 0 => 10000 | 0, _ => 20000 | _, _ => 30000
def aQ (i j : Nat) : Int := match i, j with | 0, 0 => 50000 | 0, _ => 30000 | _, _ => 20000
def aCv (B i : Nat) : Value := match i with | 0 => .slice (some ⟨B, 0, none⟩) 2 2 | _ => .slice (some ⟨B + 1 + 1, 0, none⟩) 1 1
theorem a_check : checkF 2 aNm aRn aR aQ = 0 := by decide +kernel
theorem a_load1 : loadF 2 (aR 0) (aQ 0) 10000 = 50000 := by decide +kernel
theorem a_load2 : loadF 2 (aR 0) (aQ 0) 10001 = 30000 := by decide +kernel
theorem a_load3 : loadF 2 (aR 0) (aQ 0) 20001 = 0 := by decide +kernel
theorem a_reach1 : reachTo (aR 0) (aQ 0) 30001 2 = 10000 := by decide +kernel
theorem a_reach2 : reachTo (aR 0) (aQ 0) 50001 2 = -1 := by decide +kernel
theorem a_share1 : shareV (shareF 1000 0 0 3 0 1 0) = .tuple #[.int .i64 667, .int .i64 334, .int .i64 0] := by unfold shareV; rw [show shareF 1000 0 0 3 0 1 0 = (667, 334, 0) by decide +kernel]
theorem a_share2 : shareV (shareF 10 0 0 4 2 2 2) = .tuple #[.int .i64 0, .int .i64 0, .int .i64 17] := by unfold shareV; rw [show shareF 10 0 0 4 2 2 2 = (0, 0, 17) by decide +kernel]
theorem a_pick : pickF 2 aRn aR aQ 25000 20000 = 1 := by decide +kernel
theorem a_find : findF 2 aNm ⟨#[75, 50]⟩ = 1 := by decide +kernel
theorem al_check {W : World} {v : Value} {cv : Nat → Value} (h : CranesAt W v 2 aNm cv aRn aR aQ) : Calls Try.prog 10 #[v] W fun e w' => e = .returned (.int .i64 0) ∧ Below W.heap.size W w' := by
  have := check_any _ _ _ _ _ _ _ _ h
  rw [a_check] at this
  exact this
theorem al_load1 {W : World} {v : Value} {s : ByteArray} (h : PairsAt W v 2 (aR 0) (aQ 0)) : Calls Try.prog 13 #[.agg #[.string s, v], .int .i64 10000] W fun e w' => e = .returned (.int .i64 50000) ∧ Below W.heap.size W w' := by
  have := load_any v s 2 (aR 0) (aQ 0) 10000 W h
  rw [a_load1] at this
  exact this
theorem al_load2 {W : World} {v : Value} {s : ByteArray} (h : PairsAt W v 2 (aR 0) (aQ 0)) : Calls Try.prog 13 #[.agg #[.string s, v], .int .i64 10001] W fun e w' => e = .returned (.int .i64 30000) ∧ Below W.heap.size W w' := by
  have := load_any v s 2 (aR 0) (aQ 0) 10001 W h
  rw [a_load2] at this
  exact this
theorem al_load3 {W : World} {v : Value} {s : ByteArray} (h : PairsAt W v 2 (aR 0) (aQ 0)) : Calls Try.prog 13 #[.agg #[.string s, v], .int .i64 20001] W fun e w' => e = .returned (.int .i64 0) ∧ Below W.heap.size W w' := by
  have := load_any v s 2 (aR 0) (aQ 0) 20001 W h
  rw [a_load3] at this
  exact this
theorem al_reach1 {W : World} {v : Value} {s : ByteArray} (h : PairsAt W v 2 (aR 0) (aQ 0)) : Calls Try.prog 15 #[.agg #[.string s, v], .int .i64 30001] W fun e w' => e = .returned (.int .i64 10000) ∧ Below W.heap.size W w' := by
  have := reach_any v s 2 (aR 0) (aQ 0) 30001 W h
  rw [a_reach1] at this
  exact this
theorem al_reach2 {W : World} {v : Value} {s : ByteArray} (h : PairsAt W v 2 (aR 0) (aQ 0)) : Calls Try.prog 15 #[.agg #[.string s, v], .int .i64 50001] W fun e w' => e = .returned (.int .i64 (-1)) ∧ Below W.heap.size W w' := by
  have := reach_any v s 2 (aR 0) (aQ 0) 50001 W h
  rw [a_reach2] at this
  exact this
theorem al_share1 {W : World}  : Calls Try.prog 22 #[.int .i64 1000, .agg #[.int .i64 0, .int .i64 0], .agg #[.int .i64 3, .int .i64 0], .agg #[.int .i64 1, .int .i64 0]] W fun e w' => e = .returned (.tuple #[.int .i64 667, .int .i64 334, .int .i64 0]) ∧ Below W.heap.size W w' := by
  have := share_any 1000 0 0 3 0 1 0 W
  rw [a_share1] at this
  exact this
theorem al_share2 {W : World}  : Calls Try.prog 22 #[.int .i64 10, .agg #[.int .i64 0, .int .i64 0], .agg #[.int .i64 4, .int .i64 2], .agg #[.int .i64 2, .int .i64 2]] W fun e w' => e = .returned (.tuple #[.int .i64 0, .int .i64 0, .int .i64 17]) ∧ Below W.heap.size W w' := by
  have := share_any 10 0 0 4 2 2 2 W
  rw [a_share2] at this
  exact this
theorem al_pick {W : World} {v : Value} {cv : Nat → Value} (h : CranesAt W v 2 aNm cv aRn aR aQ) : Calls Try.prog 19 #[v, .int .i64 25000, .int .i64 20000] W fun e w' => e = .returned (.tuple #[.string ⟨#[75, 50]⟩, .bool true]) ∧ Below W.heap.size W w' := by
  have := pick_any _ _ _ _ _ _ _ 25000 20000 _ h
  rw [a_pick] at this
  exact this
theorem al_find {W : World} {v : Value} {cv : Nat → Value} (h : CranesAt W v 2 aNm cv aRn aR aQ) : Calls Try.prog 17 #[v, .string ⟨#[75, 50]⟩] W fun e w' => ∃ oa c, e = .returned (.tuple #[.agg #[.string ⟨#[75, 50]⟩, .slice oa 1 c], .bool true]) ∧ PairsAt w' (.slice oa 1 c) 1 (aR 1) (aQ 1) ∧ Below W.heap.size W w' := by
  refine (find_any _ _ _ _ _ _ _ ⟨#[75, 50]⟩ _ h (fun i hi => by unfold aRn; split <;> omega)).mono ?_
  rintro e w' ⟨sv, he, hp, hb⟩
  rw [a_find] at he hp
  obtain ⟨oa, c, rfl, -, -⟩ := hp.form
  exact ⟨oa, c, he, hp, hb⟩
theorem al_same {W : World} {va vb : Value} (h : PairsAt W va 1 (aR 1) (aQ 1)) (h2 : PairsAt W vb 1 (aR 1) (aQ 1)) : Calls Try.prog 21 #[.agg #[.string ⟨#[75, 50]⟩, va], .agg #[.string ⟨#[75, 50]⟩, vb]] W fun e w' => e = .returned (.bool true) ∧ Below W.heap.size W w' :=
  same_yes _ _ _ _ _ _ _ h h2
theorem a_cranes (w : World) : CranesAt ((((w.alloc (.cells #[.int .i64 10000, .int .i64 50000, .int .i64 20000, .int .i64 30000] 49)).alloc
  (.cells #[.string ⟨#[75, 49]⟩, .slice (some ⟨w.heap.size, 0, none⟩) 2 2] 29)).alloc (.cells #[.int .i64 30000, .int .i64 20000] 49)).alloc
  (.cells #[.string ⟨#[75, 49]⟩, .slice (some ⟨w.heap.size, 0, none⟩) 2 2, .string ⟨#[75, 50]⟩, .slice (some ⟨w.heap.size + 1 + 1, 0, none⟩) 1 1] 29)) (.slice (some ⟨w.heap.size + 1 + 1 + 1, 0, none⟩) 2 2) 2 aNm (aCv w.heap.size) aRn aR aQ := by
  have hp : PairsAt ((((w.alloc (.cells #[.int .i64 10000, .int .i64 50000, .int .i64 20000, .int .i64 30000] 49)).alloc
  (.cells #[.string ⟨#[75, 49]⟩, .slice (some ⟨w.heap.size, 0, none⟩) 2 2] 29)).alloc (.cells #[.int .i64 30000, .int .i64 20000] 49)).alloc
  (.cells #[.string ⟨#[75, 49]⟩, .slice (some ⟨w.heap.size, 0, none⟩) 2 2, .string ⟨#[75, 50]⟩, .slice (some ⟨w.heap.size + 1 + 1, 0, none⟩) 1 1] 29)) (.slice (some ⟨w.heap.size, 0, none⟩) 2 2) 2 (aR 0) (aQ 0) := ⟨_, 2, rfl, by omega, by omega, fun _ => ⟨_, 0, rfl, by simp; omega, fun i j hi hj => by
    rcases (by omega : i = 0 ∨ i = 1) with rfl | rfl <;> rcases (by omega : j = 0 ∨ j = 1) with rfl | rfl <;> simp [go_sem, aR, aQ]⟩⟩
  have hq : PairsAt ((((w.alloc (.cells #[.int .i64 10000, .int .i64 50000, .int .i64 20000, .int .i64 30000] 49)).alloc
  (.cells #[.string ⟨#[75, 49]⟩, .slice (some ⟨w.heap.size, 0, none⟩) 2 2] 29)).alloc (.cells #[.int .i64 30000, .int .i64 20000] 49)).alloc
  (.cells #[.string ⟨#[75, 49]⟩, .slice (some ⟨w.heap.size, 0, none⟩) 2 2, .string ⟨#[75, 50]⟩, .slice (some ⟨w.heap.size + 1 + 1, 0, none⟩) 1 1] 29)) (.slice (some ⟨w.heap.size + 1 + 1, 0, none⟩) 1 1) 1 (aR 1) (aQ 1) := ⟨_, 1, rfl, by omega, by omega, fun _ => ⟨_, 0, rfl, by simp, fun i j hi hj => by
    rcases (by omega : i = 0) with rfl; rcases (by omega : j = 0 ∨ j = 1) with rfl | rfl <;> simp [go_sem, aR, aQ]⟩⟩
  refine ⟨⟨_, 2, rfl, by omega, by omega, fun _ => ⟨_, 0, rfl, by simp, fun i j hi hj => ?_⟩⟩, fun i hi => ?_⟩
  · rcases (by omega : i = 0 ∨ i = 1) with rfl | rfl <;> rcases (by omega : j = 0 ∨ j = 1) with rfl | rfl <;> simp [go_sem, aNm, aCv]
  · rcases (by omega : i = 0 ∨ i = 1) with rfl | rfl
    · exact ⟨by decide, hp⟩
    · exact ⟨by decide, hq⟩
set_option maxRecDepth 20000 in
set_option maxHeartbeats 4000000 in
theorem alive_any (w : World) : Calls Try.prog 12 #[] w fun e w' => e = .returned (.bool true) ∧ Below w.heap.size w w' := by
  have HC := Lib.hid (a_cranes w)
  go_enter Try.func12, Try.ntmps12
  go_wp2_with fail
  (go_at_call 22; refine (al_share1).mono ?_; rintro e w1 ⟨rfl, hb1⟩)
  have HB1 : Hid (Below ((((w.alloc (.cells #[.int .i64 10000, .int .i64 50000, .int .i64 20000, .int .i64 30000] 49)).alloc
    (.cells #[.string ⟨#[75, 49]⟩, .slice (some ⟨w.heap.size, 0, none⟩) 2 2] 29)).alloc (.cells #[.int .i64 30000, .int .i64 20000] 49)).alloc
    (.cells #[.string ⟨#[75, 49]⟩, .slice (some ⟨w.heap.size, 0, none⟩) 2 2, .string ⟨#[75, 50]⟩, .slice (some ⟨w.heap.size + 1 + 1, 0, none⟩) 1 1] 29)).heap.size ((((w.alloc (.cells #[.int .i64 10000, .int .i64 50000, .int .i64 20000, .int .i64 30000] 49)).alloc
    (.cells #[.string ⟨#[75, 49]⟩, .slice (some ⟨w.heap.size, 0, none⟩) 2 2] 29)).alloc (.cells #[.int .i64 30000, .int .i64 20000] 49)).alloc
    (.cells #[.string ⟨#[75, 49]⟩, .slice (some ⟨w.heap.size, 0, none⟩) 2 2, .string ⟨#[75, 50]⟩, .slice (some ⟨w.heap.size + 1 + 1, 0, none⟩) 1 1] 29)) w1) := hb1
  clear hb1
  go_wp2_with fail
  (go_at_call 22; refine (al_share2).mono ?_; rintro e w2 ⟨rfl, hb1⟩)
  have HB2 : Hid (Below ((((w.alloc (.cells #[.int .i64 10000, .int .i64 50000, .int .i64 20000, .int .i64 30000] 49)).alloc
    (.cells #[.string ⟨#[75, 49]⟩, .slice (some ⟨w.heap.size, 0, none⟩) 2 2] 29)).alloc (.cells #[.int .i64 30000, .int .i64 20000] 49)).alloc
    (.cells #[.string ⟨#[75, 49]⟩, .slice (some ⟨w.heap.size, 0, none⟩) 2 2, .string ⟨#[75, 50]⟩, .slice (some ⟨w.heap.size + 1 + 1, 0, none⟩) 1 1] 29)).heap.size ((((w.alloc (.cells #[.int .i64 10000, .int .i64 50000, .int .i64 20000, .int .i64 30000] 49)).alloc
    (.cells #[.string ⟨#[75, 49]⟩, .slice (some ⟨w.heap.size, 0, none⟩) 2 2] 29)).alloc (.cells #[.int .i64 30000, .int .i64 20000] 49)).alloc
    (.cells #[.string ⟨#[75, 49]⟩, .slice (some ⟨w.heap.size, 0, none⟩) 2 2, .string ⟨#[75, 50]⟩, .slice (some ⟨w.heap.size + 1 + 1, 0, none⟩) 1 1] 29)) w2) := HB1.out.trans (hb1.mono HB1.out.size)
  clear hb1
  go_wp2_with fail
  (go_at_call 19; refine (al_pick (HC.out.below HB2.out)).mono ?_; rintro e w3 ⟨rfl, hb1⟩)
  have HB3 : Hid (Below ((((w.alloc (.cells #[.int .i64 10000, .int .i64 50000, .int .i64 20000, .int .i64 30000] 49)).alloc
    (.cells #[.string ⟨#[75, 49]⟩, .slice (some ⟨w.heap.size, 0, none⟩) 2 2] 29)).alloc (.cells #[.int .i64 30000, .int .i64 20000] 49)).alloc
    (.cells #[.string ⟨#[75, 49]⟩, .slice (some ⟨w.heap.size, 0, none⟩) 2 2, .string ⟨#[75, 50]⟩, .slice (some ⟨w.heap.size + 1 + 1, 0, none⟩) 1 1] 29)).heap.size ((((w.alloc (.cells #[.int .i64 10000, .int .i64 50000, .int .i64 20000, .int .i64 30000] 49)).alloc
    (.cells #[.string ⟨#[75, 49]⟩, .slice (some ⟨w.heap.size, 0, none⟩) 2 2] 29)).alloc (.cells #[.int .i64 30000, .int .i64 20000] 49)).alloc
    (.cells #[.string ⟨#[75, 49]⟩, .slice (some ⟨w.heap.size, 0, none⟩) 2 2, .string ⟨#[75, 50]⟩, .slice (some ⟨w.heap.size + 1 + 1, 0, none⟩) 1 1] 29)) w3) := HB2.out.trans (hb1.mono HB2.out.size)
  clear hb1
  go_wp2_with fail
  (go_at_call 17; refine (al_find (HC.out.below HB3.out)).mono ?_; rintro e w4 ⟨osv, csv, rfl, hsv, hb1⟩)
  have HB4 : Hid (Below ((((w.alloc (.cells #[.int .i64 10000, .int .i64 50000, .int .i64 20000, .int .i64 30000] 49)).alloc
    (.cells #[.string ⟨#[75, 49]⟩, .slice (some ⟨w.heap.size, 0, none⟩) 2 2] 29)).alloc (.cells #[.int .i64 30000, .int .i64 20000] 49)).alloc
    (.cells #[.string ⟨#[75, 49]⟩, .slice (some ⟨w.heap.size, 0, none⟩) 2 2, .string ⟨#[75, 50]⟩, .slice (some ⟨w.heap.size + 1 + 1, 0, none⟩) 1 1] 29)).heap.size ((((w.alloc (.cells #[.int .i64 10000, .int .i64 50000, .int .i64 20000, .int .i64 30000] 49)).alloc
    (.cells #[.string ⟨#[75, 49]⟩, .slice (some ⟨w.heap.size, 0, none⟩) 2 2] 29)).alloc (.cells #[.int .i64 30000, .int .i64 20000] 49)).alloc
    (.cells #[.string ⟨#[75, 49]⟩, .slice (some ⟨w.heap.size, 0, none⟩) 2 2, .string ⟨#[75, 50]⟩, .slice (some ⟨w.heap.size + 1 + 1, 0, none⟩) 1 1] 29)) w4) := HB3.out.trans (hb1.mono HB3.out.size)
  have HSV := Lib.hid hsv
  clear hb1 hsv
  have hz : w.heap.size + 1 + 1 + 1 < w4.heap.size := by have := HB4.out.size; simp at this; omega
  have hz1 : w.heap.size + 1 < w4.heap.size := by omega
  have hz0 : w.heap.size < w4.heap.size := by omega
  have hz2 : w.heap.size + 1 + 1 < w4.heap.size := by omega
  have c0 : w4.cell? ⟨w.heap.size + 1, 0, none⟩ = some (.string ⟨#[75, 49]⟩) := by rw [HB4.out.cell (p := ⟨_, _, none⟩) (by simp <;> omega)]; simp [go_sem]
  have c1 : w4.cell? ⟨w.heap.size + 1, 1, none⟩ = some (.slice (some ⟨w.heap.size, 0, none⟩) 2 2) := by rw [HB4.out.cell (p := ⟨_, _, none⟩) (by simp <;> omega)]; simp [go_sem]
  have c2 : w4.cell? ⟨w.heap.size + 1 + 1 + 1, 2, none⟩ = some (.string ⟨#[75, 50]⟩) := by rw [HB4.out.cell (p := ⟨_, _, none⟩) (by simp <;> omega)]; simp [go_sem]
  have c3 : w4.cell? ⟨w.heap.size + 1 + 1 + 1, 3, none⟩ = some (.slice (some ⟨w.heap.size + 1 + 1, 0, none⟩) 1 1) := by rw [HB4.out.cell (p := ⟨_, _, none⟩) (by simp <;> omega)]; simp [go_sem]
  have HC4 := Lib.hid (HC.out.below HB4.out)
  have hpc := past_cell
  go_wp2_with fail
  refine wp_region_past (by kernel_rfl) (by kernel_rfl) ?_
  iterate 1 go_big_quiet_step (fail)
  go_big_quiet_step ((go_at_call 10; exact past_of (al_check ((HC4.out.below ((Below.refl w4.heap.size w4).alloc (Nat.le_refl _) _)).below (Past.h _)))))
  iterate 3 go_big_quiet_step (fail)
  go_big_quiet_step ((go_at_call 13; exact past_of (al_load1 (((HC4.out.2 0 (by decide)).2.below ((Below.refl w4.heap.size w4).alloc (Nat.le_refl _) _)).below (Past.h _)))))
  iterate 4 go_big_quiet_step (fail)
  go_big_quiet_step ((go_at_call 13; exact past_of (al_load2 (((HC4.out.2 0 (by decide)).2.below ((Below.refl w4.heap.size w4).alloc (Nat.le_refl _) _)).below (Past.h _)))))
  iterate 4 go_big_quiet_step (fail)
  go_big_quiet_step ((go_at_call 13; exact past_of (al_load3 (((HC4.out.2 0 (by decide)).2.below ((Below.refl w4.heap.size w4).alloc (Nat.le_refl _) _)).below (Past.h _)))))
  iterate 4 go_big_quiet_step (fail)
  go_big_quiet_step ((go_at_call 15; exact past_of (al_reach1 (((HC4.out.2 0 (by decide)).2.below ((Below.refl w4.heap.size w4).alloc (Nat.le_refl _) _)).below (Past.h _)))))
  iterate 4 go_big_quiet_step (fail)
  go_big_quiet_step ((go_at_call 15; exact past_of (al_reach2 (((HC4.out.2 0 (by decide)).2.below ((Below.refl w4.heap.size w4).alloc (Nat.le_refl _) _)).below (Past.h _)))))
  iterate 30 go_big_quiet_step (fail)
  go_big_quiet_step ((go_at_call 21; exact past_of (al_same ((HSV.out.below ((Below.refl w4.heap.size w4).alloc (Nat.le_refl _) _)).below (Past.h _)) (((HC4.out.2 1 (by decide)).2.below ((Below.refl w4.heap.size w4).alloc (Nat.le_refl _) _)).below (Past.h _)))))
  iterate 5 go_big_quiet_step (fail)
  refine wpQuiet_nil ?_
  intro w5 hw'
  have hb1 := past_out hw'
  clear hw'
  go_wp2
  go_returns
  exact ⟨rfl, below_step (below_step (w := w) (by go_grown) HB4.out) (below_step (w := w4) (by go_grown) hb1)⟩
end Go.Proofs.Ytmaopenmbngenaa
