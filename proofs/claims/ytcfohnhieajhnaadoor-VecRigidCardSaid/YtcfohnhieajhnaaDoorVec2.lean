/-
  What like, Compose and Back of package vec return, by walks. Conditions: package vec's variable probe holds (1, 2, 3). By an AI agent.
-/
import Derived.Test.YtcfohnhieajhnaaDoorVec
import Derived.Test.YtcfohnhieajhnaaDoorTail
namespace Go.Proofs.YtcfohnhieajhnaaDoor
open Go.RowKit

/-- the package's variable holds its vector -/
def ProbeIs (w : World) : Prop := w.cell? ⟨0, 0, none⟩ = some (.int .i64 1) ∧ w.cell? ⟨0, 1, none⟩ = some (.int .i64 2) ∧ w.cell? ⟨0, 2, none⟩ = some (.int .i64 3)
theorem ProbeIs.lt {w : World} (h : ProbeIs w) : 0 < w.heap.size := World.block_lt_of_cell? w _ h.1
theorem ProbeIs.below {w w' : World} (h : ProbeIs w) (hb : Below w.heap.size w w') : ProbeIs w' :=
  ⟨(hb.cell (p := ⟨_, _, none⟩) h.lt).trans h.1, (hb.cell (p := ⟨_, _, none⟩) h.lt).trans h.2.1, (hb.cell (p := ⟨_, _, none⟩) h.lt).trans h.2.2⟩
theorem ProbeIs.alloc {w : World} (h : ProbeIs w) (o : Obj) : ProbeIs (w.alloc o) := h.below ((Below.refl _ _).alloc (Nat.le_refl _) _)

theorem probe_in : InB 2199023255552 (1, 2, 3) := by unfold InB; decide

theorem eql_vec (a b c x y z : Int) (W : World) : (binOp .eql 27 (.agg #[.int .i64 a, .int .i64 b, .int .i64 c]) (.agg #[.int .i64 x, .int .i64 y, .int .i64 z])).run Tryd.prog W = .ok (.bool (decide ((a, b, c) = (x, y, z)))) W := by
  simp [go_sem]
  split
  · split
    · split <;> simp [*]
    · simp [*]
  · simp [*]

set_option maxHeartbeats 1000000 in
theorem like_any (x y z : Int) (w : World) (hp : ProbeIs w) :
    Calls Tryd.prog 36 #[.agg #[.int .i64 x, .int .i64 y, .int .i64 z]] w fun e w' => e = .returned (.int .i64 (likeV (x, y, z))) ∧ Below w.heap.size w w' := by
  have hpc := past_cell
  have hp0 := hp.lt
  have hpa := hp
  obtain ⟨hg0, hg1, hg2⟩ := hp
  have HP := Lib.hid hpa
  clear hpa
  go_enter Tryd.func36, Tryd.ntmps36
  go_wp2
  go_loopw [4] (fun i wr => ∃ j : Nat, j ≤ 24 ∧ i = .int .i64 j ∧ Hid (likeV (x, y, z) = findFrom (fun t => decide (turnV probeV t = (x, y, z))) (24 - j) j) ∧ Below (w.heap.size + 1) (w.alloc (.cells #[.int .i64 x, .int .i64 y, .int .i64 z] 27)) wr) (fun i _ => 24 - (intOf i).toNat)
  case atStart => exact ⟨0, by omega, rfl, rfl, Below.refl _ _⟩
  case round =>
    obtain ⟨j, hj, rfl, hq, hb⟩ := hrel
    have hpr : ProbeIs wr := (HP.out.alloc _).below (hb.mono (by simp))
    have hr3 := hpr.lt
    obtain ⟨hr0, hr1, hr2⟩ := hpr
    have hb0 : wr.cell? ⟨w.heap.size, 0, none⟩ = some (.int .i64 x) := by rw [hb.cell (p := ⟨_, _, none⟩) (by simp)]; simp
    have hb1 : wr.cell? ⟨w.heap.size, 1, none⟩ = some (.int .i64 y) := by rw [hb.cell (p := ⟨_, _, none⟩) (by simp)]; simp
    have hb2 : wr.cell? ⟨w.heap.size, 2, none⟩ = some (.int .i64 z) := by rw [hb.cell (p := ⟨_, _, none⟩) (by simp)]; simp
    have hsz : w.heap.size < wr.heap.size := by have := hb.size; simp at this; omega
    by_cases hlt : j < 24
    · by_cases e : turnV probeV j = (x, y, z)
      · have e1 : decide (((turnV (1, 2, 3) j).1, (turnV (1, 2, 3) j).2.1, (turnV (1, 2, 3) j).2.2) = (x, y, z)) = true := by rw [show turnV (1, 2, 3) j = (x, y, z) from e]; simp
        have e2 := fun W => eql_vec (turnV (1, 2, 3) j).1 (turnV (1, 2, 3) j).2.1 (turnV (1, 2, 3) j).2.2 x y z W
        rw [e1] at e2
        clear e1
        go_wp2_with (fail)
        refine wp_region_past (by kernel_rfl) (by kernel_rfl) ?_
        go_big_quiet_step (fail)
        go_big_quiet_step (fail)
        go_big_quiet_step ((go_at_call 37; refine past_of (turned_any _ _ _ _ _ probe_in)))
        go_big_quiet_step (fail)
        go_big_quiet_step (fail)
        refine wpQuiet_nil ?_
        intro _ hw'
        obtain ⟨⟨w1, hb1⟩, hw''⟩ := hw'
        subst hw''
        go_wp2
        go_ret
        have hr : likeV (x, y, z) = j := by
          rw [hq.out, show 24 - j = (23 - j) + 1 by omega, findFrom, if_pos (by simpa using e)]
        rw [hr]
        exact ⟨rfl, ((Below.refl _ _).alloc (Nat.le_refl _) _).trans ((hb.mono (by omega)).trans (hb1.mono (by omega)))⟩
      · have e1 : decide (((turnV (1, 2, 3) j).1, (turnV (1, 2, 3) j).2.1, (turnV (1, 2, 3) j).2.2) = (x, y, z)) = false := decide_eq_false e
        have e2 := fun W => eql_vec (turnV (1, 2, 3) j).1 (turnV (1, 2, 3) j).2.1 (turnV (1, 2, 3) j).2.2 x y z W
        rw [e1] at e2
        clear e1
        go_wp2_with (fail)
        refine wp_region_past (by kernel_rfl) (by kernel_rfl) ?_
        go_big_quiet_step (fail)
        go_big_quiet_step (fail)
        go_big_quiet_step ((go_at_call 37; refine past_of (turned_any _ _ _ _ _ probe_in)))
        go_big_quiet_step (fail)
        go_big_quiet_step (fail)
        refine wpQuiet_nil ?_
        intro _ hw'
        obtain ⟨⟨w1, hb1⟩, hw''⟩ := hw'
        subst hw''
        go_wp2
        go_roundw
        case rel =>
          refine ⟨j + 1, by omega, by go_num, ?_, hb.trans (hb1.mono (by omega))⟩
          have h1 := hq.out
          rw [show 24 - j = (23 - j) + 1 by omega, findFrom, if_neg (by simpa using e)] at h1
          show likeV (x, y, z) = _
          rw [h1, show 24 - (j + 1) = 23 - j by omega]; rfl
        case measure => simp [intOf]; omega
    · have hr : likeV (x, y, z) = 0 := by
        rw [hq.out, show 24 - j = 0 by omega, findFrom]
      have HR := Lib.hid hr
      clear hr
      go_wp2
      go_ret
      rw [HR.out]
      exact ⟨rfl, ((Below.refl _ _).alloc (Nat.le_refl _) _).trans (hb.mono (by omega))⟩
end Go.Proofs.YtcfohnhieajhnaaDoor
