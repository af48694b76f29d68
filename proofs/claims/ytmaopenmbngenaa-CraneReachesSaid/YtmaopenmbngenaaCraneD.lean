/-
  What Few and Pick return, the program's and the reference's, by walks. Conditions: none. By an AI agent.
-/
import Derived.Test.YtmaopenmbngenaaCraneC
namespace Go.Proofs.Ytmaopenmbngenaa
open Go.RowKit
set_option linter.unusedSimpArgs false

set_option maxHeartbeats 4000000 in
theorem few_any (v : Value) (n : Nat) (nm : Nat → ByteArray) (cv : Nat → Value) (rn : Nat → Nat) (r q : Nat → Nat → Int) (w : World) (h : CranesAt w v n nm cv rn r q) :
    Calls Try.prog 9 #[v] w fun e w' => e = .returned (.bool (fewB n nm rn)) ∧ Below w.heap.size w w' := by
  have HCR := Lib.hid h.2
  obtain ⟨oa, cap, rfl, hn, hel⟩ := h.form
  have HEL := Lib.hid hel
  clear h hel
  have E : fewB n nm rn = (decide (firstFrom (fun i => decide (200 < (nm i).size) || decide (30 < rn i)) n 0 < n) == false && decide (n ≤ 20)) := rfl
  rw [E]
  obtain ⟨F, hR⟩ : ∃ F, firstFrom (fun i => decide (200 < (nm i).size) || decide (30 < rn i)) n 0 = F := ⟨_, rfl⟩
  have HR := Lib.hid hR
  rw [hR]
  obtain ⟨R, hR2⟩ : ∃ R, (decide (F < n) == false && decide (n ≤ 20)) = R := ⟨_, rfl⟩
  have HR2 := Lib.hid hR2
  rw [hR2]
  clear E hR hR2
  go_enter Try.func9, Try.ntmps9
  go_wp2
  go_loopw [3] (fun i wr => ∃ j : Nat, j ≤ n ∧ i = .int .i64 j ∧ Hid (firstFrom (fun i => decide (200 < (nm i).size) || decide (30 < rn i)) (n - j) j = F) ∧ Below w.heap.size w wr) (fun i _ => n - (intOf i).toNat)
  case atStart => exact ⟨0, by omega, rfl, HR.out, Below.refl _ _⟩
  case round =>
    obtain ⟨j, hj, rfl, hq, hb⟩ := hrel
    by_cases hlt : j < n
    · obtain ⟨b, off, rfl, hbl, hcl⟩ := HEL.out j hlt
      have c0 : wr.cell? ⟨b, off + j * 2, none⟩ = some (.string (nm j)) := ((hb.cell (p := ⟨_, _, none⟩) hbl)).trans (hcl j hlt).1
      have c1 : wr.cell? ⟨b, off + j * 2 + 1, none⟩ = some (cv j) := ((hb.cell (p := ⟨_, _, none⟩) hbl)).trans (hcl j hlt).2
      obtain ⟨oc, cc, hcv, hcn, -⟩ := (HCR.out j hlt).2.form
      have hns := (HCR.out j hlt).1
      have HP := Lib.hid (HCR.out j hlt).2
      rw [hcv] at c1 HP
      clear hcv
      have hbr : b < wr.heap.size := by have := hb.size; omega
      have HBr := Lib.hid hb
      have hsz : w.heap.size ≤ wr.heap.size := by have := hb.size; omega
      clear hcl hb
      by_cases h1 : 200 < (nm j).size
      · have hF : F = j := hq.out.symm.trans (firstFrom_hit hlt (by simp [h1]))
        have hr : R = false := by rw [← HR2.out, hF]; simp [hlt]
        have HR9 := Lib.hid hr
        clear hr hF
        have k1 : decide ((200 : Int) < (nm j).size) = true := decide_eq_true (by omega)
        go_wp2
        go_returns
        rw [HR9.out]
        exact ⟨rfl, HBr.out⟩
      have k1 : decide ((200 : Int) < (nm j).size) = false := decide_eq_false (by omega)
      have k1' : decide (200 < (nm j).size) = false := decide_eq_false h1
      by_cases h2 : 30 < rn j
      · have hF : F = j := hq.out.symm.trans (firstFrom_hit hlt (by simp [h2]))
        have hr : R = false := by rw [← HR2.out, hF]; simp [hlt]
        have HR9 := Lib.hid hr
        clear hr hF
        have k2 : decide ((30 : Int) < rn j) = true := decide_eq_true (by omega)
        go_wp2
        go_returns
        rw [HR9.out]
        exact ⟨rfl, HBr.out⟩
      have hq2 : Hid (firstFrom (fun i => decide (200 < (nm i).size) || decide (30 < rn i)) (n - (j + 1)) (j + 1) = F) := (firstFrom_miss hlt (by simp [h1, h2])).symm.trans hq.out
      have k2 : decide ((30 : Int) < rn j) = false := decide_eq_false (by omega)
      have k2' : decide (30 < rn j) = false := decide_eq_false h2
      go_wp2
      go_roundw
      case rel => exact ⟨j + 1, by omega, by go_num, hq2, HBr.out⟩
      case measure => simp [intOf]; omega
    · have hF : F = n := hq.out.symm.trans (firstFrom_end hj hlt)
      have hr : R = decide (n ≤ 20) := by rw [← HR2.out, hF]; simp
      have HR9 := Lib.hid hr
      clear hr hF
      have HBr := Lib.hid hb
      clear hb
      go_wp2
      go_returns
      rw [HR9.out]
      exact ⟨by simp; omega, HBr.out⟩
def pickName (n : Nat) (nm : Nat → ByteArray) (F : Nat) : ByteArray := if F < n then nm F else ⟨#[]⟩
def pickF (n : Nat) (rn : Nat → Nat) (r q : Nat → Nat → Int) (x y : Int) : Nat := firstFrom (fun i => decide (y ≤ loadF (rn i) (r i) (q i) x)) n 0
set_option maxHeartbeats 4000000 in
theorem pick_any (v : Value) (n : Nat) (nm : Nat → ByteArray) (cv : Nat → Value) (rn : Nat → Nat) (r q : Nat → Nat → Int) (x y : Int) (w : World) (h : CranesAt w v n nm cv rn r q) :
    Calls Try.prog 19 #[v, .int .i64 x, .int .i64 y] w fun e w' => e = .returned (.tuple #[.string (pickName n nm (pickF n rn r q x y)), .bool (decide (pickF n rn r q x y < n))]) ∧ Below w.heap.size w w' := by
  have HCR := Lib.hid h.2
  obtain ⟨oa, cap, rfl, hn, hel⟩ := h.form
  have HEL := Lib.hid hel
  clear h hel
  obtain ⟨F, hR⟩ : ∃ F, pickF n rn r q x y = F := ⟨_, rfl⟩
  have HR : Hid (firstFrom (fun i => decide (y ≤ loadF (rn i) (r i) (q i) x)) n 0 = F) := hR
  rw [hR]
  obtain ⟨R1, hR1⟩ : ∃ R, pickName n nm F = R := ⟨_, rfl⟩
  have HR1 := Lib.hid hR1
  obtain ⟨R2, hR2⟩ : ∃ R, decide (F < n) = R := ⟨_, rfl⟩
  have HR2 := Lib.hid hR2
  rw [hR1, hR2]
  clear hR hR1 hR2
  go_enter Try.func19, Try.ntmps19
  go_wp2
  go_loopw [12] (fun i wr => ∃ j : Nat, j ≤ n ∧ i = .int .i64 j ∧ Hid (firstFrom (fun i => decide (y ≤ loadF (rn i) (r i) (q i) x)) (n - j) j = F) ∧ Below w.heap.size w wr) (fun i _ => n - (intOf i).toNat)
  case atStart => exact ⟨0, by omega, rfl, HR.out, Below.refl _ _⟩
  case round =>
    obtain ⟨j, hj, rfl, hq, hb⟩ := hrel
    by_cases hlt : j < n
    · obtain ⟨b, off, rfl, hbl, hcl⟩ := HEL.out j hlt
      have c0 : wr.cell? ⟨b, off + j * 2, none⟩ = some (.string (nm j)) := ((hb.cell (p := ⟨_, _, none⟩) hbl)).trans (hcl j hlt).1
      have c1 : wr.cell? ⟨b, off + j * 2 + 1, none⟩ = some (cv j) := ((hb.cell (p := ⟨_, _, none⟩) hbl)).trans (hcl j hlt).2
      obtain ⟨oc, cc, hcv, hcn, -⟩ := (HCR.out j hlt).2.form
      have hns := (HCR.out j hlt).1
      have HP := Lib.hid (HCR.out j hlt).2
      rw [hcv] at c1 HP
      clear hcv
      have hbr : b < wr.heap.size := by have := hb.size; omega
      have HBr := Lib.hid hb
      have hsz : w.heap.size ≤ wr.heap.size := by have := hb.size; omega
      clear hcl hb
      obtain ⟨L, hL⟩ : ∃ L, loadF (rn j) (r j) (q j) x = L := ⟨_, rfl⟩
      have HL := Lib.hid hL
      by_cases h1 : y ≤ L
      · have hF : F = j := hq.out.symm.trans (firstFrom_hit hlt (decide_eq_true (by rw [hL]; exact h1)))
        have hr : R1 = nm j := by rw [← HR1.out, hF]; exact if_pos hlt
        have hr2 : R2 = true := by rw [← HR2.out, hF]; exact decide_eq_true hlt
        have HR9 := Lib.hid hr
        have HR8 := Lib.hid hr2
        clear hr hr2 hF hL
        go_wp2_with fail
        (go_at_call 13; refine (load_any _ _ _ _ _ _ _ ((HP.out.below HBr.out).below (by go_grown))).mono ?_; rintro e w1 ⟨rfl, hb1⟩)
        have HB1 : Hid (Below (wr.alloc (.cells #[.string (nm j), .slice oc (rn j) cc] 29)).heap.size (wr.alloc (.cells #[.string (nm j), .slice oc (rn j) cc] 29)) w1) := hb1
        clear hb1
        rw [HL.out]
        have hw1 : wr.heap.size < w1.heap.size := by have := HB1.out.size; simp at this; omega
        have x10 : w1.cell? ⟨wr.heap.size, 0, none⟩ = some (.string (nm j)) := by rw [HB1.out.cell (p := ⟨_, _, none⟩) (by simp)]; simp [go_sem]
        go_wp2
        go_returns
        rw [HR9.out, HR8.out]
        exact ⟨rfl, below_step HBr.out (below_step (w := wr) (by go_grown) HB1.out)⟩
      have hq2 : Hid (firstFrom (fun i => decide (y ≤ loadF (rn i) (r i) (q i) x)) (n - (j + 1)) (j + 1) = F) := (firstFrom_miss hlt (decide_eq_false (by rw [hL]; exact h1))).symm.trans hq.out
      clear hL
      go_wp2_with fail
      (go_at_call 13; refine (load_any _ _ _ _ _ _ _ ((HP.out.below HBr.out).below (by go_grown))).mono ?_; rintro e w1 ⟨rfl, hb1⟩)
      have HB1 : Hid (Below (wr.alloc (.cells #[.string (nm j), .slice oc (rn j) cc] 29)).heap.size (wr.alloc (.cells #[.string (nm j), .slice oc (rn j) cc] 29)) w1) := hb1
      clear hb1
      rw [HL.out]
      have hw1 : wr.heap.size < w1.heap.size := by have := HB1.out.size; simp at this; omega
      have x10 : w1.cell? ⟨wr.heap.size, 0, none⟩ = some (.string (nm j)) := by rw [HB1.out.cell (p := ⟨_, _, none⟩) (by simp)]; simp [go_sem]
      go_wp2
      go_roundw
      case rel => exact ⟨j + 1, by omega, by go_num, hq2, below_step HBr.out (below_step (w := wr) (by go_grown) HB1.out)⟩
      case measure => simp [intOf]; omega
    · have hF : F = n := hq.out.symm.trans (firstFrom_end hj hlt)
      have hr : R1 = ⟨#[]⟩ := by rw [← HR1.out, hF]; simp [pickName]
      have hr2 : R2 = false := by rw [← HR2.out, hF]; simp
      have HR9 := Lib.hid hr
      have HR8 := Lib.hid hr2
      clear hr hr2 hF
      have HBr := Lib.hid hb
      clear hb
      go_wp2
      go_returns
      rw [HR9.out, HR8.out]
      exact ⟨rfl, HBr.out⟩
set_option maxHeartbeats 4000000 in
theorem rpick_any (v : Value) (n : Nat) (nm : Nat → ByteArray) (cv : Nat → Value) (rn : Nat → Nat) (r q : Nat → Nat → Int) (x y : Int) (w : World) (h : CranesAt w v n nm cv rn r q) :
    Calls Try.prog 20 #[v, .int .i64 x, .int .i64 y] w fun e w' => e = .returned (.tuple #[.string (pickName n nm (pickF n rn r q x y)), .bool (decide (pickF n rn r q x y < n))]) ∧ Below w.heap.size w w' := by
  have HCR := Lib.hid h.2
  obtain ⟨oa, cap, rfl, hn, hel⟩ := h.form
  have HEL := Lib.hid hel
  clear h hel
  obtain ⟨F, hR⟩ : ∃ F, pickF n rn r q x y = F := ⟨_, rfl⟩
  have HR : Hid (firstFrom (fun i => decide (y ≤ loadF (rn i) (r i) (q i) x)) n 0 = F) := hR
  rw [hR]
  obtain ⟨R1, hR1⟩ : ∃ R, pickName n nm F = R := ⟨_, rfl⟩
  have HR1 := Lib.hid hR1
  obtain ⟨R2, hR2⟩ : ∃ R, decide (F < n) = R := ⟨_, rfl⟩
  have HR2 := Lib.hid hR2
  rw [hR1, hR2]
  clear hR hR1 hR2
  go_enter Try.func20, Try.ntmps20
  go_wp2
  go_loopw [8] (fun i wr => ∃ j : Nat, j ≤ n ∧ i = .int .i64 j ∧ Hid (firstFrom (fun i => decide (y ≤ loadF (rn i) (r i) (q i) x)) (n - j) j = F) ∧ Below w.heap.size w wr) (fun i _ => n - (intOf i).toNat)
  case atStart => exact ⟨0, by omega, rfl, HR.out, Below.refl _ _⟩
  case round =>
    obtain ⟨j, hj, rfl, hq, hb⟩ := hrel
    by_cases hlt : j < n
    · obtain ⟨b, off, rfl, hbl, hcl⟩ := HEL.out j hlt
      have c0 : wr.cell? ⟨b, off + j * 2, none⟩ = some (.string (nm j)) := ((hb.cell (p := ⟨_, _, none⟩) hbl)).trans (hcl j hlt).1
      have c1 : wr.cell? ⟨b, off + j * 2 + 1, none⟩ = some (cv j) := ((hb.cell (p := ⟨_, _, none⟩) hbl)).trans (hcl j hlt).2
      obtain ⟨oc, cc, hcv, hcn, -⟩ := (HCR.out j hlt).2.form
      have hns := (HCR.out j hlt).1
      have HP := Lib.hid (HCR.out j hlt).2
      rw [hcv] at c1 HP
      clear hcv
      have hbr : b < wr.heap.size := by have := hb.size; omega
      have HBr := Lib.hid hb
      have hsz : w.heap.size ≤ wr.heap.size := by have := hb.size; omega
      clear hcl hb
      obtain ⟨L, hL⟩ : ∃ L, loadF (rn j) (r j) (q j) x = L := ⟨_, rfl⟩
      have HL := Lib.hid hL
      by_cases h1 : y ≤ L
      · have hF : F = j := hq.out.symm.trans (firstFrom_hit hlt (decide_eq_true (by rw [hL]; exact h1)))
        have hr : R1 = nm j := by rw [← HR1.out, hF]; exact if_pos hlt
        have hr2 : R2 = true := by rw [← HR2.out, hF]; exact decide_eq_true hlt
        have HR9 := Lib.hid hr
        have HR8 := Lib.hid hr2
        clear hr hr2 hF hL
        go_wp2_with fail
        (go_at_call 14; refine (rload_any _ _ _ _ _ _ _ (HP.out.below HBr.out)).mono ?_; rintro e w1 ⟨rfl, hb1⟩)
        have HB1 : Hid (Below wr.heap.size wr w1) := hb1
        clear hb1
        rw [HL.out]
        have hw1 : wr.heap.size ≤ w1.heap.size := HB1.out.size
        have hbw1 : b < w1.heap.size := by omega
        have y10 := HB1.out.cell (p := ⟨b, off + j * 2, none⟩) hbr
        rw [c0] at y10
        go_wp2
        go_returns
        rw [HR9.out, HR8.out]
        exact ⟨rfl, below_step HBr.out HB1.out⟩
      have hq2 : Hid (firstFrom (fun i => decide (y ≤ loadF (rn i) (r i) (q i) x)) (n - (j + 1)) (j + 1) = F) := (firstFrom_miss hlt (decide_eq_false (by rw [hL]; exact h1))).symm.trans hq.out
      clear hL
      go_wp2_with fail
      (go_at_call 14; refine (rload_any _ _ _ _ _ _ _ (HP.out.below HBr.out)).mono ?_; rintro e w1 ⟨rfl, hb1⟩)
      have HB1 : Hid (Below wr.heap.size wr w1) := hb1
      clear hb1
      rw [HL.out]
      have hw1 : wr.heap.size ≤ w1.heap.size := HB1.out.size
      have hbw1 : b < w1.heap.size := by omega
      have y10 := HB1.out.cell (p := ⟨b, off + j * 2, none⟩) hbr
      rw [c0] at y10
      go_wp2
      go_roundw
      case rel => exact ⟨j + 1, by omega, by go_num, hq2, below_step HBr.out HB1.out⟩
      case measure => simp [intOf]; omega
    · have hF : F = n := hq.out.symm.trans (firstFrom_end hj hlt)
      have hr : R1 = ⟨#[]⟩ := by rw [← HR1.out, hF]; simp [pickName]
      have hr2 : R2 = false := by rw [← HR2.out, hF]; simp
      have HR9 := Lib.hid hr
      have HR8 := Lib.hid hr2
      clear hr hr2 hF
      have HBr := Lib.hid hb
      clear hb
      go_wp2
      go_returns
      rw [HR9.out, HR8.out]
      exact ⟨rfl, HBr.out⟩
end Go.Proofs.Ytmaopenmbngenaa
