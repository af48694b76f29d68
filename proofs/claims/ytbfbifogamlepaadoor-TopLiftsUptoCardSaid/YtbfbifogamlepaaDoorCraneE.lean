/-
  What Same returns of equal cranes, and the reference's Find, by walks. Conditions: none. By an AI agent.
-/
import Derived.Test.YtbfbifogamlepaaDoorCraneD
namespace Go.Proofs.YtbfbifogamlepaaDoor
open Go.RowKit
set_option linter.unusedSimpArgs false

theorem neq_rating (a b : Int) (W : World) : (binOp .neq 62 (.agg #[.int .i64 a, .int .i64 b]) (.agg #[.int .i64 a, .int .i64 b])).run Tryd.prog W = .ok (.bool false) W := by
  simp [go_sem]
def findF (n : Nat) (nm : Nat → ByteArray) (x : ByteArray) : Nat := firstFrom (fun i => (nm i).toList == x.toList) n 0
def findLen (n : Nat) (rn : Nat → Nat) (F : Nat) : Nat := if F < n then rn F else 0
theorem pairsAt_nil (w : World) (r q : Nat → Int) : PairsAt w (.slice none 0 0) 0 r q := ⟨none, 0, rfl, by omega, by omega, fun h => by omega⟩
set_option maxHeartbeats 4000000 in
theorem rfind_any (v : Value) (n : Nat) (nm : Nat → ByteArray) (cv : Nat → Value) (rn : Nat → Nat) (r q : Nat → Nat → Int) (x : ByteArray) (w : World) (h : CranesAt w v n nm cv rn r q) :
    Calls Tryd.prog 17 #[v, .string x] w fun e w' => ∃ sv, e = .returned (.tuple #[.agg #[.string (pickName n nm (findF n nm x)), sv], .bool (decide (findF n nm x < n))]) ∧ PairsAt w' sv (findLen n rn (findF n nm x)) (r (findF n nm x)) (q (findF n nm x)) ∧ Below w.heap.size w w' := by
  have HCR := Lib.hid h.2
  obtain ⟨oa, cap, rfl, hn, hel⟩ := h.form
  have HEL := Lib.hid hel
  clear h hel
  obtain ⟨F, hR⟩ : ∃ F, findF n nm x = F := ⟨_, rfl⟩
  have HR : Hid (firstFrom (fun i => (nm i).toList == x.toList) n 0 = F) := hR
  rw [hR]
  obtain ⟨R1, hR1⟩ : ∃ R, pickName n nm F = R := ⟨_, rfl⟩
  have HR1 := Lib.hid hR1
  obtain ⟨R2, hR2⟩ : ∃ R, decide (F < n) = R := ⟨_, rfl⟩
  have HR2 := Lib.hid hR2
  obtain ⟨R3, hR3⟩ : ∃ R, findLen n rn F = R := ⟨_, rfl⟩
  have HR3 := Lib.hid hR3
  rw [hR1, hR2, hR3]
  clear hR hR1 hR2 hR3
  go_enter Tryd.func17, Tryd.ntmps17
  go_wp2
  go_loopw [6] (fun i wr => ∃ j : Nat, j ≤ n ∧ i = .int .i64 j ∧ Hid (firstFrom (fun i => (nm i).toList == x.toList) (n - j) j = F) ∧ Below (w.alloc (.cells #[.string ⟨#[]⟩, .slice none 0 0] 39)).heap.size (w.alloc (.cells #[.string ⟨#[]⟩, .slice none 0 0] 39)) wr) (fun i _ => n - (intOf i).toNat)
  case atStart => exact ⟨0, by omega, rfl, HR.out, Below.refl _ _⟩
  case round =>
    obtain ⟨j, hj, rfl, hq, hb⟩ := hrel
    have hW : w.heap.size < wr.heap.size := by have := hb.size; simp at this; omega
    have cB0 : wr.cell? ⟨w.heap.size, 0, none⟩ = some (.string ⟨#[]⟩) := (hb.cell (p := ⟨_, _, none⟩) (by simp)).trans (by simp [go_sem])
    have cB1 : wr.cell? ⟨w.heap.size, 1, none⟩ = some (.slice none 0 0) := (hb.cell (p := ⟨_, _, none⟩) (by simp)).trans (by simp [go_sem])
    have fB0 : wr.frozen? ⟨w.heap.size, 0, none⟩ = false := (hb.frozen (p := ⟨_, _, none⟩) (by simp)).trans (by simp [go_sem])
    have fB1 : wr.frozen? ⟨w.heap.size, 1, none⟩ = false := (hb.frozen (p := ⟨_, _, none⟩) (by simp)).trans (by simp [go_sem])
    by_cases hlt : j < n
    · obtain ⟨b, off, rfl, hbl, hcl⟩ := HEL.out j hlt
      have c0 : wr.cell? ⟨b, off + j * 2, none⟩ = some (.string (nm j)) := ((hb.cell (p := ⟨_, _, none⟩) (by simp; omega)).trans (World.cell?_alloc_lt _ _ _ hbl)).trans (hcl j hlt).1
      have c1 : wr.cell? ⟨b, off + j * 2 + 1, none⟩ = some (cv j) := ((hb.cell (p := ⟨_, _, none⟩) (by simp; omega)).trans (World.cell?_alloc_lt _ _ _ hbl)).trans (hcl j hlt).2
      obtain ⟨oc, cc, hcv, hcn, -⟩ := (HCR.out j hlt).2.form
      have hns := (HCR.out j hlt).1
      have HP := Lib.hid (HCR.out j hlt).2
      rw [hcv] at c1 HP
      clear hcv
      have hbr : b < wr.heap.size := by have := hb.size; omega
      have HBr := Lib.hid hb
      have hsz : w.heap.size ≤ wr.heap.size := by have := hb.size; omega
      clear hcl hb
      have hne : b ≠ w.heap.size := by omega
      by_cases h1 : ((nm j).toList == x.toList) = true
      · have hF : F = j := hq.out.symm.trans (firstFrom_hit hlt h1)
        have hr : R1 = nm j := by rw [← HR1.out, hF]; exact if_pos hlt
        have hr2 : R2 = true := by rw [← HR2.out, hF]; exact decide_eq_true hlt
        have hr3 : R3 = rn j := by rw [← HR3.out, hF]; exact if_pos hlt
        have HR9 := Lib.hid hr
        have HR8 := Lib.hid hr2
        have HR7 : Hid (R3 = rn j ∧ F = j) := ⟨hr3, hF⟩
        clear hr hr2 hr3 hF
        go_wp2
        all_goals (refine bodyPost_ret (v := .tuple #[.agg #[.string (nm j), .slice oc (rn j) cc], .bool true]) (by simp [results, Tryd.results17, go_sem, *]) rfl ?_)
        rw [HR9.out, HR8.out, HR7.out.1, HR7.out.2]
        refine ⟨_, rfl, ?_, ?_⟩
        · exact HP.out.below (((below_step (w := w) (by go_grown) HBr.out).setCell (by simp) _).setCell (by simp) _)
        · exact ((below_step (w := w) (by go_grown) HBr.out).setCell (by simp) _).setCell (by simp) _
      have hq2 : Hid (firstFrom (fun i => (nm i).toList == x.toList) (n - (j + 1)) (j + 1) = F) := (firstFrom_miss hlt (by simpa using h1)).symm.trans hq.out
      have e1 : ((nm j).toList == x.toList) = false := by simpa using h1
      clear h1
      go_wp2
      go_roundw
      case rel => exact ⟨j + 1, by omega, by go_num, hq2, HBr.out⟩
      case measure => simp [intOf]; omega
    · have hF : F = n := hq.out.symm.trans (firstFrom_end hj hlt)
      have hr : R1 = ⟨#[]⟩ := by rw [← HR1.out, hF]; simp [pickName]
      have hr2 : R2 = false := by rw [← HR2.out, hF]; simp
      have hr3 : R3 = 0 := by rw [← HR3.out, hF]; simp [findLen]
      have HR9 := Lib.hid hr
      have HR8 := Lib.hid hr2
      have HR7 := Lib.hid hr3
      clear hr hr2 hr3 hF
      have HBr := Lib.hid hb
      clear hb
      go_wp2
      all_goals (refine bodyPost_ret (v := .tuple #[.agg #[.string ⟨#[]⟩, .slice none 0 0], .bool false]) (by simp [results, Tryd.results17, go_sem, *]) rfl ?_)
      rw [HR9.out, HR8.out, HR7.out]
      refine ⟨_, rfl, pairsAt_nil _ _ _, ?_⟩
      exact ((below_step (w := w) (by go_grown) HBr.out).setCell (by simp) _).setCell (by simp) _
end Go.Proofs.YtbfbifogamlepaaDoor
