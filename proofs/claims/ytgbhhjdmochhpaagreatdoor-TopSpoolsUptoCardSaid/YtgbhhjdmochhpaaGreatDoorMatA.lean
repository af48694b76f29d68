/-
  material.Grade, Section and what they call, by walks. Conditions: none. By an AI agent.
-/
import Derived.Test.YtgbhhjdmochhpaaGreatDoorStockP
namespace Go.Proofs.YtgbhhjdmochhpaaGreatDoor
open Go Go.RowKit
set_option linter.unusedVariables false
set_option linter.unusedSimpArgs false
theorem Grade1_any (nm s : ByteArray) (de yi : Int) (oa : Option Addr) (n c : Nat) (b : Nat) (w : World) (hb : b < w.heap.size) (hc : w.cell? ⟨b, 0, none⟩ = some (.string s)) :
    Calls Tryz.prog 63 #[.agg #[.string nm, .int .i64 de, .int .i64 yi, .slice oa n c], .pointer (some ⟨b, 0, none⟩)] w fun e w' => e = .returned (.bool (nm.toList == s.toList)) ∧ Below w.heap.size w w' := by
  go_enter Tryz.func63, Tryz.ntmps63
  go_wp2
  go_returns
  exact ⟨rfl, by go_grown⟩
theorem Section1_any (nm s : ByteArray) (a h k : Int) (b : Nat) (w : World) (hb : b < w.heap.size) (hc : w.cell? ⟨b, 0, none⟩ = some (.string s)) :
    Calls Tryz.prog 66 #[.agg #[.string nm, .int .i64 a, .int .i64 h, .int .i64 k], .pointer (some ⟨b, 0, none⟩)] w fun e w' => e = .returned (.bool (nm.toList == s.toList)) ∧ Below w.heap.size w w' := by
  go_enter Tryz.func66, Tryz.ntmps66
  go_wp2
  go_returns
  exact ⟨rfl, by go_grown⟩

set_option maxHeartbeats 4000000 in
theorem idxGrade_any (m : Mat) (gv : Nat → Value) (v : Value) (b : Nat) (s : ByteArray) (w : World) (h : GrAt w v m gv) (hb : b < w.heap.size) (hc : w.cell? ⟨b, 0, none⟩ = some (.string s)) :
    Calls Tryz.prog 62 #[v, .func (.func 63) #[] #[.pointer (some ⟨b, 0, none⟩)]] w fun e w' => e = .returned (.int .i64 (if m.gi s < m.ng then (m.gi s : Int) else -1)) ∧ Below w.heap.size w w' := by
  have eg : ∀ args w, (callFunc 63 args).run Tryz.prog w = .ok (.enter 63 args) w := enters_of Tryz.func63 (by kernel_rfl) rfl
  have HGR := Lib.hid h.2
  obtain ⟨oa, cap, rfl, hn, hel⟩ := h.form
  have HEL := Lib.hid hel
  clear h hel
  obtain ⟨F, hF⟩ : ∃ F, m.gi s = F := ⟨_, rfl⟩
  rw [hF]
  have HF : Hid (firstFrom (fun i => (m.nm i).toList == s.toList) m.ng 0 = F) := hF
  obtain ⟨n, hN⟩ : ∃ n, m.ng = n := ⟨_, rfl⟩
  rw [hN] at HF hn HEL
  rw [hN]
  rw [hN] at HGR
  obtain ⟨R, hR⟩ : ∃ R, (if F < n then (F : Int) else -1) = R := ⟨_, rfl⟩
  have HR := Lib.hid hR
  rw [hR]
  clear hF hN hR
  go_enter Tryz.func62, Tryz.ntmps62
  go_wp2
  go_loopw [5, 8] (fun _ i wr => ∃ j : Nat, j ≤ n ∧ i = .int .i64 j ∧ Hid (firstFrom (fun i => (m.nm i).toList == s.toList) (n - j) j = F) ∧ Below w.heap.size w wr) (fun _ i _ => n - (intOf i).toNat)
  case atStart => exact ⟨0, by omega, rfl, HF.out, Below.refl _ _⟩
  case round =>
    obtain ⟨j, hj, rfl, hq, hB⟩ := hrel
    have HBr := Lib.hid hB
    by_cases hlt : j < n
    · obtain ⟨b1, f1, rfl, hbl1, hcl1⟩ := HEL.out j hlt
      have c0 : wr.cell? ⟨b1, f1 + j * 4, none⟩ = some (.string (m.nm j)) := (hB.cell (p := ⟨_, _, none⟩) hbl1).trans (hcl1 j hlt).1
      have c1 : wr.cell? ⟨b1, f1 + j * 4 + 1, none⟩ = some (.int .i64 (m.de j)) := (hB.cell (p := ⟨_, _, none⟩) hbl1).trans (hcl1 j hlt).2.1
      have c2 : wr.cell? ⟨b1, f1 + j * 4 + 2, none⟩ = some (.int .i64 (m.yi j)) := (hB.cell (p := ⟨_, _, none⟩) hbl1).trans (hcl1 j hlt).2.2.1
      have c3 : wr.cell? ⟨b1, f1 + j * 4 + 3, none⟩ = some (gv j) := (hB.cell (p := ⟨_, _, none⟩) hbl1).trans (hcl1 j hlt).2.2.2
      have cb : wr.cell? ⟨b, 0, none⟩ = some (.string s) := (hB.cell (p := ⟨_, _, none⟩) hb).trans hc
      obtain ⟨oc, cc, hcv, -, -⟩ := (HGR.out j hlt).form
      rw [hcv] at c3
      clear hcv
      have hbr : b1 < wr.heap.size := by have := hB.size; omega
      have hb2 : b < wr.heap.size := by have := hB.size; omega
      clear hcl1 hB hc
      by_cases h1 : ((m.nm j).toList == s.toList) = true
      · have hR0 : R = (j : Int) := by
          have hFj : F = j := hq.out.symm.trans (firstFrom_hit hlt h1)
          rw [← HR.out, hFj, if_pos hlt]
        have HR0 := Lib.hid hR0
        have hcall := Grade1_any (m.nm j) s (m.de j) (m.yi j) oc (m.gn j) cc b wr hb2 cb
        rw [h1] at hcall
        clear hR0 h1
        go_wp2_with fail
        (go_at_fn 63; refine hcall.mono ?_; rintro e w1 ⟨rfl, hB1⟩)
        have HB1 := Lib.hid (below_step HBr.out hB1)
        clear hB1
        go_wp2
        go_returns
        rw [HR0.out]
        exact ⟨rfl, HB1.out⟩
      have h1 : ((m.nm j).toList == s.toList) = false := by simpa using h1
      have hq2 : Hid (firstFrom (fun i => (m.nm i).toList == s.toList) (n - (j + 1)) (j + 1) = F) := (firstFrom_miss hlt h1).symm.trans hq.out
      have hcall := Grade1_any (m.nm j) s (m.de j) (m.yi j) oc (m.gn j) cc b wr hb2 cb
      rw [h1] at hcall
      clear h1
      go_wp2_with fail
      (go_at_fn 63; refine hcall.mono ?_; rintro e w1 ⟨rfl, hB1⟩)
      have HB1 := Lib.hid (below_step HBr.out hB1)
      clear hB1
      go_wp2
      go_roundw
      case rel => exact ⟨j + 1, by omega, by go_num, hq2, HB1.out⟩
      case measure => simp [intOf]; omega
    · have hR0 : R = -1 := by
        have hFj : F = n := hq.out.symm.trans (firstFrom_end hj hlt)
        rw [← HR.out, hFj, if_neg (by omega)]
      have HR0 := Lib.hid hR0
      clear hR0 hB
      go_wp2
      go_returns
      rw [HR0.out]
      exact ⟨rfl, HBr.out⟩

set_option maxHeartbeats 4000000 in
theorem idxSection_any (m : Mat) (v : Value) (b : Nat) (s : ByteArray) (w : World) (h : SeAt w v m) (hb : b < w.heap.size) (hc : w.cell? ⟨b, 0, none⟩ = some (.string s)) :
    Calls Tryz.prog 65 #[v, .func (.func 66) #[] #[.pointer (some ⟨b, 0, none⟩)]] w fun e w' => e = .returned (.int .i64 (if m.si s < m.ns then (m.si s : Int) else -1)) ∧ Below w.heap.size w w' := by
  have eg : ∀ args w, (callFunc 66 args).run Tryz.prog w = .ok (.enter 66 args) w := enters_of Tryz.func66 (by kernel_rfl) rfl
  skip
  obtain ⟨oa, cap, rfl, hn, hel⟩ := h.form
  have HEL := Lib.hid hel
  clear h hel
  obtain ⟨F, hF⟩ : ∃ F, m.si s = F := ⟨_, rfl⟩
  rw [hF]
  have HF : Hid (firstFrom (fun i => (m.sn i).toList == s.toList) m.ns 0 = F) := hF
  obtain ⟨n, hN⟩ : ∃ n, m.ns = n := ⟨_, rfl⟩
  rw [hN] at HF hn HEL
  rw [hN]
  skip
  obtain ⟨R, hR⟩ : ∃ R, (if F < n then (F : Int) else -1) = R := ⟨_, rfl⟩
  have HR := Lib.hid hR
  rw [hR]
  clear hF hN hR
  go_enter Tryz.func65, Tryz.ntmps65
  go_wp2
  go_loopw [5, 8] (fun _ i wr => ∃ j : Nat, j ≤ n ∧ i = .int .i64 j ∧ Hid (firstFrom (fun i => (m.sn i).toList == s.toList) (n - j) j = F) ∧ Below w.heap.size w wr) (fun _ i _ => n - (intOf i).toNat)
  case atStart => exact ⟨0, by omega, rfl, HF.out, Below.refl _ _⟩
  case round =>
    obtain ⟨j, hj, rfl, hq, hB⟩ := hrel
    have HBr := Lib.hid hB
    by_cases hlt : j < n
    · obtain ⟨b1, f1, rfl, hbl1, hcl1⟩ := HEL.out j hlt
      have c0 : wr.cell? ⟨b1, f1 + j * 4, none⟩ = some (.string (m.sn j)) := (hB.cell (p := ⟨_, _, none⟩) hbl1).trans (hcl1 j hlt).1
      have c1 : wr.cell? ⟨b1, f1 + j * 4 + 1, none⟩ = some (.int .i64 (m.sa j)) := (hB.cell (p := ⟨_, _, none⟩) hbl1).trans (hcl1 j hlt).2.1
      have c2 : wr.cell? ⟨b1, f1 + j * 4 + 2, none⟩ = some (.int .i64 (m.sh j)) := (hB.cell (p := ⟨_, _, none⟩) hbl1).trans (hcl1 j hlt).2.2.1
      have c3 : wr.cell? ⟨b1, f1 + j * 4 + 3, none⟩ = some (.int .i64 (m.ss j)) := (hB.cell (p := ⟨_, _, none⟩) hbl1).trans (hcl1 j hlt).2.2.2
      have cb : wr.cell? ⟨b, 0, none⟩ = some (.string s) := (hB.cell (p := ⟨_, _, none⟩) hb).trans hc
      skip
      skip
      skip
      have hbr : b1 < wr.heap.size := by have := hB.size; omega
      have hb2 : b < wr.heap.size := by have := hB.size; omega
      clear hcl1 hB hc
      by_cases h1 : ((m.sn j).toList == s.toList) = true
      · have hR0 : R = (j : Int) := by
          have hFj : F = j := hq.out.symm.trans (firstFrom_hit hlt h1)
          rw [← HR.out, hFj, if_pos hlt]
        have HR0 := Lib.hid hR0
        have hcall := Section1_any (m.sn j) s (m.sa j) (m.sh j) (m.ss j) b wr hb2 cb
        rw [h1] at hcall
        clear hR0 h1
        go_wp2_with fail
        (go_at_fn 66; refine hcall.mono ?_; rintro e w1 ⟨rfl, hB1⟩)
        have HB1 := Lib.hid (below_step HBr.out hB1)
        clear hB1
        go_wp2
        go_returns
        rw [HR0.out]
        exact ⟨rfl, HB1.out⟩
      have h1 : ((m.sn j).toList == s.toList) = false := by simpa using h1
      have hq2 : Hid (firstFrom (fun i => (m.sn i).toList == s.toList) (n - (j + 1)) (j + 1) = F) := (firstFrom_miss hlt h1).symm.trans hq.out
      have hcall := Section1_any (m.sn j) s (m.sa j) (m.sh j) (m.ss j) b wr hb2 cb
      rw [h1] at hcall
      clear h1
      go_wp2_with fail
      (go_at_fn 66; refine hcall.mono ?_; rintro e w1 ⟨rfl, hB1⟩)
      have HB1 := Lib.hid (below_step HBr.out hB1)
      clear hB1
      go_wp2
      go_roundw
      case rel => exact ⟨j + 1, by omega, by go_num, hq2, HB1.out⟩
      case measure => simp [intOf]; omega
    · have hR0 : R = -1 := by
        have hFj : F = n := hq.out.symm.trans (firstFrom_end hj hlt)
        rw [← HR.out, hFj, if_neg (by omega)]
      have HR0 := Lib.hid hR0
      clear hR0 hB
      go_wp2
      go_returns
      rw [HR0.out]
      exact ⟨rfl, HBr.out⟩
end Go.Proofs.YtgbhhjdmochhpaaGreatDoor
