/-
  material.Rolled, the reference's Grade, Section, Rolled, by walks. Conditions: a catalog of at most 10^6 entries and gauges. By an AI agent.
-/
import Derived.Test.YtgbhhjdmochhpaaGreatDoorMatB
import Derived.Test.YtgbhhjdmochhpaaGreatDoorAppN
namespace Go.Proofs.YtgbhhjdmochhpaaGreatDoor
open Go Go.ChangeShapes Go.WideShapes Go.RowKit Go.ChangeAt
set_option linter.unusedVariables false
set_option linter.unusedSimpArgs false
set_option maxRecDepth 100000

set_option maxHeartbeats 4000000 in
theorem rsection_any (v : Value) (m : Mat) (gv : Nat → Value) (s : ByteArray) (w : World) (h : MatAt w v m gv) :
    Calls Tryz.prog 41 #[v, .string s] w fun e w' => ∃ s' a h k, e = .returned (.tuple #[.agg #[.string s', .int .i64 a, .int .i64 h, .int .i64 k], .bool (m.hasS s)]) ∧ (m.hasS s = true → a = m.sa (m.si s) ∧ h = m.sh (m.si s)) ∧ Below w.heap.size w w' := by
  obtain ⟨vg, vs, rfl, hG, hS, hb1, hb2, hb3⟩ := h
  have HG := Lib.hid hG
  have HS := Lib.hid hS
  have HN := Lib.hid hb3
  obtain ⟨oa, ca, rfl, hna, hea⟩ := hG.form
  obtain ⟨ob, cb, rfl, hnb, heb⟩ := hS.form
  have HEA := Lib.hid hea
  have HEB := Lib.hid heb
  clear hG hS hb3 hea heb
  obtain ⟨F, hF⟩ : ∃ F, m.si s = F := ⟨_, rfl⟩
  obtain ⟨D, hD⟩ : ∃ D, m.hasS s = D := ⟨_, rfl⟩
  have HF : Hid (firstFrom (fun i => (m.sn i).toList == s.toList) m.ns 0 = F) := hF
  have HD : Hid (decide (F < m.ns) = D) := by show _ = _; rw [← hF]; exact hD
  skip
  skip
  rw [hD, hF]
  clear hF hD
  skip
  skip
  go_enter Tryz.func41, Tryz.ntmps41
  go_wp2
  go_loopw [6] (fun i wr => ∃ j : Nat, j ≤ m.ns ∧ i = .int .i64 j ∧ Hid (firstFrom (fun i => (m.sn i).toList == s.toList) (m.ns - j) j = F) ∧ Below ((w.alloc (.cells #[.slice oa m.ng ca, .slice ob m.ns cb] 26)).alloc (.cells #[.string ⟨#[]⟩, .int .i64 0, .int .i64 0, .int .i64 0] 33)).heap.size ((w.alloc (.cells #[.slice oa m.ng ca, .slice ob m.ns cb] 26)).alloc (.cells #[.string ⟨#[]⟩, .int .i64 0, .int .i64 0, .int .i64 0] 33)) wr) (fun i _ => m.ns - (intOf i).toNat)
  case atStart => exact ⟨0, by omega, rfl, HF.out, Below.refl _ _⟩
  case round =>
    obtain ⟨j, hj, rfl, hq, hB⟩ := hrel
    have HBr : Hid (Below w.heap.size w wr) := by
      show Below _ _ _
      exact below_step (w := w) (by go_grown) hB
    have hs1 := hB.size
    (try simp only [World.size_alloc, World.size_setCell] at hs1)
    have z0 : w.heap.size < wr.heap.size := by omega
    have z1 : w.heap.size + 1 < wr.heap.size := by omega
    have m0 : wr.cell? ⟨w.heap.size, 0, none⟩ = some (.slice oa m.ng ca) := (hB.cell (p := ⟨_, _, none⟩) (by simp <;> omega)).trans (by simp [go_sem])
    have m1 : wr.cell? ⟨w.heap.size, 1, none⟩ = some (.slice ob m.ns cb) := (hB.cell (p := ⟨_, _, none⟩) (by simp <;> omega)).trans (by simp [go_sem])
    have r0 : wr.cell? ⟨w.heap.size + 1, 0, none⟩ = some (.string ⟨#[]⟩) := (hB.cell (p := ⟨_, _, none⟩) (by simp <;> omega)).trans (by simp [go_sem])
    have rf0 : wr.frozen? ⟨w.heap.size + 1, 0, none⟩ = false := (hB.frozen (p := ⟨_, _, none⟩) (by simp <;> omega)).trans (by simp [go_sem])
    have r1 : wr.cell? ⟨w.heap.size + 1, 1, none⟩ = some (.int .i64 0) := (hB.cell (p := ⟨_, _, none⟩) (by simp <;> omega)).trans (by simp [go_sem])
    have rf1 : wr.frozen? ⟨w.heap.size + 1, 1, none⟩ = false := (hB.frozen (p := ⟨_, _, none⟩) (by simp <;> omega)).trans (by simp [go_sem])
    have r2 : wr.cell? ⟨w.heap.size + 1, 2, none⟩ = some (.int .i64 0) := (hB.cell (p := ⟨_, _, none⟩) (by simp <;> omega)).trans (by simp [go_sem])
    have rf2 : wr.frozen? ⟨w.heap.size + 1, 2, none⟩ = false := (hB.frozen (p := ⟨_, _, none⟩) (by simp <;> omega)).trans (by simp [go_sem])
    have r3 : wr.cell? ⟨w.heap.size + 1, 3, none⟩ = some (.int .i64 0) := (hB.cell (p := ⟨_, _, none⟩) (by simp <;> omega)).trans (by simp [go_sem])
    have rf3 : wr.frozen? ⟨w.heap.size + 1, 3, none⟩ = false := (hB.frozen (p := ⟨_, _, none⟩) (by simp <;> omega)).trans (by simp [go_sem])
    have HBX := Lib.hid hB
    clear hs1 hB
    by_cases hlt : j < m.ns
    · obtain ⟨b1, f1, rfl, hbl1, hcl1⟩ := HEB.out j hlt
      have c0 : wr.cell? ⟨b1, f1 + j * 4, none⟩ = some (.string (m.sn j)) := (HBr.out.cell (p := ⟨_, _, none⟩) hbl1).trans (hcl1 j hlt).1
      have c1 : wr.cell? ⟨b1, f1 + j * 4 + 1, none⟩ = some (.int .i64 (m.sa j)) := (HBr.out.cell (p := ⟨_, _, none⟩) hbl1).trans (hcl1 j hlt).2.1
      have c2 : wr.cell? ⟨b1, f1 + j * 4 + 2, none⟩ = some (.int .i64 (m.sh j)) := (HBr.out.cell (p := ⟨_, _, none⟩) hbl1).trans (hcl1 j hlt).2.2.1
      have c3 : wr.cell? ⟨b1, f1 + j * 4 + 3, none⟩ = some (.int .i64 (m.ss j)) := (HBr.out.cell (p := ⟨_, _, none⟩) hbl1).trans (hcl1 j hlt).2.2.2
      have hbr : b1 < wr.heap.size := by omega
      have hbn : b1 ≠ w.heap.size + 1 := by omega
      clear hcl1
      by_cases h1 : ((m.sn j).toList == s.toList) = true
      · have hFj : F = j := hq.out.symm.trans (firstFrom_hit hlt h1)
        have hDt : D = true := by rw [← HD.out, hFj]; exact decide_eq_true hlt
        have HDT := Lib.hid hDt
        have HFJ := Lib.hid hFj
        clear hFj hDt
        go_wp2
        all_goals (refine bodyPost_ret (v := .tuple #[.agg #[.string (m.sn j), .int .i64 (m.sa j), .int .i64 (m.sh j), .int .i64 (m.ss j)], .bool true]) (by simp [results, Tryz.results41, go_sem, *]) rfl ?_)
        rw [HDT.out]
        refine ⟨_, _, _, _, rfl, fun _ => ⟨by rw [HFJ.out], by rw [HFJ.out]⟩, ?_⟩
        exact ((((HBr.out).setCell (show w.heap.size ≤ w.heap.size + 1 by omega) _).setCell (show w.heap.size ≤ w.heap.size + 1 by omega) _).setCell (show w.heap.size ≤ w.heap.size + 1 by omega) _).setCell (show w.heap.size ≤ w.heap.size + 1 by omega) _
      have h1 : ((m.sn j).toList == s.toList) = false := by simpa using h1
      have hq2 : Hid (firstFrom (fun i => (m.sn i).toList == s.toList) (m.ns - (j + 1)) (j + 1) = F) := (firstFrom_miss hlt h1).symm.trans hq.out
      skip
      go_wp2
      go_roundw
      case rel => exact ⟨j + 1, by omega, by go_num, hq2, HBX.out⟩
      case measure => simp [intOf]; omega
    · have hFj : F = m.ns := hq.out.symm.trans (firstFrom_end hj hlt)
      have hDf : D = false := by rw [← HD.out, hFj]; exact decide_eq_false (by omega)
      have H9 := Lib.hid hDf
      clear hFj hDf
      go_wp2
      all_goals (refine bodyPost_ret (v := .tuple #[.agg #[.string ⟨#[]⟩, .int .i64 0, .int .i64 0, .int .i64 0], .bool false]) (by simp [results, Tryz.results41, go_sem, *]) rfl ?_)
      rw [H9.out]
      refine ⟨_, _, _, _, rfl, fun h => absurd h (by decide), ?_⟩
      exact ((((HBr.out).setCell (show w.heap.size ≤ w.heap.size + 1 by omega) _).setCell (show w.heap.size ≤ w.heap.size + 1 by omega) _).setCell (show w.heap.size ≤ w.heap.size + 1 by omega) _).setCell (show w.heap.size ≤ w.heap.size + 1 by omega) _

set_option maxHeartbeats 4000000 in
theorem rgrade_any (v : Value) (m : Mat) (gv : Nat → Value) (s : ByteArray) (w : World) (h : MatAt w v m gv) :
    Calls Tryz.prog 39 #[v, .string s] w fun e w' => ∃ s' d y gv', e = .returned (.tuple #[.agg #[.string s', .int .i64 d, .int .i64 y, gv'], .bool (m.hasG s)]) ∧ (m.hasG s = true → d = m.de (m.gi s)) ∧ IntsAt w' gv' (m.gl s) (m.gf (m.gi s)) ∧ Below w.heap.size w w' := by
  obtain ⟨vg, vs, rfl, hG, hS, hb1, hb2, hb3⟩ := h
  have HG := Lib.hid hG
  have HS := Lib.hid hS
  have HN := Lib.hid hb3
  obtain ⟨oa, ca, rfl, hna, hea⟩ := hG.form
  obtain ⟨ob, cb, rfl, hnb, heb⟩ := hS.form
  have HEA := Lib.hid hea
  have HEB := Lib.hid heb
  clear hG hS hb3 hea heb
  obtain ⟨F, hF⟩ : ∃ F, m.gi s = F := ⟨_, rfl⟩
  obtain ⟨D, hD⟩ : ∃ D, m.hasG s = D := ⟨_, rfl⟩
  have HF : Hid (firstFrom (fun i => (m.nm i).toList == s.toList) m.ng 0 = F) := hF
  have HD : Hid (decide (F < m.ng) = D) := by show _ = _; rw [← hF]; exact hD
  obtain ⟨L, hL⟩ : ∃ L, m.gl s = L := ⟨_, rfl⟩
  have HL : Hid ((if D = true then m.gn F else 0) = L) := by show _ = _; rw [← hL, ← hD, ← hF]; rfl
  rw [hD, hL, hF]
  clear hF hD hL
  have hu : Tryz.prog.underlying 29 = some (.slice 3) := Tryz.underlying29
  obtain ⟨i0, hi, hz0, hz1, hz2⟩ := info_parts info_int
  go_enter Tryz.func39, Tryz.ntmps39
  go_wp2
  go_loopw [6, 7] (fun i _ wr => ∃ j : Nat, j ≤ m.ng ∧ i = .int .i64 j ∧ Hid (firstFrom (fun i => (m.nm i).toList == s.toList) (m.ng - j) j = F) ∧ Below ((w.alloc (.cells #[.slice oa m.ng ca, .slice ob m.ns cb] 26)).alloc (.cells #[.string ⟨#[]⟩, .int .i64 0, .int .i64 0, .slice none 0 0] 31)).heap.size ((w.alloc (.cells #[.slice oa m.ng ca, .slice ob m.ns cb] 26)).alloc (.cells #[.string ⟨#[]⟩, .int .i64 0, .int .i64 0, .slice none 0 0] 31)) wr) (fun i _ _ => m.ng - (intOf i).toNat)
  case atStart => exact ⟨0, by omega, rfl, HF.out, Below.refl _ _⟩
  case round =>
    obtain ⟨j, hj, rfl, hq, hB⟩ := hrel
    have HBr : Hid (Below w.heap.size w wr) := by
      show Below _ _ _
      exact below_step (w := w) (by go_grown) hB
    have hs1 := hB.size
    (try simp only [World.size_alloc, World.size_setCell] at hs1)
    have z0 : w.heap.size < wr.heap.size := by omega
    have z1 : w.heap.size + 1 < wr.heap.size := by omega
    have m0 : wr.cell? ⟨w.heap.size, 0, none⟩ = some (.slice oa m.ng ca) := (hB.cell (p := ⟨_, _, none⟩) (by simp <;> omega)).trans (by simp [go_sem])
    have m1 : wr.cell? ⟨w.heap.size, 1, none⟩ = some (.slice ob m.ns cb) := (hB.cell (p := ⟨_, _, none⟩) (by simp <;> omega)).trans (by simp [go_sem])
    have r0 : wr.cell? ⟨w.heap.size + 1, 0, none⟩ = some (.string ⟨#[]⟩) := (hB.cell (p := ⟨_, _, none⟩) (by simp <;> omega)).trans (by simp [go_sem])
    have rf0 : wr.frozen? ⟨w.heap.size + 1, 0, none⟩ = false := (hB.frozen (p := ⟨_, _, none⟩) (by simp <;> omega)).trans (by simp [go_sem])
    have r1 : wr.cell? ⟨w.heap.size + 1, 1, none⟩ = some (.int .i64 0) := (hB.cell (p := ⟨_, _, none⟩) (by simp <;> omega)).trans (by simp [go_sem])
    have rf1 : wr.frozen? ⟨w.heap.size + 1, 1, none⟩ = false := (hB.frozen (p := ⟨_, _, none⟩) (by simp <;> omega)).trans (by simp [go_sem])
    have r2 : wr.cell? ⟨w.heap.size + 1, 2, none⟩ = some (.int .i64 0) := (hB.cell (p := ⟨_, _, none⟩) (by simp <;> omega)).trans (by simp [go_sem])
    have rf2 : wr.frozen? ⟨w.heap.size + 1, 2, none⟩ = false := (hB.frozen (p := ⟨_, _, none⟩) (by simp <;> omega)).trans (by simp [go_sem])
    have r3 : wr.cell? ⟨w.heap.size + 1, 3, none⟩ = some (.slice none 0 0) := (hB.cell (p := ⟨_, _, none⟩) (by simp <;> omega)).trans (by simp [go_sem])
    have rf3 : wr.frozen? ⟨w.heap.size + 1, 3, none⟩ = false := (hB.frozen (p := ⟨_, _, none⟩) (by simp <;> omega)).trans (by simp [go_sem])
    have HBX := Lib.hid hB
    clear hs1 hB
    by_cases hlt : j < m.ng
    · obtain ⟨b1, f1, rfl, hbl1, hcl1⟩ := HEA.out j hlt
      have c0 : wr.cell? ⟨b1, f1 + j * 4, none⟩ = some (.string (m.nm j)) := (HBr.out.cell (p := ⟨_, _, none⟩) hbl1).trans (hcl1 j hlt).1
      have c1 : wr.cell? ⟨b1, f1 + j * 4 + 1, none⟩ = some (.int .i64 (m.de j)) := (HBr.out.cell (p := ⟨_, _, none⟩) hbl1).trans (hcl1 j hlt).2.1
      have c2 : wr.cell? ⟨b1, f1 + j * 4 + 2, none⟩ = some (.int .i64 (m.yi j)) := (HBr.out.cell (p := ⟨_, _, none⟩) hbl1).trans (hcl1 j hlt).2.2.1
      have c3 : wr.cell? ⟨b1, f1 + j * 4 + 3, none⟩ = some (gv j) := (HBr.out.cell (p := ⟨_, _, none⟩) hbl1).trans (hcl1 j hlt).2.2.2
      have hbr : b1 < wr.heap.size := by omega
      have hbn : b1 ≠ w.heap.size + 1 := by omega
      obtain ⟨oc, cc, hcv, hcn, hcel⟩ := (HG.out.2 j hlt).form
      have HGV := Lib.hid (HG.out.2 j hlt)
      have hgn := HN.out j hlt
      rw [hcv] at c3 HGV
      clear hcv
      clear hcl1
      by_cases h1 : ((m.nm j).toList == s.toList) = true
      · have hFj : F = j := hq.out.symm.trans (firstFrom_hit hlt h1)
        have hDt : D = true := by rw [← HD.out, hFj]; exact decide_eq_true hlt
        have h9 : (D = true ∧ L = m.gn j) ∧ F = j := ⟨⟨hDt, by rw [← HL.out, if_pos hDt, hFj]⟩, hFj⟩
        have H9 := Lib.hid h9
        have HNN : Hid (oc = none → m.gn j = 0) := fun h0 => by
          rcases Nat.eq_zero_or_pos (m.gn j) with hz | hz
          · exact hz
          · obtain ⟨b, off, hq, _⟩ := hcel 0 hz
            rw [h0] at hq; cases hq
        have HCL : Hid (∀ ad, oc = some ad → ∀ k u, (listOf (fun i => .int .i64 (m.gf j i)) (m.gn j))[k]? = some u → w.cell? (ad.add k) = some u ∧ (ad.add k).block < w.heap.size) := fun ad had k u hk => by
          have hkn : k < m.gn j := by
            have := (List.getElem?_eq_some_iff.1 hk).1
            rwa [listOf_len] at this
          obtain ⟨b, off, hq, hbl, hc⟩ := hcel k hkn
          rw [had] at hq
          cases hq
          rw [listOf_at _ _ _ hkn] at hk
          cases hk
          rw [Addr.add_lit]
          exact ⟨hc k hkn, hbl⟩
        clear hFj hDt h9 hcel
        go_wp2_with (at_builtin; refine wpList_append_sl rfl _ _ 29 rfl (wr.heap.size + 1) 3 i0 _ 1 8 hu hi hz0 hz1 hz2 rfl (by decide) (.slice (some ⟨wr.heap.size + 1, 0, none⟩) 0 0) 0 [] rfl ?d0 oc (m.gn j) cc (listOf (fun i => .int .i64 (m.gf j i)) (m.gn j)) rfl ?d1 HNN.out ?d2 ?d3 ?d4 ?d5 ?d6 ?_)
        case d0 =>
          have h := World.ownsRow_made (base := wr.heap.size + 1) (e := 3) (size := 1) (wr.alloc (.cells #[.string (m.nm j), .int .i64 (m.de j), .int .i64 (m.yi j), .slice oc (m.gn j) cc] 31)) #[] 0 (by simp <;> omega) (Nat.zero_le _) (by simp)
          simpa using h
        case d1 => rw [listOf_len]; omega
        case d2 =>
          intro ad had k u hk
          obtain ⟨q1, q2⟩ := HCL.out ad had k u hk
          exact (World.cell?_alloc_lt _ _ _ (by have := HBr.out.size; simp; omega)).trans ((World.cell?_alloc_lt _ _ _ (by have := HBr.out.size; omega)).trans ((HBr.out.cell q2).trans q1))
        case d3 =>
          intro u hu
          simp only [listOf, List.mem_map] at hu
          obtain ⟨i, _, rfl⟩ := hu
          rfl
        case d4 => unfold maxLen; omega
        case d5 => omega
        case d6 => simp <;> omega
        intro v7 w7 hown hgrow
        have W9 := hgrow
        have gb : ∀ k, k < wr.heap.size + 1 → w7.heap[k]? = _ := fun k hk => hgrow.block k (by simp; omega) (by simp [Value.ownBlock]; omega)
        have n0 : w7.cell? ⟨wr.heap.size, 0, none⟩ = some (.string (m.nm j)) := (World.cell?_of_block (gb wr.heap.size (by omega))).trans (by simp [go_sem])
        have nf0 : w7.frozen? ⟨wr.heap.size, 0, none⟩ = false := (World.frozen?_of_block (gb wr.heap.size (by omega))).trans (by simp [go_sem])
        have n1 : w7.cell? ⟨wr.heap.size, 1, none⟩ = some (.int .i64 (m.de j)) := (World.cell?_of_block (gb wr.heap.size (by omega))).trans (by simp [go_sem])
        have nf1 : w7.frozen? ⟨wr.heap.size, 1, none⟩ = false := (World.frozen?_of_block (gb wr.heap.size (by omega))).trans (by simp [go_sem])
        have n2 : w7.cell? ⟨wr.heap.size, 2, none⟩ = some (.int .i64 (m.yi j)) := (World.cell?_of_block (gb wr.heap.size (by omega))).trans (by simp [go_sem])
        have nf2 : w7.frozen? ⟨wr.heap.size, 2, none⟩ = false := (World.frozen?_of_block (gb wr.heap.size (by omega))).trans (by simp [go_sem])
        have n3 : w7.cell? ⟨wr.heap.size, 3, none⟩ = some (.slice oc (m.gn j) cc) := (World.cell?_of_block (gb wr.heap.size (by omega))).trans (by simp [go_sem])
        have nf3 : w7.frozen? ⟨wr.heap.size, 3, none⟩ = false := (World.frozen?_of_block (gb wr.heap.size (by omega))).trans (by simp [go_sem])
        have s0 : w7.cell? ⟨w.heap.size + 1, 0, none⟩ = some (.string ⟨#[]⟩) := (World.cell?_of_block (gb (w.heap.size + 1) (by omega))).trans ((World.cell?_alloc_lt _ _ _ (by simp; omega)).trans ((World.cell?_alloc_lt _ _ _ z1).trans r0))
        have sf0 : w7.frozen? ⟨w.heap.size + 1, 0, none⟩ = false := (World.frozen?_of_block (gb (w.heap.size + 1) (by omega))).trans (((((Below.refl wr.heap.size wr).alloc (Nat.le_refl _) _).alloc (by simp) _).frozen (p := ⟨w.heap.size + 1, 0, none⟩) z1).trans rf0)
        have s1 : w7.cell? ⟨w.heap.size + 1, 1, none⟩ = some (.int .i64 0) := (World.cell?_of_block (gb (w.heap.size + 1) (by omega))).trans ((World.cell?_alloc_lt _ _ _ (by simp; omega)).trans ((World.cell?_alloc_lt _ _ _ z1).trans r1))
        have sf1 : w7.frozen? ⟨w.heap.size + 1, 1, none⟩ = false := (World.frozen?_of_block (gb (w.heap.size + 1) (by omega))).trans (((((Below.refl wr.heap.size wr).alloc (Nat.le_refl _) _).alloc (by simp) _).frozen (p := ⟨w.heap.size + 1, 1, none⟩) z1).trans rf1)
        have s2 : w7.cell? ⟨w.heap.size + 1, 2, none⟩ = some (.int .i64 0) := (World.cell?_of_block (gb (w.heap.size + 1) (by omega))).trans ((World.cell?_alloc_lt _ _ _ (by simp; omega)).trans ((World.cell?_alloc_lt _ _ _ z1).trans r2))
        have sf2 : w7.frozen? ⟨w.heap.size + 1, 2, none⟩ = false := (World.frozen?_of_block (gb (w.heap.size + 1) (by omega))).trans (((((Below.refl wr.heap.size wr).alloc (Nat.le_refl _) _).alloc (by simp) _).frozen (p := ⟨w.heap.size + 1, 2, none⟩) z1).trans rf2)
        have s3 : w7.cell? ⟨w.heap.size + 1, 3, none⟩ = some (.slice none 0 0) := (World.cell?_of_block (gb (w.heap.size + 1) (by omega))).trans ((World.cell?_alloc_lt _ _ _ (by simp; omega)).trans ((World.cell?_alloc_lt _ _ _ z1).trans r3))
        have sf3 : w7.frozen? ⟨w.heap.size + 1, 3, none⟩ = false := (World.frozen?_of_block (gb (w.heap.size + 1) (by omega))).trans (((((Below.refl wr.heap.size wr).alloc (Nat.le_refl _) _).alloc (by simp) _).frozen (p := ⟨w.heap.size + 1, 3, none⟩) z1).trans rf3)
        have hB7 : Below w.heap.size w w7 := (Below.alloc (Below.alloc HBr.out HBr.out.size _) (by have := HBr.out.size; simp; omega) _).grown hgrow (by have := HBr.out.size; simp; omega) (by intro k hk; simp [Value.ownBlock] at hk; have := HBr.out.size; omega)
        have HB7 := Lib.hid hB7
        have HO7 : Hid (IntsAt w7 v7 (m.gn j) (m.gf j)) := by
          show IntsAt _ _ _ _
          exact owns_ints (by simpa using hown)
        have HN7 : Hid (NewFrom (wr.heap.size + 1) v7) := owns_new hown
        have hz7 := hgrow.size
        simp only [World.size_alloc] at hz7
        have z7 : wr.heap.size < w7.heap.size := by omega
        have z8 : w.heap.size + 1 < w7.heap.size := by omega
        obtain ⟨o7, c7, rfl, -, -⟩ := HO7.out.form
        clear hown hgrow hB7 hz7 gb W9
        go_wp2
        all_goals (refine bodyPost_ret (v := .tuple #[.agg #[.string (m.nm j), .int .i64 (m.de j), .int .i64 (m.yi j), .slice o7 (m.gn j) c7], .bool true]) (by simp [results, Tryz.results39, go_sem, *]) rfl ?_)
        rw [H9.out.1.1, H9.out.1.2, H9.out.2]
        refine ⟨_, _, _, _, rfl, fun _ => rfl, ?_, ?_⟩
        · exact ints_set (ints_set (ints_set (ints_set (ints_set (HO7.out) HN7.out _ _ _ (by omega)) HN7.out _ _ _ (by omega)) HN7.out _ _ _ (by omega)) HN7.out _ _ _ (by omega)) HN7.out _ _ _ (by omega)
        · exact (((((HB7.out).setCell (show w.heap.size ≤ wr.heap.size by omega) _).setCell (show w.heap.size ≤ w.heap.size + 1 by omega) _).setCell (show w.heap.size ≤ w.heap.size + 1 by omega) _).setCell (show w.heap.size ≤ w.heap.size + 1 by omega) _).setCell (show w.heap.size ≤ w.heap.size + 1 by omega) _
      have h1 : ((m.nm j).toList == s.toList) = false := by simpa using h1
      have hq2 : Hid (firstFrom (fun i => (m.nm i).toList == s.toList) (m.ng - (j + 1)) (j + 1) = F) := (firstFrom_miss hlt h1).symm.trans hq.out
      clear hcel
      go_wp2
      go_roundw
      case rel => exact ⟨j + 1, by omega, by go_num, hq2, HBX.out⟩
      case measure => simp [intOf]; omega
    · have hFj : F = m.ng := hq.out.symm.trans (firstFrom_end hj hlt)
      have hDf : D = false := by rw [← HD.out, hFj]; exact decide_eq_false (by omega)
      have h9 : D = false ∧ L = 0 := ⟨hDf, by rw [← HL.out, if_neg (by rw [hDf]; decide)]⟩
      have H9 := Lib.hid h9
      clear h9
      clear hFj hDf
      go_wp2
      all_goals (refine bodyPost_ret (v := .tuple #[.agg #[.string ⟨#[]⟩, .int .i64 0, .int .i64 0, .slice none 0 0], .bool false]) (by simp [results, Tryz.results39, go_sem, *]) rfl ?_)
      rw [H9.out.1, H9.out.2]
      refine ⟨_, _, _, _, rfl, fun h => absurd h (by decide), intsAt_nil _ _, ?_⟩
      exact ((((HBr.out).setCell (show w.heap.size ≤ w.heap.size + 1 by omega) _).setCell (show w.heap.size ≤ w.heap.size + 1 by omega) _).setCell (show w.heap.size ≤ w.heap.size + 1 by omega) _).setCell (show w.heap.size ≤ w.heap.size + 1 by omega) _
end Go.Proofs.YtgbhhjdmochhpaaGreatDoor
