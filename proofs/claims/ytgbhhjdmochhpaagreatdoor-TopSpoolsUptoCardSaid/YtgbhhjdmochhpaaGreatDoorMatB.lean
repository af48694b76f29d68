/-
  material.Grade, Section, Rolled and the reference's, by walks. Conditions: a catalog of at most 10^6 entries and gauges. By an AI agent.
-/
import Derived.Test.YtgbhhjdmochhpaaGreatDoorMatA
import Derived.Test.YtgbhhjdmochhpaaGreatDoorClone
namespace Go.Proofs.YtgbhhjdmochhpaaGreatDoor
open Go Go.RowKit
set_option linter.unusedVariables false
set_option linter.unusedSimpArgs false
set_option maxRecDepth 100000
theorem ints_set {w : World} {v : Value} {n : Nat} {f : Nat → Int} {B : Nat} (h : IntsAt w v n f) (hn : NewFrom B v) (b i : Nat) (u : Value) (hb : b < B) : IntsAt (w.setCell ⟨b, i, none⟩ u) v n f := by
  obtain ⟨oa, cap, h1, h2, h3, h4⟩ := h
  refine ⟨oa, cap, h1, h2, h3, fun h0 => ?_⟩
  obtain ⟨b', off, e, hlt, hc⟩ := h4 h0
  refine ⟨b', off, e, by simpa using hlt, fun i j hi hj => ?_⟩
  have hb' : B ≤ b' := hn b' (by rw [h1, e]; rfl)
  rw [World.cell?_setCell_other _ _ _ _ (by intro he; have := congrArg Addr.block he; simp at this; omega)]
  exact hc i j hi hj
def firstIn (f : Nat → Int) (n : Nat) (t : Int) : Nat := firstFrom (fun j => f j == t) n 0
set_option maxHeartbeats 2000000 in
theorem index_int (v : Value) (n : Nat) (f : Nat → Int) (t : Int) (w : World) (h : IntsAt w v n f) :
    Calls Tryz.prog 111 #[v, .int .i64 t] w fun e w' => e = .returned (.int .i64 (if firstIn f n t < n then (firstIn f n t : Int) else -1)) ∧ Below w.heap.size w w' := by
  obtain ⟨oa, cap, rfl, hn, hel⟩ := h.form
  have HEL := Lib.hid hel
  clear h hel
  obtain ⟨F, hF⟩ : ∃ F, firstIn f n t = F := ⟨_, rfl⟩
  rw [hF]
  have HF : Hid (firstFrom (fun j => f j == t) n 0 = F) := hF
  obtain ⟨R, hR⟩ : ∃ R, (if F < n then (F : Int) else -1) = R := ⟨_, rfl⟩
  have HR := Lib.hid hR
  rw [hR]
  clear hF hR
  go_enter Tryz.func111, Tryz.ntmps111
  go_wp2
  go_loopw [5, 8] (fun _ i wr => ∃ j : Nat, j ≤ n ∧ i = .int .i64 j ∧ Hid (firstFrom (fun j => f j == t) (n - j) j = F) ∧ Below w.heap.size w wr) (fun _ i _ => n - (intOf i).toNat)
  case atStart => exact ⟨0, by omega, rfl, HF.out, Below.refl _ _⟩
  case round =>
    obtain ⟨j, hj, rfl, hq, hB⟩ := hrel
    have HBr := Lib.hid hB
    by_cases hlt : j < n
    · obtain ⟨b1, f1, rfl, hbl1, hcl1⟩ := HEL.out j hlt
      have c0 : wr.cell? ⟨b1, f1 + j, none⟩ = some (.int .i64 (f j)) := (hB.cell (p := ⟨_, _, none⟩) hbl1).trans (hcl1 j hlt)
      have hbr : b1 < wr.heap.size := by have := hB.size; omega
      clear hcl1 hB
      by_cases h1 : f j = t
      · have hR0 : R = (j : Int) := by
          have hFj : F = j := hq.out.symm.trans (firstFrom_hit hlt (by simpa using h1))
          rw [← HR.out, hFj, if_pos hlt]
        have HR0 := Lib.hid hR0
        have e1 : (t == f j) = true := by simp [h1]
        clear hR0 h1
        go_wp2
        go_returns
        rw [HR0.out]
        exact ⟨rfl, HBr.out⟩
      have hq2 : Hid (firstFrom (fun j => f j == t) (n - (j + 1)) (j + 1) = F) := (firstFrom_miss hlt (by simpa using h1)).symm.trans hq.out
      have e1 : (t == f j) = false := by simpa using Ne.symm h1
      clear h1
      go_wp2
      go_roundw
      case rel => exact ⟨j + 1, by omega, by go_num, hq2, HBr.out⟩
      case measure => simp [intOf]; omega
    · have hR0 : R = -1 := by
        have hFj : F = n := hq.out.symm.trans (firstFrom_end hj hlt)
        rw [← HR.out, hFj, if_neg (by omega)]
      have HR0 := Lib.hid hR0
      clear hR0 hB
      go_wp2
      go_returns
      rw [HR0.out]
      exact ⟨rfl, HBr.out⟩
theorem contains_int (v : Value) (n : Nat) (f : Nat → Int) (t : Int) (w : World) (h : IntsAt w v n f) :
    Calls Tryz.prog 97 #[v, .int .i64 t] w fun e w' => e = .returned (.bool (decide (firstIn f n t < n))) ∧ Below w.heap.size w w' := by
  have HI := Lib.hid (index_int v n f t w h)
  obtain ⟨oa, cap, rfl, -, -⟩ := h.form
  clear h
  obtain ⟨F, hF⟩ : ∃ F, firstIn f n t = F := ⟨_, rfl⟩
  rw [hF] at HI
  rw [hF]
  obtain ⟨R, hR⟩ : ∃ R, (if F < n then (F : Int) else -1) = R := ⟨_, rfl⟩
  rw [hR] at HI
  obtain ⟨D, hD⟩ : ∃ D, decide (F < n) = D := ⟨_, rfl⟩
  rw [hD]
  have hk : Hid (decide ((0 : Int) ≤ R) = D) := by
    show _ = _
    rw [← hD, ← hR]
    by_cases h : F < n
    · rw [if_pos h, decide_eq_true h]; exact decide_eq_true (by omega)
    · rw [if_neg h, decide_eq_false h]; exact decide_eq_false (by omega)
  clear hF hR hD
  go_enter Tryz.func97, Tryz.ntmps97
  go_wp2_with fail
  (go_at_call 111; refine HI.out.mono ?_; rintro e w1 ⟨rfl, hB1⟩)
  have HB1 := Lib.hid hB1
  clear hB1
  go_wp2
  go_returns
  rw [hk.out]
  exact ⟨rfl, HB1.out⟩
/-- slices.Clone of ints, as ints -/
theorem clone_ints (v : Value) (n : Nat) (f : Nat → Int) (w : World) (h : IntsAt w v n f) (hn : n ≤ 1100000) :
    Calls Tryz.prog 64 #[v] w fun e w' => ∃ v', e = .returned v' ∧ IntsAt w' v' n f ∧ NewFrom w.heap.size v' ∧ Below w.heap.size w w' := by
  obtain ⟨oa, cap, rfl, hnc, hcm, hel⟩ := h
  refine (clone_int oa n cap (listOf (fun i => .int .i64 (f i)) n) w (by rw [listOf_len]; omega) hn (fun h0 => ?_) (fun ad had j u hj => ?_) (fun u hu => ?_)).mono ?_
  · rcases Nat.eq_zero_or_pos n with hz | hz
    · exact hz
    · obtain ⟨b, off, hq, _⟩ := hel hz
      rw [h0] at hq; cases hq
  · have hjn : j < n := by
      have := (List.getElem?_eq_some_iff.1 hj).1
      rwa [listOf_len] at this
    obtain ⟨b, off, hq, _, hc⟩ := hel (by omega)
    rw [had] at hq
    cases hq
    rw [listOf_at _ _ _ hjn] at hj
    cases hj
    rw [Addr.add_lit]
    have := hc j 0 hjn (by decide)
    simpa using this
  · simp only [listOf, List.mem_map] at hu
    obtain ⟨i, _, rfl⟩ := hu
    rfl
  · rintro e w' ⟨v', rfl, ho, hb⟩
    exact ⟨v', rfl, owns_ints ho, owns_new ho, hb⟩
/-- the catalog in memory -/
def MatAt (w : World) (v : Value) (m : Mat) (gv : Nat → Value) : Prop :=
  ∃ vg vs, v = .agg #[vg, vs] ∧ GrAt w vg m gv ∧ SeAt w vs m ∧ m.ng ≤ 1100000 ∧ m.ns ≤ 1100000 ∧ ∀ i, i < m.ng → m.gn i ≤ 1100000
theorem MatAt.below {w w' : World} {v : Value} {m : Mat} {gv : Nat → Value} (h : MatAt w v m gv) (hb : Below w.heap.size w w') : MatAt w' v m gv := by
  obtain ⟨vg, vs, h1, h2, h3, h4⟩ := h
  exact ⟨vg, vs, h1, h2.below hb, h3.below hb, h4⟩
def Mat.gl (m : Mat) (s : ByteArray) : Nat := if m.hasG s = true then m.gn (m.gi s) else 0

set_option maxHeartbeats 4000000 in
theorem section_any (v : Value) (m : Mat) (gv : Nat → Value) (s : ByteArray) (w : World) (h : MatAt w v m gv) :
    Calls Tryz.prog 26 #[v, .string s] w fun e w' => ∃ s' a h k, e = .returned (.tuple #[.agg #[.string s', .int .i64 a, .int .i64 h, .int .i64 k], .bool (m.hasS s)]) ∧ (m.hasS s = true → a = m.sa (m.si s) ∧ h = m.sh (m.si s)) ∧ Below w.heap.size w w' := by
  obtain ⟨vg, vs, rfl, hG, hS, hb1, hb2, hb3⟩ := h
  have HG := Lib.hid hG
  have HS := Lib.hid hS
  have HN := Lib.hid hb3
  obtain ⟨oa, ca, rfl, hna, hea⟩ := hG.form
  obtain ⟨ob, cb, rfl, hnb, heb⟩ := hS.form
  have HEA := Lib.hid hea
  have HEB := Lib.hid heb
  clear hG hS hb3 hea heb
  obtain ⟨F, hF⟩ : ∃ F, m.si s = F := ⟨_, rfl⟩
  obtain ⟨D, hD⟩ : ∃ D, m.hasS s = D := ⟨_, rfl⟩
  have HF := Lib.hid hF
  have HD : Hid (decide (F < m.ns) = D) := by show _ = _; rw [← hF]; exact hD
  skip
  skip
  rw [hD, hF]
  obtain ⟨R, hR⟩ : ∃ R, (if F < m.ns then (F : Int) else -1) = R := ⟨_, rfl⟩
  have HR := Lib.hid hR
  clear hF hD hR
  go_enter Tryz.func26, Tryz.ntmps26
  go_wp2_with fail
  (go_at_call 65; refine (idxSection_any m _ (w.heap.size + 1) s _ (HS.out.below (w := w) (by go_grown)) (by simp <;> omega) (by simp [go_sem])).mono ?_; rintro e w1 ⟨rfl, hB⟩)
  rw [HF.out, HR.out]
  have HB1 : Hid (Below w.heap.size w w1) := by
    show Below _ _ _
    exact below_step (w := w) (by go_grown) hB
  have hs1 := hB.size
  (try simp only [World.size_alloc, World.size_setCell] at hs1)
  have z0 : w.heap.size < w1.heap.size := by omega
  have z1 : w.heap.size + 1 < w1.heap.size := by omega
  have z2 : w.heap.size + 1 + 1 < w1.heap.size := by omega
  have m0 : w1.cell? ⟨w.heap.size, 0, none⟩ = some (.slice oa m.ng ca) := (hB.cell (p := ⟨_, _, none⟩) (by simp <;> omega)).trans (by simp [go_sem])
  have m1 : w1.cell? ⟨w.heap.size, 1, none⟩ = some (.slice ob m.ns cb) := (hB.cell (p := ⟨_, _, none⟩) (by simp <;> omega)).trans (by simp [go_sem])
  have r0 : w1.cell? ⟨w.heap.size + 1 + 1, 0, none⟩ = some (.string ⟨#[]⟩) := (hB.cell (p := ⟨_, _, none⟩) (by simp <;> omega)).trans (by simp [go_sem])
  have rf0 : w1.frozen? ⟨w.heap.size + 1 + 1, 0, none⟩ = false := (hB.frozen (p := ⟨_, _, none⟩) (by simp <;> omega)).trans (by simp [go_sem])
  have r1 : w1.cell? ⟨w.heap.size + 1 + 1, 1, none⟩ = some (.int .i64 0) := (hB.cell (p := ⟨_, _, none⟩) (by simp <;> omega)).trans (by simp [go_sem])
  have rf1 : w1.frozen? ⟨w.heap.size + 1 + 1, 1, none⟩ = false := (hB.frozen (p := ⟨_, _, none⟩) (by simp <;> omega)).trans (by simp [go_sem])
  have r2 : w1.cell? ⟨w.heap.size + 1 + 1, 2, none⟩ = some (.int .i64 0) := (hB.cell (p := ⟨_, _, none⟩) (by simp <;> omega)).trans (by simp [go_sem])
  have rf2 : w1.frozen? ⟨w.heap.size + 1 + 1, 2, none⟩ = false := (hB.frozen (p := ⟨_, _, none⟩) (by simp <;> omega)).trans (by simp [go_sem])
  have r3 : w1.cell? ⟨w.heap.size + 1 + 1, 3, none⟩ = some (.int .i64 0) := (hB.cell (p := ⟨_, _, none⟩) (by simp <;> omega)).trans (by simp [go_sem])
  have rf3 : w1.frozen? ⟨w.heap.size + 1 + 1, 3, none⟩ = false := (hB.frozen (p := ⟨_, _, none⟩) (by simp <;> omega)).trans (by simp [go_sem])
  clear hs1 hB
  by_cases hlt : F < m.ns
  · have h9 : D = true := (by rw [← HD.out]; exact decide_eq_true hlt)
    have H9 := Lib.hid h9
    have hRF : R = (F : Int) := by rw [← HR.out, if_pos hlt]
    subst hRF
    clear h9
    obtain ⟨b1, f1, rfl, hbl1, hcl1⟩ := HEB.out F hlt
    have c0 : w1.cell? ⟨b1, f1 + F * 4, none⟩ = some (.string (m.sn F)) := (HB1.out.cell (p := ⟨_, _, none⟩) hbl1).trans (hcl1 F hlt).1
    have c1 : w1.cell? ⟨b1, f1 + F * 4 + 1, none⟩ = some (.int .i64 (m.sa F)) := (HB1.out.cell (p := ⟨_, _, none⟩) hbl1).trans (hcl1 F hlt).2.1
    have c2 : w1.cell? ⟨b1, f1 + F * 4 + 2, none⟩ = some (.int .i64 (m.sh F)) := (HB1.out.cell (p := ⟨_, _, none⟩) hbl1).trans (hcl1 F hlt).2.2.1
    have c3 : w1.cell? ⟨b1, f1 + F * 4 + 3, none⟩ = some (.int .i64 (m.ss F)) := (HB1.out.cell (p := ⟨_, _, none⟩) hbl1).trans (hcl1 F hlt).2.2.2
    have hbr : b1 < w1.heap.size := by omega
    have hbn : b1 ≠ w.heap.size + 1 + 1 := by omega
    have k0 : decide ((F : Int) < 0) = false := decide_eq_false (by omega)
    have k1 : F < m.ns := hlt
    clear hcl1 hlt
    go_wp2
    all_goals (refine bodyPost_ret (v := .tuple #[.agg #[.string (m.sn F), .int .i64 (m.sa F), .int .i64 (m.sh F), .int .i64 (m.ss F)], .bool true]) (by simp [results, Tryz.results26, go_sem, *]) rfl ?_)
    rw [H9.out]
    refine ⟨_, _, _, _, rfl, fun _ => ⟨rfl, rfl⟩, ?_⟩
    exact ((((HB1.out).setCell (show w.heap.size ≤ w.heap.size + 1 + 1 by omega) _).setCell (show w.heap.size ≤ w.heap.size + 1 + 1 by omega) _).setCell (show w.heap.size ≤ w.heap.size + 1 + 1 by omega) _).setCell (show w.heap.size ≤ w.heap.size + 1 + 1 by omega) _
  · have h9 : D = false := (by rw [← HD.out]; exact decide_eq_false hlt)
    have H9 := Lib.hid h9
    have hRF : R = -1 := by rw [← HR.out, if_neg hlt]
    subst hRF
    clear h9 hlt
    go_wp2
    all_goals (refine bodyPost_ret (v := .tuple #[.agg #[.string ⟨#[]⟩, .int .i64 0, .int .i64 0, .int .i64 0], .bool false]) (by simp [results, Tryz.results26, go_sem, *]) rfl ?_)
    rw [H9.out]
    refine ⟨_, _, _, _, rfl, fun h => absurd h (by decide), ?_⟩
    exact ((((HB1.out).setCell (show w.heap.size ≤ w.heap.size + 1 + 1 by omega) _).setCell (show w.heap.size ≤ w.heap.size + 1 + 1 by omega) _).setCell (show w.heap.size ≤ w.heap.size + 1 + 1 by omega) _).setCell (show w.heap.size ≤ w.heap.size + 1 + 1 by omega) _

set_option maxHeartbeats 4000000 in
theorem grade_any (v : Value) (m : Mat) (gv : Nat → Value) (s : ByteArray) (w : World) (h : MatAt w v m gv) :
    Calls Tryz.prog 25 #[v, .string s] w fun e w' => ∃ s' d y gv', e = .returned (.tuple #[.agg #[.string s', .int .i64 d, .int .i64 y, gv'], .bool (m.hasG s)]) ∧ (m.hasG s = true → d = m.de (m.gi s)) ∧ IntsAt w' gv' (m.gl s) (m.gf (m.gi s)) ∧ Below w.heap.size w w' := by
  obtain ⟨vg, vs, rfl, hG, hS, hb1, hb2, hb3⟩ := h
  have HG := Lib.hid hG
  have HS := Lib.hid hS
  have HN := Lib.hid hb3
  obtain ⟨oa, ca, rfl, hna, hea⟩ := hG.form
  obtain ⟨ob, cb, rfl, hnb, heb⟩ := hS.form
  have HEA := Lib.hid hea
  have HEB := Lib.hid heb
  clear hG hS hb3 hea heb
  obtain ⟨F, hF⟩ : ∃ F, m.gi s = F := ⟨_, rfl⟩
  obtain ⟨D, hD⟩ : ∃ D, m.hasG s = D := ⟨_, rfl⟩
  have HF := Lib.hid hF
  have HD : Hid (decide (F < m.ng) = D) := by show _ = _; rw [← hF]; exact hD
  obtain ⟨L, hL⟩ : ∃ L, m.gl s = L := ⟨_, rfl⟩
  have HL : Hid ((if D = true then m.gn F else 0) = L) := by show _ = _; rw [← hL, ← hD, ← hF]; rfl
  rw [hD, hL, hF]
  obtain ⟨R, hR⟩ : ∃ R, (if F < m.ng then (F : Int) else -1) = R := ⟨_, rfl⟩
  have HR := Lib.hid hR
  clear hF hD hL hR
  go_enter Tryz.func25, Tryz.ntmps25
  go_wp2_with fail
  (go_at_call 62; refine (idxGrade_any m gv _ (w.heap.size + 1) s _ (HG.out.below (w := w) (by go_grown)) (by simp <;> omega) (by simp [go_sem])).mono ?_; rintro e w1 ⟨rfl, hB⟩)
  rw [HF.out, HR.out]
  have HB1 : Hid (Below w.heap.size w w1) := by
    show Below _ _ _
    exact below_step (w := w) (by go_grown) hB
  have hs1 := hB.size
  (try simp only [World.size_alloc, World.size_setCell] at hs1)
  have z0 : w.heap.size < w1.heap.size := by omega
  have z1 : w.heap.size + 1 < w1.heap.size := by omega
  have z2 : w.heap.size + 1 + 1 < w1.heap.size := by omega
  have m0 : w1.cell? ⟨w.heap.size, 0, none⟩ = some (.slice oa m.ng ca) := (hB.cell (p := ⟨_, _, none⟩) (by simp <;> omega)).trans (by simp [go_sem])
  have m1 : w1.cell? ⟨w.heap.size, 1, none⟩ = some (.slice ob m.ns cb) := (hB.cell (p := ⟨_, _, none⟩) (by simp <;> omega)).trans (by simp [go_sem])
  have r0 : w1.cell? ⟨w.heap.size + 1 + 1, 0, none⟩ = some (.string ⟨#[]⟩) := (hB.cell (p := ⟨_, _, none⟩) (by simp <;> omega)).trans (by simp [go_sem])
  have rf0 : w1.frozen? ⟨w.heap.size + 1 + 1, 0, none⟩ = false := (hB.frozen (p := ⟨_, _, none⟩) (by simp <;> omega)).trans (by simp [go_sem])
  have r1 : w1.cell? ⟨w.heap.size + 1 + 1, 1, none⟩ = some (.int .i64 0) := (hB.cell (p := ⟨_, _, none⟩) (by simp <;> omega)).trans (by simp [go_sem])
  have rf1 : w1.frozen? ⟨w.heap.size + 1 + 1, 1, none⟩ = false := (hB.frozen (p := ⟨_, _, none⟩) (by simp <;> omega)).trans (by simp [go_sem])
  have r2 : w1.cell? ⟨w.heap.size + 1 + 1, 2, none⟩ = some (.int .i64 0) := (hB.cell (p := ⟨_, _, none⟩) (by simp <;> omega)).trans (by simp [go_sem])
  have rf2 : w1.frozen? ⟨w.heap.size + 1 + 1, 2, none⟩ = false := (hB.frozen (p := ⟨_, _, none⟩) (by simp <;> omega)).trans (by simp [go_sem])
  have r3 : w1.cell? ⟨w.heap.size + 1 + 1, 3, none⟩ = some (.slice none 0 0) := (hB.cell (p := ⟨_, _, none⟩) (by simp <;> omega)).trans (by simp [go_sem])
  have rf3 : w1.frozen? ⟨w.heap.size + 1 + 1, 3, none⟩ = false := (hB.frozen (p := ⟨_, _, none⟩) (by simp <;> omega)).trans (by simp [go_sem])
  clear hs1 hB
  by_cases hlt : F < m.ng
  · have h9 : D = true ∧ L = m.gn F := by
      have h1 : D = true := by rw [← HD.out]; exact decide_eq_true hlt
      exact ⟨h1, by rw [← HL.out, if_pos h1]⟩
    have H9 := Lib.hid h9
    have hRF : R = (F : Int) := by rw [← HR.out, if_pos hlt]
    subst hRF
    clear h9
    obtain ⟨b1, f1, rfl, hbl1, hcl1⟩ := HEA.out F hlt
    have c0 : w1.cell? ⟨b1, f1 + F * 4, none⟩ = some (.string (m.nm F)) := (HB1.out.cell (p := ⟨_, _, none⟩) hbl1).trans (hcl1 F hlt).1
    have c1 : w1.cell? ⟨b1, f1 + F * 4 + 1, none⟩ = some (.int .i64 (m.de F)) := (HB1.out.cell (p := ⟨_, _, none⟩) hbl1).trans (hcl1 F hlt).2.1
    have c2 : w1.cell? ⟨b1, f1 + F * 4 + 2, none⟩ = some (.int .i64 (m.yi F)) := (HB1.out.cell (p := ⟨_, _, none⟩) hbl1).trans (hcl1 F hlt).2.2.1
    have c3 : w1.cell? ⟨b1, f1 + F * 4 + 3, none⟩ = some (gv F) := (HB1.out.cell (p := ⟨_, _, none⟩) hbl1).trans (hcl1 F hlt).2.2.2
    have hbr : b1 < w1.heap.size := by omega
    have hbn : b1 ≠ w.heap.size + 1 + 1 := by omega
    have k0 : decide ((F : Int) < 0) = false := decide_eq_false (by omega)
    have k1 : F < m.ng := hlt
    obtain ⟨oc, cc, hcv, hcn, -⟩ := (HG.out.2 F hlt).form
    have HGV := Lib.hid (HG.out.2 F hlt)
    rw [hcv] at c3 HGV
    clear hcl1 hcv hlt
    go_wp2_with fail
    (go_at_call 64; refine (clone_ints _ (m.gn F) (m.gf F) _ (HGV.out.below (((((HB1.out).setCell (show w.heap.size ≤ w.heap.size + 1 + 1 by omega) _).setCell (show w.heap.size ≤ w.heap.size + 1 + 1 by omega) _).setCell (show w.heap.size ≤ w.heap.size + 1 + 1 by omega) _).setCell (show w.heap.size ≤ w.heap.size + 1 + 1 by omega) _)) (HN.out F k1)).mono ?_; rintro e w2 ⟨v2, rfl, hv2, hn2, hB2⟩)
    have HV2 := Lib.hid hv2
    have hn9 : NewFrom w1.heap.size v2 := hn2.mono (by simp)
    have HN2 := Lib.hid hn9
    clear hn2 hn9
    obtain ⟨o2, c2, rfl, -, -⟩ := hv2.form
    have HB2 : Hid (Below w.heap.size w w2) := by
      show Below _ _ _
      exact below_step (((((HB1.out).setCell (show w.heap.size ≤ w.heap.size + 1 + 1 by omega) _).setCell (show w.heap.size ≤ w.heap.size + 1 + 1 by omega) _).setCell (show w.heap.size ≤ w.heap.size + 1 + 1 by omega) _).setCell (show w.heap.size ≤ w.heap.size + 1 + 1 by omega) _) hB2
    have hs2 := hB2.size
    simp only [World.size_setCell] at hs2
    have y2 : w.heap.size + 1 + 1 < w2.heap.size := by omega
    have q0 : w2.cell? ⟨w.heap.size + 1 + 1, 0, none⟩ = some (.string (m.nm F)) := (hB2.cell (p := ⟨_, _, none⟩) (by simp <;> omega)).trans (by simp [go_sem, r0, r1, r2, r3])
    have qf0 : w2.frozen? ⟨w.heap.size + 1 + 1, 0, none⟩ = false := (hB2.frozen (p := ⟨_, _, none⟩) (by simp <;> omega)).trans (by simp [go_sem, rf0, rf1, rf2, rf3])
    have q1 : w2.cell? ⟨w.heap.size + 1 + 1, 1, none⟩ = some (.int .i64 (m.de F)) := (hB2.cell (p := ⟨_, _, none⟩) (by simp <;> omega)).trans (by simp [go_sem, r0, r1, r2, r3])
    have qf1 : w2.frozen? ⟨w.heap.size + 1 + 1, 1, none⟩ = false := (hB2.frozen (p := ⟨_, _, none⟩) (by simp <;> omega)).trans (by simp [go_sem, rf0, rf1, rf2, rf3])
    have q2 : w2.cell? ⟨w.heap.size + 1 + 1, 2, none⟩ = some (.int .i64 (m.yi F)) := (hB2.cell (p := ⟨_, _, none⟩) (by simp <;> omega)).trans (by simp [go_sem, r0, r1, r2, r3])
    have qf2 : w2.frozen? ⟨w.heap.size + 1 + 1, 2, none⟩ = false := (hB2.frozen (p := ⟨_, _, none⟩) (by simp <;> omega)).trans (by simp [go_sem, rf0, rf1, rf2, rf3])
    have q3 : w2.cell? ⟨w.heap.size + 1 + 1, 3, none⟩ = some (.slice oc (m.gn F) cc) := (hB2.cell (p := ⟨_, _, none⟩) (by simp <;> omega)).trans (by simp [go_sem, r0, r1, r2, r3])
    have qf3 : w2.frozen? ⟨w.heap.size + 1 + 1, 3, none⟩ = false := (hB2.frozen (p := ⟨_, _, none⟩) (by simp <;> omega)).trans (by simp [go_sem, rf0, rf1, rf2, rf3])
    clear hs2 hB2 hv2
    go_wp2
    all_goals (refine bodyPost_ret (v := .tuple #[.agg #[.string (m.nm F), .int .i64 (m.de F), .int .i64 (m.yi F), .slice o2 (m.gn F) c2], .bool true]) (by simp [results, Tryz.results25, go_sem, *]) rfl ?_)
    rw [H9.out.1, H9.out.2]
    refine ⟨_, _, _, _, rfl, fun _ => rfl, ?_, ?_⟩
    · exact ints_set (ints_set (ints_set (ints_set (ints_set (HV2.out) HN2.out _ _ _ z2) HN2.out _ _ _ z2) HN2.out _ _ _ z2) HN2.out _ _ _ z2) HN2.out _ _ _ z2
    · exact (((((HB2.out).setCell (show w.heap.size ≤ w.heap.size + 1 + 1 by omega) _).setCell (show w.heap.size ≤ w.heap.size + 1 + 1 by omega) _).setCell (show w.heap.size ≤ w.heap.size + 1 + 1 by omega) _).setCell (show w.heap.size ≤ w.heap.size + 1 + 1 by omega) _).setCell (show w.heap.size ≤ w.heap.size + 1 + 1 by omega) _
  · have h9 : D = false ∧ L = 0 := by
      have h1 : D = false := by rw [← HD.out]; exact decide_eq_false hlt
      exact ⟨h1, by rw [← HL.out, if_neg (by rw [h1]; decide)]⟩
    have H9 := Lib.hid h9
    have hRF : R = -1 := by rw [← HR.out, if_neg hlt]
    subst hRF
    clear h9 hlt
    go_wp2
    all_goals (refine bodyPost_ret (v := .tuple #[.agg #[.string ⟨#[]⟩, .int .i64 0, .int .i64 0, .slice none 0 0], .bool false]) (by simp [results, Tryz.results25, go_sem, *]) rfl ?_)
    rw [H9.out.1, H9.out.2]
    refine ⟨_, _, _, _, rfl, fun h => absurd h (by decide), intsAt_nil _ _, ?_⟩
    exact ((((HB1.out).setCell (show w.heap.size ≤ w.heap.size + 1 + 1 by omega) _).setCell (show w.heap.size ≤ w.heap.size + 1 + 1 by omega) _).setCell (show w.heap.size ≤ w.heap.size + 1 + 1 by omega) _).setCell (show w.heap.size ≤ w.heap.size + 1 + 1 by omega) _
end Go.Proofs.YtgbhhjdmochhpaaGreatDoor
