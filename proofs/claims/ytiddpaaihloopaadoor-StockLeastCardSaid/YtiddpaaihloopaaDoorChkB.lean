/-
  Check, the program's and the reference's, by walks. Conditions: identifiers of at most 2^31 bytes. By an AI agent.
-/
import Derived.Test.YtiddpaaihloopaaDoorChk
namespace Go.Proofs.YtiddpaaihloopaaDoor
open Go Go.ChangeShapes Go.WideShapes Go.RowKit Go.ChangeAt
set_option linter.unusedVariables false
set_option linter.unusedSimpArgs false
set_option maxRecDepth 100000
/-- the stock in memory -/
def StAt (w : World) (v : Value) (ns : Nat) (es : Nat → Sh) (nb : Nat) (eb : Nat → Br) : Prop := ∃ va vb, v = .agg #[va, vb] ∧ ShAt w va ns es ∧ BrAt w vb nb eb
theorem StAt.below {w w' : World} {v : Value} {ns nb : Nat} {es : Nat → Sh} {eb : Nat → Br} (h : StAt w v ns es nb eb) (hb : Below w.heap.size w w') : StAt w' v ns es nb eb := by
  obtain ⟨va, vb, h1, h2, h3⟩ := h
  exact ⟨va, vb, h1, h2.below hb, h3.below hb⟩
def checkF (m : Mat) (ns : Nat) (es : Nat → Sh) (nb : Nat) (eb : Nat → Br) : Int :=
  if 128 < ns ∨ 128 < nb then 4 else if chkFrom (sheetE m) Sh.id es ns 0 ≠ 0 then chkFrom (sheetE m) Sh.id es ns 0 else chkFrom (barE m) Br.id eb nb 0

set_option maxHeartbeats 4000000 in
theorem check_any (v : Value) (ns : Nat) (es : Nat → Sh) (nb : Nat) (eb : Nat → Br) (vm : Value) (m : Mat) (gv : Nat → Value) (w : World) (h : StAt w v ns es nb eb) (hm : MatAt w vm m gv) (hz1 : ∀ i, i < ns → (es i).id.size ≤ 2147483648 ∧ (es i).heat.size ≤ 2147483648) (hz2 : ∀ i, i < nb → (eb i).id.size ≤ 2147483648 ∧ (eb i).heat.size ≤ 2147483648) (hml : MaxLenIs w) :
    Calls Tryd.prog 10 #[v, vm] w fun e w' => e = .returned (.int .i64 (checkF m ns es nb eb)) ∧ Below w.heap.size w w' := by
  obtain ⟨va, vb, rfl, hSh, hBr⟩ := h
  have HSH := Lib.hid hSh
  have HBR := Lib.hid hBr
  have HML := Lib.hid hml
  have HZ1 := Lib.hid hz1
  have HZ2 := Lib.hid hz2
  have HM := Lib.hid hm
  obtain ⟨vg, vs, rfl, hG, hS, -⟩ := hm
  obtain ⟨om, cm, rfl, -, -⟩ := hG.form
  obtain ⟨ot, ct, rfl, -, -⟩ := hS.form
  obtain ⟨oa, ca, rfl, hna, hca, hela⟩ := hSh.form
  obtain ⟨ob, cb, rfl, hnb, hcb, helb⟩ := hBr.form
  have HELA := Lib.hid hela
  have HELB := Lib.hid helb
  clear hSh hBr hml hG hS hz1 hz2 hela helb
  obtain ⟨R, hR⟩ : ∃ R, checkF m ns es nb eb = R := ⟨_, rfl⟩
  rw [hR]
  unfold checkF at hR
  by_cases h1 : 128 < ns
  · have k1 : decide ((128 : Int) < (ns : Int)) = true := decide_eq_true (by omega)
    have HR0 : Hid (R = 4) := by show _ = _; rw [← hR, if_pos (.inl h1)]
    clear hR
    go_enter Tryd.func10, Tryd.ntmps10
    go_wp2
    go_returns
    rw [HR0.out]
    exact ⟨rfl, by go_grown⟩
  by_cases h2 : 128 < nb
  · have k1 : decide ((128 : Int) < (ns : Int)) = false := decide_eq_false (by omega)
    have k2 : decide ((128 : Int) < (nb : Int)) = true := decide_eq_true (by omega)
    have HR0 : Hid (R = 4) := by show _ = _; rw [← hR, if_pos (.inr h2)]
    clear hR
    go_enter Tryd.func10, Tryd.ntmps10
    go_wp2
    go_returns
    rw [HR0.out]
    exact ⟨rfl, by go_grown⟩
  have k1 : decide ((128 : Int) < (ns : Int)) = false := decide_eq_false (by omega)
  have k2 : decide ((128 : Int) < (nb : Int)) = false := decide_eq_false (by omega)
  rw [if_neg (by omega)] at hR
  obtain ⟨E1, hE1⟩ : ∃ E, chkFrom (sheetE m) Sh.id es ns 0 = E := ⟨_, rfl⟩
  obtain ⟨E2, hE2⟩ : ∃ E, chkFrom (barE m) Br.id eb nb 0 = E := ⟨_, rfl⟩
  rw [hE1, hE2] at hR
  have HE1 := Lib.hid hE1
  have HE2 := Lib.hid hE2
  have HR := Lib.hid hR
  clear hE1 hE2 hR h1 h2
  have n1 : ns ≤ 1000000 := by simp at k1; omega
  have n2 : nb ≤ 1000000 := by simp at k2; omega
  go_enter Tryd.func10, Tryd.ntmps10
  go_wp2_with fail
  (go_at_call 25; refine (shelf_Sheet _ _ oa ob ns ca nb cb _ rfl rfl).mono ?_; rintro e_ w1 ⟨rfl, hb⟩)
  have hsw1 := hb.size
  (try simp only [World.size_alloc, World.size_setCell] at hsw1)
  have zww1 : w.heap.size < w1.heap.size := by omega
  have zsw1 : w.heap.size < w1.heap.size := by omega
  have s0w1 : w1.cell? ⟨w.heap.size, 0, none⟩ = some (.slice oa ns ca) := (hb.cell (p := ⟨_, _, none⟩) (by simp <;> omega)).trans (by simp [go_sem])
  have s1w1 : w1.cell? ⟨w.heap.size, 1, none⟩ = some (.slice ob nb cb) := (hb.cell (p := ⟨_, _, none⟩) (by simp <;> omega)).trans (by simp [go_sem])
  have zmw1 : w.heap.size + 1 < w1.heap.size := by omega
  have m0w1 : w1.cell? ⟨w.heap.size + 1, 0, none⟩ = some (.slice om m.ng cm) := (hb.cell (p := ⟨_, _, none⟩) (by simp <;> omega)).trans (by simp [go_sem])
  have m1w1 : w1.cell? ⟨w.heap.size + 1, 1, none⟩ = some (.slice ot m.ns ct) := (hb.cell (p := ⟨_, _, none⟩) (by simp <;> omega)).trans (by simp [go_sem])
  have hBw1 : Below w.heap.size w w1 := below_step (w := w) (by first | assumption | go_grown) hb
  clear hb hsw1
  go_wp2_with fail
  (go_at_call 26; refine (chk_Sheet _ ns es _ _ m gv (w.heap.size + 1) _ (HSH.out.below (by first | assumption | go_grown)) n1 (HM.out.below (by first | assumption | go_grown)) HZ1.out (HML.out.below (by first | assumption | go_grown)) zmw1 m0w1 m1w1).mono ?_; rintro e_ w2 ⟨rfl, hb⟩)
  rw [HE1.out]
  have hsw2 := hb.size
  (try simp only [World.size_alloc, World.size_setCell] at hsw2)
  have zww2 : w.heap.size < w2.heap.size := by omega
  have hPw2 : Below w1.heap.size w1 w2 := below_step (w := w1) (by first | exact Below.refl _ _ | go_grown) hb
  have zsw2 : w.heap.size < w2.heap.size := by omega
  have s0w2 : w2.cell? ⟨w.heap.size, 0, none⟩ = some (.slice oa ns ca) := (hPw2.cell (p := ⟨_, _, none⟩) zsw1).trans s0w1
  have s1w2 : w2.cell? ⟨w.heap.size, 1, none⟩ = some (.slice ob nb cb) := (hPw2.cell (p := ⟨_, _, none⟩) zsw1).trans s1w1
  have zmw2 : w.heap.size + 1 < w2.heap.size := by omega
  have m0w2 : w2.cell? ⟨w.heap.size + 1, 0, none⟩ = some (.slice om m.ng cm) := (hPw2.cell (p := ⟨_, _, none⟩) zmw1).trans m0w1
  have m1w2 : w2.cell? ⟨w.heap.size + 1, 1, none⟩ = some (.slice ot m.ns ct) := (hPw2.cell (p := ⟨_, _, none⟩) zmw1).trans m1w1
  have hBw2 : Below w.heap.size w w2 := below_step (w := w) (by first | assumption | go_grown) hb
  clear hb hsw2
  clear hPw2
  clear zsw1 zmw1 s0w1 s1w1 m0w1 m1w1
  by_cases hq : E1 = 0
  · subst hq
    have HR2 : Hid (R = E2) := by show _ = _; rw [← HR.out, if_neg (by decide)]
    go_wp2_with fail
    (go_at_call 29; refine (shelf_Bar _ _ oa ob ns ca nb cb _ rfl rfl).mono ?_; rintro e_ w3 ⟨rfl, hb⟩)
    have hsw3 := hb.size
    (try simp only [World.size_alloc, World.size_setCell] at hsw3)
    have zww3 : w.heap.size < w3.heap.size := by omega
    have hPw3 : Below w2.heap.size w2 w3 := below_step (w := w2) (by first | exact Below.refl _ _ | go_grown) hb
    have zsw3 : w.heap.size < w3.heap.size := by omega
    have s0w3 : w3.cell? ⟨w.heap.size, 0, none⟩ = some (.slice oa ns ca) := (hPw3.cell (p := ⟨_, _, none⟩) zsw2).trans s0w2
    have s1w3 : w3.cell? ⟨w.heap.size, 1, none⟩ = some (.slice ob nb cb) := (hPw3.cell (p := ⟨_, _, none⟩) zsw2).trans s1w2
    have zmw3 : w.heap.size + 1 < w3.heap.size := by omega
    have m0w3 : w3.cell? ⟨w.heap.size + 1, 0, none⟩ = some (.slice om m.ng cm) := (hPw3.cell (p := ⟨_, _, none⟩) zmw2).trans m0w2
    have m1w3 : w3.cell? ⟨w.heap.size + 1, 1, none⟩ = some (.slice ot m.ns ct) := (hPw3.cell (p := ⟨_, _, none⟩) zmw2).trans m1w2
    have hBw3 : Below w.heap.size w w3 := below_step (w := w) (by first | assumption | go_grown) hb
    clear hb hsw3
    clear hPw3
    clear zsw2 zmw2 s0w2 s1w2 m0w2 m1w2
    go_wp2_with fail
    (go_at_call 30; refine (chk_Bar _ nb eb _ _ m gv (w.heap.size + 1) _ (HBR.out.below (by first | assumption | go_grown)) n2 (HM.out.below (by first | assumption | go_grown)) HZ2.out (HML.out.below (by first | assumption | go_grown)) zmw3 m0w3 m1w3).mono ?_; rintro e_ w4 ⟨rfl, hb⟩)
    rw [HE2.out]
    have hsw4 := hb.size
    (try simp only [World.size_alloc, World.size_setCell] at hsw4)
    have zww4 : w.heap.size < w4.heap.size := by omega
    have hPw4 : Below w3.heap.size w3 w4 := below_step (w := w3) (by first | exact Below.refl _ _ | go_grown) hb
    have zsw4 : w.heap.size < w4.heap.size := by omega
    have s0w4 : w4.cell? ⟨w.heap.size, 0, none⟩ = some (.slice oa ns ca) := (hPw4.cell (p := ⟨_, _, none⟩) zsw3).trans s0w3
    have s1w4 : w4.cell? ⟨w.heap.size, 1, none⟩ = some (.slice ob nb cb) := (hPw4.cell (p := ⟨_, _, none⟩) zsw3).trans s1w3
    have zmw4 : w.heap.size + 1 < w4.heap.size := by omega
    have m0w4 : w4.cell? ⟨w.heap.size + 1, 0, none⟩ = some (.slice om m.ng cm) := (hPw4.cell (p := ⟨_, _, none⟩) zmw3).trans m0w3
    have m1w4 : w4.cell? ⟨w.heap.size + 1, 1, none⟩ = some (.slice ot m.ns ct) := (hPw4.cell (p := ⟨_, _, none⟩) zmw3).trans m1w3
    have hBw4 : Below w.heap.size w w4 := below_step (w := w) (by first | assumption | go_grown) hb
    clear hb hsw4
    clear hPw4
    clear zsw3 zmw3 s0w3 s1w3 m0w3 m1w3
    go_wp2
    go_returns
    rw [HR2.out]
    exact ⟨rfl, by assumption⟩
  · have HR2 : Hid (R = E1) := by show _ = _; rw [← HR.out, if_pos hq]
    have k0 : (E1 != 0) = true := by simpa using hq
    clear hq
    go_wp2
    go_returns
    rw [HR2.out]
    exact ⟨rfl, by assumption⟩

set_option maxHeartbeats 8000000 in
theorem rcheck_any (v : Value) (ns : Nat) (es : Nat → Sh) (nb : Nat) (eb : Nat → Br) (vm : Value) (m : Mat) (gv : Nat → Value) (w : World) (h : StAt w v ns es nb eb) (hm : MatAt w vm m gv) (hz1 : ∀ i, i < ns → (es i).id.size ≤ 2147483648 ∧ (es i).heat.size ≤ 2147483648) (hz2 : ∀ i, i < nb → (eb i).id.size ≤ 2147483648 ∧ (eb i).heat.size ≤ 2147483648) (hml : MaxLenIs w) :
    Calls Tryd.prog 11 #[v, vm] w fun e w' => e = .returned (.int .i64 (checkF m ns es nb eb)) ∧ Below w.heap.size w w' := by
  obtain ⟨va, vb, rfl, hSh, hBr⟩ := h
  have HSH := Lib.hid hSh
  have HBR := Lib.hid hBr
  have HML := Lib.hid hml
  have HZ1 := Lib.hid hz1
  have HZ2 := Lib.hid hz2
  have HM := Lib.hid hm
  obtain ⟨vg, vs, rfl, hG, hS, -⟩ := hm
  obtain ⟨om, cm, rfl, -, -⟩ := hG.form
  obtain ⟨ot, ct, rfl, -, -⟩ := hS.form
  obtain ⟨oa, ca, rfl, hna, hca, hela⟩ := hSh.form
  obtain ⟨ob, cb, rfl, hnb, hcb, helb⟩ := hBr.form
  have HELA := Lib.hid hela
  have HELB := Lib.hid helb
  clear hSh hBr hml hG hS hz1 hz2 hela helb
  obtain ⟨R, hR⟩ : ∃ R, checkF m ns es nb eb = R := ⟨_, rfl⟩
  rw [hR]
  unfold checkF at hR
  by_cases h1 : 128 < ns
  · have k1 : decide ((128 : Int) < (ns : Int)) = true := decide_eq_true (by omega)
    have HR0 : Hid (R = 4) := by show _ = _; rw [← hR, if_pos (.inl h1)]
    clear hR
    go_enter Tryd.func11, Tryd.ntmps11
    go_wp2
    go_returns
    rw [HR0.out]
    exact ⟨rfl, by go_grown⟩
  by_cases h2 : 128 < nb
  · have k1 : decide ((128 : Int) < (ns : Int)) = false := decide_eq_false (by omega)
    have k2 : decide ((128 : Int) < (nb : Int)) = true := decide_eq_true (by omega)
    have HR0 : Hid (R = 4) := by show _ = _; rw [← hR, if_pos (.inr h2)]
    clear hR
    go_enter Tryd.func11, Tryd.ntmps11
    go_wp2
    go_returns
    rw [HR0.out]
    exact ⟨rfl, by go_grown⟩
  have k1 : decide ((128 : Int) < (ns : Int)) = false := decide_eq_false (by omega)
  have k2 : decide ((128 : Int) < (nb : Int)) = false := decide_eq_false (by omega)
  rw [if_neg (by omega)] at hR
  obtain ⟨E1, hE1⟩ : ∃ E, chkFrom (sheetE m) Sh.id es ns 0 = E := ⟨_, rfl⟩
  obtain ⟨E2, hE2⟩ : ∃ E, chkFrom (barE m) Br.id eb nb 0 = E := ⟨_, rfl⟩
  rw [hE1, hE2] at hR
  have HE1 := Lib.hid hE1
  have HE2 := Lib.hid hE2
  have HR := Lib.hid hR
  have HRT1 : Hid (∀ X, E1 = X → X ≠ 0 → R = X) := fun X h1 h2 => by rw [← HR.out, if_pos (by rw [h1]; exact h2), h1]
  clear hE1 hE2 hR h1 h2
  have n1 : ns ≤ 1000000 := by simp at k1; omega
  have n2 : nb ≤ 1000000 := by simp at k2; omega
  go_enter Tryd.func11, Tryd.ntmps11
  go_wp2
  go_loopw [5, 6] (fun i _ wr => ∃ j : Nat, j ≤ ns ∧ i = .int .i64 j ∧ Hid (chkFrom (sheetE m) Sh.id es (ns - j) j = E1) ∧ Below ((w.alloc (.cells #[.slice oa ns ca, .slice ob nb cb] 25)).alloc (.cells #[.slice om m.ng cm, .slice ot m.ns ct] 29)).heap.size ((w.alloc (.cells #[.slice oa ns ca, .slice ob nb cb] 25)).alloc (.cells #[.slice om m.ng cm, .slice ot m.ns ct] 29)) wr) (fun i _ _ => ns - (intOf i).toNat)
  case atStart => exact ⟨0, by omega, rfl, HE1.out, Below.refl _ _⟩
  case round =>
    obtain ⟨j, hj, rfl, hq, hB⟩ := hrel
    have HBra : Hid (Below w.heap.size w wr) := by
      show Below _ _ _
      exact below_step (w := w) (by go_grown) hB
    have HBXa := Lib.hid hB
    have hs0 := hB.size
    (try simp only [World.size_alloc, World.size_setCell] at hs0)
    have z0a : w.heap.size < wr.heap.size := by omega
    have z1a : w.heap.size + 1 < wr.heap.size := by omega
    have s0 : wr.cell? ⟨w.heap.size, 0, none⟩ = some (.slice oa ns ca) := (hB.cell (p := ⟨_, _, none⟩) (by simp <;> omega)).trans (by simp [go_sem])
    have s1 : wr.cell? ⟨w.heap.size, 1, none⟩ = some (.slice ob nb cb) := (hB.cell (p := ⟨_, _, none⟩) (by simp <;> omega)).trans (by simp [go_sem])
    have m0 : wr.cell? ⟨w.heap.size + 1, 0, none⟩ = some (.slice om m.ng cm) := (hB.cell (p := ⟨_, _, none⟩) (by simp <;> omega)).trans (by simp [go_sem])
    have m1 : wr.cell? ⟨w.heap.size + 1, 1, none⟩ = some (.slice ot m.ns ct) := (hB.cell (p := ⟨_, _, none⟩) (by simp <;> omega)).trans (by simp [go_sem])
    clear hB hs0
    by_cases hlt : j < ns
    · obtain ⟨b1, f1, rfl, hbl1, hcl1⟩ := HELA.out j hlt
      have c0 : wr.cell? ⟨b1, f1 + j * 6, none⟩ = some (.string (es j).id) := (HBra.out.cell (p := ⟨_, _, none⟩) hbl1).trans (hcl1 j hlt).1
      have c1 : wr.cell? ⟨b1, f1 + j * 6 + 1, none⟩ = some (.string (es j).grade) := (HBra.out.cell (p := ⟨_, _, none⟩) hbl1).trans (hcl1 j hlt).2.1
      have c2 : wr.cell? ⟨b1, f1 + j * 6 + 2, none⟩ = some (.int .i64 (es j).thick) := (HBra.out.cell (p := ⟨_, _, none⟩) hbl1).trans (hcl1 j hlt).2.2.1
      have c3 : wr.cell? ⟨b1, f1 + j * 6 + 3, none⟩ = some (.int .i64 (es j).len) := (HBra.out.cell (p := ⟨_, _, none⟩) hbl1).trans (hcl1 j hlt).2.2.2.1
      have c4 : wr.cell? ⟨b1, f1 + j * 6 + 4, none⟩ = some (.int .i64 (es j).wid) := (HBra.out.cell (p := ⟨_, _, none⟩) hbl1).trans (hcl1 j hlt).2.2.2.2.1
      have c5 : wr.cell? ⟨b1, f1 + j * 6 + 5, none⟩ = some (.string (es j).heat) := (HBra.out.cell (p := ⟨_, _, none⟩) hbl1).trans (hcl1 j hlt).2.2.2.2.2
      have hbr : b1 < wr.heap.size := by omega
      obtain ⟨EE, hEE⟩ : ∃ EE, sheetE m (es j) = EE := ⟨_, rfl⟩
      have HEE := Lib.hid hEE
      have hcl9 := Lib.hid hcl1
      clear hEE hcl1
      go_wp2_with fail
      refine wp_region_relw 8 (by kernel_rfl) (by kernel_rfl) (by kernel_rfl) ?_
      simp only [List.take_succ_cons, List.take_zero, fillL, Act.put, List.setIfInBounds_toArray, List.set_cons_zero, List.set_cons_succ]
      apply rel_is
      · intro u wx hb hd
        have hz := hb.size
        (try simp only [World.size_alloc, World.size_setCell] at hz)
        have hz0 : w.heap.size < wx.heap.size := by omega
        have hz1 : w.heap.size + 1 < wx.heap.size := by omega
        have hz2 : b1 < wx.heap.size := by omega
        obtain ⟨hc, hf⟩ := bcell hb
        have HBX := Lib.hid hb
        clear hb hz
        simp [depsS, Region.binds, updS, Stay.is, Stay.any] at hd
        go_simp
        first | exact ⟨Below.refl _ _, rfl⟩ | rfl
      apply rel_is
      · intro u wx hb hd
        have hz := hb.size
        (try simp only [World.size_alloc, World.size_setCell] at hz)
        have hz0 : w.heap.size < wx.heap.size := by omega
        have hz1 : w.heap.size + 1 < wx.heap.size := by omega
        have hz2 : b1 < wx.heap.size := by omega
        obtain ⟨hc, hf⟩ := bcell hb
        have HBX := Lib.hid hb
        clear hb hz
        simp [depsS, Region.binds, updS, Stay.is, Stay.any] at hd
        go_simp
        first | exact ⟨Below.refl _ _, rfl⟩ | rfl
      apply rel_is
      · intro u wx hb hd
        have hz := hb.size
        (try simp only [World.size_alloc, World.size_setCell] at hz)
        have hz0 : w.heap.size < wx.heap.size := by omega
        have hz1 : w.heap.size + 1 < wx.heap.size := by omega
        have hz2 : b1 < wx.heap.size := by omega
        obtain ⟨hc, hf⟩ := bcell hb
        have HBX := Lib.hid hb
        clear hb hz
        simp [depsS, Region.binds, updS, Stay.is, Stay.any] at hd
        go_simp
        first | exact ⟨Below.refl _ _, rfl⟩ | rfl
      apply rel_is
      · intro u wx hb hd
        have hz := hb.size
        (try simp only [World.size_alloc, World.size_setCell] at hz)
        have hz0 : w.heap.size < wx.heap.size := by omega
        have hz1 : w.heap.size + 1 < wx.heap.size := by omega
        have hz2 : b1 < wx.heap.size := by omega
        obtain ⟨hc, hf⟩ := bcell hb
        have HBX := Lib.hid hb
        clear hb hz
        simp [depsS, Region.binds, updS, Stay.is, Stay.any] at hd
        go_simp
        first | exact ⟨Below.refl _ _, rfl⟩ | rfl
      apply rel_is
      · intro u wx hb hd
        have hz := hb.size
        (try simp only [World.size_alloc, World.size_setCell] at hz)
        have hz0 : w.heap.size < wx.heap.size := by omega
        have hz1 : w.heap.size + 1 < wx.heap.size := by omega
        have hz2 : b1 < wx.heap.size := by omega
        obtain ⟨hc, hf⟩ := bcell hb
        have HBX := Lib.hid hb
        clear hb hz
        simp [depsS, Region.binds, updS, Stay.is, Stay.any] at hd
        go_simp
        first | exact ⟨Below.refl _ _, rfl⟩ | rfl
      apply rel_is
      · intro u wx hb hd
        have hz := hb.size
        (try simp only [World.size_alloc, World.size_setCell] at hz)
        have hz0 : w.heap.size < wx.heap.size := by omega
        have hz1 : w.heap.size + 1 < wx.heap.size := by omega
        have hz2 : b1 < wx.heap.size := by omega
        obtain ⟨hc, hf⟩ := bcell hb
        have HBX := Lib.hid hb
        clear hb hz
        simp [depsS, Region.binds, updS, Stay.is, Stay.any] at hd
        go_simp
        first | exact ⟨Below.refl _ _, rfl⟩ | rfl
      apply rel_is
      · intro u wx hb hd
        have hz := hb.size
        (try simp only [World.size_alloc, World.size_setCell] at hz)
        have hz0 : w.heap.size < wx.heap.size := by omega
        have hz1 : w.heap.size + 1 < wx.heap.size := by omega
        have hz2 : b1 < wx.heap.size := by omega
        obtain ⟨hc, hf⟩ := bcell hb
        have HBX := Lib.hid hb
        clear hb hz
        simp [depsS, Region.binds, updS, Stay.is, Stay.any] at hd
        go_simp
        first | rfl | (go_at_call 33; refine (rsheet_any (es j) _ m gv wx (HM.out.below (below_step HBra.out HBX.out)) (HZ1.out j hlt).1 (HZ1.out j hlt).2 (HML.out.below (below_step HBra.out HBX.out))).mono ?_; rintro e w1 ⟨rfl, hb1⟩; first | exact ⟨rfl, hb1⟩ | exact ⟨_, rfl, hb1, rfl⟩)
      apply rel_is
      · intro u wx hb hd
        have hz := hb.size
        (try simp only [World.size_alloc, World.size_setCell] at hz)
        have hz0 : w.heap.size < wx.heap.size := by omega
        have hz1 : w.heap.size + 1 < wx.heap.size := by omega
        have hz2 : b1 < wx.heap.size := by omega
        obtain ⟨hc, hf⟩ := bcell hb
        have HBX := Lib.hid hb
        clear hb hz
        simp [depsS, Region.binds, updS, Stay.is, Stay.any] at hd
        go_simp
        first | exact ⟨Below.refl _ _, rfl⟩ | rfl
      intro u w5 hb hE
      have e0 : u 0 = _ := endS_get hE 0 (by decide)
      have e1 : u 1 = _ := endS_get hE 1 (by decide)
      have e2 : u 2 = _ := endS_get hE 2 (by decide)
      have e3 : u 3 = _ := endS_get hE 3 (by decide)
      have e4 : u 4 = _ := endS_get hE 4 (by decide)
      have e5 : u 5 = _ := endS_get hE 5 (by decide)
      have e6 : u 6 = _ := endS_get hE 6 (by decide)
      have e7 : u 7 = _ := endS_get hE 7 (by decide)
      simp only [List.drop_succ_cons, List.drop_zero, List.take_succ_cons, List.take_zero, fillL, Act.put, List.setIfInBounds_toArray, List.set_cons_zero, List.set_cons_succ, e0, e1, e2, e3, e4, e5, e6, e7]
      clear e0 e1 e2 e3 e4 e5 e6 e7 hE
      have HBw5 := Lib.hid (below_step (w := wr) (by first | assumption | go_grown) hb)
      have HBXw5 := Lib.hid hb
      have hzw5 := hb.size
      (try simp only [World.size_alloc, World.size_setCell] at hzw5)
      have hzw50 : w.heap.size < w5.heap.size := by omega
      have hzw51 : w.heap.size + 1 < w5.heap.size := by omega
      have hzw52 : b1 < w5.heap.size := by omega
      obtain ⟨hcw5, hfw5⟩ := bcell hb
      clear hb hzw5
      rw [HEE.out]
      have HW5 : Hid (Below w.heap.size w w5) := below_step HBra.out HBXw5.out
      have t0 : w5.cell? ⟨w.heap.size, 0, none⟩ = some (.slice (some ⟨b1, f1, none⟩) ns ca) := (HBXw5.out.cell (p := ⟨_, _, none⟩) z0a).trans s0
      have t1 : w5.cell? ⟨w.heap.size, 1, none⟩ = some (.slice ob nb cb) := (HBXw5.out.cell (p := ⟨_, _, none⟩) z0a).trans s1
      have u0 : w5.cell? ⟨w.heap.size + 1, 0, none⟩ = some (.slice om m.ng cm) := (HBXw5.out.cell (p := ⟨_, _, none⟩) z1a).trans m0
      have u1 : w5.cell? ⟨w.heap.size + 1, 1, none⟩ = some (.slice ot m.ns ct) := (HBXw5.out.cell (p := ⟨_, _, none⟩) z1a).trans m1
      clear hcw5 hfw5
      by_cases hE : EE = 0
      · subst hE
        by_cases hj0 : j = 0
        · subst hj0
          have hq2 : Hid (chkFrom (sheetE m) Sh.id es (ns - (0 + 1)) (0 + 1) = E1) := by
            show _ = _
            rw [← chkFrom_good hlt (by unfold chkAt; rw [HEE.out]; simp)]
            exact hq.out
          have k0 : decide ((0 : Int) < ((0 : Nat) : Int)) = false := by decide
          go_wp2_with fail
          refine wp_region_relw 18 (by kernel_rfl) (by kernel_rfl) (by kernel_rfl) ?_
          simp only [List.take_succ_cons, List.take_zero, fillL, Act.put, List.setIfInBounds_toArray, List.set_cons_zero, List.set_cons_succ]
          apply rel_is
          · intro u wx hb hd
            have hz := hb.size
            (try simp only [World.size_alloc, World.size_setCell] at hz)
            have hz0 : w.heap.size < wx.heap.size := by omega
            have hz1 : w.heap.size + 1 < wx.heap.size := by omega
            have hz2 : b1 < wx.heap.size := by omega
            obtain ⟨hc, hf⟩ := bcell hb
            have HBX := Lib.hid hb
            clear hb hz
            simp [depsS, Region.binds, updS, Stay.is, Stay.any] at hd
            go_simp
            first | exact ⟨Below.refl _ _, rfl⟩ | rfl
          apply rel_is
          · intro u wx hb hd
            have hz := hb.size
            (try simp only [World.size_alloc, World.size_setCell] at hz)
            have hz0 : w.heap.size < wx.heap.size := by omega
            have hz1 : w.heap.size + 1 < wx.heap.size := by omega
            have hz2 : b1 < wx.heap.size := by omega
            obtain ⟨hc, hf⟩ := bcell hb
            have HBX := Lib.hid hb
            clear hb hz
            simp [depsS, Region.binds, updS, Stay.is, Stay.any] at hd
            go_simp
            first | exact ⟨Below.refl _ _, rfl⟩ | rfl
          apply rel_is
          · intro u wx hb hd
            have hz := hb.size
            (try simp only [World.size_alloc, World.size_setCell] at hz)
            have hz0 : w.heap.size < wx.heap.size := by omega
            have hz1 : w.heap.size + 1 < wx.heap.size := by omega
            have hz2 : b1 < wx.heap.size := by omega
            obtain ⟨hc, hf⟩ := bcell hb
            have HBX := Lib.hid hb
            clear hb hz
            simp [depsS, Region.binds, updS, Stay.is, Stay.any] at hd
            go_simp
            first | exact ⟨Below.refl _ _, rfl⟩ | rfl
          apply rel_is
          · intro u wx hb hd
            have hz := hb.size
            (try simp only [World.size_alloc, World.size_setCell] at hz)
            have hz0 : w.heap.size < wx.heap.size := by omega
            have hz1 : w.heap.size + 1 < wx.heap.size := by omega
            have hz2 : b1 < wx.heap.size := by omega
            obtain ⟨hc, hf⟩ := bcell hb
            have HBX := Lib.hid hb
            clear hb hz
            simp [depsS, Region.binds, updS, Stay.is, Stay.any] at hd
            go_simp
            first | exact ⟨Below.refl _ _, rfl⟩ | rfl
          apply rel_is
          · intro u wx hb hd
            have hz := hb.size
            (try simp only [World.size_alloc, World.size_setCell] at hz)
            have hz0 : w.heap.size < wx.heap.size := by omega
            have hz1 : w.heap.size + 1 < wx.heap.size := by omega
            have hz2 : b1 < wx.heap.size := by omega
            obtain ⟨hc, hf⟩ := bcell hb
            have HBX := Lib.hid hb
            clear hb hz
            simp [depsS, Region.binds, updS, Stay.is, Stay.any] at hd
            go_simp
            first | exact ⟨Below.refl _ _, rfl⟩ | rfl
          apply rel_is
          · intro u wx hb hd
            have hz := hb.size
            (try simp only [World.size_alloc, World.size_setCell] at hz)
            have hz0 : w.heap.size < wx.heap.size := by omega
            have hz1 : w.heap.size + 1 < wx.heap.size := by omega
            have hz2 : b1 < wx.heap.size := by omega
            obtain ⟨hc, hf⟩ := bcell hb
            have HBX := Lib.hid hb
            clear hb hz
            simp [depsS, Region.binds, updS, Stay.is, Stay.any] at hd
            go_simp
            first | exact ⟨Below.refl _ _, rfl⟩ | rfl
          apply rel_is
          · intro u wx hb hd
            have hz := hb.size
            (try simp only [World.size_alloc, World.size_setCell] at hz)
            have hz0 : w.heap.size < wx.heap.size := by omega
            have hz1 : w.heap.size + 1 < wx.heap.size := by omega
            have hz2 : b1 < wx.heap.size := by omega
            obtain ⟨hc, hf⟩ := bcell hb
            have HBX := Lib.hid hb
            clear hb hz
            simp [depsS, Region.binds, updS, Stay.is, Stay.any] at hd
            go_simp
            first | exact ⟨Below.refl _ _, rfl⟩ | rfl
          apply rel_is
          · intro u wx hb hd
            have hz := hb.size
            (try simp only [World.size_alloc, World.size_setCell] at hz)
            have hz0 : w.heap.size < wx.heap.size := by omega
            have hz1 : w.heap.size + 1 < wx.heap.size := by omega
            have hz2 : b1 < wx.heap.size := by omega
            obtain ⟨hc, hf⟩ := bcell hb
            have HBX := Lib.hid hb
            clear hb hz
            simp [depsS, Region.binds, updS, Stay.is, Stay.any] at hd
            go_simp
            first | exact ⟨Below.refl _ _, rfl⟩ | rfl
          apply rel_is
          · intro u wx hb hd
            have hz := hb.size
            (try simp only [World.size_alloc, World.size_setCell] at hz)
            have hz0 : w.heap.size < wx.heap.size := by omega
            have hz1 : w.heap.size + 1 < wx.heap.size := by omega
            have hz2 : b1 < wx.heap.size := by omega
            obtain ⟨hc, hf⟩ := bcell hb
            have HBX := Lib.hid hb
            clear hb hz
            simp [depsS, Region.binds, updS, Stay.is, Stay.any] at hd
            go_simp
            first | exact ⟨Below.refl _ _, rfl⟩ | rfl
          apply rel_is
          · intro u wx hb hd
            have hz := hb.size
            (try simp only [World.size_alloc, World.size_setCell] at hz)
            have hz0 : w.heap.size < wx.heap.size := by omega
            have hz1 : w.heap.size + 1 < wx.heap.size := by omega
            have hz2 : b1 < wx.heap.size := by omega
            obtain ⟨hc, hf⟩ := bcell hb
            have HBX := Lib.hid hb
            clear hb hz
            simp [depsS, Region.binds, updS, Stay.is, Stay.any] at hd
            go_simp
            first | exact ⟨Below.refl _ _, rfl⟩ | rfl
          apply rel_is
          · intro u wx hb hd
            have hz := hb.size
            (try simp only [World.size_alloc, World.size_setCell] at hz)
            have hz0 : w.heap.size < wx.heap.size := by omega
            have hz1 : w.heap.size + 1 < wx.heap.size := by omega
            have hz2 : b1 < wx.heap.size := by omega
            obtain ⟨hc, hf⟩ := bcell hb
            have HBX := Lib.hid hb
            clear hb hz
            simp [depsS, Region.binds, updS, Stay.is, Stay.any] at hd
            go_simp
            first | exact ⟨Below.refl _ _, rfl⟩ | rfl
          apply rel_is
          · intro u wx hb hd
            have hz := hb.size
            (try simp only [World.size_alloc, World.size_setCell] at hz)
            have hz0 : w.heap.size < wx.heap.size := by omega
            have hz1 : w.heap.size + 1 < wx.heap.size := by omega
            have hz2 : b1 < wx.heap.size := by omega
            obtain ⟨hc, hf⟩ := bcell hb
            have HBX := Lib.hid hb
            clear hb hz
            simp [depsS, Region.binds, updS, Stay.is, Stay.any] at hd
            go_simp
            first | exact ⟨Below.refl _ _, rfl⟩ | rfl
          apply rel_is
          · intro u wx hb hd
            have hz := hb.size
            (try simp only [World.size_alloc, World.size_setCell] at hz)
            have hz0 : w.heap.size < wx.heap.size := by omega
            have hz1 : w.heap.size + 1 < wx.heap.size := by omega
            have hz2 : b1 < wx.heap.size := by omega
            obtain ⟨hc, hf⟩ := bcell hb
            have HBX := Lib.hid hb
            clear hb hz
            simp [depsS, Region.binds, updS, Stay.is, Stay.any] at hd
            go_simp
            first | exact ⟨Below.refl _ _, rfl⟩ | rfl
          apply rel_is
          · intro u wx hb hd
            have hz := hb.size
            (try simp only [World.size_alloc, World.size_setCell] at hz)
            have hz0 : w.heap.size < wx.heap.size := by omega
            have hz1 : w.heap.size + 1 < wx.heap.size := by omega
            have hz2 : b1 < wx.heap.size := by omega
            obtain ⟨hc, hf⟩ := bcell hb
            have HBX := Lib.hid hb
            clear hb hz
            simp [depsS, Region.binds, updS, Stay.is, Stay.any] at hd
            go_simp
            first | exact ⟨Below.refl _ _, rfl⟩ | rfl
          apply rel_is
          · intro u wx hb hd
            have hz := hb.size
            (try simp only [World.size_alloc, World.size_setCell] at hz)
            have hz0 : w.heap.size < wx.heap.size := by omega
            have hz1 : w.heap.size + 1 < wx.heap.size := by omega
            have hz2 : b1 < wx.heap.size := by omega
            obtain ⟨hc, hf⟩ := bcell hb
            have HBX := Lib.hid hb
            clear hb hz
            simp [depsS, Region.binds, updS, Stay.is, Stay.any] at hd
            go_simp
            first | exact ⟨Below.refl _ _, rfl⟩ | rfl
          apply rel_is
          · intro u wx hb hd
            have hz := hb.size
            (try simp only [World.size_alloc, World.size_setCell] at hz)
            have hz0 : w.heap.size < wx.heap.size := by omega
            have hz1 : w.heap.size + 1 < wx.heap.size := by omega
            have hz2 : b1 < wx.heap.size := by omega
            obtain ⟨hc, hf⟩ := bcell hb
            have HBX := Lib.hid hb
            clear hb hz
            simp [depsS, Region.binds, updS, Stay.is, Stay.any] at hd
            go_simp
            first | exact ⟨Below.refl _ _, rfl⟩ | rfl
          apply rel_is
          · intro u wx hb hd
            have hz := hb.size
            (try simp only [World.size_alloc, World.size_setCell] at hz)
            have hz0 : w.heap.size < wx.heap.size := by omega
            have hz1 : w.heap.size + 1 < wx.heap.size := by omega
            have hz2 : b1 < wx.heap.size := by omega
            obtain ⟨hc, hf⟩ := bcell hb
            have HBX := Lib.hid hb
            clear hb hz
            simp [depsS, Region.binds, updS, Stay.is, Stay.any] at hd
            go_simp
            first | exact ⟨Below.refl _ _, rfl⟩ | rfl
          apply rel_is
          · intro u wx hb hd
            have hz := hb.size
            (try simp only [World.size_alloc, World.size_setCell] at hz)
            have hz0 : w.heap.size < wx.heap.size := by omega
            have hz1 : w.heap.size + 1 < wx.heap.size := by omega
            have hz2 : b1 < wx.heap.size := by omega
            obtain ⟨hc, hf⟩ := bcell hb
            have HBX := Lib.hid hb
            clear hb hz
            simp [depsS, Region.binds, updS, Stay.is, Stay.any] at hd
            go_simp
            first | exact ⟨Below.refl _ _, rfl⟩ | rfl
          intro u w6 hb hE
          have e0 : u 0 = _ := endS_get hE 0 (by decide)
          have e1 : u 1 = _ := endS_get hE 1 (by decide)
          have e2 : u 2 = _ := endS_get hE 2 (by decide)
          have e3 : u 3 = _ := endS_get hE 3 (by decide)
          have e4 : u 4 = _ := endS_get hE 4 (by decide)
          have e5 : u 5 = _ := endS_get hE 5 (by decide)
          have e6 : u 6 = _ := endS_get hE 6 (by decide)
          have e7 : u 7 = _ := endS_get hE 7 (by decide)
          have e8 : u 8 = _ := endS_get hE 8 (by decide)
          have e9 : u 9 = _ := endS_get hE 9 (by decide)
          have e10 : u 10 = _ := endS_get hE 10 (by decide)
          have e11 : u 11 = _ := endS_get hE 11 (by decide)
          have e12 : u 12 = _ := endS_get hE 12 (by decide)
          have e13 : u 13 = _ := endS_get hE 13 (by decide)
          have e14 : u 14 = _ := endS_get hE 14 (by decide)
          have e15 : u 15 = _ := endS_get hE 15 (by decide)
          have e16 : u 16 = _ := endS_get hE 16 (by decide)
          have e17 : u 17 = _ := endS_get hE 17 (by decide)
          simp only [List.drop_succ_cons, List.drop_zero, List.take_succ_cons, List.take_zero, fillL, Act.put, List.setIfInBounds_toArray, List.set_cons_zero, List.set_cons_succ, e0, e1, e2, e3, e4, e5, e6, e7, e8, e9, e10, e11, e12, e13, e14, e15, e16, e17]
          clear e0 e1 e2 e3 e4 e5 e6 e7 e8 e9 e10 e11 e12 e13 e14 e15 e16 e17 hE
          have HBw6 := Lib.hid (below_step (w := w5) (by first | assumption | go_grown) hb)
          have HBXw6 := Lib.hid hb
          have hzw6 := hb.size
          (try simp only [World.size_alloc, World.size_setCell] at hzw6)
          have hzw60 : w.heap.size < w6.heap.size := by omega
          have hzw61 : w.heap.size + 1 < w6.heap.size := by omega
          have hzw62 : b1 < w6.heap.size := by omega
          obtain ⟨hcw6, hfw6⟩ := bcell hb
          clear hb hzw6
          have HBN : Hid (Below _ _ w6) := below_step HBXa.out (below_step HBXw5.out HBXw6.out)
          go_wp2
          go_roundw
          case rel => exact ⟨0 + 1, by omega, by go_num, hq2, HBN.out⟩
          case measure => simp [intOf]; omega
        · have hj1 : j - 1 < ns := by omega
          have hcl2 := hcl9.out (j - 1) hj1
          have c0w : w5.cell? ⟨b1, f1 + j * 6, none⟩ = some (.string (es j).id) := (HBXw5.out.cell (p := ⟨_, _, none⟩) hbr).trans c0
          have d0 : w5.cell? ⟨b1, f1 + (j - 1) * 6, none⟩ = some (.string (es (j - 1)).id) := (HW5.out.cell (p := ⟨_, _, none⟩) hbl1).trans hcl2.1
          have d1 : w5.cell? ⟨b1, f1 + (j - 1) * 6 + 1, none⟩ = some (.string (es (j - 1)).grade) := (HW5.out.cell (p := ⟨_, _, none⟩) hbl1).trans hcl2.2.1
          have d2 : w5.cell? ⟨b1, f1 + (j - 1) * 6 + 2, none⟩ = some (.int .i64 (es (j - 1)).thick) := (HW5.out.cell (p := ⟨_, _, none⟩) hbl1).trans hcl2.2.2.1
          have d3 : w5.cell? ⟨b1, f1 + (j - 1) * 6 + 3, none⟩ = some (.int .i64 (es (j - 1)).len) := (HW5.out.cell (p := ⟨_, _, none⟩) hbl1).trans hcl2.2.2.2.1
          have d4 : w5.cell? ⟨b1, f1 + (j - 1) * 6 + 4, none⟩ = some (.int .i64 (es (j - 1)).wid) := (HW5.out.cell (p := ⟨_, _, none⟩) hbl1).trans hcl2.2.2.2.2.1
          have d5 : w5.cell? ⟨b1, f1 + (j - 1) * 6 + 5, none⟩ = some (.string (es (j - 1)).heat) := (HW5.out.cell (p := ⟨_, _, none⟩) hbl1).trans hcl2.2.2.2.2.2
          have k0 : decide ((0 : Int) < (j : Int)) = true := decide_eq_true (by omega)
          have k1' : IntKind.i64.wrap ((j : Int) - 1) = (j : Int) - 1 := IntWalk.i64_in _ (by omega)
          have k2' : ((j : Int) - 1).toNat = j - 1 := by omega
          have k3 : (0 : Int) ≤ (j : Int) - 1 := by omega
          have k4 : (j : Int) - 1 < (ns : Int) := by omega
          have k5 : (1 : Int) ≤ (j : Int) := by omega
          have k6 : 1 ≤ j := by omega
          obtain ⟨LE, hLE⟩ : ∃ LE, strLe (es j).id (es (j - 1)).id = LE := ⟨_, rfl⟩
          have HLE := Lib.hid hLE
          have hle : (Op.bytesLess (es j).id.toList (es (j - 1)).id.toList || (es j).id.toList == (es (j - 1)).id.toList) = LE := hLE
          have hj00 : 0 < j := by omega
          clear hLE hcl2 hj0
          go_wp2_with fail
          refine wp_region_relw 18 (by kernel_rfl) (by kernel_rfl) (by kernel_rfl) ?_
          simp only [List.take_succ_cons, List.take_zero, fillL, Act.put, List.setIfInBounds_toArray, List.set_cons_zero, List.set_cons_succ]
          apply rel_is
          · intro u wx hb hd
            have hz := hb.size
            (try simp only [World.size_alloc, World.size_setCell] at hz)
            have hz0 : w.heap.size < wx.heap.size := by omega
            have hz1 : w.heap.size + 1 < wx.heap.size := by omega
            have hz2 : b1 < wx.heap.size := by omega
            obtain ⟨hc, hf⟩ := bcell hb
            have HBX := Lib.hid hb
            clear hb hz
            simp [depsS, Region.binds, updS, Stay.is, Stay.any] at hd
            go_simp
            first | exact ⟨Below.refl _ _, rfl⟩ | rfl
          apply rel_is
          · intro u wx hb hd
            have hz := hb.size
            (try simp only [World.size_alloc, World.size_setCell] at hz)
            have hz0 : w.heap.size < wx.heap.size := by omega
            have hz1 : w.heap.size + 1 < wx.heap.size := by omega
            have hz2 : b1 < wx.heap.size := by omega
            obtain ⟨hc, hf⟩ := bcell hb
            have HBX := Lib.hid hb
            clear hb hz
            simp [depsS, Region.binds, updS, Stay.is, Stay.any] at hd
            go_simp
            first | exact ⟨Below.refl _ _, rfl⟩ | rfl
          apply rel_is
          · intro u wx hb hd
            have hz := hb.size
            (try simp only [World.size_alloc, World.size_setCell] at hz)
            have hz0 : w.heap.size < wx.heap.size := by omega
            have hz1 : w.heap.size + 1 < wx.heap.size := by omega
            have hz2 : b1 < wx.heap.size := by omega
            obtain ⟨hc, hf⟩ := bcell hb
            have HBX := Lib.hid hb
            clear hb hz
            simp [depsS, Region.binds, updS, Stay.is, Stay.any] at hd
            go_simp
            first | exact ⟨Below.refl _ _, rfl⟩ | rfl
          apply rel_is
          · intro u wx hb hd
            have hz := hb.size
            (try simp only [World.size_alloc, World.size_setCell] at hz)
            have hz0 : w.heap.size < wx.heap.size := by omega
            have hz1 : w.heap.size + 1 < wx.heap.size := by omega
            have hz2 : b1 < wx.heap.size := by omega
            obtain ⟨hc, hf⟩ := bcell hb
            have HBX := Lib.hid hb
            clear hb hz
            simp [depsS, Region.binds, updS, Stay.is, Stay.any] at hd
            go_simp
            first | exact ⟨Below.refl _ _, rfl⟩ | rfl
          apply rel_is
          · intro u wx hb hd
            have hz := hb.size
            (try simp only [World.size_alloc, World.size_setCell] at hz)
            have hz0 : w.heap.size < wx.heap.size := by omega
            have hz1 : w.heap.size + 1 < wx.heap.size := by omega
            have hz2 : b1 < wx.heap.size := by omega
            obtain ⟨hc, hf⟩ := bcell hb
            have HBX := Lib.hid hb
            clear hb hz
            simp [depsS, Region.binds, updS, Stay.is, Stay.any] at hd
            go_simp
            first | exact ⟨Below.refl _ _, rfl⟩ | rfl
          apply rel_is
          · intro u wx hb hd
            have hz := hb.size
            (try simp only [World.size_alloc, World.size_setCell] at hz)
            have hz0 : w.heap.size < wx.heap.size := by omega
            have hz1 : w.heap.size + 1 < wx.heap.size := by omega
            have hz2 : b1 < wx.heap.size := by omega
            obtain ⟨hc, hf⟩ := bcell hb
            have HBX := Lib.hid hb
            clear hb hz
            simp [depsS, Region.binds, updS, Stay.is, Stay.any] at hd
            go_simp
            first | exact ⟨Below.refl _ _, rfl⟩ | rfl
          apply rel_is
          · intro u wx hb hd
            have hz := hb.size
            (try simp only [World.size_alloc, World.size_setCell] at hz)
            have hz0 : w.heap.size < wx.heap.size := by omega
            have hz1 : w.heap.size + 1 < wx.heap.size := by omega
            have hz2 : b1 < wx.heap.size := by omega
            obtain ⟨hc, hf⟩ := bcell hb
            have HBX := Lib.hid hb
            clear hb hz
            simp [depsS, Region.binds, updS, Stay.is, Stay.any] at hd
            go_simp
            first | exact ⟨Below.refl _ _, rfl⟩ | rfl
          apply rel_is
          · intro u wx hb hd
            have hz := hb.size
            (try simp only [World.size_alloc, World.size_setCell] at hz)
            have hz0 : w.heap.size < wx.heap.size := by omega
            have hz1 : w.heap.size + 1 < wx.heap.size := by omega
            have hz2 : b1 < wx.heap.size := by omega
            obtain ⟨hc, hf⟩ := bcell hb
            have HBX := Lib.hid hb
            clear hb hz
            simp [depsS, Region.binds, updS, Stay.is, Stay.any] at hd
            go_simp
            first | exact ⟨Below.refl _ _, rfl⟩ | rfl
          apply rel_is
          · intro u wx hb hd
            have hz := hb.size
            (try simp only [World.size_alloc, World.size_setCell] at hz)
            have hz0 : w.heap.size < wx.heap.size := by omega
            have hz1 : w.heap.size + 1 < wx.heap.size := by omega
            have hz2 : b1 < wx.heap.size := by omega
            obtain ⟨hc, hf⟩ := bcell hb
            have HBX := Lib.hid hb
            clear hb hz
            simp [depsS, Region.binds, updS, Stay.is, Stay.any] at hd
            go_simp
            first | exact ⟨Below.refl _ _, rfl⟩ | rfl
          apply rel_is
          · intro u wx hb hd
            have hz := hb.size
            (try simp only [World.size_alloc, World.size_setCell] at hz)
            have hz0 : w.heap.size < wx.heap.size := by omega
            have hz1 : w.heap.size + 1 < wx.heap.size := by omega
            have hz2 : b1 < wx.heap.size := by omega
            obtain ⟨hc, hf⟩ := bcell hb
            have HBX := Lib.hid hb
            clear hb hz
            simp [depsS, Region.binds, updS, Stay.is, Stay.any] at hd
            go_simp
            first | exact ⟨Below.refl _ _, rfl⟩ | rfl
          apply rel_is
          · intro u wx hb hd
            have hz := hb.size
            (try simp only [World.size_alloc, World.size_setCell] at hz)
            have hz0 : w.heap.size < wx.heap.size := by omega
            have hz1 : w.heap.size + 1 < wx.heap.size := by omega
            have hz2 : b1 < wx.heap.size := by omega
            obtain ⟨hc, hf⟩ := bcell hb
            have HBX := Lib.hid hb
            clear hb hz
            simp [depsS, Region.binds, updS, Stay.is, Stay.any] at hd
            go_simp
            first | exact ⟨Below.refl _ _, rfl⟩ | rfl
          apply rel_is
          · intro u wx hb hd
            have hz := hb.size
            (try simp only [World.size_alloc, World.size_setCell] at hz)
            have hz0 : w.heap.size < wx.heap.size := by omega
            have hz1 : w.heap.size + 1 < wx.heap.size := by omega
            have hz2 : b1 < wx.heap.size := by omega
            obtain ⟨hc, hf⟩ := bcell hb
            have HBX := Lib.hid hb
            clear hb hz
            simp [depsS, Region.binds, updS, Stay.is, Stay.any] at hd
            go_simp
            first | exact ⟨Below.refl _ _, rfl⟩ | rfl
          apply rel_is
          · intro u wx hb hd
            have hz := hb.size
            (try simp only [World.size_alloc, World.size_setCell] at hz)
            have hz0 : w.heap.size < wx.heap.size := by omega
            have hz1 : w.heap.size + 1 < wx.heap.size := by omega
            have hz2 : b1 < wx.heap.size := by omega
            obtain ⟨hc, hf⟩ := bcell hb
            have HBX := Lib.hid hb
            clear hb hz
            simp [depsS, Region.binds, updS, Stay.is, Stay.any] at hd
            go_simp
            first | exact ⟨Below.refl _ _, rfl⟩ | rfl
          apply rel_is
          · intro u wx hb hd
            have hz := hb.size
            (try simp only [World.size_alloc, World.size_setCell] at hz)
            have hz0 : w.heap.size < wx.heap.size := by omega
            have hz1 : w.heap.size + 1 < wx.heap.size := by omega
            have hz2 : b1 < wx.heap.size := by omega
            obtain ⟨hc, hf⟩ := bcell hb
            have HBX := Lib.hid hb
            clear hb hz
            simp [depsS, Region.binds, updS, Stay.is, Stay.any] at hd
            go_simp
            first | exact ⟨Below.refl _ _, rfl⟩ | rfl
          apply rel_is
          · intro u wx hb hd
            have hz := hb.size
            (try simp only [World.size_alloc, World.size_setCell] at hz)
            have hz0 : w.heap.size < wx.heap.size := by omega
            have hz1 : w.heap.size + 1 < wx.heap.size := by omega
            have hz2 : b1 < wx.heap.size := by omega
            obtain ⟨hc, hf⟩ := bcell hb
            have HBX := Lib.hid hb
            clear hb hz
            simp [depsS, Region.binds, updS, Stay.is, Stay.any] at hd
            go_simp
            first | exact ⟨Below.refl _ _, rfl⟩ | rfl
          apply rel_is
          · intro u wx hb hd
            have hz := hb.size
            (try simp only [World.size_alloc, World.size_setCell] at hz)
            have hz0 : w.heap.size < wx.heap.size := by omega
            have hz1 : w.heap.size + 1 < wx.heap.size := by omega
            have hz2 : b1 < wx.heap.size := by omega
            obtain ⟨hc, hf⟩ := bcell hb
            have HBX := Lib.hid hb
            clear hb hz
            simp [depsS, Region.binds, updS, Stay.is, Stay.any] at hd
            go_simp
            first | exact ⟨Below.refl _ _, rfl⟩ | rfl
          apply rel_is
          · intro u wx hb hd
            have hz := hb.size
            (try simp only [World.size_alloc, World.size_setCell] at hz)
            have hz0 : w.heap.size < wx.heap.size := by omega
            have hz1 : w.heap.size + 1 < wx.heap.size := by omega
            have hz2 : b1 < wx.heap.size := by omega
            obtain ⟨hc, hf⟩ := bcell hb
            have HBX := Lib.hid hb
            clear hb hz
            simp [depsS, Region.binds, updS, Stay.is, Stay.any] at hd
            go_simp
            first | exact ⟨Below.refl _ _, rfl⟩ | rfl
          apply rel_is
          · intro u wx hb hd
            have hz := hb.size
            (try simp only [World.size_alloc, World.size_setCell] at hz)
            have hz0 : w.heap.size < wx.heap.size := by omega
            have hz1 : w.heap.size + 1 < wx.heap.size := by omega
            have hz2 : b1 < wx.heap.size := by omega
            obtain ⟨hc, hf⟩ := bcell hb
            have HBX := Lib.hid hb
            clear hb hz
            simp [depsS, Region.binds, updS, Stay.is, Stay.any] at hd
            go_simp
            first | exact ⟨Below.refl _ _, rfl⟩ | rfl
          intro u w6 hb hE
          have e0 : u 0 = _ := endS_get hE 0 (by decide)
          have e1 : u 1 = _ := endS_get hE 1 (by decide)
          have e2 : u 2 = _ := endS_get hE 2 (by decide)
          have e3 : u 3 = _ := endS_get hE 3 (by decide)
          have e4 : u 4 = _ := endS_get hE 4 (by decide)
          have e5 : u 5 = _ := endS_get hE 5 (by decide)
          have e6 : u 6 = _ := endS_get hE 6 (by decide)
          have e7 : u 7 = _ := endS_get hE 7 (by decide)
          have e8 : u 8 = _ := endS_get hE 8 (by decide)
          have e9 : u 9 = _ := endS_get hE 9 (by decide)
          have e10 : u 10 = _ := endS_get hE 10 (by decide)
          have e11 : u 11 = _ := endS_get hE 11 (by decide)
          have e12 : u 12 = _ := endS_get hE 12 (by decide)
          have e13 : u 13 = _ := endS_get hE 13 (by decide)
          have e14 : u 14 = _ := endS_get hE 14 (by decide)
          have e15 : u 15 = _ := endS_get hE 15 (by decide)
          have e16 : u 16 = _ := endS_get hE 16 (by decide)
          have e17 : u 17 = _ := endS_get hE 17 (by decide)
          simp only [List.drop_succ_cons, List.drop_zero, List.take_succ_cons, List.take_zero, fillL, Act.put, List.setIfInBounds_toArray, List.set_cons_zero, List.set_cons_succ, e0, e1, e2, e3, e4, e5, e6, e7, e8, e9, e10, e11, e12, e13, e14, e15, e16, e17]
          clear e0 e1 e2 e3 e4 e5 e6 e7 e8 e9 e10 e11 e12 e13 e14 e15 e16 e17 hE
          have HBw6 := Lib.hid (below_step (w := w5) (by first | assumption | go_grown) hb)
          have HBXw6 := Lib.hid hb
          have hzw6 := hb.size
          (try simp only [World.size_alloc, World.size_setCell] at hzw6)
          have hzw60 : w.heap.size < w6.heap.size := by omega
          have hzw61 : w.heap.size + 1 < w6.heap.size := by omega
          have hzw62 : b1 < w6.heap.size := by omega
          obtain ⟨hcw6, hfw6⟩ := bcell hb
          clear hb hzw6
          have HBN : Hid (Below _ _ w6) := below_step HBXa.out (below_step HBXw5.out HBXw6.out)
          have HBM : Hid (Below w.heap.size w w6) := below_step HW5.out HBXw6.out
          cases LE with
          | true =>
            have hR0 : E1 = 11 := by
              have hlt9 : ltB (es (j - 1)).id (es j).id = false := by
                have := HLE.out
                rw [strLe_not] at this
                simpa using this
              have h9 : chkAt (sheetE m) Sh.id es j = 11 := by unfold chkAt; rw [HEE.out, if_neg (by decide), if_pos ⟨hj00, hlt9⟩]
              rw [← hq.out, chkFrom_bad hlt (by rw [h9]; decide), h9]
            have HR0 : Hid (R = 11) := HRT1.out _ hR0 (by decide)
            clear hR0
            go_wp2
            go_returns
            rw [HR0.out]
            exact ⟨rfl, HBM.out⟩
          | false =>
            have hq2 : Hid (chkFrom (sheetE m) Sh.id es (ns - (j + 1)) (j + 1) = E1) := by
              show _ = _
              have hlt9 : ltB (es (j - 1)).id (es j).id = true := by
                have := HLE.out
                rw [strLe_not] at this
                simpa using this
              rw [← chkFrom_good hlt (by unfold chkAt; rw [HEE.out, if_neg (by decide), if_neg (by rw [hlt9]; simp)])]
              exact hq.out
            go_wp2
            go_roundw
            case rel => exact ⟨j + 1, by omega, by go_num, hq2, HBN.out⟩
            case measure => simp [intOf]; omega
      · have hR0 : E1 = EE := by
          have h9 : chkAt (sheetE m) Sh.id es j = EE := by unfold chkAt; rw [HEE.out, if_pos hE]
          rw [← hq.out, chkFrom_bad hlt (by rw [h9]; exact hE), h9]
        have HR0 : Hid (R = EE) := HRT1.out _ hR0 hE
        have k0 : (EE != 0) = true := by simpa using hE
        clear hR0 hE
        go_wp2
        go_returns
        rw [HR0.out]
        exact ⟨rfl, HW5.out⟩
    · have hR0 : E1 = 0 := by rw [← hq.out, chkFrom_end hj hlt]
      have HRT2 : Hid (∀ X, E2 = X → X ≠ 0 → R = X) := fun X h1 h2 => by rw [← HR.out, hR0, if_neg (by decide), h1]
      have HRT3 : Hid (E2 = 0 → R = 0) := fun h1 => by rw [← HR.out, hR0, if_neg (by decide), h1]
      clear hR0 hq
      go_wp2
      obtain ⟨wp, hwp⟩ : ∃ wp, wp = wr := ⟨_, rfl⟩
      subst hwp
      go_loopw [7, 8] (fun i _ wr => ∃ j : Nat, j ≤ nb ∧ i = .int .i64 j ∧ Hid (chkFrom (barE m) Br.id eb (nb - j) j = E2) ∧ Below wp.heap.size wp wr) (fun i _ _ => nb - (intOf i).toNat)
      case atStart => exact ⟨0, by omega, rfl, HE2.out, Below.refl _ _⟩
      case round =>
        obtain ⟨j, hj, rfl, hq, hB⟩ := hrel
        have HBrb : Hid (Below w.heap.size w wr) := by
          show Below _ _ _
          exact below_step (w := w) HBra.out hB
        have HBXb := Lib.hid hB
        have hs0 := hB.size
        (try simp only [World.size_alloc, World.size_setCell] at hs0)
        have z0b : w.heap.size < wr.heap.size := by omega
        have z1b : w.heap.size + 1 < wr.heap.size := by omega
        have s0 : wr.cell? ⟨w.heap.size, 0, none⟩ = some (.slice oa ns ca) := (hB.cell (p := ⟨_, _, none⟩) z0a).trans s0
        have s1 : wr.cell? ⟨w.heap.size, 1, none⟩ = some (.slice ob nb cb) := (hB.cell (p := ⟨_, _, none⟩) z0a).trans s1
        have m0 : wr.cell? ⟨w.heap.size + 1, 0, none⟩ = some (.slice om m.ng cm) := (hB.cell (p := ⟨_, _, none⟩) z1a).trans m0
        have m1 : wr.cell? ⟨w.heap.size + 1, 1, none⟩ = some (.slice ot m.ns ct) := (hB.cell (p := ⟨_, _, none⟩) z1a).trans m1
        clear hB hs0
        by_cases hlt : j < nb
        · obtain ⟨b1, f1, rfl, hbl1, hcl1⟩ := HELB.out j hlt
          have c0 : wr.cell? ⟨b1, f1 + j * 5, none⟩ = some (.string (eb j).id) := (HBrb.out.cell (p := ⟨_, _, none⟩) hbl1).trans (hcl1 j hlt).1
          have c1 : wr.cell? ⟨b1, f1 + j * 5 + 1, none⟩ = some (.string (eb j).sect) := (HBrb.out.cell (p := ⟨_, _, none⟩) hbl1).trans (hcl1 j hlt).2.1
          have c2 : wr.cell? ⟨b1, f1 + j * 5 + 2, none⟩ = some (.string (eb j).grade) := (HBrb.out.cell (p := ⟨_, _, none⟩) hbl1).trans (hcl1 j hlt).2.2.1
          have c3 : wr.cell? ⟨b1, f1 + j * 5 + 3, none⟩ = some (.int .i64 (eb j).len) := (HBrb.out.cell (p := ⟨_, _, none⟩) hbl1).trans (hcl1 j hlt).2.2.2.1
          have c4 : wr.cell? ⟨b1, f1 + j * 5 + 4, none⟩ = some (.string (eb j).heat) := (HBrb.out.cell (p := ⟨_, _, none⟩) hbl1).trans (hcl1 j hlt).2.2.2.2
          have hbr : b1 < wr.heap.size := by omega
          obtain ⟨EE, hEE⟩ : ∃ EE, barE m (eb j) = EE := ⟨_, rfl⟩
          have HEE := Lib.hid hEE
          have hcl9 := Lib.hid hcl1
          clear hEE hcl1
          go_wp2_with fail
          refine wp_region_relw 8 (by kernel_rfl) (by kernel_rfl) (by kernel_rfl) ?_
          simp only [List.take_succ_cons, List.take_zero, fillL, Act.put, List.setIfInBounds_toArray, List.set_cons_zero, List.set_cons_succ]
          apply rel_is
          · intro u wx hb hd
            have hz := hb.size
            (try simp only [World.size_alloc, World.size_setCell] at hz)
            have hz0 : w.heap.size < wx.heap.size := by omega
            have hz1 : w.heap.size + 1 < wx.heap.size := by omega
            have hz2 : b1 < wx.heap.size := by omega
            obtain ⟨hc, hf⟩ := bcell hb
            have HBX := Lib.hid hb
            clear hb hz
            simp [depsS, Region.binds, updS, Stay.is, Stay.any] at hd
            go_simp
            first | exact ⟨Below.refl _ _, rfl⟩ | rfl
          apply rel_is
          · intro u wx hb hd
            have hz := hb.size
            (try simp only [World.size_alloc, World.size_setCell] at hz)
            have hz0 : w.heap.size < wx.heap.size := by omega
            have hz1 : w.heap.size + 1 < wx.heap.size := by omega
            have hz2 : b1 < wx.heap.size := by omega
            obtain ⟨hc, hf⟩ := bcell hb
            have HBX := Lib.hid hb
            clear hb hz
            simp [depsS, Region.binds, updS, Stay.is, Stay.any] at hd
            go_simp
            first | exact ⟨Below.refl _ _, rfl⟩ | rfl
          apply rel_is
          · intro u wx hb hd
            have hz := hb.size
            (try simp only [World.size_alloc, World.size_setCell] at hz)
            have hz0 : w.heap.size < wx.heap.size := by omega
            have hz1 : w.heap.size + 1 < wx.heap.size := by omega
            have hz2 : b1 < wx.heap.size := by omega
            obtain ⟨hc, hf⟩ := bcell hb
            have HBX := Lib.hid hb
            clear hb hz
            simp [depsS, Region.binds, updS, Stay.is, Stay.any] at hd
            go_simp
            first | exact ⟨Below.refl _ _, rfl⟩ | rfl
          apply rel_is
          · intro u wx hb hd
            have hz := hb.size
            (try simp only [World.size_alloc, World.size_setCell] at hz)
            have hz0 : w.heap.size < wx.heap.size := by omega
            have hz1 : w.heap.size + 1 < wx.heap.size := by omega
            have hz2 : b1 < wx.heap.size := by omega
            obtain ⟨hc, hf⟩ := bcell hb
            have HBX := Lib.hid hb
            clear hb hz
            simp [depsS, Region.binds, updS, Stay.is, Stay.any] at hd
            go_simp
            first | exact ⟨Below.refl _ _, rfl⟩ | rfl
          apply rel_is
          · intro u wx hb hd
            have hz := hb.size
            (try simp only [World.size_alloc, World.size_setCell] at hz)
            have hz0 : w.heap.size < wx.heap.size := by omega
            have hz1 : w.heap.size + 1 < wx.heap.size := by omega
            have hz2 : b1 < wx.heap.size := by omega
            obtain ⟨hc, hf⟩ := bcell hb
            have HBX := Lib.hid hb
            clear hb hz
            simp [depsS, Region.binds, updS, Stay.is, Stay.any] at hd
            go_simp
            first | exact ⟨Below.refl _ _, rfl⟩ | rfl
          apply rel_is
          · intro u wx hb hd
            have hz := hb.size
            (try simp only [World.size_alloc, World.size_setCell] at hz)
            have hz0 : w.heap.size < wx.heap.size := by omega
            have hz1 : w.heap.size + 1 < wx.heap.size := by omega
            have hz2 : b1 < wx.heap.size := by omega
            obtain ⟨hc, hf⟩ := bcell hb
            have HBX := Lib.hid hb
            clear hb hz
            simp [depsS, Region.binds, updS, Stay.is, Stay.any] at hd
            go_simp
            first | exact ⟨Below.refl _ _, rfl⟩ | rfl
          apply rel_is
          · intro u wx hb hd
            have hz := hb.size
            (try simp only [World.size_alloc, World.size_setCell] at hz)
            have hz0 : w.heap.size < wx.heap.size := by omega
            have hz1 : w.heap.size + 1 < wx.heap.size := by omega
            have hz2 : b1 < wx.heap.size := by omega
            obtain ⟨hc, hf⟩ := bcell hb
            have HBX := Lib.hid hb
            clear hb hz
            simp [depsS, Region.binds, updS, Stay.is, Stay.any] at hd
            go_simp
            first | rfl | (go_at_call 34; refine (rbar_any (eb j) _ m gv wx (HM.out.below (below_step HBrb.out HBX.out)) (HZ2.out j hlt).1 (HZ2.out j hlt).2 (HML.out.below (below_step HBrb.out HBX.out))).mono ?_; rintro e w1 ⟨rfl, hb1⟩; first | exact ⟨rfl, hb1⟩ | exact ⟨_, rfl, hb1, rfl⟩)
          apply rel_is
          · intro u wx hb hd
            have hz := hb.size
            (try simp only [World.size_alloc, World.size_setCell] at hz)
            have hz0 : w.heap.size < wx.heap.size := by omega
            have hz1 : w.heap.size + 1 < wx.heap.size := by omega
            have hz2 : b1 < wx.heap.size := by omega
            obtain ⟨hc, hf⟩ := bcell hb
            have HBX := Lib.hid hb
            clear hb hz
            simp [depsS, Region.binds, updS, Stay.is, Stay.any] at hd
            go_simp
            first | exact ⟨Below.refl _ _, rfl⟩ | rfl
          intro u w5 hb hE
          have e0 : u 0 = _ := endS_get hE 0 (by decide)
          have e1 : u 1 = _ := endS_get hE 1 (by decide)
          have e2 : u 2 = _ := endS_get hE 2 (by decide)
          have e3 : u 3 = _ := endS_get hE 3 (by decide)
          have e4 : u 4 = _ := endS_get hE 4 (by decide)
          have e5 : u 5 = _ := endS_get hE 5 (by decide)
          have e6 : u 6 = _ := endS_get hE 6 (by decide)
          have e7 : u 7 = _ := endS_get hE 7 (by decide)
          simp only [List.drop_succ_cons, List.drop_zero, List.take_succ_cons, List.take_zero, fillL, Act.put, List.setIfInBounds_toArray, List.set_cons_zero, List.set_cons_succ, e0, e1, e2, e3, e4, e5, e6, e7]
          clear e0 e1 e2 e3 e4 e5 e6 e7 hE
          have HBw5 := Lib.hid (below_step (w := wr) (by first | assumption | go_grown) hb)
          have HBXw5 := Lib.hid hb
          have hzw5 := hb.size
          (try simp only [World.size_alloc, World.size_setCell] at hzw5)
          have hzw50 : w.heap.size < w5.heap.size := by omega
          have hzw51 : w.heap.size + 1 < w5.heap.size := by omega
          have hzw52 : b1 < w5.heap.size := by omega
          obtain ⟨hcw5, hfw5⟩ := bcell hb
          clear hb hzw5
          rw [HEE.out]
          have HW5 : Hid (Below w.heap.size w w5) := below_step HBrb.out HBXw5.out
          have t0 : w5.cell? ⟨w.heap.size, 0, none⟩ = some (.slice oa ns ca) := (HBXw5.out.cell (p := ⟨_, _, none⟩) z0b).trans s0
          have t1 : w5.cell? ⟨w.heap.size, 1, none⟩ = some (.slice (some ⟨b1, f1, none⟩) nb cb) := (HBXw5.out.cell (p := ⟨_, _, none⟩) z0b).trans s1
          have u0 : w5.cell? ⟨w.heap.size + 1, 0, none⟩ = some (.slice om m.ng cm) := (HBXw5.out.cell (p := ⟨_, _, none⟩) z1b).trans m0
          have u1 : w5.cell? ⟨w.heap.size + 1, 1, none⟩ = some (.slice ot m.ns ct) := (HBXw5.out.cell (p := ⟨_, _, none⟩) z1b).trans m1
          clear hcw5 hfw5
          by_cases hE : EE = 0
          · subst hE
            by_cases hj0 : j = 0
            · subst hj0
              have hq2 : Hid (chkFrom (barE m) Br.id eb (nb - (0 + 1)) (0 + 1) = E2) := by
                show _ = _
                rw [← chkFrom_good hlt (by unfold chkAt; rw [HEE.out]; simp)]
                exact hq.out
              have k0 : decide ((0 : Int) < ((0 : Nat) : Int)) = false := by decide
              go_wp2_with fail
              refine wp_region_relw 18 (by kernel_rfl) (by kernel_rfl) (by kernel_rfl) ?_
              simp only [List.take_succ_cons, List.take_zero, fillL, Act.put, List.setIfInBounds_toArray, List.set_cons_zero, List.set_cons_succ]
              apply rel_is
              · intro u wx hb hd
                have hz := hb.size
                (try simp only [World.size_alloc, World.size_setCell] at hz)
                have hz0 : w.heap.size < wx.heap.size := by omega
                have hz1 : w.heap.size + 1 < wx.heap.size := by omega
                have hz2 : b1 < wx.heap.size := by omega
                obtain ⟨hc, hf⟩ := bcell hb
                have HBX := Lib.hid hb
                clear hb hz
                simp [depsS, Region.binds, updS, Stay.is, Stay.any] at hd
                go_simp
                first | exact ⟨Below.refl _ _, rfl⟩ | rfl
              apply rel_is
              · intro u wx hb hd
                have hz := hb.size
                (try simp only [World.size_alloc, World.size_setCell] at hz)
                have hz0 : w.heap.size < wx.heap.size := by omega
                have hz1 : w.heap.size + 1 < wx.heap.size := by omega
                have hz2 : b1 < wx.heap.size := by omega
                obtain ⟨hc, hf⟩ := bcell hb
                have HBX := Lib.hid hb
                clear hb hz
                simp [depsS, Region.binds, updS, Stay.is, Stay.any] at hd
                go_simp
                first | exact ⟨Below.refl _ _, rfl⟩ | rfl
              apply rel_is
              · intro u wx hb hd
                have hz := hb.size
                (try simp only [World.size_alloc, World.size_setCell] at hz)
                have hz0 : w.heap.size < wx.heap.size := by omega
                have hz1 : w.heap.size + 1 < wx.heap.size := by omega
                have hz2 : b1 < wx.heap.size := by omega
                obtain ⟨hc, hf⟩ := bcell hb
                have HBX := Lib.hid hb
                clear hb hz
                simp [depsS, Region.binds, updS, Stay.is, Stay.any] at hd
                go_simp
                first | exact ⟨Below.refl _ _, rfl⟩ | rfl
              apply rel_is
              · intro u wx hb hd
                have hz := hb.size
                (try simp only [World.size_alloc, World.size_setCell] at hz)
                have hz0 : w.heap.size < wx.heap.size := by omega
                have hz1 : w.heap.size + 1 < wx.heap.size := by omega
                have hz2 : b1 < wx.heap.size := by omega
                obtain ⟨hc, hf⟩ := bcell hb
                have HBX := Lib.hid hb
                clear hb hz
                simp [depsS, Region.binds, updS, Stay.is, Stay.any] at hd
                go_simp
                first | exact ⟨Below.refl _ _, rfl⟩ | rfl
              apply rel_is
              · intro u wx hb hd
                have hz := hb.size
                (try simp only [World.size_alloc, World.size_setCell] at hz)
                have hz0 : w.heap.size < wx.heap.size := by omega
                have hz1 : w.heap.size + 1 < wx.heap.size := by omega
                have hz2 : b1 < wx.heap.size := by omega
                obtain ⟨hc, hf⟩ := bcell hb
                have HBX := Lib.hid hb
                clear hb hz
                simp [depsS, Region.binds, updS, Stay.is, Stay.any] at hd
                go_simp
                first | exact ⟨Below.refl _ _, rfl⟩ | rfl
              apply rel_is
              · intro u wx hb hd
                have hz := hb.size
                (try simp only [World.size_alloc, World.size_setCell] at hz)
                have hz0 : w.heap.size < wx.heap.size := by omega
                have hz1 : w.heap.size + 1 < wx.heap.size := by omega
                have hz2 : b1 < wx.heap.size := by omega
                obtain ⟨hc, hf⟩ := bcell hb
                have HBX := Lib.hid hb
                clear hb hz
                simp [depsS, Region.binds, updS, Stay.is, Stay.any] at hd
                go_simp
                first | exact ⟨Below.refl _ _, rfl⟩ | rfl
              apply rel_is
              · intro u wx hb hd
                have hz := hb.size
                (try simp only [World.size_alloc, World.size_setCell] at hz)
                have hz0 : w.heap.size < wx.heap.size := by omega
                have hz1 : w.heap.size + 1 < wx.heap.size := by omega
                have hz2 : b1 < wx.heap.size := by omega
                obtain ⟨hc, hf⟩ := bcell hb
                have HBX := Lib.hid hb
                clear hb hz
                simp [depsS, Region.binds, updS, Stay.is, Stay.any] at hd
                go_simp
                first | exact ⟨Below.refl _ _, rfl⟩ | rfl
              apply rel_is
              · intro u wx hb hd
                have hz := hb.size
                (try simp only [World.size_alloc, World.size_setCell] at hz)
                have hz0 : w.heap.size < wx.heap.size := by omega
                have hz1 : w.heap.size + 1 < wx.heap.size := by omega
                have hz2 : b1 < wx.heap.size := by omega
                obtain ⟨hc, hf⟩ := bcell hb
                have HBX := Lib.hid hb
                clear hb hz
                simp [depsS, Region.binds, updS, Stay.is, Stay.any] at hd
                go_simp
                first | exact ⟨Below.refl _ _, rfl⟩ | rfl
              apply rel_is
              · intro u wx hb hd
                have hz := hb.size
                (try simp only [World.size_alloc, World.size_setCell] at hz)
                have hz0 : w.heap.size < wx.heap.size := by omega
                have hz1 : w.heap.size + 1 < wx.heap.size := by omega
                have hz2 : b1 < wx.heap.size := by omega
                obtain ⟨hc, hf⟩ := bcell hb
                have HBX := Lib.hid hb
                clear hb hz
                simp [depsS, Region.binds, updS, Stay.is, Stay.any] at hd
                go_simp
                first | exact ⟨Below.refl _ _, rfl⟩ | rfl
              apply rel_is
              · intro u wx hb hd
                have hz := hb.size
                (try simp only [World.size_alloc, World.size_setCell] at hz)
                have hz0 : w.heap.size < wx.heap.size := by omega
                have hz1 : w.heap.size + 1 < wx.heap.size := by omega
                have hz2 : b1 < wx.heap.size := by omega
                obtain ⟨hc, hf⟩ := bcell hb
                have HBX := Lib.hid hb
                clear hb hz
                simp [depsS, Region.binds, updS, Stay.is, Stay.any] at hd
                go_simp
                first | exact ⟨Below.refl _ _, rfl⟩ | rfl
              apply rel_is
              · intro u wx hb hd
                have hz := hb.size
                (try simp only [World.size_alloc, World.size_setCell] at hz)
                have hz0 : w.heap.size < wx.heap.size := by omega
                have hz1 : w.heap.size + 1 < wx.heap.size := by omega
                have hz2 : b1 < wx.heap.size := by omega
                obtain ⟨hc, hf⟩ := bcell hb
                have HBX := Lib.hid hb
                clear hb hz
                simp [depsS, Region.binds, updS, Stay.is, Stay.any] at hd
                go_simp
                first | exact ⟨Below.refl _ _, rfl⟩ | rfl
              apply rel_is
              · intro u wx hb hd
                have hz := hb.size
                (try simp only [World.size_alloc, World.size_setCell] at hz)
                have hz0 : w.heap.size < wx.heap.size := by omega
                have hz1 : w.heap.size + 1 < wx.heap.size := by omega
                have hz2 : b1 < wx.heap.size := by omega
                obtain ⟨hc, hf⟩ := bcell hb
                have HBX := Lib.hid hb
                clear hb hz
                simp [depsS, Region.binds, updS, Stay.is, Stay.any] at hd
                go_simp
                first | exact ⟨Below.refl _ _, rfl⟩ | rfl
              apply rel_is
              · intro u wx hb hd
                have hz := hb.size
                (try simp only [World.size_alloc, World.size_setCell] at hz)
                have hz0 : w.heap.size < wx.heap.size := by omega
                have hz1 : w.heap.size + 1 < wx.heap.size := by omega
                have hz2 : b1 < wx.heap.size := by omega
                obtain ⟨hc, hf⟩ := bcell hb
                have HBX := Lib.hid hb
                clear hb hz
                simp [depsS, Region.binds, updS, Stay.is, Stay.any] at hd
                go_simp
                first | exact ⟨Below.refl _ _, rfl⟩ | rfl
              apply rel_is
              · intro u wx hb hd
                have hz := hb.size
                (try simp only [World.size_alloc, World.size_setCell] at hz)
                have hz0 : w.heap.size < wx.heap.size := by omega
                have hz1 : w.heap.size + 1 < wx.heap.size := by omega
                have hz2 : b1 < wx.heap.size := by omega
                obtain ⟨hc, hf⟩ := bcell hb
                have HBX := Lib.hid hb
                clear hb hz
                simp [depsS, Region.binds, updS, Stay.is, Stay.any] at hd
                go_simp
                first | exact ⟨Below.refl _ _, rfl⟩ | rfl
              apply rel_is
              · intro u wx hb hd
                have hz := hb.size
                (try simp only [World.size_alloc, World.size_setCell] at hz)
                have hz0 : w.heap.size < wx.heap.size := by omega
                have hz1 : w.heap.size + 1 < wx.heap.size := by omega
                have hz2 : b1 < wx.heap.size := by omega
                obtain ⟨hc, hf⟩ := bcell hb
                have HBX := Lib.hid hb
                clear hb hz
                simp [depsS, Region.binds, updS, Stay.is, Stay.any] at hd
                go_simp
                first | exact ⟨Below.refl _ _, rfl⟩ | rfl
              apply rel_is
              · intro u wx hb hd
                have hz := hb.size
                (try simp only [World.size_alloc, World.size_setCell] at hz)
                have hz0 : w.heap.size < wx.heap.size := by omega
                have hz1 : w.heap.size + 1 < wx.heap.size := by omega
                have hz2 : b1 < wx.heap.size := by omega
                obtain ⟨hc, hf⟩ := bcell hb
                have HBX := Lib.hid hb
                clear hb hz
                simp [depsS, Region.binds, updS, Stay.is, Stay.any] at hd
                go_simp
                first | exact ⟨Below.refl _ _, rfl⟩ | rfl
              apply rel_is
              · intro u wx hb hd
                have hz := hb.size
                (try simp only [World.size_alloc, World.size_setCell] at hz)
                have hz0 : w.heap.size < wx.heap.size := by omega
                have hz1 : w.heap.size + 1 < wx.heap.size := by omega
                have hz2 : b1 < wx.heap.size := by omega
                obtain ⟨hc, hf⟩ := bcell hb
                have HBX := Lib.hid hb
                clear hb hz
                simp [depsS, Region.binds, updS, Stay.is, Stay.any] at hd
                go_simp
                first | exact ⟨Below.refl _ _, rfl⟩ | rfl
              apply rel_is
              · intro u wx hb hd
                have hz := hb.size
                (try simp only [World.size_alloc, World.size_setCell] at hz)
                have hz0 : w.heap.size < wx.heap.size := by omega
                have hz1 : w.heap.size + 1 < wx.heap.size := by omega
                have hz2 : b1 < wx.heap.size := by omega
                obtain ⟨hc, hf⟩ := bcell hb
                have HBX := Lib.hid hb
                clear hb hz
                simp [depsS, Region.binds, updS, Stay.is, Stay.any] at hd
                go_simp
                first | exact ⟨Below.refl _ _, rfl⟩ | rfl
              intro u w6 hb hE
              have e0 : u 0 = _ := endS_get hE 0 (by decide)
              have e1 : u 1 = _ := endS_get hE 1 (by decide)
              have e2 : u 2 = _ := endS_get hE 2 (by decide)
              have e3 : u 3 = _ := endS_get hE 3 (by decide)
              have e4 : u 4 = _ := endS_get hE 4 (by decide)
              have e5 : u 5 = _ := endS_get hE 5 (by decide)
              have e6 : u 6 = _ := endS_get hE 6 (by decide)
              have e7 : u 7 = _ := endS_get hE 7 (by decide)
              have e8 : u 8 = _ := endS_get hE 8 (by decide)
              have e9 : u 9 = _ := endS_get hE 9 (by decide)
              have e10 : u 10 = _ := endS_get hE 10 (by decide)
              have e11 : u 11 = _ := endS_get hE 11 (by decide)
              have e12 : u 12 = _ := endS_get hE 12 (by decide)
              have e13 : u 13 = _ := endS_get hE 13 (by decide)
              have e14 : u 14 = _ := endS_get hE 14 (by decide)
              have e15 : u 15 = _ := endS_get hE 15 (by decide)
              have e16 : u 16 = _ := endS_get hE 16 (by decide)
              have e17 : u 17 = _ := endS_get hE 17 (by decide)
              simp only [List.drop_succ_cons, List.drop_zero, List.take_succ_cons, List.take_zero, fillL, Act.put, List.setIfInBounds_toArray, List.set_cons_zero, List.set_cons_succ, e0, e1, e2, e3, e4, e5, e6, e7, e8, e9, e10, e11, e12, e13, e14, e15, e16, e17]
              clear e0 e1 e2 e3 e4 e5 e6 e7 e8 e9 e10 e11 e12 e13 e14 e15 e16 e17 hE
              have HBw6 := Lib.hid (below_step (w := w5) (by first | assumption | go_grown) hb)
              have HBXw6 := Lib.hid hb
              have hzw6 := hb.size
              (try simp only [World.size_alloc, World.size_setCell] at hzw6)
              have hzw60 : w.heap.size < w6.heap.size := by omega
              have hzw61 : w.heap.size + 1 < w6.heap.size := by omega
              have hzw62 : b1 < w6.heap.size := by omega
              obtain ⟨hcw6, hfw6⟩ := bcell hb
              clear hb hzw6
              have HBN : Hid (Below _ _ w6) := below_step HBXb.out (below_step HBXw5.out HBXw6.out)
              go_wp2
              go_roundw
              case rel => exact ⟨0 + 1, by omega, by go_num, hq2, HBN.out⟩
              case measure => simp [intOf]; omega
            · have hj1 : j - 1 < nb := by omega
              have hcl2 := hcl9.out (j - 1) hj1
              have c0w : w5.cell? ⟨b1, f1 + j * 5, none⟩ = some (.string (eb j).id) := (HBXw5.out.cell (p := ⟨_, _, none⟩) hbr).trans c0
              have d0 : w5.cell? ⟨b1, f1 + (j - 1) * 5, none⟩ = some (.string (eb (j - 1)).id) := (HW5.out.cell (p := ⟨_, _, none⟩) hbl1).trans hcl2.1
              have d1 : w5.cell? ⟨b1, f1 + (j - 1) * 5 + 1, none⟩ = some (.string (eb (j - 1)).sect) := (HW5.out.cell (p := ⟨_, _, none⟩) hbl1).trans hcl2.2.1
              have d2 : w5.cell? ⟨b1, f1 + (j - 1) * 5 + 2, none⟩ = some (.string (eb (j - 1)).grade) := (HW5.out.cell (p := ⟨_, _, none⟩) hbl1).trans hcl2.2.2.1
              have d3 : w5.cell? ⟨b1, f1 + (j - 1) * 5 + 3, none⟩ = some (.int .i64 (eb (j - 1)).len) := (HW5.out.cell (p := ⟨_, _, none⟩) hbl1).trans hcl2.2.2.2.1
              have d4 : w5.cell? ⟨b1, f1 + (j - 1) * 5 + 4, none⟩ = some (.string (eb (j - 1)).heat) := (HW5.out.cell (p := ⟨_, _, none⟩) hbl1).trans hcl2.2.2.2.2
              have k0 : decide ((0 : Int) < (j : Int)) = true := decide_eq_true (by omega)
              have k1' : IntKind.i64.wrap ((j : Int) - 1) = (j : Int) - 1 := IntWalk.i64_in _ (by omega)
              have k2' : ((j : Int) - 1).toNat = j - 1 := by omega
              have k3 : (0 : Int) ≤ (j : Int) - 1 := by omega
              have k4 : (j : Int) - 1 < (nb : Int) := by omega
              have k5 : (1 : Int) ≤ (j : Int) := by omega
              have k6 : 1 ≤ j := by omega
              obtain ⟨LE, hLE⟩ : ∃ LE, strLe (eb j).id (eb (j - 1)).id = LE := ⟨_, rfl⟩
              have HLE := Lib.hid hLE
              have hle : (Op.bytesLess (eb j).id.toList (eb (j - 1)).id.toList || (eb j).id.toList == (eb (j - 1)).id.toList) = LE := hLE
              have hj00 : 0 < j := by omega
              clear hLE hcl2 hj0
              go_wp2_with fail
              refine wp_region_relw 18 (by kernel_rfl) (by kernel_rfl) (by kernel_rfl) ?_
              simp only [List.take_succ_cons, List.take_zero, fillL, Act.put, List.setIfInBounds_toArray, List.set_cons_zero, List.set_cons_succ]
              apply rel_is
              · intro u wx hb hd
                have hz := hb.size
                (try simp only [World.size_alloc, World.size_setCell] at hz)
                have hz0 : w.heap.size < wx.heap.size := by omega
                have hz1 : w.heap.size + 1 < wx.heap.size := by omega
                have hz2 : b1 < wx.heap.size := by omega
                obtain ⟨hc, hf⟩ := bcell hb
                have HBX := Lib.hid hb
                clear hb hz
                simp [depsS, Region.binds, updS, Stay.is, Stay.any] at hd
                go_simp
                first | exact ⟨Below.refl _ _, rfl⟩ | rfl
              apply rel_is
              · intro u wx hb hd
                have hz := hb.size
                (try simp only [World.size_alloc, World.size_setCell] at hz)
                have hz0 : w.heap.size < wx.heap.size := by omega
                have hz1 : w.heap.size + 1 < wx.heap.size := by omega
                have hz2 : b1 < wx.heap.size := by omega
                obtain ⟨hc, hf⟩ := bcell hb
                have HBX := Lib.hid hb
                clear hb hz
                simp [depsS, Region.binds, updS, Stay.is, Stay.any] at hd
                go_simp
                first | exact ⟨Below.refl _ _, rfl⟩ | rfl
              apply rel_is
              · intro u wx hb hd
                have hz := hb.size
                (try simp only [World.size_alloc, World.size_setCell] at hz)
                have hz0 : w.heap.size < wx.heap.size := by omega
                have hz1 : w.heap.size + 1 < wx.heap.size := by omega
                have hz2 : b1 < wx.heap.size := by omega
                obtain ⟨hc, hf⟩ := bcell hb
                have HBX := Lib.hid hb
                clear hb hz
                simp [depsS, Region.binds, updS, Stay.is, Stay.any] at hd
                go_simp
                first | exact ⟨Below.refl _ _, rfl⟩ | rfl
              apply rel_is
              · intro u wx hb hd
                have hz := hb.size
                (try simp only [World.size_alloc, World.size_setCell] at hz)
                have hz0 : w.heap.size < wx.heap.size := by omega
                have hz1 : w.heap.size + 1 < wx.heap.size := by omega
                have hz2 : b1 < wx.heap.size := by omega
                obtain ⟨hc, hf⟩ := bcell hb
                have HBX := Lib.hid hb
                clear hb hz
                simp [depsS, Region.binds, updS, Stay.is, Stay.any] at hd
                go_simp
                first | exact ⟨Below.refl _ _, rfl⟩ | rfl
              apply rel_is
              · intro u wx hb hd
                have hz := hb.size
                (try simp only [World.size_alloc, World.size_setCell] at hz)
                have hz0 : w.heap.size < wx.heap.size := by omega
                have hz1 : w.heap.size + 1 < wx.heap.size := by omega
                have hz2 : b1 < wx.heap.size := by omega
                obtain ⟨hc, hf⟩ := bcell hb
                have HBX := Lib.hid hb
                clear hb hz
                simp [depsS, Region.binds, updS, Stay.is, Stay.any] at hd
                go_simp
                first | exact ⟨Below.refl _ _, rfl⟩ | rfl
              apply rel_is
              · intro u wx hb hd
                have hz := hb.size
                (try simp only [World.size_alloc, World.size_setCell] at hz)
                have hz0 : w.heap.size < wx.heap.size := by omega
                have hz1 : w.heap.size + 1 < wx.heap.size := by omega
                have hz2 : b1 < wx.heap.size := by omega
                obtain ⟨hc, hf⟩ := bcell hb
                have HBX := Lib.hid hb
                clear hb hz
                simp [depsS, Region.binds, updS, Stay.is, Stay.any] at hd
                go_simp
                first | exact ⟨Below.refl _ _, rfl⟩ | rfl
              apply rel_is
              · intro u wx hb hd
                have hz := hb.size
                (try simp only [World.size_alloc, World.size_setCell] at hz)
                have hz0 : w.heap.size < wx.heap.size := by omega
                have hz1 : w.heap.size + 1 < wx.heap.size := by omega
                have hz2 : b1 < wx.heap.size := by omega
                obtain ⟨hc, hf⟩ := bcell hb
                have HBX := Lib.hid hb
                clear hb hz
                simp [depsS, Region.binds, updS, Stay.is, Stay.any] at hd
                go_simp
                first | exact ⟨Below.refl _ _, rfl⟩ | rfl
              apply rel_is
              · intro u wx hb hd
                have hz := hb.size
                (try simp only [World.size_alloc, World.size_setCell] at hz)
                have hz0 : w.heap.size < wx.heap.size := by omega
                have hz1 : w.heap.size + 1 < wx.heap.size := by omega
                have hz2 : b1 < wx.heap.size := by omega
                obtain ⟨hc, hf⟩ := bcell hb
                have HBX := Lib.hid hb
                clear hb hz
                simp [depsS, Region.binds, updS, Stay.is, Stay.any] at hd
                go_simp
                first | exact ⟨Below.refl _ _, rfl⟩ | rfl
              apply rel_is
              · intro u wx hb hd
                have hz := hb.size
                (try simp only [World.size_alloc, World.size_setCell] at hz)
                have hz0 : w.heap.size < wx.heap.size := by omega
                have hz1 : w.heap.size + 1 < wx.heap.size := by omega
                have hz2 : b1 < wx.heap.size := by omega
                obtain ⟨hc, hf⟩ := bcell hb
                have HBX := Lib.hid hb
                clear hb hz
                simp [depsS, Region.binds, updS, Stay.is, Stay.any] at hd
                go_simp
                first | exact ⟨Below.refl _ _, rfl⟩ | rfl
              apply rel_is
              · intro u wx hb hd
                have hz := hb.size
                (try simp only [World.size_alloc, World.size_setCell] at hz)
                have hz0 : w.heap.size < wx.heap.size := by omega
                have hz1 : w.heap.size + 1 < wx.heap.size := by omega
                have hz2 : b1 < wx.heap.size := by omega
                obtain ⟨hc, hf⟩ := bcell hb
                have HBX := Lib.hid hb
                clear hb hz
                simp [depsS, Region.binds, updS, Stay.is, Stay.any] at hd
                go_simp
                first | exact ⟨Below.refl _ _, rfl⟩ | rfl
              apply rel_is
              · intro u wx hb hd
                have hz := hb.size
                (try simp only [World.size_alloc, World.size_setCell] at hz)
                have hz0 : w.heap.size < wx.heap.size := by omega
                have hz1 : w.heap.size + 1 < wx.heap.size := by omega
                have hz2 : b1 < wx.heap.size := by omega
                obtain ⟨hc, hf⟩ := bcell hb
                have HBX := Lib.hid hb
                clear hb hz
                simp [depsS, Region.binds, updS, Stay.is, Stay.any] at hd
                go_simp
                first | exact ⟨Below.refl _ _, rfl⟩ | rfl
              apply rel_is
              · intro u wx hb hd
                have hz := hb.size
                (try simp only [World.size_alloc, World.size_setCell] at hz)
                have hz0 : w.heap.size < wx.heap.size := by omega
                have hz1 : w.heap.size + 1 < wx.heap.size := by omega
                have hz2 : b1 < wx.heap.size := by omega
                obtain ⟨hc, hf⟩ := bcell hb
                have HBX := Lib.hid hb
                clear hb hz
                simp [depsS, Region.binds, updS, Stay.is, Stay.any] at hd
                go_simp
                first | exact ⟨Below.refl _ _, rfl⟩ | rfl
              apply rel_is
              · intro u wx hb hd
                have hz := hb.size
                (try simp only [World.size_alloc, World.size_setCell] at hz)
                have hz0 : w.heap.size < wx.heap.size := by omega
                have hz1 : w.heap.size + 1 < wx.heap.size := by omega
                have hz2 : b1 < wx.heap.size := by omega
                obtain ⟨hc, hf⟩ := bcell hb
                have HBX := Lib.hid hb
                clear hb hz
                simp [depsS, Region.binds, updS, Stay.is, Stay.any] at hd
                go_simp
                first | exact ⟨Below.refl _ _, rfl⟩ | rfl
              apply rel_is
              · intro u wx hb hd
                have hz := hb.size
                (try simp only [World.size_alloc, World.size_setCell] at hz)
                have hz0 : w.heap.size < wx.heap.size := by omega
                have hz1 : w.heap.size + 1 < wx.heap.size := by omega
                have hz2 : b1 < wx.heap.size := by omega
                obtain ⟨hc, hf⟩ := bcell hb
                have HBX := Lib.hid hb
                clear hb hz
                simp [depsS, Region.binds, updS, Stay.is, Stay.any] at hd
                go_simp
                first | exact ⟨Below.refl _ _, rfl⟩ | rfl
              apply rel_is
              · intro u wx hb hd
                have hz := hb.size
                (try simp only [World.size_alloc, World.size_setCell] at hz)
                have hz0 : w.heap.size < wx.heap.size := by omega
                have hz1 : w.heap.size + 1 < wx.heap.size := by omega
                have hz2 : b1 < wx.heap.size := by omega
                obtain ⟨hc, hf⟩ := bcell hb
                have HBX := Lib.hid hb
                clear hb hz
                simp [depsS, Region.binds, updS, Stay.is, Stay.any] at hd
                go_simp
                first | exact ⟨Below.refl _ _, rfl⟩ | rfl
              apply rel_is
              · intro u wx hb hd
                have hz := hb.size
                (try simp only [World.size_alloc, World.size_setCell] at hz)
                have hz0 : w.heap.size < wx.heap.size := by omega
                have hz1 : w.heap.size + 1 < wx.heap.size := by omega
                have hz2 : b1 < wx.heap.size := by omega
                obtain ⟨hc, hf⟩ := bcell hb
                have HBX := Lib.hid hb
                clear hb hz
                simp [depsS, Region.binds, updS, Stay.is, Stay.any] at hd
                go_simp
                first | exact ⟨Below.refl _ _, rfl⟩ | rfl
              apply rel_is
              · intro u wx hb hd
                have hz := hb.size
                (try simp only [World.size_alloc, World.size_setCell] at hz)
                have hz0 : w.heap.size < wx.heap.size := by omega
                have hz1 : w.heap.size + 1 < wx.heap.size := by omega
                have hz2 : b1 < wx.heap.size := by omega
                obtain ⟨hc, hf⟩ := bcell hb
                have HBX := Lib.hid hb
                clear hb hz
                simp [depsS, Region.binds, updS, Stay.is, Stay.any] at hd
                go_simp
                first | exact ⟨Below.refl _ _, rfl⟩ | rfl
              apply rel_is
              · intro u wx hb hd
                have hz := hb.size
                (try simp only [World.size_alloc, World.size_setCell] at hz)
                have hz0 : w.heap.size < wx.heap.size := by omega
                have hz1 : w.heap.size + 1 < wx.heap.size := by omega
                have hz2 : b1 < wx.heap.size := by omega
                obtain ⟨hc, hf⟩ := bcell hb
                have HBX := Lib.hid hb
                clear hb hz
                simp [depsS, Region.binds, updS, Stay.is, Stay.any] at hd
                go_simp
                first | exact ⟨Below.refl _ _, rfl⟩ | rfl
              intro u w6 hb hE
              have e0 : u 0 = _ := endS_get hE 0 (by decide)
              have e1 : u 1 = _ := endS_get hE 1 (by decide)
              have e2 : u 2 = _ := endS_get hE 2 (by decide)
              have e3 : u 3 = _ := endS_get hE 3 (by decide)
              have e4 : u 4 = _ := endS_get hE 4 (by decide)
              have e5 : u 5 = _ := endS_get hE 5 (by decide)
              have e6 : u 6 = _ := endS_get hE 6 (by decide)
              have e7 : u 7 = _ := endS_get hE 7 (by decide)
              have e8 : u 8 = _ := endS_get hE 8 (by decide)
              have e9 : u 9 = _ := endS_get hE 9 (by decide)
              have e10 : u 10 = _ := endS_get hE 10 (by decide)
              have e11 : u 11 = _ := endS_get hE 11 (by decide)
              have e12 : u 12 = _ := endS_get hE 12 (by decide)
              have e13 : u 13 = _ := endS_get hE 13 (by decide)
              have e14 : u 14 = _ := endS_get hE 14 (by decide)
              have e15 : u 15 = _ := endS_get hE 15 (by decide)
              have e16 : u 16 = _ := endS_get hE 16 (by decide)
              have e17 : u 17 = _ := endS_get hE 17 (by decide)
              simp only [List.drop_succ_cons, List.drop_zero, List.take_succ_cons, List.take_zero, fillL, Act.put, List.setIfInBounds_toArray, List.set_cons_zero, List.set_cons_succ, e0, e1, e2, e3, e4, e5, e6, e7, e8, e9, e10, e11, e12, e13, e14, e15, e16, e17]
              clear e0 e1 e2 e3 e4 e5 e6 e7 e8 e9 e10 e11 e12 e13 e14 e15 e16 e17 hE
              have HBw6 := Lib.hid (below_step (w := w5) (by first | assumption | go_grown) hb)
              have HBXw6 := Lib.hid hb
              have hzw6 := hb.size
              (try simp only [World.size_alloc, World.size_setCell] at hzw6)
              have hzw60 : w.heap.size < w6.heap.size := by omega
              have hzw61 : w.heap.size + 1 < w6.heap.size := by omega
              have hzw62 : b1 < w6.heap.size := by omega
              obtain ⟨hcw6, hfw6⟩ := bcell hb
              clear hb hzw6
              have HBN : Hid (Below _ _ w6) := below_step HBXb.out (below_step HBXw5.out HBXw6.out)
              have HBM : Hid (Below w.heap.size w w6) := below_step HW5.out HBXw6.out
              cases LE with
              | true =>
                have hR0 : E2 = 11 := by
                  have hlt9 : ltB (eb (j - 1)).id (eb j).id = false := by
                    have := HLE.out
                    rw [strLe_not] at this
                    simpa using this
                  have h9 : chkAt (barE m) Br.id eb j = 11 := by unfold chkAt; rw [HEE.out, if_neg (by decide), if_pos ⟨hj00, hlt9⟩]
                  rw [← hq.out, chkFrom_bad hlt (by rw [h9]; decide), h9]
                have HR0 : Hid (R = 11) := HRT2.out _ hR0 (by decide)
                clear hR0
                go_wp2
                go_returns
                rw [HR0.out]
                exact ⟨rfl, HBM.out⟩
              | false =>
                have hq2 : Hid (chkFrom (barE m) Br.id eb (nb - (j + 1)) (j + 1) = E2) := by
                  show _ = _
                  have hlt9 : ltB (eb (j - 1)).id (eb j).id = true := by
                    have := HLE.out
                    rw [strLe_not] at this
                    simpa using this
                  rw [← chkFrom_good hlt (by unfold chkAt; rw [HEE.out, if_neg (by decide), if_neg (by rw [hlt9]; simp)])]
                  exact hq.out
                go_wp2
                go_roundw
                case rel => exact ⟨j + 1, by omega, by go_num, hq2, HBN.out⟩
                case measure => simp [intOf]; omega
          · have hR0 : E2 = EE := by
              have h9 : chkAt (barE m) Br.id eb j = EE := by unfold chkAt; rw [HEE.out, if_pos hE]
              rw [← hq.out, chkFrom_bad hlt (by rw [h9]; exact hE), h9]
            have HR0 : Hid (R = EE) := HRT2.out _ hR0 hE
            have k0 : (EE != 0) = true := by simpa using hE
            clear hR0 hE
            go_wp2
            go_returns
            rw [HR0.out]
            exact ⟨rfl, HW5.out⟩
        · have hR0 : E2 = 0 := by rw [← hq.out, chkFrom_end hj hlt]
          have HR0 : Hid (R = 0) := by show _ = _; rw [HRT3.out hR0]
          clear hR0
          go_wp2
          go_returns
          rw [HR0.out]
          exact ⟨rfl, HBrb.out⟩
end Go.Proofs.YtiddpaaihloopaaDoor
