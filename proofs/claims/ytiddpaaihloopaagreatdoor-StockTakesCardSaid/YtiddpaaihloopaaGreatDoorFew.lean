/-
  The reference's Few of stocks and of catalogs, by walks. Conditions: none. By an AI agent.
-/
import Derived.Test.YtiddpaaihloopaaGreatDoorChkB
namespace Go.Proofs.YtiddpaaihloopaaGreatDoor
open Go Go.ChangeShapes Go.WideShapes Go.RowKit Go.ChangeAt
set_option linter.unusedVariables false
set_option linter.unusedSimpArgs false
set_option maxRecDepth 100000
def okS (es : Nat → Sh) (i : Nat) : Bool := decide ((es i).id.size ≤ 100) && (decide ((es i).heat.size ≤ 100) && decide ((es i).grade.size ≤ 100))
def okB (eb : Nat → Br) (i : Nat) : Bool := decide ((eb i).id.size ≤ 100) && (decide ((eb i).heat.size ≤ 100) && (decide ((eb i).grade.size ≤ 100) && decide ((eb i).sect.size ≤ 100)))
def okG (m : Mat) (i : Nat) : Bool := decide (m.gn i ≤ 30) && decide ((m.nm i).size ≤ 40)
def okE (m : Mat) (i : Nat) : Bool := decide ((m.sn i).size ≤ 40)
def fewB (ns : Nat) (es : Nat → Sh) (nb : Nat) (eb : Nat → Br) : Bool := allTo (okS es) (min ns 141) && (allTo (okB eb) (min nb 141) && (decide (ns ≤ 140) && decide (nb ≤ 140)))
def mfewB (m : Mat) : Bool := allTo (okG m) (min m.ng 41) && (allTo (okE m) (min m.ns 41) && (decide (m.ng ≤ 40) && decide (m.ns ≤ 40)))

set_option maxHeartbeats 8000000 in
theorem few_any (v : Value) (ns : Nat) (es : Nat → Sh) (nb : Nat) (eb : Nat → Br) (w : World) (h : StAt w v ns es nb eb) :
    Calls Tryz.prog 24 #[v] w fun e w' => e = .returned (.bool (fewB ns es nb eb)) ∧ Below w.heap.size w w' := by
  obtain ⟨va, vb, rfl, hSh, hBr⟩ := h
  have HSH := Lib.hid hSh
  have HBR := Lib.hid hBr
  obtain ⟨oa, ca, rfl, hna, hca, hela⟩ := hSh.form
  obtain ⟨ob, cb, rfl, hnb, hcb, helb⟩ := hBr.form
  have HEL1 := Lib.hid hela
  have HEL2 := Lib.hid helb
  clear HSH HBR hSh hBr hela helb
  obtain ⟨R, hR⟩ : ∃ R, fewB ns es nb eb = R := ⟨_, rfl⟩
  rw [hR]
  have HR : Hid ((allTo (okS es) (min ns 141) && (allTo (okB eb) (min nb 141) && (decide (ns ≤ 140) && decide (nb ≤ 140)))) = R) := hR
  have HNO1 : Hid (∀ j, j < ns → j < 141 → (okS es) j = false → R = false) := fun j h1 h2 h3 => by rw [← HR.out, allTo_no (by omega : j < min ns 141) h3, Bool.false_and]
  have HNO2 : Hid (∀ j, j < nb → j < 141 → (okB eb) j = false → R = false) := fun j h1 h2 h3 => by rw [← HR.out, allTo_no (by omega : j < min nb 141) h3, Bool.false_and, Bool.and_false]
  clear hR
  go_enter Tryz.func24, Tryz.ntmps24
  go_wp2
  go_loopw [3] (fun i wr => ∃ j : Nat, j ≤ ns ∧ j ≤ 141 ∧ i = .int .i64 j ∧ Hid (∀ i, i < j → (okS es) i = true) ∧ Below (w.alloc (.cells #[.slice oa ns ca, .slice ob nb cb] 25)).heap.size (w.alloc (.cells #[.slice oa ns ca, .slice ob nb cb] 25)) wr) (fun i _ => ns - (intOf i).toNat)
  case atStart => exact ⟨0, by omega, by omega, rfl, fun i hi => by omega, Below.refl _ _⟩
  case round =>
    obtain ⟨j, hj, hjl, rfl, hq, hB⟩ := hrel
    have HBr : Hid (Below w.heap.size w wr) := by
      show Below _ _ _
      exact below_step (w := w) (by go_grown) hB
    have HBX := Lib.hid hB
    have hs0 := hB.size
    (try simp only [World.size_alloc, World.size_setCell] at hs0)
    have z0 : w.heap.size < wr.heap.size := by omega
    have s0 : wr.cell? ⟨w.heap.size, 0, none⟩ = some (.slice oa ns ca) := (hB.cell (p := ⟨_, _, none⟩) (by simp <;> omega)).trans (by simp [go_sem])
    have s1 : wr.cell? ⟨w.heap.size, 1, none⟩ = some (.slice ob nb cb) := (hB.cell (p := ⟨_, _, none⟩) (by simp <;> omega)).trans (by simp [go_sem])
    clear hB hs0
    by_cases hlt : j < ns
    · by_cases hl : j < 141
      · have kl : decide ((j : Int) < 141) = true := decide_eq_true (by omega)
        obtain ⟨b1, f1, rfl, hbl1, hcl1⟩ := HEL1.out j hlt
        have c0 : wr.cell? ⟨b1, f1 + j * 6, none⟩ = some (.string (es j).id) := (HBr.out.cell (p := ⟨_, _, none⟩) hbl1).trans (hcl1 j hlt).1
        have c1 : wr.cell? ⟨b1, f1 + j * 6 + 1, none⟩ = some (.string (es j).grade) := (HBr.out.cell (p := ⟨_, _, none⟩) hbl1).trans (hcl1 j hlt).2.1
        have c2 : wr.cell? ⟨b1, f1 + j * 6 + 2, none⟩ = some (.int .i64 (es j).thick) := (HBr.out.cell (p := ⟨_, _, none⟩) hbl1).trans (hcl1 j hlt).2.2.1
        have c3 : wr.cell? ⟨b1, f1 + j * 6 + 3, none⟩ = some (.int .i64 (es j).len) := (HBr.out.cell (p := ⟨_, _, none⟩) hbl1).trans (hcl1 j hlt).2.2.2.1
        have c4 : wr.cell? ⟨b1, f1 + j * 6 + 4, none⟩ = some (.int .i64 (es j).wid) := (HBr.out.cell (p := ⟨_, _, none⟩) hbl1).trans (hcl1 j hlt).2.2.2.2.1
        have c5 : wr.cell? ⟨b1, f1 + j * 6 + 5, none⟩ = some (.string (es j).heat) := (HBr.out.cell (p := ⟨_, _, none⟩) hbl1).trans (hcl1 j hlt).2.2.2.2.2
        have hbr : b1 < wr.heap.size := by omega

        clear hcl1
        by_cases i1 : 100 < (es j).id.size
        · have ki1 : decide (100 < ((es j).id.size : Int)) = true := decide_eq_true (by omega)
          have hno : (okS es) j = false := by
            cases hk : (okS es) j with
            | false => rfl
            | true => simp [okS] at hk; omega
          have hr : R = false := HNO1.out j hlt hl hno
          have HR0 := Lib.hid hr
          clear hr hno
          go_wp2
          go_returns
          rw [HR0.out]
          exact ⟨rfl, HBr.out⟩
        have ki1 : decide (100 < ((es j).id.size : Int)) = false := decide_eq_false (by omega)
        by_cases i2 : 100 < (es j).heat.size
        · have ki2 : decide (100 < ((es j).heat.size : Int)) = true := decide_eq_true (by omega)
          have hno : (okS es) j = false := by
            cases hk : (okS es) j with
            | false => rfl
            | true => simp [okS] at hk; omega
          have hr : R = false := HNO1.out j hlt hl hno
          have HR0 := Lib.hid hr
          clear hr hno
          go_wp2
          go_returns
          rw [HR0.out]
          exact ⟨rfl, HBr.out⟩
        have ki2 : decide (100 < ((es j).heat.size : Int)) = false := decide_eq_false (by omega)
        by_cases i3 : 100 < (es j).grade.size
        · have ki3 : decide (100 < ((es j).grade.size : Int)) = true := decide_eq_true (by omega)
          have hno : (okS es) j = false := by
            cases hk : (okS es) j with
            | false => rfl
            | true => simp [okS] at hk; omega
          have hr : R = false := HNO1.out j hlt hl hno
          have HR0 := Lib.hid hr
          clear hr hno
          go_wp2
          go_returns
          rw [HR0.out]
          exact ⟨rfl, HBr.out⟩
        have ki3 : decide (100 < ((es j).grade.size : Int)) = false := decide_eq_false (by omega)
        have hq2 : Hid (∀ i, i < j + 1 → (okS es) i = true) := fun i hi => by
          by_cases hij : i = j
          · subst hij; simp [okS]; omega
          · exact hq.out i (by omega)
        go_wp2
        go_roundw
        case rel => exact ⟨j + 1, by omega, by omega, by go_num, hq2, HBX.out⟩
        case measure => simp [intOf]; omega
      · have hjm : j = 141 := by omega
        have kl : decide ((j : Int) < 141) = false := decide_eq_false (by omega)
        have HQ1 : Hid (∀ i, i < min ns 141 → (okS es) i = true) := fun i hi => hq.out i (by omega)
        have HBp := Lib.hid HBr.out
        have t0 := s0
        have t1 := s1
        have zp := z0
        go_wp2
        obtain ⟨wp, hwp⟩ : ∃ wp, wp = wr := ⟨_, rfl⟩
        subst hwp
        clear hq HBX HBr
        go_loopw [4] (fun i wr => ∃ j : Nat, j ≤ nb ∧ j ≤ 141 ∧ i = .int .i64 j ∧ Hid (∀ i, i < j → (okB eb) i = true) ∧ Below wp.heap.size wp wr) (fun i _ => nb - (intOf i).toNat)
        case atStart => exact ⟨0, by omega, by omega, rfl, fun i hi => by omega, Below.refl _ _⟩
        case round =>
          obtain ⟨j, hj, hjl, rfl, hq, hB⟩ := hrel
          have HBr : Hid (Below w.heap.size w wr) := by
            show Below _ _ _
            exact below_step (w := w) HBp.out hB
          have HBX := Lib.hid hB
          have hs0 := hB.size
          (try simp only [World.size_alloc, World.size_setCell] at hs0)
          have z0 : w.heap.size < wr.heap.size := by omega
          have s0 : wr.cell? ⟨w.heap.size, 0, none⟩ = some (.slice oa ns ca) := (hB.cell (p := ⟨_, _, none⟩) zp).trans t0
          have s1 : wr.cell? ⟨w.heap.size, 1, none⟩ = some (.slice ob nb cb) := (hB.cell (p := ⟨_, _, none⟩) zp).trans t1
          clear hB hs0
          by_cases hlt : j < nb
          · by_cases hl : j < 141
            · have kl : decide ((j : Int) < 141) = true := decide_eq_true (by omega)
              obtain ⟨b1, f1, rfl, hbl1, hcl1⟩ := HEL2.out j hlt
              have c0 : wr.cell? ⟨b1, f1 + j * 5, none⟩ = some (.string (eb j).id) := (HBr.out.cell (p := ⟨_, _, none⟩) hbl1).trans (hcl1 j hlt).1
              have c1 : wr.cell? ⟨b1, f1 + j * 5 + 1, none⟩ = some (.string (eb j).sect) := (HBr.out.cell (p := ⟨_, _, none⟩) hbl1).trans (hcl1 j hlt).2.1
              have c2 : wr.cell? ⟨b1, f1 + j * 5 + 2, none⟩ = some (.string (eb j).grade) := (HBr.out.cell (p := ⟨_, _, none⟩) hbl1).trans (hcl1 j hlt).2.2.1
              have c3 : wr.cell? ⟨b1, f1 + j * 5 + 3, none⟩ = some (.int .i64 (eb j).len) := (HBr.out.cell (p := ⟨_, _, none⟩) hbl1).trans (hcl1 j hlt).2.2.2.1
              have c4 : wr.cell? ⟨b1, f1 + j * 5 + 4, none⟩ = some (.string (eb j).heat) := (HBr.out.cell (p := ⟨_, _, none⟩) hbl1).trans (hcl1 j hlt).2.2.2.2
              have hbr : b1 < wr.heap.size := by omega

              clear hcl1
              by_cases i1 : 100 < (eb j).id.size
              · have ki1 : decide (100 < ((eb j).id.size : Int)) = true := decide_eq_true (by omega)
                have hno : (okB eb) j = false := by
                  cases hk : (okB eb) j with
                  | false => rfl
                  | true => simp [okB] at hk; omega
                have hr : R = false := HNO2.out j hlt hl hno
                have HR0 := Lib.hid hr
                clear hr hno
                go_wp2
                go_returns
                rw [HR0.out]
                exact ⟨rfl, HBr.out⟩
              have ki1 : decide (100 < ((eb j).id.size : Int)) = false := decide_eq_false (by omega)
              by_cases i2 : 100 < (eb j).heat.size
              · have ki2 : decide (100 < ((eb j).heat.size : Int)) = true := decide_eq_true (by omega)
                have hno : (okB eb) j = false := by
                  cases hk : (okB eb) j with
                  | false => rfl
                  | true => simp [okB] at hk; omega
                have hr : R = false := HNO2.out j hlt hl hno
                have HR0 := Lib.hid hr
                clear hr hno
                go_wp2
                go_returns
                rw [HR0.out]
                exact ⟨rfl, HBr.out⟩
              have ki2 : decide (100 < ((eb j).heat.size : Int)) = false := decide_eq_false (by omega)
              by_cases i3 : 100 < (eb j).grade.size
              · have ki3 : decide (100 < ((eb j).grade.size : Int)) = true := decide_eq_true (by omega)
                have hno : (okB eb) j = false := by
                  cases hk : (okB eb) j with
                  | false => rfl
                  | true => simp [okB] at hk; omega
                have hr : R = false := HNO2.out j hlt hl hno
                have HR0 := Lib.hid hr
                clear hr hno
                go_wp2
                go_returns
                rw [HR0.out]
                exact ⟨rfl, HBr.out⟩
              have ki3 : decide (100 < ((eb j).grade.size : Int)) = false := decide_eq_false (by omega)
              by_cases i4 : 100 < (eb j).sect.size
              · have ki4 : decide (100 < ((eb j).sect.size : Int)) = true := decide_eq_true (by omega)
                have hno : (okB eb) j = false := by
                  cases hk : (okB eb) j with
                  | false => rfl
                  | true => simp [okB] at hk; omega
                have hr : R = false := HNO2.out j hlt hl hno
                have HR0 := Lib.hid hr
                clear hr hno
                go_wp2
                go_returns
                rw [HR0.out]
                exact ⟨rfl, HBr.out⟩
              have ki4 : decide (100 < ((eb j).sect.size : Int)) = false := decide_eq_false (by omega)
              have hq2 : Hid (∀ i, i < j + 1 → (okB eb) i = true) := fun i hi => by
                by_cases hij : i = j
                · subst hij; simp [okB]; omega
                · exact hq.out i (by omega)
              go_wp2
              go_roundw
              case rel => exact ⟨j + 1, by omega, by omega, by go_num, hq2, HBX.out⟩
              case measure => simp [intOf]; omega
            · have hjm : j = 141 := by omega
              have kl : decide ((j : Int) < 141) = false := decide_eq_false (by omega)
              have HFIN : Hid (R = (decide (ns ≤ 140) && decide (nb ≤ 140))) := by
                show _ = _
                rw [← HR.out, allTo_iff.2 HQ1.out, allTo_iff.2 (fun i hi => hq.out i (by omega))]
                rfl
              have kg1 : decide ((ns : Int) ≤ 140) = false := decide_eq_false (by omega)
              have HR0 : Hid (R = false) := by show _ = _; rw [HFIN.out, decide_eq_false (by omega : ¬ ns ≤ 140), Bool.false_and]
              go_wp2
              go_returns
              rw [HR0.out]
              exact ⟨rfl, HBr.out⟩
          · have hjm : j = nb := by omega
            have HFIN : Hid (R = (decide (ns ≤ 140) && decide (nb ≤ 140))) := by
              show _ = _
              rw [← HR.out, allTo_iff.2 HQ1.out, allTo_iff.2 (fun i hi => hq.out i (by omega))]
              rfl
            have kg1 : decide ((ns : Int) ≤ 140) = false := decide_eq_false (by omega)
            have HR0 : Hid (R = false) := by show _ = _; rw [HFIN.out, decide_eq_false (by omega : ¬ ns ≤ 140), Bool.false_and]
            go_wp2
            go_returns
            rw [HR0.out]
            exact ⟨rfl, HBr.out⟩
    · have hjm : j = ns := by omega
      have HQ1 : Hid (∀ i, i < min ns 141 → (okS es) i = true) := fun i hi => hq.out i (by omega)
      have HBp := Lib.hid HBr.out
      have t0 := s0
      have t1 := s1
      have zp := z0
      go_wp2
      obtain ⟨wp, hwp⟩ : ∃ wp, wp = wr := ⟨_, rfl⟩
      subst hwp
      clear hq HBX HBr
      go_loopw [4] (fun i wr => ∃ j : Nat, j ≤ nb ∧ j ≤ 141 ∧ i = .int .i64 j ∧ Hid (∀ i, i < j → (okB eb) i = true) ∧ Below wp.heap.size wp wr) (fun i _ => nb - (intOf i).toNat)
      case atStart => exact ⟨0, by omega, by omega, rfl, fun i hi => by omega, Below.refl _ _⟩
      case round =>
        obtain ⟨j, hj, hjl, rfl, hq, hB⟩ := hrel
        have HBr : Hid (Below w.heap.size w wr) := by
          show Below _ _ _
          exact below_step (w := w) HBp.out hB
        have HBX := Lib.hid hB
        have hs0 := hB.size
        (try simp only [World.size_alloc, World.size_setCell] at hs0)
        have z0 : w.heap.size < wr.heap.size := by omega
        have s0 : wr.cell? ⟨w.heap.size, 0, none⟩ = some (.slice oa ns ca) := (hB.cell (p := ⟨_, _, none⟩) zp).trans t0
        have s1 : wr.cell? ⟨w.heap.size, 1, none⟩ = some (.slice ob nb cb) := (hB.cell (p := ⟨_, _, none⟩) zp).trans t1
        clear hB hs0
        by_cases hlt : j < nb
        · by_cases hl : j < 141
          · have kl : decide ((j : Int) < 141) = true := decide_eq_true (by omega)
            obtain ⟨b1, f1, rfl, hbl1, hcl1⟩ := HEL2.out j hlt
            have c0 : wr.cell? ⟨b1, f1 + j * 5, none⟩ = some (.string (eb j).id) := (HBr.out.cell (p := ⟨_, _, none⟩) hbl1).trans (hcl1 j hlt).1
            have c1 : wr.cell? ⟨b1, f1 + j * 5 + 1, none⟩ = some (.string (eb j).sect) := (HBr.out.cell (p := ⟨_, _, none⟩) hbl1).trans (hcl1 j hlt).2.1
            have c2 : wr.cell? ⟨b1, f1 + j * 5 + 2, none⟩ = some (.string (eb j).grade) := (HBr.out.cell (p := ⟨_, _, none⟩) hbl1).trans (hcl1 j hlt).2.2.1
            have c3 : wr.cell? ⟨b1, f1 + j * 5 + 3, none⟩ = some (.int .i64 (eb j).len) := (HBr.out.cell (p := ⟨_, _, none⟩) hbl1).trans (hcl1 j hlt).2.2.2.1
            have c4 : wr.cell? ⟨b1, f1 + j * 5 + 4, none⟩ = some (.string (eb j).heat) := (HBr.out.cell (p := ⟨_, _, none⟩) hbl1).trans (hcl1 j hlt).2.2.2.2
            have hbr : b1 < wr.heap.size := by omega

            clear hcl1
            by_cases i1 : 100 < (eb j).id.size
            · have ki1 : decide (100 < ((eb j).id.size : Int)) = true := decide_eq_true (by omega)
              have hno : (okB eb) j = false := by
                cases hk : (okB eb) j with
                | false => rfl
                | true => simp [okB] at hk; omega
              have hr : R = false := HNO2.out j hlt hl hno
              have HR0 := Lib.hid hr
              clear hr hno
              go_wp2
              go_returns
              rw [HR0.out]
              exact ⟨rfl, HBr.out⟩
            have ki1 : decide (100 < ((eb j).id.size : Int)) = false := decide_eq_false (by omega)
            by_cases i2 : 100 < (eb j).heat.size
            · have ki2 : decide (100 < ((eb j).heat.size : Int)) = true := decide_eq_true (by omega)
              have hno : (okB eb) j = false := by
                cases hk : (okB eb) j with
                | false => rfl
                | true => simp [okB] at hk; omega
              have hr : R = false := HNO2.out j hlt hl hno
              have HR0 := Lib.hid hr
              clear hr hno
              go_wp2
              go_returns
              rw [HR0.out]
              exact ⟨rfl, HBr.out⟩
            have ki2 : decide (100 < ((eb j).heat.size : Int)) = false := decide_eq_false (by omega)
            by_cases i3 : 100 < (eb j).grade.size
            · have ki3 : decide (100 < ((eb j).grade.size : Int)) = true := decide_eq_true (by omega)
              have hno : (okB eb) j = false := by
                cases hk : (okB eb) j with
                | false => rfl
                | true => simp [okB] at hk; omega
              have hr : R = false := HNO2.out j hlt hl hno
              have HR0 := Lib.hid hr
              clear hr hno
              go_wp2
              go_returns
              rw [HR0.out]
              exact ⟨rfl, HBr.out⟩
            have ki3 : decide (100 < ((eb j).grade.size : Int)) = false := decide_eq_false (by omega)
            by_cases i4 : 100 < (eb j).sect.size
            · have ki4 : decide (100 < ((eb j).sect.size : Int)) = true := decide_eq_true (by omega)
              have hno : (okB eb) j = false := by
                cases hk : (okB eb) j with
                | false => rfl
                | true => simp [okB] at hk; omega
              have hr : R = false := HNO2.out j hlt hl hno
              have HR0 := Lib.hid hr
              clear hr hno
              go_wp2
              go_returns
              rw [HR0.out]
              exact ⟨rfl, HBr.out⟩
            have ki4 : decide (100 < ((eb j).sect.size : Int)) = false := decide_eq_false (by omega)
            have hq2 : Hid (∀ i, i < j + 1 → (okB eb) i = true) := fun i hi => by
              by_cases hij : i = j
              · subst hij; simp [okB]; omega
              · exact hq.out i (by omega)
            go_wp2
            go_roundw
            case rel => exact ⟨j + 1, by omega, by omega, by go_num, hq2, HBX.out⟩
            case measure => simp [intOf]; omega
          · have hjm : j = 141 := by omega
            have kl : decide ((j : Int) < 141) = false := decide_eq_false (by omega)
            have HFIN : Hid (R = (decide (ns ≤ 140) && decide (nb ≤ 140))) := by
              show _ = _
              rw [← HR.out, allTo_iff.2 HQ1.out, allTo_iff.2 (fun i hi => hq.out i (by omega))]
              rfl
            by_cases g1 : ns ≤ 140
            · have kg1 : decide ((ns : Int) ≤ 140) = true := decide_eq_true (by omega)
              have kg2 : decide ((nb : Int) ≤ 140) = false := decide_eq_false (by omega)
              have HR0 : Hid (R = false) := by show _ = _; rw [HFIN.out, decide_eq_false (by omega : ¬ nb ≤ 140), Bool.and_false]
              go_wp2
              go_returns
              rw [HR0.out]
              exact ⟨rfl, HBr.out⟩
            · have kg1 : decide ((ns : Int) ≤ 140) = false := decide_eq_false (by omega)
              have HR0 : Hid (R = false) := by show _ = _; rw [HFIN.out, decide_eq_false (by omega : ¬ ns ≤ 140), Bool.false_and]
              go_wp2
              go_returns
              rw [HR0.out]
              exact ⟨rfl, HBr.out⟩
        · have hjm : j = nb := by omega
          have HFIN : Hid (R = (decide (ns ≤ 140) && decide (nb ≤ 140))) := by
            show _ = _
            rw [← HR.out, allTo_iff.2 HQ1.out, allTo_iff.2 (fun i hi => hq.out i (by omega))]
            rfl
          by_cases g1 : ns ≤ 140
          · have kg1 : decide ((ns : Int) ≤ 140) = true := decide_eq_true (by omega)
            by_cases g2 : nb ≤ 140
            · have kg2 : decide ((nb : Int) ≤ 140) = true := decide_eq_true (by omega)
              have HR0 : Hid (R = true) := by show _ = _; rw [HFIN.out, decide_eq_true (by omega : ns ≤ 140), decide_eq_true (by omega : nb ≤ 140)]; rfl
              go_wp2
              go_returns
              rw [HR0.out]
              exact ⟨rfl, HBr.out⟩
            · have kg2 : decide ((nb : Int) ≤ 140) = false := decide_eq_false (by omega)
              have HR0 : Hid (R = false) := by show _ = _; rw [HFIN.out, decide_eq_false (by omega : ¬ nb ≤ 140), Bool.and_false]
              go_wp2
              go_returns
              rw [HR0.out]
              exact ⟨rfl, HBr.out⟩
          · have kg1 : decide ((ns : Int) ≤ 140) = false := decide_eq_false (by omega)
            have HR0 : Hid (R = false) := by show _ = _; rw [HFIN.out, decide_eq_false (by omega : ¬ ns ≤ 140), Bool.false_and]
            go_wp2
            go_returns
            rw [HR0.out]
            exact ⟨rfl, HBr.out⟩

set_option maxHeartbeats 8000000 in
theorem mfew_any (v : Value) (m : Mat) (gv : Nat → Value) (w : World) (h : ∃ vg vs, v = .agg #[vg, vs] ∧ GrAt w vg m gv ∧ SeAt w vs m) :
    Calls Tryz.prog 43 #[v] w fun e w' => e = .returned (.bool (mfewB m)) ∧ Below w.heap.size w w' := by
  obtain ⟨vg, vs, rfl, hG, hS⟩ := h
  have HG := Lib.hid hG
  obtain ⟨oa, ca, rfl, hna, hea⟩ := hG.form
  obtain ⟨ob, cb, rfl, hnb, heb⟩ := hS.form
  have HEL1 := Lib.hid hea
  have HEL2 := Lib.hid heb
  clear hG hS hea heb
  obtain ⟨R, hR⟩ : ∃ R, mfewB m = R := ⟨_, rfl⟩
  rw [hR]
  have HR : Hid ((allTo (okG m) (min m.ng 41) && (allTo (okE m) (min m.ns 41) && (decide (m.ng ≤ 40) && decide (m.ns ≤ 40)))) = R) := hR
  have HNO1 : Hid (∀ j, j < m.ng → j < 41 → (okG m) j = false → R = false) := fun j h1 h2 h3 => by rw [← HR.out, allTo_no (by omega : j < min m.ng 41) h3, Bool.false_and]
  have HNO2 : Hid (∀ j, j < m.ns → j < 41 → (okE m) j = false → R = false) := fun j h1 h2 h3 => by rw [← HR.out, allTo_no (by omega : j < min m.ns 41) h3, Bool.false_and, Bool.and_false]
  clear hR
  go_enter Tryz.func43, Tryz.ntmps43
  go_wp2
  go_loopw [3] (fun i wr => ∃ j : Nat, j ≤ m.ng ∧ j ≤ 41 ∧ i = .int .i64 j ∧ Hid (∀ i, i < j → (okG m) i = true) ∧ Below (w.alloc (.cells #[.slice oa m.ng ca, .slice ob m.ns cb] 29)).heap.size (w.alloc (.cells #[.slice oa m.ng ca, .slice ob m.ns cb] 29)) wr) (fun i _ => m.ng - (intOf i).toNat)
  case atStart => exact ⟨0, by omega, by omega, rfl, fun i hi => by omega, Below.refl _ _⟩
  case round =>
    obtain ⟨j, hj, hjl, rfl, hq, hB⟩ := hrel
    have HBr : Hid (Below w.heap.size w wr) := by
      show Below _ _ _
      exact below_step (w := w) (by go_grown) hB
    have HBX := Lib.hid hB
    have hs0 := hB.size
    (try simp only [World.size_alloc, World.size_setCell] at hs0)
    have z0 : w.heap.size < wr.heap.size := by omega
    have s0 : wr.cell? ⟨w.heap.size, 0, none⟩ = some (.slice oa m.ng ca) := (hB.cell (p := ⟨_, _, none⟩) (by simp <;> omega)).trans (by simp [go_sem])
    have s1 : wr.cell? ⟨w.heap.size, 1, none⟩ = some (.slice ob m.ns cb) := (hB.cell (p := ⟨_, _, none⟩) (by simp <;> omega)).trans (by simp [go_sem])
    clear hB hs0
    by_cases hlt : j < m.ng
    · by_cases hl : j < 41
      · have kl : decide ((j : Int) < 41) = true := decide_eq_true (by omega)
        obtain ⟨b1, f1, rfl, hbl1, hcl1⟩ := HEL1.out j hlt
        have c0 : wr.cell? ⟨b1, f1 + j * 4, none⟩ = some (.string (m.nm j)) := (HBr.out.cell (p := ⟨_, _, none⟩) hbl1).trans (hcl1 j hlt).1
        have c1 : wr.cell? ⟨b1, f1 + j * 4 + 1, none⟩ = some (.int .i64 (m.de j)) := (HBr.out.cell (p := ⟨_, _, none⟩) hbl1).trans (hcl1 j hlt).2.1
        have c2 : wr.cell? ⟨b1, f1 + j * 4 + 2, none⟩ = some (.int .i64 (m.yi j)) := (HBr.out.cell (p := ⟨_, _, none⟩) hbl1).trans (hcl1 j hlt).2.2.1
        have c3 : wr.cell? ⟨b1, f1 + j * 4 + 3, none⟩ = some (gv j) := (HBr.out.cell (p := ⟨_, _, none⟩) hbl1).trans (hcl1 j hlt).2.2.2
        have hbr : b1 < wr.heap.size := by omega
        obtain ⟨oc, cc, hcv, hcn, -⟩ := (HG.out.2 j hlt).form
        rw [hcv] at c3
        clear hcv
        clear hcl1
        by_cases i1 : 30 < m.gn j
        · have ki1 : decide (30 < (m.gn j : Int)) = true := decide_eq_true (by omega)
          have hno : (okG m) j = false := by
            cases hk : (okG m) j with
            | false => rfl
            | true => simp [okG] at hk; omega
          have hr : R = false := HNO1.out j hlt hl hno
          have HR0 := Lib.hid hr
          clear hr hno
          go_wp2
          go_returns
          rw [HR0.out]
          exact ⟨rfl, HBr.out⟩
        have ki1 : decide (30 < (m.gn j : Int)) = false := decide_eq_false (by omega)
        by_cases i2 : 40 < (m.nm j).size
        · have ki2 : decide (40 < ((m.nm j).size : Int)) = true := decide_eq_true (by omega)
          have hno : (okG m) j = false := by
            cases hk : (okG m) j with
            | false => rfl
            | true => simp [okG] at hk; omega
          have hr : R = false := HNO1.out j hlt hl hno
          have HR0 := Lib.hid hr
          clear hr hno
          go_wp2
          go_returns
          rw [HR0.out]
          exact ⟨rfl, HBr.out⟩
        have ki2 : decide (40 < ((m.nm j).size : Int)) = false := decide_eq_false (by omega)
        have hq2 : Hid (∀ i, i < j + 1 → (okG m) i = true) := fun i hi => by
          by_cases hij : i = j
          · subst hij; simp [okG]; omega
          · exact hq.out i (by omega)
        go_wp2
        go_roundw
        case rel => exact ⟨j + 1, by omega, by omega, by go_num, hq2, HBX.out⟩
        case measure => simp [intOf]; omega
      · have hjm : j = 41 := by omega
        have kl : decide ((j : Int) < 41) = false := decide_eq_false (by omega)
        have HQ1 : Hid (∀ i, i < min m.ng 41 → (okG m) i = true) := fun i hi => hq.out i (by omega)
        have HBp := Lib.hid HBr.out
        have t0 := s0
        have t1 := s1
        have zp := z0
        go_wp2
        obtain ⟨wp, hwp⟩ : ∃ wp, wp = wr := ⟨_, rfl⟩
        subst hwp
        clear hq HBX HBr
        go_loopw [4] (fun i wr => ∃ j : Nat, j ≤ m.ns ∧ j ≤ 41 ∧ i = .int .i64 j ∧ Hid (∀ i, i < j → (okE m) i = true) ∧ Below wp.heap.size wp wr) (fun i _ => m.ns - (intOf i).toNat)
        case atStart => exact ⟨0, by omega, by omega, rfl, fun i hi => by omega, Below.refl _ _⟩
        case round =>
          obtain ⟨j, hj, hjl, rfl, hq, hB⟩ := hrel
          have HBr : Hid (Below w.heap.size w wr) := by
            show Below _ _ _
            exact below_step (w := w) HBp.out hB
          have HBX := Lib.hid hB
          have hs0 := hB.size
          (try simp only [World.size_alloc, World.size_setCell] at hs0)
          have z0 : w.heap.size < wr.heap.size := by omega
          have s0 : wr.cell? ⟨w.heap.size, 0, none⟩ = some (.slice oa m.ng ca) := (hB.cell (p := ⟨_, _, none⟩) zp).trans t0
          have s1 : wr.cell? ⟨w.heap.size, 1, none⟩ = some (.slice ob m.ns cb) := (hB.cell (p := ⟨_, _, none⟩) zp).trans t1
          clear hB hs0
          by_cases hlt : j < m.ns
          · by_cases hl : j < 41
            · have kl : decide ((j : Int) < 41) = true := decide_eq_true (by omega)
              obtain ⟨b1, f1, rfl, hbl1, hcl1⟩ := HEL2.out j hlt
              have c0 : wr.cell? ⟨b1, f1 + j * 4, none⟩ = some (.string (m.sn j)) := (HBr.out.cell (p := ⟨_, _, none⟩) hbl1).trans (hcl1 j hlt).1
              have c1 : wr.cell? ⟨b1, f1 + j * 4 + 1, none⟩ = some (.int .i64 (m.sa j)) := (HBr.out.cell (p := ⟨_, _, none⟩) hbl1).trans (hcl1 j hlt).2.1
              have c2 : wr.cell? ⟨b1, f1 + j * 4 + 2, none⟩ = some (.int .i64 (m.sh j)) := (HBr.out.cell (p := ⟨_, _, none⟩) hbl1).trans (hcl1 j hlt).2.2.1
              have c3 : wr.cell? ⟨b1, f1 + j * 4 + 3, none⟩ = some (.int .i64 (m.ss j)) := (HBr.out.cell (p := ⟨_, _, none⟩) hbl1).trans (hcl1 j hlt).2.2.2
              have hbr : b1 < wr.heap.size := by omega

              clear hcl1
              by_cases i1 : 40 < (m.sn j).size
              · have ki1 : decide (40 < ((m.sn j).size : Int)) = true := decide_eq_true (by omega)
                have hno : (okE m) j = false := by
                  cases hk : (okE m) j with
                  | false => rfl
                  | true => simp [okE] at hk; omega
                have hr : R = false := HNO2.out j hlt hl hno
                have HR0 := Lib.hid hr
                clear hr hno
                go_wp2
                go_returns
                rw [HR0.out]
                exact ⟨rfl, HBr.out⟩
              have ki1 : decide (40 < ((m.sn j).size : Int)) = false := decide_eq_false (by omega)
              have hq2 : Hid (∀ i, i < j + 1 → (okE m) i = true) := fun i hi => by
                by_cases hij : i = j
                · subst hij; simp [okE]; omega
                · exact hq.out i (by omega)
              go_wp2
              go_roundw
              case rel => exact ⟨j + 1, by omega, by omega, by go_num, hq2, HBX.out⟩
              case measure => simp [intOf]; omega
            · have hjm : j = 41 := by omega
              have kl : decide ((j : Int) < 41) = false := decide_eq_false (by omega)
              have HFIN : Hid (R = (decide (m.ng ≤ 40) && decide (m.ns ≤ 40))) := by
                show _ = _
                rw [← HR.out, allTo_iff.2 HQ1.out, allTo_iff.2 (fun i hi => hq.out i (by omega))]
                rfl
              have kg1 : decide ((m.ng : Int) ≤ 40) = false := decide_eq_false (by omega)
              have HR0 : Hid (R = false) := by show _ = _; rw [HFIN.out, decide_eq_false (by omega : ¬ m.ng ≤ 40), Bool.false_and]
              go_wp2
              go_returns
              rw [HR0.out]
              exact ⟨rfl, HBr.out⟩
          · have hjm : j = m.ns := by omega
            have HFIN : Hid (R = (decide (m.ng ≤ 40) && decide (m.ns ≤ 40))) := by
              show _ = _
              rw [← HR.out, allTo_iff.2 HQ1.out, allTo_iff.2 (fun i hi => hq.out i (by omega))]
              rfl
            have kg1 : decide ((m.ng : Int) ≤ 40) = false := decide_eq_false (by omega)
            have HR0 : Hid (R = false) := by show _ = _; rw [HFIN.out, decide_eq_false (by omega : ¬ m.ng ≤ 40), Bool.false_and]
            go_wp2
            go_returns
            rw [HR0.out]
            exact ⟨rfl, HBr.out⟩
    · have hjm : j = m.ng := by omega
      have HQ1 : Hid (∀ i, i < min m.ng 41 → (okG m) i = true) := fun i hi => hq.out i (by omega)
      have HBp := Lib.hid HBr.out
      have t0 := s0
      have t1 := s1
      have zp := z0
      go_wp2
      obtain ⟨wp, hwp⟩ : ∃ wp, wp = wr := ⟨_, rfl⟩
      subst hwp
      clear hq HBX HBr
      go_loopw [4] (fun i wr => ∃ j : Nat, j ≤ m.ns ∧ j ≤ 41 ∧ i = .int .i64 j ∧ Hid (∀ i, i < j → (okE m) i = true) ∧ Below wp.heap.size wp wr) (fun i _ => m.ns - (intOf i).toNat)
      case atStart => exact ⟨0, by omega, by omega, rfl, fun i hi => by omega, Below.refl _ _⟩
      case round =>
        obtain ⟨j, hj, hjl, rfl, hq, hB⟩ := hrel
        have HBr : Hid (Below w.heap.size w wr) := by
          show Below _ _ _
          exact below_step (w := w) HBp.out hB
        have HBX := Lib.hid hB
        have hs0 := hB.size
        (try simp only [World.size_alloc, World.size_setCell] at hs0)
        have z0 : w.heap.size < wr.heap.size := by omega
        have s0 : wr.cell? ⟨w.heap.size, 0, none⟩ = some (.slice oa m.ng ca) := (hB.cell (p := ⟨_, _, none⟩) zp).trans t0
        have s1 : wr.cell? ⟨w.heap.size, 1, none⟩ = some (.slice ob m.ns cb) := (hB.cell (p := ⟨_, _, none⟩) zp).trans t1
        clear hB hs0
        by_cases hlt : j < m.ns
        · by_cases hl : j < 41
          · have kl : decide ((j : Int) < 41) = true := decide_eq_true (by omega)
            obtain ⟨b1, f1, rfl, hbl1, hcl1⟩ := HEL2.out j hlt
            have c0 : wr.cell? ⟨b1, f1 + j * 4, none⟩ = some (.string (m.sn j)) := (HBr.out.cell (p := ⟨_, _, none⟩) hbl1).trans (hcl1 j hlt).1
            have c1 : wr.cell? ⟨b1, f1 + j * 4 + 1, none⟩ = some (.int .i64 (m.sa j)) := (HBr.out.cell (p := ⟨_, _, none⟩) hbl1).trans (hcl1 j hlt).2.1
            have c2 : wr.cell? ⟨b1, f1 + j * 4 + 2, none⟩ = some (.int .i64 (m.sh j)) := (HBr.out.cell (p := ⟨_, _, none⟩) hbl1).trans (hcl1 j hlt).2.2.1
            have c3 : wr.cell? ⟨b1, f1 + j * 4 + 3, none⟩ = some (.int .i64 (m.ss j)) := (HBr.out.cell (p := ⟨_, _, none⟩) hbl1).trans (hcl1 j hlt).2.2.2
            have hbr : b1 < wr.heap.size := by omega

            clear hcl1
            by_cases i1 : 40 < (m.sn j).size
            · have ki1 : decide (40 < ((m.sn j).size : Int)) = true := decide_eq_true (by omega)
              have hno : (okE m) j = false := by
                cases hk : (okE m) j with
                | false => rfl
                | true => simp [okE] at hk; omega
              have hr : R = false := HNO2.out j hlt hl hno
              have HR0 := Lib.hid hr
              clear hr hno
              go_wp2
              go_returns
              rw [HR0.out]
              exact ⟨rfl, HBr.out⟩
            have ki1 : decide (40 < ((m.sn j).size : Int)) = false := decide_eq_false (by omega)
            have hq2 : Hid (∀ i, i < j + 1 → (okE m) i = true) := fun i hi => by
              by_cases hij : i = j
              · subst hij; simp [okE]; omega
              · exact hq.out i (by omega)
            go_wp2
            go_roundw
            case rel => exact ⟨j + 1, by omega, by omega, by go_num, hq2, HBX.out⟩
            case measure => simp [intOf]; omega
          · have hjm : j = 41 := by omega
            have kl : decide ((j : Int) < 41) = false := decide_eq_false (by omega)
            have HFIN : Hid (R = (decide (m.ng ≤ 40) && decide (m.ns ≤ 40))) := by
              show _ = _
              rw [← HR.out, allTo_iff.2 HQ1.out, allTo_iff.2 (fun i hi => hq.out i (by omega))]
              rfl
            by_cases g1 : m.ng ≤ 40
            · have kg1 : decide ((m.ng : Int) ≤ 40) = true := decide_eq_true (by omega)
              have kg2 : decide ((m.ns : Int) ≤ 40) = false := decide_eq_false (by omega)
              have HR0 : Hid (R = false) := by show _ = _; rw [HFIN.out, decide_eq_false (by omega : ¬ m.ns ≤ 40), Bool.and_false]
              go_wp2
              go_returns
              rw [HR0.out]
              exact ⟨rfl, HBr.out⟩
            · have kg1 : decide ((m.ng : Int) ≤ 40) = false := decide_eq_false (by omega)
              have HR0 : Hid (R = false) := by show _ = _; rw [HFIN.out, decide_eq_false (by omega : ¬ m.ng ≤ 40), Bool.false_and]
              go_wp2
              go_returns
              rw [HR0.out]
              exact ⟨rfl, HBr.out⟩
        · have hjm : j = m.ns := by omega
          have HFIN : Hid (R = (decide (m.ng ≤ 40) && decide (m.ns ≤ 40))) := by
            show _ = _
            rw [← HR.out, allTo_iff.2 HQ1.out, allTo_iff.2 (fun i hi => hq.out i (by omega))]
            rfl
          by_cases g1 : m.ng ≤ 40
          · have kg1 : decide ((m.ng : Int) ≤ 40) = true := decide_eq_true (by omega)
            by_cases g2 : m.ns ≤ 40
            · have kg2 : decide ((m.ns : Int) ≤ 40) = true := decide_eq_true (by omega)
              have HR0 : Hid (R = true) := by show _ = _; rw [HFIN.out, decide_eq_true (by omega : m.ng ≤ 40), decide_eq_true (by omega : m.ns ≤ 40)]; rfl
              go_wp2
              go_returns
              rw [HR0.out]
              exact ⟨rfl, HBr.out⟩
            · have kg2 : decide ((m.ns : Int) ≤ 40) = false := decide_eq_false (by omega)
              have HR0 : Hid (R = false) := by show _ = _; rw [HFIN.out, decide_eq_false (by omega : ¬ m.ns ≤ 40), Bool.and_false]
              go_wp2
              go_returns
              rw [HR0.out]
              exact ⟨rfl, HBr.out⟩
          · have kg1 : decide ((m.ng : Int) ≤ 40) = false := decide_eq_false (by omega)
            have HR0 : Hid (R = false) := by show _ = _; rw [HFIN.out, decide_eq_false (by omega : ¬ m.ng ≤ 40), Bool.false_and]
            go_wp2
            go_returns
            rw [HR0.out]
            exact ⟨rfl, HBr.out⟩
end Go.Proofs.YtiddpaaihloopaaGreatDoor
