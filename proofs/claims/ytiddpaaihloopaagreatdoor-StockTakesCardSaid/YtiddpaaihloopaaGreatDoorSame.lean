/-
  slices.Equal at plates and bars, by walks. Conditions: none. By an AI agent.
-/
import Derived.Test.YtiddpaaihloopaaGreatDoorStockP
import Derived.Test.YtiddpaaihloopaaGreatDoorRelw
namespace Go.Proofs.YtiddpaaihloopaaGreatDoor
open Go Go.ChangeShapes Go.WideShapes Go.RowKit Go.ChangeAt
set_option linter.unusedVariables false
set_option linter.unusedSimpArgs false
set_option maxRecDepth 100000
def sameB {α : Type} (eq : α → α → Bool) (n n' : Nat) (e f : Nat → α) : Bool := decide (n = n') && allTo (fun i => eq (e i) (f i)) n
theorem sameB_iff {α : Type} {eq : α → α → Bool} (heq : ∀ x y, eq x y = true ↔ x = y) {n n' : Nat} {e f : Nat → α} : sameB eq n n' e f = true ↔ n = n' ∧ ∀ i, i < n → e i = f i := by
  unfold sameB
  simp only [Bool.and_eq_true, decide_eq_true_eq, allTo_iff, heq]

def Sh.eqB (x y : Sh) : Bool := x.id.toList == y.id.toList && (x.grade.toList == y.grade.toList && (x.thick == y.thick && (x.len == y.len && (x.wid == y.wid && (x.heat.toList == y.heat.toList)))))
theorem Sh.eqB_iff {x y : Sh} : Sh.eqB x y = true ↔ x = y := by
  obtain ⟨a0, a1, a2, a3, a4, a5⟩ := x
  obtain ⟨b0, b1, b2, b3, b4, b5⟩ := y
  simp only [Sh.eqB, Bool.and_eq_true, beq_iff_eq, Sh.mk.injEq]
  constructor
  · rintro ⟨h0, h1, h2, h3, h4, h5⟩
    exact ⟨toList_inj h0, toList_inj h1, h2, h3, h4, toList_inj h5⟩
  · rintro ⟨rfl, rfl, rfl, rfl, rfl, rfl⟩
    simp
set_option maxHeartbeats 1000000 in
theorem neq_Sheet (x y : Sh) (W : World) : (binOp .neq 31 x.val y.val).run Tryz.prog W = .ok (.bool (!Sh.eqB x y)) W := by
  obtain ⟨a0, a1, a2, a3, a4, a5⟩ := x
  obtain ⟨b0, b1, b2, b3, b4, b5⟩ := y
  simp only [Sh.val, Sh.eqB]
  go_simp
  by_cases h0 : a0.toList = b0.toList <;> by_cases h1 : a1.toList = b1.toList <;> by_cases h2 : a2 = b2 <;> by_cases h3 : a3 = b3 <;> by_cases h4 : a4 = b4 <;> by_cases h5 : a5.toList = b5.toList <;> simp [h0, h1, h2, h3, h4, h5]

set_option maxHeartbeats 4000000 in
theorem equal_Sheet (v u : Value) (n n' : Nat) (e f : Nat → Sh) (w : World) (h : ShAt w v n e) (h' : ShAt w u n' f) :
    Calls Tryz.prog 48 #[v, u] w fun e' w' => e' = .returned (.bool (sameB Sh.eqB n n' e f)) ∧ Below w.heap.size w w' := by
  obtain ⟨oa, ca, rfl, hna, hca, hea⟩ := h.form
  obtain ⟨ob, cb, rfl, hnb, hcb, heb⟩ := h'.form
  have HEA := Lib.hid hea
  have HEB := Lib.hid heb
  clear h h' hea heb
  obtain ⟨R, hR⟩ : ∃ R, sameB Sh.eqB n n' e f = R := ⟨_, rfl⟩
  rw [hR]
  by_cases hnn : n = n'
  · subst hnn
    have HR : Hid (allTo (fun i => Sh.eqB (e i) (f i)) n = R) := by show _ = _; rw [← hR]; unfold sameB; simp
    have k0 : ((n : Int) != (n : Int)) = false := by simp
    clear hR
    go_enter Tryz.func48, Tryz.ntmps48
    go_wp2
    go_loopw [5, 13] (fun _ i wr => ∃ j : Nat, j ≤ n ∧ i = .int .i64 j ∧ Hid (∀ i, i < j → Sh.eqB (e i) (f i) = true) ∧ Below w.heap.size w wr) (fun _ i _ => n - (intOf i).toNat)
    case atStart => exact ⟨0, by omega, rfl, fun i hi => by omega, Below.refl _ _⟩
    case round =>
      obtain ⟨j, hj, rfl, hq, hB⟩ := hrel
      have HBr := Lib.hid hB
      by_cases hlt : j < n
      · obtain ⟨b1, f1, rfl, hbl1, hcl1⟩ := HEA.out j hlt
        obtain ⟨b2, f2, rfl, hbl2, hcl2⟩ := HEB.out j hlt
        have c0 : wr.cell? ⟨b1, f1 + j * 6, none⟩ = some (.string (e j).id) := (hB.cell (p := ⟨_, _, none⟩) hbl1).trans (hcl1 j hlt).1
        have c1 : wr.cell? ⟨b1, f1 + j * 6 + 1, none⟩ = some (.string (e j).grade) := (hB.cell (p := ⟨_, _, none⟩) hbl1).trans (hcl1 j hlt).2.1
        have c2 : wr.cell? ⟨b1, f1 + j * 6 + 2, none⟩ = some (.int .i64 (e j).thick) := (hB.cell (p := ⟨_, _, none⟩) hbl1).trans (hcl1 j hlt).2.2.1
        have c3 : wr.cell? ⟨b1, f1 + j * 6 + 3, none⟩ = some (.int .i64 (e j).len) := (hB.cell (p := ⟨_, _, none⟩) hbl1).trans (hcl1 j hlt).2.2.2.1
        have c4 : wr.cell? ⟨b1, f1 + j * 6 + 4, none⟩ = some (.int .i64 (e j).wid) := (hB.cell (p := ⟨_, _, none⟩) hbl1).trans (hcl1 j hlt).2.2.2.2.1
        have c5 : wr.cell? ⟨b1, f1 + j * 6 + 5, none⟩ = some (.string (e j).heat) := (hB.cell (p := ⟨_, _, none⟩) hbl1).trans (hcl1 j hlt).2.2.2.2.2
        have d0 : wr.cell? ⟨b2, f2 + j * 6, none⟩ = some (.string (f j).id) := (hB.cell (p := ⟨_, _, none⟩) hbl2).trans (hcl2 j hlt).1
        have d1 : wr.cell? ⟨b2, f2 + j * 6 + 1, none⟩ = some (.string (f j).grade) := (hB.cell (p := ⟨_, _, none⟩) hbl2).trans (hcl2 j hlt).2.1
        have d2 : wr.cell? ⟨b2, f2 + j * 6 + 2, none⟩ = some (.int .i64 (f j).thick) := (hB.cell (p := ⟨_, _, none⟩) hbl2).trans (hcl2 j hlt).2.2.1
        have d3 : wr.cell? ⟨b2, f2 + j * 6 + 3, none⟩ = some (.int .i64 (f j).len) := (hB.cell (p := ⟨_, _, none⟩) hbl2).trans (hcl2 j hlt).2.2.2.1
        have d4 : wr.cell? ⟨b2, f2 + j * 6 + 4, none⟩ = some (.int .i64 (f j).wid) := (hB.cell (p := ⟨_, _, none⟩) hbl2).trans (hcl2 j hlt).2.2.2.2.1
        have d5 : wr.cell? ⟨b2, f2 + j * 6 + 5, none⟩ = some (.string (f j).heat) := (hB.cell (p := ⟨_, _, none⟩) hbl2).trans (hcl2 j hlt).2.2.2.2.2
        have hbr1 : b1 < wr.heap.size := by have := hB.size; omega
        have hbr2 : b2 < wr.heap.size := by have := hB.size; omega
        have hneq : ∀ W, (binOp .neq 31 (.agg #[.string (e j).id, .string (e j).grade, .int .i64 (e j).thick, .int .i64 (e j).len, .int .i64 (e j).wid, .string (e j).heat]) (.agg #[.string (f j).id, .string (f j).grade, .int .i64 (f j).thick, .int .i64 (f j).len, .int .i64 (f j).wid, .string (f j).heat])).run Tryz.prog W = .ok (.bool (!Sh.eqB (e j) (f j))) W := neq_Sheet (e j) (f j)
        obtain ⟨Q, hQ⟩ : ∃ Q, Sh.eqB (e j) (f j) = Q := ⟨_, rfl⟩
        have HQ := Lib.hid hQ
        rw [hQ] at hneq
        clear hcl1 hcl2 hB hQ
        go_wp2_with fail
        refine wp_region_relw 9 (by kernel_rfl) (by kernel_rfl) (by kernel_rfl) ?_
        simp only [List.take_succ_cons, List.take_zero, fillL, Act.put, List.setIfInBounds_toArray, List.set_cons_zero, List.set_cons_succ]
        apply rel_is
        · intro u wx hb hd
          have hz := hb.size
          (try simp only [World.size_alloc, World.size_setCell] at hz)
          have hz0 : b1 < wx.heap.size := by omega
          have hz1 : b2 < wx.heap.size := by omega
          obtain ⟨hc, hf⟩ := bcell hb
          have HBX := Lib.hid hb
          clear hb hz
          simp [depsS, Region.binds, updS, Stay.is, Stay.any] at hd
          go_simp
          first | exact ⟨Below.refl _ _, rfl⟩ | rfl
        apply rel_is
        · intro u wx hb hd
          have hz := hb.size
          (try simp only [World.size_alloc, World.size_setCell] at hz)
          have hz0 : b1 < wx.heap.size := by omega
          have hz1 : b2 < wx.heap.size := by omega
          obtain ⟨hc, hf⟩ := bcell hb
          have HBX := Lib.hid hb
          clear hb hz
          simp [depsS, Region.binds, updS, Stay.is, Stay.any] at hd
          go_simp
          first | exact ⟨Below.refl _ _, rfl⟩ | rfl
        apply rel_is
        · intro u wx hb hd
          have hz := hb.size
          (try simp only [World.size_alloc, World.size_setCell] at hz)
          have hz0 : b1 < wx.heap.size := by omega
          have hz1 : b2 < wx.heap.size := by omega
          obtain ⟨hc, hf⟩ := bcell hb
          have HBX := Lib.hid hb
          clear hb hz
          simp [depsS, Region.binds, updS, Stay.is, Stay.any] at hd
          go_simp
          first | exact ⟨Below.refl _ _, rfl⟩ | rfl
        apply rel_is
        · intro u wx hb hd
          have hz := hb.size
          (try simp only [World.size_alloc, World.size_setCell] at hz)
          have hz0 : b1 < wx.heap.size := by omega
          have hz1 : b2 < wx.heap.size := by omega
          obtain ⟨hc, hf⟩ := bcell hb
          have HBX := Lib.hid hb
          clear hb hz
          simp [depsS, Region.binds, updS, Stay.is, Stay.any] at hd
          go_simp
          first | exact ⟨Below.refl _ _, rfl⟩ | rfl
        apply rel_is
        · intro u wx hb hd
          have hz := hb.size
          (try simp only [World.size_alloc, World.size_setCell] at hz)
          have hz0 : b1 < wx.heap.size := by omega
          have hz1 : b2 < wx.heap.size := by omega
          obtain ⟨hc, hf⟩ := bcell hb
          have HBX := Lib.hid hb
          clear hb hz
          simp [depsS, Region.binds, updS, Stay.is, Stay.any] at hd
          go_simp
          first | exact ⟨Below.refl _ _, rfl⟩ | rfl
        apply rel_is
        · intro u wx hb hd
          have hz := hb.size
          (try simp only [World.size_alloc, World.size_setCell] at hz)
          have hz0 : b1 < wx.heap.size := by omega
          have hz1 : b2 < wx.heap.size := by omega
          obtain ⟨hc, hf⟩ := bcell hb
          have HBX := Lib.hid hb
          clear hb hz
          simp [depsS, Region.binds, updS, Stay.is, Stay.any] at hd
          go_simp
          first | exact ⟨Below.refl _ _, rfl⟩ | rfl
        apply rel_is
        · intro u wx hb hd
          have hz := hb.size
          (try simp only [World.size_alloc, World.size_setCell] at hz)
          have hz0 : b1 < wx.heap.size := by omega
          have hz1 : b2 < wx.heap.size := by omega
          obtain ⟨hc, hf⟩ := bcell hb
          have HBX := Lib.hid hb
          clear hb hz
          simp [depsS, Region.binds, updS, Stay.is, Stay.any] at hd
          go_simp
          first | exact ⟨Below.refl _ _, rfl⟩ | rfl
        apply rel_is
        · intro u wx hb hd
          have hz := hb.size
          (try simp only [World.size_alloc, World.size_setCell] at hz)
          have hz0 : b1 < wx.heap.size := by omega
          have hz1 : b2 < wx.heap.size := by omega
          obtain ⟨hc, hf⟩ := bcell hb
          have HBX := Lib.hid hb
          clear hb hz
          simp [depsS, Region.binds, updS, Stay.is, Stay.any] at hd
          go_simp
          first | exact ⟨Below.refl _ _, rfl⟩ | rfl
        apply rel_is
        · intro u wx hb hd
          have hz := hb.size
          (try simp only [World.size_alloc, World.size_setCell] at hz)
          have hz0 : b1 < wx.heap.size := by omega
          have hz1 : b2 < wx.heap.size := by omega
          obtain ⟨hc, hf⟩ := bcell hb
          have HBX := Lib.hid hb
          clear hb hz
          simp [depsS, Region.binds, updS, Stay.is, Stay.any] at hd
          go_simp
          first | exact ⟨Below.refl _ _, rfl⟩ | rfl
        intro u w5 hb hE
        have e0 : u 0 = _ := endS_get hE 0 (by decide)
        have e1 : u 1 = _ := endS_get hE 1 (by decide)
        have e2 : u 2 = _ := endS_get hE 2 (by decide)
        have e3 : u 3 = _ := endS_get hE 3 (by decide)
        have e4 : u 4 = _ := endS_get hE 4 (by decide)
        have e5 : u 5 = _ := endS_get hE 5 (by decide)
        have e6 : u 6 = _ := endS_get hE 6 (by decide)
        have e7 : u 7 = _ := endS_get hE 7 (by decide)
        have e8 : u 8 = _ := endS_get hE 8 (by decide)
        simp only [List.drop_succ_cons, List.drop_zero, List.take_succ_cons, List.take_zero, fillL, Act.put, List.setIfInBounds_toArray, List.set_cons_zero, List.set_cons_succ, e0, e1, e2, e3, e4, e5, e6, e7, e8]
        clear e0 e1 e2 e3 e4 e5 e6 e7 e8 hE
        have HBw5 := Lib.hid (below_step (w := wr) (by first | assumption | go_grown) hb)
        have HBXw5 := Lib.hid hb
        have hzw5 := hb.size
        (try simp only [World.size_alloc, World.size_setCell] at hzw5)
        have hzw50 : b1 < w5.heap.size := by omega
        have hzw51 : b2 < w5.heap.size := by omega
        obtain ⟨hcw5, hfw5⟩ := bcell hb
        clear hb hzw5
        cases Q with
        | true =>
          have hq2 : Hid (∀ i, i < j + 1 → Sh.eqB (e i) (f i) = true) := fun i hi => by
            by_cases hij : i = j
            · subst hij; exact HQ.out
            · exact hq.out i (by omega)
          have HBN : Hid (Below w.heap.size w w5) := below_step HBr.out HBXw5.out
          go_wp2
          go_roundw
          case rel => exact ⟨j + 1, by omega, by go_num, hq2, HBN.out⟩
          case measure => simp [intOf]; omega
        | false =>
          have hr : R = false := by rw [← HR.out]; exact allTo_no hlt HQ.out
          have HR0 := Lib.hid hr
          have HBN : Hid (Below w.heap.size w w5) := below_step HBr.out HBXw5.out
          clear hr
          go_wp2
          go_returns
          rw [HR0.out]
          exact ⟨rfl, HBN.out⟩
      · have hr : R = true := by rw [← HR.out]; exact allTo_iff.2 (fun i hi => hq.out i (by omega))
        have HR0 := Lib.hid hr
        clear hr hB
        go_wp2
        go_returns
        rw [HR0.out]
        exact ⟨rfl, HBr.out⟩
  · have HR0 : Hid (R = false) := by show _ = _; rw [← hR]; unfold sameB; rw [decide_eq_false hnn, Bool.false_and]
    have k0 : ((n : Int) != (n' : Int)) = true := by simp; omega
    clear hR
    go_enter Tryz.func48, Tryz.ntmps48
    go_wp2
    go_returns
    rw [HR0.out]
    exact ⟨rfl, by go_grown⟩

def Br.eqB (x y : Br) : Bool := x.id.toList == y.id.toList && (x.sect.toList == y.sect.toList && (x.grade.toList == y.grade.toList && (x.len == y.len && (x.heat.toList == y.heat.toList))))
theorem Br.eqB_iff {x y : Br} : Br.eqB x y = true ↔ x = y := by
  obtain ⟨a0, a1, a2, a3, a4⟩ := x
  obtain ⟨b0, b1, b2, b3, b4⟩ := y
  simp only [Br.eqB, Bool.and_eq_true, beq_iff_eq, Br.mk.injEq]
  constructor
  · rintro ⟨h0, h1, h2, h3, h4⟩
    exact ⟨toList_inj h0, toList_inj h1, toList_inj h2, h3, toList_inj h4⟩
  · rintro ⟨rfl, rfl, rfl, rfl, rfl⟩
    simp
set_option maxHeartbeats 1000000 in
theorem neq_Bar (x y : Br) (W : World) : (binOp .neq 33 x.val y.val).run Tryz.prog W = .ok (.bool (!Br.eqB x y)) W := by
  obtain ⟨a0, a1, a2, a3, a4⟩ := x
  obtain ⟨b0, b1, b2, b3, b4⟩ := y
  simp only [Br.val, Br.eqB]
  go_simp
  by_cases h0 : a0.toList = b0.toList <;> by_cases h1 : a1.toList = b1.toList <;> by_cases h2 : a2.toList = b2.toList <;> by_cases h3 : a3 = b3 <;> by_cases h4 : a4.toList = b4.toList <;> simp [h0, h1, h2, h3, h4]

set_option maxHeartbeats 4000000 in
theorem equal_Bar (v u : Value) (n n' : Nat) (e f : Nat → Br) (w : World) (h : BrAt w v n e) (h' : BrAt w u n' f) :
    Calls Tryz.prog 49 #[v, u] w fun e' w' => e' = .returned (.bool (sameB Br.eqB n n' e f)) ∧ Below w.heap.size w w' := by
  obtain ⟨oa, ca, rfl, hna, hca, hea⟩ := h.form
  obtain ⟨ob, cb, rfl, hnb, hcb, heb⟩ := h'.form
  have HEA := Lib.hid hea
  have HEB := Lib.hid heb
  clear h h' hea heb
  obtain ⟨R, hR⟩ : ∃ R, sameB Br.eqB n n' e f = R := ⟨_, rfl⟩
  rw [hR]
  by_cases hnn : n = n'
  · subst hnn
    have HR : Hid (allTo (fun i => Br.eqB (e i) (f i)) n = R) := by show _ = _; rw [← hR]; unfold sameB; simp
    have k0 : ((n : Int) != (n : Int)) = false := by simp
    clear hR
    go_enter Tryz.func49, Tryz.ntmps49
    go_wp2
    go_loopw [5, 13] (fun _ i wr => ∃ j : Nat, j ≤ n ∧ i = .int .i64 j ∧ Hid (∀ i, i < j → Br.eqB (e i) (f i) = true) ∧ Below w.heap.size w wr) (fun _ i _ => n - (intOf i).toNat)
    case atStart => exact ⟨0, by omega, rfl, fun i hi => by omega, Below.refl _ _⟩
    case round =>
      obtain ⟨j, hj, rfl, hq, hB⟩ := hrel
      have HBr := Lib.hid hB
      by_cases hlt : j < n
      · obtain ⟨b1, f1, rfl, hbl1, hcl1⟩ := HEA.out j hlt
        obtain ⟨b2, f2, rfl, hbl2, hcl2⟩ := HEB.out j hlt
        have c0 : wr.cell? ⟨b1, f1 + j * 5, none⟩ = some (.string (e j).id) := (hB.cell (p := ⟨_, _, none⟩) hbl1).trans (hcl1 j hlt).1
        have c1 : wr.cell? ⟨b1, f1 + j * 5 + 1, none⟩ = some (.string (e j).sect) := (hB.cell (p := ⟨_, _, none⟩) hbl1).trans (hcl1 j hlt).2.1
        have c2 : wr.cell? ⟨b1, f1 + j * 5 + 2, none⟩ = some (.string (e j).grade) := (hB.cell (p := ⟨_, _, none⟩) hbl1).trans (hcl1 j hlt).2.2.1
        have c3 : wr.cell? ⟨b1, f1 + j * 5 + 3, none⟩ = some (.int .i64 (e j).len) := (hB.cell (p := ⟨_, _, none⟩) hbl1).trans (hcl1 j hlt).2.2.2.1
        have c4 : wr.cell? ⟨b1, f1 + j * 5 + 4, none⟩ = some (.string (e j).heat) := (hB.cell (p := ⟨_, _, none⟩) hbl1).trans (hcl1 j hlt).2.2.2.2
        have d0 : wr.cell? ⟨b2, f2 + j * 5, none⟩ = some (.string (f j).id) := (hB.cell (p := ⟨_, _, none⟩) hbl2).trans (hcl2 j hlt).1
        have d1 : wr.cell? ⟨b2, f2 + j * 5 + 1, none⟩ = some (.string (f j).sect) := (hB.cell (p := ⟨_, _, none⟩) hbl2).trans (hcl2 j hlt).2.1
        have d2 : wr.cell? ⟨b2, f2 + j * 5 + 2, none⟩ = some (.string (f j).grade) := (hB.cell (p := ⟨_, _, none⟩) hbl2).trans (hcl2 j hlt).2.2.1
        have d3 : wr.cell? ⟨b2, f2 + j * 5 + 3, none⟩ = some (.int .i64 (f j).len) := (hB.cell (p := ⟨_, _, none⟩) hbl2).trans (hcl2 j hlt).2.2.2.1
        have d4 : wr.cell? ⟨b2, f2 + j * 5 + 4, none⟩ = some (.string (f j).heat) := (hB.cell (p := ⟨_, _, none⟩) hbl2).trans (hcl2 j hlt).2.2.2.2
        have hbr1 : b1 < wr.heap.size := by have := hB.size; omega
        have hbr2 : b2 < wr.heap.size := by have := hB.size; omega
        have hneq : ∀ W, (binOp .neq 33 (.agg #[.string (e j).id, .string (e j).sect, .string (e j).grade, .int .i64 (e j).len, .string (e j).heat]) (.agg #[.string (f j).id, .string (f j).sect, .string (f j).grade, .int .i64 (f j).len, .string (f j).heat])).run Tryz.prog W = .ok (.bool (!Br.eqB (e j) (f j))) W := neq_Bar (e j) (f j)
        obtain ⟨Q, hQ⟩ : ∃ Q, Br.eqB (e j) (f j) = Q := ⟨_, rfl⟩
        have HQ := Lib.hid hQ
        rw [hQ] at hneq
        clear hcl1 hcl2 hB hQ
        go_wp2_with fail
        refine wp_region_relw 9 (by kernel_rfl) (by kernel_rfl) (by kernel_rfl) ?_
        simp only [List.take_succ_cons, List.take_zero, fillL, Act.put, List.setIfInBounds_toArray, List.set_cons_zero, List.set_cons_succ]
        apply rel_is
        · intro u wx hb hd
          have hz := hb.size
          (try simp only [World.size_alloc, World.size_setCell] at hz)
          have hz0 : b1 < wx.heap.size := by omega
          have hz1 : b2 < wx.heap.size := by omega
          obtain ⟨hc, hf⟩ := bcell hb
          have HBX := Lib.hid hb
          clear hb hz
          simp [depsS, Region.binds, updS, Stay.is, Stay.any] at hd
          go_simp
          first | exact ⟨Below.refl _ _, rfl⟩ | rfl
        apply rel_is
        · intro u wx hb hd
          have hz := hb.size
          (try simp only [World.size_alloc, World.size_setCell] at hz)
          have hz0 : b1 < wx.heap.size := by omega
          have hz1 : b2 < wx.heap.size := by omega
          obtain ⟨hc, hf⟩ := bcell hb
          have HBX := Lib.hid hb
          clear hb hz
          simp [depsS, Region.binds, updS, Stay.is, Stay.any] at hd
          go_simp
          first | exact ⟨Below.refl _ _, rfl⟩ | rfl
        apply rel_is
        · intro u wx hb hd
          have hz := hb.size
          (try simp only [World.size_alloc, World.size_setCell] at hz)
          have hz0 : b1 < wx.heap.size := by omega
          have hz1 : b2 < wx.heap.size := by omega
          obtain ⟨hc, hf⟩ := bcell hb
          have HBX := Lib.hid hb
          clear hb hz
          simp [depsS, Region.binds, updS, Stay.is, Stay.any] at hd
          go_simp
          first | exact ⟨Below.refl _ _, rfl⟩ | rfl
        apply rel_is
        · intro u wx hb hd
          have hz := hb.size
          (try simp only [World.size_alloc, World.size_setCell] at hz)
          have hz0 : b1 < wx.heap.size := by omega
          have hz1 : b2 < wx.heap.size := by omega
          obtain ⟨hc, hf⟩ := bcell hb
          have HBX := Lib.hid hb
          clear hb hz
          simp [depsS, Region.binds, updS, Stay.is, Stay.any] at hd
          go_simp
          first | exact ⟨Below.refl _ _, rfl⟩ | rfl
        apply rel_is
        · intro u wx hb hd
          have hz := hb.size
          (try simp only [World.size_alloc, World.size_setCell] at hz)
          have hz0 : b1 < wx.heap.size := by omega
          have hz1 : b2 < wx.heap.size := by omega
          obtain ⟨hc, hf⟩ := bcell hb
          have HBX := Lib.hid hb
          clear hb hz
          simp [depsS, Region.binds, updS, Stay.is, Stay.any] at hd
          go_simp
          first | exact ⟨Below.refl _ _, rfl⟩ | rfl
        apply rel_is
        · intro u wx hb hd
          have hz := hb.size
          (try simp only [World.size_alloc, World.size_setCell] at hz)
          have hz0 : b1 < wx.heap.size := by omega
          have hz1 : b2 < wx.heap.size := by omega
          obtain ⟨hc, hf⟩ := bcell hb
          have HBX := Lib.hid hb
          clear hb hz
          simp [depsS, Region.binds, updS, Stay.is, Stay.any] at hd
          go_simp
          first | exact ⟨Below.refl _ _, rfl⟩ | rfl
        apply rel_is
        · intro u wx hb hd
          have hz := hb.size
          (try simp only [World.size_alloc, World.size_setCell] at hz)
          have hz0 : b1 < wx.heap.size := by omega
          have hz1 : b2 < wx.heap.size := by omega
          obtain ⟨hc, hf⟩ := bcell hb
          have HBX := Lib.hid hb
          clear hb hz
          simp [depsS, Region.binds, updS, Stay.is, Stay.any] at hd
          go_simp
          first | exact ⟨Below.refl _ _, rfl⟩ | rfl
        apply rel_is
        · intro u wx hb hd
          have hz := hb.size
          (try simp only [World.size_alloc, World.size_setCell] at hz)
          have hz0 : b1 < wx.heap.size := by omega
          have hz1 : b2 < wx.heap.size := by omega
          obtain ⟨hc, hf⟩ := bcell hb
          have HBX := Lib.hid hb
          clear hb hz
          simp [depsS, Region.binds, updS, Stay.is, Stay.any] at hd
          go_simp
          first | exact ⟨Below.refl _ _, rfl⟩ | rfl
        apply rel_is
        · intro u wx hb hd
          have hz := hb.size
          (try simp only [World.size_alloc, World.size_setCell] at hz)
          have hz0 : b1 < wx.heap.size := by omega
          have hz1 : b2 < wx.heap.size := by omega
          obtain ⟨hc, hf⟩ := bcell hb
          have HBX := Lib.hid hb
          clear hb hz
          simp [depsS, Region.binds, updS, Stay.is, Stay.any] at hd
          go_simp
          first | exact ⟨Below.refl _ _, rfl⟩ | rfl
        intro u w5 hb hE
        have e0 : u 0 = _ := endS_get hE 0 (by decide)
        have e1 : u 1 = _ := endS_get hE 1 (by decide)
        have e2 : u 2 = _ := endS_get hE 2 (by decide)
        have e3 : u 3 = _ := endS_get hE 3 (by decide)
        have e4 : u 4 = _ := endS_get hE 4 (by decide)
        have e5 : u 5 = _ := endS_get hE 5 (by decide)
        have e6 : u 6 = _ := endS_get hE 6 (by decide)
        have e7 : u 7 = _ := endS_get hE 7 (by decide)
        have e8 : u 8 = _ := endS_get hE 8 (by decide)
        simp only [List.drop_succ_cons, List.drop_zero, List.take_succ_cons, List.take_zero, fillL, Act.put, List.setIfInBounds_toArray, List.set_cons_zero, List.set_cons_succ, e0, e1, e2, e3, e4, e5, e6, e7, e8]
        clear e0 e1 e2 e3 e4 e5 e6 e7 e8 hE
        have HBw5 := Lib.hid (below_step (w := wr) (by first | assumption | go_grown) hb)
        have HBXw5 := Lib.hid hb
        have hzw5 := hb.size
        (try simp only [World.size_alloc, World.size_setCell] at hzw5)
        have hzw50 : b1 < w5.heap.size := by omega
        have hzw51 : b2 < w5.heap.size := by omega
        obtain ⟨hcw5, hfw5⟩ := bcell hb
        clear hb hzw5
        cases Q with
        | true =>
          have hq2 : Hid (∀ i, i < j + 1 → Br.eqB (e i) (f i) = true) := fun i hi => by
            by_cases hij : i = j
            · subst hij; exact HQ.out
            · exact hq.out i (by omega)
          have HBN : Hid (Below w.heap.size w w5) := below_step HBr.out HBXw5.out
          go_wp2
          go_roundw
          case rel => exact ⟨j + 1, by omega, by go_num, hq2, HBN.out⟩
          case measure => simp [intOf]; omega
        | false =>
          have hr : R = false := by rw [← HR.out]; exact allTo_no hlt HQ.out
          have HR0 := Lib.hid hr
          have HBN : Hid (Below w.heap.size w w5) := below_step HBr.out HBXw5.out
          clear hr
          go_wp2
          go_returns
          rw [HR0.out]
          exact ⟨rfl, HBN.out⟩
      · have hr : R = true := by rw [← HR.out]; exact allTo_iff.2 (fun i hi => hq.out i (by omega))
        have HR0 := Lib.hid hr
        clear hr hB
        go_wp2
        go_returns
        rw [HR0.out]
        exact ⟨rfl, HBr.out⟩
  · have HR0 : Hid (R = false) := by show _ = _; rw [← hR]; unfold sameB; rw [decide_eq_false hnn, Bool.false_and]
    have k0 : ((n : Int) != (n' : Int)) = true := by simp; omega
    clear hR
    go_enter Tryz.func49, Tryz.ntmps49
    go_wp2
    go_returns
    rw [HR0.out]
    exact ⟨rfl, by go_grown⟩
end Go.Proofs.YtiddpaaihloopaaGreatDoor
