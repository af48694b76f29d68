/-
  Same, the program's and the reference's; the law's few, by walks. Conditions: none. By an AI agent.
-/
import Derived.Test.YtiddpaaihloopaaGreatDoorSame
import Derived.Test.YtiddpaaihloopaaGreatDoorFew
namespace Go.Proofs.YtiddpaaihloopaaGreatDoor
open Go Go.ChangeShapes Go.WideShapes Go.RowKit Go.ChangeAt
set_option linter.unusedVariables false
set_option linter.unusedSimpArgs false
set_option maxRecDepth 100000
def sameS (ns : Nat) (es : Nat → Sh) (nb : Nat) (eb : Nat → Br) (ms : Nat) (fs : Nat → Sh) (mb : Nat) (fb : Nat → Br) : Bool := sameB Sh.eqB ns ms es fs && sameB Br.eqB nb mb eb fb

set_option maxHeartbeats 4000000 in
theorem same_any (v u : Value) (ns : Nat) (es : Nat → Sh) (nb : Nat) (eb : Nat → Br) (ms : Nat) (fs : Nat → Sh) (mb : Nat) (fb : Nat → Br) (w : World) (h : StAt w v ns es nb eb) (h' : StAt w u ms fs mb fb) :
    Calls Tryz.prog 27 #[v, u] w fun e w' => e = .returned (.bool (sameS ns es nb eb ms fs mb fb)) ∧ Below w.heap.size w w' := by
  obtain ⟨va, vb, rfl, hSh, hBr⟩ := h
  obtain ⟨ua, ub, rfl, hSh', hBr'⟩ := h'
  have HS1 := Lib.hid hSh
  have HB1 := Lib.hid hBr
  have HS2 := Lib.hid hSh'
  have HB2 := Lib.hid hBr'
  obtain ⟨oa, ca, rfl, hna, hca, hela⟩ := hSh.form
  obtain ⟨ob, cb, rfl, hnb, hcb, helb⟩ := hBr.form
  obtain ⟨pa, da, rfl, hma, hda, hela'⟩ := hSh'.form
  obtain ⟨pb, db, rfl, hmb, hdb, helb'⟩ := hBr'.form
  have HELA := Lib.hid hela
  have HELB := Lib.hid helb
  have HELA' := Lib.hid hela'
  have HELB' := Lib.hid helb'
  clear hSh hBr hSh' hBr' hela helb hela' helb'
  obtain ⟨Q1, hQ1⟩ : ∃ q, sameB Sh.eqB ns ms es fs = q := ⟨_, rfl⟩
  obtain ⟨Q2, hQ2⟩ : ∃ q, sameB Br.eqB nb mb eb fb = q := ⟨_, rfl⟩
  unfold sameS
  rw [hQ1, hQ2]
  have HQ1 := Lib.hid hQ1
  have HQ2 := Lib.hid hQ2
  clear hQ1 hQ2
  go_enter Tryz.func27, Tryz.ntmps27
  go_wp2_with fail
  (go_at_call 48; refine (equal_Sheet _ _ ns ms es fs _ (HS1.out.below (by first | assumption | go_grown)) (HS2.out.below (by first | assumption | go_grown))).mono ?_; rintro e_ w1 ⟨rfl, hb⟩)
  rw [HQ1.out]
  have hsw1 := hb.size
  (try simp only [World.size_alloc, World.size_setCell] at hsw1)
  have zww1 : w.heap.size < w1.heap.size := by omega
  have zsw1 : w.heap.size < w1.heap.size := by omega
  have s0w1 : w1.cell? ⟨w.heap.size, 0, none⟩ = some (.slice oa ns ca) := (hb.cell (p := ⟨_, _, none⟩) (by simp <;> omega)).trans (by simp [go_sem])
  have s1w1 : w1.cell? ⟨w.heap.size, 1, none⟩ = some (.slice ob nb cb) := (hb.cell (p := ⟨_, _, none⟩) (by simp <;> omega)).trans (by simp [go_sem])
  have zuw1 : w.heap.size + 1 < w1.heap.size := by omega
  have u0w1 : w1.cell? ⟨w.heap.size + 1, 0, none⟩ = some (.slice pa ms da) := (hb.cell (p := ⟨_, _, none⟩) (by simp <;> omega)).trans (by simp [go_sem])
  have u1w1 : w1.cell? ⟨w.heap.size + 1, 1, none⟩ = some (.slice pb mb db) := (hb.cell (p := ⟨_, _, none⟩) (by simp <;> omega)).trans (by simp [go_sem])
  have hBw1 : Below w.heap.size w w1 := below_step (w := w) (by first | assumption | go_grown) hb
  clear hb hsw1
  cases Q1 with
  | false =>
    go_wp2
    go_returns
    exact ⟨rfl, by assumption⟩
  | true =>
    go_wp2_with fail
    (go_at_call 49; refine (equal_Bar _ _ nb mb eb fb _ (HB1.out.below (by first | assumption | go_grown)) (HB2.out.below (by first | assumption | go_grown))).mono ?_; rintro e_ w2 ⟨rfl, hb⟩)
    rw [HQ2.out]
    have hsw2 := hb.size
    (try simp only [World.size_alloc, World.size_setCell] at hsw2)
    have zww2 : w.heap.size < w2.heap.size := by omega
    have hPw2 : Below w1.heap.size w1 w2 := below_step (w := w1) (by first | exact Below.refl _ _ | go_grown) hb
    have zsw2 : w.heap.size < w2.heap.size := by omega
    have s0w2 : w2.cell? ⟨w.heap.size, 0, none⟩ = some (.slice oa ns ca) := (hPw2.cell (p := ⟨_, _, none⟩) zsw1).trans s0w1
    have s1w2 : w2.cell? ⟨w.heap.size, 1, none⟩ = some (.slice ob nb cb) := (hPw2.cell (p := ⟨_, _, none⟩) zsw1).trans s1w1
    have zuw2 : w.heap.size + 1 < w2.heap.size := by omega
    have u0w2 : w2.cell? ⟨w.heap.size + 1, 0, none⟩ = some (.slice pa ms da) := (hPw2.cell (p := ⟨_, _, none⟩) zuw1).trans u0w1
    have u1w2 : w2.cell? ⟨w.heap.size + 1, 1, none⟩ = some (.slice pb mb db) := (hPw2.cell (p := ⟨_, _, none⟩) zuw1).trans u1w1
    have hBw2 : Below w.heap.size w w2 := below_step (w := w) (by first | assumption | go_grown) hb
    clear hb hsw2
    clear hPw2
    clear zsw1 zuw1 s0w1 s1w1 u0w1 u1w1
    go_wp2
    go_returns
    exact ⟨rfl, by assumption⟩

set_option maxHeartbeats 8000000 in
theorem rsame_any (v u : Value) (ns : Nat) (es : Nat → Sh) (nb : Nat) (eb : Nat → Br) (ms : Nat) (fs : Nat → Sh) (mb : Nat) (fb : Nat → Br) (w : World) (h : StAt w v ns es nb eb) (h' : StAt w u ms fs mb fb) :
    Calls Tryz.prog 13 #[v, u] w fun e w' => e = .returned (.bool (sameS ns es nb eb ms fs mb fb)) ∧ Below w.heap.size w w' := by
  obtain ⟨va, vb, rfl, hSh, hBr⟩ := h
  obtain ⟨ua, ub, rfl, hSh', hBr'⟩ := h'
  have HS1 := Lib.hid hSh
  have HB1 := Lib.hid hBr
  have HS2 := Lib.hid hSh'
  have HB2 := Lib.hid hBr'
  obtain ⟨oa, ca, rfl, hna, hca, hela⟩ := hSh.form
  obtain ⟨ob, cb, rfl, hnb, hcb, helb⟩ := hBr.form
  obtain ⟨pa, da, rfl, hma, hda, hela'⟩ := hSh'.form
  obtain ⟨pb, db, rfl, hmb, hdb, helb'⟩ := hBr'.form
  have HELA := Lib.hid hela
  have HELB := Lib.hid helb
  have HELA' := Lib.hid hela'
  have HELB' := Lib.hid helb'
  clear hSh hBr hSh' hBr' hela helb hela' helb'
  obtain ⟨Q1, hQ1⟩ : ∃ q, sameB Sh.eqB ns ms es fs = q := ⟨_, rfl⟩
  obtain ⟨Q2, hQ2⟩ : ∃ q, sameB Br.eqB nb mb eb fb = q := ⟨_, rfl⟩
  unfold sameS
  rw [hQ1, hQ2]
  by_cases g1 : ns = ms
  · subst g1
    have k1 : ((ns : Int) != (ns : Int)) = false := by simp
    by_cases g2 : nb = mb
    · subst g2
      have k2 : ((nb : Int) != (nb : Int)) = false := by simp
      obtain ⟨R, hR⟩ : ∃ R, (Q1 && Q2) = R := ⟨_, rfl⟩
      rw [hR]
      have HR : Hid ((allTo (fun i => Sh.eqB (es i) (fs i)) ns && allTo (fun i => Br.eqB (eb i) (fb i)) nb) = R) := by
        show _ = _
        rw [← hR, ← hQ1, ← hQ2]
        unfold sameB
        simp
      clear hR hQ1 hQ2
      go_enter Tryz.func13, Tryz.ntmps13
      go_wp2
      go_loopw [5] (fun i wr => ∃ j : Nat, j ≤ ns ∧ i = .int .i64 j ∧ Hid (∀ i, i < j → Sh.eqB (es i) (fs i) = true) ∧ Below ((w.alloc (.cells #[.slice oa ns ca, .slice ob nb cb] 25)).alloc (.cells #[.slice pa ns da, .slice pb nb db] 25)).heap.size ((w.alloc (.cells #[.slice oa ns ca, .slice ob nb cb] 25)).alloc (.cells #[.slice pa ns da, .slice pb nb db] 25)) wr) (fun i _ => ns - (intOf i).toNat)
      case atStart => exact ⟨0, by omega, rfl, fun i hi => by omega, Below.refl _ _⟩
      case round =>
        obtain ⟨j, hj, rfl, hq, hB⟩ := hrel
        have HBra : Hid (Below w.heap.size w wr) := by
          show Below _ _ _
          exact below_step (w := w) (by go_grown) hB
        have HBXa := Lib.hid hB
        have hs0 := hB.size
        (try simp only [World.size_alloc, World.size_setCell] at hs0)
        have z0a : w.heap.size < wr.heap.size := by omega
        have z1a : w.heap.size + 1 < wr.heap.size := by omega
        have s0 : wr.cell? ⟨w.heap.size, 0, none⟩ = some (.slice oa ns ca) := (hB.cell (p := ⟨_, _, none⟩) (by simp <;> omega)).trans (by simp [go_sem])
        have s1 : wr.cell? ⟨w.heap.size, 1, none⟩ = some (.slice ob nb cb) := (hB.cell (p := ⟨_, _, none⟩) (by simp <;> omega)).trans (by simp [go_sem])
        have u0 : wr.cell? ⟨w.heap.size + 1, 0, none⟩ = some (.slice pa ns da) := (hB.cell (p := ⟨_, _, none⟩) (by simp <;> omega)).trans (by simp [go_sem])
        have u1 : wr.cell? ⟨w.heap.size + 1, 1, none⟩ = some (.slice pb nb db) := (hB.cell (p := ⟨_, _, none⟩) (by simp <;> omega)).trans (by simp [go_sem])
        clear hB hs0
        by_cases hlt : j < ns
        · obtain ⟨b1, f1, rfl, hbl1, hcl1⟩ := HELA.out j hlt
          obtain ⟨b2, f2, rfl, hbl2, hcl2⟩ := HELA'.out j hlt
          have c0 : wr.cell? ⟨b1, f1 + j * 6, none⟩ = some (.string (es j).id) := (HBra.out.cell (p := ⟨_, _, none⟩) hbl1).trans (hcl1 j hlt).1
          have c1 : wr.cell? ⟨b1, f1 + j * 6 + 1, none⟩ = some (.string (es j).grade) := (HBra.out.cell (p := ⟨_, _, none⟩) hbl1).trans (hcl1 j hlt).2.1
          have c2 : wr.cell? ⟨b1, f1 + j * 6 + 2, none⟩ = some (.int .i64 (es j).thick) := (HBra.out.cell (p := ⟨_, _, none⟩) hbl1).trans (hcl1 j hlt).2.2.1
          have c3 : wr.cell? ⟨b1, f1 + j * 6 + 3, none⟩ = some (.int .i64 (es j).len) := (HBra.out.cell (p := ⟨_, _, none⟩) hbl1).trans (hcl1 j hlt).2.2.2.1
          have c4 : wr.cell? ⟨b1, f1 + j * 6 + 4, none⟩ = some (.int .i64 (es j).wid) := (HBra.out.cell (p := ⟨_, _, none⟩) hbl1).trans (hcl1 j hlt).2.2.2.2.1
          have c5 : wr.cell? ⟨b1, f1 + j * 6 + 5, none⟩ = some (.string (es j).heat) := (HBra.out.cell (p := ⟨_, _, none⟩) hbl1).trans (hcl1 j hlt).2.2.2.2.2
          have d0 : wr.cell? ⟨b2, f2 + j * 6, none⟩ = some (.string (fs j).id) := (HBra.out.cell (p := ⟨_, _, none⟩) hbl2).trans (hcl2 j hlt).1
          have d1 : wr.cell? ⟨b2, f2 + j * 6 + 1, none⟩ = some (.string (fs j).grade) := (HBra.out.cell (p := ⟨_, _, none⟩) hbl2).trans (hcl2 j hlt).2.1
          have d2 : wr.cell? ⟨b2, f2 + j * 6 + 2, none⟩ = some (.int .i64 (fs j).thick) := (HBra.out.cell (p := ⟨_, _, none⟩) hbl2).trans (hcl2 j hlt).2.2.1
          have d3 : wr.cell? ⟨b2, f2 + j * 6 + 3, none⟩ = some (.int .i64 (fs j).len) := (HBra.out.cell (p := ⟨_, _, none⟩) hbl2).trans (hcl2 j hlt).2.2.2.1
          have d4 : wr.cell? ⟨b2, f2 + j * 6 + 4, none⟩ = some (.int .i64 (fs j).wid) := (HBra.out.cell (p := ⟨_, _, none⟩) hbl2).trans (hcl2 j hlt).2.2.2.2.1
          have d5 : wr.cell? ⟨b2, f2 + j * 6 + 5, none⟩ = some (.string (fs j).heat) := (HBra.out.cell (p := ⟨_, _, none⟩) hbl2).trans (hcl2 j hlt).2.2.2.2.2
          have hbr1 : b1 < wr.heap.size := by omega
          have hbr2 : b2 < wr.heap.size := by omega
          have hneq : ∀ W, (binOp .neq 31 (.agg #[.string (es j).id, .string (es j).grade, .int .i64 (es j).thick, .int .i64 (es j).len, .int .i64 (es j).wid, .string (es j).heat]) (.agg #[.string (fs j).id, .string (fs j).grade, .int .i64 (fs j).thick, .int .i64 (fs j).len, .int .i64 (fs j).wid, .string (fs j).heat])).run Tryz.prog W = .ok (.bool (!Sh.eqB (es j) (fs j))) W := neq_Sheet (es j) (fs j)
          obtain ⟨Q, hQ⟩ : ∃ Q, Sh.eqB (es j) (fs j) = Q := ⟨_, rfl⟩
          have HQ := Lib.hid hQ
          rw [hQ] at hneq
          clear hcl1 hcl2 hQ
          go_wp2_with fail
          refine wp_region_relw 11 (by kernel_rfl) (by kernel_rfl) (by kernel_rfl) ?_
          simp only [List.take_succ_cons, List.take_zero, fillL, Act.put, List.setIfInBounds_toArray, List.set_cons_zero, List.set_cons_succ]
          apply rel_is
          · intro u wx hb hd
            have hz := hb.size
            (try simp only [World.size_alloc, World.size_setCell] at hz)
            have hz0 : w.heap.size < wx.heap.size := by omega
            have hz1 : w.heap.size + 1 < wx.heap.size := by omega
            have hz2 : b1 < wx.heap.size := by omega
            have hz3 : b2 < wx.heap.size := by omega
            obtain ⟨hc, hf⟩ := bcell hb
            have HBX := Lib.hid hb
            clear hb hz
            simp [depsS, Region.binds, updS, Stay.is, Stay.any] at hd
            go_simp
            first | exact ⟨Below.refl _ _, rfl⟩ | rfl
          apply rel_is
          · intro u wx hb hd
            have hz := hb.size
            (try simp only [World.size_alloc, World.size_setCell] at hz)
            have hz0 : w.heap.size < wx.heap.size := by omega
            have hz1 : w.heap.size + 1 < wx.heap.size := by omega
            have hz2 : b1 < wx.heap.size := by omega
            have hz3 : b2 < wx.heap.size := by omega
            obtain ⟨hc, hf⟩ := bcell hb
            have HBX := Lib.hid hb
            clear hb hz
            simp [depsS, Region.binds, updS, Stay.is, Stay.any] at hd
            go_simp
            first | exact ⟨Below.refl _ _, rfl⟩ | rfl
          apply rel_is
          · intro u wx hb hd
            have hz := hb.size
            (try simp only [World.size_alloc, World.size_setCell] at hz)
            have hz0 : w.heap.size < wx.heap.size := by omega
            have hz1 : w.heap.size + 1 < wx.heap.size := by omega
            have hz2 : b1 < wx.heap.size := by omega
            have hz3 : b2 < wx.heap.size := by omega
            obtain ⟨hc, hf⟩ := bcell hb
            have HBX := Lib.hid hb
            clear hb hz
            simp [depsS, Region.binds, updS, Stay.is, Stay.any] at hd
            go_simp
            first | exact ⟨Below.refl _ _, rfl⟩ | rfl
          apply rel_is
          · intro u wx hb hd
            have hz := hb.size
            (try simp only [World.size_alloc, World.size_setCell] at hz)
            have hz0 : w.heap.size < wx.heap.size := by omega
            have hz1 : w.heap.size + 1 < wx.heap.size := by omega
            have hz2 : b1 < wx.heap.size := by omega
            have hz3 : b2 < wx.heap.size := by omega
            obtain ⟨hc, hf⟩ := bcell hb
            have HBX := Lib.hid hb
            clear hb hz
            simp [depsS, Region.binds, updS, Stay.is, Stay.any] at hd
            go_simp
            first | exact ⟨Below.refl _ _, rfl⟩ | rfl
          apply rel_is
          · intro u wx hb hd
            have hz := hb.size
            (try simp only [World.size_alloc, World.size_setCell] at hz)
            have hz0 : w.heap.size < wx.heap.size := by omega
            have hz1 : w.heap.size + 1 < wx.heap.size := by omega
            have hz2 : b1 < wx.heap.size := by omega
            have hz3 : b2 < wx.heap.size := by omega
            obtain ⟨hc, hf⟩ := bcell hb
            have HBX := Lib.hid hb
            clear hb hz
            simp [depsS, Region.binds, updS, Stay.is, Stay.any] at hd
            go_simp
            first | exact ⟨Below.refl _ _, rfl⟩ | rfl
          apply rel_is
          · intro u wx hb hd
            have hz := hb.size
            (try simp only [World.size_alloc, World.size_setCell] at hz)
            have hz0 : w.heap.size < wx.heap.size := by omega
            have hz1 : w.heap.size + 1 < wx.heap.size := by omega
            have hz2 : b1 < wx.heap.size := by omega
            have hz3 : b2 < wx.heap.size := by omega
            obtain ⟨hc, hf⟩ := bcell hb
            have HBX := Lib.hid hb
            clear hb hz
            simp [depsS, Region.binds, updS, Stay.is, Stay.any] at hd
            go_simp
            first | exact ⟨Below.refl _ _, rfl⟩ | rfl
          apply rel_is
          · intro u wx hb hd
            have hz := hb.size
            (try simp only [World.size_alloc, World.size_setCell] at hz)
            have hz0 : w.heap.size < wx.heap.size := by omega
            have hz1 : w.heap.size + 1 < wx.heap.size := by omega
            have hz2 : b1 < wx.heap.size := by omega
            have hz3 : b2 < wx.heap.size := by omega
            obtain ⟨hc, hf⟩ := bcell hb
            have HBX := Lib.hid hb
            clear hb hz
            simp [depsS, Region.binds, updS, Stay.is, Stay.any] at hd
            go_simp
            first | exact ⟨Below.refl _ _, rfl⟩ | rfl
          apply rel_is
          · intro u wx hb hd
            have hz := hb.size
            (try simp only [World.size_alloc, World.size_setCell] at hz)
            have hz0 : w.heap.size < wx.heap.size := by omega
            have hz1 : w.heap.size + 1 < wx.heap.size := by omega
            have hz2 : b1 < wx.heap.size := by omega
            have hz3 : b2 < wx.heap.size := by omega
            obtain ⟨hc, hf⟩ := bcell hb
            have HBX := Lib.hid hb
            clear hb hz
            simp [depsS, Region.binds, updS, Stay.is, Stay.any] at hd
            go_simp
            first | exact ⟨Below.refl _ _, rfl⟩ | rfl
          apply rel_is
          · intro u wx hb hd
            have hz := hb.size
            (try simp only [World.size_alloc, World.size_setCell] at hz)
            have hz0 : w.heap.size < wx.heap.size := by omega
            have hz1 : w.heap.size + 1 < wx.heap.size := by omega
            have hz2 : b1 < wx.heap.size := by omega
            have hz3 : b2 < wx.heap.size := by omega
            obtain ⟨hc, hf⟩ := bcell hb
            have HBX := Lib.hid hb
            clear hb hz
            simp [depsS, Region.binds, updS, Stay.is, Stay.any] at hd
            go_simp
            first | exact ⟨Below.refl _ _, rfl⟩ | rfl
          apply rel_is
          · intro u wx hb hd
            have hz := hb.size
            (try simp only [World.size_alloc, World.size_setCell] at hz)
            have hz0 : w.heap.size < wx.heap.size := by omega
            have hz1 : w.heap.size + 1 < wx.heap.size := by omega
            have hz2 : b1 < wx.heap.size := by omega
            have hz3 : b2 < wx.heap.size := by omega
            obtain ⟨hc, hf⟩ := bcell hb
            have HBX := Lib.hid hb
            clear hb hz
            simp [depsS, Region.binds, updS, Stay.is, Stay.any] at hd
            go_simp
            first | exact ⟨Below.refl _ _, rfl⟩ | rfl
          apply rel_is
          · intro u wx hb hd
            have hz := hb.size
            (try simp only [World.size_alloc, World.size_setCell] at hz)
            have hz0 : w.heap.size < wx.heap.size := by omega
            have hz1 : w.heap.size + 1 < wx.heap.size := by omega
            have hz2 : b1 < wx.heap.size := by omega
            have hz3 : b2 < wx.heap.size := by omega
            obtain ⟨hc, hf⟩ := bcell hb
            have HBX := Lib.hid hb
            clear hb hz
            simp [depsS, Region.binds, updS, Stay.is, Stay.any] at hd
            go_simp
            first | exact ⟨Below.refl _ _, rfl⟩ | rfl
          intro u w5 hb hE
          have e0 : u 0 = _ := endS_get hE 0 (by decide)
          have e1 : u 1 = _ := endS_get hE 1 (by decide)
          have e2 : u 2 = _ := endS_get hE 2 (by decide)
          have e3 : u 3 = _ := endS_get hE 3 (by decide)
          have e4 : u 4 = _ := endS_get hE 4 (by decide)
          have e5 : u 5 = _ := endS_get hE 5 (by decide)
          have e6 : u 6 = _ := endS_get hE 6 (by decide)
          have e7 : u 7 = _ := endS_get hE 7 (by decide)
          have e8 : u 8 = _ := endS_get hE 8 (by decide)
          have e9 : u 9 = _ := endS_get hE 9 (by decide)
          have e10 : u 10 = _ := endS_get hE 10 (by decide)
          simp only [List.drop_succ_cons, List.drop_zero, List.take_succ_cons, List.take_zero, fillL, Act.put, List.setIfInBounds_toArray, List.set_cons_zero, List.set_cons_succ, e0, e1, e2, e3, e4, e5, e6, e7, e8, e9, e10]
          clear e0 e1 e2 e3 e4 e5 e6 e7 e8 e9 e10 hE
          have HBw5 := Lib.hid (below_step (w := wr) (by first | assumption | go_grown) hb)
          have HBXw5 := Lib.hid hb
          have hzw5 := hb.size
          (try simp only [World.size_alloc, World.size_setCell] at hzw5)
          have hzw50 : w.heap.size < w5.heap.size := by omega
          have hzw51 : w.heap.size + 1 < w5.heap.size := by omega
          have hzw52 : b1 < w5.heap.size := by omega
          have hzw53 : b2 < w5.heap.size := by omega
          obtain ⟨hcw5, hfw5⟩ := bcell hb
          clear hb hzw5
          cases Q with
          | true =>
            have hq2 : Hid (∀ i, i < j + 1 → Sh.eqB (es i) (fs i) = true) := fun i hi => by
              by_cases hij : i = j
              · subst hij; exact HQ.out
              · exact hq.out i (by omega)
            have HBN : Hid (Below _ _ w5) := below_step HBXa.out HBXw5.out
            go_wp2
            go_roundw
            case rel => exact ⟨j + 1, by omega, by go_num, hq2, HBN.out⟩
            case measure => simp [intOf]; omega
          | false =>
            have hr : R = false := by
              rw [← HR.out, allTo_no hlt HQ.out, Bool.false_and]
            have HR0 := Lib.hid hr
            have HBN : Hid (Below w.heap.size w w5) := below_step HBra.out HBXw5.out
            clear hr
            go_wp2
            go_returns
            rw [HR0.out]
            exact ⟨rfl, HBN.out⟩
        · have hjn : j = ns := by omega
          have HQA : Hid (∀ i, i < ns → Sh.eqB (es i) (fs i) = true) := fun i hi => hq.out i (by omega)
          have HBp := Lib.hid HBra.out
          have t0 := s0
          have t1 := s1
          have q0 := u0
          have q1 := u1
          have z0p := z0a
          have z1p := z1a
          go_wp2
          obtain ⟨wp, hwp⟩ : ∃ wp, wp = wr := ⟨_, rfl⟩
          subst hwp
          clear hq HBXa
          go_loopw [6] (fun i wr => ∃ j : Nat, j ≤ nb ∧ i = .int .i64 j ∧ Hid (∀ i, i < j → Br.eqB (eb i) (fb i) = true) ∧ Below wp.heap.size wp wr) (fun i _ => nb - (intOf i).toNat)
          case atStart => exact ⟨0, by omega, rfl, fun i hi => by omega, Below.refl _ _⟩
          case round =>
            obtain ⟨j, hj, rfl, hq, hB⟩ := hrel
            have HBrb : Hid (Below w.heap.size w wr) := by
              show Below _ _ _
              exact below_step (w := w) HBp.out hB
            have HBXb := Lib.hid hB
            have hs0 := hB.size
            (try simp only [World.size_alloc, World.size_setCell] at hs0)
            have z0b : w.heap.size < wr.heap.size := by omega
            have z1b : w.heap.size + 1 < wr.heap.size := by omega
            have s0 : wr.cell? ⟨w.heap.size, 0, none⟩ = some (.slice oa ns ca) := (hB.cell (p := ⟨_, _, none⟩) z0p).trans t0
            have s1 : wr.cell? ⟨w.heap.size, 1, none⟩ = some (.slice ob nb cb) := (hB.cell (p := ⟨_, _, none⟩) z0p).trans t1
            have u0 : wr.cell? ⟨w.heap.size + 1, 0, none⟩ = some (.slice pa ns da) := (hB.cell (p := ⟨_, _, none⟩) z1p).trans q0
            have u1 : wr.cell? ⟨w.heap.size + 1, 1, none⟩ = some (.slice pb nb db) := (hB.cell (p := ⟨_, _, none⟩) z1p).trans q1
            clear hB hs0
            by_cases hlt : j < nb
            · obtain ⟨b1, f1, rfl, hbl1, hcl1⟩ := HELB.out j hlt
              obtain ⟨b2, f2, rfl, hbl2, hcl2⟩ := HELB'.out j hlt
              have c0 : wr.cell? ⟨b1, f1 + j * 5, none⟩ = some (.string (eb j).id) := (HBrb.out.cell (p := ⟨_, _, none⟩) hbl1).trans (hcl1 j hlt).1
              have c1 : wr.cell? ⟨b1, f1 + j * 5 + 1, none⟩ = some (.string (eb j).sect) := (HBrb.out.cell (p := ⟨_, _, none⟩) hbl1).trans (hcl1 j hlt).2.1
              have c2 : wr.cell? ⟨b1, f1 + j * 5 + 2, none⟩ = some (.string (eb j).grade) := (HBrb.out.cell (p := ⟨_, _, none⟩) hbl1).trans (hcl1 j hlt).2.2.1
              have c3 : wr.cell? ⟨b1, f1 + j * 5 + 3, none⟩ = some (.int .i64 (eb j).len) := (HBrb.out.cell (p := ⟨_, _, none⟩) hbl1).trans (hcl1 j hlt).2.2.2.1
              have c4 : wr.cell? ⟨b1, f1 + j * 5 + 4, none⟩ = some (.string (eb j).heat) := (HBrb.out.cell (p := ⟨_, _, none⟩) hbl1).trans (hcl1 j hlt).2.2.2.2
              have d0 : wr.cell? ⟨b2, f2 + j * 5, none⟩ = some (.string (fb j).id) := (HBrb.out.cell (p := ⟨_, _, none⟩) hbl2).trans (hcl2 j hlt).1
              have d1 : wr.cell? ⟨b2, f2 + j * 5 + 1, none⟩ = some (.string (fb j).sect) := (HBrb.out.cell (p := ⟨_, _, none⟩) hbl2).trans (hcl2 j hlt).2.1
              have d2 : wr.cell? ⟨b2, f2 + j * 5 + 2, none⟩ = some (.string (fb j).grade) := (HBrb.out.cell (p := ⟨_, _, none⟩) hbl2).trans (hcl2 j hlt).2.2.1
              have d3 : wr.cell? ⟨b2, f2 + j * 5 + 3, none⟩ = some (.int .i64 (fb j).len) := (HBrb.out.cell (p := ⟨_, _, none⟩) hbl2).trans (hcl2 j hlt).2.2.2.1
              have d4 : wr.cell? ⟨b2, f2 + j * 5 + 4, none⟩ = some (.string (fb j).heat) := (HBrb.out.cell (p := ⟨_, _, none⟩) hbl2).trans (hcl2 j hlt).2.2.2.2
              have hbr1 : b1 < wr.heap.size := by omega
              have hbr2 : b2 < wr.heap.size := by omega
              have hneq : ∀ W, (binOp .neq 33 (.agg #[.string (eb j).id, .string (eb j).sect, .string (eb j).grade, .int .i64 (eb j).len, .string (eb j).heat]) (.agg #[.string (fb j).id, .string (fb j).sect, .string (fb j).grade, .int .i64 (fb j).len, .string (fb j).heat])).run Tryz.prog W = .ok (.bool (!Br.eqB (eb j) (fb j))) W := neq_Bar (eb j) (fb j)
              obtain ⟨Q, hQ⟩ : ∃ Q, Br.eqB (eb j) (fb j) = Q := ⟨_, rfl⟩
              have HQ := Lib.hid hQ
              rw [hQ] at hneq
              clear hcl1 hcl2 hQ
              go_wp2_with fail
              refine wp_region_relw 11 (by kernel_rfl) (by kernel_rfl) (by kernel_rfl) ?_
              simp only [List.take_succ_cons, List.take_zero, fillL, Act.put, List.setIfInBounds_toArray, List.set_cons_zero, List.set_cons_succ]
              apply rel_is
              · intro u wx hb hd
                have hz := hb.size
                (try simp only [World.size_alloc, World.size_setCell] at hz)
                have hz0 : w.heap.size < wx.heap.size := by omega
                have hz1 : w.heap.size + 1 < wx.heap.size := by omega
                have hz2 : b1 < wx.heap.size := by omega
                have hz3 : b2 < wx.heap.size := by omega
                obtain ⟨hc, hf⟩ := bcell hb
                have HBX := Lib.hid hb
                clear hb hz
                simp [depsS, Region.binds, updS, Stay.is, Stay.any] at hd
                go_simp
                first | exact ⟨Below.refl _ _, rfl⟩ | rfl
              apply rel_is
              · intro u wx hb hd
                have hz := hb.size
                (try simp only [World.size_alloc, World.size_setCell] at hz)
                have hz0 : w.heap.size < wx.heap.size := by omega
                have hz1 : w.heap.size + 1 < wx.heap.size := by omega
                have hz2 : b1 < wx.heap.size := by omega
                have hz3 : b2 < wx.heap.size := by omega
                obtain ⟨hc, hf⟩ := bcell hb
                have HBX := Lib.hid hb
                clear hb hz
                simp [depsS, Region.binds, updS, Stay.is, Stay.any] at hd
                go_simp
                first | exact ⟨Below.refl _ _, rfl⟩ | rfl
              apply rel_is
              · intro u wx hb hd
                have hz := hb.size
                (try simp only [World.size_alloc, World.size_setCell] at hz)
                have hz0 : w.heap.size < wx.heap.size := by omega
                have hz1 : w.heap.size + 1 < wx.heap.size := by omega
                have hz2 : b1 < wx.heap.size := by omega
                have hz3 : b2 < wx.heap.size := by omega
                obtain ⟨hc, hf⟩ := bcell hb
                have HBX := Lib.hid hb
                clear hb hz
                simp [depsS, Region.binds, updS, Stay.is, Stay.any] at hd
                go_simp
                first | exact ⟨Below.refl _ _, rfl⟩ | rfl
              apply rel_is
              · intro u wx hb hd
                have hz := hb.size
                (try simp only [World.size_alloc, World.size_setCell] at hz)
                have hz0 : w.heap.size < wx.heap.size := by omega
                have hz1 : w.heap.size + 1 < wx.heap.size := by omega
                have hz2 : b1 < wx.heap.size := by omega
                have hz3 : b2 < wx.heap.size := by omega
                obtain ⟨hc, hf⟩ := bcell hb
                have HBX := Lib.hid hb
                clear hb hz
                simp [depsS, Region.binds, updS, Stay.is, Stay.any] at hd
                go_simp
                first | exact ⟨Below.refl _ _, rfl⟩ | rfl
              apply rel_is
              · intro u wx hb hd
                have hz := hb.size
                (try simp only [World.size_alloc, World.size_setCell] at hz)
                have hz0 : w.heap.size < wx.heap.size := by omega
                have hz1 : w.heap.size + 1 < wx.heap.size := by omega
                have hz2 : b1 < wx.heap.size := by omega
                have hz3 : b2 < wx.heap.size := by omega
                obtain ⟨hc, hf⟩ := bcell hb
                have HBX := Lib.hid hb
                clear hb hz
                simp [depsS, Region.binds, updS, Stay.is, Stay.any] at hd
                go_simp
                first | exact ⟨Below.refl _ _, rfl⟩ | rfl
              apply rel_is
              · intro u wx hb hd
                have hz := hb.size
                (try simp only [World.size_alloc, World.size_setCell] at hz)
                have hz0 : w.heap.size < wx.heap.size := by omega
                have hz1 : w.heap.size + 1 < wx.heap.size := by omega
                have hz2 : b1 < wx.heap.size := by omega
                have hz3 : b2 < wx.heap.size := by omega
                obtain ⟨hc, hf⟩ := bcell hb
                have HBX := Lib.hid hb
                clear hb hz
                simp [depsS, Region.binds, updS, Stay.is, Stay.any] at hd
                go_simp
                first | exact ⟨Below.refl _ _, rfl⟩ | rfl
              apply rel_is
              · intro u wx hb hd
                have hz := hb.size
                (try simp only [World.size_alloc, World.size_setCell] at hz)
                have hz0 : w.heap.size < wx.heap.size := by omega
                have hz1 : w.heap.size + 1 < wx.heap.size := by omega
                have hz2 : b1 < wx.heap.size := by omega
                have hz3 : b2 < wx.heap.size := by omega
                obtain ⟨hc, hf⟩ := bcell hb
                have HBX := Lib.hid hb
                clear hb hz
                simp [depsS, Region.binds, updS, Stay.is, Stay.any] at hd
                go_simp
                first | exact ⟨Below.refl _ _, rfl⟩ | rfl
              apply rel_is
              · intro u wx hb hd
                have hz := hb.size
                (try simp only [World.size_alloc, World.size_setCell] at hz)
                have hz0 : w.heap.size < wx.heap.size := by omega
                have hz1 : w.heap.size + 1 < wx.heap.size := by omega
                have hz2 : b1 < wx.heap.size := by omega
                have hz3 : b2 < wx.heap.size := by omega
                obtain ⟨hc, hf⟩ := bcell hb
                have HBX := Lib.hid hb
                clear hb hz
                simp [depsS, Region.binds, updS, Stay.is, Stay.any] at hd
                go_simp
                first | exact ⟨Below.refl _ _, rfl⟩ | rfl
              apply rel_is
              · intro u wx hb hd
                have hz := hb.size
                (try simp only [World.size_alloc, World.size_setCell] at hz)
                have hz0 : w.heap.size < wx.heap.size := by omega
                have hz1 : w.heap.size + 1 < wx.heap.size := by omega
                have hz2 : b1 < wx.heap.size := by omega
                have hz3 : b2 < wx.heap.size := by omega
                obtain ⟨hc, hf⟩ := bcell hb
                have HBX := Lib.hid hb
                clear hb hz
                simp [depsS, Region.binds, updS, Stay.is, Stay.any] at hd
                go_simp
                first | exact ⟨Below.refl _ _, rfl⟩ | rfl
              apply rel_is
              · intro u wx hb hd
                have hz := hb.size
                (try simp only [World.size_alloc, World.size_setCell] at hz)
                have hz0 : w.heap.size < wx.heap.size := by omega
                have hz1 : w.heap.size + 1 < wx.heap.size := by omega
                have hz2 : b1 < wx.heap.size := by omega
                have hz3 : b2 < wx.heap.size := by omega
                obtain ⟨hc, hf⟩ := bcell hb
                have HBX := Lib.hid hb
                clear hb hz
                simp [depsS, Region.binds, updS, Stay.is, Stay.any] at hd
                go_simp
                first | exact ⟨Below.refl _ _, rfl⟩ | rfl
              apply rel_is
              · intro u wx hb hd
                have hz := hb.size
                (try simp only [World.size_alloc, World.size_setCell] at hz)
                have hz0 : w.heap.size < wx.heap.size := by omega
                have hz1 : w.heap.size + 1 < wx.heap.size := by omega
                have hz2 : b1 < wx.heap.size := by omega
                have hz3 : b2 < wx.heap.size := by omega
                obtain ⟨hc, hf⟩ := bcell hb
                have HBX := Lib.hid hb
                clear hb hz
                simp [depsS, Region.binds, updS, Stay.is, Stay.any] at hd
                go_simp
                first | exact ⟨Below.refl _ _, rfl⟩ | rfl
              intro u w5 hb hE
              have e0 : u 0 = _ := endS_get hE 0 (by decide)
              have e1 : u 1 = _ := endS_get hE 1 (by decide)
              have e2 : u 2 = _ := endS_get hE 2 (by decide)
              have e3 : u 3 = _ := endS_get hE 3 (by decide)
              have e4 : u 4 = _ := endS_get hE 4 (by decide)
              have e5 : u 5 = _ := endS_get hE 5 (by decide)
              have e6 : u 6 = _ := endS_get hE 6 (by decide)
              have e7 : u 7 = _ := endS_get hE 7 (by decide)
              have e8 : u 8 = _ := endS_get hE 8 (by decide)
              have e9 : u 9 = _ := endS_get hE 9 (by decide)
              have e10 : u 10 = _ := endS_get hE 10 (by decide)
              simp only [List.drop_succ_cons, List.drop_zero, List.take_succ_cons, List.take_zero, fillL, Act.put, List.setIfInBounds_toArray, List.set_cons_zero, List.set_cons_succ, e0, e1, e2, e3, e4, e5, e6, e7, e8, e9, e10]
              clear e0 e1 e2 e3 e4 e5 e6 e7 e8 e9 e10 hE
              have HBw5 := Lib.hid (below_step (w := wr) (by first | assumption | go_grown) hb)
              have HBXw5 := Lib.hid hb
              have hzw5 := hb.size
              (try simp only [World.size_alloc, World.size_setCell] at hzw5)
              have hzw50 : w.heap.size < w5.heap.size := by omega
              have hzw51 : w.heap.size + 1 < w5.heap.size := by omega
              have hzw52 : b1 < w5.heap.size := by omega
              have hzw53 : b2 < w5.heap.size := by omega
              obtain ⟨hcw5, hfw5⟩ := bcell hb
              clear hb hzw5
              cases Q with
              | true =>
                have hq2 : Hid (∀ i, i < j + 1 → Br.eqB (eb i) (fb i) = true) := fun i hi => by
                  by_cases hij : i = j
                  · subst hij; exact HQ.out
                  · exact hq.out i (by omega)
                have HBN : Hid (Below _ _ w5) := below_step HBXb.out HBXw5.out
                go_wp2
                go_roundw
                case rel => exact ⟨j + 1, by omega, by go_num, hq2, HBN.out⟩
                case measure => simp [intOf]; omega
              | false =>
                have hr : R = false := by
                  rw [← HR.out, allTo_no hlt HQ.out, Bool.and_false]
                have HR0 := Lib.hid hr
                have HBN : Hid (Below w.heap.size w w5) := below_step HBrb.out HBXw5.out
                clear hr
                go_wp2
                go_returns
                rw [HR0.out]
                exact ⟨rfl, HBN.out⟩
            · have hjn : j = nb := by omega
              have hr : R = true := by rw [← HR.out, allTo_iff.2 HQA.out, allTo_iff.2 (fun i hi => hq.out i (by omega))]; rfl
              have HR0 := Lib.hid hr
              clear hr
              go_wp2
              go_returns
              rw [HR0.out]
              exact ⟨rfl, HBrb.out⟩
    · have k2 : ((nb : Int) != (mb : Int)) = true := by simp; omega
      have E : Hid ((Q1 && Q2) = false) := by show _ = _; rw [← hQ2]; unfold sameB; rw [decide_eq_false g2, Bool.false_and, Bool.and_false]
      clear hQ1 hQ2
      go_enter Tryz.func13, Tryz.ntmps13
      go_wp2
      go_returns
      rw [E.out]
      exact ⟨rfl, by go_grown⟩
  · have k1 : ((ns : Int) != (ms : Int)) = true := by simp; omega
    have E : Hid ((Q1 && Q2) = false) := by show _ = _; rw [← hQ1]; unfold sameB; rw [decide_eq_false g1, Bool.false_and, Bool.false_and]
    clear hQ1 hQ2
    go_enter Tryz.func13, Tryz.ntmps13
    go_wp2
    go_returns
    rw [E.out]
    exact ⟨rfl, by go_grown⟩

set_option maxHeartbeats 4000000 in
theorem lawfew_any (v : Value) (ns : Nat) (es : Nat → Sh) (nb : Nat) (eb : Nat → Br) (vg vs : Value) (m : Mat) (gv : Nat → Value) (w : World) (h : StAt w v ns es nb eb) (hG : GrAt w vg m gv) (hS : SeAt w vs m) :
    Calls Tryz.prog 22 #[v, .agg #[vg, vs]] w fun e w' => e = .returned (.bool (fewB ns es nb eb && mfewB m)) ∧ Below w.heap.size w w' := by
  have HST := Lib.hid h
  obtain ⟨va, vb, rfl, hSh, hBr⟩ := h
  obtain ⟨oa, ca, rfl, -, -, -⟩ := hSh.form
  obtain ⟨ob, cb, rfl, -, -, -⟩ := hBr.form
  obtain ⟨om, cm, rfl, -, -⟩ := hG.form
  obtain ⟨ot, ct, rfl, -, -⟩ := hS.form
  have HMT : Hid (∀ W, Below w.heap.size w W → ∃ vg vs, (Value.agg #[.slice om m.ng cm, .slice ot m.ns ct] : Value) = .agg #[vg, vs] ∧ GrAt W vg m gv ∧ SeAt W vs m) := fun W hB => ⟨_, _, rfl, hG.below hB, hS.below hB⟩
  obtain ⟨F1, hF1⟩ : ∃ F, fewB ns es nb eb = F := ⟨_, rfl⟩
  obtain ⟨F2, hF2⟩ : ∃ F, mfewB m = F := ⟨_, rfl⟩
  rw [hF1, hF2]
  have HF1 := Lib.hid hF1
  have HF2 := Lib.hid hF2
  clear hSh hBr hG hS hF1 hF2
  go_enter Tryz.func22, Tryz.ntmps22
  go_wp2_with fail
  (go_at_call 24; refine (few_any _ ns es nb eb _ (HST.out.below (by first | assumption | go_grown))).mono ?_; rintro e_ w1 ⟨rfl, hb⟩)
  rw [HF1.out]
  have hsw1 := hb.size
  (try simp only [World.size_alloc, World.size_setCell] at hsw1)
  have zww1 : w.heap.size < w1.heap.size := by omega
  have zsw1 : w.heap.size < w1.heap.size := by omega
  have s0w1 : w1.cell? ⟨w.heap.size, 0, none⟩ = some (.slice oa ns ca) := (hb.cell (p := ⟨_, _, none⟩) (by simp <;> omega)).trans (by simp [go_sem])
  have s1w1 : w1.cell? ⟨w.heap.size, 1, none⟩ = some (.slice ob nb cb) := (hb.cell (p := ⟨_, _, none⟩) (by simp <;> omega)).trans (by simp [go_sem])
  have zmw1 : w.heap.size + 1 < w1.heap.size := by omega
  have m0w1 : w1.cell? ⟨w.heap.size + 1, 0, none⟩ = some (.slice om m.ng cm) := (hb.cell (p := ⟨_, _, none⟩) (by simp <;> omega)).trans (by simp [go_sem])
  have m1w1 : w1.cell? ⟨w.heap.size + 1, 1, none⟩ = some (.slice ot m.ns ct) := (hb.cell (p := ⟨_, _, none⟩) (by simp <;> omega)).trans (by simp [go_sem])
  have hBw1 : Below w.heap.size w w1 := below_step (w := w) (by first | assumption | go_grown) hb
  clear hb hsw1
  cases F1 with
  | false =>
    go_wp2
    go_returns
    exact ⟨rfl, by assumption⟩
  | true =>
    go_wp2_with fail
    (go_at_call 43; refine (mfew_any _ m gv _ (HMT.out _ (by first | assumption | go_grown))).mono ?_; rintro e_ w2 ⟨rfl, hb⟩)
    rw [HF2.out]
    have hsw2 := hb.size
    (try simp only [World.size_alloc, World.size_setCell] at hsw2)
    have zww2 : w.heap.size < w2.heap.size := by omega
    have hPw2 : Below w1.heap.size w1 w2 := below_step (w := w1) (by first | exact Below.refl _ _ | go_grown) hb
    have zsw2 : w.heap.size < w2.heap.size := by omega
    have s0w2 : w2.cell? ⟨w.heap.size, 0, none⟩ = some (.slice oa ns ca) := (hPw2.cell (p := ⟨_, _, none⟩) zsw1).trans s0w1
    have s1w2 : w2.cell? ⟨w.heap.size, 1, none⟩ = some (.slice ob nb cb) := (hPw2.cell (p := ⟨_, _, none⟩) zsw1).trans s1w1
    have zmw2 : w.heap.size + 1 < w2.heap.size := by omega
    have m0w2 : w2.cell? ⟨w.heap.size + 1, 0, none⟩ = some (.slice om m.ng cm) := (hPw2.cell (p := ⟨_, _, none⟩) zmw1).trans m0w1
    have m1w2 : w2.cell? ⟨w.heap.size + 1, 1, none⟩ = some (.slice ot m.ns ct) := (hPw2.cell (p := ⟨_, _, none⟩) zmw1).trans m1w1
    have hBw2 : Below w.heap.size w w2 := below_step (w := w) (by first | assumption | go_grown) hb
    clear hb hsw2
    clear hPw2
    clear zsw1 zmw1 s0w1 s1w1 m0w1 m1w1
    go_wp2
    go_returns
    exact ⟨rfl, by assumption⟩
end Go.Proofs.YtiddpaaihloopaaGreatDoor
