/-
  The check of a shelf and Check, by walks. Conditions: at most 10^6 elements, identifiers of at most 2^31 bytes. By an AI agent.
-/
import Derived.Test.YtiddpaaihloopaaDoorMatD
import Derived.Test.YtiddpaaihloopaaDoorPlace
import Derived.Test.YtiddpaaihloopaaDoorRelw
namespace Go.Proofs.YtiddpaaihloopaaDoor
open Go Go.ChangeShapes Go.WideShapes Go.RowKit Go.ChangeAt
set_option linter.unusedVariables false
set_option linter.unusedSimpArgs false
set_option maxRecDepth 100000
/-- a <= b on strings -/
def strLe (a b : ByteArray) : Bool := Op.bytesLess a.toList b.toList || a.toList == b.toList
theorem run_leq (a b : ByteArray) (W : World) : (binOp .leq 9 (.string a) (.string b)).run Tryd.prog W = .ok (.bool (strLe a b)) W := by
  simp [go_sem, strLe]
theorem strLe_not (a b : ByteArray) : strLe a b = !ltB b a := by
  unfold strLe ltB
  by_cases h : Op.bytesLess a.toList b.toList = true
  · rw [h, bl_asymm h]; rfl
  · have h1 : Op.bytesLess a.toList b.toList = false := by simpa using h
    by_cases he : a.toList = b.toList
    · rw [he, bl_irrefl]; simp
    · rw [h1, bl_total _ _ h1 he]
      simpa using he

set_option maxHeartbeats 2000000 in
theorem chk1_Sheet (x : Sh) (va vb : Value) (m : Mat) (gv : Nat → Value) (b : Nat) (w : World) (h : MatAt w (.agg #[va, vb]) m gv) (hi : x.id.size ≤ 2147483648) (hh : x.heat.size ≤ 2147483648) (hml : MaxLenIs w)
    (hb : b < w.heap.size) (h0 : w.cell? ⟨b, 0, none⟩ = some va) (h1 : w.cell? ⟨b, 1, none⟩ = some vb) :
    Calls Tryd.prog 27 #[x.val, .pointer (some ⟨b, 0, none⟩)] w fun e w' => e = .returned (.int .i64 (sheetE m x)) ∧ Below w.heap.size w w' := by
  have hcall := fun W (hB : Below w.heap.size w W) => sheet_any x _ m gv W (h.below hB) hi hh (hml.below hB)
  obtain ⟨vg, vs, hvv, hG, hS, -⟩ := h
  obtain ⟨oa, ca, rfl, -, -⟩ := hG.form
  obtain ⟨ob, cb, rfl, -, -⟩ := hS.form
  cases hvv
  obtain ⟨EE, hEE⟩ : ∃ EE, sheetE m x = EE := ⟨_, rfl⟩
  rw [hEE] at hcall
  rw [hEE]
  obtain ⟨id', grade', thick', len', wid', heat'⟩ := x
  have HC : Hid (∀ W, Below w.heap.size w W → Calls Tryd.prog 28 #[.agg #[.string id', .string grade', .int .i64 thick', .int .i64 len', .int .i64 wid', .string heat'], .agg #[.slice oa m.ng ca, .slice ob m.ns cb]] W fun e w' => e = .returned (.int .i64 EE) ∧ Below W.heap.size W w') := hcall
  clear hcall hG hS hml hEE hi hh
  show Calls Tryd.prog 27 #[.agg #[.string id', .string grade', .int .i64 thick', .int .i64 len', .int .i64 wid', .string heat'], .pointer (some ⟨b, 0, none⟩)] w _
  go_enter Tryd.func27, Tryd.ntmps27
  go_wp2_with fail
  (go_at_call 28; refine (HC.out _ (by go_grown)).mono ?_; rintro e_ w1 ⟨rfl, hB⟩)
  have HB1 : Hid (Below w.heap.size w w1) := by
    show Below _ _ _
    exact below_step (w := w) (by go_grown) hB
  clear hB
  go_wp2
  go_returns
  exact ⟨rfl, HB1.out⟩
set_option maxHeartbeats 4000000 in
theorem chk_Sheet (v : Value) (n : Nat) (e : Nat → Sh) (va vb : Value) (m : Mat) (gv : Nat → Value) (b : Nat) (w : World) (h : ShAt w v n e) (hn : n ≤ 1000000) (hm : MatAt w (.agg #[va, vb]) m gv) (hsz : ∀ i, i < n → (e i).id.size ≤ 2147483648 ∧ (e i).heat.size ≤ 2147483648) (hml : MaxLenIs w)
    (hb : b < w.heap.size) (h0 : w.cell? ⟨b, 0, none⟩ = some va) (h1 : w.cell? ⟨b, 1, none⟩ = some vb) :
    Calls Tryd.prog 26 #[.agg #[v, .func (.func 42) #[] #[]], .func (.func 27) #[] #[.pointer (some ⟨b, 0, none⟩)]] w fun e' w' => e' = .returned (.int .i64 (chkFrom (sheetE m) Sh.id e n 0)) ∧ Below w.heap.size w w' := by
  have eg1 : ∀ args w, (callFunc 42 args).run Tryd.prog w = .ok (.enter 42 args) w := enters_of Tryd.func42 (by kernel_rfl) rfl
  have eg2 : ∀ args w, (callFunc 27 args).run Tryd.prog w = .ok (.enter 27 args) w := enters_of Tryd.func27 (by kernel_rfl) rfl
  have hcall : ∀ j, j < n → ∀ W, Below w.heap.size w W → Calls Tryd.prog 27 #[(e j).val, .pointer (some ⟨b, 0, none⟩)] W fun e' w' => e' = .returned (.int .i64 (sheetE m (e j))) ∧ Below W.heap.size W w' := fun j hj W hB =>
    chk1_Sheet (e j) va vb m gv b W (hm.below hB) (hsz j hj).1 (hsz j hj).2 (hml.below hB) (by have := hB.size; omega) ((hB.cell (p := ⟨_, _, none⟩) hb).trans h0) ((hB.cell (p := ⟨_, _, none⟩) hb).trans h1)
  have HCALL := Lib.hid hcall
  obtain ⟨oa, cap, rfl, -, -, hel⟩ := h.form
  have HEL := Lib.hid hel
  clear h hel hcall hm hsz hml h0 h1
  obtain ⟨R, hR⟩ : ∃ R, chkFrom (sheetE m) Sh.id e n 0 = R := ⟨_, rfl⟩
  have HR := Lib.hid hR
  rw [hR]
  clear hR
  go_enter Tryd.func26, Tryd.ntmps26
  go_wp2
  go_loopw [5, 6, 7, 11] (fun _ _ _ i wr => ∃ j : Nat, j ≤ n ∧ i = .int .i64 j ∧ Hid (chkFrom (sheetE m) Sh.id e (n - j) j = R) ∧ Below (w.alloc (.cells #[.slice oa n cap, .func (.func 42) #[] #[]] 65)).heap.size (w.alloc (.cells #[.slice oa n cap, .func (.func 42) #[] #[]] 65)) wr) (fun _ _ _ i _ => n - (intOf i).toNat)
  case atStart => exact ⟨0, by omega, rfl, HR.out, Below.refl _ _⟩
  case round =>
    obtain ⟨j, hj, rfl, hq, hB⟩ := hrel
    have HBr : Hid (Below w.heap.size w wr) := by
      show Below _ _ _
      exact below_step (w := w) (by go_grown) hB
    have HBX0 := Lib.hid hB
    have hs0 := hB.size
    (try simp only [World.size_alloc, World.size_setCell] at hs0)
    have z0 : w.heap.size < wr.heap.size := by omega
    have s0 : wr.cell? ⟨w.heap.size, 0, none⟩ = some (.slice oa n cap) := (hB.cell (p := ⟨_, _, none⟩) (by simp <;> omega)).trans (by simp [go_sem])
    have s1 : wr.cell? ⟨w.heap.size, 1, none⟩ = some (.func (.func 42) #[] #[]) := (hB.cell (p := ⟨_, _, none⟩) (by simp <;> omega)).trans (by simp [go_sem])
    clear hB hs0
    by_cases hlt : j < n
    · obtain ⟨b1, f1, rfl, hbl1, hcl1⟩ := HEL.out j hlt
      have c0 : wr.cell? ⟨b1, f1 + j * 6, none⟩ = some (.string (e j).id) := (HBr.out.cell (p := ⟨_, _, none⟩) hbl1).trans (hcl1 j hlt).1
      have c1 : wr.cell? ⟨b1, f1 + j * 6 + 1, none⟩ = some (.string (e j).grade) := (HBr.out.cell (p := ⟨_, _, none⟩) hbl1).trans (hcl1 j hlt).2.1
      have c2 : wr.cell? ⟨b1, f1 + j * 6 + 2, none⟩ = some (.int .i64 (e j).thick) := (HBr.out.cell (p := ⟨_, _, none⟩) hbl1).trans (hcl1 j hlt).2.2.1
      have c3 : wr.cell? ⟨b1, f1 + j * 6 + 3, none⟩ = some (.int .i64 (e j).len) := (HBr.out.cell (p := ⟨_, _, none⟩) hbl1).trans (hcl1 j hlt).2.2.2.1
      have c4 : wr.cell? ⟨b1, f1 + j * 6 + 4, none⟩ = some (.int .i64 (e j).wid) := (HBr.out.cell (p := ⟨_, _, none⟩) hbl1).trans (hcl1 j hlt).2.2.2.2.1
      have c5 : wr.cell? ⟨b1, f1 + j * 6 + 5, none⟩ = some (.string (e j).heat) := (HBr.out.cell (p := ⟨_, _, none⟩) hbl1).trans (hcl1 j hlt).2.2.2.2.2
      have hbr : b1 < wr.heap.size := by omega
      obtain ⟨EE, hEE⟩ : ∃ EE, sheetE m (e j) = EE := ⟨_, rfl⟩
      have HEE := Lib.hid hEE
      have HCL : Hid (∀ W, Below w.heap.size w W → Calls Tryd.prog 27 #[.agg #[.string (e j).id, .string (e j).grade, .int .i64 (e j).thick, .int .i64 (e j).len, .int .i64 (e j).wid, .string (e j).heat], .pointer (some ⟨b, 0, none⟩)] W fun e' w' => e' = .returned (.int .i64 EE) ∧ Below W.heap.size W w') := by
        show ∀ W, _
        intro W hB
        have := HCALL.out j hlt W hB
        rw [hEE] at this
        exact this
      have hcl9 := Lib.hid (hcl1)
      clear hEE hcl1
      have hbrw := HBr.out
      go_wp2_with fail
      (go_at_fn 27; refine (HCL.out _ (by go_grown)).mono ?_; rintro e_ w1 ⟨rfl, hb⟩)
      clear hbrw
      have HBw1 : Hid (Below wr.heap.size wr w1) := by
        show Below _ _ _
        exact below_step (w := wr) (by go_grown) hb
      have hs1 := hb.size
      (try simp only [World.size_alloc, World.size_setCell] at hs1)
      have z1 : wr.heap.size < w1.heap.size := by omega
      have x0 : w1.cell? ⟨wr.heap.size, 0, none⟩ = some (.string (e j).id) := (hb.cell (p := ⟨_, _, none⟩) (by simp <;> omega)).trans (by simp [go_sem])
      have x1 : w1.cell? ⟨wr.heap.size, 1, none⟩ = some (.string (e j).grade) := (hb.cell (p := ⟨_, _, none⟩) (by simp <;> omega)).trans (by simp [go_sem])
      have x2 : w1.cell? ⟨wr.heap.size, 2, none⟩ = some (.int .i64 (e j).thick) := (hb.cell (p := ⟨_, _, none⟩) (by simp <;> omega)).trans (by simp [go_sem])
      have x3 : w1.cell? ⟨wr.heap.size, 3, none⟩ = some (.int .i64 (e j).len) := (hb.cell (p := ⟨_, _, none⟩) (by simp <;> omega)).trans (by simp [go_sem])
      have x4 : w1.cell? ⟨wr.heap.size, 4, none⟩ = some (.int .i64 (e j).wid) := (hb.cell (p := ⟨_, _, none⟩) (by simp <;> omega)).trans (by simp [go_sem])
      have x5 : w1.cell? ⟨wr.heap.size, 5, none⟩ = some (.string (e j).heat) := (hb.cell (p := ⟨_, _, none⟩) (by simp <;> omega)).trans (by simp [go_sem])
      have s01 : w1.cell? ⟨w.heap.size, 0, none⟩ = some (.slice (some ⟨b1, f1, none⟩) n cap) := (HBw1.out.cell (p := ⟨_, _, none⟩) z0).trans s0
      have s11 : w1.cell? ⟨w.heap.size, 1, none⟩ = some (.func (.func 42) #[] #[]) := (HBw1.out.cell (p := ⟨_, _, none⟩) z0).trans s1
      have z01 : w.heap.size < w1.heap.size := by omega
      have hbr1 : b1 < w1.heap.size := by omega
      have HW1 : Hid (Below w.heap.size w w1) := below_step HBr.out HBw1.out
      clear hb hs1 s0 s1 c0 c1 c2 c3 c4 c5
      by_cases hE : EE = 0
      · subst hE
        by_cases hj0 : j = 0
        · subst hj0
          have hq2 : Hid (chkFrom (sheetE m) Sh.id e (n - (0 + 1)) (0 + 1) = R) := by
            show _ = _
            rw [← chkFrom_good hlt (by unfold chkAt; rw [HEE.out]; simp)]
            exact hq.out
          have k0 : decide ((0 : Int) < ((0 : Nat) : Int)) = false := by decide
          go_wp2_with fail
          refine wp_region_relw 18 (by kernel_rfl) (by kernel_rfl) (by kernel_rfl) ?_
          simp only [List.take_succ_cons, List.take_zero, fillL, Act.put, List.setIfInBounds_toArray, List.set_cons_zero, List.set_cons_succ]
          apply rel_is
          · intro u wx hb hd
            have hz := hb.size
            (try simp only [World.size_alloc, World.size_setCell] at hz)
            have hz0 : w.heap.size < wx.heap.size := by omega
            have hz1 : wr.heap.size < wx.heap.size := by omega
            have hz2 : b1 < wx.heap.size := by omega
            obtain ⟨hc, hf⟩ := bcell hb
            have HBX := Lib.hid hb
            clear hb hz
            simp [depsS, Region.binds, updS, Stay.is, Stay.any] at hd
            go_simp
            first | exact ⟨Below.refl _ _, rfl⟩ | rfl
          apply rel_is
          · intro u wx hb hd
            have hz := hb.size
            (try simp only [World.size_alloc, World.size_setCell] at hz)
            have hz0 : w.heap.size < wx.heap.size := by omega
            have hz1 : wr.heap.size < wx.heap.size := by omega
            have hz2 : b1 < wx.heap.size := by omega
            obtain ⟨hc, hf⟩ := bcell hb
            have HBX := Lib.hid hb
            clear hb hz
            simp [depsS, Region.binds, updS, Stay.is, Stay.any] at hd
            go_simp
            first | exact ⟨Below.refl _ _, rfl⟩ | rfl
          apply rel_is
          · intro u wx hb hd
            have hz := hb.size
            (try simp only [World.size_alloc, World.size_setCell] at hz)
            have hz0 : w.heap.size < wx.heap.size := by omega
            have hz1 : wr.heap.size < wx.heap.size := by omega
            have hz2 : b1 < wx.heap.size := by omega
            obtain ⟨hc, hf⟩ := bcell hb
            have HBX := Lib.hid hb
            clear hb hz
            simp [depsS, Region.binds, updS, Stay.is, Stay.any] at hd
            go_simp
            first | exact ⟨Below.refl _ _, rfl⟩ | rfl
          apply rel_is
          · intro u wx hb hd
            have hz := hb.size
            (try simp only [World.size_alloc, World.size_setCell] at hz)
            have hz0 : w.heap.size < wx.heap.size := by omega
            have hz1 : wr.heap.size < wx.heap.size := by omega
            have hz2 : b1 < wx.heap.size := by omega
            obtain ⟨hc, hf⟩ := bcell hb
            have HBX := Lib.hid hb
            clear hb hz
            simp [depsS, Region.binds, updS, Stay.is, Stay.any] at hd
            go_simp
            first | exact ⟨Below.refl _ _, rfl⟩ | rfl
          apply rel_is
          · intro u wx hb hd
            have hz := hb.size
            (try simp only [World.size_alloc, World.size_setCell] at hz)
            have hz0 : w.heap.size < wx.heap.size := by omega
            have hz1 : wr.heap.size < wx.heap.size := by omega
            have hz2 : b1 < wx.heap.size := by omega
            obtain ⟨hc, hf⟩ := bcell hb
            have HBX := Lib.hid hb
            clear hb hz
            simp [depsS, Region.binds, updS, Stay.is, Stay.any] at hd
            go_simp
            first | exact ⟨Below.refl _ _, rfl⟩ | rfl
          apply rel_is
          · intro u wx hb hd
            have hz := hb.size
            (try simp only [World.size_alloc, World.size_setCell] at hz)
            have hz0 : w.heap.size < wx.heap.size := by omega
            have hz1 : wr.heap.size < wx.heap.size := by omega
            have hz2 : b1 < wx.heap.size := by omega
            obtain ⟨hc, hf⟩ := bcell hb
            have HBX := Lib.hid hb
            clear hb hz
            simp [depsS, Region.binds, updS, Stay.is, Stay.any] at hd
            go_simp
            first | exact ⟨Below.refl _ _, rfl⟩ | rfl
          apply rel_is
          · intro u wx hb hd
            have hz := hb.size
            (try simp only [World.size_alloc, World.size_setCell] at hz)
            have hz0 : w.heap.size < wx.heap.size := by omega
            have hz1 : wr.heap.size < wx.heap.size := by omega
            have hz2 : b1 < wx.heap.size := by omega
            obtain ⟨hc, hf⟩ := bcell hb
            have HBX := Lib.hid hb
            clear hb hz
            simp [depsS, Region.binds, updS, Stay.is, Stay.any] at hd
            go_simp
            first | exact ⟨Below.refl _ _, rfl⟩ | rfl
          apply rel_is
          · intro u wx hb hd
            have hz := hb.size
            (try simp only [World.size_alloc, World.size_setCell] at hz)
            have hz0 : w.heap.size < wx.heap.size := by omega
            have hz1 : wr.heap.size < wx.heap.size := by omega
            have hz2 : b1 < wx.heap.size := by omega
            obtain ⟨hc, hf⟩ := bcell hb
            have HBX := Lib.hid hb
            clear hb hz
            simp [depsS, Region.binds, updS, Stay.is, Stay.any] at hd
            go_simp
            first | exact ⟨Below.refl _ _, rfl⟩ | rfl
          apply rel_is
          · intro u wx hb hd
            have hz := hb.size
            (try simp only [World.size_alloc, World.size_setCell] at hz)
            have hz0 : w.heap.size < wx.heap.size := by omega
            have hz1 : wr.heap.size < wx.heap.size := by omega
            have hz2 : b1 < wx.heap.size := by omega
            obtain ⟨hc, hf⟩ := bcell hb
            have HBX := Lib.hid hb
            clear hb hz
            simp [depsS, Region.binds, updS, Stay.is, Stay.any] at hd
            go_simp
            first | exact ⟨Below.refl _ _, rfl⟩ | rfl
          apply rel_is
          · intro u wx hb hd
            have hz := hb.size
            (try simp only [World.size_alloc, World.size_setCell] at hz)
            have hz0 : w.heap.size < wx.heap.size := by omega
            have hz1 : wr.heap.size < wx.heap.size := by omega
            have hz2 : b1 < wx.heap.size := by omega
            obtain ⟨hc, hf⟩ := bcell hb
            have HBX := Lib.hid hb
            clear hb hz
            simp [depsS, Region.binds, updS, Stay.is, Stay.any] at hd
            go_simp
            first | exact ⟨Below.refl _ _, rfl⟩ | rfl
          apply rel_is
          · intro u wx hb hd
            have hz := hb.size
            (try simp only [World.size_alloc, World.size_setCell] at hz)
            have hz0 : w.heap.size < wx.heap.size := by omega
            have hz1 : wr.heap.size < wx.heap.size := by omega
            have hz2 : b1 < wx.heap.size := by omega
            obtain ⟨hc, hf⟩ := bcell hb
            have HBX := Lib.hid hb
            clear hb hz
            simp [depsS, Region.binds, updS, Stay.is, Stay.any] at hd
            go_simp
            first | exact ⟨Below.refl _ _, rfl⟩ | rfl
          apply rel_is
          · intro u wx hb hd
            have hz := hb.size
            (try simp only [World.size_alloc, World.size_setCell] at hz)
            have hz0 : w.heap.size < wx.heap.size := by omega
            have hz1 : wr.heap.size < wx.heap.size := by omega
            have hz2 : b1 < wx.heap.size := by omega
            obtain ⟨hc, hf⟩ := bcell hb
            have HBX := Lib.hid hb
            clear hb hz
            simp [depsS, Region.binds, updS, Stay.is, Stay.any] at hd
            go_simp
            first | exact ⟨Below.refl _ _, rfl⟩ | rfl
          apply rel_is
          · intro u wx hb hd
            have hz := hb.size
            (try simp only [World.size_alloc, World.size_setCell] at hz)
            have hz0 : w.heap.size < wx.heap.size := by omega
            have hz1 : wr.heap.size < wx.heap.size := by omega
            have hz2 : b1 < wx.heap.size := by omega
            obtain ⟨hc, hf⟩ := bcell hb
            have HBX := Lib.hid hb
            clear hb hz
            simp [depsS, Region.binds, updS, Stay.is, Stay.any] at hd
            go_simp
            first | exact ⟨Below.refl _ _, rfl⟩ | rfl
          apply rel_is
          · intro u wx hb hd
            have hz := hb.size
            (try simp only [World.size_alloc, World.size_setCell] at hz)
            have hz0 : w.heap.size < wx.heap.size := by omega
            have hz1 : wr.heap.size < wx.heap.size := by omega
            have hz2 : b1 < wx.heap.size := by omega
            obtain ⟨hc, hf⟩ := bcell hb
            have HBX := Lib.hid hb
            clear hb hz
            simp [depsS, Region.binds, updS, Stay.is, Stay.any] at hd
            go_simp
            first | exact ⟨Below.refl _ _, rfl⟩ | rfl
          apply rel_is
          · intro u wx hb hd
            have hz := hb.size
            (try simp only [World.size_alloc, World.size_setCell] at hz)
            have hz0 : w.heap.size < wx.heap.size := by omega
            have hz1 : wr.heap.size < wx.heap.size := by omega
            have hz2 : b1 < wx.heap.size := by omega
            obtain ⟨hc, hf⟩ := bcell hb
            have HBX := Lib.hid hb
            clear hb hz
            simp [depsS, Region.binds, updS, Stay.is, Stay.any] at hd
            go_simp
            first | exact ⟨Below.refl _ _, rfl⟩ | rfl
          apply rel_is
          · intro u wx hb hd
            have hz := hb.size
            (try simp only [World.size_alloc, World.size_setCell] at hz)
            have hz0 : w.heap.size < wx.heap.size := by omega
            have hz1 : wr.heap.size < wx.heap.size := by omega
            have hz2 : b1 < wx.heap.size := by omega
            obtain ⟨hc, hf⟩ := bcell hb
            have HBX := Lib.hid hb
            clear hb hz
            simp [depsS, Region.binds, updS, Stay.is, Stay.any] at hd
            go_simp
            first | exact ⟨Below.refl _ _, rfl⟩ | rfl
          apply rel_is
          · intro u wx hb hd
            have hz := hb.size
            (try simp only [World.size_alloc, World.size_setCell] at hz)
            have hz0 : w.heap.size < wx.heap.size := by omega
            have hz1 : wr.heap.size < wx.heap.size := by omega
            have hz2 : b1 < wx.heap.size := by omega
            obtain ⟨hc, hf⟩ := bcell hb
            have HBX := Lib.hid hb
            clear hb hz
            simp [depsS, Region.binds, updS, Stay.is, Stay.any] at hd
            go_simp
            first | exact ⟨Below.refl _ _, rfl⟩ | rfl
          apply rel_is
          · intro u wx hb hd
            have hz := hb.size
            (try simp only [World.size_alloc, World.size_setCell] at hz)
            have hz0 : w.heap.size < wx.heap.size := by omega
            have hz1 : wr.heap.size < wx.heap.size := by omega
            have hz2 : b1 < wx.heap.size := by omega
            obtain ⟨hc, hf⟩ := bcell hb
            have HBX := Lib.hid hb
            clear hb hz
            simp [depsS, Region.binds, updS, Stay.is, Stay.any] at hd
            go_simp
            first | exact ⟨Below.refl _ _, rfl⟩ | rfl
          intro u w5 hb hE
          have e0 : u 0 = _ := endS_get hE 0 (by decide)
          have e1 : u 1 = _ := endS_get hE 1 (by decide)
          have e2 : u 2 = _ := endS_get hE 2 (by decide)
          have e3 : u 3 = _ := endS_get hE 3 (by decide)
          have e4 : u 4 = _ := endS_get hE 4 (by decide)
          have e5 : u 5 = _ := endS_get hE 5 (by decide)
          have e6 : u 6 = _ := endS_get hE 6 (by decide)
          have e7 : u 7 = _ := endS_get hE 7 (by decide)
          have e8 : u 8 = _ := endS_get hE 8 (by decide)
          have e9 : u 9 = _ := endS_get hE 9 (by decide)
          have e10 : u 10 = _ := endS_get hE 10 (by decide)
          have e11 : u 11 = _ := endS_get hE 11 (by decide)
          have e12 : u 12 = _ := endS_get hE 12 (by decide)
          have e13 : u 13 = _ := endS_get hE 13 (by decide)
          have e14 : u 14 = _ := endS_get hE 14 (by decide)
          have e15 : u 15 = _ := endS_get hE 15 (by decide)
          have e16 : u 16 = _ := endS_get hE 16 (by decide)
          have e17 : u 17 = _ := endS_get hE 17 (by decide)
          simp only [List.drop_succ_cons, List.drop_zero, List.take_succ_cons, List.take_zero, fillL, Act.put, List.setIfInBounds_toArray, List.set_cons_zero, List.set_cons_succ, e0, e1, e2, e3, e4, e5, e6, e7, e8, e9, e10, e11, e12, e13, e14, e15, e16, e17]
          clear e0 e1 e2 e3 e4 e5 e6 e7 e8 e9 e10 e11 e12 e13 e14 e15 e16 e17 hE
          have HBw5 := Lib.hid (below_step (w := w1) (by first | assumption | go_grown) hb)
          have HBXw5 := Lib.hid hb
          have hzw5 := hb.size
          (try simp only [World.size_alloc, World.size_setCell] at hzw5)
          have hzw50 : w.heap.size < w5.heap.size := by omega
          have hzw51 : wr.heap.size < w5.heap.size := by omega
          have hzw52 : b1 < w5.heap.size := by omega
          obtain ⟨hcw5, hfw5⟩ := bcell hb
          clear hb hzw5
          have HBN : Hid (Below (w.alloc (.cells #[.slice (some ⟨b1, f1, none⟩) n cap, .func (.func 42) #[] #[]] 65)).heap.size (w.alloc (.cells #[.slice (some ⟨b1, f1, none⟩) n cap, .func (.func 42) #[] #[]] 65)) w5) := by
            show Below _ _ _
            exact below_step HBX0.out (below_step HBw1.out HBXw5.out)
          go_wp2
          go_roundw
          case rel => exact ⟨0 + 1, by omega, by go_num, hq2, HBN.out⟩
          case measure => simp [intOf]; omega
        · have hj1 : j - 1 < n := by omega
          have hcl2 := hcl9.out (j - 1) hj1
          have d0 : w1.cell? ⟨b1, f1 + (j - 1) * 6, none⟩ = some (.string (e (j - 1)).id) := (HW1.out.cell (p := ⟨_, _, none⟩) hbl1).trans hcl2.1
          have d1 : w1.cell? ⟨b1, f1 + (j - 1) * 6 + 1, none⟩ = some (.string (e (j - 1)).grade) := (HW1.out.cell (p := ⟨_, _, none⟩) hbl1).trans hcl2.2.1
          have d2 : w1.cell? ⟨b1, f1 + (j - 1) * 6 + 2, none⟩ = some (.int .i64 (e (j - 1)).thick) := (HW1.out.cell (p := ⟨_, _, none⟩) hbl1).trans hcl2.2.2.1
          have d3 : w1.cell? ⟨b1, f1 + (j - 1) * 6 + 3, none⟩ = some (.int .i64 (e (j - 1)).len) := (HW1.out.cell (p := ⟨_, _, none⟩) hbl1).trans hcl2.2.2.2.1
          have d4 : w1.cell? ⟨b1, f1 + (j - 1) * 6 + 4, none⟩ = some (.int .i64 (e (j - 1)).wid) := (HW1.out.cell (p := ⟨_, _, none⟩) hbl1).trans hcl2.2.2.2.2.1
          have d5 : w1.cell? ⟨b1, f1 + (j - 1) * 6 + 5, none⟩ = some (.string (e (j - 1)).heat) := (HW1.out.cell (p := ⟨_, _, none⟩) hbl1).trans hcl2.2.2.2.2.2
          have k0 : decide ((0 : Int) < (j : Int)) = true := decide_eq_true (by omega)
          have k1 : IntKind.i64.wrap ((j : Int) - 1) = (j : Int) - 1 := IntWalk.i64_in _ (by omega)
          have k2 : ((j : Int) - 1).toNat = j - 1 := by omega
          have k3 : (0 : Int) ≤ (j : Int) - 1 := by omega
          have k4 : (j : Int) - 1 < (n : Int) := by omega
          have k5 : (1 : Int) ≤ (j : Int) := by omega
          have k6 : 1 ≤ j := by omega
          obtain ⟨LE, hLE⟩ : ∃ LE, strLe (e j).id (e (j - 1)).id = LE := ⟨_, rfl⟩
          have HLE := Lib.hid hLE
          have hle : (Op.bytesLess (e j).id.toList (e (j - 1)).id.toList || (e j).id.toList == (e (j - 1)).id.toList) = LE := hLE
          have hj00 : 0 < j := by omega
          clear hLE hcl2 hj0
          go_wp2_with fail
          refine wp_region_relw 18 (by kernel_rfl) (by kernel_rfl) (by kernel_rfl) ?_
          simp only [List.take_succ_cons, List.take_zero, fillL, Act.put, List.setIfInBounds_toArray, List.set_cons_zero, List.set_cons_succ]
          apply rel_is
          · intro u wx hb hd
            have hz := hb.size
            (try simp only [World.size_alloc, World.size_setCell] at hz)
            have hz0 : w.heap.size < wx.heap.size := by omega
            have hz1 : wr.heap.size < wx.heap.size := by omega
            have hz2 : b1 < wx.heap.size := by omega
            obtain ⟨hc, hf⟩ := bcell hb
            have HBX := Lib.hid hb
            clear hb hz
            simp [depsS, Region.binds, updS, Stay.is, Stay.any] at hd
            go_simp
            first | exact ⟨Below.refl _ _, rfl⟩ | rfl
          apply rel_is
          · intro u wx hb hd
            have hz := hb.size
            (try simp only [World.size_alloc, World.size_setCell] at hz)
            have hz0 : w.heap.size < wx.heap.size := by omega
            have hz1 : wr.heap.size < wx.heap.size := by omega
            have hz2 : b1 < wx.heap.size := by omega
            obtain ⟨hc, hf⟩ := bcell hb
            have HBX := Lib.hid hb
            clear hb hz
            simp [depsS, Region.binds, updS, Stay.is, Stay.any] at hd
            go_simp
            first | exact ⟨Below.refl _ _, rfl⟩ | rfl
          apply rel_is
          · intro u wx hb hd
            have hz := hb.size
            (try simp only [World.size_alloc, World.size_setCell] at hz)
            have hz0 : w.heap.size < wx.heap.size := by omega
            have hz1 : wr.heap.size < wx.heap.size := by omega
            have hz2 : b1 < wx.heap.size := by omega
            obtain ⟨hc, hf⟩ := bcell hb
            have HBX := Lib.hid hb
            clear hb hz
            simp [depsS, Region.binds, updS, Stay.is, Stay.any] at hd
            go_simp
            first | exact ⟨Below.refl _ _, rfl⟩ | rfl
          apply rel_is
          · intro u wx hb hd
            have hz := hb.size
            (try simp only [World.size_alloc, World.size_setCell] at hz)
            have hz0 : w.heap.size < wx.heap.size := by omega
            have hz1 : wr.heap.size < wx.heap.size := by omega
            have hz2 : b1 < wx.heap.size := by omega
            obtain ⟨hc, hf⟩ := bcell hb
            have HBX := Lib.hid hb
            clear hb hz
            simp [depsS, Region.binds, updS, Stay.is, Stay.any] at hd
            go_simp
            first | exact ⟨Below.refl _ _, rfl⟩ | rfl
          apply rel_is
          · intro u wx hb hd
            have hz := hb.size
            (try simp only [World.size_alloc, World.size_setCell] at hz)
            have hz0 : w.heap.size < wx.heap.size := by omega
            have hz1 : wr.heap.size < wx.heap.size := by omega
            have hz2 : b1 < wx.heap.size := by omega
            obtain ⟨hc, hf⟩ := bcell hb
            have HBX := Lib.hid hb
            clear hb hz
            simp [depsS, Region.binds, updS, Stay.is, Stay.any] at hd
            go_simp
            first | exact ⟨Below.refl _ _, rfl⟩ | rfl
          apply rel_is
          · intro u wx hb hd
            have hz := hb.size
            (try simp only [World.size_alloc, World.size_setCell] at hz)
            have hz0 : w.heap.size < wx.heap.size := by omega
            have hz1 : wr.heap.size < wx.heap.size := by omega
            have hz2 : b1 < wx.heap.size := by omega
            obtain ⟨hc, hf⟩ := bcell hb
            have HBX := Lib.hid hb
            clear hb hz
            simp [depsS, Region.binds, updS, Stay.is, Stay.any] at hd
            go_simp
            first | exact ⟨Below.refl _ _, rfl⟩ | rfl
          apply rel_is
          · intro u wx hb hd
            have hz := hb.size
            (try simp only [World.size_alloc, World.size_setCell] at hz)
            have hz0 : w.heap.size < wx.heap.size := by omega
            have hz1 : wr.heap.size < wx.heap.size := by omega
            have hz2 : b1 < wx.heap.size := by omega
            obtain ⟨hc, hf⟩ := bcell hb
            have HBX := Lib.hid hb
            clear hb hz
            simp [depsS, Region.binds, updS, Stay.is, Stay.any] at hd
            go_simp
            first | rfl | (go_at_fn 42; refine (id_Sheet (e j) wx).mono ?_; rintro e w1 ⟨rfl, hb1⟩; first | exact ⟨rfl, hb1⟩ | exact ⟨_, rfl, hb1, rfl⟩)
          apply rel_is
          · intro u wx hb hd
            have hz := hb.size
            (try simp only [World.size_alloc, World.size_setCell] at hz)
            have hz0 : w.heap.size < wx.heap.size := by omega
            have hz1 : wr.heap.size < wx.heap.size := by omega
            have hz2 : b1 < wx.heap.size := by omega
            obtain ⟨hc, hf⟩ := bcell hb
            have HBX := Lib.hid hb
            clear hb hz
            simp [depsS, Region.binds, updS, Stay.is, Stay.any] at hd
            go_simp
            first | exact ⟨Below.refl _ _, rfl⟩ | rfl
          apply rel_is
          · intro u wx hb hd
            have hz := hb.size
            (try simp only [World.size_alloc, World.size_setCell] at hz)
            have hz0 : w.heap.size < wx.heap.size := by omega
            have hz1 : wr.heap.size < wx.heap.size := by omega
            have hz2 : b1 < wx.heap.size := by omega
            obtain ⟨hc, hf⟩ := bcell hb
            have HBX := Lib.hid hb
            clear hb hz
            simp [depsS, Region.binds, updS, Stay.is, Stay.any] at hd
            go_simp
            first | exact ⟨Below.refl _ _, rfl⟩ | rfl
          apply rel_is
          · intro u wx hb hd
            have hz := hb.size
            (try simp only [World.size_alloc, World.size_setCell] at hz)
            have hz0 : w.heap.size < wx.heap.size := by omega
            have hz1 : wr.heap.size < wx.heap.size := by omega
            have hz2 : b1 < wx.heap.size := by omega
            obtain ⟨hc, hf⟩ := bcell hb
            have HBX := Lib.hid hb
            clear hb hz
            simp [depsS, Region.binds, updS, Stay.is, Stay.any] at hd
            go_simp
            first | exact ⟨Below.refl _ _, rfl⟩ | rfl
          apply rel_is
          · intro u wx hb hd
            have hz := hb.size
            (try simp only [World.size_alloc, World.size_setCell] at hz)
            have hz0 : w.heap.size < wx.heap.size := by omega
            have hz1 : wr.heap.size < wx.heap.size := by omega
            have hz2 : b1 < wx.heap.size := by omega
            obtain ⟨hc, hf⟩ := bcell hb
            have HBX := Lib.hid hb
            clear hb hz
            simp [depsS, Region.binds, updS, Stay.is, Stay.any] at hd
            go_simp
            first | exact ⟨Below.refl _ _, rfl⟩ | rfl
          apply rel_is
          · intro u wx hb hd
            have hz := hb.size
            (try simp only [World.size_alloc, World.size_setCell] at hz)
            have hz0 : w.heap.size < wx.heap.size := by omega
            have hz1 : wr.heap.size < wx.heap.size := by omega
            have hz2 : b1 < wx.heap.size := by omega
            obtain ⟨hc, hf⟩ := bcell hb
            have HBX := Lib.hid hb
            clear hb hz
            simp [depsS, Region.binds, updS, Stay.is, Stay.any] at hd
            go_simp
            first | exact ⟨Below.refl _ _, rfl⟩ | rfl
          apply rel_is
          · intro u wx hb hd
            have hz := hb.size
            (try simp only [World.size_alloc, World.size_setCell] at hz)
            have hz0 : w.heap.size < wx.heap.size := by omega
            have hz1 : wr.heap.size < wx.heap.size := by omega
            have hz2 : b1 < wx.heap.size := by omega
            obtain ⟨hc, hf⟩ := bcell hb
            have HBX := Lib.hid hb
            clear hb hz
            simp [depsS, Region.binds, updS, Stay.is, Stay.any] at hd
            go_simp
            first | exact ⟨Below.refl _ _, rfl⟩ | rfl
          apply rel_is
          · intro u wx hb hd
            have hz := hb.size
            (try simp only [World.size_alloc, World.size_setCell] at hz)
            have hz0 : w.heap.size < wx.heap.size := by omega
            have hz1 : wr.heap.size < wx.heap.size := by omega
            have hz2 : b1 < wx.heap.size := by omega
            obtain ⟨hc, hf⟩ := bcell hb
            have HBX := Lib.hid hb
            clear hb hz
            simp [depsS, Region.binds, updS, Stay.is, Stay.any] at hd
            go_simp
            first | exact ⟨Below.refl _ _, rfl⟩ | rfl
          apply rel_is
          · intro u wx hb hd
            have hz := hb.size
            (try simp only [World.size_alloc, World.size_setCell] at hz)
            have hz0 : w.heap.size < wx.heap.size := by omega
            have hz1 : wr.heap.size < wx.heap.size := by omega
            have hz2 : b1 < wx.heap.size := by omega
            obtain ⟨hc, hf⟩ := bcell hb
            have HBX := Lib.hid hb
            clear hb hz
            simp [depsS, Region.binds, updS, Stay.is, Stay.any] at hd
            go_simp
            first | exact ⟨Below.refl _ _, rfl⟩ | rfl
          apply rel_is
          · intro u wx hb hd
            have hz := hb.size
            (try simp only [World.size_alloc, World.size_setCell] at hz)
            have hz0 : w.heap.size < wx.heap.size := by omega
            have hz1 : wr.heap.size < wx.heap.size := by omega
            have hz2 : b1 < wx.heap.size := by omega
            obtain ⟨hc, hf⟩ := bcell hb
            have HBX := Lib.hid hb
            clear hb hz
            simp [depsS, Region.binds, updS, Stay.is, Stay.any] at hd
            go_simp
            first | rfl | (go_at_fn 42; refine (id_Sheet (e (j - 1)) wx).mono ?_; rintro e w1 ⟨rfl, hb1⟩; first | exact ⟨rfl, hb1⟩ | exact ⟨_, rfl, hb1, rfl⟩)
          apply rel_is
          · intro u wx hb hd
            have hz := hb.size
            (try simp only [World.size_alloc, World.size_setCell] at hz)
            have hz0 : w.heap.size < wx.heap.size := by omega
            have hz1 : wr.heap.size < wx.heap.size := by omega
            have hz2 : b1 < wx.heap.size := by omega
            obtain ⟨hc, hf⟩ := bcell hb
            have HBX := Lib.hid hb
            clear hb hz
            simp [depsS, Region.binds, updS, Stay.is, Stay.any] at hd
            go_simp
            first | exact ⟨Below.refl _ _, rfl⟩ | rfl
          apply rel_is
          · intro u wx hb hd
            have hz := hb.size
            (try simp only [World.size_alloc, World.size_setCell] at hz)
            have hz0 : w.heap.size < wx.heap.size := by omega
            have hz1 : wr.heap.size < wx.heap.size := by omega
            have hz2 : b1 < wx.heap.size := by omega
            obtain ⟨hc, hf⟩ := bcell hb
            have HBX := Lib.hid hb
            clear hb hz
            simp [depsS, Region.binds, updS, Stay.is, Stay.any] at hd
            go_simp
            first | exact ⟨Below.refl _ _, rfl⟩ | rfl
          intro u w5 hb hE
          have e0 : u 0 = _ := endS_get hE 0 (by decide)
          have e1 : u 1 = _ := endS_get hE 1 (by decide)
          have e2 : u 2 = _ := endS_get hE 2 (by decide)
          have e3 : u 3 = _ := endS_get hE 3 (by decide)
          have e4 : u 4 = _ := endS_get hE 4 (by decide)
          have e5 : u 5 = _ := endS_get hE 5 (by decide)
          have e6 : u 6 = _ := endS_get hE 6 (by decide)
          have e7 : u 7 = _ := endS_get hE 7 (by decide)
          have e8 : u 8 = _ := endS_get hE 8 (by decide)
          have e9 : u 9 = _ := endS_get hE 9 (by decide)
          have e10 : u 10 = _ := endS_get hE 10 (by decide)
          have e11 : u 11 = _ := endS_get hE 11 (by decide)
          have e12 : u 12 = _ := endS_get hE 12 (by decide)
          have e13 : u 13 = _ := endS_get hE 13 (by decide)
          have e14 : u 14 = _ := endS_get hE 14 (by decide)
          have e15 : u 15 = _ := endS_get hE 15 (by decide)
          have e16 : u 16 = _ := endS_get hE 16 (by decide)
          have e17 : u 17 = _ := endS_get hE 17 (by decide)
          simp only [List.drop_succ_cons, List.drop_zero, List.take_succ_cons, List.take_zero, fillL, Act.put, List.setIfInBounds_toArray, List.set_cons_zero, List.set_cons_succ, e0, e1, e2, e3, e4, e5, e6, e7, e8, e9, e10, e11, e12, e13, e14, e15, e16, e17]
          clear e0 e1 e2 e3 e4 e5 e6 e7 e8 e9 e10 e11 e12 e13 e14 e15 e16 e17 hE
          have HBw5 := Lib.hid (below_step (w := w1) (by first | assumption | go_grown) hb)
          have HBXw5 := Lib.hid hb
          have hzw5 := hb.size
          (try simp only [World.size_alloc, World.size_setCell] at hzw5)
          have hzw50 : w.heap.size < w5.heap.size := by omega
          have hzw51 : wr.heap.size < w5.heap.size := by omega
          have hzw52 : b1 < w5.heap.size := by omega
          obtain ⟨hcw5, hfw5⟩ := bcell hb
          clear hb hzw5
          have HBN : Hid (Below (w.alloc (.cells #[.slice (some ⟨b1, f1, none⟩) n cap, .func (.func 42) #[] #[]] 65)).heap.size (w.alloc (.cells #[.slice (some ⟨b1, f1, none⟩) n cap, .func (.func 42) #[] #[]] 65)) w5) := by
            show Below _ _ _
            exact below_step HBX0.out (below_step HBw1.out HBXw5.out)
          have HBM : Hid (Below w.heap.size w w5) := below_step HW1.out HBXw5.out
          cases LE with
          | true =>
            have hR0 : R = 11 := by
              have hlt9 : ltB (e (j - 1)).id (e j).id = false := by
                have := HLE.out
                rw [strLe_not] at this
                simpa using this
              have h9 : chkAt (sheetE m) Sh.id e j = 11 := by unfold chkAt; rw [HEE.out, if_neg (by decide), if_pos ⟨hj00, hlt9⟩]
              rw [← hq.out, chkFrom_bad hlt (by rw [h9]; decide), h9]
            have HR0 := Lib.hid hR0
            clear hR0
            go_wp2
            go_returns
            rw [HR0.out]
            exact ⟨rfl, HBM.out⟩
          | false =>
            have hq2 : Hid (chkFrom (sheetE m) Sh.id e (n - (j + 1)) (j + 1) = R) := by
              show _ = _
              have hlt9 : ltB (e (j - 1)).id (e j).id = true := by
                have := HLE.out
                rw [strLe_not] at this
                simpa using this
              rw [← chkFrom_good hlt (by unfold chkAt; rw [HEE.out, if_neg (by decide), if_neg (by rw [hlt9]; simp)])]
              exact hq.out
            go_wp2
            go_roundw
            case rel => exact ⟨j + 1, by omega, by go_num, hq2, HBN.out⟩
            case measure => simp [intOf]; omega
      · have hR0 : R = EE := by
          have h9 : chkAt (sheetE m) Sh.id e j = EE := by unfold chkAt; rw [HEE.out, if_pos hE]
          rw [← hq.out, chkFrom_bad hlt (by rw [h9]; exact hE), h9]
        have HR0 := Lib.hid hR0
        have k0 : (EE != 0) = true := by simpa using hE
        clear hR0 hE
        go_wp2
        go_returns
        rw [HR0.out]
        exact ⟨rfl, HW1.out⟩
    · have hR0 : R = 0 := by rw [← hq.out, chkFrom_end hj hlt]
      have HR0 := Lib.hid hR0
      clear hR0
      go_wp2
      go_returns
      rw [HR0.out]
      exact ⟨rfl, HBr.out⟩

set_option maxHeartbeats 2000000 in
theorem chk1_Bar (x : Br) (va vb : Value) (m : Mat) (gv : Nat → Value) (b : Nat) (w : World) (h : MatAt w (.agg #[va, vb]) m gv) (hi : x.id.size ≤ 2147483648) (hh : x.heat.size ≤ 2147483648) (hml : MaxLenIs w)
    (hb : b < w.heap.size) (h0 : w.cell? ⟨b, 0, none⟩ = some va) (h1 : w.cell? ⟨b, 1, none⟩ = some vb) :
    Calls Tryd.prog 31 #[x.val, .pointer (some ⟨b, 0, none⟩)] w fun e w' => e = .returned (.int .i64 (barE m x)) ∧ Below w.heap.size w w' := by
  have hcall := fun W (hB : Below w.heap.size w W) => bar_any x _ m gv W (h.below hB) hi hh (hml.below hB)
  obtain ⟨vg, vs, hvv, hG, hS, -⟩ := h
  obtain ⟨oa, ca, rfl, -, -⟩ := hG.form
  obtain ⟨ob, cb, rfl, -, -⟩ := hS.form
  cases hvv
  obtain ⟨EE, hEE⟩ : ∃ EE, barE m x = EE := ⟨_, rfl⟩
  rw [hEE] at hcall
  rw [hEE]
  obtain ⟨id', sect', grade', len', heat'⟩ := x
  have HC : Hid (∀ W, Below w.heap.size w W → Calls Tryd.prog 32 #[.agg #[.string id', .string sect', .string grade', .int .i64 len', .string heat'], .agg #[.slice oa m.ng ca, .slice ob m.ns cb]] W fun e w' => e = .returned (.int .i64 EE) ∧ Below W.heap.size W w') := hcall
  clear hcall hG hS hml hEE hi hh
  show Calls Tryd.prog 31 #[.agg #[.string id', .string sect', .string grade', .int .i64 len', .string heat'], .pointer (some ⟨b, 0, none⟩)] w _
  go_enter Tryd.func31, Tryd.ntmps31
  go_wp2_with fail
  (go_at_call 32; refine (HC.out _ (by go_grown)).mono ?_; rintro e_ w1 ⟨rfl, hB⟩)
  have HB1 : Hid (Below w.heap.size w w1) := by
    show Below _ _ _
    exact below_step (w := w) (by go_grown) hB
  clear hB
  go_wp2
  go_returns
  exact ⟨rfl, HB1.out⟩
set_option maxHeartbeats 4000000 in
theorem chk_Bar (v : Value) (n : Nat) (e : Nat → Br) (va vb : Value) (m : Mat) (gv : Nat → Value) (b : Nat) (w : World) (h : BrAt w v n e) (hn : n ≤ 1000000) (hm : MatAt w (.agg #[va, vb]) m gv) (hsz : ∀ i, i < n → (e i).id.size ≤ 2147483648 ∧ (e i).heat.size ≤ 2147483648) (hml : MaxLenIs w)
    (hb : b < w.heap.size) (h0 : w.cell? ⟨b, 0, none⟩ = some va) (h1 : w.cell? ⟨b, 1, none⟩ = some vb) :
    Calls Tryd.prog 30 #[.agg #[v, .func (.func 46) #[] #[]], .func (.func 31) #[] #[.pointer (some ⟨b, 0, none⟩)]] w fun e' w' => e' = .returned (.int .i64 (chkFrom (barE m) Br.id e n 0)) ∧ Below w.heap.size w w' := by
  have eg1 : ∀ args w, (callFunc 46 args).run Tryd.prog w = .ok (.enter 46 args) w := enters_of Tryd.func46 (by kernel_rfl) rfl
  have eg2 : ∀ args w, (callFunc 31 args).run Tryd.prog w = .ok (.enter 31 args) w := enters_of Tryd.func31 (by kernel_rfl) rfl
  have hcall : ∀ j, j < n → ∀ W, Below w.heap.size w W → Calls Tryd.prog 31 #[(e j).val, .pointer (some ⟨b, 0, none⟩)] W fun e' w' => e' = .returned (.int .i64 (barE m (e j))) ∧ Below W.heap.size W w' := fun j hj W hB =>
    chk1_Bar (e j) va vb m gv b W (hm.below hB) (hsz j hj).1 (hsz j hj).2 (hml.below hB) (by have := hB.size; omega) ((hB.cell (p := ⟨_, _, none⟩) hb).trans h0) ((hB.cell (p := ⟨_, _, none⟩) hb).trans h1)
  have HCALL := Lib.hid hcall
  obtain ⟨oa, cap, rfl, -, -, hel⟩ := h.form
  have HEL := Lib.hid hel
  clear h hel hcall hm hsz hml h0 h1
  obtain ⟨R, hR⟩ : ∃ R, chkFrom (barE m) Br.id e n 0 = R := ⟨_, rfl⟩
  have HR := Lib.hid hR
  rw [hR]
  clear hR
  go_enter Tryd.func30, Tryd.ntmps30
  go_wp2
  go_loopw [5, 6, 7, 11] (fun _ _ _ i wr => ∃ j : Nat, j ≤ n ∧ i = .int .i64 j ∧ Hid (chkFrom (barE m) Br.id e (n - j) j = R) ∧ Below (w.alloc (.cells #[.slice oa n cap, .func (.func 46) #[] #[]] 72)).heap.size (w.alloc (.cells #[.slice oa n cap, .func (.func 46) #[] #[]] 72)) wr) (fun _ _ _ i _ => n - (intOf i).toNat)
  case atStart => exact ⟨0, by omega, rfl, HR.out, Below.refl _ _⟩
  case round =>
    obtain ⟨j, hj, rfl, hq, hB⟩ := hrel
    have HBr : Hid (Below w.heap.size w wr) := by
      show Below _ _ _
      exact below_step (w := w) (by go_grown) hB
    have HBX0 := Lib.hid hB
    have hs0 := hB.size
    (try simp only [World.size_alloc, World.size_setCell] at hs0)
    have z0 : w.heap.size < wr.heap.size := by omega
    have s0 : wr.cell? ⟨w.heap.size, 0, none⟩ = some (.slice oa n cap) := (hB.cell (p := ⟨_, _, none⟩) (by simp <;> omega)).trans (by simp [go_sem])
    have s1 : wr.cell? ⟨w.heap.size, 1, none⟩ = some (.func (.func 46) #[] #[]) := (hB.cell (p := ⟨_, _, none⟩) (by simp <;> omega)).trans (by simp [go_sem])
    clear hB hs0
    by_cases hlt : j < n
    · obtain ⟨b1, f1, rfl, hbl1, hcl1⟩ := HEL.out j hlt
      have c0 : wr.cell? ⟨b1, f1 + j * 5, none⟩ = some (.string (e j).id) := (HBr.out.cell (p := ⟨_, _, none⟩) hbl1).trans (hcl1 j hlt).1
      have c1 : wr.cell? ⟨b1, f1 + j * 5 + 1, none⟩ = some (.string (e j).sect) := (HBr.out.cell (p := ⟨_, _, none⟩) hbl1).trans (hcl1 j hlt).2.1
      have c2 : wr.cell? ⟨b1, f1 + j * 5 + 2, none⟩ = some (.string (e j).grade) := (HBr.out.cell (p := ⟨_, _, none⟩) hbl1).trans (hcl1 j hlt).2.2.1
      have c3 : wr.cell? ⟨b1, f1 + j * 5 + 3, none⟩ = some (.int .i64 (e j).len) := (HBr.out.cell (p := ⟨_, _, none⟩) hbl1).trans (hcl1 j hlt).2.2.2.1
      have c4 : wr.cell? ⟨b1, f1 + j * 5 + 4, none⟩ = some (.string (e j).heat) := (HBr.out.cell (p := ⟨_, _, none⟩) hbl1).trans (hcl1 j hlt).2.2.2.2
      have hbr : b1 < wr.heap.size := by omega
      obtain ⟨EE, hEE⟩ : ∃ EE, barE m (e j) = EE := ⟨_, rfl⟩
      have HEE := Lib.hid hEE
      have HCL : Hid (∀ W, Below w.heap.size w W → Calls Tryd.prog 31 #[.agg #[.string (e j).id, .string (e j).sect, .string (e j).grade, .int .i64 (e j).len, .string (e j).heat], .pointer (some ⟨b, 0, none⟩)] W fun e' w' => e' = .returned (.int .i64 EE) ∧ Below W.heap.size W w') := by
        show ∀ W, _
        intro W hB
        have := HCALL.out j hlt W hB
        rw [hEE] at this
        exact this
      have hcl9 := Lib.hid (hcl1)
      clear hEE hcl1
      have hbrw := HBr.out
      go_wp2_with fail
      (go_at_fn 31; refine (HCL.out _ (by go_grown)).mono ?_; rintro e_ w1 ⟨rfl, hb⟩)
      clear hbrw
      have HBw1 : Hid (Below wr.heap.size wr w1) := by
        show Below _ _ _
        exact below_step (w := wr) (by go_grown) hb
      have hs1 := hb.size
      (try simp only [World.size_alloc, World.size_setCell] at hs1)
      have z1 : wr.heap.size < w1.heap.size := by omega
      have x0 : w1.cell? ⟨wr.heap.size, 0, none⟩ = some (.string (e j).id) := (hb.cell (p := ⟨_, _, none⟩) (by simp <;> omega)).trans (by simp [go_sem])
      have x1 : w1.cell? ⟨wr.heap.size, 1, none⟩ = some (.string (e j).sect) := (hb.cell (p := ⟨_, _, none⟩) (by simp <;> omega)).trans (by simp [go_sem])
      have x2 : w1.cell? ⟨wr.heap.size, 2, none⟩ = some (.string (e j).grade) := (hb.cell (p := ⟨_, _, none⟩) (by simp <;> omega)).trans (by simp [go_sem])
      have x3 : w1.cell? ⟨wr.heap.size, 3, none⟩ = some (.int .i64 (e j).len) := (hb.cell (p := ⟨_, _, none⟩) (by simp <;> omega)).trans (by simp [go_sem])
      have x4 : w1.cell? ⟨wr.heap.size, 4, none⟩ = some (.string (e j).heat) := (hb.cell (p := ⟨_, _, none⟩) (by simp <;> omega)).trans (by simp [go_sem])
      have s01 : w1.cell? ⟨w.heap.size, 0, none⟩ = some (.slice (some ⟨b1, f1, none⟩) n cap) := (HBw1.out.cell (p := ⟨_, _, none⟩) z0).trans s0
      have s11 : w1.cell? ⟨w.heap.size, 1, none⟩ = some (.func (.func 46) #[] #[]) := (HBw1.out.cell (p := ⟨_, _, none⟩) z0).trans s1
      have z01 : w.heap.size < w1.heap.size := by omega
      have hbr1 : b1 < w1.heap.size := by omega
      have HW1 : Hid (Below w.heap.size w w1) := below_step HBr.out HBw1.out
      clear hb hs1 s0 s1 c0 c1 c2 c3 c4
      by_cases hE : EE = 0
      · subst hE
        by_cases hj0 : j = 0
        · subst hj0
          have hq2 : Hid (chkFrom (barE m) Br.id e (n - (0 + 1)) (0 + 1) = R) := by
            show _ = _
            rw [← chkFrom_good hlt (by unfold chkAt; rw [HEE.out]; simp)]
            exact hq.out
          have k0 : decide ((0 : Int) < ((0 : Nat) : Int)) = false := by decide
          go_wp2_with fail
          refine wp_region_relw 18 (by kernel_rfl) (by kernel_rfl) (by kernel_rfl) ?_
          simp only [List.take_succ_cons, List.take_zero, fillL, Act.put, List.setIfInBounds_toArray, List.set_cons_zero, List.set_cons_succ]
          apply rel_is
          · intro u wx hb hd
            have hz := hb.size
            (try simp only [World.size_alloc, World.size_setCell] at hz)
            have hz0 : w.heap.size < wx.heap.size := by omega
            have hz1 : wr.heap.size < wx.heap.size := by omega
            have hz2 : b1 < wx.heap.size := by omega
            obtain ⟨hc, hf⟩ := bcell hb
            have HBX := Lib.hid hb
            clear hb hz
            simp [depsS, Region.binds, updS, Stay.is, Stay.any] at hd
            go_simp
            first | exact ⟨Below.refl _ _, rfl⟩ | rfl
          apply rel_is
          · intro u wx hb hd
            have hz := hb.size
            (try simp only [World.size_alloc, World.size_setCell] at hz)
            have hz0 : w.heap.size < wx.heap.size := by omega
            have hz1 : wr.heap.size < wx.heap.size := by omega
            have hz2 : b1 < wx.heap.size := by omega
            obtain ⟨hc, hf⟩ := bcell hb
            have HBX := Lib.hid hb
            clear hb hz
            simp [depsS, Region.binds, updS, Stay.is, Stay.any] at hd
            go_simp
            first | exact ⟨Below.refl _ _, rfl⟩ | rfl
          apply rel_is
          · intro u wx hb hd
            have hz := hb.size
            (try simp only [World.size_alloc, World.size_setCell] at hz)
            have hz0 : w.heap.size < wx.heap.size := by omega
            have hz1 : wr.heap.size < wx.heap.size := by omega
            have hz2 : b1 < wx.heap.size := by omega
            obtain ⟨hc, hf⟩ := bcell hb
            have HBX := Lib.hid hb
            clear hb hz
            simp [depsS, Region.binds, updS, Stay.is, Stay.any] at hd
            go_simp
            first | exact ⟨Below.refl _ _, rfl⟩ | rfl
          apply rel_is
          · intro u wx hb hd
            have hz := hb.size
            (try simp only [World.size_alloc, World.size_setCell] at hz)
            have hz0 : w.heap.size < wx.heap.size := by omega
            have hz1 : wr.heap.size < wx.heap.size := by omega
            have hz2 : b1 < wx.heap.size := by omega
            obtain ⟨hc, hf⟩ := bcell hb
            have HBX := Lib.hid hb
            clear hb hz
            simp [depsS, Region.binds, updS, Stay.is, Stay.any] at hd
            go_simp
            first | exact ⟨Below.refl _ _, rfl⟩ | rfl
          apply rel_is
          · intro u wx hb hd
            have hz := hb.size
            (try simp only [World.size_alloc, World.size_setCell] at hz)
            have hz0 : w.heap.size < wx.heap.size := by omega
            have hz1 : wr.heap.size < wx.heap.size := by omega
            have hz2 : b1 < wx.heap.size := by omega
            obtain ⟨hc, hf⟩ := bcell hb
            have HBX := Lib.hid hb
            clear hb hz
            simp [depsS, Region.binds, updS, Stay.is, Stay.any] at hd
            go_simp
            first | exact ⟨Below.refl _ _, rfl⟩ | rfl
          apply rel_is
          · intro u wx hb hd
            have hz := hb.size
            (try simp only [World.size_alloc, World.size_setCell] at hz)
            have hz0 : w.heap.size < wx.heap.size := by omega
            have hz1 : wr.heap.size < wx.heap.size := by omega
            have hz2 : b1 < wx.heap.size := by omega
            obtain ⟨hc, hf⟩ := bcell hb
            have HBX := Lib.hid hb
            clear hb hz
            simp [depsS, Region.binds, updS, Stay.is, Stay.any] at hd
            go_simp
            first | exact ⟨Below.refl _ _, rfl⟩ | rfl
          apply rel_is
          · intro u wx hb hd
            have hz := hb.size
            (try simp only [World.size_alloc, World.size_setCell] at hz)
            have hz0 : w.heap.size < wx.heap.size := by omega
            have hz1 : wr.heap.size < wx.heap.size := by omega
            have hz2 : b1 < wx.heap.size := by omega
            obtain ⟨hc, hf⟩ := bcell hb
            have HBX := Lib.hid hb
            clear hb hz
            simp [depsS, Region.binds, updS, Stay.is, Stay.any] at hd
            go_simp
            first | exact ⟨Below.refl _ _, rfl⟩ | rfl
          apply rel_is
          · intro u wx hb hd
            have hz := hb.size
            (try simp only [World.size_alloc, World.size_setCell] at hz)
            have hz0 : w.heap.size < wx.heap.size := by omega
            have hz1 : wr.heap.size < wx.heap.size := by omega
            have hz2 : b1 < wx.heap.size := by omega
            obtain ⟨hc, hf⟩ := bcell hb
            have HBX := Lib.hid hb
            clear hb hz
            simp [depsS, Region.binds, updS, Stay.is, Stay.any] at hd
            go_simp
            first | exact ⟨Below.refl _ _, rfl⟩ | rfl
          apply rel_is
          · intro u wx hb hd
            have hz := hb.size
            (try simp only [World.size_alloc, World.size_setCell] at hz)
            have hz0 : w.heap.size < wx.heap.size := by omega
            have hz1 : wr.heap.size < wx.heap.size := by omega
            have hz2 : b1 < wx.heap.size := by omega
            obtain ⟨hc, hf⟩ := bcell hb
            have HBX := Lib.hid hb
            clear hb hz
            simp [depsS, Region.binds, updS, Stay.is, Stay.any] at hd
            go_simp
            first | exact ⟨Below.refl _ _, rfl⟩ | rfl
          apply rel_is
          · intro u wx hb hd
            have hz := hb.size
            (try simp only [World.size_alloc, World.size_setCell] at hz)
            have hz0 : w.heap.size < wx.heap.size := by omega
            have hz1 : wr.heap.size < wx.heap.size := by omega
            have hz2 : b1 < wx.heap.size := by omega
            obtain ⟨hc, hf⟩ := bcell hb
            have HBX := Lib.hid hb
            clear hb hz
            simp [depsS, Region.binds, updS, Stay.is, Stay.any] at hd
            go_simp
            first | exact ⟨Below.refl _ _, rfl⟩ | rfl
          apply rel_is
          · intro u wx hb hd
            have hz := hb.size
            (try simp only [World.size_alloc, World.size_setCell] at hz)
            have hz0 : w.heap.size < wx.heap.size := by omega
            have hz1 : wr.heap.size < wx.heap.size := by omega
            have hz2 : b1 < wx.heap.size := by omega
            obtain ⟨hc, hf⟩ := bcell hb
            have HBX := Lib.hid hb
            clear hb hz
            simp [depsS, Region.binds, updS, Stay.is, Stay.any] at hd
            go_simp
            first | exact ⟨Below.refl _ _, rfl⟩ | rfl
          apply rel_is
          · intro u wx hb hd
            have hz := hb.size
            (try simp only [World.size_alloc, World.size_setCell] at hz)
            have hz0 : w.heap.size < wx.heap.size := by omega
            have hz1 : wr.heap.size < wx.heap.size := by omega
            have hz2 : b1 < wx.heap.size := by omega
            obtain ⟨hc, hf⟩ := bcell hb
            have HBX := Lib.hid hb
            clear hb hz
            simp [depsS, Region.binds, updS, Stay.is, Stay.any] at hd
            go_simp
            first | exact ⟨Below.refl _ _, rfl⟩ | rfl
          apply rel_is
          · intro u wx hb hd
            have hz := hb.size
            (try simp only [World.size_alloc, World.size_setCell] at hz)
            have hz0 : w.heap.size < wx.heap.size := by omega
            have hz1 : wr.heap.size < wx.heap.size := by omega
            have hz2 : b1 < wx.heap.size := by omega
            obtain ⟨hc, hf⟩ := bcell hb
            have HBX := Lib.hid hb
            clear hb hz
            simp [depsS, Region.binds, updS, Stay.is, Stay.any] at hd
            go_simp
            first | exact ⟨Below.refl _ _, rfl⟩ | rfl
          apply rel_is
          · intro u wx hb hd
            have hz := hb.size
            (try simp only [World.size_alloc, World.size_setCell] at hz)
            have hz0 : w.heap.size < wx.heap.size := by omega
            have hz1 : wr.heap.size < wx.heap.size := by omega
            have hz2 : b1 < wx.heap.size := by omega
            obtain ⟨hc, hf⟩ := bcell hb
            have HBX := Lib.hid hb
            clear hb hz
            simp [depsS, Region.binds, updS, Stay.is, Stay.any] at hd
            go_simp
            first | exact ⟨Below.refl _ _, rfl⟩ | rfl
          apply rel_is
          · intro u wx hb hd
            have hz := hb.size
            (try simp only [World.size_alloc, World.size_setCell] at hz)
            have hz0 : w.heap.size < wx.heap.size := by omega
            have hz1 : wr.heap.size < wx.heap.size := by omega
            have hz2 : b1 < wx.heap.size := by omega
            obtain ⟨hc, hf⟩ := bcell hb
            have HBX := Lib.hid hb
            clear hb hz
            simp [depsS, Region.binds, updS, Stay.is, Stay.any] at hd
            go_simp
            first | exact ⟨Below.refl _ _, rfl⟩ | rfl
          apply rel_is
          · intro u wx hb hd
            have hz := hb.size
            (try simp only [World.size_alloc, World.size_setCell] at hz)
            have hz0 : w.heap.size < wx.heap.size := by omega
            have hz1 : wr.heap.size < wx.heap.size := by omega
            have hz2 : b1 < wx.heap.size := by omega
            obtain ⟨hc, hf⟩ := bcell hb
            have HBX := Lib.hid hb
            clear hb hz
            simp [depsS, Region.binds, updS, Stay.is, Stay.any] at hd
            go_simp
            first | exact ⟨Below.refl _ _, rfl⟩ | rfl
          apply rel_is
          · intro u wx hb hd
            have hz := hb.size
            (try simp only [World.size_alloc, World.size_setCell] at hz)
            have hz0 : w.heap.size < wx.heap.size := by omega
            have hz1 : wr.heap.size < wx.heap.size := by omega
            have hz2 : b1 < wx.heap.size := by omega
            obtain ⟨hc, hf⟩ := bcell hb
            have HBX := Lib.hid hb
            clear hb hz
            simp [depsS, Region.binds, updS, Stay.is, Stay.any] at hd
            go_simp
            first | exact ⟨Below.refl _ _, rfl⟩ | rfl
          apply rel_is
          · intro u wx hb hd
            have hz := hb.size
            (try simp only [World.size_alloc, World.size_setCell] at hz)
            have hz0 : w.heap.size < wx.heap.size := by omega
            have hz1 : wr.heap.size < wx.heap.size := by omega
            have hz2 : b1 < wx.heap.size := by omega
            obtain ⟨hc, hf⟩ := bcell hb
            have HBX := Lib.hid hb
            clear hb hz
            simp [depsS, Region.binds, updS, Stay.is, Stay.any] at hd
            go_simp
            first | exact ⟨Below.refl _ _, rfl⟩ | rfl
          intro u w5 hb hE
          have e0 : u 0 = _ := endS_get hE 0 (by decide)
          have e1 : u 1 = _ := endS_get hE 1 (by decide)
          have e2 : u 2 = _ := endS_get hE 2 (by decide)
          have e3 : u 3 = _ := endS_get hE 3 (by decide)
          have e4 : u 4 = _ := endS_get hE 4 (by decide)
          have e5 : u 5 = _ := endS_get hE 5 (by decide)
          have e6 : u 6 = _ := endS_get hE 6 (by decide)
          have e7 : u 7 = _ := endS_get hE 7 (by decide)
          have e8 : u 8 = _ := endS_get hE 8 (by decide)
          have e9 : u 9 = _ := endS_get hE 9 (by decide)
          have e10 : u 10 = _ := endS_get hE 10 (by decide)
          have e11 : u 11 = _ := endS_get hE 11 (by decide)
          have e12 : u 12 = _ := endS_get hE 12 (by decide)
          have e13 : u 13 = _ := endS_get hE 13 (by decide)
          have e14 : u 14 = _ := endS_get hE 14 (by decide)
          have e15 : u 15 = _ := endS_get hE 15 (by decide)
          have e16 : u 16 = _ := endS_get hE 16 (by decide)
          have e17 : u 17 = _ := endS_get hE 17 (by decide)
          simp only [List.drop_succ_cons, List.drop_zero, List.take_succ_cons, List.take_zero, fillL, Act.put, List.setIfInBounds_toArray, List.set_cons_zero, List.set_cons_succ, e0, e1, e2, e3, e4, e5, e6, e7, e8, e9, e10, e11, e12, e13, e14, e15, e16, e17]
          clear e0 e1 e2 e3 e4 e5 e6 e7 e8 e9 e10 e11 e12 e13 e14 e15 e16 e17 hE
          have HBw5 := Lib.hid (below_step (w := w1) (by first | assumption | go_grown) hb)
          have HBXw5 := Lib.hid hb
          have hzw5 := hb.size
          (try simp only [World.size_alloc, World.size_setCell] at hzw5)
          have hzw50 : w.heap.size < w5.heap.size := by omega
          have hzw51 : wr.heap.size < w5.heap.size := by omega
          have hzw52 : b1 < w5.heap.size := by omega
          obtain ⟨hcw5, hfw5⟩ := bcell hb
          clear hb hzw5
          have HBN : Hid (Below (w.alloc (.cells #[.slice (some ⟨b1, f1, none⟩) n cap, .func (.func 46) #[] #[]] 72)).heap.size (w.alloc (.cells #[.slice (some ⟨b1, f1, none⟩) n cap, .func (.func 46) #[] #[]] 72)) w5) := by
            show Below _ _ _
            exact below_step HBX0.out (below_step HBw1.out HBXw5.out)
          go_wp2
          go_roundw
          case rel => exact ⟨0 + 1, by omega, by go_num, hq2, HBN.out⟩
          case measure => simp [intOf]; omega
        · have hj1 : j - 1 < n := by omega
          have hcl2 := hcl9.out (j - 1) hj1
          have d0 : w1.cell? ⟨b1, f1 + (j - 1) * 5, none⟩ = some (.string (e (j - 1)).id) := (HW1.out.cell (p := ⟨_, _, none⟩) hbl1).trans hcl2.1
          have d1 : w1.cell? ⟨b1, f1 + (j - 1) * 5 + 1, none⟩ = some (.string (e (j - 1)).sect) := (HW1.out.cell (p := ⟨_, _, none⟩) hbl1).trans hcl2.2.1
          have d2 : w1.cell? ⟨b1, f1 + (j - 1) * 5 + 2, none⟩ = some (.string (e (j - 1)).grade) := (HW1.out.cell (p := ⟨_, _, none⟩) hbl1).trans hcl2.2.2.1
          have d3 : w1.cell? ⟨b1, f1 + (j - 1) * 5 + 3, none⟩ = some (.int .i64 (e (j - 1)).len) := (HW1.out.cell (p := ⟨_, _, none⟩) hbl1).trans hcl2.2.2.2.1
          have d4 : w1.cell? ⟨b1, f1 + (j - 1) * 5 + 4, none⟩ = some (.string (e (j - 1)).heat) := (HW1.out.cell (p := ⟨_, _, none⟩) hbl1).trans hcl2.2.2.2.2
          have k0 : decide ((0 : Int) < (j : Int)) = true := decide_eq_true (by omega)
          have k1 : IntKind.i64.wrap ((j : Int) - 1) = (j : Int) - 1 := IntWalk.i64_in _ (by omega)
          have k2 : ((j : Int) - 1).toNat = j - 1 := by omega
          have k3 : (0 : Int) ≤ (j : Int) - 1 := by omega
          have k4 : (j : Int) - 1 < (n : Int) := by omega
          have k5 : (1 : Int) ≤ (j : Int) := by omega
          have k6 : 1 ≤ j := by omega
          obtain ⟨LE, hLE⟩ : ∃ LE, strLe (e j).id (e (j - 1)).id = LE := ⟨_, rfl⟩
          have HLE := Lib.hid hLE
          have hle : (Op.bytesLess (e j).id.toList (e (j - 1)).id.toList || (e j).id.toList == (e (j - 1)).id.toList) = LE := hLE
          have hj00 : 0 < j := by omega
          clear hLE hcl2 hj0
          go_wp2_with fail
          refine wp_region_relw 18 (by kernel_rfl) (by kernel_rfl) (by kernel_rfl) ?_
          simp only [List.take_succ_cons, List.take_zero, fillL, Act.put, List.setIfInBounds_toArray, List.set_cons_zero, List.set_cons_succ]
          apply rel_is
          · intro u wx hb hd
            have hz := hb.size
            (try simp only [World.size_alloc, World.size_setCell] at hz)
            have hz0 : w.heap.size < wx.heap.size := by omega
            have hz1 : wr.heap.size < wx.heap.size := by omega
            have hz2 : b1 < wx.heap.size := by omega
            obtain ⟨hc, hf⟩ := bcell hb
            have HBX := Lib.hid hb
            clear hb hz
            simp [depsS, Region.binds, updS, Stay.is, Stay.any] at hd
            go_simp
            first | exact ⟨Below.refl _ _, rfl⟩ | rfl
          apply rel_is
          · intro u wx hb hd
            have hz := hb.size
            (try simp only [World.size_alloc, World.size_setCell] at hz)
            have hz0 : w.heap.size < wx.heap.size := by omega
            have hz1 : wr.heap.size < wx.heap.size := by omega
            have hz2 : b1 < wx.heap.size := by omega
            obtain ⟨hc, hf⟩ := bcell hb
            have HBX := Lib.hid hb
            clear hb hz
            simp [depsS, Region.binds, updS, Stay.is, Stay.any] at hd
            go_simp
            first | exact ⟨Below.refl _ _, rfl⟩ | rfl
          apply rel_is
          · intro u wx hb hd
            have hz := hb.size
            (try simp only [World.size_alloc, World.size_setCell] at hz)
            have hz0 : w.heap.size < wx.heap.size := by omega
            have hz1 : wr.heap.size < wx.heap.size := by omega
            have hz2 : b1 < wx.heap.size := by omega
            obtain ⟨hc, hf⟩ := bcell hb
            have HBX := Lib.hid hb
            clear hb hz
            simp [depsS, Region.binds, updS, Stay.is, Stay.any] at hd
            go_simp
            first | exact ⟨Below.refl _ _, rfl⟩ | rfl
          apply rel_is
          · intro u wx hb hd
            have hz := hb.size
            (try simp only [World.size_alloc, World.size_setCell] at hz)
            have hz0 : w.heap.size < wx.heap.size := by omega
            have hz1 : wr.heap.size < wx.heap.size := by omega
            have hz2 : b1 < wx.heap.size := by omega
            obtain ⟨hc, hf⟩ := bcell hb
            have HBX := Lib.hid hb
            clear hb hz
            simp [depsS, Region.binds, updS, Stay.is, Stay.any] at hd
            go_simp
            first | exact ⟨Below.refl _ _, rfl⟩ | rfl
          apply rel_is
          · intro u wx hb hd
            have hz := hb.size
            (try simp only [World.size_alloc, World.size_setCell] at hz)
            have hz0 : w.heap.size < wx.heap.size := by omega
            have hz1 : wr.heap.size < wx.heap.size := by omega
            have hz2 : b1 < wx.heap.size := by omega
            obtain ⟨hc, hf⟩ := bcell hb
            have HBX := Lib.hid hb
            clear hb hz
            simp [depsS, Region.binds, updS, Stay.is, Stay.any] at hd
            go_simp
            first | exact ⟨Below.refl _ _, rfl⟩ | rfl
          apply rel_is
          · intro u wx hb hd
            have hz := hb.size
            (try simp only [World.size_alloc, World.size_setCell] at hz)
            have hz0 : w.heap.size < wx.heap.size := by omega
            have hz1 : wr.heap.size < wx.heap.size := by omega
            have hz2 : b1 < wx.heap.size := by omega
            obtain ⟨hc, hf⟩ := bcell hb
            have HBX := Lib.hid hb
            clear hb hz
            simp [depsS, Region.binds, updS, Stay.is, Stay.any] at hd
            go_simp
            first | exact ⟨Below.refl _ _, rfl⟩ | rfl
          apply rel_is
          · intro u wx hb hd
            have hz := hb.size
            (try simp only [World.size_alloc, World.size_setCell] at hz)
            have hz0 : w.heap.size < wx.heap.size := by omega
            have hz1 : wr.heap.size < wx.heap.size := by omega
            have hz2 : b1 < wx.heap.size := by omega
            obtain ⟨hc, hf⟩ := bcell hb
            have HBX := Lib.hid hb
            clear hb hz
            simp [depsS, Region.binds, updS, Stay.is, Stay.any] at hd
            go_simp
            first | rfl | (go_at_fn 46; refine (id_Bar (e j) wx).mono ?_; rintro e w1 ⟨rfl, hb1⟩; first | exact ⟨rfl, hb1⟩ | exact ⟨_, rfl, hb1, rfl⟩)
          apply rel_is
          · intro u wx hb hd
            have hz := hb.size
            (try simp only [World.size_alloc, World.size_setCell] at hz)
            have hz0 : w.heap.size < wx.heap.size := by omega
            have hz1 : wr.heap.size < wx.heap.size := by omega
            have hz2 : b1 < wx.heap.size := by omega
            obtain ⟨hc, hf⟩ := bcell hb
            have HBX := Lib.hid hb
            clear hb hz
            simp [depsS, Region.binds, updS, Stay.is, Stay.any] at hd
            go_simp
            first | exact ⟨Below.refl _ _, rfl⟩ | rfl
          apply rel_is
          · intro u wx hb hd
            have hz := hb.size
            (try simp only [World.size_alloc, World.size_setCell] at hz)
            have hz0 : w.heap.size < wx.heap.size := by omega
            have hz1 : wr.heap.size < wx.heap.size := by omega
            have hz2 : b1 < wx.heap.size := by omega
            obtain ⟨hc, hf⟩ := bcell hb
            have HBX := Lib.hid hb
            clear hb hz
            simp [depsS, Region.binds, updS, Stay.is, Stay.any] at hd
            go_simp
            first | exact ⟨Below.refl _ _, rfl⟩ | rfl
          apply rel_is
          · intro u wx hb hd
            have hz := hb.size
            (try simp only [World.size_alloc, World.size_setCell] at hz)
            have hz0 : w.heap.size < wx.heap.size := by omega
            have hz1 : wr.heap.size < wx.heap.size := by omega
            have hz2 : b1 < wx.heap.size := by omega
            obtain ⟨hc, hf⟩ := bcell hb
            have HBX := Lib.hid hb
            clear hb hz
            simp [depsS, Region.binds, updS, Stay.is, Stay.any] at hd
            go_simp
            first | exact ⟨Below.refl _ _, rfl⟩ | rfl
          apply rel_is
          · intro u wx hb hd
            have hz := hb.size
            (try simp only [World.size_alloc, World.size_setCell] at hz)
            have hz0 : w.heap.size < wx.heap.size := by omega
            have hz1 : wr.heap.size < wx.heap.size := by omega
            have hz2 : b1 < wx.heap.size := by omega
            obtain ⟨hc, hf⟩ := bcell hb
            have HBX := Lib.hid hb
            clear hb hz
            simp [depsS, Region.binds, updS, Stay.is, Stay.any] at hd
            go_simp
            first | exact ⟨Below.refl _ _, rfl⟩ | rfl
          apply rel_is
          · intro u wx hb hd
            have hz := hb.size
            (try simp only [World.size_alloc, World.size_setCell] at hz)
            have hz0 : w.heap.size < wx.heap.size := by omega
            have hz1 : wr.heap.size < wx.heap.size := by omega
            have hz2 : b1 < wx.heap.size := by omega
            obtain ⟨hc, hf⟩ := bcell hb
            have HBX := Lib.hid hb
            clear hb hz
            simp [depsS, Region.binds, updS, Stay.is, Stay.any] at hd
            go_simp
            first | exact ⟨Below.refl _ _, rfl⟩ | rfl
          apply rel_is
          · intro u wx hb hd
            have hz := hb.size
            (try simp only [World.size_alloc, World.size_setCell] at hz)
            have hz0 : w.heap.size < wx.heap.size := by omega
            have hz1 : wr.heap.size < wx.heap.size := by omega
            have hz2 : b1 < wx.heap.size := by omega
            obtain ⟨hc, hf⟩ := bcell hb
            have HBX := Lib.hid hb
            clear hb hz
            simp [depsS, Region.binds, updS, Stay.is, Stay.any] at hd
            go_simp
            first | exact ⟨Below.refl _ _, rfl⟩ | rfl
          apply rel_is
          · intro u wx hb hd
            have hz := hb.size
            (try simp only [World.size_alloc, World.size_setCell] at hz)
            have hz0 : w.heap.size < wx.heap.size := by omega
            have hz1 : wr.heap.size < wx.heap.size := by omega
            have hz2 : b1 < wx.heap.size := by omega
            obtain ⟨hc, hf⟩ := bcell hb
            have HBX := Lib.hid hb
            clear hb hz
            simp [depsS, Region.binds, updS, Stay.is, Stay.any] at hd
            go_simp
            first | exact ⟨Below.refl _ _, rfl⟩ | rfl
          apply rel_is
          · intro u wx hb hd
            have hz := hb.size
            (try simp only [World.size_alloc, World.size_setCell] at hz)
            have hz0 : w.heap.size < wx.heap.size := by omega
            have hz1 : wr.heap.size < wx.heap.size := by omega
            have hz2 : b1 < wx.heap.size := by omega
            obtain ⟨hc, hf⟩ := bcell hb
            have HBX := Lib.hid hb
            clear hb hz
            simp [depsS, Region.binds, updS, Stay.is, Stay.any] at hd
            go_simp
            first | exact ⟨Below.refl _ _, rfl⟩ | rfl
          apply rel_is
          · intro u wx hb hd
            have hz := hb.size
            (try simp only [World.size_alloc, World.size_setCell] at hz)
            have hz0 : w.heap.size < wx.heap.size := by omega
            have hz1 : wr.heap.size < wx.heap.size := by omega
            have hz2 : b1 < wx.heap.size := by omega
            obtain ⟨hc, hf⟩ := bcell hb
            have HBX := Lib.hid hb
            clear hb hz
            simp [depsS, Region.binds, updS, Stay.is, Stay.any] at hd
            go_simp
            first | rfl | (go_at_fn 46; refine (id_Bar (e (j - 1)) wx).mono ?_; rintro e w1 ⟨rfl, hb1⟩; first | exact ⟨rfl, hb1⟩ | exact ⟨_, rfl, hb1, rfl⟩)
          apply rel_is
          · intro u wx hb hd
            have hz := hb.size
            (try simp only [World.size_alloc, World.size_setCell] at hz)
            have hz0 : w.heap.size < wx.heap.size := by omega
            have hz1 : wr.heap.size < wx.heap.size := by omega
            have hz2 : b1 < wx.heap.size := by omega
            obtain ⟨hc, hf⟩ := bcell hb
            have HBX := Lib.hid hb
            clear hb hz
            simp [depsS, Region.binds, updS, Stay.is, Stay.any] at hd
            go_simp
            first | exact ⟨Below.refl _ _, rfl⟩ | rfl
          apply rel_is
          · intro u wx hb hd
            have hz := hb.size
            (try simp only [World.size_alloc, World.size_setCell] at hz)
            have hz0 : w.heap.size < wx.heap.size := by omega
            have hz1 : wr.heap.size < wx.heap.size := by omega
            have hz2 : b1 < wx.heap.size := by omega
            obtain ⟨hc, hf⟩ := bcell hb
            have HBX := Lib.hid hb
            clear hb hz
            simp [depsS, Region.binds, updS, Stay.is, Stay.any] at hd
            go_simp
            first | exact ⟨Below.refl _ _, rfl⟩ | rfl
          intro u w5 hb hE
          have e0 : u 0 = _ := endS_get hE 0 (by decide)
          have e1 : u 1 = _ := endS_get hE 1 (by decide)
          have e2 : u 2 = _ := endS_get hE 2 (by decide)
          have e3 : u 3 = _ := endS_get hE 3 (by decide)
          have e4 : u 4 = _ := endS_get hE 4 (by decide)
          have e5 : u 5 = _ := endS_get hE 5 (by decide)
          have e6 : u 6 = _ := endS_get hE 6 (by decide)
          have e7 : u 7 = _ := endS_get hE 7 (by decide)
          have e8 : u 8 = _ := endS_get hE 8 (by decide)
          have e9 : u 9 = _ := endS_get hE 9 (by decide)
          have e10 : u 10 = _ := endS_get hE 10 (by decide)
          have e11 : u 11 = _ := endS_get hE 11 (by decide)
          have e12 : u 12 = _ := endS_get hE 12 (by decide)
          have e13 : u 13 = _ := endS_get hE 13 (by decide)
          have e14 : u 14 = _ := endS_get hE 14 (by decide)
          have e15 : u 15 = _ := endS_get hE 15 (by decide)
          have e16 : u 16 = _ := endS_get hE 16 (by decide)
          have e17 : u 17 = _ := endS_get hE 17 (by decide)
          simp only [List.drop_succ_cons, List.drop_zero, List.take_succ_cons, List.take_zero, fillL, Act.put, List.setIfInBounds_toArray, List.set_cons_zero, List.set_cons_succ, e0, e1, e2, e3, e4, e5, e6, e7, e8, e9, e10, e11, e12, e13, e14, e15, e16, e17]
          clear e0 e1 e2 e3 e4 e5 e6 e7 e8 e9 e10 e11 e12 e13 e14 e15 e16 e17 hE
          have HBw5 := Lib.hid (below_step (w := w1) (by first | assumption | go_grown) hb)
          have HBXw5 := Lib.hid hb
          have hzw5 := hb.size
          (try simp only [World.size_alloc, World.size_setCell] at hzw5)
          have hzw50 : w.heap.size < w5.heap.size := by omega
          have hzw51 : wr.heap.size < w5.heap.size := by omega
          have hzw52 : b1 < w5.heap.size := by omega
          obtain ⟨hcw5, hfw5⟩ := bcell hb
          clear hb hzw5
          have HBN : Hid (Below (w.alloc (.cells #[.slice (some ⟨b1, f1, none⟩) n cap, .func (.func 46) #[] #[]] 72)).heap.size (w.alloc (.cells #[.slice (some ⟨b1, f1, none⟩) n cap, .func (.func 46) #[] #[]] 72)) w5) := by
            show Below _ _ _
            exact below_step HBX0.out (below_step HBw1.out HBXw5.out)
          have HBM : Hid (Below w.heap.size w w5) := below_step HW1.out HBXw5.out
          cases LE with
          | true =>
            have hR0 : R = 11 := by
              have hlt9 : ltB (e (j - 1)).id (e j).id = false := by
                have := HLE.out
                rw [strLe_not] at this
                simpa using this
              have h9 : chkAt (barE m) Br.id e j = 11 := by unfold chkAt; rw [HEE.out, if_neg (by decide), if_pos ⟨hj00, hlt9⟩]
              rw [← hq.out, chkFrom_bad hlt (by rw [h9]; decide), h9]
            have HR0 := Lib.hid hR0
            clear hR0
            go_wp2
            go_returns
            rw [HR0.out]
            exact ⟨rfl, HBM.out⟩
          | false =>
            have hq2 : Hid (chkFrom (barE m) Br.id e (n - (j + 1)) (j + 1) = R) := by
              show _ = _
              have hlt9 : ltB (e (j - 1)).id (e j).id = true := by
                have := HLE.out
                rw [strLe_not] at this
                simpa using this
              rw [← chkFrom_good hlt (by unfold chkAt; rw [HEE.out, if_neg (by decide), if_neg (by rw [hlt9]; simp)])]
              exact hq.out
            go_wp2
            go_roundw
            case rel => exact ⟨j + 1, by omega, by go_num, hq2, HBN.out⟩
            case measure => simp [intOf]; omega
      · have hR0 : R = EE := by
          have h9 : chkAt (barE m) Br.id e j = EE := by unfold chkAt; rw [HEE.out, if_pos hE]
          rw [← hq.out, chkFrom_bad hlt (by rw [h9]; exact hE), h9]
        have HR0 := Lib.hid hR0
        have k0 : (EE != 0) = true := by simpa using hE
        clear hR0 hE
        go_wp2
        go_returns
        rw [HR0.out]
        exact ⟨rfl, HW1.out⟩
    · have hR0 : R = 0 := by rw [← hq.out, chkFrom_end hj hlt]
      have HR0 := Lib.hid hR0
      clear hR0
      go_wp2
      go_returns
      rw [HR0.out]
      exact ⟨rfl, HBr.out⟩
end Go.Proofs.YtiddpaaihloopaaDoor
