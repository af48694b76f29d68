/-
  Check and Same return what the reference returns, for any stocks and catalog. Conditions: none (the card ties the two tables of unicode/utf8 to the program's text). By an AI agent.
-/
import Derived.Test.YtiddpaaihloopaaDoorStockR
import Derived.Test.YtiddpaaihloopaaDoorAwake29
namespace Go.Proofs.YtiddpaaihloopaaDoor
open Go Go.ChangeShapes Go.WideShapes Go.RowKit Go.ChangeAt
set_option linter.unusedSimpArgs false
set_option linter.unusedVariables false
theorem same_self (v : Value) (ns : Nat) (es : Nat → Sh) (nb : Nat) (eb : Nat → Br) (w : World) (h : StAt w v ns es nb eb) :
    Calls Tryd.prog 12 #[v, v] w fun e w' => e = .returned (.bool true) ∧ Below w.heap.size w w' := by
  have h1 : sameS ns es nb eb ns es nb eb = true := by
    unfold sameS
    rw [(sameB_iff (fun x y => Sh.eqB_iff)).2 ⟨rfl, fun i hi => rfl⟩, (sameB_iff (fun x y => Br.eqB_iff)).2 ⟨rfl, fun i hi => rfl⟩]
    rfl
  have := same_any v v ns es nb eb ns es nb eb w h h
  rw [h1] at this
  exact this
/-- few: what it says of the sizes -/
theorem few_sizes {ns : Nat} {es : Nat → Sh} {nb : Nat} {eb : Nat → Br} (h : fewB ns es nb eb = true) :
    (∀ i, i < ns → (es i).id.size ≤ 2147483648 ∧ (es i).heat.size ≤ 2147483648) ∧ (∀ i, i < nb → (eb i).id.size ≤ 2147483648 ∧ (eb i).heat.size ≤ 2147483648) ∧ ns ≤ 140 ∧ nb ≤ 140 := by
  unfold fewB at h
  simp only [Bool.and_eq_true, decide_eq_true_eq, allTo_iff] at h
  obtain ⟨h1, h2, h3, h4⟩ := h
  refine ⟨fun i hi => ?_, fun i hi => ?_, h3, h4⟩
  · have := h1 i (by omega)
    simp only [okS, Bool.and_eq_true, decide_eq_true_eq] at this
    omega
  · have := h2 i (by omega)
    simp only [okB, Bool.and_eq_true, decide_eq_true_eq] at this
    omega
theorem mfew_mat {w : World} {vg vs : Value} {m : Mat} {gv : Nat → Value} (h : mfewB m = true) (hG : GrAt w vg m gv) (hS : SeAt w vs m) : MatAt w (.agg #[vg, vs]) m gv := by
  unfold mfewB at h
  simp only [Bool.and_eq_true, decide_eq_true_eq, allTo_iff] at h
  obtain ⟨h1, h2, h3, h4⟩ := h
  refine ⟨vg, vs, rfl, hG, hS, by omega, by omega, fun i hi => ?_⟩
  have := h1 i (by omega)
  simp only [okG, Bool.and_eq_true, decide_eq_true_eq] at this
  omega
set_option maxRecDepth 100000 in
set_option maxHeartbeats 8000000 in
theorem stockChecks_walk (v u : Value) (ns : Nat) (es : Nat → Sh) (nb : Nat) (eb : Nat → Br) (ms : Nat) (fs : Nat → Sh) (mb : Nat) (fb : Nat → Br) (vg vs : Value) (m : Mat) (gv : Nat → Value) (w : World) (h : StAt w v ns es nb eb) (h' : StAt w u ms fs mb fb) (hG : GrAt w vg m gv) (hS : SeAt w vs m) (hml : MaxLenIs w) :
    Calls Tryd.prog 3 #[v, u, .agg #[vg, vs]] w fun e w' => e = .returned (.bool true) ∧ Below w.heap.size w w' := by
  have HML := Lib.hid hml
  have HST := Lib.hid h
  have HSU := Lib.hid h'
  have HG := Lib.hid hG
  have HS := Lib.hid hS
  obtain ⟨oa, ca, ob, cb, rfl⟩ := h.slices
  obtain ⟨pa, da, pb, db, rfl⟩ := h'.slices
  obtain ⟨om, cm, rfl, -, -⟩ := hG.form
  obtain ⟨ot, ct, rfl, -, -⟩ := hS.form
  obtain ⟨F1, hF1⟩ : ∃ F, (fewB ns es nb eb && mfewB m) = F := ⟨_, rfl⟩
  obtain ⟨F2, hF2⟩ : ∃ F, fewB ms fs mb fb = F := ⟨_, rfl⟩
  have HF1 := Lib.hid hF1
  have HF2 := Lib.hid hF2
  clear h h' hml hG hS hF1 hF2
  go_enter Tryd.func3, Tryd.ntmps3
  go_wp2_with fail
  (go_at_call 7; refine (lawfew_any _ ns es nb eb _ _ m gv _ (HST.out.below (by first | assumption | go_grown)) (HG.out.below (by first | assumption | go_grown)) (HS.out.below (by first | assumption | go_grown))).mono ?_; rintro e_ w1 ⟨rfl, hb⟩)
  rw [HF1.out]
  have hsw1 := hb.size
  (try simp only [World.size_alloc, World.size_setCell] at hsw1)
  have zww1 : w.heap.size < w1.heap.size := by omega
  have zsw1 : w.heap.size < w1.heap.size := by omega
  have s0w1 : w1.cell? ⟨w.heap.size, 0, none⟩ = some (.slice oa ns ca) := (hb.cell (p := ⟨_, _, none⟩) (by simp <;> omega)).trans (by simp [go_sem])
  have s1w1 : w1.cell? ⟨w.heap.size, 1, none⟩ = some (.slice ob nb cb) := (hb.cell (p := ⟨_, _, none⟩) (by simp <;> omega)).trans (by simp [go_sem])
  have zuw1 : w.heap.size + 1 < w1.heap.size := by omega
  have u0w1 : w1.cell? ⟨w.heap.size + 1, 0, none⟩ = some (.slice pa ms da) := (hb.cell (p := ⟨_, _, none⟩) (by simp <;> omega)).trans (by simp [go_sem])
  have u1w1 : w1.cell? ⟨w.heap.size + 1, 1, none⟩ = some (.slice pb mb db) := (hb.cell (p := ⟨_, _, none⟩) (by simp <;> omega)).trans (by simp [go_sem])
  have zmw1 : w.heap.size + 1 + 1 < w1.heap.size := by omega
  have m0w1 : w1.cell? ⟨w.heap.size + 1 + 1, 0, none⟩ = some (.slice om m.ng cm) := (hb.cell (p := ⟨_, _, none⟩) (by simp <;> omega)).trans (by simp [go_sem])
  have m1w1 : w1.cell? ⟨w.heap.size + 1 + 1, 1, none⟩ = some (.slice ot m.ns ct) := (hb.cell (p := ⟨_, _, none⟩) (by simp <;> omega)).trans (by simp [go_sem])
  have hBw1 : Below w.heap.size w w1 := below_step (w := w) (by first | assumption | go_grown) hb
  clear hb hsw1
  cases F1 with
  | false =>
    go_wp2_with fail
    (go_at_call 9; refine (awake_any _ (HML.out.below (by first | assumption | go_grown))).mono ?_; rintro e_ w2 ⟨rfl, hb⟩)
    have hsw2 := hb.size
    (try simp only [World.size_alloc, World.size_setCell] at hsw2)
    have zww2 : w.heap.size < w2.heap.size := by omega
    have hPw2 : Below w1.heap.size w1 w2 := below_step (w := w1) (by first | exact Below.refl _ _ | go_grown) hb
    have zsw2 : w.heap.size < w2.heap.size := by omega
    have s0w2 : w2.cell? ⟨w.heap.size, 0, none⟩ = some (.slice oa ns ca) := (hPw2.cell (p := ⟨_, _, none⟩) zsw1).trans s0w1
    have s1w2 : w2.cell? ⟨w.heap.size, 1, none⟩ = some (.slice ob nb cb) := (hPw2.cell (p := ⟨_, _, none⟩) zsw1).trans s1w1
    have zuw2 : w.heap.size + 1 < w2.heap.size := by omega
    have u0w2 : w2.cell? ⟨w.heap.size + 1, 0, none⟩ = some (.slice pa ms da) := (hPw2.cell (p := ⟨_, _, none⟩) zuw1).trans u0w1
    have u1w2 : w2.cell? ⟨w.heap.size + 1, 1, none⟩ = some (.slice pb mb db) := (hPw2.cell (p := ⟨_, _, none⟩) zuw1).trans u1w1
    have zmw2 : w.heap.size + 1 + 1 < w2.heap.size := by omega
    have m0w2 : w2.cell? ⟨w.heap.size + 1 + 1, 0, none⟩ = some (.slice om m.ng cm) := (hPw2.cell (p := ⟨_, _, none⟩) zmw1).trans m0w1
    have m1w2 : w2.cell? ⟨w.heap.size + 1 + 1, 1, none⟩ = some (.slice ot m.ns ct) := (hPw2.cell (p := ⟨_, _, none⟩) zmw1).trans m1w1
    have hBw2 : Below w.heap.size w w2 := below_step (w := w) (by first | assumption | go_grown) hb
    clear hb hsw2
    clear hPw2
    clear zsw1 zuw1 zmw1 s0w1 s1w1 u0w1 u1w1 m0w1 m1w1
    go_wp2
    go_returns
    exact ⟨rfl, by assumption⟩
  | true =>
    go_wp2_with fail
    (go_at_call 8; refine (few_any _ ms fs mb fb _ (HSU.out.below (by first | assumption | go_grown))).mono ?_; rintro e_ w2 ⟨rfl, hb⟩)
    rw [HF2.out]
    have hsw2 := hb.size
    (try simp only [World.size_alloc, World.size_setCell] at hsw2)
    have zww2 : w.heap.size < w2.heap.size := by omega
    have hPw2 : Below w1.heap.size w1 w2 := below_step (w := w1) (by first | exact Below.refl _ _ | go_grown) hb
    have zsw2 : w.heap.size < w2.heap.size := by omega
    have s0w2 : w2.cell? ⟨w.heap.size, 0, none⟩ = some (.slice oa ns ca) := (hPw2.cell (p := ⟨_, _, none⟩) zsw1).trans s0w1
    have s1w2 : w2.cell? ⟨w.heap.size, 1, none⟩ = some (.slice ob nb cb) := (hPw2.cell (p := ⟨_, _, none⟩) zsw1).trans s1w1
    have zuw2 : w.heap.size + 1 < w2.heap.size := by omega
    have u0w2 : w2.cell? ⟨w.heap.size + 1, 0, none⟩ = some (.slice pa ms da) := (hPw2.cell (p := ⟨_, _, none⟩) zuw1).trans u0w1
    have u1w2 : w2.cell? ⟨w.heap.size + 1, 1, none⟩ = some (.slice pb mb db) := (hPw2.cell (p := ⟨_, _, none⟩) zuw1).trans u1w1
    have zmw2 : w.heap.size + 1 + 1 < w2.heap.size := by omega
    have m0w2 : w2.cell? ⟨w.heap.size + 1 + 1, 0, none⟩ = some (.slice om m.ng cm) := (hPw2.cell (p := ⟨_, _, none⟩) zmw1).trans m0w1
    have m1w2 : w2.cell? ⟨w.heap.size + 1 + 1, 1, none⟩ = some (.slice ot m.ns ct) := (hPw2.cell (p := ⟨_, _, none⟩) zmw1).trans m1w1
    have hBw2 : Below w.heap.size w w2 := below_step (w := w) (by first | assumption | go_grown) hb
    clear hb hsw2
    clear hPw2
    clear zsw1 zuw1 zmw1 s0w1 s1w1 u0w1 u1w1 m0w1 m1w1
    cases F2 with
    | false =>
      go_wp2_with fail
      (go_at_call 9; refine (awake_any _ (HML.out.below (by first | assumption | go_grown))).mono ?_; rintro e_ w3 ⟨rfl, hb⟩)
      have hsw3 := hb.size
      (try simp only [World.size_alloc, World.size_setCell] at hsw3)
      have zww3 : w.heap.size < w3.heap.size := by omega
      have hPw3 : Below w2.heap.size w2 w3 := below_step (w := w2) (by first | exact Below.refl _ _ | go_grown) hb
      have zsw3 : w.heap.size < w3.heap.size := by omega
      have s0w3 : w3.cell? ⟨w.heap.size, 0, none⟩ = some (.slice oa ns ca) := (hPw3.cell (p := ⟨_, _, none⟩) zsw2).trans s0w2
      have s1w3 : w3.cell? ⟨w.heap.size, 1, none⟩ = some (.slice ob nb cb) := (hPw3.cell (p := ⟨_, _, none⟩) zsw2).trans s1w2
      have zuw3 : w.heap.size + 1 < w3.heap.size := by omega
      have u0w3 : w3.cell? ⟨w.heap.size + 1, 0, none⟩ = some (.slice pa ms da) := (hPw3.cell (p := ⟨_, _, none⟩) zuw2).trans u0w2
      have u1w3 : w3.cell? ⟨w.heap.size + 1, 1, none⟩ = some (.slice pb mb db) := (hPw3.cell (p := ⟨_, _, none⟩) zuw2).trans u1w2
      have zmw3 : w.heap.size + 1 + 1 < w3.heap.size := by omega
      have m0w3 : w3.cell? ⟨w.heap.size + 1 + 1, 0, none⟩ = some (.slice om m.ng cm) := (hPw3.cell (p := ⟨_, _, none⟩) zmw2).trans m0w2
      have m1w3 : w3.cell? ⟨w.heap.size + 1 + 1, 1, none⟩ = some (.slice ot m.ns ct) := (hPw3.cell (p := ⟨_, _, none⟩) zmw2).trans m1w2
      have hBw3 : Below w.heap.size w w3 := below_step (w := w) (by first | assumption | go_grown) hb
      clear hb hsw3
      clear hPw3
      clear zsw2 zuw2 zmw2 s0w2 s1w2 u0w2 u1w2 m0w2 m1w2
      go_wp2
      go_returns
      exact ⟨rfl, by assumption⟩
    | true =>
      have HB2 : Hid (Below w.heap.size w w2) := hBw2
      have hfm := HF1.out
      rw [Bool.and_eq_true] at hfm
      have HZ1 := Lib.hid (few_sizes hfm.1).1
      have HZ2 := Lib.hid (few_sizes hfm.1).2.1
      have HM := Lib.hid (mfew_mat hfm.2 HG.out HS.out)
      clear hfm hBw1 hBw2
      go_wp2_with fail
      refine wp_region_relw 25 (by kernel_rfl) (by kernel_rfl) (by kernel_rfl) ?_
      simp only [List.take_succ_cons, List.take_zero, fillL, Act.put, List.setIfInBounds_toArray, List.set_cons_zero, List.set_cons_succ]
      apply rel_is
      · intro u wx hb hd
        have hz := hb.size
        (try simp only [World.size_alloc, World.size_setCell] at hz)
        have hz0 : w.heap.size < wx.heap.size := by omega
        have hz1 : w.heap.size + 1 < wx.heap.size := by omega
        have hz2 : w.heap.size + 1 + 1 < wx.heap.size := by omega
        obtain ⟨hc, hf⟩ := bcell hb
        have HBX := Lib.hid hb
        clear hb hz
        simp [depsS, Region.binds, updS, Stay.is, Stay.any] at hd
        go_simp
        first | exact ⟨Below.refl _ _, rfl⟩ | rfl
      apply rel_is
      · intro u wx hb hd
        have hz := hb.size
        (try simp only [World.size_alloc, World.size_setCell] at hz)
        have hz0 : w.heap.size < wx.heap.size := by omega
        have hz1 : w.heap.size + 1 < wx.heap.size := by omega
        have hz2 : w.heap.size + 1 + 1 < wx.heap.size := by omega
        obtain ⟨hc, hf⟩ := bcell hb
        have HBX := Lib.hid hb
        clear hb hz
        simp [depsS, Region.binds, updS, Stay.is, Stay.any] at hd
        go_simp
        first | exact ⟨Below.refl _ _, rfl⟩ | rfl
      apply rel_is
      · intro u wx hb hd
        have hz := hb.size
        (try simp only [World.size_alloc, World.size_setCell] at hz)
        have hz0 : w.heap.size < wx.heap.size := by omega
        have hz1 : w.heap.size + 1 < wx.heap.size := by omega
        have hz2 : w.heap.size + 1 + 1 < wx.heap.size := by omega
        obtain ⟨hc, hf⟩ := bcell hb
        have HBX := Lib.hid hb
        clear hb hz
        simp [depsS, Region.binds, updS, Stay.is, Stay.any] at hd
        go_simp
        first | rfl | (go_at_call 10; refine (check_any _ ns es nb eb _ m gv wx (HST.out.below (below_step HB2.out HBX.out)) (HM.out.below (below_step HB2.out HBX.out)) HZ1.out HZ2.out (HML.out.below (below_step HB2.out HBX.out))).mono ?_; rintro e w1 ⟨rfl, hb1⟩; first | exact ⟨rfl, hb1⟩ | exact ⟨_, rfl, hb1, rfl⟩)
      apply rel_is
      · intro u wx hb hd
        have hz := hb.size
        (try simp only [World.size_alloc, World.size_setCell] at hz)
        have hz0 : w.heap.size < wx.heap.size := by omega
        have hz1 : w.heap.size + 1 < wx.heap.size := by omega
        have hz2 : w.heap.size + 1 + 1 < wx.heap.size := by omega
        obtain ⟨hc, hf⟩ := bcell hb
        have HBX := Lib.hid hb
        clear hb hz
        simp [depsS, Region.binds, updS, Stay.is, Stay.any] at hd
        go_simp
        first | exact ⟨Below.refl _ _, rfl⟩ | rfl
      apply rel_is
      · intro u wx hb hd
        have hz := hb.size
        (try simp only [World.size_alloc, World.size_setCell] at hz)
        have hz0 : w.heap.size < wx.heap.size := by omega
        have hz1 : w.heap.size + 1 < wx.heap.size := by omega
        have hz2 : w.heap.size + 1 + 1 < wx.heap.size := by omega
        obtain ⟨hc, hf⟩ := bcell hb
        have HBX := Lib.hid hb
        clear hb hz
        simp [depsS, Region.binds, updS, Stay.is, Stay.any] at hd
        go_simp
        first | exact ⟨Below.refl _ _, rfl⟩ | rfl
      apply rel_is
      · intro u wx hb hd
        have hz := hb.size
        (try simp only [World.size_alloc, World.size_setCell] at hz)
        have hz0 : w.heap.size < wx.heap.size := by omega
        have hz1 : w.heap.size + 1 < wx.heap.size := by omega
        have hz2 : w.heap.size + 1 + 1 < wx.heap.size := by omega
        obtain ⟨hc, hf⟩ := bcell hb
        have HBX := Lib.hid hb
        clear hb hz
        simp [depsS, Region.binds, updS, Stay.is, Stay.any] at hd
        go_simp
        first | rfl | (go_at_call 11; refine (rcheck_any _ ns es nb eb _ m gv wx (HST.out.below (below_step HB2.out HBX.out)) (HM.out.below (below_step HB2.out HBX.out)) HZ1.out HZ2.out (HML.out.below (below_step HB2.out HBX.out))).mono ?_; rintro e w1 ⟨rfl, hb1⟩; first | exact ⟨rfl, hb1⟩ | exact ⟨_, rfl, hb1, rfl⟩)
      apply rel_is
      · intro u wx hb hd
        have hz := hb.size
        (try simp only [World.size_alloc, World.size_setCell] at hz)
        have hz0 : w.heap.size < wx.heap.size := by omega
        have hz1 : w.heap.size + 1 < wx.heap.size := by omega
        have hz2 : w.heap.size + 1 + 1 < wx.heap.size := by omega
        obtain ⟨hc, hf⟩ := bcell hb
        have HBX := Lib.hid hb
        clear hb hz
        simp [depsS, Region.binds, updS, Stay.is, Stay.any] at hd
        go_simp
        first | exact ⟨Below.refl _ _, rfl⟩ | rfl
      apply rel_is
      · intro u wx hb hd
        have hz := hb.size
        (try simp only [World.size_alloc, World.size_setCell] at hz)
        have hz0 : w.heap.size < wx.heap.size := by omega
        have hz1 : w.heap.size + 1 < wx.heap.size := by omega
        have hz2 : w.heap.size + 1 + 1 < wx.heap.size := by omega
        obtain ⟨hc, hf⟩ := bcell hb
        have HBX := Lib.hid hb
        clear hb hz
        simp [depsS, Region.binds, updS, Stay.is, Stay.any] at hd
        go_simp
        first | exact ⟨Below.refl _ _, rfl⟩ | rfl
      apply rel_is
      · intro u wx hb hd
        have hz := hb.size
        (try simp only [World.size_alloc, World.size_setCell] at hz)
        have hz0 : w.heap.size < wx.heap.size := by omega
        have hz1 : w.heap.size + 1 < wx.heap.size := by omega
        have hz2 : w.heap.size + 1 + 1 < wx.heap.size := by omega
        obtain ⟨hc, hf⟩ := bcell hb
        have HBX := Lib.hid hb
        clear hb hz
        simp [depsS, Region.binds, updS, Stay.is, Stay.any] at hd
        go_simp
        first | exact ⟨Below.refl _ _, rfl⟩ | rfl
      apply rel_is
      · intro u wx hb hd
        have hz := hb.size
        (try simp only [World.size_alloc, World.size_setCell] at hz)
        have hz0 : w.heap.size < wx.heap.size := by omega
        have hz1 : w.heap.size + 1 < wx.heap.size := by omega
        have hz2 : w.heap.size + 1 + 1 < wx.heap.size := by omega
        obtain ⟨hc, hf⟩ := bcell hb
        have HBX := Lib.hid hb
        clear hb hz
        simp [depsS, Region.binds, updS, Stay.is, Stay.any] at hd
        go_simp
        first | exact ⟨Below.refl _ _, rfl⟩ | rfl
      apply rel_is
      · intro u wx hb hd
        have hz := hb.size
        (try simp only [World.size_alloc, World.size_setCell] at hz)
        have hz0 : w.heap.size < wx.heap.size := by omega
        have hz1 : w.heap.size + 1 < wx.heap.size := by omega
        have hz2 : w.heap.size + 1 + 1 < wx.heap.size := by omega
        obtain ⟨hc, hf⟩ := bcell hb
        have HBX := Lib.hid hb
        clear hb hz
        simp [depsS, Region.binds, updS, Stay.is, Stay.any] at hd
        go_simp
        first | rfl | (go_at_call 12; refine (same_any _ _ ns es nb eb ms fs mb fb wx (HST.out.below (below_step HB2.out HBX.out)) (HSU.out.below (below_step HB2.out HBX.out))).mono ?_; rintro e w1 ⟨rfl, hb1⟩; first | exact ⟨rfl, hb1⟩ | exact ⟨_, rfl, hb1, rfl⟩)
      apply rel_is
      · intro u wx hb hd
        have hz := hb.size
        (try simp only [World.size_alloc, World.size_setCell] at hz)
        have hz0 : w.heap.size < wx.heap.size := by omega
        have hz1 : w.heap.size + 1 < wx.heap.size := by omega
        have hz2 : w.heap.size + 1 + 1 < wx.heap.size := by omega
        obtain ⟨hc, hf⟩ := bcell hb
        have HBX := Lib.hid hb
        clear hb hz
        simp [depsS, Region.binds, updS, Stay.is, Stay.any] at hd
        go_simp
        first | exact ⟨Below.refl _ _, rfl⟩ | rfl
      apply rel_is
      · intro u wx hb hd
        have hz := hb.size
        (try simp only [World.size_alloc, World.size_setCell] at hz)
        have hz0 : w.heap.size < wx.heap.size := by omega
        have hz1 : w.heap.size + 1 < wx.heap.size := by omega
        have hz2 : w.heap.size + 1 + 1 < wx.heap.size := by omega
        obtain ⟨hc, hf⟩ := bcell hb
        have HBX := Lib.hid hb
        clear hb hz
        simp [depsS, Region.binds, updS, Stay.is, Stay.any] at hd
        go_simp
        first | exact ⟨Below.refl _ _, rfl⟩ | rfl
      apply rel_is
      · intro u wx hb hd
        have hz := hb.size
        (try simp only [World.size_alloc, World.size_setCell] at hz)
        have hz0 : w.heap.size < wx.heap.size := by omega
        have hz1 : w.heap.size + 1 < wx.heap.size := by omega
        have hz2 : w.heap.size + 1 + 1 < wx.heap.size := by omega
        obtain ⟨hc, hf⟩ := bcell hb
        have HBX := Lib.hid hb
        clear hb hz
        simp [depsS, Region.binds, updS, Stay.is, Stay.any] at hd
        go_simp
        first | rfl | (go_at_call 13; refine (rsame_any _ _ ns es nb eb ms fs mb fb wx (HST.out.below (below_step HB2.out HBX.out)) (HSU.out.below (below_step HB2.out HBX.out))).mono ?_; rintro e w1 ⟨rfl, hb1⟩; first | exact ⟨rfl, hb1⟩ | exact ⟨_, rfl, hb1, rfl⟩)
      apply rel_is
      · intro u wx hb hd
        have hz := hb.size
        (try simp only [World.size_alloc, World.size_setCell] at hz)
        have hz0 : w.heap.size < wx.heap.size := by omega
        have hz1 : w.heap.size + 1 < wx.heap.size := by omega
        have hz2 : w.heap.size + 1 + 1 < wx.heap.size := by omega
        obtain ⟨hc, hf⟩ := bcell hb
        have HBX := Lib.hid hb
        clear hb hz
        simp [depsS, Region.binds, updS, Stay.is, Stay.any] at hd
        go_simp
        first | exact ⟨Below.refl _ _, rfl⟩ | rfl
      apply rel_is
      · intro u wx hb hd
        have hz := hb.size
        (try simp only [World.size_alloc, World.size_setCell] at hz)
        have hz0 : w.heap.size < wx.heap.size := by omega
        have hz1 : w.heap.size + 1 < wx.heap.size := by omega
        have hz2 : w.heap.size + 1 + 1 < wx.heap.size := by omega
        obtain ⟨hc, hf⟩ := bcell hb
        have HBX := Lib.hid hb
        clear hb hz
        simp [depsS, Region.binds, updS, Stay.is, Stay.any] at hd
        go_simp
        first | exact ⟨Below.refl _ _, rfl⟩ | rfl
      apply rel_is
      · intro u wx hb hd
        have hz := hb.size
        (try simp only [World.size_alloc, World.size_setCell] at hz)
        have hz0 : w.heap.size < wx.heap.size := by omega
        have hz1 : w.heap.size + 1 < wx.heap.size := by omega
        have hz2 : w.heap.size + 1 + 1 < wx.heap.size := by omega
        obtain ⟨hc, hf⟩ := bcell hb
        have HBX := Lib.hid hb
        clear hb hz
        simp [depsS, Region.binds, updS, Stay.is, Stay.any] at hd
        go_simp
        first | exact ⟨Below.refl _ _, rfl⟩ | rfl
      apply rel_is
      · intro u wx hb hd
        have hz := hb.size
        (try simp only [World.size_alloc, World.size_setCell] at hz)
        have hz0 : w.heap.size < wx.heap.size := by omega
        have hz1 : w.heap.size + 1 < wx.heap.size := by omega
        have hz2 : w.heap.size + 1 + 1 < wx.heap.size := by omega
        obtain ⟨hc, hf⟩ := bcell hb
        have HBX := Lib.hid hb
        clear hb hz
        simp [depsS, Region.binds, updS, Stay.is, Stay.any] at hd
        go_simp
        first | exact ⟨Below.refl _ _, rfl⟩ | rfl
      apply rel_is
      · intro u wx hb hd
        have hz := hb.size
        (try simp only [World.size_alloc, World.size_setCell] at hz)
        have hz0 : w.heap.size < wx.heap.size := by omega
        have hz1 : w.heap.size + 1 < wx.heap.size := by omega
        have hz2 : w.heap.size + 1 + 1 < wx.heap.size := by omega
        obtain ⟨hc, hf⟩ := bcell hb
        have HBX := Lib.hid hb
        clear hb hz
        simp [depsS, Region.binds, updS, Stay.is, Stay.any] at hd
        go_simp
        first | exact ⟨Below.refl _ _, rfl⟩ | rfl
      apply rel_is
      · intro u wx hb hd
        have hz := hb.size
        (try simp only [World.size_alloc, World.size_setCell] at hz)
        have hz0 : w.heap.size < wx.heap.size := by omega
        have hz1 : w.heap.size + 1 < wx.heap.size := by omega
        have hz2 : w.heap.size + 1 + 1 < wx.heap.size := by omega
        obtain ⟨hc, hf⟩ := bcell hb
        have HBX := Lib.hid hb
        clear hb hz
        simp [depsS, Region.binds, updS, Stay.is, Stay.any] at hd
        go_simp
        first | rfl | (go_at_call 12; refine (same_self _ ns es nb eb wx (HST.out.below (below_step HB2.out HBX.out))).mono ?_; rintro e w1 ⟨rfl, hb1⟩; first | exact ⟨rfl, hb1⟩ | exact ⟨_, rfl, hb1, rfl⟩)
      apply rel_is
      · intro u wx hb hd
        have hz := hb.size
        (try simp only [World.size_alloc, World.size_setCell] at hz)
        have hz0 : w.heap.size < wx.heap.size := by omega
        have hz1 : w.heap.size + 1 < wx.heap.size := by omega
        have hz2 : w.heap.size + 1 + 1 < wx.heap.size := by omega
        obtain ⟨hc, hf⟩ := bcell hb
        have HBX := Lib.hid hb
        clear hb hz
        simp [depsS, Region.binds, updS, Stay.is, Stay.any] at hd
        go_simp
        first | exact ⟨Below.refl _ _, rfl⟩ | rfl
      apply rel_is
      · intro u wx hb hd
        have hz := hb.size
        (try simp only [World.size_alloc, World.size_setCell] at hz)
        have hz0 : w.heap.size < wx.heap.size := by omega
        have hz1 : w.heap.size + 1 < wx.heap.size := by omega
        have hz2 : w.heap.size + 1 + 1 < wx.heap.size := by omega
        obtain ⟨hc, hf⟩ := bcell hb
        have HBX := Lib.hid hb
        clear hb hz
        simp [depsS, Region.binds, updS, Stay.is, Stay.any] at hd
        go_simp
        first | exact ⟨Below.refl _ _, rfl⟩ | rfl
      apply rel_is
      · intro u wx hb hd
        have hz := hb.size
        (try simp only [World.size_alloc, World.size_setCell] at hz)
        have hz0 : w.heap.size < wx.heap.size := by omega
        have hz1 : w.heap.size + 1 < wx.heap.size := by omega
        have hz2 : w.heap.size + 1 + 1 < wx.heap.size := by omega
        obtain ⟨hc, hf⟩ := bcell hb
        have HBX := Lib.hid hb
        clear hb hz
        simp [depsS, Region.binds, updS, Stay.is, Stay.any] at hd
        go_simp
        first | rfl | (go_at_call 9; refine (awake_any wx (HML.out.below (below_step HB2.out HBX.out))).mono ?_; rintro e w1 ⟨rfl, hb1⟩; first | exact ⟨rfl, hb1⟩ | exact ⟨_, rfl, hb1, rfl⟩)
      apply rel_is
      · intro u wx hb hd
        have hz := hb.size
        (try simp only [World.size_alloc, World.size_setCell] at hz)
        have hz0 : w.heap.size < wx.heap.size := by omega
        have hz1 : w.heap.size + 1 < wx.heap.size := by omega
        have hz2 : w.heap.size + 1 + 1 < wx.heap.size := by omega
        obtain ⟨hc, hf⟩ := bcell hb
        have HBX := Lib.hid hb
        clear hb hz
        simp [depsS, Region.binds, updS, Stay.is, Stay.any] at hd
        go_simp
        first | exact ⟨Below.refl _ _, rfl⟩ | rfl
      apply rel_is
      · intro u wx hb hd
        have hz := hb.size
        (try simp only [World.size_alloc, World.size_setCell] at hz)
        have hz0 : w.heap.size < wx.heap.size := by omega
        have hz1 : w.heap.size + 1 < wx.heap.size := by omega
        have hz2 : w.heap.size + 1 + 1 < wx.heap.size := by omega
        obtain ⟨hc, hf⟩ := bcell hb
        have HBX := Lib.hid hb
        clear hb hz
        simp [depsS, Region.binds, updS, Stay.is, Stay.any] at hd
        go_simp
        first | exact ⟨Below.refl _ _, rfl⟩ | rfl
      intro u w5 hb hE
      have e0 : u 0 = _ := endS_get hE 0 (by decide)
      have e1 : u 1 = _ := endS_get hE 1 (by decide)
      have e2 : u 2 = _ := endS_get hE 2 (by decide)
      have e3 : u 3 = _ := endS_get hE 3 (by decide)
      have e4 : u 4 = _ := endS_get hE 4 (by decide)
      have e5 : u 5 = _ := endS_get hE 5 (by decide)
      have e6 : u 6 = _ := endS_get hE 6 (by decide)
      have e7 : u 7 = _ := endS_get hE 7 (by decide)
      have e8 : u 8 = _ := endS_get hE 8 (by decide)
      have e9 : u 9 = _ := endS_get hE 9 (by decide)
      have e10 : u 10 = _ := endS_get hE 10 (by decide)
      have e11 : u 11 = _ := endS_get hE 11 (by decide)
      have e12 : u 12 = _ := endS_get hE 12 (by decide)
      have e13 : u 13 = _ := endS_get hE 13 (by decide)
      have e14 : u 14 = _ := endS_get hE 14 (by decide)
      have e15 : u 15 = _ := endS_get hE 15 (by decide)
      have e16 : u 16 = _ := endS_get hE 16 (by decide)
      have e17 : u 17 = _ := endS_get hE 17 (by decide)
      have e18 : u 18 = _ := endS_get hE 18 (by decide)
      have e19 : u 19 = _ := endS_get hE 19 (by decide)
      have e20 : u 20 = _ := endS_get hE 20 (by decide)
      have e21 : u 21 = _ := endS_get hE 21 (by decide)
      have e22 : u 22 = _ := endS_get hE 22 (by decide)
      have e23 : u 23 = _ := endS_get hE 23 (by decide)
      have e24 : u 24 = _ := endS_get hE 24 (by decide)
      simp only [List.drop_succ_cons, List.drop_zero, List.take_succ_cons, List.take_zero, fillL, Act.put, List.setIfInBounds_toArray, List.set_cons_zero, List.set_cons_succ, e0, e1, e2, e3, e4, e5, e6, e7, e8, e9, e10, e11, e12, e13, e14, e15, e16, e17, e18, e19, e20, e21, e22, e23, e24]
      clear e0 e1 e2 e3 e4 e5 e6 e7 e8 e9 e10 e11 e12 e13 e14 e15 e16 e17 e18 e19 e20 e21 e22 e23 e24 hE
      have HBw5 := Lib.hid (below_step (w := w2) (by first | assumption | go_grown) hb)
      have HBXw5 := Lib.hid hb
      have hzw5 := hb.size
      (try simp only [World.size_alloc, World.size_setCell] at hzw5)
      have hzw50 : w.heap.size < w5.heap.size := by omega
      have hzw51 : w.heap.size + 1 < w5.heap.size := by omega
      have hzw52 : w.heap.size + 1 + 1 < w5.heap.size := by omega
      obtain ⟨hcw5, hfw5⟩ := bcell hb
      clear hb hzw5
      have HBN : Hid (Below w.heap.size w w5) := below_step HB2.out HBXw5.out
      go_wp2
      go_returns
      exact ⟨rfl, HBN.out⟩

set_option maxRecDepth 100000 in
theorem stockChecks_contract (H : Type) (enc : TypeId × Value → H) (W : World) (base : Nat) (args : Array Value) (ds gs : List (DataW H)) (before : List MemPlace)
    (hval : ∀ (j : Nat) t v, Tryd.f3.params[j]? = some t → args[j]? = some v → Value.okWide Tryd.prog W .any base t v)
    (hW : DataW.Whole enc Tryd.prog Tryd.f3.params.toList Rows.stockChecksSpec.vars false W args.toList ds gs before) (hL : laidMetH Tryd.prog Rows.stockChecksRow.laid W) (hSh : W.ShapedOpen Tryd.prog) :
    Calls Tryd.prog 3 args W fun e W' => ∃ v, e = .returned v ∧ Rows.stockChecksSpec.post enc Tryd.prog Tryd.f3 false true false false W args v W' := by
  have hW' := hW
  obtain ⟨p, q, hA0, hV, rfl, hfz, hnd⟩ := hW
  have hA : DataW.TrodAll enc Tryd.prog W 0 (fun _ => true) true Tryd.f3.params.toList args.toList ds p := hA0
  rw [Tryd.params3] at hA hval
  obtain ⟨v0, vs0, d0, ds0, p0, q0, hargs, rfl, rfl, h0, r0⟩ := trodAll_cons hA
  obtain ⟨v1, vs1, d1, ds1, p1, q1, rfl, rfl, rfl, h1, r1⟩ := trodAll_cons r0
  obtain ⟨v2, vs2, d2, ds2, p2, q2, rfl, rfl, rfl, h2, r2⟩ := trodAll_cons r1
  obtain ⟨rfl, rfl, rfl⟩ := trodAll_nil r2
  obtain rfl : args = #[v0, v1, v2] := by cases args; simp_all
  obtain ⟨ns0, es0, nb0, eb0, hst0⟩ := stock_arg (hval 0 25 v0 rfl rfl) h0
  obtain ⟨ns1, es1, nb1, eb1, hst1⟩ := stock_arg (hval 1 25 v1 rfl rfl) h1
  obtain ⟨vg, vs, m, gv, rfl, hG, hS⟩ := mat_arg (hval 2 29 v2 rfl rfl) h2
  refine (stockChecks_walk _ _ ns0 es0 nb0 eb0 ns1 es1 nb1 eb1 vg vs m gv W hst0 hst1 hG hS (maxLen_of W hSh)).mono fun e W' ⟨he, hb⟩ => ?_
  subst he
  exact ⟨_, rfl, law_post laidOut (by kernel_rfl) (by kernel_rfl) Tryd.underlying4 rfl hW' (fun _ => rfl) hb⟩
theorem stockChecks_laid (os : Os) : laidMet Tryd.prog Rows.stockChecksRow.laid ((laidWorld os).forCall (fun _ _ => 0) ⟨#[], #[.agg #[.slice none 0 0, .slice none 0 0], .agg #[.slice none 0 0, .slice none 0 0], .agg #[.slice none 0 0, .slice none 0 0]], []⟩).memory := laidMet_of_run' 8 (by kernel_rfl) (by kernel_rfl)
theorem stockChecks_reads (os : Os) {H : Type} (enc : TypeId × Value → H) : ∃ places, DataW.whole enc Tryd.prog ((laidWorld os).forCall (fun _ _ => 0) ⟨#[], #[.agg #[.slice none 0 0, .slice none 0 0], .agg #[.slice none 0 0, .slice none 0 0], .agg #[.slice none 0 0, .slice none 0 0]], []⟩).memory Tryd.f3.params.toList Rows.stockChecksSpec.vars false (#[.agg #[.slice none 0 0, .slice none 0 0], .agg #[.slice none 0 0, .slice none 0 0], .agg #[.slice none 0 0, .slice none 0 0]] : Array Value).toList 8 = some ([.agg [.nil, .nil], .agg [.nil, .nil], .agg [.nil, .nil]], [], places) := ⟨[], by kernel_rfl⟩
set_option maxRecDepth 100000 in
theorem stockChecks_lifted (os : Os) (started : os.Started) (H : Type) (enc : TypeId × Value → H) (F : Stop.Interp) :
    ReturnsInHanded {} Tryd.checked os 3 .any ((OpenSpec.ofChange Rows.stockChecksSpec).preRow enc Tryd.prog Tryd.f3 Rows.stockChecksRow.domain false Rows.stockChecksRow.laid) (((OpenSpec.ofChange Rows.stockChecksSpec).at F).post enc Tryd.prog Tryd.f3 false true false false) := by
  obtain ⟨places, hx⟩ := stockChecks_reads os enc
  refine returnsInHanded_of_row (C := Tryd.checked) (s := OpenSpec.ofChange Rows.stockChecksSpec) own started (by kernel_rfl) Tryd.func3
    (witness_row_at (enc := enc) (C := Tryd.checked) false (laidWorld os) #[.agg #[.slice none 0 0, .slice none 0 0], .agg #[.slice none 0 0, .slice none 0 0], .agg #[.slice none 0 0, .slice none 0 0]] rfl (by kernel_rfl) (by kernel_rfl) (by kernel_rfl)
      (OpenSpec.preRow_of_cond 8 hx (by kernel_rfl) (fun k hk => by cases hk) (by kernel_rfl) (stockChecks_laid os))) ?_
  intro W base args ds gs before hval hW _ _ _ hL hSh _
  exact stockChecks_contract H enc W base args ds gs before hval hW hL hSh
theorem stockChecks_said : Rows.StockChecksSaid :=
  OpenClaim.holds_of_cond 3 Tryd.f3 rfl rfl rfl rfl rfl rfl rfl ⟨rfl, rfl, rfl, rfl, rfl⟩ rfl rfl rfl rfl rfl (by kernel_rfl) Tryd.func3 (by kernel_rfl)
    (of_decide_eq_true (by kernel_rfl)) (by unfold Func.isWrapper; rw [if_neg (of_decide_eq_false (by kernel_rfl))]; exact ⟨rfl, rfl⟩)
    (fun os started H enc _ F => by rw [OpenClaim.pre_eq_preRow]; exact stockChecks_lifted os started H enc F)
theorem stockChecks_plain (f : FuncId) (fn : Func) (hf : Tryd.pinned.checked.prog.funcNamed "shipyard/shipyardlaw29.StockChecks" = some f) (hfn : Tryd.pinned.checked.prog.funcs[f]? = some fn) :
    false = Tryd.pinned.checked.prog.looks [] ∧ ∀ (j : Nat) t, fn.params[j]? = some t → Tryd.pinned.checked.prog.wantsStandIn t = false := by
  obtain rfl : f = 3 := Option.some.inj ((show Tryd.prog.funcNamed "shipyard/shipyardlaw29.StockChecks" = some 3 by kernel_rfl).symm.trans hf) |>.symm
  obtain rfl : fn = Tryd.f3 := (Option.some.inj (Tryd.func3.symm.trans hfn)).symm
  refine ⟨by kernel_rfl, fun j t ht => ?_⟩
  rw [Tryd.params3] at ht
  have hm : t ∈ [25, 25, 29] := by simpa using Array.mem_of_getElem? ht
  have hall : ([25, 25, 29].all fun u => !Tryd.prog.wantsStandIn u) = true := by kernel_rfl
  exact (show Tryd.prog.wantsStandIn t = false by simpa using List.all_eq_true.1 hall t hm)
/-- the card -/
theorem stockChecks_card : Rows.StockChecksCardSaid :=
  Claim7.holds_tied_plain_at .later [] _ _ _ _ stockChecks_said (fun _ h => by cases h) (by kernel_rfl) (fun _ h => by cases h) stockChecks_row_tie rfl ⟨rfl, rfl⟩ (by kernel_rfl) rfl stockChecks_plain (by kernel_rfl)
#print axioms stockChecks_card
end Go.Proofs.YtiddpaaihloopaaDoor
