/-
  Turning changes neither products nor determinants. Conditions: none (the card ties the variable probe to the program's text). By an AI agent.
-/
import Derived.Test.YtcfohnhieajhnaaDoorRow
import Derived.Test.YtcfohnhieajhnaaDoorLaws
import Derived.Test.YtcfohnhieajhnaaDoorVars
namespace Go.Proofs.YtcfohnhieajhnaaDoor
open Go.ChangeShapes Go.WideShapes Go.ChangeAt Go.RowKit
set_option linter.unusedSimpArgs false
set_option linter.unusedVariables false
open Go
theorem rigid_ok : (0 : Int) ≤ 262144 ∧ (262144 : Int) ≤ 2199023255552 := by decide
theorem Turn_val {a b c k p q r : Int} (w : World) (h : InB 262144 (a, b, c)) (he : turnV (a, b, c) k = (p, q, r)) :
    Calls Tryd.prog 19 #[.agg #[.int .i64 a, .int .i64 b, .int .i64 c], .int .i64 k] w fun e w' => e = .returned (.agg #[.int .i64 p, .int .i64 q, .int .i64 r]) ∧ Below w.heap.size w w' := by
  have := Turn_yes a b c k w (inB_mono h (by decide))
  rw [he] at this
  exact this
theorem dot_val {a b c x y z d : Int} (w : World) (h : InB 262144 (a, b, c)) (h2 : InB 262144 (x, y, z)) (he : dotV (a, b, c) (x, y, z) = d) :
    Calls Tryd.prog 20 #[.agg #[.int .i64 a, .int .i64 b, .int .i64 c], .agg #[.int .i64 x, .int .i64 y, .int .i64 z]] w fun e w' => e = .returned (.int .i64 d) ∧ Below w.heap.size w w' := by
  subst he; exact dot_in a b c x y z w h h2
theorem det_val {a b c x y z r s t d : Int} (w : World) (h : InB 262144 (a, b, c)) (h2 : InB 262144 (x, y, z)) (h3 : InB 262144 (r, s, t)) (he : detV (a, b, c) (x, y, z) (r, s, t) = d) :
    Calls Tryd.prog 21 #[.agg #[.int .i64 a, .int .i64 b, .int .i64 c], .agg #[.int .i64 x, .int .i64 y, .int .i64 z], .agg #[.int .i64 r, .int .i64 s, .int .i64 t]] w fun e w' => e = .returned (.int .i64 d) ∧ Below w.heap.size w w' := by
  subst he; exact det_in a b c x y z r s t w h h2 h3
def rigS (B : Nat) (a b c x y z r s t k a0 a1 a2 b0 b1 b2 c0 c1 c2 : Int) : RS where
  val := fun i => match i with
    | 0 => .pointer (some ⟨B, 0, none⟩)
    | 1 => .agg #[.int .i64 a, .int .i64 b, .int .i64 c]
    | 2 => .int .i64 k
    | 3 => .agg #[.int .i64 a0, .int .i64 a1, .int .i64 a2]
    | 4 => .pointer (some ⟨B, 3, none⟩)
    | 5 => .agg #[.int .i64 x, .int .i64 y, .int .i64 z]
    | 6 => .int .i64 k
    | 7 => .agg #[.int .i64 b0, .int .i64 b1, .int .i64 b2]
    | 8 => .pointer (some ⟨B, 6, none⟩)
    | 9 => .agg #[.int .i64 r, .int .i64 s, .int .i64 t]
    | 10 => .int .i64 k
    | _ => .agg #[.int .i64 c0, .int .i64 c1, .int .i64 c2]
  kind := fun i => match i with
    | 12 => 1
    | 13 => 1
    | 14 => 1
    | 15 => 2
    | 16 => 2
    | 17 => 2
    | _ => 0
  zs := fun _ => #[.int .i64 0, .int .i64 0, .int .i64 0]
  ty := fun _ => 27
  st := fun i => i + 3
  res := fun i => match i with
    | 12 => #[.int .i64 a0, .int .i64 a1, .int .i64 a2]
    | 13 => #[.int .i64 b0, .int .i64 b1, .int .i64 b2]
    | _ => #[.int .i64 c0, .int .i64 c1, .int .i64 c2]
set_option maxRecDepth 100000 in
set_option maxHeartbeats 1000000 in
theorem vecRigid_no1 (a b c x y z r s t k : Int) (w : World) (hp : ProbeIs w) (h1 : ¬ InB 262144 (a, b, c)) :
    Calls Tryd.prog 6 #[.agg #[.int .i64 a, .int .i64 b, .int .i64 c, .int .i64 x, .int .i64 y, .int .i64 z, .int .i64 r, .int .i64 s, .int .i64 t], .int .i64 k] w fun e w' => e = .returned (.bool true) ∧ Below w.heap.size w w' := by
  have hpc := past_cell
  have HP := Lib.hid hp
  clear hp
  go_enter Tryd.func6, Tryd.ntmps6
  go_wp2_with fail
  (go_at_call 18; refine (near_no _ _ _ _ _ rigid_ok h1).mono ?_; rintro e w1 ⟨rfl, hb⟩)
  have hB1 := below_step (w := w) (by first | assumption | go_grown) hb
  have hz1 := hb.size
  (try simp only [World.size_alloc, World.size_setCell] at hz1)
  have hz1a : w.heap.size < w1.heap.size := by omega
  obtain ⟨hc1, hf1⟩ := bcell hb
  clear hb hz1
  go_wp2_with fail
  (go_at_call 15; refine (awake_any _ (HP.out.below (by first | assumption | go_grown))).mono ?_; rintro e w9 ⟨rfl, hb9⟩; have hB9 := below_step (w := w) (by first | assumption | go_grown) hb9; clear hb9)
  go_wp2
  go_returns
  exact ⟨rfl, by first | assumption | go_grown⟩
set_option maxRecDepth 100000 in
set_option maxHeartbeats 1000000 in
theorem vecRigid_no2 (a b c x y z r s t k : Int) (w : World) (hp : ProbeIs w) (h1 : InB 262144 (a, b, c)) (h2 : ¬ InB 262144 (x, y, z)) :
    Calls Tryd.prog 6 #[.agg #[.int .i64 a, .int .i64 b, .int .i64 c, .int .i64 x, .int .i64 y, .int .i64 z, .int .i64 r, .int .i64 s, .int .i64 t], .int .i64 k] w fun e w' => e = .returned (.bool true) ∧ Below w.heap.size w w' := by
  have hpc := past_cell
  have HP := Lib.hid hp
  clear hp
  go_enter Tryd.func6, Tryd.ntmps6
  go_wp2_with fail
  (go_at_call 18; refine (near_yes _ _ _ _ _ rigid_ok h1).mono ?_; rintro e w1 ⟨rfl, hb⟩)
  have hB1 := below_step (w := w) (by first | assumption | go_grown) hb
  have hz1 := hb.size
  (try simp only [World.size_alloc, World.size_setCell] at hz1)
  have hz1a : w.heap.size < w1.heap.size := by omega
  obtain ⟨hc1, hf1⟩ := bcell hb
  clear hb hz1
  go_wp2_with fail
  (go_at_call 18; refine (near_no _ _ _ _ _ rigid_ok h2).mono ?_; rintro e w2 ⟨rfl, hb⟩)
  have hB2 := below_step (w := w) (by first | assumption | go_grown) hb
  have hz2 := hb.size
  (try simp only [World.size_alloc, World.size_setCell] at hz2)
  have hz2a : w.heap.size < w2.heap.size := by omega
  obtain ⟨hc2, hf2⟩ := bcell hb
  clear hb hz2
  go_wp2_with fail
  (go_at_call 15; refine (awake_any _ (HP.out.below (by first | assumption | go_grown))).mono ?_; rintro e w9 ⟨rfl, hb9⟩; have hB9 := below_step (w := w) (by first | assumption | go_grown) hb9; clear hb9)
  go_wp2
  go_returns
  exact ⟨rfl, by first | assumption | go_grown⟩
set_option maxRecDepth 100000 in
set_option maxHeartbeats 1000000 in
theorem vecRigid_no3 (a b c x y z r s t k : Int) (w : World) (hp : ProbeIs w) (h1 : InB 262144 (a, b, c)) (h2 : InB 262144 (x, y, z)) (h3 : ¬ InB 262144 (r, s, t)) :
    Calls Tryd.prog 6 #[.agg #[.int .i64 a, .int .i64 b, .int .i64 c, .int .i64 x, .int .i64 y, .int .i64 z, .int .i64 r, .int .i64 s, .int .i64 t], .int .i64 k] w fun e w' => e = .returned (.bool true) ∧ Below w.heap.size w w' := by
  have hpc := past_cell
  have HP := Lib.hid hp
  clear hp
  go_enter Tryd.func6, Tryd.ntmps6
  go_wp2_with fail
  (go_at_call 18; refine (near_yes _ _ _ _ _ rigid_ok h1).mono ?_; rintro e w1 ⟨rfl, hb⟩)
  have hB1 := below_step (w := w) (by first | assumption | go_grown) hb
  have hz1 := hb.size
  (try simp only [World.size_alloc, World.size_setCell] at hz1)
  have hz1a : w.heap.size < w1.heap.size := by omega
  obtain ⟨hc1, hf1⟩ := bcell hb
  clear hb hz1
  go_wp2_with fail
  (go_at_call 18; refine (near_yes _ _ _ _ _ rigid_ok h2).mono ?_; rintro e w2 ⟨rfl, hb⟩)
  have hB2 := below_step (w := w) (by first | assumption | go_grown) hb
  have hz2 := hb.size
  (try simp only [World.size_alloc, World.size_setCell] at hz2)
  have hz2a : w.heap.size < w2.heap.size := by omega
  obtain ⟨hc2, hf2⟩ := bcell hb
  clear hb hz2
  go_wp2_with fail
  (go_at_call 18; refine (near_no _ _ _ _ _ rigid_ok h3).mono ?_; rintro e w3 ⟨rfl, hb⟩)
  have hB3 := below_step (w := w) (by first | assumption | go_grown) hb
  have hz3 := hb.size
  (try simp only [World.size_alloc, World.size_setCell] at hz3)
  have hz3a : w.heap.size < w3.heap.size := by omega
  obtain ⟨hc3, hf3⟩ := bcell hb
  clear hb hz3
  go_wp2_with fail
  (go_at_call 15; refine (awake_any _ (HP.out.below (by first | assumption | go_grown))).mono ?_; rintro e w9 ⟨rfl, hb9⟩; have hB9 := below_step (w := w) (by first | assumption | go_grown) hb9; clear hb9)
  go_wp2
  go_returns
  exact ⟨rfl, by first | assumption | go_grown⟩
set_option maxRecDepth 100000 in
set_option maxHeartbeats 4000000 in
theorem vecRigid_yes (a b c x y z r s t k : Int) (w : World) (hp : ProbeIs w) (h1 : InB 262144 (a, b, c)) (h2 : InB 262144 (x, y, z)) (h3 : InB 262144 (r, s, t)) (a0 a1 a2 b0 b1 b2 c0 c1 c2 D E : Int) (HT1 : Hid (turnV (a, b, c) k = (a0, a1, a2))) (HT2 : Hid (turnV (x, y, z) k = (b0, b1, b2))) (HT3 : Hid (turnV (r, s, t) k = (c0, c1, c2))) (g1 : InB 262144 (a0, a1, a2)) (g2 : InB 262144 (b0, b1, b2)) (g3 : InB 262144 (c0, c1, c2)) (HD1 : Hid (dotV (a0, a1, a2) (b0, b1, b2) = D)) (HD2 : Hid (dotV (a, b, c) (x, y, z) = D)) (HE1 : Hid (detV (a0, a1, a2) (b0, b1, b2) (c0, c1, c2) = E)) (HE2 : Hid (detV (a, b, c) (x, y, z) (r, s, t) = E)) :
    Calls Tryd.prog 6 #[.agg #[.int .i64 a, .int .i64 b, .int .i64 c, .int .i64 x, .int .i64 y, .int .i64 z, .int .i64 r, .int .i64 s, .int .i64 t], .int .i64 k] w fun e w' => e = .returned (.bool true) ∧ Below w.heap.size w w' := by
  have hpc := past_cell
  have HP := Lib.hid hp
  clear hp
  go_enter Tryd.func6, Tryd.ntmps6
  go_wp2_with fail
  (go_at_call 18; refine (near_yes _ _ _ _ _ rigid_ok h1).mono ?_; rintro e w1 ⟨rfl, hb⟩)
  have hB1 := below_step (w := w) (by first | assumption | go_grown) hb
  have hz1 := hb.size
  (try simp only [World.size_alloc, World.size_setCell] at hz1)
  have hz1a : w.heap.size < w1.heap.size := by omega
  obtain ⟨hc1, hf1⟩ := bcell hb
  clear hb hz1
  go_wp2_with fail
  (go_at_call 18; refine (near_yes _ _ _ _ _ rigid_ok h2).mono ?_; rintro e w2 ⟨rfl, hb⟩)
  have hB2 := below_step (w := w) (by first | assumption | go_grown) hb
  have hz2 := hb.size
  (try simp only [World.size_alloc, World.size_setCell] at hz2)
  have hz2a : w.heap.size < w2.heap.size := by omega
  obtain ⟨hc2, hf2⟩ := bcell hb
  clear hb hz2
  go_wp2_with fail
  (go_at_call 18; refine (near_yes _ _ _ _ _ rigid_ok h3).mono ?_; rintro e w3 ⟨rfl, hb⟩)
  have hB3 := below_step (w := w) (by first | assumption | go_grown) hb
  have hz3 := hb.size
  (try simp only [World.size_alloc, World.size_setCell] at hz3)
  have hz3a : w.heap.size < w3.heap.size := by omega
  obtain ⟨hc3, hf3⟩ := bcell hb
  clear hb hz3
  go_wp2_with fail
  refine wp_region_vars (rigS w.heap.size a b c x y z r s t k a0 a1 a2 b0 b1 b2 c0 c1 c2) 18 (by kernel_rfl) (by kernel_rfl) (by kernel_rfl) (by kernel_rfl) ?_ ?_
  · simp only [List.take_succ_cons, List.take_zero, fillL, Act.put, List.setIfInBounds_toArray, List.set_cons_zero, List.set_cons_succ]
    refine ⟨?_, ?_, ?_, ?_, ?_, ?_, ?_, ?_, ?_, ?_, ?_, ?_, ?_, ?_, ?_, ?_, ?_, ?_, trivial⟩
    · intro u wx hb hd
      have hz := hb.size
      have hz0 : w.heap.size < wx.heap.size := by omega
      have HB := Lib.hid hb
      obtain ⟨hc, hf⟩ := bcell hb
      clear hb hz
      simp [depsV, Region.binds, RS.V, rigS] at hd
      go_simp
      exact ⟨Below.refl _ _, rfl⟩
    · intro u wx hb hd
      have hz := hb.size
      have hz0 : w.heap.size < wx.heap.size := by omega
      have HB := Lib.hid hb
      obtain ⟨hc, hf⟩ := bcell hb
      clear hb hz
      simp [depsV, Region.binds, RS.V, rigS] at hd
      go_simp
      exact ⟨Below.refl _ _, rfl⟩
    · intro u wx hb hd
      have hz := hb.size
      have hz0 : w.heap.size < wx.heap.size := by omega
      have HB := Lib.hid hb
      obtain ⟨hc, hf⟩ := bcell hb
      clear hb hz
      simp [depsV, Region.binds, RS.V, rigS] at hd
      go_simp
      exact ⟨Below.refl _ _, rfl⟩
    · intro u wx hb hd
      have hz := hb.size
      have hz0 : w.heap.size < wx.heap.size := by omega
      have HB := Lib.hid hb
      obtain ⟨hc, hf⟩ := bcell hb
      clear hb hz
      simp [depsV, Region.binds, RS.V, rigS] at hd
      go_simp
      simp only [rigS]
      (go_at_call 19; refine (Turn_val _ h1 HT1.out).mono ?_; rintro e w5 ⟨rfl, hb5⟩; exact ⟨rfl, hb5⟩)
    · intro u wx hb hd
      have hz := hb.size
      have hz0 : w.heap.size < wx.heap.size := by omega
      have HB := Lib.hid hb
      obtain ⟨hc, hf⟩ := bcell hb
      clear hb hz
      simp [depsV, Region.binds, RS.V, rigS] at hd
      go_simp
      exact ⟨Below.refl _ _, rfl⟩
    · intro u wx hb hd
      have hz := hb.size
      have hz0 : w.heap.size < wx.heap.size := by omega
      have HB := Lib.hid hb
      obtain ⟨hc, hf⟩ := bcell hb
      clear hb hz
      simp [depsV, Region.binds, RS.V, rigS] at hd
      go_simp
      exact ⟨Below.refl _ _, rfl⟩
    · intro u wx hb hd
      have hz := hb.size
      have hz0 : w.heap.size < wx.heap.size := by omega
      have HB := Lib.hid hb
      obtain ⟨hc, hf⟩ := bcell hb
      clear hb hz
      simp [depsV, Region.binds, RS.V, rigS] at hd
      go_simp
      exact ⟨Below.refl _ _, rfl⟩
    · intro u wx hb hd
      have hz := hb.size
      have hz0 : w.heap.size < wx.heap.size := by omega
      have HB := Lib.hid hb
      obtain ⟨hc, hf⟩ := bcell hb
      clear hb hz
      simp [depsV, Region.binds, RS.V, rigS] at hd
      go_simp
      simp only [rigS]
      (go_at_call 19; refine (Turn_val _ h2 HT2.out).mono ?_; rintro e w5 ⟨rfl, hb5⟩; exact ⟨rfl, hb5⟩)
    · intro u wx hb hd
      have hz := hb.size
      have hz0 : w.heap.size < wx.heap.size := by omega
      have HB := Lib.hid hb
      obtain ⟨hc, hf⟩ := bcell hb
      clear hb hz
      simp [depsV, Region.binds, RS.V, rigS] at hd
      go_simp
      exact ⟨Below.refl _ _, rfl⟩
    · intro u wx hb hd
      have hz := hb.size
      have hz0 : w.heap.size < wx.heap.size := by omega
      have HB := Lib.hid hb
      obtain ⟨hc, hf⟩ := bcell hb
      clear hb hz
      simp [depsV, Region.binds, RS.V, rigS] at hd
      go_simp
      exact ⟨Below.refl _ _, rfl⟩
    · intro u wx hb hd
      have hz := hb.size
      have hz0 : w.heap.size < wx.heap.size := by omega
      have HB := Lib.hid hb
      obtain ⟨hc, hf⟩ := bcell hb
      clear hb hz
      simp [depsV, Region.binds, RS.V, rigS] at hd
      go_simp
      exact ⟨Below.refl _ _, rfl⟩
    · intro u wx hb hd
      have hz := hb.size
      have hz0 : w.heap.size < wx.heap.size := by omega
      have HB := Lib.hid hb
      obtain ⟨hc, hf⟩ := bcell hb
      clear hb hz
      simp [depsV, Region.binds, RS.V, rigS] at hd
      go_simp
      simp only [rigS]
      (go_at_call 19; refine (Turn_val _ h3 HT3.out).mono ?_; rintro e w5 ⟨rfl, hb5⟩; exact ⟨rfl, hb5⟩)
    · intro u wx hb hd
      refine ⟨by simp [Region.wanted], ?_⟩
      go_simp
      first | done | rfl | exact ⟨rfl, rfl⟩
    · intro u wx hb hd
      refine ⟨by simp [Region.wanted], ?_⟩
      go_simp
      first | done | rfl | exact ⟨rfl, rfl⟩
    · intro u wx hb hd
      refine ⟨by simp [Region.wanted], ?_⟩
      go_simp
      first | done | rfl | exact ⟨rfl, rfl⟩
    · intro u wx hb hd
      simp [depsV, Region.binds, RS.V, rigS] at hd
      refine ⟨12, rfl, rfl, rfl, by simp [Region.wanted], fun b' hub hlb hcells => ?_⟩
      obtain ⟨hn0, hn1, hn2, hnf⟩ := new3 hcells
      have HCL := Lib.hid hcells
      clear hcells
      go_simp
      exact Stored.three HCL.out _ _ _
    · intro u wx hb hd
      simp [depsV, Region.binds, RS.V, rigS] at hd
      refine ⟨13, rfl, rfl, rfl, by simp [Region.wanted], fun b' hub hlb hcells => ?_⟩
      obtain ⟨hn0, hn1, hn2, hnf⟩ := new3 hcells
      have HCL := Lib.hid hcells
      clear hcells
      go_simp
      exact Stored.three HCL.out _ _ _
    · intro u wx hb hd
      simp [depsV, Region.binds, RS.V, rigS] at hd
      refine ⟨14, rfl, rfl, rfl, by simp [Region.wanted], fun b' hub hlb hcells => ?_⟩
      obtain ⟨hn0, hn1, hn2, hnf⟩ := new3 hcells
      have HCL := Lib.hid hcells
      clear hcells
      go_simp
      exact Stored.three HCL.out _ _ _
  · intro u w4 hb hV hP hD
    have e0 : u 0 = (rigS w.heap.size a b c x y z r s t k a0 a1 a2 b0 b1 b2 c0 c1 c2).val 0 := hV 0 (by decide) rfl
    have e1 : u 1 = (rigS w.heap.size a b c x y z r s t k a0 a1 a2 b0 b1 b2 c0 c1 c2).val 1 := hV 1 (by decide) rfl
    have e2 : u 2 = (rigS w.heap.size a b c x y z r s t k a0 a1 a2 b0 b1 b2 c0 c1 c2).val 2 := hV 2 (by decide) rfl
    have e3 : u 3 = (rigS w.heap.size a b c x y z r s t k a0 a1 a2 b0 b1 b2 c0 c1 c2).val 3 := hV 3 (by decide) rfl
    have e4 : u 4 = (rigS w.heap.size a b c x y z r s t k a0 a1 a2 b0 b1 b2 c0 c1 c2).val 4 := hV 4 (by decide) rfl
    have e5 : u 5 = (rigS w.heap.size a b c x y z r s t k a0 a1 a2 b0 b1 b2 c0 c1 c2).val 5 := hV 5 (by decide) rfl
    have e6 : u 6 = (rigS w.heap.size a b c x y z r s t k a0 a1 a2 b0 b1 b2 c0 c1 c2).val 6 := hV 6 (by decide) rfl
    have e7 : u 7 = (rigS w.heap.size a b c x y z r s t k a0 a1 a2 b0 b1 b2 c0 c1 c2).val 7 := hV 7 (by decide) rfl
    have e8 : u 8 = (rigS w.heap.size a b c x y z r s t k a0 a1 a2 b0 b1 b2 c0 c1 c2).val 8 := hV 8 (by decide) rfl
    have e9 : u 9 = (rigS w.heap.size a b c x y z r s t k a0 a1 a2 b0 b1 b2 c0 c1 c2).val 9 := hV 9 (by decide) rfl
    have e10 : u 10 = (rigS w.heap.size a b c x y z r s t k a0 a1 a2 b0 b1 b2 c0 c1 c2).val 10 := hV 10 (by decide) rfl
    have e11 : u 11 = (rigS w.heap.size a b c x y z r s t k a0 a1 a2 b0 b1 b2 c0 c1 c2).val 11 := hV 11 (by decide) rfl
    simp only [rigS] at e0 e1 e2 e3 e4 e5 e6 e7 e8 e9 e10 e11
    obtain ⟨B1, p1, l1, q1⟩ := hP 12 (by decide) rfl
    obtain ⟨B2, p2, l2, q2⟩ := hP 13 (by decide) rfl
    obtain ⟨B3, p3, l3, q3⟩ := hP 14 (by decide) rfl
    have q1' : w4.heap[B1]? = some (.cells #[.int .i64 a0, .int .i64 a1, .int .i64 a2] 27) := q1
    have q2' : w4.heap[B2]? = some (.cells #[.int .i64 b0, .int .i64 b1, .int .i64 b2] 27) := q2
    have q3' : w4.heap[B3]? = some (.cells #[.int .i64 c0, .int .i64 c1, .int .i64 c2] 27) := q3
    clear hV hP hD q1 q2 q3
    obtain ⟨m10, m11, m12, m1f⟩ := new3 q1'
    obtain ⟨m20, m21, m22, m2f⟩ := new3 q2'
    obtain ⟨m30, m31, m32, m3f⟩ := new3 q3'
    have s1 := (Array.getElem?_eq_some_iff.1 q1').1
    have s2 := (Array.getElem?_eq_some_iff.1 q2').1
    have s3 := (Array.getElem?_eq_some_iff.1 q3').1
    clear q1' q2' q3' l1 l2 l3
    simp only [List.drop_succ_cons, List.drop_zero, List.take_succ_cons, List.take_zero, fillL, Act.put, List.setIfInBounds_toArray, List.set_cons_zero, List.set_cons_succ, e0, e1, e2, e3, e4, e5, e6, e7, e8, e9, e10, e11, p1, p2, p3]
    clear e0 e1 e2 e3 e4 e5 e6 e7 e8 e9 e10 e11 p1 p2 p3
    have hB4 := below_step (w := w) (by first | assumption | go_grown) hb
    have hz4 := hb.size
    have hz4a : w.heap.size < w4.heap.size := by omega
    obtain ⟨hc4, hf4⟩ := bcell hb
    clear hb hz4
    go_wp2_with fail
    (go_at_call 18; refine (near_yes _ _ _ _ _ rigid_ok g1).mono ?_; rintro e w5 ⟨rfl, hb⟩)
    have hB5 := below_step (w := w) (by first | assumption | go_grown) hb
    have hz5 := hb.size
    (try simp only [World.size_alloc, World.size_setCell] at hz5)
    have hz5a : w.heap.size < w5.heap.size := by omega
    have hz5b : B1 < w5.heap.size := by omega
    have hz5c : B2 < w5.heap.size := by omega
    have hz5d : B3 < w5.heap.size := by omega
    obtain ⟨hc5, hf5⟩ := bcell hb
    clear hb hz5
    go_wp2_with fail
    (go_at_call 18; refine (near_yes _ _ _ _ _ rigid_ok g2).mono ?_; rintro e w6 ⟨rfl, hb⟩)
    have hB6 := below_step (w := w) (by first | assumption | go_grown) hb
    have hz6 := hb.size
    (try simp only [World.size_alloc, World.size_setCell] at hz6)
    have hz6a : w.heap.size < w6.heap.size := by omega
    have hz6b : B1 < w6.heap.size := by omega
    have hz6c : B2 < w6.heap.size := by omega
    have hz6d : B3 < w6.heap.size := by omega
    obtain ⟨hc6, hf6⟩ := bcell hb
    clear hb hz6
    go_wp2_with fail
    (go_at_call 18; refine (near_yes _ _ _ _ _ rigid_ok g3).mono ?_; rintro e w7 ⟨rfl, hb⟩)
    have hB7 := below_step (w := w) (by first | assumption | go_grown) hb
    have hz7 := hb.size
    (try simp only [World.size_alloc, World.size_setCell] at hz7)
    have hz7a : w.heap.size < w7.heap.size := by omega
    have hz7b : B1 < w7.heap.size := by omega
    have hz7c : B2 < w7.heap.size := by omega
    have hz7d : B3 < w7.heap.size := by omega
    obtain ⟨hc7, hf7⟩ := bcell hb
    clear hb hz7
    go_wp2_with fail
    refine wp_region_past (by kernel_rfl) (by kernel_rfl) ?_
    iterate 2 go_big_quiet_step (fail)
    go_big_quiet_step ((go_at_call 20; exact past_of (dot_val _ g1 g2 HD1.out)))
    iterate 4 go_big_quiet_step (fail)
    go_big_quiet_step ((go_at_call 20; exact past_of (dot_val _ h1 h2 HD2.out)))
    iterate 5 go_big_quiet_step (fail)
    go_big_quiet_step ((go_at_call 21; exact past_of (det_val _ g1 g2 g3 HE1.out)))
    iterate 6 go_big_quiet_step (fail)
    go_big_quiet_step ((go_at_call 21; exact past_of (det_val _ h1 h2 h3 HE2.out)))
    iterate 3 go_big_quiet_step (fail)
    go_big_quiet_step ((go_at_call 15; exact past_of (awake_any _ ((HP.out.below (by first | assumption | go_grown)).below (Past.h _)))))
    iterate 2 go_big_quiet_step (fail)
    refine wpQuiet_nil ?_
    intro w8 hw'
    have hb := past_out hw'
    clear hw'
    have hB8 := below_step (w := w) (by first | assumption | go_grown) hb
    clear hb
    go_wp2
    go_returns
    exact ⟨rfl, by first | assumption | go_grown⟩

set_option maxRecDepth 100000 in
set_option maxHeartbeats 1000000 in
theorem vecRigid_walk (a b c x y z r s t k : Int) (w : World) (hp : ProbeIs w) :
    Calls Tryd.prog 6 #[.agg #[.int .i64 a, .int .i64 b, .int .i64 c, .int .i64 x, .int .i64 y, .int .i64 z, .int .i64 r, .int .i64 s, .int .i64 t], .int .i64 k] w fun e w' => e = .returned (.bool true) ∧ Below w.heap.size w w' := by
  by_cases h1 : InB 262144 (a, b, c)
  · by_cases h2 : InB 262144 (x, y, z)
    · by_cases h3 : InB 262144 (r, s, t)
      · have b1 := turn_bd k h1
        have b2 := turn_bd k h2
        have b3 := turn_bd k h3
        have d := dot_turn (a, b, c) (x, y, z) k
        have e := det_turn (a, b, c) (x, y, z) (r, s, t) k
        obtain ⟨⟨a0, a1, a2⟩, hA⟩ : ∃ p, turnV (a, b, c) k = p := ⟨_, rfl⟩
        obtain ⟨⟨b0, b1', b2'⟩, hB⟩ : ∃ p, turnV (x, y, z) k = p := ⟨_, rfl⟩
        obtain ⟨⟨c0, c1, c2⟩, hC⟩ : ∃ p, turnV (r, s, t) k = p := ⟨_, rfl⟩
        rw [hA] at b1
        rw [hB] at b2
        rw [hC] at b3
        rw [hA, hB] at d
        rw [hA, hB, hC] at e
        exact vecRigid_yes a b c x y z r s t k w hp h1 h2 h3 _ _ _ _ _ _ _ _ _ _ _ hA hB hC b1 b2 b3 d rfl e rfl
      · exact vecRigid_no3 a b c x y z r s t k w hp h1 h2 h3
    · exact vecRigid_no2 a b c x y z r s t k w hp h1 h2
  · exact vecRigid_no1 a b c x y z r s t k w hp h1

set_option maxRecDepth 100000 in
theorem vecRigid_contract (H : Type) (enc : TypeId × Value → H) (W : World) (base : Nat) (args : Array Value) (ds gs : List (DataW H)) (before : List MemPlace)
    (hval : ∀ (j : Nat) t v, Tryd.f6.params[j]? = some t → args[j]? = some v → Value.okWide Tryd.prog W .any base t v)
    (hW : DataW.Whole enc Tryd.prog Tryd.f6.params.toList Rows.vecRigidSpec.vars false W args.toList ds gs before) (hL : laidMetH Tryd.prog Rows.vecRigidRow.laid W) :
    Calls Tryd.prog 6 args W fun e W' => ∃ v, e = .returned v ∧ Rows.vecRigidSpec.post enc Tryd.prog Tryd.f6 false true false false W args v W' := by
  have hW' := hW
  obtain ⟨p, q, hA0, hV, rfl, hfz, hnd⟩ := hW
  have hA : DataW.TrodAll enc Tryd.prog W 0 (fun _ => true) true Tryd.f6.params.toList args.toList ds p := hA0
  rw [Tryd.params6] at hA hval
  obtain ⟨v0, vs0, d0, ds0, p0, q0, hargs, rfl, rfl, h0, r0⟩ := trodAll_cons hA
  obtain ⟨v1, vs1, d1, ds1, p1, q1, rfl, rfl, rfl, h1, r1⟩ := trodAll_cons r0
  obtain ⟨rfl, rfl, rfl⟩ := trodAll_nil r1
  obtain rfl : args = #[v0, v1] := by cases args; simp_all
  obtain ⟨zs0, rfl, hl0, hb0⟩ := flat_open (n := 8) (fs := Tryd.prog.fieldsOf 39) (by kernel_rfl) (by kernel_rfl) (by kernel_rfl) (hval 0 39 v0 rfl rfl) h0
  obtain ⟨a, b, c, x, y, z, r, s, t, rfl⟩ := list9 hl0
  obtain ⟨k, rfl, rfl, rfl, _w1⟩ := open_int Tryd.underlying3 (hval 1 3 v1 rfl rfl) h1
  refine (vecRigid_walk a b c x y z r s t k W (probe_of_laid hL)).mono fun e W' ⟨he, hb⟩ => ?_
  subst he
  exact ⟨_, rfl, law_post laidOut (by kernel_rfl) (by kernel_rfl) Tryd.underlying4 rfl hW' (fun _ => rfl) hb⟩
theorem vecRigid_laid (os : Os) : laidMet Tryd.prog Rows.vecRigidRow.laid ((laidWorld os).forCall (fun _ _ => 0) ⟨#[], #[.agg #[.int .i64 0, .int .i64 0, .int .i64 0, .int .i64 0, .int .i64 0, .int .i64 0, .int .i64 0, .int .i64 0, .int .i64 0], .int .i64 0], []⟩).memory := laidMet_of_run' 8 (by kernel_rfl) (by kernel_rfl)
theorem vecRigid_reads (os : Os) {H : Type} (enc : TypeId × Value → H) : ∃ places, DataW.whole enc Tryd.prog ((laidWorld os).forCall (fun _ _ => 0) ⟨#[], #[.agg #[.int .i64 0, .int .i64 0, .int .i64 0, .int .i64 0, .int .i64 0, .int .i64 0, .int .i64 0, .int .i64 0, .int .i64 0], .int .i64 0], []⟩).memory Tryd.f6.params.toList Rows.vecRigidSpec.vars false (#[.agg #[.int .i64 0, .int .i64 0, .int .i64 0, .int .i64 0, .int .i64 0, .int .i64 0, .int .i64 0, .int .i64 0, .int .i64 0], .int .i64 0] : Array Value).toList 8 = some ([.agg [.agg [.lit (.int .i64 0), .lit (.int .i64 0), .lit (.int .i64 0)], .agg [.lit (.int .i64 0), .lit (.int .i64 0), .lit (.int .i64 0)], .agg [.lit (.int .i64 0), .lit (.int .i64 0), .lit (.int .i64 0)]], .lit (.int .i64 0)], [], places) := ⟨[], by kernel_rfl⟩
set_option maxRecDepth 100000 in
theorem vecRigid_lifted (os : Os) (started : os.Started) (H : Type) (enc : TypeId × Value → H) (F : Stop.Interp) :
    ReturnsInHanded {} Tryd.checked os 6 .any ((OpenSpec.ofChange Rows.vecRigidSpec).preRow enc Tryd.prog Tryd.f6 Rows.vecRigidRow.domain false Rows.vecRigidRow.laid) (((OpenSpec.ofChange Rows.vecRigidSpec).at F).post enc Tryd.prog Tryd.f6 false true false false) := by
  obtain ⟨places, hx⟩ := vecRigid_reads os enc
  refine returnsInHanded_of_row (C := Tryd.checked) (s := OpenSpec.ofChange Rows.vecRigidSpec) own started (by kernel_rfl) Tryd.func6
    (witness_row_at (enc := enc) (C := Tryd.checked) false (laidWorld os) #[.agg #[.int .i64 0, .int .i64 0, .int .i64 0, .int .i64 0, .int .i64 0, .int .i64 0, .int .i64 0, .int .i64 0, .int .i64 0], .int .i64 0] rfl (by kernel_rfl) (by kernel_rfl) (by kernel_rfl)
      (OpenSpec.preRow_of_cond 8 hx (by kernel_rfl) (fun k hk => by cases hk) (by kernel_rfl) (vecRigid_laid os))) ?_
  intro W base args ds gs before hval hW _ _ _ hL _ _
  exact vecRigid_contract H enc W base args ds gs before hval hW hL
theorem vecRigid_said : Rows.VecRigidSaid :=
  OpenClaim.holds_of_cond 6 Tryd.f6 rfl rfl rfl rfl rfl rfl rfl ⟨rfl, rfl, rfl, rfl, rfl⟩ rfl rfl rfl rfl rfl (by kernel_rfl) Tryd.func6 (by kernel_rfl)
    (of_decide_eq_true (by kernel_rfl)) (by unfold Func.isWrapper; rw [if_neg (of_decide_eq_false (by kernel_rfl))]; exact ⟨rfl, rfl⟩)
    (fun os started H enc _ F => by rw [OpenClaim.pre_eq_preRow]; exact vecRigid_lifted os started H enc F)
theorem vecRigid_plain (f : FuncId) (fn : Func) (hf : Tryd.pinned.checked.prog.funcNamed "shipyard/shipyardlaw11.VecRigid" = some f) (hfn : Tryd.pinned.checked.prog.funcs[f]? = some fn) :
    false = Tryd.pinned.checked.prog.looks [] ∧ ∀ (j : Nat) t, fn.params[j]? = some t → Tryd.pinned.checked.prog.wantsStandIn t = false := by
  obtain rfl : f = 6 := Option.some.inj ((show Tryd.prog.funcNamed "shipyard/shipyardlaw11.VecRigid" = some 6 by kernel_rfl).symm.trans hf) |>.symm
  obtain rfl : fn = Tryd.f6 := (Option.some.inj (Tryd.func6.symm.trans hfn)).symm
  refine ⟨by kernel_rfl, fun j t ht => ?_⟩
  rw [Tryd.params6] at ht
  have hm : t ∈ [39, 3] := by simpa using Array.mem_of_getElem? ht
  have hall : ([39, 3].all fun u => !Tryd.prog.wantsStandIn u) = true := by kernel_rfl
  exact (show Tryd.prog.wantsStandIn t = false by simpa using List.all_eq_true.1 hall t hm)
/-- the card -/
theorem vecRigid_card : Rows.VecRigidCardSaid :=
  Claim7.holds_tied_plain_at .later [] _ _ _ _ vecRigid_said (fun _ h => by cases h) (by kernel_rfl) (fun _ h => by cases h) vecRigid_row_tie rfl ⟨rfl, rfl⟩ (by kernel_rfl) rfl vecRigid_plain (by kernel_rfl)
#print axioms vecRigid_card
end Go.Proofs.YtcfohnhieajhnaaDoor
