/-
  The reference's PickSheet and PickBar, by walks. Conditions: lengths and widths from 1 to 2^15. By an AI agent.
-/
import Derived.Test.YtiddpaaihloopaaGreatDoorStockS
namespace Go.Proofs.YtiddpaaihloopaaGreatDoor
open Go Go.ChangeShapes Go.WideShapes Go.RowKit Go.ChangeAt
set_option linter.unusedVariables false
set_option linter.unusedSimpArgs false
set_option maxRecDepth 100000
section
variable {α : Type} (M : α → Bool) (ar : α → Int) (f : α → ByteArray) (e : Nat → α)
/-- the best one so far, by its index -/
def BR (j : Nat) (b : Int) : Prop := (b = -1 ∧ pickG M ar f e j = (⟨#[]⟩, false, 0)) ∨ ∃ q : Nat, q < j ∧ b = q ∧ pickG M ar f e j = (f (e q), true, ar (e q))
variable {M ar f e} {j q : Nat} {b : Int}
theorem BR.skip (h : BR M ar f e j b) (hm : M (e j) = false) : BR M ar f e (j + 1) b := by
  have hs : pickG M ar f e (j + 1) = pickG M ar f e j := by
    show stepG M ar f (pickG M ar f e j) (e j) = _
    unfold stepG
    rw [hm]
    rfl
  rcases h with ⟨h1, h2⟩ | ⟨q, h1, h2, h3⟩
  · exact .inl ⟨h1, hs.trans h2⟩
  · exact .inr ⟨q, by omega, h2, hs.trans h3⟩
theorem BR.first (h : pickG M ar f e j = (⟨#[]⟩, false, 0)) (hm : M (e j) = true) : BR M ar f e (j + 1) (j : Int) := by
  refine .inr ⟨j, by omega, rfl, ?_⟩
  show stepG M ar f (pickG M ar f e j) (e j) = _
  rw [h]
  unfold stepG
  rw [hm]
  rfl
theorem BR.less (h : pickG M ar f e j = (f (e q), true, ar (e q))) (hm : M (e j) = true) (hl : ar (e j) < ar (e q)) : BR M ar f e (j + 1) (j : Int) := by
  refine .inr ⟨j, by omega, rfl, ?_⟩
  show stepG M ar f (pickG M ar f e j) (e j) = _
  rw [h]
  unfold stepG
  rw [hm]
  simp [hl]
theorem BR.more (hq : q < j) (h : pickG M ar f e j = (f (e q), true, ar (e q))) (hm : M (e j) = true) (hl : ¬ ar (e j) < ar (e q)) : BR M ar f e (j + 1) (q : Int) := by
  refine .inr ⟨q, by omega, rfl, ?_⟩
  show stepG M ar f (pickG M ar f e j) (e j) = _
  rw [h]
  unfold stepG
  rw [hm]
  simp [hl]
end

theorem pickS_out {n j : Nat} {g : ByteArray} {t l d : Int} {e : Nat → Sh} (hbad : l < 1 ∨ d < 1 → j = 0) (hend : j = n ∨ (l < 1 ∨ d < 1)) : pickFS g t l d e n = ((pickG (mS g t l d) arS Sh.id e j).1, (pickG (mS g t l d) arS Sh.id e j).2.1) := by
  unfold pickFS
  by_cases hb : l < 1 ∨ d < 1
  · rw [if_pos hb, hbad hb]
    rfl
  · rw [if_neg hb, pickS_G]
    have hj : j = n := by rcases hend with h | h; exact h; exact absurd h hb
    rw [hj]
set_option maxHeartbeats 16000000 in
theorem RPickSheet_any (v : Value) (ns : Nat) (es : Nat → Sh) (nb : Nat) (eb : Nat → Br) (g : ByteArray) (t l d : Int) (w : World) (h : StAt w v ns es nb eb) (hsz : ∀ i, i < ns → (1 ≤ (es i).len ∧ (es i).len ≤ 32768) ∧ (1 ≤ (es i).wid ∧ (es i).wid ≤ 32768)) :
    Calls Tryz.prog 19 #[v, .string g, .int .i64 t, .int .i64 l, .int .i64 d] w fun e w' => e = .returned (.tuple #[.string (pickFS g t l d es ns).1, .bool (pickFS g t l d es ns).2]) ∧ Below w.heap.size w w' := by
  obtain ⟨va, vb, rfl, hSh, hBr⟩ := h
  have HSH := Lib.hid hSh
  have HBR := Lib.hid hBr
  obtain ⟨oa, ca, rfl, hna, hca, hela⟩ := hSh.form
  obtain ⟨ob, cb, rfl, hnb, hcb, helb⟩ := hBr.form
  have HELA := Lib.hid hela
  have HELB := Lib.hid helb
  clear HSH HBR hSh hBr hela helb
  obtain ⟨ID0, hID⟩ : ∃ x, (pickFS g t l d es ns).1 = x := ⟨_, rfl⟩
  obtain ⟨OK0, hOK⟩ : ∃ x, (pickFS g t l d es ns).2 = x := ⟨_, rfl⟩
  rw [hID, hOK]
  have HR : Hid (pickFS g t l d es ns = (ID0, OK0)) := by show _ = _; rw [← hID, ← hOK]
  clear hID hOK
  go_enter Tryz.func19, Tryz.ntmps19
  go_wp2
  go_loopw [12, 13, 14] (fun b i _ wr => ∃ (j : Nat) (B : Int), j ≤ ns ∧ (l < 1 ∨ d < 1 → j = 0) ∧ b = .int .i64 B ∧ i = .int .i64 j ∧ Hid (BR (mS g t l d) arS Sh.id es j B) ∧ Below (w.alloc (.cells #[.slice oa ns ca, .slice ob nb cb] 25)).heap.size (w.alloc (.cells #[.slice oa ns ca, .slice ob nb cb] 25)) wr) (fun _ i _ _ => ns - (intOf i).toNat)
  case atStart => exact ⟨0, -1, by omega, fun _ => rfl, rfl, rfl, .inl ⟨rfl, rfl⟩, Below.refl _ _⟩
  case round =>
    obtain ⟨j, B, hj, hbad, rfl, rfl, hq, hB⟩ := hrel
    have HBr : Hid (Below w.heap.size w wr) := by
      show Below _ _ _
      exact below_step (w := w) (by go_grown) hB
    have HBX0 := Lib.hid hB
    have hs0 := hB.size
    (try simp only [World.size_alloc, World.size_setCell] at hs0)
    have z0 : w.heap.size < wr.heap.size := by omega
    have s0 : wr.cell? ⟨w.heap.size, 0, none⟩ = some (.slice oa ns ca) := (hB.cell (p := ⟨_, _, none⟩) (by simp <;> omega)).trans (by simp [go_sem])
    have s1 : wr.cell? ⟨w.heap.size, 1, none⟩ = some (.slice ob nb cb) := (hB.cell (p := ⟨_, _, none⟩) (by simp <;> omega)).trans (by simp [go_sem])
    clear hs0 hB
    by_cases hlt : j < ns
    · by_cases hl : 1 ≤ l
      · have kl1 : decide (1 ≤ l) = true := decide_eq_true hl
        by_cases hd : 1 ≤ d
        · have kd1 : decide (1 ≤ d) = true := decide_eq_true hd
          clear hbad
          obtain ⟨b1, f1, rfl, hbl1, hcl0⟩ := HELA.out j hlt
          have hcl1 := Lib.hid hcl0
          clear hcl0
          have hbr : b1 < wr.heap.size := by omega
          have c0 : wr.cell? ⟨b1, f1 + j * 6, none⟩ = some (.string (es j).id) := (HBr.out.cell (p := ⟨_, _, none⟩) hbl1).trans (hcl1.out j hlt).1
          have c1 : wr.cell? ⟨b1, f1 + j * 6 + 1, none⟩ = some (.string (es j).grade) := (HBr.out.cell (p := ⟨_, _, none⟩) hbl1).trans (hcl1.out j hlt).2.1
          have c2 : wr.cell? ⟨b1, f1 + j * 6 + 2, none⟩ = some (.int .i64 (es j).thick) := (HBr.out.cell (p := ⟨_, _, none⟩) hbl1).trans (hcl1.out j hlt).2.2.1
          have c3 : wr.cell? ⟨b1, f1 + j * 6 + 3, none⟩ = some (.int .i64 (es j).len) := (HBr.out.cell (p := ⟨_, _, none⟩) hbl1).trans (hcl1.out j hlt).2.2.2.1
          have c4 : wr.cell? ⟨b1, f1 + j * 6 + 4, none⟩ = some (.int .i64 (es j).wid) := (HBr.out.cell (p := ⟨_, _, none⟩) hbl1).trans (hcl1.out j hlt).2.2.2.2.1
          have c5 : wr.cell? ⟨b1, f1 + j * 6 + 5, none⟩ = some (.string (es j).heat) := (HBr.out.cell (p := ⟨_, _, none⟩) hbl1).trans (hcl1.out j hlt).2.2.2.2.2
          cases ha : ((es j).grade.toList == g.toList) with
          | false =>
            go_wp2_with fail
            refine wp_region_relw 41 (by kernel_rfl) (by kernel_rfl) (by kernel_rfl) ?_
            simp only [List.take_succ_cons, List.take_zero, fillL, Act.put, List.setIfInBounds_toArray, List.set_cons_zero, List.set_cons_succ]
            iterate 14
              apply rel_is
              · intro u wx hb hd
                have hz := hb.size
                (try simp only [World.size_alloc, World.size_setCell] at hz)
                have hz0 : w.heap.size < wx.heap.size := by omega
                have hz1 : wr.heap.size < wx.heap.size := by omega
                have hz2 : b1 < wx.heap.size := by omega
                obtain ⟨hc, hf⟩ := bcell hb
                have HBX := Lib.hid hb
                clear hb hz
                simp [depsS, Region.binds, updS, Stay.is, Stay.any] at hd
                go_simp
                first | exact ⟨Below.refl _ _, rfl⟩ | rfl
            apply rel_is
            · intro u wx hb hd
              have hz := hb.size
              (try simp only [World.size_alloc, World.size_setCell] at hz)
              have hz0 : w.heap.size < wx.heap.size := by omega
              have hz1 : wr.heap.size < wx.heap.size := by omega
              have hz2 : b1 < wx.heap.size := by omega
              obtain ⟨hc, hf⟩ := bcell hb
              have HBX := Lib.hid hb
              clear hb hz
              simp [depsS, Region.binds, updS, Stay.is, Stay.any] at hd
              go_simp
              first | rfl | (go_at_call 42; refine (absurd rfl rfl).mono ?_; rintro e w1 ⟨rfl, hb1⟩; first | exact ⟨rfl, hb1⟩ | exact ⟨_, rfl, hb1, rfl⟩)
            iterate 26
              apply rel_is
              · intro u wx hb hd
                have hz := hb.size
                (try simp only [World.size_alloc, World.size_setCell] at hz)
                have hz0 : w.heap.size < wx.heap.size := by omega
                have hz1 : wr.heap.size < wx.heap.size := by omega
                have hz2 : b1 < wx.heap.size := by omega
                obtain ⟨hc, hf⟩ := bcell hb
                have HBX := Lib.hid hb
                clear hb hz
                simp [depsS, Region.binds, updS, Stay.is, Stay.any] at hd
                go_simp
                first | exact ⟨Below.refl _ _, rfl⟩ | rfl
            intro u w5 hb hE
            have e0 : u 0 = _ := endS_get hE 0 (by decide)
            have e1 : u 1 = _ := endS_get hE 1 (by decide)
            have e2 : u 2 = _ := endS_get hE 2 (by decide)
            have e3 : u 3 = _ := endS_get hE 3 (by decide)
            have e4 : u 4 = _ := endS_get hE 4 (by decide)
            have e5 : u 5 = _ := endS_get hE 5 (by decide)
            have e6 : u 6 = _ := endS_get hE 6 (by decide)
            have e7 : u 7 = _ := endS_get hE 7 (by decide)
            have e8 : u 8 = _ := endS_get hE 8 (by decide)
            have e9 : u 9 = _ := endS_get hE 9 (by decide)
            have e10 : u 10 = _ := endS_get hE 10 (by decide)
            have e11 : u 11 = _ := endS_get hE 11 (by decide)
            have e12 : u 12 = _ := endS_get hE 12 (by decide)
            have e13 : u 13 = _ := endS_get hE 13 (by decide)
            have e14 : u 14 = _ := endS_get hE 14 (by decide)
            have e15 : u 15 = _ := endS_get hE 15 (by decide)
            have e16 : u 16 = _ := endS_get hE 16 (by decide)
            have e17 : u 17 = _ := endS_get hE 17 (by decide)
            have e18 : u 18 = _ := endS_get hE 18 (by decide)
            have e19 : u 19 = _ := endS_get hE 19 (by decide)
            have e20 : u 20 = _ := endS_get hE 20 (by decide)
            have e21 : u 21 = _ := endS_get hE 21 (by decide)
            have e22 : u 22 = _ := endS_get hE 22 (by decide)
            have e23 : u 23 = _ := endS_get hE 23 (by decide)
            have e24 : u 24 = _ := endS_get hE 24 (by decide)
            have e25 : u 25 = _ := endS_get hE 25 (by decide)
            have e26 : u 26 = _ := endS_get hE 26 (by decide)
            have e27 : u 27 = _ := endS_get hE 27 (by decide)
            have e28 : u 28 = _ := endS_get hE 28 (by decide)
            have e29 : u 29 = _ := endS_get hE 29 (by decide)
            have e30 : u 30 = _ := endS_get hE 30 (by decide)
            have e31 : u 31 = _ := endS_get hE 31 (by decide)
            have e32 : u 32 = _ := endS_get hE 32 (by decide)
            have e33 : u 33 = _ := endS_get hE 33 (by decide)
            have e34 : u 34 = _ := endS_get hE 34 (by decide)
            have e35 : u 35 = _ := endS_get hE 35 (by decide)
            have e36 : u 36 = _ := endS_get hE 36 (by decide)
            have e37 : u 37 = _ := endS_get hE 37 (by decide)
            have e38 : u 38 = _ := endS_get hE 38 (by decide)
            have e39 : u 39 = _ := endS_get hE 39 (by decide)
            have e40 : u 40 = _ := endS_get hE 40 (by decide)
            simp only [List.drop_succ_cons, List.drop_zero, List.take_succ_cons, List.take_zero, fillL, Act.put, List.setIfInBounds_toArray, List.set_cons_zero, List.set_cons_succ, e0, e1, e2, e3, e4, e5, e6, e7, e8, e9, e10, e11, e12, e13, e14, e15, e16, e17, e18, e19, e20, e21, e22, e23, e24, e25, e26, e27, e28, e29, e30, e31, e32, e33, e34, e35, e36, e37, e38, e39, e40]
            clear e0 e1 e2 e3 e4 e5 e6 e7 e8 e9 e10 e11 e12 e13 e14 e15 e16 e17 e18 e19 e20 e21 e22 e23 e24 e25 e26 e27 e28 e29 e30 e31 e32 e33 e34 e35 e36 e37 e38 e39 e40 hE
            have HBw5 := Lib.hid (below_step (w := wr) (by first | assumption | go_grown) hb)
            have HBXw5 := Lib.hid hb
            have hzw5 := hb.size
            (try simp only [World.size_alloc, World.size_setCell] at hzw5)
            have hzw50 : w.heap.size < w5.heap.size := by omega
            have hzw51 : wr.heap.size < w5.heap.size := by omega
            have hzw52 : b1 < w5.heap.size := by omega
            obtain ⟨hcw5, hfw5⟩ := bcell hb
            clear hb hzw5
            have HBN : Hid (Below (w.alloc (.cells #[.slice (some ⟨b1, f1, none⟩) ns ca, .slice ob nb cb] 25)).heap.size (w.alloc (.cells #[.slice (some ⟨b1, f1, none⟩) ns ca, .slice ob nb cb] 25)) w5) := by
              show Below _ _ _
              exact below_step HBX0.out HBw5.out
            have hq2 := Lib.hid (BR.skip (M := (mS g t l d)) (ar := arS) (f := Sh.id) (e := es) hq.out (by show (((es j).grade.toList == g.toList) && _) = false; rw [ha]; rfl))
            clear hq
            go_wp2
            go_roundw
            case rel => exact ⟨j + 1, B, by omega, fun h => absurd h (by omega), by first | rfl | go_num, by go_num, hq2, HBN.out⟩
            case measure => simp [intOf]; omega
          | true =>
            cases hb : ((es j).thick == t) with
            | false =>
              go_wp2_with fail
              refine wp_region_relw 41 (by kernel_rfl) (by kernel_rfl) (by kernel_rfl) ?_
              simp only [List.take_succ_cons, List.take_zero, fillL, Act.put, List.setIfInBounds_toArray, List.set_cons_zero, List.set_cons_succ]
              iterate 14
                apply rel_is
                · intro u wx hb hd
                  have hz := hb.size
                  (try simp only [World.size_alloc, World.size_setCell] at hz)
                  have hz0 : w.heap.size < wx.heap.size := by omega
                  have hz1 : wr.heap.size < wx.heap.size := by omega
                  have hz2 : b1 < wx.heap.size := by omega
                  obtain ⟨hc, hf⟩ := bcell hb
                  have HBX := Lib.hid hb
                  clear hb hz
                  simp [depsS, Region.binds, updS, Stay.is, Stay.any] at hd
                  go_simp
                  first | exact ⟨Below.refl _ _, rfl⟩ | rfl
              apply rel_is
              · intro u wx hb hd
                have hz := hb.size
                (try simp only [World.size_alloc, World.size_setCell] at hz)
                have hz0 : w.heap.size < wx.heap.size := by omega
                have hz1 : wr.heap.size < wx.heap.size := by omega
                have hz2 : b1 < wx.heap.size := by omega
                obtain ⟨hc, hf⟩ := bcell hb
                have HBX := Lib.hid hb
                clear hb hz
                simp [depsS, Region.binds, updS, Stay.is, Stay.any] at hd
                go_simp
                first | rfl | (go_at_call 42; refine (absurd rfl rfl).mono ?_; rintro e w1 ⟨rfl, hb1⟩; first | exact ⟨rfl, hb1⟩ | exact ⟨_, rfl, hb1, rfl⟩)
              iterate 26
                apply rel_is
                · intro u wx hb hd
                  have hz := hb.size
                  (try simp only [World.size_alloc, World.size_setCell] at hz)
                  have hz0 : w.heap.size < wx.heap.size := by omega
                  have hz1 : wr.heap.size < wx.heap.size := by omega
                  have hz2 : b1 < wx.heap.size := by omega
                  obtain ⟨hc, hf⟩ := bcell hb
                  have HBX := Lib.hid hb
                  clear hb hz
                  simp [depsS, Region.binds, updS, Stay.is, Stay.any] at hd
                  go_simp
                  first | exact ⟨Below.refl _ _, rfl⟩ | rfl
              intro u w5 hb hE
              have e0 : u 0 = _ := endS_get hE 0 (by decide)
              have e1 : u 1 = _ := endS_get hE 1 (by decide)
              have e2 : u 2 = _ := endS_get hE 2 (by decide)
              have e3 : u 3 = _ := endS_get hE 3 (by decide)
              have e4 : u 4 = _ := endS_get hE 4 (by decide)
              have e5 : u 5 = _ := endS_get hE 5 (by decide)
              have e6 : u 6 = _ := endS_get hE 6 (by decide)
              have e7 : u 7 = _ := endS_get hE 7 (by decide)
              have e8 : u 8 = _ := endS_get hE 8 (by decide)
              have e9 : u 9 = _ := endS_get hE 9 (by decide)
              have e10 : u 10 = _ := endS_get hE 10 (by decide)
              have e11 : u 11 = _ := endS_get hE 11 (by decide)
              have e12 : u 12 = _ := endS_get hE 12 (by decide)
              have e13 : u 13 = _ := endS_get hE 13 (by decide)
              have e14 : u 14 = _ := endS_get hE 14 (by decide)
              have e15 : u 15 = _ := endS_get hE 15 (by decide)
              have e16 : u 16 = _ := endS_get hE 16 (by decide)
              have e17 : u 17 = _ := endS_get hE 17 (by decide)
              have e18 : u 18 = _ := endS_get hE 18 (by decide)
              have e19 : u 19 = _ := endS_get hE 19 (by decide)
              have e20 : u 20 = _ := endS_get hE 20 (by decide)
              have e21 : u 21 = _ := endS_get hE 21 (by decide)
              have e22 : u 22 = _ := endS_get hE 22 (by decide)
              have e23 : u 23 = _ := endS_get hE 23 (by decide)
              have e24 : u 24 = _ := endS_get hE 24 (by decide)
              have e25 : u 25 = _ := endS_get hE 25 (by decide)
              have e26 : u 26 = _ := endS_get hE 26 (by decide)
              have e27 : u 27 = _ := endS_get hE 27 (by decide)
              have e28 : u 28 = _ := endS_get hE 28 (by decide)
              have e29 : u 29 = _ := endS_get hE 29 (by decide)
              have e30 : u 30 = _ := endS_get hE 30 (by decide)
              have e31 : u 31 = _ := endS_get hE 31 (by decide)
              have e32 : u 32 = _ := endS_get hE 32 (by decide)
              have e33 : u 33 = _ := endS_get hE 33 (by decide)
              have e34 : u 34 = _ := endS_get hE 34 (by decide)
              have e35 : u 35 = _ := endS_get hE 35 (by decide)
              have e36 : u 36 = _ := endS_get hE 36 (by decide)
              have e37 : u 37 = _ := endS_get hE 37 (by decide)
              have e38 : u 38 = _ := endS_get hE 38 (by decide)
              have e39 : u 39 = _ := endS_get hE 39 (by decide)
              have e40 : u 40 = _ := endS_get hE 40 (by decide)
              simp only [List.drop_succ_cons, List.drop_zero, List.take_succ_cons, List.take_zero, fillL, Act.put, List.setIfInBounds_toArray, List.set_cons_zero, List.set_cons_succ, e0, e1, e2, e3, e4, e5, e6, e7, e8, e9, e10, e11, e12, e13, e14, e15, e16, e17, e18, e19, e20, e21, e22, e23, e24, e25, e26, e27, e28, e29, e30, e31, e32, e33, e34, e35, e36, e37, e38, e39, e40]
              clear e0 e1 e2 e3 e4 e5 e6 e7 e8 e9 e10 e11 e12 e13 e14 e15 e16 e17 e18 e19 e20 e21 e22 e23 e24 e25 e26 e27 e28 e29 e30 e31 e32 e33 e34 e35 e36 e37 e38 e39 e40 hE
              have HBw5 := Lib.hid (below_step (w := wr) (by first | assumption | go_grown) hb)
              have HBXw5 := Lib.hid hb
              have hzw5 := hb.size
              (try simp only [World.size_alloc, World.size_setCell] at hzw5)
              have hzw50 : w.heap.size < w5.heap.size := by omega
              have hzw51 : wr.heap.size < w5.heap.size := by omega
              have hzw52 : b1 < w5.heap.size := by omega
              obtain ⟨hcw5, hfw5⟩ := bcell hb
              clear hb hzw5
              have HBN : Hid (Below (w.alloc (.cells #[.slice (some ⟨b1, f1, none⟩) ns ca, .slice ob nb cb] 25)).heap.size (w.alloc (.cells #[.slice (some ⟨b1, f1, none⟩) ns ca, .slice ob nb cb] 25)) w5) := by
                show Below _ _ _
                exact below_step HBX0.out HBw5.out
              have hq2 := Lib.hid (BR.skip (M := (mS g t l d)) (ar := arS) (f := Sh.id) (e := es) hq.out (by show (((es j).grade.toList == g.toList) && (((es j).thick == t) && _)) = false; rw [hb, Bool.false_and, Bool.and_false]))
              clear hq
              go_wp2
              go_roundw
              case rel => exact ⟨j + 1, B, by omega, fun h => absurd h (by omega), by first | rfl | go_num, by go_num, hq2, HBN.out⟩
              case measure => simp [intOf]; omega
            | true =>
              obtain ⟨FV, hFV0⟩ : ∃ F, fitsB (es j) l d = F := ⟨_, rfl⟩
              have hFV := Lib.hid hFV0
              clear hFV0
              cases FV with
              | false =>
                have HFT : Hid (∀ W, Calls Tryz.prog 42 #[.agg #[.string (es j).id, .string (es j).grade, .int .i64 (es j).thick, .int .i64 (es j).len, .int .i64 (es j).wid, .string (es j).heat], .int .i64 l, .int .i64 d] W fun e w' => e = .returned (.bool false) ∧ Below W.heap.size W w') := by
                  show ∀ W, _
                  intro W
                  have := fits_any (es j) l d W
                  rw [hFV.out] at this
                  exact this
                go_wp2_with fail
                refine wp_region_relw 41 (by kernel_rfl) (by kernel_rfl) (by kernel_rfl) ?_
                simp only [List.take_succ_cons, List.take_zero, fillL, Act.put, List.setIfInBounds_toArray, List.set_cons_zero, List.set_cons_succ]
                iterate 14
                  apply rel_is
                  · intro u wx hb hd
                    have hz := hb.size
                    (try simp only [World.size_alloc, World.size_setCell] at hz)
                    have hz0 : w.heap.size < wx.heap.size := by omega
                    have hz1 : wr.heap.size < wx.heap.size := by omega
                    have hz2 : b1 < wx.heap.size := by omega
                    obtain ⟨hc, hf⟩ := bcell hb
                    have HBX := Lib.hid hb
                    clear hb hz
                    simp [depsS, Region.binds, updS, Stay.is, Stay.any] at hd
                    go_simp
                    first | exact ⟨Below.refl _ _, rfl⟩ | rfl
                apply rel_is
                · intro u wx hb hd
                  have hz := hb.size
                  (try simp only [World.size_alloc, World.size_setCell] at hz)
                  have hz0 : w.heap.size < wx.heap.size := by omega
                  have hz1 : wr.heap.size < wx.heap.size := by omega
                  have hz2 : b1 < wx.heap.size := by omega
                  obtain ⟨hc, hf⟩ := bcell hb
                  have HBX := Lib.hid hb
                  clear hb hz
                  simp [depsS, Region.binds, updS, Stay.is, Stay.any] at hd
                  go_simp
                  first | rfl | (go_at_call 42; refine (HFT.out wx).mono ?_; rintro e w1 ⟨rfl, hb1⟩; first | exact ⟨rfl, hb1⟩ | exact ⟨_, rfl, hb1, rfl⟩)
                iterate 26
                  apply rel_is
                  · intro u wx hb hd
                    have hz := hb.size
                    (try simp only [World.size_alloc, World.size_setCell] at hz)
                    have hz0 : w.heap.size < wx.heap.size := by omega
                    have hz1 : wr.heap.size < wx.heap.size := by omega
                    have hz2 : b1 < wx.heap.size := by omega
                    obtain ⟨hc, hf⟩ := bcell hb
                    have HBX := Lib.hid hb
                    clear hb hz
                    simp [depsS, Region.binds, updS, Stay.is, Stay.any] at hd
                    go_simp
                    first | exact ⟨Below.refl _ _, rfl⟩ | rfl
                intro u w5 hb hE
                have e0 : u 0 = _ := endS_get hE 0 (by decide)
                have e1 : u 1 = _ := endS_get hE 1 (by decide)
                have e2 : u 2 = _ := endS_get hE 2 (by decide)
                have e3 : u 3 = _ := endS_get hE 3 (by decide)
                have e4 : u 4 = _ := endS_get hE 4 (by decide)
                have e5 : u 5 = _ := endS_get hE 5 (by decide)
                have e6 : u 6 = _ := endS_get hE 6 (by decide)
                have e7 : u 7 = _ := endS_get hE 7 (by decide)
                have e8 : u 8 = _ := endS_get hE 8 (by decide)
                have e9 : u 9 = _ := endS_get hE 9 (by decide)
                have e10 : u 10 = _ := endS_get hE 10 (by decide)
                have e11 : u 11 = _ := endS_get hE 11 (by decide)
                have e12 : u 12 = _ := endS_get hE 12 (by decide)
                have e13 : u 13 = _ := endS_get hE 13 (by decide)
                have e14 : u 14 = _ := endS_get hE 14 (by decide)
                have e15 : u 15 = _ := endS_get hE 15 (by decide)
                have e16 : u 16 = _ := endS_get hE 16 (by decide)
                have e17 : u 17 = _ := endS_get hE 17 (by decide)
                have e18 : u 18 = _ := endS_get hE 18 (by decide)
                have e19 : u 19 = _ := endS_get hE 19 (by decide)
                have e20 : u 20 = _ := endS_get hE 20 (by decide)
                have e21 : u 21 = _ := endS_get hE 21 (by decide)
                have e22 : u 22 = _ := endS_get hE 22 (by decide)
                have e23 : u 23 = _ := endS_get hE 23 (by decide)
                have e24 : u 24 = _ := endS_get hE 24 (by decide)
                have e25 : u 25 = _ := endS_get hE 25 (by decide)
                have e26 : u 26 = _ := endS_get hE 26 (by decide)
                have e27 : u 27 = _ := endS_get hE 27 (by decide)
                have e28 : u 28 = _ := endS_get hE 28 (by decide)
                have e29 : u 29 = _ := endS_get hE 29 (by decide)
                have e30 : u 30 = _ := endS_get hE 30 (by decide)
                have e31 : u 31 = _ := endS_get hE 31 (by decide)
                have e32 : u 32 = _ := endS_get hE 32 (by decide)
                have e33 : u 33 = _ := endS_get hE 33 (by decide)
                have e34 : u 34 = _ := endS_get hE 34 (by decide)
                have e35 : u 35 = _ := endS_get hE 35 (by decide)
                have e36 : u 36 = _ := endS_get hE 36 (by decide)
                have e37 : u 37 = _ := endS_get hE 37 (by decide)
                have e38 : u 38 = _ := endS_get hE 38 (by decide)
                have e39 : u 39 = _ := endS_get hE 39 (by decide)
                have e40 : u 40 = _ := endS_get hE 40 (by decide)
                simp only [List.drop_succ_cons, List.drop_zero, List.take_succ_cons, List.take_zero, fillL, Act.put, List.setIfInBounds_toArray, List.set_cons_zero, List.set_cons_succ, e0, e1, e2, e3, e4, e5, e6, e7, e8, e9, e10, e11, e12, e13, e14, e15, e16, e17, e18, e19, e20, e21, e22, e23, e24, e25, e26, e27, e28, e29, e30, e31, e32, e33, e34, e35, e36, e37, e38, e39, e40]
                clear e0 e1 e2 e3 e4 e5 e6 e7 e8 e9 e10 e11 e12 e13 e14 e15 e16 e17 e18 e19 e20 e21 e22 e23 e24 e25 e26 e27 e28 e29 e30 e31 e32 e33 e34 e35 e36 e37 e38 e39 e40 hE
                have HBw5 := Lib.hid (below_step (w := wr) (by first | assumption | go_grown) hb)
                have HBXw5 := Lib.hid hb
                have hzw5 := hb.size
                (try simp only [World.size_alloc, World.size_setCell] at hzw5)
                have hzw50 : w.heap.size < w5.heap.size := by omega
                have hzw51 : wr.heap.size < w5.heap.size := by omega
                have hzw52 : b1 < w5.heap.size := by omega
                obtain ⟨hcw5, hfw5⟩ := bcell hb
                clear hb hzw5
                have HBN : Hid (Below (w.alloc (.cells #[.slice (some ⟨b1, f1, none⟩) ns ca, .slice ob nb cb] 25)).heap.size (w.alloc (.cells #[.slice (some ⟨b1, f1, none⟩) ns ca, .slice ob nb cb] 25)) w5) := by
                  show Below _ _ _
                  exact below_step HBX0.out HBw5.out
                have hq2 := Lib.hid (BR.skip (M := (mS g t l d)) (ar := arS) (f := Sh.id) (e := es) hq.out (by rw [mS_last ha hb, hFV.out]))
                clear hq
                go_wp2
                go_roundw
                case rel => exact ⟨j + 1, B, by omega, fun h => absurd h (by omega), by first | rfl | go_num, by go_num, hq2, HBN.out⟩
                case measure => simp [intOf]; omega
              | true =>
                have HFT : Hid (∀ W, Calls Tryz.prog 42 #[.agg #[.string (es j).id, .string (es j).grade, .int .i64 (es j).thick, .int .i64 (es j).len, .int .i64 (es j).wid, .string (es j).heat], .int .i64 l, .int .i64 d] W fun e w' => e = .returned (.bool true) ∧ Below W.heap.size W w') := by
                  show ∀ W, _
                  intro W
                  have := fits_any (es j) l d W
                  rw [hFV.out] at this
                  exact this
                rcases hq.out with ⟨rfl, hp⟩ | ⟨q, hqj, rfl, hp⟩
                · have kq : decide ((-1 : Int) < 0) = true := by decide
                  go_wp2_with fail
                  refine wp_region_relw 41 (by kernel_rfl) (by kernel_rfl) (by kernel_rfl) ?_
                  simp only [List.take_succ_cons, List.take_zero, fillL, Act.put, List.setIfInBounds_toArray, List.set_cons_zero, List.set_cons_succ]
                  iterate 14
                    apply rel_is
                    · intro u wx hb hd
                      have hz := hb.size
                      (try simp only [World.size_alloc, World.size_setCell] at hz)
                      have hz0 : w.heap.size < wx.heap.size := by omega
                      have hz1 : wr.heap.size < wx.heap.size := by omega
                      have hz2 : b1 < wx.heap.size := by omega
                      obtain ⟨hc, hf⟩ := bcell hb
                      have HBX := Lib.hid hb
                      clear hb hz
                      simp [depsS, Region.binds, updS, Stay.is, Stay.any] at hd
                      go_simp
                      first | exact ⟨Below.refl _ _, rfl⟩ | rfl
                  apply rel_is
                  · intro u wx hb hd
                    have hz := hb.size
                    (try simp only [World.size_alloc, World.size_setCell] at hz)
                    have hz0 : w.heap.size < wx.heap.size := by omega
                    have hz1 : wr.heap.size < wx.heap.size := by omega
                    have hz2 : b1 < wx.heap.size := by omega
                    obtain ⟨hc, hf⟩ := bcell hb
                    have HBX := Lib.hid hb
                    clear hb hz
                    simp [depsS, Region.binds, updS, Stay.is, Stay.any] at hd
                    go_simp
                    first | rfl | (go_at_call 42; refine (HFT.out wx).mono ?_; rintro e w1 ⟨rfl, hb1⟩; first | exact ⟨rfl, hb1⟩ | exact ⟨_, rfl, hb1, rfl⟩)
                  iterate 26
                    apply rel_is
                    · intro u wx hb hd
                      have hz := hb.size
                      (try simp only [World.size_alloc, World.size_setCell] at hz)
                      have hz0 : w.heap.size < wx.heap.size := by omega
                      have hz1 : wr.heap.size < wx.heap.size := by omega
                      have hz2 : b1 < wx.heap.size := by omega
                      obtain ⟨hc, hf⟩ := bcell hb
                      have HBX := Lib.hid hb
                      clear hb hz
                      simp [depsS, Region.binds, updS, Stay.is, Stay.any] at hd
                      go_simp
                      first | exact ⟨Below.refl _ _, rfl⟩ | rfl
                  intro u w5 hb hE
                  have e0 : u 0 = _ := endS_get hE 0 (by decide)
                  have e1 : u 1 = _ := endS_get hE 1 (by decide)
                  have e2 : u 2 = _ := endS_get hE 2 (by decide)
                  have e3 : u 3 = _ := endS_get hE 3 (by decide)
                  have e4 : u 4 = _ := endS_get hE 4 (by decide)
                  have e5 : u 5 = _ := endS_get hE 5 (by decide)
                  have e6 : u 6 = _ := endS_get hE 6 (by decide)
                  have e7 : u 7 = _ := endS_get hE 7 (by decide)
                  have e8 : u 8 = _ := endS_get hE 8 (by decide)
                  have e9 : u 9 = _ := endS_get hE 9 (by decide)
                  have e10 : u 10 = _ := endS_get hE 10 (by decide)
                  have e11 : u 11 = _ := endS_get hE 11 (by decide)
                  have e12 : u 12 = _ := endS_get hE 12 (by decide)
                  have e13 : u 13 = _ := endS_get hE 13 (by decide)
                  have e14 : u 14 = _ := endS_get hE 14 (by decide)
                  have e15 : u 15 = _ := endS_get hE 15 (by decide)
                  have e16 : u 16 = _ := endS_get hE 16 (by decide)
                  have e17 : u 17 = _ := endS_get hE 17 (by decide)
                  have e18 : u 18 = _ := endS_get hE 18 (by decide)
                  have e19 : u 19 = _ := endS_get hE 19 (by decide)
                  have e20 : u 20 = _ := endS_get hE 20 (by decide)
                  have e21 : u 21 = _ := endS_get hE 21 (by decide)
                  have e22 : u 22 = _ := endS_get hE 22 (by decide)
                  have e23 : u 23 = _ := endS_get hE 23 (by decide)
                  have e24 : u 24 = _ := endS_get hE 24 (by decide)
                  have e25 : u 25 = _ := endS_get hE 25 (by decide)
                  have e26 : u 26 = _ := endS_get hE 26 (by decide)
                  have e27 : u 27 = _ := endS_get hE 27 (by decide)
                  have e28 : u 28 = _ := endS_get hE 28 (by decide)
                  have e29 : u 29 = _ := endS_get hE 29 (by decide)
                  have e30 : u 30 = _ := endS_get hE 30 (by decide)
                  have e31 : u 31 = _ := endS_get hE 31 (by decide)
                  have e32 : u 32 = _ := endS_get hE 32 (by decide)
                  have e33 : u 33 = _ := endS_get hE 33 (by decide)
                  have e34 : u 34 = _ := endS_get hE 34 (by decide)
                  have e35 : u 35 = _ := endS_get hE 35 (by decide)
                  have e36 : u 36 = _ := endS_get hE 36 (by decide)
                  have e37 : u 37 = _ := endS_get hE 37 (by decide)
                  have e38 : u 38 = _ := endS_get hE 38 (by decide)
                  have e39 : u 39 = _ := endS_get hE 39 (by decide)
                  have e40 : u 40 = _ := endS_get hE 40 (by decide)
                  simp only [List.drop_succ_cons, List.drop_zero, List.take_succ_cons, List.take_zero, fillL, Act.put, List.setIfInBounds_toArray, List.set_cons_zero, List.set_cons_succ, e0, e1, e2, e3, e4, e5, e6, e7, e8, e9, e10, e11, e12, e13, e14, e15, e16, e17, e18, e19, e20, e21, e22, e23, e24, e25, e26, e27, e28, e29, e30, e31, e32, e33, e34, e35, e36, e37, e38, e39, e40]
                  clear e0 e1 e2 e3 e4 e5 e6 e7 e8 e9 e10 e11 e12 e13 e14 e15 e16 e17 e18 e19 e20 e21 e22 e23 e24 e25 e26 e27 e28 e29 e30 e31 e32 e33 e34 e35 e36 e37 e38 e39 e40 hE
                  have HBw5 := Lib.hid (below_step (w := wr) (by first | assumption | go_grown) hb)
                  have HBXw5 := Lib.hid hb
                  have hzw5 := hb.size
                  (try simp only [World.size_alloc, World.size_setCell] at hzw5)
                  have hzw50 : w.heap.size < w5.heap.size := by omega
                  have hzw51 : wr.heap.size < w5.heap.size := by omega
                  have hzw52 : b1 < w5.heap.size := by omega
                  obtain ⟨hcw5, hfw5⟩ := bcell hb
                  clear hb hzw5
                  have HBN : Hid (Below (w.alloc (.cells #[.slice (some ⟨b1, f1, none⟩) ns ca, .slice ob nb cb] 25)).heap.size (w.alloc (.cells #[.slice (some ⟨b1, f1, none⟩) ns ca, .slice ob nb cb] 25)) w5) := by
                    show Below _ _ _
                    exact below_step HBX0.out HBw5.out
                  have hq2 := Lib.hid (BR.first (M := (mS g t l d)) (ar := arS) (f := Sh.id) (e := es) hp (by rw [mS_last ha hb, hFV.out]))
                  clear hq hp
                  go_wp2
                  go_roundw
                  case rel => exact ⟨j + 1, (j : Int), by omega, fun h => absurd h (by omega), by first | rfl | go_num, by go_num, hq2, HBN.out⟩
                  case measure => simp [intOf]; omega
                · have hqn : q < ns := by omega
                  have kq : decide ((q : Int) < 0) = false := decide_eq_false (by omega)
                  have kq2 : (0 : Int) ≤ (q : Int) := by omega
                  have kq3 : (q : Int) < (ns : Int) := by omega
                  have kp : IntKind.i64.wrap ((es j).len * (es j).wid) = (es j).len * (es j).wid := ar_wrap (x := (es j)) (by have := hsz j hlt; omega)
                  have kpq : IntKind.i64.wrap ((es q).len * (es q).wid) = (es q).len * (es q).wid := ar_wrap (x := (es q)) (by have := hsz q hqn; omega)
                  have d0 : wr.cell? ⟨b1, f1 + q * 6, none⟩ = some (.string (es q).id) := (HBr.out.cell (p := ⟨_, _, none⟩) hbl1).trans (hcl1.out q hqn).1
                  have d1 : wr.cell? ⟨b1, f1 + q * 6 + 1, none⟩ = some (.string (es q).grade) := (HBr.out.cell (p := ⟨_, _, none⟩) hbl1).trans (hcl1.out q hqn).2.1
                  have d2 : wr.cell? ⟨b1, f1 + q * 6 + 2, none⟩ = some (.int .i64 (es q).thick) := (HBr.out.cell (p := ⟨_, _, none⟩) hbl1).trans (hcl1.out q hqn).2.2.1
                  have d3 : wr.cell? ⟨b1, f1 + q * 6 + 3, none⟩ = some (.int .i64 (es q).len) := (HBr.out.cell (p := ⟨_, _, none⟩) hbl1).trans (hcl1.out q hqn).2.2.2.1
                  have d4 : wr.cell? ⟨b1, f1 + q * 6 + 4, none⟩ = some (.int .i64 (es q).wid) := (HBr.out.cell (p := ⟨_, _, none⟩) hbl1).trans (hcl1.out q hqn).2.2.2.2.1
                  have d5 : wr.cell? ⟨b1, f1 + q * 6 + 5, none⟩ = some (.string (es q).heat) := (HBr.out.cell (p := ⟨_, _, none⟩) hbl1).trans (hcl1.out q hqn).2.2.2.2.2
                  by_cases hk : (es j).len * (es j).wid < (es q).len * (es q).wid
                  · have kl : decide ((es j).len * (es j).wid < (es q).len * (es q).wid) = true := decide_eq_true hk
                    go_wp2_with fail
                    refine wp_region_relw 41 (by kernel_rfl) (by kernel_rfl) (by kernel_rfl) ?_
                    simp only [List.take_succ_cons, List.take_zero, fillL, Act.put, List.setIfInBounds_toArray, List.set_cons_zero, List.set_cons_succ]
                    iterate 14
                      apply rel_is
                      · intro u wx hb hd
                        have hz := hb.size
                        (try simp only [World.size_alloc, World.size_setCell] at hz)
                        have hz0 : w.heap.size < wx.heap.size := by omega
                        have hz1 : wr.heap.size < wx.heap.size := by omega
                        have hz2 : b1 < wx.heap.size := by omega
                        obtain ⟨hc, hf⟩ := bcell hb
                        have HBX := Lib.hid hb
                        clear hb hz
                        simp [depsS, Region.binds, updS, Stay.is, Stay.any] at hd
                        go_simp
                        first | exact ⟨Below.refl _ _, rfl⟩ | rfl
                    apply rel_is
                    · intro u wx hb hd
                      have hz := hb.size
                      (try simp only [World.size_alloc, World.size_setCell] at hz)
                      have hz0 : w.heap.size < wx.heap.size := by omega
                      have hz1 : wr.heap.size < wx.heap.size := by omega
                      have hz2 : b1 < wx.heap.size := by omega
                      obtain ⟨hc, hf⟩ := bcell hb
                      have HBX := Lib.hid hb
                      clear hb hz
                      simp [depsS, Region.binds, updS, Stay.is, Stay.any] at hd
                      go_simp
                      first | rfl | (go_at_call 42; refine (HFT.out wx).mono ?_; rintro e w1 ⟨rfl, hb1⟩; first | exact ⟨rfl, hb1⟩ | exact ⟨_, rfl, hb1, rfl⟩)
                    iterate 26
                      apply rel_is
                      · intro u wx hb hd
                        have hz := hb.size
                        (try simp only [World.size_alloc, World.size_setCell] at hz)
                        have hz0 : w.heap.size < wx.heap.size := by omega
                        have hz1 : wr.heap.size < wx.heap.size := by omega
                        have hz2 : b1 < wx.heap.size := by omega
                        obtain ⟨hc, hf⟩ := bcell hb
                        have HBX := Lib.hid hb
                        clear hb hz
                        simp [depsS, Region.binds, updS, Stay.is, Stay.any] at hd
                        go_simp
                        first | exact ⟨Below.refl _ _, rfl⟩ | rfl
                    intro u w5 hb hE
                    have e0 : u 0 = _ := endS_get hE 0 (by decide)
                    have e1 : u 1 = _ := endS_get hE 1 (by decide)
                    have e2 : u 2 = _ := endS_get hE 2 (by decide)
                    have e3 : u 3 = _ := endS_get hE 3 (by decide)
                    have e4 : u 4 = _ := endS_get hE 4 (by decide)
                    have e5 : u 5 = _ := endS_get hE 5 (by decide)
                    have e6 : u 6 = _ := endS_get hE 6 (by decide)
                    have e7 : u 7 = _ := endS_get hE 7 (by decide)
                    have e8 : u 8 = _ := endS_get hE 8 (by decide)
                    have e9 : u 9 = _ := endS_get hE 9 (by decide)
                    have e10 : u 10 = _ := endS_get hE 10 (by decide)
                    have e11 : u 11 = _ := endS_get hE 11 (by decide)
                    have e12 : u 12 = _ := endS_get hE 12 (by decide)
                    have e13 : u 13 = _ := endS_get hE 13 (by decide)
                    have e14 : u 14 = _ := endS_get hE 14 (by decide)
                    have e15 : u 15 = _ := endS_get hE 15 (by decide)
                    have e16 : u 16 = _ := endS_get hE 16 (by decide)
                    have e17 : u 17 = _ := endS_get hE 17 (by decide)
                    have e18 : u 18 = _ := endS_get hE 18 (by decide)
                    have e19 : u 19 = _ := endS_get hE 19 (by decide)
                    have e20 : u 20 = _ := endS_get hE 20 (by decide)
                    have e21 : u 21 = _ := endS_get hE 21 (by decide)
                    have e22 : u 22 = _ := endS_get hE 22 (by decide)
                    have e23 : u 23 = _ := endS_get hE 23 (by decide)
                    have e24 : u 24 = _ := endS_get hE 24 (by decide)
                    have e25 : u 25 = _ := endS_get hE 25 (by decide)
                    have e26 : u 26 = _ := endS_get hE 26 (by decide)
                    have e27 : u 27 = _ := endS_get hE 27 (by decide)
                    have e28 : u 28 = _ := endS_get hE 28 (by decide)
                    have e29 : u 29 = _ := endS_get hE 29 (by decide)
                    have e30 : u 30 = _ := endS_get hE 30 (by decide)
                    have e31 : u 31 = _ := endS_get hE 31 (by decide)
                    have e32 : u 32 = _ := endS_get hE 32 (by decide)
                    have e33 : u 33 = _ := endS_get hE 33 (by decide)
                    have e34 : u 34 = _ := endS_get hE 34 (by decide)
                    have e35 : u 35 = _ := endS_get hE 35 (by decide)
                    have e36 : u 36 = _ := endS_get hE 36 (by decide)
                    have e37 : u 37 = _ := endS_get hE 37 (by decide)
                    have e38 : u 38 = _ := endS_get hE 38 (by decide)
                    have e39 : u 39 = _ := endS_get hE 39 (by decide)
                    have e40 : u 40 = _ := endS_get hE 40 (by decide)
                    simp only [List.drop_succ_cons, List.drop_zero, List.take_succ_cons, List.take_zero, fillL, Act.put, List.setIfInBounds_toArray, List.set_cons_zero, List.set_cons_succ, e0, e1, e2, e3, e4, e5, e6, e7, e8, e9, e10, e11, e12, e13, e14, e15, e16, e17, e18, e19, e20, e21, e22, e23, e24, e25, e26, e27, e28, e29, e30, e31, e32, e33, e34, e35, e36, e37, e38, e39, e40]
                    clear e0 e1 e2 e3 e4 e5 e6 e7 e8 e9 e10 e11 e12 e13 e14 e15 e16 e17 e18 e19 e20 e21 e22 e23 e24 e25 e26 e27 e28 e29 e30 e31 e32 e33 e34 e35 e36 e37 e38 e39 e40 hE
                    have HBw5 := Lib.hid (below_step (w := wr) (by first | assumption | go_grown) hb)
                    have HBXw5 := Lib.hid hb
                    have hzw5 := hb.size
                    (try simp only [World.size_alloc, World.size_setCell] at hzw5)
                    have hzw50 : w.heap.size < w5.heap.size := by omega
                    have hzw51 : wr.heap.size < w5.heap.size := by omega
                    have hzw52 : b1 < w5.heap.size := by omega
                    obtain ⟨hcw5, hfw5⟩ := bcell hb
                    clear hb hzw5
                    have HBN : Hid (Below (w.alloc (.cells #[.slice (some ⟨b1, f1, none⟩) ns ca, .slice ob nb cb] 25)).heap.size (w.alloc (.cells #[.slice (some ⟨b1, f1, none⟩) ns ca, .slice ob nb cb] 25)) w5) := by
                      show Below _ _ _
                      exact below_step HBX0.out HBw5.out
                    have hq2 := Lib.hid (BR.less (M := (mS g t l d)) (ar := arS) (f := Sh.id) (e := es) hp (by rw [mS_last ha hb, hFV.out]) hk)
                    clear hq hp
                    go_wp2
                    go_roundw
                    case rel => exact ⟨j + 1, (j : Int), by omega, fun h => absurd h (by omega), by first | rfl | go_num, by go_num, hq2, HBN.out⟩
                    case measure => simp [intOf]; omega
                  · have kl : decide ((es j).len * (es j).wid < (es q).len * (es q).wid) = false := decide_eq_false hk
                    go_wp2_with fail
                    refine wp_region_relw 41 (by kernel_rfl) (by kernel_rfl) (by kernel_rfl) ?_
                    simp only [List.take_succ_cons, List.take_zero, fillL, Act.put, List.setIfInBounds_toArray, List.set_cons_zero, List.set_cons_succ]
                    iterate 14
                      apply rel_is
                      · intro u wx hb hd
                        have hz := hb.size
                        (try simp only [World.size_alloc, World.size_setCell] at hz)
                        have hz0 : w.heap.size < wx.heap.size := by omega
                        have hz1 : wr.heap.size < wx.heap.size := by omega
                        have hz2 : b1 < wx.heap.size := by omega
                        obtain ⟨hc, hf⟩ := bcell hb
                        have HBX := Lib.hid hb
                        clear hb hz
                        simp [depsS, Region.binds, updS, Stay.is, Stay.any] at hd
                        go_simp
                        first | exact ⟨Below.refl _ _, rfl⟩ | rfl
                    apply rel_is
                    · intro u wx hb hd
                      have hz := hb.size
                      (try simp only [World.size_alloc, World.size_setCell] at hz)
                      have hz0 : w.heap.size < wx.heap.size := by omega
                      have hz1 : wr.heap.size < wx.heap.size := by omega
                      have hz2 : b1 < wx.heap.size := by omega
                      obtain ⟨hc, hf⟩ := bcell hb
                      have HBX := Lib.hid hb
                      clear hb hz
                      simp [depsS, Region.binds, updS, Stay.is, Stay.any] at hd
                      go_simp
                      first | rfl | (go_at_call 42; refine (HFT.out wx).mono ?_; rintro e w1 ⟨rfl, hb1⟩; first | exact ⟨rfl, hb1⟩ | exact ⟨_, rfl, hb1, rfl⟩)
                    iterate 26
                      apply rel_is
                      · intro u wx hb hd
                        have hz := hb.size
                        (try simp only [World.size_alloc, World.size_setCell] at hz)
                        have hz0 : w.heap.size < wx.heap.size := by omega
                        have hz1 : wr.heap.size < wx.heap.size := by omega
                        have hz2 : b1 < wx.heap.size := by omega
                        obtain ⟨hc, hf⟩ := bcell hb
                        have HBX := Lib.hid hb
                        clear hb hz
                        simp [depsS, Region.binds, updS, Stay.is, Stay.any] at hd
                        go_simp
                        first | exact ⟨Below.refl _ _, rfl⟩ | rfl
                    intro u w5 hb hE
                    have e0 : u 0 = _ := endS_get hE 0 (by decide)
                    have e1 : u 1 = _ := endS_get hE 1 (by decide)
                    have e2 : u 2 = _ := endS_get hE 2 (by decide)
                    have e3 : u 3 = _ := endS_get hE 3 (by decide)
                    have e4 : u 4 = _ := endS_get hE 4 (by decide)
                    have e5 : u 5 = _ := endS_get hE 5 (by decide)
                    have e6 : u 6 = _ := endS_get hE 6 (by decide)
                    have e7 : u 7 = _ := endS_get hE 7 (by decide)
                    have e8 : u 8 = _ := endS_get hE 8 (by decide)
                    have e9 : u 9 = _ := endS_get hE 9 (by decide)
                    have e10 : u 10 = _ := endS_get hE 10 (by decide)
                    have e11 : u 11 = _ := endS_get hE 11 (by decide)
                    have e12 : u 12 = _ := endS_get hE 12 (by decide)
                    have e13 : u 13 = _ := endS_get hE 13 (by decide)
                    have e14 : u 14 = _ := endS_get hE 14 (by decide)
                    have e15 : u 15 = _ := endS_get hE 15 (by decide)
                    have e16 : u 16 = _ := endS_get hE 16 (by decide)
                    have e17 : u 17 = _ := endS_get hE 17 (by decide)
                    have e18 : u 18 = _ := endS_get hE 18 (by decide)
                    have e19 : u 19 = _ := endS_get hE 19 (by decide)
                    have e20 : u 20 = _ := endS_get hE 20 (by decide)
                    have e21 : u 21 = _ := endS_get hE 21 (by decide)
                    have e22 : u 22 = _ := endS_get hE 22 (by decide)
                    have e23 : u 23 = _ := endS_get hE 23 (by decide)
                    have e24 : u 24 = _ := endS_get hE 24 (by decide)
                    have e25 : u 25 = _ := endS_get hE 25 (by decide)
                    have e26 : u 26 = _ := endS_get hE 26 (by decide)
                    have e27 : u 27 = _ := endS_get hE 27 (by decide)
                    have e28 : u 28 = _ := endS_get hE 28 (by decide)
                    have e29 : u 29 = _ := endS_get hE 29 (by decide)
                    have e30 : u 30 = _ := endS_get hE 30 (by decide)
                    have e31 : u 31 = _ := endS_get hE 31 (by decide)
                    have e32 : u 32 = _ := endS_get hE 32 (by decide)
                    have e33 : u 33 = _ := endS_get hE 33 (by decide)
                    have e34 : u 34 = _ := endS_get hE 34 (by decide)
                    have e35 : u 35 = _ := endS_get hE 35 (by decide)
                    have e36 : u 36 = _ := endS_get hE 36 (by decide)
                    have e37 : u 37 = _ := endS_get hE 37 (by decide)
                    have e38 : u 38 = _ := endS_get hE 38 (by decide)
                    have e39 : u 39 = _ := endS_get hE 39 (by decide)
                    have e40 : u 40 = _ := endS_get hE 40 (by decide)
                    simp only [List.drop_succ_cons, List.drop_zero, List.take_succ_cons, List.take_zero, fillL, Act.put, List.setIfInBounds_toArray, List.set_cons_zero, List.set_cons_succ, e0, e1, e2, e3, e4, e5, e6, e7, e8, e9, e10, e11, e12, e13, e14, e15, e16, e17, e18, e19, e20, e21, e22, e23, e24, e25, e26, e27, e28, e29, e30, e31, e32, e33, e34, e35, e36, e37, e38, e39, e40]
                    clear e0 e1 e2 e3 e4 e5 e6 e7 e8 e9 e10 e11 e12 e13 e14 e15 e16 e17 e18 e19 e20 e21 e22 e23 e24 e25 e26 e27 e28 e29 e30 e31 e32 e33 e34 e35 e36 e37 e38 e39 e40 hE
                    have HBw5 := Lib.hid (below_step (w := wr) (by first | assumption | go_grown) hb)
                    have HBXw5 := Lib.hid hb
                    have hzw5 := hb.size
                    (try simp only [World.size_alloc, World.size_setCell] at hzw5)
                    have hzw50 : w.heap.size < w5.heap.size := by omega
                    have hzw51 : wr.heap.size < w5.heap.size := by omega
                    have hzw52 : b1 < w5.heap.size := by omega
                    obtain ⟨hcw5, hfw5⟩ := bcell hb
                    clear hb hzw5
                    have HBN : Hid (Below (w.alloc (.cells #[.slice (some ⟨b1, f1, none⟩) ns ca, .slice ob nb cb] 25)).heap.size (w.alloc (.cells #[.slice (some ⟨b1, f1, none⟩) ns ca, .slice ob nb cb] 25)) w5) := by
                      show Below _ _ _
                      exact below_step HBX0.out HBw5.out
                    have hq2 := Lib.hid (BR.more (M := (mS g t l d)) (ar := arS) (f := Sh.id) (e := es) hqj hp (by rw [mS_last ha hb, hFV.out]) (by first | exact hk | exact Int.not_lt.2 hk))
                    clear hq hp
                    go_wp2
                    go_roundw
                    case rel => exact ⟨j + 1, (q : Int), by omega, fun h => absurd h (by omega), by first | rfl | go_num, by go_num, hq2, HBN.out⟩
                    case measure => simp [intOf]; omega
        · have kd1 : decide (1 ≤ d) = false := decide_eq_false hd
          have hE : pickFS g t l d es ns = ((pickG (mS g t l d) arS Sh.id es j).1, (pickG (mS g t l d) arS Sh.id es j).2.1) := pickS_out hbad (.inr (by omega))
          rw [HR.out] at hE
          clear hbad
          rcases hq.out with ⟨rfl, hp⟩ | ⟨q, hqj, rfl, hp⟩
          · rw [hp] at hE
            have E : Hid (ID0 = ⟨#[]⟩ ∧ OK0 = false) := by show _ ∧ _; simpa using hE
            clear hE hp hq
            go_wp2
            go_returns
            rw [E.out.1, E.out.2]
            exact ⟨rfl, HBr.out⟩
          · rw [hp] at hE
            have E : Hid (ID0 = (es q).id ∧ OK0 = true) := by show _ ∧ _; simpa using hE
            clear hE hp hq
            have hqn : q < ns := by omega
            obtain ⟨b1, f1, rfl, hbl1, hcl0⟩ := HELA.out q hqn
            have hcl1 := Lib.hid hcl0
            have hbr : b1 < wr.heap.size := by omega
            have c0 : wr.cell? ⟨b1, f1 + q * 6, none⟩ = some (.string (es q).id) := (HBr.out.cell (p := ⟨_, _, none⟩) hbl1).trans (hcl1.out q hqn).1
            have c1 : wr.cell? ⟨b1, f1 + q * 6 + 1, none⟩ = some (.string (es q).grade) := (HBr.out.cell (p := ⟨_, _, none⟩) hbl1).trans (hcl1.out q hqn).2.1
            have c2 : wr.cell? ⟨b1, f1 + q * 6 + 2, none⟩ = some (.int .i64 (es q).thick) := (HBr.out.cell (p := ⟨_, _, none⟩) hbl1).trans (hcl1.out q hqn).2.2.1
            have c3 : wr.cell? ⟨b1, f1 + q * 6 + 3, none⟩ = some (.int .i64 (es q).len) := (HBr.out.cell (p := ⟨_, _, none⟩) hbl1).trans (hcl1.out q hqn).2.2.2.1
            have c4 : wr.cell? ⟨b1, f1 + q * 6 + 4, none⟩ = some (.int .i64 (es q).wid) := (HBr.out.cell (p := ⟨_, _, none⟩) hbl1).trans (hcl1.out q hqn).2.2.2.2.1
            have c5 : wr.cell? ⟨b1, f1 + q * 6 + 5, none⟩ = some (.string (es q).heat) := (HBr.out.cell (p := ⟨_, _, none⟩) hbl1).trans (hcl1.out q hqn).2.2.2.2.2
            have kq : decide ((q : Int) < 0) = false := decide_eq_false (by omega)
            have kq2 : (0 : Int) ≤ (q : Int) := by omega
            have kq3 : (q : Int) < (ns : Int) := by omega
            clear hcl0
            go_wp2
            go_returns
            rw [E.out.1, E.out.2]
            exact ⟨rfl, HBr.out⟩
      · have kl1 : decide (1 ≤ l) = false := decide_eq_false hl
        have hE : pickFS g t l d es ns = ((pickG (mS g t l d) arS Sh.id es j).1, (pickG (mS g t l d) arS Sh.id es j).2.1) := pickS_out hbad (.inr (by omega))
        rw [HR.out] at hE
        clear hbad
        rcases hq.out with ⟨rfl, hp⟩ | ⟨q, hqj, rfl, hp⟩
        · rw [hp] at hE
          have E : Hid (ID0 = ⟨#[]⟩ ∧ OK0 = false) := by show _ ∧ _; simpa using hE
          clear hE hp hq
          go_wp2
          go_returns
          rw [E.out.1, E.out.2]
          exact ⟨rfl, HBr.out⟩
        · rw [hp] at hE
          have E : Hid (ID0 = (es q).id ∧ OK0 = true) := by show _ ∧ _; simpa using hE
          clear hE hp hq
          have hqn : q < ns := by omega
          obtain ⟨b1, f1, rfl, hbl1, hcl0⟩ := HELA.out q hqn
          have hcl1 := Lib.hid hcl0
          have hbr : b1 < wr.heap.size := by omega
          have c0 : wr.cell? ⟨b1, f1 + q * 6, none⟩ = some (.string (es q).id) := (HBr.out.cell (p := ⟨_, _, none⟩) hbl1).trans (hcl1.out q hqn).1
          have c1 : wr.cell? ⟨b1, f1 + q * 6 + 1, none⟩ = some (.string (es q).grade) := (HBr.out.cell (p := ⟨_, _, none⟩) hbl1).trans (hcl1.out q hqn).2.1
          have c2 : wr.cell? ⟨b1, f1 + q * 6 + 2, none⟩ = some (.int .i64 (es q).thick) := (HBr.out.cell (p := ⟨_, _, none⟩) hbl1).trans (hcl1.out q hqn).2.2.1
          have c3 : wr.cell? ⟨b1, f1 + q * 6 + 3, none⟩ = some (.int .i64 (es q).len) := (HBr.out.cell (p := ⟨_, _, none⟩) hbl1).trans (hcl1.out q hqn).2.2.2.1
          have c4 : wr.cell? ⟨b1, f1 + q * 6 + 4, none⟩ = some (.int .i64 (es q).wid) := (HBr.out.cell (p := ⟨_, _, none⟩) hbl1).trans (hcl1.out q hqn).2.2.2.2.1
          have c5 : wr.cell? ⟨b1, f1 + q * 6 + 5, none⟩ = some (.string (es q).heat) := (HBr.out.cell (p := ⟨_, _, none⟩) hbl1).trans (hcl1.out q hqn).2.2.2.2.2
          have kq : decide ((q : Int) < 0) = false := decide_eq_false (by omega)
          have kq2 : (0 : Int) ≤ (q : Int) := by omega
          have kq3 : (q : Int) < (ns : Int) := by omega
          clear hcl0
          go_wp2
          go_returns
          rw [E.out.1, E.out.2]
          exact ⟨rfl, HBr.out⟩
    · have hE : pickFS g t l d es ns = ((pickG (mS g t l d) arS Sh.id es j).1, (pickG (mS g t l d) arS Sh.id es j).2.1) := pickS_out hbad (.inl (by omega))
      rw [HR.out] at hE
      clear hbad
      rcases hq.out with ⟨rfl, hp⟩ | ⟨q, hqj, rfl, hp⟩
      · rw [hp] at hE
        have E : Hid (ID0 = ⟨#[]⟩ ∧ OK0 = false) := by show _ ∧ _; simpa using hE
        clear hE hp hq
        go_wp2
        go_returns
        rw [E.out.1, E.out.2]
        exact ⟨rfl, HBr.out⟩
      · rw [hp] at hE
        have E : Hid (ID0 = (es q).id ∧ OK0 = true) := by show _ ∧ _; simpa using hE
        clear hE hp hq
        have hqn : q < ns := by omega
        obtain ⟨b1, f1, rfl, hbl1, hcl0⟩ := HELA.out q hqn
        have hcl1 := Lib.hid hcl0
        have hbr : b1 < wr.heap.size := by omega
        have c0 : wr.cell? ⟨b1, f1 + q * 6, none⟩ = some (.string (es q).id) := (HBr.out.cell (p := ⟨_, _, none⟩) hbl1).trans (hcl1.out q hqn).1
        have c1 : wr.cell? ⟨b1, f1 + q * 6 + 1, none⟩ = some (.string (es q).grade) := (HBr.out.cell (p := ⟨_, _, none⟩) hbl1).trans (hcl1.out q hqn).2.1
        have c2 : wr.cell? ⟨b1, f1 + q * 6 + 2, none⟩ = some (.int .i64 (es q).thick) := (HBr.out.cell (p := ⟨_, _, none⟩) hbl1).trans (hcl1.out q hqn).2.2.1
        have c3 : wr.cell? ⟨b1, f1 + q * 6 + 3, none⟩ = some (.int .i64 (es q).len) := (HBr.out.cell (p := ⟨_, _, none⟩) hbl1).trans (hcl1.out q hqn).2.2.2.1
        have c4 : wr.cell? ⟨b1, f1 + q * 6 + 4, none⟩ = some (.int .i64 (es q).wid) := (HBr.out.cell (p := ⟨_, _, none⟩) hbl1).trans (hcl1.out q hqn).2.2.2.2.1
        have c5 : wr.cell? ⟨b1, f1 + q * 6 + 5, none⟩ = some (.string (es q).heat) := (HBr.out.cell (p := ⟨_, _, none⟩) hbl1).trans (hcl1.out q hqn).2.2.2.2.2
        have kq : decide ((q : Int) < 0) = false := decide_eq_false (by omega)
        have kq2 : (0 : Int) ≤ (q : Int) := by omega
        have kq3 : (q : Int) < (ns : Int) := by omega
        clear hcl0
        go_wp2
        go_returns
        rw [E.out.1, E.out.2]
        exact ⟨rfl, HBr.out⟩

theorem pickB_out {n j : Nat} {sc g : ByteArray} {l : Int} {e : Nat → Br} (hbad : l < 1 → j = 0) (hend : j = n ∨ l < 1) : pickFB sc g l e n = ((pickG (mB sc g l) Br.len Br.id e j).1, (pickG (mB sc g l) Br.len Br.id e j).2.1) := by
  unfold pickFB
  by_cases hb : l < 1
  · rw [if_pos hb, hbad hb]
    rfl
  · rw [if_neg hb, pickB_G]
    have hj : j = n := by rcases hend with h | h; exact h; exact absurd h hb
    rw [hj]
set_option maxHeartbeats 16000000 in
theorem RPickBar_any (v : Value) (ns : Nat) (es : Nat → Sh) (nb : Nat) (eb : Nat → Br) (sc g : ByteArray) (l : Int) (w : World) (h : StAt w v ns es nb eb) (hsz : ∀ i, i < nb → (1 ≤ (eb i).len ∧ (eb i).len ≤ 32768)) :
    Calls Tryz.prog 21 #[v, .string sc, .string g, .int .i64 l] w fun e w' => e = .returned (.tuple #[.string (pickFB sc g l eb nb).1, .bool (pickFB sc g l eb nb).2]) ∧ Below w.heap.size w w' := by
  obtain ⟨va, vb, rfl, hSh, hBr⟩ := h
  have HSH := Lib.hid hSh
  have HBR := Lib.hid hBr
  obtain ⟨oa, ca, rfl, hna, hca, hela⟩ := hSh.form
  obtain ⟨ob, cb, rfl, hnb, hcb, helb⟩ := hBr.form
  have HELA := Lib.hid hela
  have HELB := Lib.hid helb
  clear HSH HBR hSh hBr hela helb
  obtain ⟨ID0, hID⟩ : ∃ x, (pickFB sc g l eb nb).1 = x := ⟨_, rfl⟩
  obtain ⟨OK0, hOK⟩ : ∃ x, (pickFB sc g l eb nb).2 = x := ⟨_, rfl⟩
  rw [hID, hOK]
  have HR : Hid (pickFB sc g l eb nb = (ID0, OK0)) := by show _ = _; rw [← hID, ← hOK]
  clear hID hOK
  go_enter Tryz.func21, Tryz.ntmps21
  go_wp2
  go_loopw [10, 11, 12] (fun b i _ wr => ∃ (j : Nat) (B : Int), j ≤ nb ∧ (l < 1 → j = 0) ∧ b = .int .i64 B ∧ i = .int .i64 j ∧ Hid (BR (mB sc g l) Br.len Br.id eb j B) ∧ Below (w.alloc (.cells #[.slice oa ns ca, .slice ob nb cb] 25)).heap.size (w.alloc (.cells #[.slice oa ns ca, .slice ob nb cb] 25)) wr) (fun _ i _ _ => nb - (intOf i).toNat)
  case atStart => exact ⟨0, -1, by omega, fun _ => rfl, rfl, rfl, .inl ⟨rfl, rfl⟩, Below.refl _ _⟩
  case round =>
    obtain ⟨j, B, hj, hbad, rfl, rfl, hq, hB⟩ := hrel
    have HBr : Hid (Below w.heap.size w wr) := by
      show Below _ _ _
      exact below_step (w := w) (by go_grown) hB
    have HBX0 := Lib.hid hB
    have hs0 := hB.size
    (try simp only [World.size_alloc, World.size_setCell] at hs0)
    have z0 : w.heap.size < wr.heap.size := by omega
    have s0 : wr.cell? ⟨w.heap.size, 0, none⟩ = some (.slice oa ns ca) := (hB.cell (p := ⟨_, _, none⟩) (by simp <;> omega)).trans (by simp [go_sem])
    have s1 : wr.cell? ⟨w.heap.size, 1, none⟩ = some (.slice ob nb cb) := (hB.cell (p := ⟨_, _, none⟩) (by simp <;> omega)).trans (by simp [go_sem])
    clear hs0 hB
    by_cases hlt : j < nb
    · by_cases hl : 1 ≤ l
      · have kl1 : decide (1 ≤ l) = true := decide_eq_true hl
        clear hbad
        obtain ⟨b1, f1, rfl, hbl1, hcl0⟩ := HELB.out j hlt
        have hcl1 := Lib.hid hcl0
        clear hcl0
        have hbr : b1 < wr.heap.size := by omega
        have c0 : wr.cell? ⟨b1, f1 + j * 5, none⟩ = some (.string (eb j).id) := (HBr.out.cell (p := ⟨_, _, none⟩) hbl1).trans (hcl1.out j hlt).1
        have c1 : wr.cell? ⟨b1, f1 + j * 5 + 1, none⟩ = some (.string (eb j).sect) := (HBr.out.cell (p := ⟨_, _, none⟩) hbl1).trans (hcl1.out j hlt).2.1
        have c2 : wr.cell? ⟨b1, f1 + j * 5 + 2, none⟩ = some (.string (eb j).grade) := (HBr.out.cell (p := ⟨_, _, none⟩) hbl1).trans (hcl1.out j hlt).2.2.1
        have c3 : wr.cell? ⟨b1, f1 + j * 5 + 3, none⟩ = some (.int .i64 (eb j).len) := (HBr.out.cell (p := ⟨_, _, none⟩) hbl1).trans (hcl1.out j hlt).2.2.2.1
        have c4 : wr.cell? ⟨b1, f1 + j * 5 + 4, none⟩ = some (.string (eb j).heat) := (HBr.out.cell (p := ⟨_, _, none⟩) hbl1).trans (hcl1.out j hlt).2.2.2.2
        cases ha : ((eb j).sect.toList == sc.toList) with
        | false =>
          go_wp2_with fail
          refine wp_region_relw 31 (by kernel_rfl) (by kernel_rfl) (by kernel_rfl) ?_
          simp only [List.take_succ_cons, List.take_zero, fillL, Act.put, List.setIfInBounds_toArray, List.set_cons_zero, List.set_cons_succ]
          iterate 31
            apply rel_is
            · intro u wx hb hd
              have hz := hb.size
              (try simp only [World.size_alloc, World.size_setCell] at hz)
              have hz0 : w.heap.size < wx.heap.size := by omega
              have hz1 : wr.heap.size < wx.heap.size := by omega
              have hz2 : b1 < wx.heap.size := by omega
              obtain ⟨hc, hf⟩ := bcell hb
              have HBX := Lib.hid hb
              clear hb hz
              simp [depsS, Region.binds, updS, Stay.is, Stay.any] at hd
              go_simp
              first | exact ⟨Below.refl _ _, rfl⟩ | rfl
          intro u w5 hb hE
          have e0 : u 0 = _ := endS_get hE 0 (by decide)
          have e1 : u 1 = _ := endS_get hE 1 (by decide)
          have e2 : u 2 = _ := endS_get hE 2 (by decide)
          have e3 : u 3 = _ := endS_get hE 3 (by decide)
          have e4 : u 4 = _ := endS_get hE 4 (by decide)
          have e5 : u 5 = _ := endS_get hE 5 (by decide)
          have e6 : u 6 = _ := endS_get hE 6 (by decide)
          have e7 : u 7 = _ := endS_get hE 7 (by decide)
          have e8 : u 8 = _ := endS_get hE 8 (by decide)
          have e9 : u 9 = _ := endS_get hE 9 (by decide)
          have e10 : u 10 = _ := endS_get hE 10 (by decide)
          have e11 : u 11 = _ := endS_get hE 11 (by decide)
          have e12 : u 12 = _ := endS_get hE 12 (by decide)
          have e13 : u 13 = _ := endS_get hE 13 (by decide)
          have e14 : u 14 = _ := endS_get hE 14 (by decide)
          have e15 : u 15 = _ := endS_get hE 15 (by decide)
          have e16 : u 16 = _ := endS_get hE 16 (by decide)
          have e17 : u 17 = _ := endS_get hE 17 (by decide)
          have e18 : u 18 = _ := endS_get hE 18 (by decide)
          have e19 : u 19 = _ := endS_get hE 19 (by decide)
          have e20 : u 20 = _ := endS_get hE 20 (by decide)
          have e21 : u 21 = _ := endS_get hE 21 (by decide)
          have e22 : u 22 = _ := endS_get hE 22 (by decide)
          have e23 : u 23 = _ := endS_get hE 23 (by decide)
          have e24 : u 24 = _ := endS_get hE 24 (by decide)
          have e25 : u 25 = _ := endS_get hE 25 (by decide)
          have e26 : u 26 = _ := endS_get hE 26 (by decide)
          have e27 : u 27 = _ := endS_get hE 27 (by decide)
          have e28 : u 28 = _ := endS_get hE 28 (by decide)
          have e29 : u 29 = _ := endS_get hE 29 (by decide)
          have e30 : u 30 = _ := endS_get hE 30 (by decide)
          simp only [List.drop_succ_cons, List.drop_zero, List.take_succ_cons, List.take_zero, fillL, Act.put, List.setIfInBounds_toArray, List.set_cons_zero, List.set_cons_succ, e0, e1, e2, e3, e4, e5, e6, e7, e8, e9, e10, e11, e12, e13, e14, e15, e16, e17, e18, e19, e20, e21, e22, e23, e24, e25, e26, e27, e28, e29, e30]
          clear e0 e1 e2 e3 e4 e5 e6 e7 e8 e9 e10 e11 e12 e13 e14 e15 e16 e17 e18 e19 e20 e21 e22 e23 e24 e25 e26 e27 e28 e29 e30 hE
          have HBw5 := Lib.hid (below_step (w := wr) (by first | assumption | go_grown) hb)
          have HBXw5 := Lib.hid hb
          have hzw5 := hb.size
          (try simp only [World.size_alloc, World.size_setCell] at hzw5)
          have hzw50 : w.heap.size < w5.heap.size := by omega
          have hzw51 : wr.heap.size < w5.heap.size := by omega
          have hzw52 : b1 < w5.heap.size := by omega
          obtain ⟨hcw5, hfw5⟩ := bcell hb
          clear hb hzw5
          have HBN : Hid (Below (w.alloc (.cells #[.slice oa ns ca, .slice (some ⟨b1, f1, none⟩) nb cb] 25)).heap.size (w.alloc (.cells #[.slice oa ns ca, .slice (some ⟨b1, f1, none⟩) nb cb] 25)) w5) := by
            show Below _ _ _
            exact below_step HBX0.out HBw5.out
          have hq2 := Lib.hid (BR.skip (M := (mB sc g l)) (ar := Br.len) (f := Br.id) (e := eb) hq.out (by show (((eb j).sect.toList == sc.toList) && _) = false; rw [ha]; rfl))
          clear hq
          go_wp2
          go_roundw
          case rel => exact ⟨j + 1, B, by omega, fun h => absurd h (by omega), by first | rfl | go_num, by go_num, hq2, HBN.out⟩
          case measure => simp [intOf]; omega
        | true =>
          cases hb : ((eb j).grade.toList == g.toList) with
          | false =>
            go_wp2_with fail
            refine wp_region_relw 31 (by kernel_rfl) (by kernel_rfl) (by kernel_rfl) ?_
            simp only [List.take_succ_cons, List.take_zero, fillL, Act.put, List.setIfInBounds_toArray, List.set_cons_zero, List.set_cons_succ]
            iterate 31
              apply rel_is
              · intro u wx hb hd
                have hz := hb.size
                (try simp only [World.size_alloc, World.size_setCell] at hz)
                have hz0 : w.heap.size < wx.heap.size := by omega
                have hz1 : wr.heap.size < wx.heap.size := by omega
                have hz2 : b1 < wx.heap.size := by omega
                obtain ⟨hc, hf⟩ := bcell hb
                have HBX := Lib.hid hb
                clear hb hz
                simp [depsS, Region.binds, updS, Stay.is, Stay.any] at hd
                go_simp
                first | exact ⟨Below.refl _ _, rfl⟩ | rfl
            intro u w5 hb hE
            have e0 : u 0 = _ := endS_get hE 0 (by decide)
            have e1 : u 1 = _ := endS_get hE 1 (by decide)
            have e2 : u 2 = _ := endS_get hE 2 (by decide)
            have e3 : u 3 = _ := endS_get hE 3 (by decide)
            have e4 : u 4 = _ := endS_get hE 4 (by decide)
            have e5 : u 5 = _ := endS_get hE 5 (by decide)
            have e6 : u 6 = _ := endS_get hE 6 (by decide)
            have e7 : u 7 = _ := endS_get hE 7 (by decide)
            have e8 : u 8 = _ := endS_get hE 8 (by decide)
            have e9 : u 9 = _ := endS_get hE 9 (by decide)
            have e10 : u 10 = _ := endS_get hE 10 (by decide)
            have e11 : u 11 = _ := endS_get hE 11 (by decide)
            have e12 : u 12 = _ := endS_get hE 12 (by decide)
            have e13 : u 13 = _ := endS_get hE 13 (by decide)
            have e14 : u 14 = _ := endS_get hE 14 (by decide)
            have e15 : u 15 = _ := endS_get hE 15 (by decide)
            have e16 : u 16 = _ := endS_get hE 16 (by decide)
            have e17 : u 17 = _ := endS_get hE 17 (by decide)
            have e18 : u 18 = _ := endS_get hE 18 (by decide)
            have e19 : u 19 = _ := endS_get hE 19 (by decide)
            have e20 : u 20 = _ := endS_get hE 20 (by decide)
            have e21 : u 21 = _ := endS_get hE 21 (by decide)
            have e22 : u 22 = _ := endS_get hE 22 (by decide)
            have e23 : u 23 = _ := endS_get hE 23 (by decide)
            have e24 : u 24 = _ := endS_get hE 24 (by decide)
            have e25 : u 25 = _ := endS_get hE 25 (by decide)
            have e26 : u 26 = _ := endS_get hE 26 (by decide)
            have e27 : u 27 = _ := endS_get hE 27 (by decide)
            have e28 : u 28 = _ := endS_get hE 28 (by decide)
            have e29 : u 29 = _ := endS_get hE 29 (by decide)
            have e30 : u 30 = _ := endS_get hE 30 (by decide)
            simp only [List.drop_succ_cons, List.drop_zero, List.take_succ_cons, List.take_zero, fillL, Act.put, List.setIfInBounds_toArray, List.set_cons_zero, List.set_cons_succ, e0, e1, e2, e3, e4, e5, e6, e7, e8, e9, e10, e11, e12, e13, e14, e15, e16, e17, e18, e19, e20, e21, e22, e23, e24, e25, e26, e27, e28, e29, e30]
            clear e0 e1 e2 e3 e4 e5 e6 e7 e8 e9 e10 e11 e12 e13 e14 e15 e16 e17 e18 e19 e20 e21 e22 e23 e24 e25 e26 e27 e28 e29 e30 hE
            have HBw5 := Lib.hid (below_step (w := wr) (by first | assumption | go_grown) hb)
            have HBXw5 := Lib.hid hb
            have hzw5 := hb.size
            (try simp only [World.size_alloc, World.size_setCell] at hzw5)
            have hzw50 : w.heap.size < w5.heap.size := by omega
            have hzw51 : wr.heap.size < w5.heap.size := by omega
            have hzw52 : b1 < w5.heap.size := by omega
            obtain ⟨hcw5, hfw5⟩ := bcell hb
            clear hb hzw5
            have HBN : Hid (Below (w.alloc (.cells #[.slice oa ns ca, .slice (some ⟨b1, f1, none⟩) nb cb] 25)).heap.size (w.alloc (.cells #[.slice oa ns ca, .slice (some ⟨b1, f1, none⟩) nb cb] 25)) w5) := by
              show Below _ _ _
              exact below_step HBX0.out HBw5.out
            have hq2 := Lib.hid (BR.skip (M := (mB sc g l)) (ar := Br.len) (f := Br.id) (e := eb) hq.out (by show (((eb j).sect.toList == sc.toList) && (((eb j).grade.toList == g.toList) && _)) = false; rw [hb, Bool.false_and, Bool.and_false]))
            clear hq
            go_wp2
            go_roundw
            case rel => exact ⟨j + 1, B, by omega, fun h => absurd h (by omega), by first | rfl | go_num, by go_num, hq2, HBN.out⟩
            case measure => simp [intOf]; omega
          | true =>
            by_cases hc0 : l ≤ (eb j).len
            · have hc : decide (l ≤ (eb j).len) = true := decide_eq_true hc0
              rcases hq.out with ⟨rfl, hp⟩ | ⟨q, hqj, rfl, hp⟩
              · have kq : decide ((-1 : Int) < 0) = true := by decide
                go_wp2_with fail
                refine wp_region_relw 31 (by kernel_rfl) (by kernel_rfl) (by kernel_rfl) ?_
                simp only [List.take_succ_cons, List.take_zero, fillL, Act.put, List.setIfInBounds_toArray, List.set_cons_zero, List.set_cons_succ]
                iterate 31
                  apply rel_is
                  · intro u wx hb hd
                    have hz := hb.size
                    (try simp only [World.size_alloc, World.size_setCell] at hz)
                    have hz0 : w.heap.size < wx.heap.size := by omega
                    have hz1 : wr.heap.size < wx.heap.size := by omega
                    have hz2 : b1 < wx.heap.size := by omega
                    obtain ⟨hc, hf⟩ := bcell hb
                    have HBX := Lib.hid hb
                    clear hb hz
                    simp [depsS, Region.binds, updS, Stay.is, Stay.any] at hd
                    go_simp
                    first | exact ⟨Below.refl _ _, rfl⟩ | rfl
                intro u w5 hb hE
                have e0 : u 0 = _ := endS_get hE 0 (by decide)
                have e1 : u 1 = _ := endS_get hE 1 (by decide)
                have e2 : u 2 = _ := endS_get hE 2 (by decide)
                have e3 : u 3 = _ := endS_get hE 3 (by decide)
                have e4 : u 4 = _ := endS_get hE 4 (by decide)
                have e5 : u 5 = _ := endS_get hE 5 (by decide)
                have e6 : u 6 = _ := endS_get hE 6 (by decide)
                have e7 : u 7 = _ := endS_get hE 7 (by decide)
                have e8 : u 8 = _ := endS_get hE 8 (by decide)
                have e9 : u 9 = _ := endS_get hE 9 (by decide)
                have e10 : u 10 = _ := endS_get hE 10 (by decide)
                have e11 : u 11 = _ := endS_get hE 11 (by decide)
                have e12 : u 12 = _ := endS_get hE 12 (by decide)
                have e13 : u 13 = _ := endS_get hE 13 (by decide)
                have e14 : u 14 = _ := endS_get hE 14 (by decide)
                have e15 : u 15 = _ := endS_get hE 15 (by decide)
                have e16 : u 16 = _ := endS_get hE 16 (by decide)
                have e17 : u 17 = _ := endS_get hE 17 (by decide)
                have e18 : u 18 = _ := endS_get hE 18 (by decide)
                have e19 : u 19 = _ := endS_get hE 19 (by decide)
                have e20 : u 20 = _ := endS_get hE 20 (by decide)
                have e21 : u 21 = _ := endS_get hE 21 (by decide)
                have e22 : u 22 = _ := endS_get hE 22 (by decide)
                have e23 : u 23 = _ := endS_get hE 23 (by decide)
                have e24 : u 24 = _ := endS_get hE 24 (by decide)
                have e25 : u 25 = _ := endS_get hE 25 (by decide)
                have e26 : u 26 = _ := endS_get hE 26 (by decide)
                have e27 : u 27 = _ := endS_get hE 27 (by decide)
                have e28 : u 28 = _ := endS_get hE 28 (by decide)
                have e29 : u 29 = _ := endS_get hE 29 (by decide)
                have e30 : u 30 = _ := endS_get hE 30 (by decide)
                simp only [List.drop_succ_cons, List.drop_zero, List.take_succ_cons, List.take_zero, fillL, Act.put, List.setIfInBounds_toArray, List.set_cons_zero, List.set_cons_succ, e0, e1, e2, e3, e4, e5, e6, e7, e8, e9, e10, e11, e12, e13, e14, e15, e16, e17, e18, e19, e20, e21, e22, e23, e24, e25, e26, e27, e28, e29, e30]
                clear e0 e1 e2 e3 e4 e5 e6 e7 e8 e9 e10 e11 e12 e13 e14 e15 e16 e17 e18 e19 e20 e21 e22 e23 e24 e25 e26 e27 e28 e29 e30 hE
                have HBw5 := Lib.hid (below_step (w := wr) (by first | assumption | go_grown) hb)
                have HBXw5 := Lib.hid hb
                have hzw5 := hb.size
                (try simp only [World.size_alloc, World.size_setCell] at hzw5)
                have hzw50 : w.heap.size < w5.heap.size := by omega
                have hzw51 : wr.heap.size < w5.heap.size := by omega
                have hzw52 : b1 < w5.heap.size := by omega
                obtain ⟨hcw5, hfw5⟩ := bcell hb
                clear hb hzw5
                have HBN : Hid (Below (w.alloc (.cells #[.slice oa ns ca, .slice (some ⟨b1, f1, none⟩) nb cb] 25)).heap.size (w.alloc (.cells #[.slice oa ns ca, .slice (some ⟨b1, f1, none⟩) nb cb] 25)) w5) := by
                  show Below _ _ _
                  exact below_step HBX0.out HBw5.out
                have hq2 := Lib.hid (BR.first (M := (mB sc g l)) (ar := Br.len) (f := Br.id) (e := eb) hp (by rw [mB_last ha hb]; exact hc))
                clear hq hp
                go_wp2
                go_roundw
                case rel => exact ⟨j + 1, (j : Int), by omega, fun h => absurd h (by omega), by first | rfl | go_num, by go_num, hq2, HBN.out⟩
                case measure => simp [intOf]; omega
              · have hqn : q < nb := by omega
                have kq : decide ((q : Int) < 0) = false := decide_eq_false (by omega)
                have kq2 : (0 : Int) ≤ (q : Int) := by omega
                have kq3 : (q : Int) < (nb : Int) := by omega
                have d0 : wr.cell? ⟨b1, f1 + q * 5, none⟩ = some (.string (eb q).id) := (HBr.out.cell (p := ⟨_, _, none⟩) hbl1).trans (hcl1.out q hqn).1
                have d1 : wr.cell? ⟨b1, f1 + q * 5 + 1, none⟩ = some (.string (eb q).sect) := (HBr.out.cell (p := ⟨_, _, none⟩) hbl1).trans (hcl1.out q hqn).2.1
                have d2 : wr.cell? ⟨b1, f1 + q * 5 + 2, none⟩ = some (.string (eb q).grade) := (HBr.out.cell (p := ⟨_, _, none⟩) hbl1).trans (hcl1.out q hqn).2.2.1
                have d3 : wr.cell? ⟨b1, f1 + q * 5 + 3, none⟩ = some (.int .i64 (eb q).len) := (HBr.out.cell (p := ⟨_, _, none⟩) hbl1).trans (hcl1.out q hqn).2.2.2.1
                have d4 : wr.cell? ⟨b1, f1 + q * 5 + 4, none⟩ = some (.string (eb q).heat) := (HBr.out.cell (p := ⟨_, _, none⟩) hbl1).trans (hcl1.out q hqn).2.2.2.2
                by_cases hk : (eb j).len < (eb q).len
                · have kl : decide ((eb j).len < (eb q).len) = true := decide_eq_true hk
                  go_wp2_with fail
                  refine wp_region_relw 31 (by kernel_rfl) (by kernel_rfl) (by kernel_rfl) ?_
                  simp only [List.take_succ_cons, List.take_zero, fillL, Act.put, List.setIfInBounds_toArray, List.set_cons_zero, List.set_cons_succ]
                  iterate 31
                    apply rel_is
                    · intro u wx hb hd
                      have hz := hb.size
                      (try simp only [World.size_alloc, World.size_setCell] at hz)
                      have hz0 : w.heap.size < wx.heap.size := by omega
                      have hz1 : wr.heap.size < wx.heap.size := by omega
                      have hz2 : b1 < wx.heap.size := by omega
                      obtain ⟨hc, hf⟩ := bcell hb
                      have HBX := Lib.hid hb
                      clear hb hz
                      simp [depsS, Region.binds, updS, Stay.is, Stay.any] at hd
                      go_simp
                      first | exact ⟨Below.refl _ _, rfl⟩ | rfl
                  intro u w5 hb hE
                  have e0 : u 0 = _ := endS_get hE 0 (by decide)
                  have e1 : u 1 = _ := endS_get hE 1 (by decide)
                  have e2 : u 2 = _ := endS_get hE 2 (by decide)
                  have e3 : u 3 = _ := endS_get hE 3 (by decide)
                  have e4 : u 4 = _ := endS_get hE 4 (by decide)
                  have e5 : u 5 = _ := endS_get hE 5 (by decide)
                  have e6 : u 6 = _ := endS_get hE 6 (by decide)
                  have e7 : u 7 = _ := endS_get hE 7 (by decide)
                  have e8 : u 8 = _ := endS_get hE 8 (by decide)
                  have e9 : u 9 = _ := endS_get hE 9 (by decide)
                  have e10 : u 10 = _ := endS_get hE 10 (by decide)
                  have e11 : u 11 = _ := endS_get hE 11 (by decide)
                  have e12 : u 12 = _ := endS_get hE 12 (by decide)
                  have e13 : u 13 = _ := endS_get hE 13 (by decide)
                  have e14 : u 14 = _ := endS_get hE 14 (by decide)
                  have e15 : u 15 = _ := endS_get hE 15 (by decide)
                  have e16 : u 16 = _ := endS_get hE 16 (by decide)
                  have e17 : u 17 = _ := endS_get hE 17 (by decide)
                  have e18 : u 18 = _ := endS_get hE 18 (by decide)
                  have e19 : u 19 = _ := endS_get hE 19 (by decide)
                  have e20 : u 20 = _ := endS_get hE 20 (by decide)
                  have e21 : u 21 = _ := endS_get hE 21 (by decide)
                  have e22 : u 22 = _ := endS_get hE 22 (by decide)
                  have e23 : u 23 = _ := endS_get hE 23 (by decide)
                  have e24 : u 24 = _ := endS_get hE 24 (by decide)
                  have e25 : u 25 = _ := endS_get hE 25 (by decide)
                  have e26 : u 26 = _ := endS_get hE 26 (by decide)
                  have e27 : u 27 = _ := endS_get hE 27 (by decide)
                  have e28 : u 28 = _ := endS_get hE 28 (by decide)
                  have e29 : u 29 = _ := endS_get hE 29 (by decide)
                  have e30 : u 30 = _ := endS_get hE 30 (by decide)
                  simp only [List.drop_succ_cons, List.drop_zero, List.take_succ_cons, List.take_zero, fillL, Act.put, List.setIfInBounds_toArray, List.set_cons_zero, List.set_cons_succ, e0, e1, e2, e3, e4, e5, e6, e7, e8, e9, e10, e11, e12, e13, e14, e15, e16, e17, e18, e19, e20, e21, e22, e23, e24, e25, e26, e27, e28, e29, e30]
                  clear e0 e1 e2 e3 e4 e5 e6 e7 e8 e9 e10 e11 e12 e13 e14 e15 e16 e17 e18 e19 e20 e21 e22 e23 e24 e25 e26 e27 e28 e29 e30 hE
                  have HBw5 := Lib.hid (below_step (w := wr) (by first | assumption | go_grown) hb)
                  have HBXw5 := Lib.hid hb
                  have hzw5 := hb.size
                  (try simp only [World.size_alloc, World.size_setCell] at hzw5)
                  have hzw50 : w.heap.size < w5.heap.size := by omega
                  have hzw51 : wr.heap.size < w5.heap.size := by omega
                  have hzw52 : b1 < w5.heap.size := by omega
                  obtain ⟨hcw5, hfw5⟩ := bcell hb
                  clear hb hzw5
                  have HBN : Hid (Below (w.alloc (.cells #[.slice oa ns ca, .slice (some ⟨b1, f1, none⟩) nb cb] 25)).heap.size (w.alloc (.cells #[.slice oa ns ca, .slice (some ⟨b1, f1, none⟩) nb cb] 25)) w5) := by
                    show Below _ _ _
                    exact below_step HBX0.out HBw5.out
                  have hq2 := Lib.hid (BR.less (M := (mB sc g l)) (ar := Br.len) (f := Br.id) (e := eb) hp (by rw [mB_last ha hb]; exact hc) hk)
                  clear hq hp
                  go_wp2
                  go_roundw
                  case rel => exact ⟨j + 1, (j : Int), by omega, fun h => absurd h (by omega), by first | rfl | go_num, by go_num, hq2, HBN.out⟩
                  case measure => simp [intOf]; omega
                · have kl : decide ((eb j).len < (eb q).len) = false := decide_eq_false hk
                  go_wp2_with fail
                  refine wp_region_relw 31 (by kernel_rfl) (by kernel_rfl) (by kernel_rfl) ?_
                  simp only [List.take_succ_cons, List.take_zero, fillL, Act.put, List.setIfInBounds_toArray, List.set_cons_zero, List.set_cons_succ]
                  iterate 31
                    apply rel_is
                    · intro u wx hb hd
                      have hz := hb.size
                      (try simp only [World.size_alloc, World.size_setCell] at hz)
                      have hz0 : w.heap.size < wx.heap.size := by omega
                      have hz1 : wr.heap.size < wx.heap.size := by omega
                      have hz2 : b1 < wx.heap.size := by omega
                      obtain ⟨hc, hf⟩ := bcell hb
                      have HBX := Lib.hid hb
                      clear hb hz
                      simp [depsS, Region.binds, updS, Stay.is, Stay.any] at hd
                      go_simp
                      first | exact ⟨Below.refl _ _, rfl⟩ | rfl
                  intro u w5 hb hE
                  have e0 : u 0 = _ := endS_get hE 0 (by decide)
                  have e1 : u 1 = _ := endS_get hE 1 (by decide)
                  have e2 : u 2 = _ := endS_get hE 2 (by decide)
                  have e3 : u 3 = _ := endS_get hE 3 (by decide)
                  have e4 : u 4 = _ := endS_get hE 4 (by decide)
                  have e5 : u 5 = _ := endS_get hE 5 (by decide)
                  have e6 : u 6 = _ := endS_get hE 6 (by decide)
                  have e7 : u 7 = _ := endS_get hE 7 (by decide)
                  have e8 : u 8 = _ := endS_get hE 8 (by decide)
                  have e9 : u 9 = _ := endS_get hE 9 (by decide)
                  have e10 : u 10 = _ := endS_get hE 10 (by decide)
                  have e11 : u 11 = _ := endS_get hE 11 (by decide)
                  have e12 : u 12 = _ := endS_get hE 12 (by decide)
                  have e13 : u 13 = _ := endS_get hE 13 (by decide)
                  have e14 : u 14 = _ := endS_get hE 14 (by decide)
                  have e15 : u 15 = _ := endS_get hE 15 (by decide)
                  have e16 : u 16 = _ := endS_get hE 16 (by decide)
                  have e17 : u 17 = _ := endS_get hE 17 (by decide)
                  have e18 : u 18 = _ := endS_get hE 18 (by decide)
                  have e19 : u 19 = _ := endS_get hE 19 (by decide)
                  have e20 : u 20 = _ := endS_get hE 20 (by decide)
                  have e21 : u 21 = _ := endS_get hE 21 (by decide)
                  have e22 : u 22 = _ := endS_get hE 22 (by decide)
                  have e23 : u 23 = _ := endS_get hE 23 (by decide)
                  have e24 : u 24 = _ := endS_get hE 24 (by decide)
                  have e25 : u 25 = _ := endS_get hE 25 (by decide)
                  have e26 : u 26 = _ := endS_get hE 26 (by decide)
                  have e27 : u 27 = _ := endS_get hE 27 (by decide)
                  have e28 : u 28 = _ := endS_get hE 28 (by decide)
                  have e29 : u 29 = _ := endS_get hE 29 (by decide)
                  have e30 : u 30 = _ := endS_get hE 30 (by decide)
                  simp only [List.drop_succ_cons, List.drop_zero, List.take_succ_cons, List.take_zero, fillL, Act.put, List.setIfInBounds_toArray, List.set_cons_zero, List.set_cons_succ, e0, e1, e2, e3, e4, e5, e6, e7, e8, e9, e10, e11, e12, e13, e14, e15, e16, e17, e18, e19, e20, e21, e22, e23, e24, e25, e26, e27, e28, e29, e30]
                  clear e0 e1 e2 e3 e4 e5 e6 e7 e8 e9 e10 e11 e12 e13 e14 e15 e16 e17 e18 e19 e20 e21 e22 e23 e24 e25 e26 e27 e28 e29 e30 hE
                  have HBw5 := Lib.hid (below_step (w := wr) (by first | assumption | go_grown) hb)
                  have HBXw5 := Lib.hid hb
                  have hzw5 := hb.size
                  (try simp only [World.size_alloc, World.size_setCell] at hzw5)
                  have hzw50 : w.heap.size < w5.heap.size := by omega
                  have hzw51 : wr.heap.size < w5.heap.size := by omega
                  have hzw52 : b1 < w5.heap.size := by omega
                  obtain ⟨hcw5, hfw5⟩ := bcell hb
                  clear hb hzw5
                  have HBN : Hid (Below (w.alloc (.cells #[.slice oa ns ca, .slice (some ⟨b1, f1, none⟩) nb cb] 25)).heap.size (w.alloc (.cells #[.slice oa ns ca, .slice (some ⟨b1, f1, none⟩) nb cb] 25)) w5) := by
                    show Below _ _ _
                    exact below_step HBX0.out HBw5.out
                  have hq2 := Lib.hid (BR.more (M := (mB sc g l)) (ar := Br.len) (f := Br.id) (e := eb) hqj hp (by rw [mB_last ha hb]; exact hc) (by first | exact hk | exact Int.not_lt.2 hk))
                  clear hq hp
                  go_wp2
                  go_roundw
                  case rel => exact ⟨j + 1, (q : Int), by omega, fun h => absurd h (by omega), by first | rfl | go_num, by go_num, hq2, HBN.out⟩
                  case measure => simp [intOf]; omega
            · have hc : decide (l ≤ (eb j).len) = false := decide_eq_false hc0
              go_wp2_with fail
              refine wp_region_relw 31 (by kernel_rfl) (by kernel_rfl) (by kernel_rfl) ?_
              simp only [List.take_succ_cons, List.take_zero, fillL, Act.put, List.setIfInBounds_toArray, List.set_cons_zero, List.set_cons_succ]
              iterate 31
                apply rel_is
                · intro u wx hb hd
                  have hz := hb.size
                  (try simp only [World.size_alloc, World.size_setCell] at hz)
                  have hz0 : w.heap.size < wx.heap.size := by omega
                  have hz1 : wr.heap.size < wx.heap.size := by omega
                  have hz2 : b1 < wx.heap.size := by omega
                  obtain ⟨hc, hf⟩ := bcell hb
                  have HBX := Lib.hid hb
                  clear hb hz
                  simp [depsS, Region.binds, updS, Stay.is, Stay.any] at hd
                  go_simp
                  first | exact ⟨Below.refl _ _, rfl⟩ | rfl
              intro u w5 hb hE
              have e0 : u 0 = _ := endS_get hE 0 (by decide)
              have e1 : u 1 = _ := endS_get hE 1 (by decide)
              have e2 : u 2 = _ := endS_get hE 2 (by decide)
              have e3 : u 3 = _ := endS_get hE 3 (by decide)
              have e4 : u 4 = _ := endS_get hE 4 (by decide)
              have e5 : u 5 = _ := endS_get hE 5 (by decide)
              have e6 : u 6 = _ := endS_get hE 6 (by decide)
              have e7 : u 7 = _ := endS_get hE 7 (by decide)
              have e8 : u 8 = _ := endS_get hE 8 (by decide)
              have e9 : u 9 = _ := endS_get hE 9 (by decide)
              have e10 : u 10 = _ := endS_get hE 10 (by decide)
              have e11 : u 11 = _ := endS_get hE 11 (by decide)
              have e12 : u 12 = _ := endS_get hE 12 (by decide)
              have e13 : u 13 = _ := endS_get hE 13 (by decide)
              have e14 : u 14 = _ := endS_get hE 14 (by decide)
              have e15 : u 15 = _ := endS_get hE 15 (by decide)
              have e16 : u 16 = _ := endS_get hE 16 (by decide)
              have e17 : u 17 = _ := endS_get hE 17 (by decide)
              have e18 : u 18 = _ := endS_get hE 18 (by decide)
              have e19 : u 19 = _ := endS_get hE 19 (by decide)
              have e20 : u 20 = _ := endS_get hE 20 (by decide)
              have e21 : u 21 = _ := endS_get hE 21 (by decide)
              have e22 : u 22 = _ := endS_get hE 22 (by decide)
              have e23 : u 23 = _ := endS_get hE 23 (by decide)
              have e24 : u 24 = _ := endS_get hE 24 (by decide)
              have e25 : u 25 = _ := endS_get hE 25 (by decide)
              have e26 : u 26 = _ := endS_get hE 26 (by decide)
              have e27 : u 27 = _ := endS_get hE 27 (by decide)
              have e28 : u 28 = _ := endS_get hE 28 (by decide)
              have e29 : u 29 = _ := endS_get hE 29 (by decide)
              have e30 : u 30 = _ := endS_get hE 30 (by decide)
              simp only [List.drop_succ_cons, List.drop_zero, List.take_succ_cons, List.take_zero, fillL, Act.put, List.setIfInBounds_toArray, List.set_cons_zero, List.set_cons_succ, e0, e1, e2, e3, e4, e5, e6, e7, e8, e9, e10, e11, e12, e13, e14, e15, e16, e17, e18, e19, e20, e21, e22, e23, e24, e25, e26, e27, e28, e29, e30]
              clear e0 e1 e2 e3 e4 e5 e6 e7 e8 e9 e10 e11 e12 e13 e14 e15 e16 e17 e18 e19 e20 e21 e22 e23 e24 e25 e26 e27 e28 e29 e30 hE
              have HBw5 := Lib.hid (below_step (w := wr) (by first | assumption | go_grown) hb)
              have HBXw5 := Lib.hid hb
              have hzw5 := hb.size
              (try simp only [World.size_alloc, World.size_setCell] at hzw5)
              have hzw50 : w.heap.size < w5.heap.size := by omega
              have hzw51 : wr.heap.size < w5.heap.size := by omega
              have hzw52 : b1 < w5.heap.size := by omega
              obtain ⟨hcw5, hfw5⟩ := bcell hb
              clear hb hzw5
              have HBN : Hid (Below (w.alloc (.cells #[.slice oa ns ca, .slice (some ⟨b1, f1, none⟩) nb cb] 25)).heap.size (w.alloc (.cells #[.slice oa ns ca, .slice (some ⟨b1, f1, none⟩) nb cb] 25)) w5) := by
                show Below _ _ _
                exact below_step HBX0.out HBw5.out
              have hq2 := Lib.hid (BR.skip (M := (mB sc g l)) (ar := Br.len) (f := Br.id) (e := eb) hq.out (by rw [mB_last ha hb]; exact hc))
              clear hq
              go_wp2
              go_roundw
              case rel => exact ⟨j + 1, B, by omega, fun h => absurd h (by omega), by first | rfl | go_num, by go_num, hq2, HBN.out⟩
              case measure => simp [intOf]; omega
      · have kl1 : decide (1 ≤ l) = false := decide_eq_false hl
        have hE : pickFB sc g l eb nb = ((pickG (mB sc g l) Br.len Br.id eb j).1, (pickG (mB sc g l) Br.len Br.id eb j).2.1) := pickB_out hbad (.inr (by omega))
        rw [HR.out] at hE
        clear hbad
        rcases hq.out with ⟨rfl, hp⟩ | ⟨q, hqj, rfl, hp⟩
        · rw [hp] at hE
          have E : Hid (ID0 = ⟨#[]⟩ ∧ OK0 = false) := by show _ ∧ _; simpa using hE
          clear hE hp hq
          go_wp2
          go_returns
          rw [E.out.1, E.out.2]
          exact ⟨rfl, HBr.out⟩
        · rw [hp] at hE
          have E : Hid (ID0 = (eb q).id ∧ OK0 = true) := by show _ ∧ _; simpa using hE
          clear hE hp hq
          have hqn : q < nb := by omega
          obtain ⟨b1, f1, rfl, hbl1, hcl0⟩ := HELB.out q hqn
          have hcl1 := Lib.hid hcl0
          have hbr : b1 < wr.heap.size := by omega
          have c0 : wr.cell? ⟨b1, f1 + q * 5, none⟩ = some (.string (eb q).id) := (HBr.out.cell (p := ⟨_, _, none⟩) hbl1).trans (hcl1.out q hqn).1
          have c1 : wr.cell? ⟨b1, f1 + q * 5 + 1, none⟩ = some (.string (eb q).sect) := (HBr.out.cell (p := ⟨_, _, none⟩) hbl1).trans (hcl1.out q hqn).2.1
          have c2 : wr.cell? ⟨b1, f1 + q * 5 + 2, none⟩ = some (.string (eb q).grade) := (HBr.out.cell (p := ⟨_, _, none⟩) hbl1).trans (hcl1.out q hqn).2.2.1
          have c3 : wr.cell? ⟨b1, f1 + q * 5 + 3, none⟩ = some (.int .i64 (eb q).len) := (HBr.out.cell (p := ⟨_, _, none⟩) hbl1).trans (hcl1.out q hqn).2.2.2.1
          have c4 : wr.cell? ⟨b1, f1 + q * 5 + 4, none⟩ = some (.string (eb q).heat) := (HBr.out.cell (p := ⟨_, _, none⟩) hbl1).trans (hcl1.out q hqn).2.2.2.2
          have kq : decide ((q : Int) < 0) = false := decide_eq_false (by omega)
          have kq2 : (0 : Int) ≤ (q : Int) := by omega
          have kq3 : (q : Int) < (nb : Int) := by omega
          clear hcl0
          go_wp2
          go_returns
          rw [E.out.1, E.out.2]
          exact ⟨rfl, HBr.out⟩
    · have hE : pickFB sc g l eb nb = ((pickG (mB sc g l) Br.len Br.id eb j).1, (pickG (mB sc g l) Br.len Br.id eb j).2.1) := pickB_out hbad (.inl (by omega))
      rw [HR.out] at hE
      clear hbad
      rcases hq.out with ⟨rfl, hp⟩ | ⟨q, hqj, rfl, hp⟩
      · rw [hp] at hE
        have E : Hid (ID0 = ⟨#[]⟩ ∧ OK0 = false) := by show _ ∧ _; simpa using hE
        clear hE hp hq
        go_wp2
        go_returns
        rw [E.out.1, E.out.2]
        exact ⟨rfl, HBr.out⟩
      · rw [hp] at hE
        have E : Hid (ID0 = (eb q).id ∧ OK0 = true) := by show _ ∧ _; simpa using hE
        clear hE hp hq
        have hqn : q < nb := by omega
        obtain ⟨b1, f1, rfl, hbl1, hcl0⟩ := HELB.out q hqn
        have hcl1 := Lib.hid hcl0
        have hbr : b1 < wr.heap.size := by omega
        have c0 : wr.cell? ⟨b1, f1 + q * 5, none⟩ = some (.string (eb q).id) := (HBr.out.cell (p := ⟨_, _, none⟩) hbl1).trans (hcl1.out q hqn).1
        have c1 : wr.cell? ⟨b1, f1 + q * 5 + 1, none⟩ = some (.string (eb q).sect) := (HBr.out.cell (p := ⟨_, _, none⟩) hbl1).trans (hcl1.out q hqn).2.1
        have c2 : wr.cell? ⟨b1, f1 + q * 5 + 2, none⟩ = some (.string (eb q).grade) := (HBr.out.cell (p := ⟨_, _, none⟩) hbl1).trans (hcl1.out q hqn).2.2.1
        have c3 : wr.cell? ⟨b1, f1 + q * 5 + 3, none⟩ = some (.int .i64 (eb q).len) := (HBr.out.cell (p := ⟨_, _, none⟩) hbl1).trans (hcl1.out q hqn).2.2.2.1
        have c4 : wr.cell? ⟨b1, f1 + q * 5 + 4, none⟩ = some (.string (eb q).heat) := (HBr.out.cell (p := ⟨_, _, none⟩) hbl1).trans (hcl1.out q hqn).2.2.2.2
        have kq : decide ((q : Int) < 0) = false := decide_eq_false (by omega)
        have kq2 : (0 : Int) ≤ (q : Int) := by omega
        have kq3 : (q : Int) < (nb : Int) := by omega
        clear hcl0
        go_wp2
        go_returns
        rw [E.out.1, E.out.2]
        exact ⟨rfl, HBr.out⟩
end Go.Proofs.YtiddpaaihloopaaGreatDoor
