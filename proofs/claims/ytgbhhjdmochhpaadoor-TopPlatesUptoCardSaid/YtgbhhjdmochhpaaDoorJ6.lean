/-
  Lemmas of this claim, joined (PlR, Strs, AscPlain, CopyK, Split, Ident, IdA, StockP, MatA, Clone, MatB, AppN, MatC, IdentRef). Conditions: as stated. By an AI agent.
-/
import Derived.Test.YtgbhhjdmochhpaaDoorJ5
import Derived.Test.YtgbhhjdmochhpaaDoorJ3
import Derived.Test.YtgbhhjdmochhpaaDoorJ1
import Derived.Laws.CopyRow
import Derived.Laws.CopyOwn
import Derived.Laws.IdiomCopy
import Derived.Laws.AppendOwn
import Derived.Shelf.Strings.Split
import Derived.Shelf.Strings.Shaped
import Derived.Lib.SliceRun
namespace Go.Proofs.YtgbhhjdmochhpaaDoor
open Go Go.ChangeShapes Go.WideShapes Go.RowKit Go.ChangeAt
set_option linter.unusedVariables false
set_option linter.unusedSimpArgs false

/-- contours in memory -/
def HolesAt (w : World) (v : Value) (m : Nat) (oh : Nat → Option Addr) (ch : Nat → Nat) (hn : Nat → Nat) (H : Nat → Nat → Pt) : Prop :=
  SliceAt w v m 1 (fun i _ => .slice (oh i) (hn i) (ch i)) ∧ ∀ i, i < m → PtsAt w (.slice (oh i) (hn i) (ch i)) (hn i) (H i)
theorem HolesAt.below {w w' : World} {v : Value} {m : Nat} {oh : Nat → Option Addr} {ch hn : Nat → Nat} {H : Nat → Nat → Pt} (h : HolesAt w v m oh ch hn H) (hb : Below w.heap.size w w') : HolesAt w' v m oh ch hn H := ⟨SliceAt.below h.1 hb, fun i hi => (h.2 i hi).below hb⟩
theorem HolesAt.form {w : World} {v : Value} {m : Nat} {oh : Nat → Option Addr} {ch hn : Nat → Nat} {H : Nat → Nat → Pt} (h : HolesAt w v m oh ch hn H) : ∃ (oa : Option Addr) (cap : Nat), v = .slice oa m cap ∧ m ≤ cap ∧ cap ≤ 9223372036854775807 ∧
    ∀ i, i < m → ∃ b off, oa = some ⟨b, off, none⟩ ∧ b < w.heap.size ∧ ∀ k, k < m → w.cell? ⟨b, off + k, none⟩ = some (.slice (oh k) (hn k) (ch k)) := by
  obtain ⟨⟨oa, cap, h1, h2, h3, h4⟩, -⟩ := h
  refine ⟨oa, cap, h1, h2, h3, fun i hi => ?_⟩
  obtain ⟨b, off, e, hlt, hc⟩ := h4 (by omega)
  exact ⟨b, off, e, hlt, fun k hk => by have := hc k 0 hk (by decide); simpa using this⟩
theorem PtsAt.at0 {w : World} {o : Option Addr} {n c : Nat} {P : Nat → Pt} (h : PtsAt w (.slice o n c) n P) (h0 : 0 < n) : ∃ b f, o = some ⟨b, f, none⟩ ∧ b < w.heap.size ∧ w.cell? ⟨b, f, none⟩ = some (.int .i64 (P 0).1) ∧ w.cell? ⟨b, f + 1, none⟩ = some (.int .i64 (P 0).2) := by
  obtain ⟨oa, cap, e, -, -, hel⟩ := h.form
  obtain ⟨b, f, e2, hlt, hc⟩ := hel 0 h0
  obtain ⟨h1, h2⟩ := hc 0 h0
  rw [Nat.zero_mul, Nat.add_zero] at h1 h2
  simp only [Value.slice.injEq] at e
  exact ⟨b, f, by rw [e.1, e2], hlt, h1, h2⟩
theorem PtsAt.lim {w : World} {o : Option Addr} {n c : Nat} {P : Nat → Pt} (h : PtsAt w (.slice o n c) n P) : n ≤ 9223372036854775807 := by
  obtain ⟨oa, cap, e, h1, h2, -⟩ := h.form
  omega
/-- what the reference finds of a hole, and of two -/
def GoodH (no : Nat) (P : Nat → Pt) (hn : Nat → Nat) (H : Nat → Nat → Pt) (i : Nat) : Prop := RefPol (hn i) (H i) ∧ area2 (hn i) (H i) < 0 ∧ (∀ a b, b < no → a < hn i → ¬ meets (P b) (P (nx no b)) (H i a) (H i (nx (hn i) a))) ∧ par no P (H i 0) = true
def GoodP (hn : Nat → Nat) (H : Nat → Nat → Pt) (i j : Nat) : Prop := (∀ a b, a < hn i → b < hn j → ¬ meets (H i a) (H i (nx (hn i) a)) (H j b) (H j (nx (hn j) b))) ∧ par (hn i) (H i) (H j 0) = false ∧ par (hn j) (H j) (H i 0) = false
theorem refReg_of {no m : Nat} {P : Nat → Pt} {hn : Nat → Nat} {H : Nat → Nat → Pt} (h8 : m ≤ 8) (hp : RefPol no P) (ha : 0 < area2 no P) (h1 : ∀ i, i < m → GoodH no P hn H i) (h2 : ∀ i, i < m → ∀ k, k < i → GoodP hn H i k) : RefReg no P m hn H :=
  ⟨h8, hp, ha, fun i hi => (h1 i hi).1, fun i hi => (h1 i hi).2.1, fun i hi a b hb ha => (h1 i hi).2.2.1 a b hb ha, fun i hi => (h1 i hi).2.2.2, fun i j hi hj => (h2 i hi j hj).1, fun i j hi hj => (h2 i hi j hj).2.1, fun i j hi hj => (h2 i hi j hj).2.2⟩

set_option maxHeartbeats 4000000 in
set_option maxRecDepth 20000 in
theorem check13_any (v u : Value) (no m : Nat) (P : Nat → Pt) (oh : Nat → Option Addr) (ch hn : Nat → Nat) (H : Nat → Nat → Pt) (w : World) (h : PtsAt w v no P) (hh : HolesAt w u m oh ch hn H) :
    Calls Tryd.prog 11 #[.agg #[v, u]] w fun e w' => ∃ c : Int, e = .returned (.int .i64 c) ∧ Hid (c = 0 → RefReg no P m hn H) ∧ Below w.heap.size w w' := by
  obtain ⟨oo, co, rfl, hno, hco, -⟩ := h.form
  obtain ⟨oq, cq, rfl, hm, hcq, hel⟩ := hh.form
  have HEL := Lib.hid hel
  have H0 := Lib.hid h
  have HHO := Lib.hid hh.2
  clear h hel hh
  by_cases h8 : 8 < m
  · have k8 : decide ((8 : Int) < (m : Int)) = true := decide_eq_true (by omega)
    go_enter Tryd.func11, Tryd.ntmps11
    go_wp2_with fail
    obtain ⟨w0, hw0⟩ : ∃ X, (w.alloc (.cells #[.slice oo no co, .slice oq m cq] 25)) = X := ⟨_, rfl⟩
    have HS0 : Hid (w0.heap[w.heap.size]? = some (.cells #[.slice oo no co, .slice oq m cq] 25)) := by
      show _ = _
      rw [← hw0]
      exact heapA_at _ _ _ rfl
    have HB0 : Hid (Below w.heap.size w w0) := by
      show Below _ _ _
      rw [← hw0]
      exact (Below.refl w.heap.size w).alloc (Nat.le_refl _) _
    have zw0 : w.heap.size < w0.heap.size := by rw [← hw0]; simp
    rw [hw0]
    clear hw0
    obtain ⟨s0w0, s1w0, sfw0, szw0⟩ := cells_at2 HS0.out
    go_wp2
    go_returns
    exact ⟨12, rfl, fun h => absurd h (by decide), HB0.out⟩
  have k8 : decide ((8 : Int) < (m : Int)) = false := decide_eq_false (by omega)
  obtain ⟨E, hE⟩ : ∃ e, chk12 no P = e := ⟨_, rfl⟩
  have HE : Hid (∀ W, PtsAt W (.slice oo no co) no P → Calls Tryd.prog 31 #[.slice oo no co] W (fun e w' => e = .returned (.int .i64 E) ∧ Below W.heap.size W w')) := fun W a => by rw [← hE]; exact check12_any _ _ _ W a
  go_enter Tryd.func11, Tryd.ntmps11
  go_wp2_with fail
  obtain ⟨w0, hw0⟩ : ∃ X, (w.alloc (.cells #[.slice oo no co, .slice oq m cq] 25)) = X := ⟨_, rfl⟩
  have HS0 : Hid (w0.heap[w.heap.size]? = some (.cells #[.slice oo no co, .slice oq m cq] 25)) := by
    show _ = _
    rw [← hw0]
    exact heapA_at _ _ _ rfl
  have HB0 : Hid (Below w.heap.size w w0) := by
    show Below _ _ _
    rw [← hw0]
    exact (Below.refl w.heap.size w).alloc (Nat.le_refl _) _
  have zw0 : w.heap.size < w0.heap.size := by rw [← hw0]; simp
  rw [hw0]
  clear hw0
  obtain ⟨s0w0, s1w0, sfw0, szw0⟩ := cells_at2 HS0.out
  (go_at_call 31; refine (HE.out _ (H0.out.below HB0.out)).mono ?_; rintro e_ w3 ⟨rfl, hb3⟩)
  have HB3 := Lib.hid (below_step HB0.out hb3)
  have HS3 : Hid (w3.heap[w.heap.size]? = some (.cells #[.slice oo no co, .slice oq m cq] 25)) := (hb3.block w.heap.size zw0).trans HS0.out
  have zw3 : w.heap.size < w3.heap.size := by have := hb3.size; omega
  clear hb3 s0w0 s1w0 sfw0 szw0
  obtain ⟨s0w3, s1w3, sfw3, szw3⟩ := cells_at2 HS3.out
  by_cases hE0 : E = 0
  rotate_left
  · have kE1 : (E == 0) = false := by simpa using hE0
    have kE2 : (E != 0) = true := by simpa using hE0
    go_wp2
    go_returns
    exact ⟨E, rfl, fun h => absurd h hE0, HB3.out⟩
  subst hE0
  have HPO := Lib.hid (chk12_iff.1 hE)
  clear hE
  have n3o := HPO.out.n3
  obtain ⟨AO, hAO⟩ : ∃ e, area2 no P = e := ⟨_, rfl⟩
  have HAC : Hid (∀ W, PtsAt W (.slice oo no co) no P → Calls Tryd.prog 32 #[.slice oo no co] W (fun e w' => e = .returned (.int .i64 AO) ∧ Below W.heap.size W w')) := fun W a => by rw [← hAO]; exact area12_ok _ _ _ W a HPO
  have HAO := Lib.hid hAO
  clear hAO
  go_wp2_with fail
  (go_at_call 32; refine (HAC.out _ (H0.out.below HB3.out)).mono ?_; rintro e_ w4 ⟨rfl, hb4⟩)
  have HB4 := Lib.hid (below_step HB3.out hb4)
  have HS4 : Hid (w4.heap[w.heap.size]? = some (.cells #[.slice oo no co, .slice oq m cq] 25)) := (hb4.block w.heap.size zw3).trans HS3.out
  have zw4 : w.heap.size < w4.heap.size := by have := hb4.size; omega
  clear hb4 s0w3 s1w3 sfw3 szw3
  obtain ⟨s0w4, s1w4, sfw4, szw4⟩ := cells_at2 HS4.out
  by_cases hA : AO ≤ 0
  · have kA : decide (AO ≤ 0) = true := decide_eq_true hA
    go_wp2
    go_returns
    exact ⟨17, rfl, fun h => absurd h (by decide), HB4.out⟩
  have kA : decide (AO ≤ 0) = false := decide_eq_false hA
  have HAP : Hid (0 < area2 no P) := by show _ < _; rw [HAO.out]; omega
  clear hA
  go_wp2
  go_loopw [4] (fun i wr => ∃ j : Nat, j ≤ m ∧ i = .int .i64 j ∧ Hid (∀ i, i < j → GoodH no P hn H i) ∧ Hid (∀ i, i < j → ∀ k, k < i → GoodP hn H i k) ∧ w.heap.size < wr.heap.size ∧ Hid (wr.heap[w.heap.size]? = some (.cells #[.slice oo no co, .slice oq m cq] 25)) ∧ Below w.heap.size w wr) (fun i _ => m - (intOf i).toNat)
  case atStart => exact ⟨0, by omega, rfl, fun k hk => absurd hk (by omega), fun k hk => absurd hk (by omega), zw4, HS4, HB4.out⟩
  case round =>
    clear s0w4 s1w4 sfw4 szw4
    obtain ⟨w1, rfl⟩ : ∃ x : World, x = wr := ⟨_, rfl⟩
    obtain ⟨j, hj, rfl, hg1, hg2, zw1, HS1, hB1⟩ := hrel
    have HB1 := Lib.hid hB1
    clear hB1
    obtain ⟨s0w1, s1w1, sfw1, szw1⟩ := cells_at2 HS1.out
    by_cases hlt : j < m
    · obtain ⟨bk1, fo, rfl, hbl, hcl⟩ := HEL.out j hlt
      obtain ⟨o1, ho1⟩ : ∃ e, oh j = e := ⟨_, rfl⟩
      have Hp1 := Lib.hid (HHO.out j hlt)
      have y0 : w1.cell? ⟨bk1, fo + j, none⟩ = some (.slice (oh j) (hn j) (ch j)) := (HB1.out.cell (p := ⟨_, _, none⟩) hbl).trans (hcl j hlt)
      rw [ho1] at Hp1 y0
      have HCL := Lib.hid hcl
      clear ho1 hcl
      have HLM := Hp1.out.lim
      have k0 : (0 : Int) ≤ (j : Int) := by omega
      have k1 : (j : Int) < (m : Int) := by omega
      have z0 : bk1 < w1.heap.size := by have := HB1.out.size; omega
      obtain ⟨E1, hE1⟩ : ∃ e, chk12 (hn j) (H j) = e := ⟨_, rfl⟩
      have HE1 : Hid (∀ W, PtsAt W (.slice o1 (hn j) (ch j)) (hn j) (H j) → Calls Tryd.prog 31 #[.slice o1 (hn j) (ch j)] W (fun e w' => e = .returned (.int .i64 E1) ∧ Below W.heap.size W w')) := fun W a => by rw [← hE1]; exact check12_any _ _ _ W a
      go_wp2_with fail
      (go_at_call 31; refine (HE1.out _ (Hp1.out.below HB1.out)).mono ?_; rintro e_ w3 ⟨rfl, hb3⟩)
      have HB3 := Lib.hid (below_step HB1.out hb3)
      have HS3 : Hid (w3.heap[w.heap.size]? = some (.cells #[.slice oo no co, .slice (some ⟨bk1, fo, none⟩) m cq] 25)) := (hb3.block w.heap.size zw1).trans HS1.out
      have zw3 : w.heap.size < w3.heap.size := by have := hb3.size; omega
      clear hb3 s0w1 s1w1 sfw1 szw1
      obtain ⟨s0w3, s1w3, sfw3, szw3⟩ := cells_at2 HS3.out
      clear y0
      by_cases hE0 : E1 = 0
      · subst hE0
        have HR1 := Lib.hid (chk12_iff.1 hE1)
        clear hE1
        have n3j := HR1.out.n3
        have n32j := HR1.out.n32
        obtain ⟨bh, fh, rfl, hblh, g0', g1'⟩ := Hp1.out.at0 (by omega)
        have g0 : w3.cell? ⟨bh, fh, none⟩ = some (.int .i64 (H j 0).1) := (HB3.out.cell (p := ⟨_, _, none⟩) hblh).trans g0'
        have g1 : w3.cell? ⟨bh, fh + 1, none⟩ = some (.int .i64 (H j 0).2) := (HB3.out.cell (p := ⟨_, _, none⟩) hblh).trans g1'
        have G0 := Lib.hid g0'
        have G1 := Lib.hid g1'
        clear g0' g1'
        have z2 : bh < w3.heap.size := by have := HB3.out.size; omega
        have i0 : (0 : Int) < (hn j : Int) := by omega
        have i0n : 0 < hn j := by omega
        obtain ⟨A1, hA1⟩ : ∃ e, area2 (hn j) (H j) = e := ⟨_, rfl⟩
        have HA1 : Hid (∀ W, PtsAt W (.slice (some ⟨bh, fh, none⟩) (hn j) (ch j)) (hn j) (H j) → Calls Tryd.prog 32 #[.slice (some ⟨bh, fh, none⟩) (hn j) (ch j)] W (fun e w' => e = .returned (.int .i64 A1) ∧ Below W.heap.size W w')) := fun W a => by rw [← hA1]; exact area12_ok _ _ _ W a HR1
        have HA0' := Lib.hid hA1
        clear hA1
        by_cases hA : 0 ≤ A1
        · have kA : decide (0 ≤ A1) = true := decide_eq_true hA
          clear hA
          go_wp2_with fail
          refine wp_region_relw 18 (by kernel_rfl) (by kernel_rfl) (by kernel_rfl) ?_
          simp only [List.take_succ_cons, List.take_zero, fillL, Act.put, List.setIfInBounds_toArray, List.set_cons_zero, List.set_cons_succ]
          apply rel_is
          · intro u wx hb hd
            have hz := hb.size
            (try simp only [World.size_alloc, World.size_setCell] at hz)
            have hz0 : w.heap.size < wx.heap.size := by omega
            have hz1 : bh < wx.heap.size := by omega
            obtain ⟨hc, hf⟩ := bcell hb
            have HBX := Lib.hid hb
            clear hb hz
            simp [depsS, Region.binds, updS, Stay.is, Stay.any] at hd
            go_simp
            first | exact ⟨Below.refl _ _, rfl⟩ | rfl
          apply rel_is
          · intro u wx hb hd
            have hz := hb.size
            (try simp only [World.size_alloc, World.size_setCell] at hz)
            have hz0 : w.heap.size < wx.heap.size := by omega
            have hz1 : bh < wx.heap.size := by omega
            obtain ⟨hc, hf⟩ := bcell hb
            have HBX := Lib.hid hb
            clear hb hz
            simp [depsS, Region.binds, updS, Stay.is, Stay.any] at hd
            go_simp
            first | rfl | (go_at_call 32; refine (HA1.out _ (Hp1.out.below (below_step HB3.out HBX.out))).mono ?_; rintro e w1 ⟨rfl, hb1⟩; first | exact ⟨rfl, hb1⟩ | exact ⟨_, rfl, hb1, rfl⟩)
          iterate 16
            apply rel_is
            · intro u wx hb hd
              have hz := hb.size
              (try simp only [World.size_alloc, World.size_setCell] at hz)
              have hz0 : w.heap.size < wx.heap.size := by omega
              have hz1 : bh < wx.heap.size := by omega
              obtain ⟨hc, hf⟩ := bcell hb
              have HBX := Lib.hid hb
              clear hb hz
              simp [depsS, Region.binds, updS, Stay.is, Stay.any] at hd
              go_simp
              first | exact ⟨Below.refl _ _, rfl⟩ | rfl
          intro u w5 hb hE
          have e0 : u 0 = _ := endS_get hE 0 (by decide)
          have e1 : u 1 = _ := endS_get hE 1 (by decide)
          have e2 : u 2 = _ := endS_get hE 2 (by decide)
          have e3 : u 3 = _ := endS_get hE 3 (by decide)
          have e4 : u 4 = _ := endS_get hE 4 (by decide)
          have e5 : u 5 = _ := endS_get hE 5 (by decide)
          have e6 : u 6 = _ := endS_get hE 6 (by decide)
          have e7 : u 7 = _ := endS_get hE 7 (by decide)
          have e8 : u 8 = _ := endS_get hE 8 (by decide)
          have e9 : u 9 = _ := endS_get hE 9 (by decide)
          have e10 : u 10 = _ := endS_get hE 10 (by decide)
          have e11 : u 11 = _ := endS_get hE 11 (by decide)
          have e12 : u 12 = _ := endS_get hE 12 (by decide)
          have e13 : u 13 = _ := endS_get hE 13 (by decide)
          have e14 : u 14 = _ := endS_get hE 14 (by decide)
          have e15 : u 15 = _ := endS_get hE 15 (by decide)
          have e16 : u 16 = _ := endS_get hE 16 (by decide)
          have e17 : u 17 = _ := endS_get hE 17 (by decide)
          simp only [List.drop_succ_cons, List.drop_zero, List.take_succ_cons, List.take_zero, fillL, Act.put, List.setIfInBounds_toArray, List.set_cons_zero, List.set_cons_succ, e0, e1, e2, e3, e4, e5, e6, e7, e8, e9, e10, e11, e12, e13, e14, e15, e16, e17]
          clear e0 e1 e2 e3 e4 e5 e6 e7 e8 e9 e10 e11 e12 e13 e14 e15 e16 e17 hE
          have HBw5 := Lib.hid (below_step (w := w3) (by first | assumption | go_grown) hb)
          have HBXw5 := Lib.hid hb
          have hzw5 := hb.size
          (try simp only [World.size_alloc, World.size_setCell] at hzw5)
          have hzw50 : w.heap.size < w5.heap.size := by omega
          have hzw51 : bh < w5.heap.size := by omega
          obtain ⟨hcw5, hfw5⟩ := bcell hb
          clear hb hzw5
          have HB5 := Lib.hid (below_step HB3.out HBXw5.out)
          have HS5 : Hid (w5.heap[w.heap.size]? = some (.cells #[.slice oo no co, .slice (some ⟨bk1, fo, none⟩) m cq] 25)) := (HBXw5.out.block w.heap.size zw3).trans HS3.out
          have zw5 : w.heap.size < w5.heap.size := hzw50
          clear s0w3 s1w3 sfw3 szw3 g0 g1
          (try clear hcw5 hfw5)
          obtain ⟨s0w5, s1w5, sfw5, szw5⟩ := cells_at2 HS5.out
          go_wp2
          go_returns
          exact ⟨17, rfl, fun h => absurd h (by decide), HB5.out⟩
        · have kA : decide (0 ≤ A1) = false := decide_eq_false hA
          have HA0 : Hid (area2 (hn j) (H j) < 0) := by show _ < _; rw [HA0'.out]; omega
          clear hA
          obtain ⟨CB, hCB⟩ : ∃ e, crossB no P (hn j) (H j) = e := ⟨_, rfl⟩
          have HCR : Hid (∀ W, PtsAt W (.slice oo no co) no P → PtsAt W (.slice (some ⟨bh, fh, none⟩) (hn j) (ch j)) (hn j) (H j) → Calls Tryd.prog 33 #[.slice oo no co, .slice (some ⟨bh, fh, none⟩) (hn j) (ch j)] W (fun e w' => e = .returned (.bool CB) ∧ Below W.heap.size W w')) := fun W a b => by rw [← hCB]; exact cross13_any _ _ _ _ _ _ W a b HPO.out.near HR1.out.near
          cases CB with
          | true =>
            clear hCB
            go_wp2_with fail
            refine wp_region_relw 18 (by kernel_rfl) (by kernel_rfl) (by kernel_rfl) ?_
            simp only [List.take_succ_cons, List.take_zero, fillL, Act.put, List.setIfInBounds_toArray, List.set_cons_zero, List.set_cons_succ]
            apply rel_is
            · intro u wx hb hd
              have hz := hb.size
              (try simp only [World.size_alloc, World.size_setCell] at hz)
              have hz0 : w.heap.size < wx.heap.size := by omega
              have hz1 : bh < wx.heap.size := by omega
              obtain ⟨hc, hf⟩ := bcell hb
              have HBX := Lib.hid hb
              clear hb hz
              simp [depsS, Region.binds, updS, Stay.is, Stay.any] at hd
              go_simp
              first | exact ⟨Below.refl _ _, rfl⟩ | rfl
            apply rel_is
            · intro u wx hb hd
              have hz := hb.size
              (try simp only [World.size_alloc, World.size_setCell] at hz)
              have hz0 : w.heap.size < wx.heap.size := by omega
              have hz1 : bh < wx.heap.size := by omega
              obtain ⟨hc, hf⟩ := bcell hb
              have HBX := Lib.hid hb
              clear hb hz
              simp [depsS, Region.binds, updS, Stay.is, Stay.any] at hd
              go_simp
              first | rfl | (go_at_call 32; refine (HA1.out _ (Hp1.out.below (below_step HB3.out HBX.out))).mono ?_; rintro e w1 ⟨rfl, hb1⟩; first | exact ⟨rfl, hb1⟩ | exact ⟨_, rfl, hb1, rfl⟩)
            iterate 5
              apply rel_is
              · intro u wx hb hd
                have hz := hb.size
                (try simp only [World.size_alloc, World.size_setCell] at hz)
                have hz0 : w.heap.size < wx.heap.size := by omega
                have hz1 : bh < wx.heap.size := by omega
                obtain ⟨hc, hf⟩ := bcell hb
                have HBX := Lib.hid hb
                clear hb hz
                simp [depsS, Region.binds, updS, Stay.is, Stay.any] at hd
                go_simp
                first | exact ⟨Below.refl _ _, rfl⟩ | rfl
            apply rel_is
            · intro u wx hb hd
              have hz := hb.size
              (try simp only [World.size_alloc, World.size_setCell] at hz)
              have hz0 : w.heap.size < wx.heap.size := by omega
              have hz1 : bh < wx.heap.size := by omega
              obtain ⟨hc, hf⟩ := bcell hb
              have HBX := Lib.hid hb
              clear hb hz
              simp [depsS, Region.binds, updS, Stay.is, Stay.any] at hd
              go_simp
              first | rfl | (go_at_call 33; refine (HCR.out _ (H0.out.below (below_step HB3.out HBX.out)) (Hp1.out.below (below_step HB3.out HBX.out))).mono ?_; rintro e w1 ⟨rfl, hb1⟩; first | exact ⟨rfl, hb1⟩ | exact ⟨_, rfl, hb1, rfl⟩)
            iterate 10
              apply rel_is
              · intro u wx hb hd
                have hz := hb.size
                (try simp only [World.size_alloc, World.size_setCell] at hz)
                have hz0 : w.heap.size < wx.heap.size := by omega
                have hz1 : bh < wx.heap.size := by omega
                obtain ⟨hc, hf⟩ := bcell hb
                have HBX := Lib.hid hb
                clear hb hz
                simp [depsS, Region.binds, updS, Stay.is, Stay.any] at hd
                go_simp
                first | exact ⟨Below.refl _ _, rfl⟩ | rfl
            intro u w5 hb hE
            have e0 : u 0 = _ := endS_get hE 0 (by decide)
            have e1 : u 1 = _ := endS_get hE 1 (by decide)
            have e2 : u 2 = _ := endS_get hE 2 (by decide)
            have e3 : u 3 = _ := endS_get hE 3 (by decide)
            have e4 : u 4 = _ := endS_get hE 4 (by decide)
            have e5 : u 5 = _ := endS_get hE 5 (by decide)
            have e6 : u 6 = _ := endS_get hE 6 (by decide)
            have e7 : u 7 = _ := endS_get hE 7 (by decide)
            have e8 : u 8 = _ := endS_get hE 8 (by decide)
            have e9 : u 9 = _ := endS_get hE 9 (by decide)
            have e10 : u 10 = _ := endS_get hE 10 (by decide)
            have e11 : u 11 = _ := endS_get hE 11 (by decide)
            have e12 : u 12 = _ := endS_get hE 12 (by decide)
            have e13 : u 13 = _ := endS_get hE 13 (by decide)
            have e14 : u 14 = _ := endS_get hE 14 (by decide)
            have e15 : u 15 = _ := endS_get hE 15 (by decide)
            have e16 : u 16 = _ := endS_get hE 16 (by decide)
            have e17 : u 17 = _ := endS_get hE 17 (by decide)
            simp only [List.drop_succ_cons, List.drop_zero, List.take_succ_cons, List.take_zero, fillL, Act.put, List.setIfInBounds_toArray, List.set_cons_zero, List.set_cons_succ, e0, e1, e2, e3, e4, e5, e6, e7, e8, e9, e10, e11, e12, e13, e14, e15, e16, e17]
            clear e0 e1 e2 e3 e4 e5 e6 e7 e8 e9 e10 e11 e12 e13 e14 e15 e16 e17 hE
            have HBw5 := Lib.hid (below_step (w := w3) (by first | assumption | go_grown) hb)
            have HBXw5 := Lib.hid hb
            have hzw5 := hb.size
            (try simp only [World.size_alloc, World.size_setCell] at hzw5)
            have hzw50 : w.heap.size < w5.heap.size := by omega
            have hzw51 : bh < w5.heap.size := by omega
            obtain ⟨hcw5, hfw5⟩ := bcell hb
            clear hb hzw5
            have HB5 := Lib.hid (below_step HB3.out HBXw5.out)
            have HS5 : Hid (w5.heap[w.heap.size]? = some (.cells #[.slice oo no co, .slice (some ⟨bk1, fo, none⟩) m cq] 25)) := (HBXw5.out.block w.heap.size zw3).trans HS3.out
            have zw5 : w.heap.size < w5.heap.size := hzw50
            clear s0w3 s1w3 sfw3 szw3 g0 g1
            (try clear hcw5 hfw5)
            obtain ⟨s0w5, s1w5, sfw5, szw5⟩ := cells_at2 HS5.out
            go_wp2
            go_returns
            exact ⟨17, rfl, fun h => absurd h (by decide), HB5.out⟩
          | false =>
            have HNO := Lib.hid (cross_iff.1 hCB)
            clear hCB
            obtain ⟨RHWH, hRHWH⟩ : ∃ e, par (no) (P) (H j 0) = e := ⟨_, rfl⟩
            obtain ⟨ZHWH, hZHWH⟩ : ∃ e : Int, (if RHWH = true then 1 else -1) = e := ⟨_, rfl⟩
            have HWH : Hid (∀ W, PtsAt W ((.slice oo no co)) (no) (P) → Calls Tryd.prog 34 #[(.slice oo no co), .agg #[.int .i64 (H j 0).1, .int .i64 (H j 0).2]] W (fun e w' => e = .returned (.int .i64 ZHWH) ∧ Below W.heap.size W w')) := fun W a => by
              have t := where12_off _ _ _ (H j 0).1 (H j 0).2 W a HPO (HR1.out.near 0 (by omega)) (off_of (fun a b ha hb hc => HNO.out b a hb ha (meets_comm.1 hc)) (by omega))
              rw [show par (no) (P) ((H j 0).1, (H j 0).2) = RHWH from hRHWH, hZHWH] at t
              exact t
            have HRHWH := Lib.hid hRHWH
            clear hRHWH
            cases RHWH with
            | true =>
              have kzHWH : ZHWH = 1 := by rw [← hZHWH]; rfl
              subst kzHWH
              clear hZHWH
              go_wp2_with fail
              refine wp_region_relw 18 (by kernel_rfl) (by kernel_rfl) (by kernel_rfl) ?_
              simp only [List.take_succ_cons, List.take_zero, fillL, Act.put, List.setIfInBounds_toArray, List.set_cons_zero, List.set_cons_succ]
              apply rel_is
              · intro u wx hb hd
                have hz := hb.size
                (try simp only [World.size_alloc, World.size_setCell] at hz)
                have hz0 : w.heap.size < wx.heap.size := by omega
                have hz1 : bh < wx.heap.size := by omega
                obtain ⟨hc, hf⟩ := bcell hb
                have HBX := Lib.hid hb
                clear hb hz
                simp [depsS, Region.binds, updS, Stay.is, Stay.any] at hd
                go_simp
                first | exact ⟨Below.refl _ _, rfl⟩ | rfl
              apply rel_is
              · intro u wx hb hd
                have hz := hb.size
                (try simp only [World.size_alloc, World.size_setCell] at hz)
                have hz0 : w.heap.size < wx.heap.size := by omega
                have hz1 : bh < wx.heap.size := by omega
                obtain ⟨hc, hf⟩ := bcell hb
                have HBX := Lib.hid hb
                clear hb hz
                simp [depsS, Region.binds, updS, Stay.is, Stay.any] at hd
                go_simp
                first | rfl | (go_at_call 32; refine (HA1.out _ (Hp1.out.below (below_step HB3.out HBX.out))).mono ?_; rintro e w1 ⟨rfl, hb1⟩; first | exact ⟨rfl, hb1⟩ | exact ⟨_, rfl, hb1, rfl⟩)
              iterate 5
                apply rel_is
                · intro u wx hb hd
                  have hz := hb.size
                  (try simp only [World.size_alloc, World.size_setCell] at hz)
                  have hz0 : w.heap.size < wx.heap.size := by omega
                  have hz1 : bh < wx.heap.size := by omega
                  obtain ⟨hc, hf⟩ := bcell hb
                  have HBX := Lib.hid hb
                  clear hb hz
                  simp [depsS, Region.binds, updS, Stay.is, Stay.any] at hd
                  go_simp
                  first | exact ⟨Below.refl _ _, rfl⟩ | rfl
              apply rel_is
              · intro u wx hb hd
                have hz := hb.size
                (try simp only [World.size_alloc, World.size_setCell] at hz)
                have hz0 : w.heap.size < wx.heap.size := by omega
                have hz1 : bh < wx.heap.size := by omega
                obtain ⟨hc, hf⟩ := bcell hb
                have HBX := Lib.hid hb
                clear hb hz
                simp [depsS, Region.binds, updS, Stay.is, Stay.any] at hd
                go_simp
                first | rfl | (go_at_call 33; refine (HCR.out _ (H0.out.below (below_step HB3.out HBX.out)) (Hp1.out.below (below_step HB3.out HBX.out))).mono ?_; rintro e w1 ⟨rfl, hb1⟩; first | exact ⟨rfl, hb1⟩ | exact ⟨_, rfl, hb1, rfl⟩)
              iterate 7
                apply rel_is
                · intro u wx hb hd
                  have hz := hb.size
                  (try simp only [World.size_alloc, World.size_setCell] at hz)
                  have hz0 : w.heap.size < wx.heap.size := by omega
                  have hz1 : bh < wx.heap.size := by omega
                  obtain ⟨hc, hf⟩ := bcell hb
                  have HBX := Lib.hid hb
                  clear hb hz
                  simp [depsS, Region.binds, updS, Stay.is, Stay.any] at hd
                  go_simp
                  first | exact ⟨Below.refl _ _, rfl⟩ | rfl
              apply rel_is
              · intro u wx hb hd
                have hz := hb.size
                (try simp only [World.size_alloc, World.size_setCell] at hz)
                have hz0 : w.heap.size < wx.heap.size := by omega
                have hz1 : bh < wx.heap.size := by omega
                obtain ⟨hc, hf⟩ := bcell hb
                have HBX := Lib.hid hb
                clear hb hz
                simp [depsS, Region.binds, updS, Stay.is, Stay.any] at hd
                go_simp
                first | rfl | (go_at_call 34; refine (HWH.out _ (H0.out.below (below_step HB3.out HBX.out))).mono ?_; rintro e w1 ⟨rfl, hb1⟩; first | exact ⟨rfl, hb1⟩ | exact ⟨_, rfl, hb1, rfl⟩)
              iterate 2
                apply rel_is
                · intro u wx hb hd
                  have hz := hb.size
                  (try simp only [World.size_alloc, World.size_setCell] at hz)
                  have hz0 : w.heap.size < wx.heap.size := by omega
                  have hz1 : bh < wx.heap.size := by omega
                  obtain ⟨hc, hf⟩ := bcell hb
                  have HBX := Lib.hid hb
                  clear hb hz
                  simp [depsS, Region.binds, updS, Stay.is, Stay.any] at hd
                  go_simp
                  first | exact ⟨Below.refl _ _, rfl⟩ | rfl
              intro u w5 hb hE
              have e0 : u 0 = _ := endS_get hE 0 (by decide)
              have e1 : u 1 = _ := endS_get hE 1 (by decide)
              have e2 : u 2 = _ := endS_get hE 2 (by decide)
              have e3 : u 3 = _ := endS_get hE 3 (by decide)
              have e4 : u 4 = _ := endS_get hE 4 (by decide)
              have e5 : u 5 = _ := endS_get hE 5 (by decide)
              have e6 : u 6 = _ := endS_get hE 6 (by decide)
              have e7 : u 7 = _ := endS_get hE 7 (by decide)
              have e8 : u 8 = _ := endS_get hE 8 (by decide)
              have e9 : u 9 = _ := endS_get hE 9 (by decide)
              have e10 : u 10 = _ := endS_get hE 10 (by decide)
              have e11 : u 11 = _ := endS_get hE 11 (by decide)
              have e12 : u 12 = _ := endS_get hE 12 (by decide)
              have e13 : u 13 = _ := endS_get hE 13 (by decide)
              have e14 : u 14 = _ := endS_get hE 14 (by decide)
              have e15 : u 15 = _ := endS_get hE 15 (by decide)
              have e16 : u 16 = _ := endS_get hE 16 (by decide)
              have e17 : u 17 = _ := endS_get hE 17 (by decide)
              simp only [List.drop_succ_cons, List.drop_zero, List.take_succ_cons, List.take_zero, fillL, Act.put, List.setIfInBounds_toArray, List.set_cons_zero, List.set_cons_succ, e0, e1, e2, e3, e4, e5, e6, e7, e8, e9, e10, e11, e12, e13, e14, e15, e16, e17]
              clear e0 e1 e2 e3 e4 e5 e6 e7 e8 e9 e10 e11 e12 e13 e14 e15 e16 e17 hE
              have HBw5 := Lib.hid (below_step (w := w3) (by first | assumption | go_grown) hb)
              have HBXw5 := Lib.hid hb
              have hzw5 := hb.size
              (try simp only [World.size_alloc, World.size_setCell] at hzw5)
              have hzw50 : w.heap.size < w5.heap.size := by omega
              have hzw51 : bh < w5.heap.size := by omega
              obtain ⟨hcw5, hfw5⟩ := bcell hb
              clear hb hzw5
              have HB5 := Lib.hid (below_step HB3.out HBXw5.out)
              have HS5 : Hid (w5.heap[w.heap.size]? = some (.cells #[.slice oo no co, .slice (some ⟨bk1, fo, none⟩) m cq] 25)) := (HBXw5.out.block w.heap.size zw3).trans HS3.out
              have zw5 : w.heap.size < w5.heap.size := hzw50
              clear s0w3 s1w3 sfw3 szw3 g0 g1
              (try clear hcw5 hfw5)
              obtain ⟨s0w5, s1w5, sfw5, szw5⟩ := cells_at2 HS5.out
              have HG5 := Lib.hid (show GoodH no P hn H j from ⟨HR1.out, HA0.out, fun a b hb ha => HNO.out b a hb ha, HRHWH.out⟩)
              go_wp2
              go_loopw [7] (fun i wr => ∃ l : Nat, l ≤ j ∧ i = .int .i64 l ∧ Hid (∀ k, k < l → GoodP hn H j k) ∧ w.heap.size < wr.heap.size ∧ Hid (wr.heap[w.heap.size]? = some (.cells #[.slice oo no co, .slice (some ⟨bk1, fo, none⟩) m cq] 25)) ∧ Below w.heap.size w wr) (fun i _ => j - (intOf i).toNat)
              case atStart => exact ⟨0, by omega, rfl, fun k hk => absurd hk (by omega), zw5, HS5, HB5.out⟩
              case round =>
                clear s0w5 s1w5 sfw5 szw5
                obtain ⟨w6, rfl⟩ : ∃ x : World, x = wr := ⟨_, rfl⟩
                obtain ⟨l, hl, rfl, hq3, zw6, HS6, hB6⟩ := hrel
                have HB6 := Lib.hid hB6
                clear hB6
                obtain ⟨s0w6, s1w6, sfw6, szw6⟩ := cells_at2 HS6.out
                by_cases hll : l < j
                · obtain ⟨o2, ho2⟩ : ∃ e, oh l = e := ⟨_, rfl⟩
                  have Hp2 := Lib.hid (HHO.out l (by omega))
                  have y6 : w6.cell? ⟨bk1, fo + l, none⟩ = some (.slice (oh l) (hn l) (ch l)) := (HB6.out.cell (p := ⟨_, _, none⟩) hbl).trans (HCL.out l (by omega))
                  rw [ho2] at Hp2 y6
                  clear ho2
                  have HRl := Lib.hid (hg1.out l (by omega)).1
                  have n3l := HRl.out.n3
                  obtain ⟨bl, fl, rfl, hbll, l0', l1'⟩ := Hp2.out.at0 (by omega)
                  have l0 : w6.cell? ⟨bl, fl, none⟩ = some (.int .i64 (H l 0).1) := (HB6.out.cell (p := ⟨_, _, none⟩) hbll).trans l0'
                  have l1 : w6.cell? ⟨bl, fl + 1, none⟩ = some (.int .i64 (H l 0).2) := (HB6.out.cell (p := ⟨_, _, none⟩) hbll).trans l1'
                  have g0 : w6.cell? ⟨bh, fh, none⟩ = some (.int .i64 (H j 0).1) := (HB6.out.cell (p := ⟨_, _, none⟩) hblh).trans G0.out
                  have g1 : w6.cell? ⟨bh, fh + 1, none⟩ = some (.int .i64 (H j 0).2) := (HB6.out.cell (p := ⟨_, _, none⟩) hblh).trans G1.out
                  clear l0' l1'
                  have z1 : bl < w6.heap.size := by have := HB6.out.size; omega
                  have z2 : bh < w6.heap.size := by have := HB6.out.size; omega
                  have z3 : bk1 < w6.heap.size := by have := HB6.out.size; omega
                  have i1 : (0 : Int) ≤ (l : Int) := by omega
                  have i2 : (l : Int) < (m : Int) := by omega
                  have i3 : (0 : Int) < (hn l : Int) := by omega
                  have i3n : 0 < hn l := by omega
                  have i0n : 0 < hn j := by omega
                  obtain ⟨CB, hCB⟩ : ∃ e, crossB (hn j) (H j) (hn l) (H l) = e := ⟨_, rfl⟩
                  have HC2 : Hid (∀ W, PtsAt W (.slice (some ⟨bh, fh, none⟩) (hn j) (ch j)) (hn j) (H j) → PtsAt W (.slice (some ⟨bl, fl, none⟩) (hn l) (ch l)) (hn l) (H l) → Calls Tryd.prog 33 #[.slice (some ⟨bh, fh, none⟩) (hn j) (ch j), .slice (some ⟨bl, fl, none⟩) (hn l) (ch l)] W (fun e w' => e = .returned (.bool CB) ∧ Below W.heap.size W w')) := fun W a b => by rw [← hCB]; exact cross13_any _ _ _ _ _ _ W a b HR1.out.near HRl.out.near
                  cases CB with
                  | true =>
                    clear hCB
                    go_wp2_with fail
                    refine wp_region_relw 31 (by kernel_rfl) (by kernel_rfl) (by kernel_rfl) ?_
                    simp only [List.take_succ_cons, List.take_zero, fillL, Act.put, List.setIfInBounds_toArray, List.set_cons_zero, List.set_cons_succ]
                    iterate 6
                      apply rel_is
                      · intro u wx hb hd
                        have hz := hb.size
                        (try simp only [World.size_alloc, World.size_setCell] at hz)
                        have hz0 : w.heap.size < wx.heap.size := by omega
                        have hz1 : bh < wx.heap.size := by omega
                        have hz2 : bk1 < wx.heap.size := by omega
                        have hz3 : bl < wx.heap.size := by omega
                        obtain ⟨hc, hf⟩ := bcell hb
                        have HBX := Lib.hid hb
                        clear hb hz
                        simp [depsS, Region.binds, updS, Stay.is, Stay.any] at hd
                        go_simp
                        first | exact ⟨Below.refl _ _, rfl⟩ | rfl
                    apply rel_is
                    · intro u wx hb hd
                      have hz := hb.size
                      (try simp only [World.size_alloc, World.size_setCell] at hz)
                      have hz0 : w.heap.size < wx.heap.size := by omega
                      have hz1 : bh < wx.heap.size := by omega
                      have hz2 : bk1 < wx.heap.size := by omega
                      have hz3 : bl < wx.heap.size := by omega
                      obtain ⟨hc, hf⟩ := bcell hb
                      have HBX := Lib.hid hb
                      clear hb hz
                      simp [depsS, Region.binds, updS, Stay.is, Stay.any] at hd
                      go_simp
                      first | rfl | (go_at_call 33; refine (HC2.out _ (Hp1.out.below (below_step HB6.out HBX.out)) (Hp2.out.below (below_step HB6.out HBX.out))).mono ?_; rintro e w1 ⟨rfl, hb1⟩; first | exact ⟨rfl, hb1⟩ | exact ⟨_, rfl, hb1, rfl⟩)
                    iterate 24
                      apply rel_is
                      · intro u wx hb hd
                        have hz := hb.size
                        (try simp only [World.size_alloc, World.size_setCell] at hz)
                        have hz0 : w.heap.size < wx.heap.size := by omega
                        have hz1 : bh < wx.heap.size := by omega
                        have hz2 : bk1 < wx.heap.size := by omega
                        have hz3 : bl < wx.heap.size := by omega
                        obtain ⟨hc, hf⟩ := bcell hb
                        have HBX := Lib.hid hb
                        clear hb hz
                        simp [depsS, Region.binds, updS, Stay.is, Stay.any] at hd
                        go_simp
                        first | exact ⟨Below.refl _ _, rfl⟩ | rfl
                    intro u w7 hb hE
                    have e0 : u 0 = _ := endS_get hE 0 (by decide)
                    have e1 : u 1 = _ := endS_get hE 1 (by decide)
                    have e2 : u 2 = _ := endS_get hE 2 (by decide)
                    have e3 : u 3 = _ := endS_get hE 3 (by decide)
                    have e4 : u 4 = _ := endS_get hE 4 (by decide)
                    have e5 : u 5 = _ := endS_get hE 5 (by decide)
                    have e6 : u 6 = _ := endS_get hE 6 (by decide)
                    have e7 : u 7 = _ := endS_get hE 7 (by decide)
                    have e8 : u 8 = _ := endS_get hE 8 (by decide)
                    have e9 : u 9 = _ := endS_get hE 9 (by decide)
                    have e10 : u 10 = _ := endS_get hE 10 (by decide)
                    have e11 : u 11 = _ := endS_get hE 11 (by decide)
                    have e12 : u 12 = _ := endS_get hE 12 (by decide)
                    have e13 : u 13 = _ := endS_get hE 13 (by decide)
                    have e14 : u 14 = _ := endS_get hE 14 (by decide)
                    have e15 : u 15 = _ := endS_get hE 15 (by decide)
                    have e16 : u 16 = _ := endS_get hE 16 (by decide)
                    have e17 : u 17 = _ := endS_get hE 17 (by decide)
                    have e18 : u 18 = _ := endS_get hE 18 (by decide)
                    have e19 : u 19 = _ := endS_get hE 19 (by decide)
                    have e20 : u 20 = _ := endS_get hE 20 (by decide)
                    have e21 : u 21 = _ := endS_get hE 21 (by decide)
                    have e22 : u 22 = _ := endS_get hE 22 (by decide)
                    have e23 : u 23 = _ := endS_get hE 23 (by decide)
                    have e24 : u 24 = _ := endS_get hE 24 (by decide)
                    have e25 : u 25 = _ := endS_get hE 25 (by decide)
                    have e26 : u 26 = _ := endS_get hE 26 (by decide)
                    have e27 : u 27 = _ := endS_get hE 27 (by decide)
                    have e28 : u 28 = _ := endS_get hE 28 (by decide)
                    have e29 : u 29 = _ := endS_get hE 29 (by decide)
                    have e30 : u 30 = _ := endS_get hE 30 (by decide)
                    simp only [List.drop_succ_cons, List.drop_zero, List.take_succ_cons, List.take_zero, fillL, Act.put, List.setIfInBounds_toArray, List.set_cons_zero, List.set_cons_succ, e0, e1, e2, e3, e4, e5, e6, e7, e8, e9, e10, e11, e12, e13, e14, e15, e16, e17, e18, e19, e20, e21, e22, e23, e24, e25, e26, e27, e28, e29, e30]
                    clear e0 e1 e2 e3 e4 e5 e6 e7 e8 e9 e10 e11 e12 e13 e14 e15 e16 e17 e18 e19 e20 e21 e22 e23 e24 e25 e26 e27 e28 e29 e30 hE
                    have HBw7 := Lib.hid (below_step (w := w6) (by first | assumption | go_grown) hb)
                    have HBXw7 := Lib.hid hb
                    have hzw7 := hb.size
                    (try simp only [World.size_alloc, World.size_setCell] at hzw7)
                    have hzw70 : w.heap.size < w7.heap.size := by omega
                    have hzw71 : bh < w7.heap.size := by omega
                    have hzw72 : bk1 < w7.heap.size := by omega
                    have hzw73 : bl < w7.heap.size := by omega
                    obtain ⟨hcw7, hfw7⟩ := bcell hb
                    clear hb hzw7
                    have HB7 := Lib.hid (below_step HB6.out HBXw7.out)
                    have HS7 : Hid (w7.heap[w.heap.size]? = some (.cells #[.slice oo no co, .slice (some ⟨bk1, fo, none⟩) m cq] 25)) := (HBXw7.out.block w.heap.size zw6).trans HS6.out
                    have zw7 : w.heap.size < w7.heap.size := hzw70
                    clear s0w6 s1w6 sfw6 szw6 g0 g1 l0 l1 y6
                    (try clear hcw7 hfw7)
                    obtain ⟨s0w7, s1w7, sfw7, szw7⟩ := cells_at2 HS7.out
                    go_wp2
                    go_returns
                    exact ⟨17, rfl, fun h => absurd h (by decide), HB7.out⟩
                  | false =>
                    have HNM := Lib.hid (cross_iff.1 hCB)
                    clear hCB
                    obtain ⟨RHW2, hRHW2⟩ : ∃ e, par (hn j) (H j) (H l 0) = e := ⟨_, rfl⟩
                    obtain ⟨ZHW2, hZHW2⟩ : ∃ e : Int, (if RHW2 = true then 1 else -1) = e := ⟨_, rfl⟩
                    have HW2 : Hid (∀ W, PtsAt W ((.slice (some ⟨bh, fh, none⟩) (hn j) (ch j))) (hn j) (H j) → Calls Tryd.prog 34 #[(.slice (some ⟨bh, fh, none⟩) (hn j) (ch j)), .agg #[.int .i64 (H l 0).1, .int .i64 (H l 0).2]] W (fun e w' => e = .returned (.int .i64 ZHW2) ∧ Below W.heap.size W w')) := fun W a => by
                      have t := where12_off _ _ _ (H l 0).1 (H l 0).2 W a HR1 (HRl.out.near 0 (by omega)) (off_of (fun a b ha hb hc => HNM.out b a hb ha (meets_comm.1 hc)) (by omega))
                      rw [show par (hn j) (H j) ((H l 0).1, (H l 0).2) = RHW2 from hRHW2, hZHW2] at t
                      exact t
                    have HRHW2 := Lib.hid hRHW2
                    clear hRHW2
                    cases RHW2 with
                    | true =>
                      have kzHW2 : ZHW2 = 1 := by rw [← hZHW2]; rfl
                      subst kzHW2
                      clear hZHW2
                      go_wp2_with fail
                      refine wp_region_relw 31 (by kernel_rfl) (by kernel_rfl) (by kernel_rfl) ?_
                      simp only [List.take_succ_cons, List.take_zero, fillL, Act.put, List.setIfInBounds_toArray, List.set_cons_zero, List.set_cons_succ]
                      iterate 6
                        apply rel_is
                        · intro u wx hb hd
                          have hz := hb.size
                          (try simp only [World.size_alloc, World.size_setCell] at hz)
                          have hz0 : w.heap.size < wx.heap.size := by omega
                          have hz1 : bh < wx.heap.size := by omega
                          have hz2 : bk1 < wx.heap.size := by omega
                          have hz3 : bl < wx.heap.size := by omega
                          obtain ⟨hc, hf⟩ := bcell hb
                          have HBX := Lib.hid hb
                          clear hb hz
                          simp [depsS, Region.binds, updS, Stay.is, Stay.any] at hd
                          go_simp
                          first | exact ⟨Below.refl _ _, rfl⟩ | rfl
                      apply rel_is
                      · intro u wx hb hd
                        have hz := hb.size
                        (try simp only [World.size_alloc, World.size_setCell] at hz)
                        have hz0 : w.heap.size < wx.heap.size := by omega
                        have hz1 : bh < wx.heap.size := by omega
                        have hz2 : bk1 < wx.heap.size := by omega
                        have hz3 : bl < wx.heap.size := by omega
                        obtain ⟨hc, hf⟩ := bcell hb
                        have HBX := Lib.hid hb
                        clear hb hz
                        simp [depsS, Region.binds, updS, Stay.is, Stay.any] at hd
                        go_simp
                        first | rfl | (go_at_call 33; refine (HC2.out _ (Hp1.out.below (below_step HB6.out HBX.out)) (Hp2.out.below (below_step HB6.out HBX.out))).mono ?_; rintro e w1 ⟨rfl, hb1⟩; first | exact ⟨rfl, hb1⟩ | exact ⟨_, rfl, hb1, rfl⟩)
                      iterate 9
                        apply rel_is
                        · intro u wx hb hd
                          have hz := hb.size
                          (try simp only [World.size_alloc, World.size_setCell] at hz)
                          have hz0 : w.heap.size < wx.heap.size := by omega
                          have hz1 : bh < wx.heap.size := by omega
                          have hz2 : bk1 < wx.heap.size := by omega
                          have hz3 : bl < wx.heap.size := by omega
                          obtain ⟨hc, hf⟩ := bcell hb
                          have HBX := Lib.hid hb
                          clear hb hz
                          simp [depsS, Region.binds, updS, Stay.is, Stay.any] at hd
                          go_simp
                          first | exact ⟨Below.refl _ _, rfl⟩ | rfl
                      apply rel_is
                      · intro u wx hb hd
                        have hz := hb.size
                        (try simp only [World.size_alloc, World.size_setCell] at hz)
                        have hz0 : w.heap.size < wx.heap.size := by omega
                        have hz1 : bh < wx.heap.size := by omega
                        have hz2 : bk1 < wx.heap.size := by omega
                        have hz3 : bl < wx.heap.size := by omega
                        obtain ⟨hc, hf⟩ := bcell hb
                        have HBX := Lib.hid hb
                        clear hb hz
                        simp [depsS, Region.binds, updS, Stay.is, Stay.any] at hd
                        go_simp
                        first | rfl | (go_at_call 34; refine (HW2.out _ (Hp1.out.below (below_step HB6.out HBX.out))).mono ?_; rintro e w1 ⟨rfl, hb1⟩; first | exact ⟨rfl, hb1⟩ | exact ⟨_, rfl, hb1, rfl⟩)
                      iterate 14
                        apply rel_is
                        · intro u wx hb hd
                          have hz := hb.size
                          (try simp only [World.size_alloc, World.size_setCell] at hz)
                          have hz0 : w.heap.size < wx.heap.size := by omega
                          have hz1 : bh < wx.heap.size := by omega
                          have hz2 : bk1 < wx.heap.size := by omega
                          have hz3 : bl < wx.heap.size := by omega
                          obtain ⟨hc, hf⟩ := bcell hb
                          have HBX := Lib.hid hb
                          clear hb hz
                          simp [depsS, Region.binds, updS, Stay.is, Stay.any] at hd
                          go_simp
                          first | exact ⟨Below.refl _ _, rfl⟩ | rfl
                      intro u w7 hb hE
                      have e0 : u 0 = _ := endS_get hE 0 (by decide)
                      have e1 : u 1 = _ := endS_get hE 1 (by decide)
                      have e2 : u 2 = _ := endS_get hE 2 (by decide)
                      have e3 : u 3 = _ := endS_get hE 3 (by decide)
                      have e4 : u 4 = _ := endS_get hE 4 (by decide)
                      have e5 : u 5 = _ := endS_get hE 5 (by decide)
                      have e6 : u 6 = _ := endS_get hE 6 (by decide)
                      have e7 : u 7 = _ := endS_get hE 7 (by decide)
                      have e8 : u 8 = _ := endS_get hE 8 (by decide)
                      have e9 : u 9 = _ := endS_get hE 9 (by decide)
                      have e10 : u 10 = _ := endS_get hE 10 (by decide)
                      have e11 : u 11 = _ := endS_get hE 11 (by decide)
                      have e12 : u 12 = _ := endS_get hE 12 (by decide)
                      have e13 : u 13 = _ := endS_get hE 13 (by decide)
                      have e14 : u 14 = _ := endS_get hE 14 (by decide)
                      have e15 : u 15 = _ := endS_get hE 15 (by decide)
                      have e16 : u 16 = _ := endS_get hE 16 (by decide)
                      have e17 : u 17 = _ := endS_get hE 17 (by decide)
                      have e18 : u 18 = _ := endS_get hE 18 (by decide)
                      have e19 : u 19 = _ := endS_get hE 19 (by decide)
                      have e20 : u 20 = _ := endS_get hE 20 (by decide)
                      have e21 : u 21 = _ := endS_get hE 21 (by decide)
                      have e22 : u 22 = _ := endS_get hE 22 (by decide)
                      have e23 : u 23 = _ := endS_get hE 23 (by decide)
                      have e24 : u 24 = _ := endS_get hE 24 (by decide)
                      have e25 : u 25 = _ := endS_get hE 25 (by decide)
                      have e26 : u 26 = _ := endS_get hE 26 (by decide)
                      have e27 : u 27 = _ := endS_get hE 27 (by decide)
                      have e28 : u 28 = _ := endS_get hE 28 (by decide)
                      have e29 : u 29 = _ := endS_get hE 29 (by decide)
                      have e30 : u 30 = _ := endS_get hE 30 (by decide)
                      simp only [List.drop_succ_cons, List.drop_zero, List.take_succ_cons, List.take_zero, fillL, Act.put, List.setIfInBounds_toArray, List.set_cons_zero, List.set_cons_succ, e0, e1, e2, e3, e4, e5, e6, e7, e8, e9, e10, e11, e12, e13, e14, e15, e16, e17, e18, e19, e20, e21, e22, e23, e24, e25, e26, e27, e28, e29, e30]
                      clear e0 e1 e2 e3 e4 e5 e6 e7 e8 e9 e10 e11 e12 e13 e14 e15 e16 e17 e18 e19 e20 e21 e22 e23 e24 e25 e26 e27 e28 e29 e30 hE
                      have HBw7 := Lib.hid (below_step (w := w6) (by first | assumption | go_grown) hb)
                      have HBXw7 := Lib.hid hb
                      have hzw7 := hb.size
                      (try simp only [World.size_alloc, World.size_setCell] at hzw7)
                      have hzw70 : w.heap.size < w7.heap.size := by omega
                      have hzw71 : bh < w7.heap.size := by omega
                      have hzw72 : bk1 < w7.heap.size := by omega
                      have hzw73 : bl < w7.heap.size := by omega
                      obtain ⟨hcw7, hfw7⟩ := bcell hb
                      clear hb hzw7
                      have HB7 := Lib.hid (below_step HB6.out HBXw7.out)
                      have HS7 : Hid (w7.heap[w.heap.size]? = some (.cells #[.slice oo no co, .slice (some ⟨bk1, fo, none⟩) m cq] 25)) := (HBXw7.out.block w.heap.size zw6).trans HS6.out
                      have zw7 : w.heap.size < w7.heap.size := hzw70
                      clear s0w6 s1w6 sfw6 szw6 g0 g1 l0 l1 y6
                      (try clear hcw7 hfw7)
                      obtain ⟨s0w7, s1w7, sfw7, szw7⟩ := cells_at2 HS7.out
                      go_wp2
                      go_returns
                      exact ⟨17, rfl, fun h => absurd h (by decide), HB7.out⟩
                    | false =>
                      have kzHW2 : ZHW2 = (-1) := by rw [← hZHW2]; rfl
                      subst kzHW2
                      clear hZHW2
                      obtain ⟨RHW3, hRHW3⟩ : ∃ e, par (hn l) (H l) (H j 0) = e := ⟨_, rfl⟩
                      obtain ⟨ZHW3, hZHW3⟩ : ∃ e : Int, (if RHW3 = true then 1 else -1) = e := ⟨_, rfl⟩
                      have HW3 : Hid (∀ W, PtsAt W ((.slice (some ⟨bl, fl, none⟩) (hn l) (ch l))) (hn l) (H l) → Calls Tryd.prog 34 #[(.slice (some ⟨bl, fl, none⟩) (hn l) (ch l)), .agg #[.int .i64 (H j 0).1, .int .i64 (H j 0).2]] W (fun e w' => e = .returned (.int .i64 ZHW3) ∧ Below W.heap.size W w')) := fun W a => by
                        have t := where12_off _ _ _ (H j 0).1 (H j 0).2 W a HRl (HR1.out.near 0 (by omega)) (off_of HNM.out (by omega))
                        rw [show par (hn l) (H l) ((H j 0).1, (H j 0).2) = RHW3 from hRHW3, hZHW3] at t
                        exact t
                      have HRHW3 := Lib.hid hRHW3
                      clear hRHW3
                      cases RHW3 with
                      | true =>
                        have kzHW3 : ZHW3 = 1 := by rw [← hZHW3]; rfl
                        subst kzHW3
                        clear hZHW3
                        go_wp2_with fail
                        refine wp_region_relw 31 (by kernel_rfl) (by kernel_rfl) (by kernel_rfl) ?_
                        simp only [List.take_succ_cons, List.take_zero, fillL, Act.put, List.setIfInBounds_toArray, List.set_cons_zero, List.set_cons_succ]
                        iterate 6
                          apply rel_is
                          · intro u wx hb hd
                            have hz := hb.size
                            (try simp only [World.size_alloc, World.size_setCell] at hz)
                            have hz0 : w.heap.size < wx.heap.size := by omega
                            have hz1 : bh < wx.heap.size := by omega
                            have hz2 : bk1 < wx.heap.size := by omega
                            have hz3 : bl < wx.heap.size := by omega
                            obtain ⟨hc, hf⟩ := bcell hb
                            have HBX := Lib.hid hb
                            clear hb hz
                            simp [depsS, Region.binds, updS, Stay.is, Stay.any] at hd
                            go_simp
                            first | exact ⟨Below.refl _ _, rfl⟩ | rfl
                        apply rel_is
                        · intro u wx hb hd
                          have hz := hb.size
                          (try simp only [World.size_alloc, World.size_setCell] at hz)
                          have hz0 : w.heap.size < wx.heap.size := by omega
                          have hz1 : bh < wx.heap.size := by omega
                          have hz2 : bk1 < wx.heap.size := by omega
                          have hz3 : bl < wx.heap.size := by omega
                          obtain ⟨hc, hf⟩ := bcell hb
                          have HBX := Lib.hid hb
                          clear hb hz
                          simp [depsS, Region.binds, updS, Stay.is, Stay.any] at hd
                          go_simp
                          first | rfl | (go_at_call 33; refine (HC2.out _ (Hp1.out.below (below_step HB6.out HBX.out)) (Hp2.out.below (below_step HB6.out HBX.out))).mono ?_; rintro e w1 ⟨rfl, hb1⟩; first | exact ⟨rfl, hb1⟩ | exact ⟨_, rfl, hb1, rfl⟩)
                        iterate 9
                          apply rel_is
                          · intro u wx hb hd
                            have hz := hb.size
                            (try simp only [World.size_alloc, World.size_setCell] at hz)
                            have hz0 : w.heap.size < wx.heap.size := by omega
                            have hz1 : bh < wx.heap.size := by omega
                            have hz2 : bk1 < wx.heap.size := by omega
                            have hz3 : bl < wx.heap.size := by omega
                            obtain ⟨hc, hf⟩ := bcell hb
                            have HBX := Lib.hid hb
                            clear hb hz
                            simp [depsS, Region.binds, updS, Stay.is, Stay.any] at hd
                            go_simp
                            first | exact ⟨Below.refl _ _, rfl⟩ | rfl
                        apply rel_is
                        · intro u wx hb hd
                          have hz := hb.size
                          (try simp only [World.size_alloc, World.size_setCell] at hz)
                          have hz0 : w.heap.size < wx.heap.size := by omega
                          have hz1 : bh < wx.heap.size := by omega
                          have hz2 : bk1 < wx.heap.size := by omega
                          have hz3 : bl < wx.heap.size := by omega
                          obtain ⟨hc, hf⟩ := bcell hb
                          have HBX := Lib.hid hb
                          clear hb hz
                          simp [depsS, Region.binds, updS, Stay.is, Stay.any] at hd
                          go_simp
                          first | rfl | (go_at_call 34; refine (HW2.out _ (Hp1.out.below (below_step HB6.out HBX.out))).mono ?_; rintro e w1 ⟨rfl, hb1⟩; first | exact ⟨rfl, hb1⟩ | exact ⟨_, rfl, hb1, rfl⟩)
                        iterate 11
                          apply rel_is
                          · intro u wx hb hd
                            have hz := hb.size
                            (try simp only [World.size_alloc, World.size_setCell] at hz)
                            have hz0 : w.heap.size < wx.heap.size := by omega
                            have hz1 : bh < wx.heap.size := by omega
                            have hz2 : bk1 < wx.heap.size := by omega
                            have hz3 : bl < wx.heap.size := by omega
                            obtain ⟨hc, hf⟩ := bcell hb
                            have HBX := Lib.hid hb
                            clear hb hz
                            simp [depsS, Region.binds, updS, Stay.is, Stay.any] at hd
                            go_simp
                            first | exact ⟨Below.refl _ _, rfl⟩ | rfl
                        apply rel_is
                        · intro u wx hb hd
                          have hz := hb.size
                          (try simp only [World.size_alloc, World.size_setCell] at hz)
                          have hz0 : w.heap.size < wx.heap.size := by omega
                          have hz1 : bh < wx.heap.size := by omega
                          have hz2 : bk1 < wx.heap.size := by omega
                          have hz3 : bl < wx.heap.size := by omega
                          obtain ⟨hc, hf⟩ := bcell hb
                          have HBX := Lib.hid hb
                          clear hb hz
                          simp [depsS, Region.binds, updS, Stay.is, Stay.any] at hd
                          go_simp
                          first | rfl | (go_at_call 34; refine (HW3.out _ (Hp2.out.below (below_step HB6.out HBX.out))).mono ?_; rintro e w1 ⟨rfl, hb1⟩; first | exact ⟨rfl, hb1⟩ | exact ⟨_, rfl, hb1, rfl⟩)
                        iterate 2
                          apply rel_is
                          · intro u wx hb hd
                            have hz := hb.size
                            (try simp only [World.size_alloc, World.size_setCell] at hz)
                            have hz0 : w.heap.size < wx.heap.size := by omega
                            have hz1 : bh < wx.heap.size := by omega
                            have hz2 : bk1 < wx.heap.size := by omega
                            have hz3 : bl < wx.heap.size := by omega
                            obtain ⟨hc, hf⟩ := bcell hb
                            have HBX := Lib.hid hb
                            clear hb hz
                            simp [depsS, Region.binds, updS, Stay.is, Stay.any] at hd
                            go_simp
                            first | exact ⟨Below.refl _ _, rfl⟩ | rfl
                        intro u w7 hb hE
                        have e0 : u 0 = _ := endS_get hE 0 (by decide)
                        have e1 : u 1 = _ := endS_get hE 1 (by decide)
                        have e2 : u 2 = _ := endS_get hE 2 (by decide)
                        have e3 : u 3 = _ := endS_get hE 3 (by decide)
                        have e4 : u 4 = _ := endS_get hE 4 (by decide)
                        have e5 : u 5 = _ := endS_get hE 5 (by decide)
                        have e6 : u 6 = _ := endS_get hE 6 (by decide)
                        have e7 : u 7 = _ := endS_get hE 7 (by decide)
                        have e8 : u 8 = _ := endS_get hE 8 (by decide)
                        have e9 : u 9 = _ := endS_get hE 9 (by decide)
                        have e10 : u 10 = _ := endS_get hE 10 (by decide)
                        have e11 : u 11 = _ := endS_get hE 11 (by decide)
                        have e12 : u 12 = _ := endS_get hE 12 (by decide)
                        have e13 : u 13 = _ := endS_get hE 13 (by decide)
                        have e14 : u 14 = _ := endS_get hE 14 (by decide)
                        have e15 : u 15 = _ := endS_get hE 15 (by decide)
                        have e16 : u 16 = _ := endS_get hE 16 (by decide)
                        have e17 : u 17 = _ := endS_get hE 17 (by decide)
                        have e18 : u 18 = _ := endS_get hE 18 (by decide)
                        have e19 : u 19 = _ := endS_get hE 19 (by decide)
                        have e20 : u 20 = _ := endS_get hE 20 (by decide)
                        have e21 : u 21 = _ := endS_get hE 21 (by decide)
                        have e22 : u 22 = _ := endS_get hE 22 (by decide)
                        have e23 : u 23 = _ := endS_get hE 23 (by decide)
                        have e24 : u 24 = _ := endS_get hE 24 (by decide)
                        have e25 : u 25 = _ := endS_get hE 25 (by decide)
                        have e26 : u 26 = _ := endS_get hE 26 (by decide)
                        have e27 : u 27 = _ := endS_get hE 27 (by decide)
                        have e28 : u 28 = _ := endS_get hE 28 (by decide)
                        have e29 : u 29 = _ := endS_get hE 29 (by decide)
                        have e30 : u 30 = _ := endS_get hE 30 (by decide)
                        simp only [List.drop_succ_cons, List.drop_zero, List.take_succ_cons, List.take_zero, fillL, Act.put, List.setIfInBounds_toArray, List.set_cons_zero, List.set_cons_succ, e0, e1, e2, e3, e4, e5, e6, e7, e8, e9, e10, e11, e12, e13, e14, e15, e16, e17, e18, e19, e20, e21, e22, e23, e24, e25, e26, e27, e28, e29, e30]
                        clear e0 e1 e2 e3 e4 e5 e6 e7 e8 e9 e10 e11 e12 e13 e14 e15 e16 e17 e18 e19 e20 e21 e22 e23 e24 e25 e26 e27 e28 e29 e30 hE
                        have HBw7 := Lib.hid (below_step (w := w6) (by first | assumption | go_grown) hb)
                        have HBXw7 := Lib.hid hb
                        have hzw7 := hb.size
                        (try simp only [World.size_alloc, World.size_setCell] at hzw7)
                        have hzw70 : w.heap.size < w7.heap.size := by omega
                        have hzw71 : bh < w7.heap.size := by omega
                        have hzw72 : bk1 < w7.heap.size := by omega
                        have hzw73 : bl < w7.heap.size := by omega
                        obtain ⟨hcw7, hfw7⟩ := bcell hb
                        clear hb hzw7
                        have HB7 := Lib.hid (below_step HB6.out HBXw7.out)
                        have HS7 : Hid (w7.heap[w.heap.size]? = some (.cells #[.slice oo no co, .slice (some ⟨bk1, fo, none⟩) m cq] 25)) := (HBXw7.out.block w.heap.size zw6).trans HS6.out
                        have zw7 : w.heap.size < w7.heap.size := hzw70
                        clear s0w6 s1w6 sfw6 szw6 g0 g1 l0 l1 y6
                        (try clear hcw7 hfw7)
                        obtain ⟨s0w7, s1w7, sfw7, szw7⟩ := cells_at2 HS7.out
                        go_wp2
                        go_returns
                        exact ⟨17, rfl, fun h => absurd h (by decide), HB7.out⟩
                      | false =>
                        have kzHW3 : ZHW3 = (-1) := by rw [← hZHW3]; rfl
                        subst kzHW3
                        clear hZHW3
                        go_wp2_with fail
                        refine wp_region_relw 31 (by kernel_rfl) (by kernel_rfl) (by kernel_rfl) ?_
                        simp only [List.take_succ_cons, List.take_zero, fillL, Act.put, List.setIfInBounds_toArray, List.set_cons_zero, List.set_cons_succ]
                        iterate 6
                          apply rel_is
                          · intro u wx hb hd
                            have hz := hb.size
                            (try simp only [World.size_alloc, World.size_setCell] at hz)
                            have hz0 : w.heap.size < wx.heap.size := by omega
                            have hz1 : bh < wx.heap.size := by omega
                            have hz2 : bk1 < wx.heap.size := by omega
                            have hz3 : bl < wx.heap.size := by omega
                            obtain ⟨hc, hf⟩ := bcell hb
                            have HBX := Lib.hid hb
                            clear hb hz
                            simp [depsS, Region.binds, updS, Stay.is, Stay.any] at hd
                            go_simp
                            first | exact ⟨Below.refl _ _, rfl⟩ | rfl
                        apply rel_is
                        · intro u wx hb hd
                          have hz := hb.size
                          (try simp only [World.size_alloc, World.size_setCell] at hz)
                          have hz0 : w.heap.size < wx.heap.size := by omega
                          have hz1 : bh < wx.heap.size := by omega
                          have hz2 : bk1 < wx.heap.size := by omega
                          have hz3 : bl < wx.heap.size := by omega
                          obtain ⟨hc, hf⟩ := bcell hb
                          have HBX := Lib.hid hb
                          clear hb hz
                          simp [depsS, Region.binds, updS, Stay.is, Stay.any] at hd
                          go_simp
                          first | rfl | (go_at_call 33; refine (HC2.out _ (Hp1.out.below (below_step HB6.out HBX.out)) (Hp2.out.below (below_step HB6.out HBX.out))).mono ?_; rintro e w1 ⟨rfl, hb1⟩; first | exact ⟨rfl, hb1⟩ | exact ⟨_, rfl, hb1, rfl⟩)
                        iterate 9
                          apply rel_is
                          · intro u wx hb hd
                            have hz := hb.size
                            (try simp only [World.size_alloc, World.size_setCell] at hz)
                            have hz0 : w.heap.size < wx.heap.size := by omega
                            have hz1 : bh < wx.heap.size := by omega
                            have hz2 : bk1 < wx.heap.size := by omega
                            have hz3 : bl < wx.heap.size := by omega
                            obtain ⟨hc, hf⟩ := bcell hb
                            have HBX := Lib.hid hb
                            clear hb hz
                            simp [depsS, Region.binds, updS, Stay.is, Stay.any] at hd
                            go_simp
                            first | exact ⟨Below.refl _ _, rfl⟩ | rfl
                        apply rel_is
                        · intro u wx hb hd
                          have hz := hb.size
                          (try simp only [World.size_alloc, World.size_setCell] at hz)
                          have hz0 : w.heap.size < wx.heap.size := by omega
                          have hz1 : bh < wx.heap.size := by omega
                          have hz2 : bk1 < wx.heap.size := by omega
                          have hz3 : bl < wx.heap.size := by omega
                          obtain ⟨hc, hf⟩ := bcell hb
                          have HBX := Lib.hid hb
                          clear hb hz
                          simp [depsS, Region.binds, updS, Stay.is, Stay.any] at hd
                          go_simp
                          first | rfl | (go_at_call 34; refine (HW2.out _ (Hp1.out.below (below_step HB6.out HBX.out))).mono ?_; rintro e w1 ⟨rfl, hb1⟩; first | exact ⟨rfl, hb1⟩ | exact ⟨_, rfl, hb1, rfl⟩)
                        iterate 11
                          apply rel_is
                          · intro u wx hb hd
                            have hz := hb.size
                            (try simp only [World.size_alloc, World.size_setCell] at hz)
                            have hz0 : w.heap.size < wx.heap.size := by omega
                            have hz1 : bh < wx.heap.size := by omega
                            have hz2 : bk1 < wx.heap.size := by omega
                            have hz3 : bl < wx.heap.size := by omega
                            obtain ⟨hc, hf⟩ := bcell hb
                            have HBX := Lib.hid hb
                            clear hb hz
                            simp [depsS, Region.binds, updS, Stay.is, Stay.any] at hd
                            go_simp
                            first | exact ⟨Below.refl _ _, rfl⟩ | rfl
                        apply rel_is
                        · intro u wx hb hd
                          have hz := hb.size
                          (try simp only [World.size_alloc, World.size_setCell] at hz)
                          have hz0 : w.heap.size < wx.heap.size := by omega
                          have hz1 : bh < wx.heap.size := by omega
                          have hz2 : bk1 < wx.heap.size := by omega
                          have hz3 : bl < wx.heap.size := by omega
                          obtain ⟨hc, hf⟩ := bcell hb
                          have HBX := Lib.hid hb
                          clear hb hz
                          simp [depsS, Region.binds, updS, Stay.is, Stay.any] at hd
                          go_simp
                          first | rfl | (go_at_call 34; refine (HW3.out _ (Hp2.out.below (below_step HB6.out HBX.out))).mono ?_; rintro e w1 ⟨rfl, hb1⟩; first | exact ⟨rfl, hb1⟩ | exact ⟨_, rfl, hb1, rfl⟩)
                        iterate 2
                          apply rel_is
                          · intro u wx hb hd
                            have hz := hb.size
                            (try simp only [World.size_alloc, World.size_setCell] at hz)
                            have hz0 : w.heap.size < wx.heap.size := by omega
                            have hz1 : bh < wx.heap.size := by omega
                            have hz2 : bk1 < wx.heap.size := by omega
                            have hz3 : bl < wx.heap.size := by omega
                            obtain ⟨hc, hf⟩ := bcell hb
                            have HBX := Lib.hid hb
                            clear hb hz
                            simp [depsS, Region.binds, updS, Stay.is, Stay.any] at hd
                            go_simp
                            first | exact ⟨Below.refl _ _, rfl⟩ | rfl
                        intro u w7 hb hE
                        have e0 : u 0 = _ := endS_get hE 0 (by decide)
                        have e1 : u 1 = _ := endS_get hE 1 (by decide)
                        have e2 : u 2 = _ := endS_get hE 2 (by decide)
                        have e3 : u 3 = _ := endS_get hE 3 (by decide)
                        have e4 : u 4 = _ := endS_get hE 4 (by decide)
                        have e5 : u 5 = _ := endS_get hE 5 (by decide)
                        have e6 : u 6 = _ := endS_get hE 6 (by decide)
                        have e7 : u 7 = _ := endS_get hE 7 (by decide)
                        have e8 : u 8 = _ := endS_get hE 8 (by decide)
                        have e9 : u 9 = _ := endS_get hE 9 (by decide)
                        have e10 : u 10 = _ := endS_get hE 10 (by decide)
                        have e11 : u 11 = _ := endS_get hE 11 (by decide)
                        have e12 : u 12 = _ := endS_get hE 12 (by decide)
                        have e13 : u 13 = _ := endS_get hE 13 (by decide)
                        have e14 : u 14 = _ := endS_get hE 14 (by decide)
                        have e15 : u 15 = _ := endS_get hE 15 (by decide)
                        have e16 : u 16 = _ := endS_get hE 16 (by decide)
                        have e17 : u 17 = _ := endS_get hE 17 (by decide)
                        have e18 : u 18 = _ := endS_get hE 18 (by decide)
                        have e19 : u 19 = _ := endS_get hE 19 (by decide)
                        have e20 : u 20 = _ := endS_get hE 20 (by decide)
                        have e21 : u 21 = _ := endS_get hE 21 (by decide)
                        have e22 : u 22 = _ := endS_get hE 22 (by decide)
                        have e23 : u 23 = _ := endS_get hE 23 (by decide)
                        have e24 : u 24 = _ := endS_get hE 24 (by decide)
                        have e25 : u 25 = _ := endS_get hE 25 (by decide)
                        have e26 : u 26 = _ := endS_get hE 26 (by decide)
                        have e27 : u 27 = _ := endS_get hE 27 (by decide)
                        have e28 : u 28 = _ := endS_get hE 28 (by decide)
                        have e29 : u 29 = _ := endS_get hE 29 (by decide)
                        have e30 : u 30 = _ := endS_get hE 30 (by decide)
                        simp only [List.drop_succ_cons, List.drop_zero, List.take_succ_cons, List.take_zero, fillL, Act.put, List.setIfInBounds_toArray, List.set_cons_zero, List.set_cons_succ, e0, e1, e2, e3, e4, e5, e6, e7, e8, e9, e10, e11, e12, e13, e14, e15, e16, e17, e18, e19, e20, e21, e22, e23, e24, e25, e26, e27, e28, e29, e30]
                        clear e0 e1 e2 e3 e4 e5 e6 e7 e8 e9 e10 e11 e12 e13 e14 e15 e16 e17 e18 e19 e20 e21 e22 e23 e24 e25 e26 e27 e28 e29 e30 hE
                        have HBw7 := Lib.hid (below_step (w := w6) (by first | assumption | go_grown) hb)
                        have HBXw7 := Lib.hid hb
                        have hzw7 := hb.size
                        (try simp only [World.size_alloc, World.size_setCell] at hzw7)
                        have hzw70 : w.heap.size < w7.heap.size := by omega
                        have hzw71 : bh < w7.heap.size := by omega
                        have hzw72 : bk1 < w7.heap.size := by omega
                        have hzw73 : bl < w7.heap.size := by omega
                        obtain ⟨hcw7, hfw7⟩ := bcell hb
                        clear hb hzw7
                        have HB7 := Lib.hid (below_step HB6.out HBXw7.out)
                        have HS7 : Hid (w7.heap[w.heap.size]? = some (.cells #[.slice oo no co, .slice (some ⟨bk1, fo, none⟩) m cq] 25)) := (HBXw7.out.block w.heap.size zw6).trans HS6.out
                        have zw7 : w.heap.size < w7.heap.size := hzw70
                        clear s0w6 s1w6 sfw6 szw6 g0 g1 l0 l1 y6
                        (try clear hcw7 hfw7)
                        obtain ⟨s0w7, s1w7, sfw7, szw7⟩ := cells_at2 HS7.out
                        have hq4 : Hid (∀ k, k < l + 1 → GoodP hn H j k) := fun k hk => by
                          by_cases e : k = l
                          · subst e
                            exact ⟨fun a b ha hb => HNM.out a b ha hb, HRHW2.out, HRHW3.out⟩
                          · exact hq3.out k (by omega)
                        go_wp2
                        go_roundw
                        case rel => exact ⟨l + 1, by omega, by go_num, hq4, zw7, HS7, HB7.out⟩
                        case measure => simp [intOf]; omega
                · have hq5 : Hid (∀ i, i < j + 1 → GoodH no P hn H i) := fun i hi => by
                    by_cases e : i = j
                    · rw [e]; exact HG5.out
                    · exact hg1.out i (by omega)
                  have hq6 : Hid (∀ i, i < j + 1 → ∀ k, k < i → GoodP hn H i k) := fun i hi k hk => by
                    by_cases e : i = j
                    · subst e; exact hq3.out k (by omega)
                    · exact hg2.out i (by omega) k hk
                  go_wp2
                  go_roundw
                  case rel => exact ⟨j + 1, by omega, by go_num, hq5, hq6, zw6, HS6, HB6.out⟩
                  case measure => simp [intOf]; omega
            | false =>
              have kzHWH : ZHWH = (-1) := by rw [← hZHWH]; rfl
              subst kzHWH
              clear hZHWH
              go_wp2_with fail
              refine wp_region_relw 18 (by kernel_rfl) (by kernel_rfl) (by kernel_rfl) ?_
              simp only [List.take_succ_cons, List.take_zero, fillL, Act.put, List.setIfInBounds_toArray, List.set_cons_zero, List.set_cons_succ]
              apply rel_is
              · intro u wx hb hd
                have hz := hb.size
                (try simp only [World.size_alloc, World.size_setCell] at hz)
                have hz0 : w.heap.size < wx.heap.size := by omega
                have hz1 : bh < wx.heap.size := by omega
                obtain ⟨hc, hf⟩ := bcell hb
                have HBX := Lib.hid hb
                clear hb hz
                simp [depsS, Region.binds, updS, Stay.is, Stay.any] at hd
                go_simp
                first | exact ⟨Below.refl _ _, rfl⟩ | rfl
              apply rel_is
              · intro u wx hb hd
                have hz := hb.size
                (try simp only [World.size_alloc, World.size_setCell] at hz)
                have hz0 : w.heap.size < wx.heap.size := by omega
                have hz1 : bh < wx.heap.size := by omega
                obtain ⟨hc, hf⟩ := bcell hb
                have HBX := Lib.hid hb
                clear hb hz
                simp [depsS, Region.binds, updS, Stay.is, Stay.any] at hd
                go_simp
                first | rfl | (go_at_call 32; refine (HA1.out _ (Hp1.out.below (below_step HB3.out HBX.out))).mono ?_; rintro e w1 ⟨rfl, hb1⟩; first | exact ⟨rfl, hb1⟩ | exact ⟨_, rfl, hb1, rfl⟩)
              iterate 5
                apply rel_is
                · intro u wx hb hd
                  have hz := hb.size
                  (try simp only [World.size_alloc, World.size_setCell] at hz)
                  have hz0 : w.heap.size < wx.heap.size := by omega
                  have hz1 : bh < wx.heap.size := by omega
                  obtain ⟨hc, hf⟩ := bcell hb
                  have HBX := Lib.hid hb
                  clear hb hz
                  simp [depsS, Region.binds, updS, Stay.is, Stay.any] at hd
                  go_simp
                  first | exact ⟨Below.refl _ _, rfl⟩ | rfl
              apply rel_is
              · intro u wx hb hd
                have hz := hb.size
                (try simp only [World.size_alloc, World.size_setCell] at hz)
                have hz0 : w.heap.size < wx.heap.size := by omega
                have hz1 : bh < wx.heap.size := by omega
                obtain ⟨hc, hf⟩ := bcell hb
                have HBX := Lib.hid hb
                clear hb hz
                simp [depsS, Region.binds, updS, Stay.is, Stay.any] at hd
                go_simp
                first | rfl | (go_at_call 33; refine (HCR.out _ (H0.out.below (below_step HB3.out HBX.out)) (Hp1.out.below (below_step HB3.out HBX.out))).mono ?_; rintro e w1 ⟨rfl, hb1⟩; first | exact ⟨rfl, hb1⟩ | exact ⟨_, rfl, hb1, rfl⟩)
              iterate 7
                apply rel_is
                · intro u wx hb hd
                  have hz := hb.size
                  (try simp only [World.size_alloc, World.size_setCell] at hz)
                  have hz0 : w.heap.size < wx.heap.size := by omega
                  have hz1 : bh < wx.heap.size := by omega
                  obtain ⟨hc, hf⟩ := bcell hb
                  have HBX := Lib.hid hb
                  clear hb hz
                  simp [depsS, Region.binds, updS, Stay.is, Stay.any] at hd
                  go_simp
                  first | exact ⟨Below.refl _ _, rfl⟩ | rfl
              apply rel_is
              · intro u wx hb hd
                have hz := hb.size
                (try simp only [World.size_alloc, World.size_setCell] at hz)
                have hz0 : w.heap.size < wx.heap.size := by omega
                have hz1 : bh < wx.heap.size := by omega
                obtain ⟨hc, hf⟩ := bcell hb
                have HBX := Lib.hid hb
                clear hb hz
                simp [depsS, Region.binds, updS, Stay.is, Stay.any] at hd
                go_simp
                first | rfl | (go_at_call 34; refine (HWH.out _ (H0.out.below (below_step HB3.out HBX.out))).mono ?_; rintro e w1 ⟨rfl, hb1⟩; first | exact ⟨rfl, hb1⟩ | exact ⟨_, rfl, hb1, rfl⟩)
              iterate 2
                apply rel_is
                · intro u wx hb hd
                  have hz := hb.size
                  (try simp only [World.size_alloc, World.size_setCell] at hz)
                  have hz0 : w.heap.size < wx.heap.size := by omega
                  have hz1 : bh < wx.heap.size := by omega
                  obtain ⟨hc, hf⟩ := bcell hb
                  have HBX := Lib.hid hb
                  clear hb hz
                  simp [depsS, Region.binds, updS, Stay.is, Stay.any] at hd
                  go_simp
                  first | exact ⟨Below.refl _ _, rfl⟩ | rfl
              intro u w5 hb hE
              have e0 : u 0 = _ := endS_get hE 0 (by decide)
              have e1 : u 1 = _ := endS_get hE 1 (by decide)
              have e2 : u 2 = _ := endS_get hE 2 (by decide)
              have e3 : u 3 = _ := endS_get hE 3 (by decide)
              have e4 : u 4 = _ := endS_get hE 4 (by decide)
              have e5 : u 5 = _ := endS_get hE 5 (by decide)
              have e6 : u 6 = _ := endS_get hE 6 (by decide)
              have e7 : u 7 = _ := endS_get hE 7 (by decide)
              have e8 : u 8 = _ := endS_get hE 8 (by decide)
              have e9 : u 9 = _ := endS_get hE 9 (by decide)
              have e10 : u 10 = _ := endS_get hE 10 (by decide)
              have e11 : u 11 = _ := endS_get hE 11 (by decide)
              have e12 : u 12 = _ := endS_get hE 12 (by decide)
              have e13 : u 13 = _ := endS_get hE 13 (by decide)
              have e14 : u 14 = _ := endS_get hE 14 (by decide)
              have e15 : u 15 = _ := endS_get hE 15 (by decide)
              have e16 : u 16 = _ := endS_get hE 16 (by decide)
              have e17 : u 17 = _ := endS_get hE 17 (by decide)
              simp only [List.drop_succ_cons, List.drop_zero, List.take_succ_cons, List.take_zero, fillL, Act.put, List.setIfInBounds_toArray, List.set_cons_zero, List.set_cons_succ, e0, e1, e2, e3, e4, e5, e6, e7, e8, e9, e10, e11, e12, e13, e14, e15, e16, e17]
              clear e0 e1 e2 e3 e4 e5 e6 e7 e8 e9 e10 e11 e12 e13 e14 e15 e16 e17 hE
              have HBw5 := Lib.hid (below_step (w := w3) (by first | assumption | go_grown) hb)
              have HBXw5 := Lib.hid hb
              have hzw5 := hb.size
              (try simp only [World.size_alloc, World.size_setCell] at hzw5)
              have hzw50 : w.heap.size < w5.heap.size := by omega
              have hzw51 : bh < w5.heap.size := by omega
              obtain ⟨hcw5, hfw5⟩ := bcell hb
              clear hb hzw5
              have HB5 := Lib.hid (below_step HB3.out HBXw5.out)
              have HS5 : Hid (w5.heap[w.heap.size]? = some (.cells #[.slice oo no co, .slice (some ⟨bk1, fo, none⟩) m cq] 25)) := (HBXw5.out.block w.heap.size zw3).trans HS3.out
              have zw5 : w.heap.size < w5.heap.size := hzw50
              clear s0w3 s1w3 sfw3 szw3 g0 g1
              (try clear hcw5 hfw5)
              obtain ⟨s0w5, s1w5, sfw5, szw5⟩ := cells_at2 HS5.out
              go_wp2
              go_returns
              exact ⟨17, rfl, fun h => absurd h (by decide), HB5.out⟩
      · have kE1 : (E1 == 0) = false := by simpa using hE0
        have kE2 : (E1 != 0) = true := by simpa using hE0
        go_wp2
        go_returns
        exact ⟨E1, rfl, fun h => absurd h hE0, HB3.out⟩
    · have hfin : Hid (RefReg no P m hn H) := refReg_of (by omega) HPO.out HAP.out (fun i hi => hg1.out i (by omega)) (fun i hi => hg2.out i (by omega))
      go_wp2
      go_returns
      exact ⟨0, rfl, fun _ => hfin.out, HB1.out⟩
end Go.Proofs.YtgbhhjdmochhpaaDoor
namespace Go.Proofs.YtgbhhjdmochhpaaDoor
open Go Go.RowKit
set_option linter.unusedVariables false

theorem toList_inj {a b : ByteArray} (h : a.toList = b.toList) : a = b := by
  rw [ByteArray.toList_eq, ByteArray.toList_eq] at h
  have e2 := Array.ext' h
  cases a; cases b
  simp only at e2
  rw [e2]
end Go.Proofs.YtgbhhjdmochhpaaDoor
namespace Go.Proofs.YtgbhhjdmochhpaaDoor

section
variable {α : Type}

variable {r : α → α → Prop} (tr : ∀ x y z, r x y → r y z → r x z) (ir : ∀ x, ¬ r x x)

end
end Go.Proofs.YtgbhhjdmochhpaaDoor
namespace Go.Proofs.YtgbhhjdmochhpaaDoor
open Go Go.RowKit
set_option linter.unusedVariables false
set_option linter.unusedSimpArgs false
variable {P : Program}

/-- the values of a list of elements, one behind the other -/
def flatL {α : Type} (enc : α → List Value) (l : List α) : List Value := (l.map enc).flatten
theorem flatL_len {α : Type} {enc : α → List Value} {k : Nat} (hk : ∀ x, (enc x).length = k) : ∀ l : List α, (flatL enc l).length = l.length * k
  | [] => by simp [flatL]
  | x :: l => by
    have := flatL_len hk l
    simp only [flatL, List.map_cons, List.flatten_cons, List.length_append, List.length_cons, hk, Nat.succ_mul] at this ⊢
    omega
theorem flatL_at {α : Type} {enc : α → List Value} {k : Nat} (hk : ∀ x, (enc x).length = k) : ∀ (l : List α) (i j : Nat) (x : α), l[i]? = some x → j < k → (flatL enc l)[i * k + j]? = (enc x)[j]?
  | [], i, j, x, h, _ => by simp at h
  | y :: l, 0, j, x, h, hj => by
    have e : flatL enc (y :: l) = enc y ++ flatL enc l := by simp [flatL]
    simp only [List.getElem?_cons_zero, Option.some.injEq] at h
    subst h
    rw [e, Nat.zero_mul, Nat.zero_add, List.getElem?_append_left (by rw [hk]; exact hj)]
  | y :: l, i + 1, j, x, h, hj => by
    have e : flatL enc (y :: l) = enc y ++ flatL enc l := by simp [flatL]
    have h2 : l[i]? = some x := by simpa using h
    have hs : (i + 1) * k = i * k + k := Nat.succ_mul i k
    rw [e, List.getElem?_append_right (by rw [hk]; omega), hk, show (i + 1) * k + j - k = i * k + j by omega]
    exact flatL_at hk l i j x h2 hj
end Go.Proofs.YtgbhhjdmochhpaaDoor
namespace Go.Proofs.YtgbhhjdmochhpaaDoor
open Go Go.Shelf Go.RowKit
set_option linter.unusedVariables false
def lays146_ren : Go.Shelf.Ren := ⟨fun | 146 => 66 | 221 => 80 | 268 => 85 | 138 => 86 | 143 => 87 | 195 => 90 | 197 => 91 | 218 => 92 | 219 => 93 | 260 => 95 | 217 => 96 | 225 => 97 | 224 => 98 | 267 => 99 | 266 => 100 | 314 => 101 | n => n, fun | 9 => 9 | 31 => 70 | 3 => 3 | 4 => 4 | 0 => 0 | 105 => 102 | 21 => 21 | 5 => 5 | 46 => 106 | 119 => 107 | 139 => 110 | 138 => 109 | 146 => 112 | 51 => 111 | n => n, fun | 1 => 0 | 3 => 1 | 4 => 2 | n => n⟩
theorem lays146 : Go.Proofs.Lays.n146 Tryd.prog lays146_ren := {
  mixed := by kernel_rfl
  f138 := Tryd.func86.trans (congrArg some (by kernel_rfl))
  f143 := Tryd.func87.trans (congrArg some (by kernel_rfl))
  f146 := Tryd.func66.trans (congrArg some (by kernel_rfl))
  f195 := Tryd.func90.trans (congrArg some (by kernel_rfl))
  f197 := Tryd.func91.trans (congrArg some (by kernel_rfl))
  f217 := Tryd.func96.trans (congrArg some (by kernel_rfl))
  f218 := Tryd.func92.trans (congrArg some (by kernel_rfl))
  f219 := Tryd.func93.trans (congrArg some (by kernel_rfl))
  f221 := Tryd.func80.trans (congrArg some (by kernel_rfl))
  f224 := Tryd.func98.trans (congrArg some (by kernel_rfl))
  f225 := Tryd.func97.trans (congrArg some (by kernel_rfl))
  f260 := Tryd.func95.trans (congrArg some (by kernel_rfl))
  f266 := Tryd.func100.trans (congrArg some (by kernel_rfl))
  f267 := Tryd.func99.trans (congrArg some (by kernel_rfl))
  f268 := Tryd.func85.trans (congrArg some (by kernel_rfl))
  f314 := Tryd.func101.trans (congrArg some (by kernel_rfl))
  t0 := Tryd.underlying0
  a0 := Tryd.isAgg0
  z0 := Tryd.sizeOf0
  v0 := Tryd.zeroValue0
  t3 := Tryd.underlying3
  a3 := Tryd.isAgg3
  z3 := Tryd.sizeOf3
  v3 := Tryd.zeroValue3
  t4 := Tryd.underlying4
  a4 := Tryd.isAgg4
  z4 := Tryd.sizeOf4
  v4 := Tryd.zeroValue4
  t5 := Tryd.underlying5
  a5 := Tryd.isAgg5
  z5 := Tryd.sizeOf5
  v5 := Tryd.zeroValue5
  t9 := Tryd.underlying9
  a9 := Tryd.isAgg9
  z9 := Tryd.sizeOf9
  v9 := Tryd.zeroValue9
  t21 := Tryd.underlying21
  a21 := Tryd.isAgg21
  z21 := Tryd.sizeOf21
  v21 := Tryd.zeroValue21
  t31 := Tryd.underlying70
  a31 := Tryd.isAgg70
  z31 := Tryd.sizeOf70
  v31 := Tryd.zeroValue70
  t46 := Tryd.underlying106
  a46 := Tryd.isAgg106
  z46 := Tryd.sizeOf106
  v46 := Tryd.zeroValue106
  t51 := Tryd.underlying111
  a51 := Tryd.isAgg111
  z51 := Tryd.sizeOf111
  v51 := Tryd.zeroValue111
  t105 := Tryd.underlying102
  a105 := Tryd.isAgg102
  z105 := Tryd.sizeOf102
  v105 := Tryd.zeroValue102
  t119 := Tryd.underlying107
  a119 := Tryd.isAgg107
  z119 := Tryd.sizeOf107
  t138 := Tryd.underlying109
  a138 := Tryd.isAgg109
  z138 := Tryd.sizeOf109
  v138 := Tryd.zeroValue109
  t139 := Tryd.underlying110
  a139 := Tryd.isAgg110
  z139 := Tryd.sizeOf110
  v139 := Tryd.zeroValue110
  t146 := Tryd.underlying112
  a146 := Tryd.isAgg112
  z146 := Tryd.sizeOf112
  v146 := Tryd.zeroValue112
  g1 := by kernel_rfl
  g3 := by kernel_rfl
  g4 := by kernel_rfl }

/-- the variable that strings.Split reads holds an int -/
def MaxLenIs (w : World) : Prop := ∃ m : Int, w.cell? ⟨0, 0, none⟩ = some (.int .i64 m)
theorem maxLen_of (w : World) (h : w.ShapedOpen Tryd.prog) : MaxLenIs w :=
  Go.Proofs.cell_of_shapedOpen_int (zero := #[.int .i64 0]) (t := 3) h (of_decide_eq_true (by kernel_rfl)) (by kernel_rfl) rfl (by kernel_rfl) (by kernel_rfl) Tryd.underlying3
theorem MaxLenIs.below {w w' : World} (h : MaxLenIs w) (hb : Below w.heap.size w w') : MaxLenIs w' := by
  obtain ⟨m, hm⟩ := h
  exact ⟨m, (hb.cell (p := ⟨_, _, none⟩) (World.block_lt_of_cell? _ _ hm)).trans hm⟩
theorem split_any (s sep : ByteArray) (w : World) (hs : s.size < 4294967281) (hm : MaxLenIs w) (h1 : 1 ≤ sep.size) :
    Calls Tryd.prog 66 #[.string s, .string sep] w fun e w' =>
      e = .returned (.slice (some ⟨w.heap.size, 0, none⟩) (Lib.countB s sep + 1) (Lib.countB s sep + 1)) ∧ w' = w.alloc (.cells ((Lib.splitB sep 0 (Lib.countB s sep) s).map Value.string).toArray 9) := by
  obtain ⟨m, hm⟩ := hm
  exact Any.strings_Split lays146 (by kernel_rfl) s sep m w hs hm h1
end Go.Proofs.YtgbhhjdmochhpaaDoor
namespace Go.Proofs.YtgbhhjdmochhpaaDoor
open Go.RowKit
set_option linter.unusedSimpArgs false

/-- the byte at a place -/
def byteAt (s : ByteArray) (i : Nat) : Nat := if h : i < s.size then (s[i]'h).toNat else 0
theorem byteAt_eq (s : ByteArray) (i : Nat) (h : i < s.size) : byteAt s i = (s[i]'h).toNat := dif_pos h
def LetterN (c : Nat) : Prop := (65 ≤ c ∧ c ≤ 90) ∨ (97 ≤ c ∧ c ≤ 122)
def FurtherN (c : Nat) : Prop := (48 ≤ c ∧ c ≤ 57) ∨ c = 95 ∨ c = 45
def OkAt (s : ByteArray) (i : Nat) : Prop := LetterN (byteAt s i) ∨ (0 < i ∧ FurtherN (byteAt s i))
instance okAt_dec (s : ByteArray) (i : Nat) : Decidable (OkAt s i) := by unfold OkAt LetterN FurtherN; exact inferInstance
def NameOk (s : ByteArray) : Prop := 1 ≤ s.size ∧ s.size ≤ 16 ∧ ∀ i, i < s.size → OkAt s i
instance nameOk_dec (s : ByteArray) : Decidable (NameOk s) := by unfold NameOk; exact inferInstance
def nameB (s : ByteArray) : Bool := decide (NameOk s)

theorem iter_below (w : World) (s : ByteArray) (p : Nat) : Below w.heap.size w (w.iter s p) := (Below.refl _ _).alloc (Nat.le_refl _) _

theorem next_byte {P : Program} (w : World) (s : ByteArray) (p c : Nat) (ty : TypeId) (h : p < s.size) (hc : byteAt s p = c) (ha : c < 128) :
    (Instr.next (.pointer (some ⟨w.heap.size, 0, none⟩)) true ty).run P (w.iter s p) = .ok (.tuple #[.bool true, .int .i64 p, .int .i32 c]) (w.iter s (p + 1)) := by
  rw [byteAt_eq s p h] at hc
  rw [run_next_ascii w s p ty h (by omega), hc]
theorem next_high {P : Program} (w : World) (s : ByteArray) (p : Nat) (ty : TypeId) (h : p < s.size) (ha : 128 ≤ byteAt s p) :
    ∃ (r q : Nat), 128 ≤ r ∧ r ≤ 2147483647 ∧ (Instr.next (.pointer (some ⟨w.heap.size, 0, none⟩)) true ty).run P (w.iter s p) = .ok (.tuple #[.bool true, .int .i64 p, .int .i32 r]) (w.iter s q) := by
  rw [byteAt_eq s p h] at ha
  exact ⟨_, _, (decode_high s p h ha).1, decode_le s p, run_next_any w s p ty h⟩

set_option maxHeartbeats 2000000 in
theorem isName_yes (s : ByteArray) (w : World) (h : NameOk s) :
    Calls Tryd.prog 79 #[.string s] w fun e w' => e = .returned (.bool true) ∧ Below w.heap.size w w' := by
  obtain ⟨h1, h16, hall⟩ := h
  have he : s.toList.isEmpty = false := by
    rw [ByteArray.toList_eq]; simp; intro e; have : s.size = 0 := by simp [ByteArray.size, e]
    omega
  have hle : decide (16 < (s.size : Int)) = false := decide_eq_false (by omega)
  have H := Lib.hid hall
  clear hall
  go_enter Tryd.func79, Tryd.ntmps79
  go_wp2
  go_loopw [] (fun wr => ∃ p, p ≤ s.size ∧ wr = w.iter s p) (fun wr => s.size - wr.iterPos w.heap.size)
  case atStart => exact ⟨0, by omega, rfl⟩
  case round =>
    obtain ⟨p, hp, rfl⟩ := hrel
    by_cases hlt : p < s.size
    · have hok := H.out p hlt
      obtain ⟨c, hc⟩ : ∃ c, byteAt s p = c := ⟨_, rfl⟩
      unfold OkAt at hok
      rw [hc] at hok
      have hc128 : c < 128 := by unfold LetterN FurtherN at hok; omega
      have hnx := fun ty => next_byte (P := Tryd.prog) w s p c ty hlt hc hc128
      clear hc
      rcases hok with (⟨k0, k1⟩ | ⟨k0, k1⟩) | ⟨k2, (⟨k0, k1⟩ | k0 | k0)⟩
      all_goals (try subst k0)
      all_goals go_wp2
      all_goals go_roundw
      all_goals first | (case rel => exact ⟨p + 1, by omega, rfl⟩) | (case measure => simp; omega)
    · have hnx := fun ty => run_next_end (P := Tryd.prog) w s p ty hlt
      go_wp2
      go_ret
      exact ⟨rfl, iter_below _ _ _⟩

theorem empty_toList {s : ByteArray} (h : s.size = 0) : s.toList = [] := by
  rw [ByteArray.toList_eq]
  obtain ⟨⟨l⟩⟩ := s
  simp [ByteArray.size] at h ⊢
  exact h
theorem full_toList {s : ByteArray} (h : 1 ≤ s.size) : s.toList.isEmpty = false := by
  rw [ByteArray.toList_eq]; simp; intro e; have : s.size = 0 := by simp [ByteArray.size, e]
  omega

set_option maxHeartbeats 2000000 in
theorem isName_no (s : ByteArray) (w : World) (hs : s.size ≤ 9223372036854775807) (h : ¬ NameOk s) :
    Calls Tryd.prog 79 #[.string s] w fun e w' => e = .returned (.bool false) ∧ Below w.heap.size w w' := by
  have HN := Lib.hid h
  clear h
  by_cases h0 : s.size = 0
  · have he := empty_toList h0
    clear h0
    go_enter Tryd.func79, Tryd.ntmps79
    go_wp2
    go_returns
    exact ⟨rfl, by go_grown⟩
  have he := full_toList (s := s) (by omega)
  by_cases h16 : 16 < s.size
  · have hle : decide (16 < (s.size : Int)) = true := decide_eq_true (by omega)
    go_enter Tryd.func79, Tryd.ntmps79
    go_wp2
    go_returns
    exact ⟨rfl, by go_grown⟩
  have hle : decide (16 < (s.size : Int)) = false := decide_eq_false (by omega)
  have h1 : 1 ≤ s.size := by omega
  have h17 : s.size ≤ 16 := by omega
  clear h0 h16
  go_enter Tryd.func79, Tryd.ntmps79
  go_wp2
  go_loopw [] (fun wr => ∃ p, p ≤ s.size ∧ wr = w.iter s p ∧ Hid (∀ i, i < p → OkAt s i)) (fun wr => s.size - wr.iterPos w.heap.size)
  case atStart => exact ⟨0, by omega, rfl, fun i hi => by omega⟩
  case round =>
    obtain ⟨p, hp, rfl, hall⟩ := hrel
    by_cases hlt : p < s.size
    · obtain ⟨c, hc⟩ : ∃ c, byteAt s p = c := ⟨_, rfl⟩
      by_cases hok : OkAt s p
      · have hall2 : Hid (∀ i, i < p + 1 → OkAt s i) := fun i hi => by
          by_cases e : i = p
          · subst e; exact hok
          · exact hall.out i (by omega)
        unfold OkAt at hok
        rw [hc] at hok
        have hc128 : c < 128 := by unfold LetterN FurtherN at hok; omega
        have hnx := fun ty => next_byte (P := Tryd.prog) w s p c ty hlt hc hc128
        clear hc
        rcases hok with (⟨k0, k1⟩ | ⟨k0, k1⟩) | ⟨k2, (⟨k0, k1⟩ | k0 | k0)⟩
        all_goals (try subst k0)
        all_goals go_wp2
        all_goals go_roundw
        all_goals first | (case rel => exact ⟨p + 1, by omega, rfl, hall2⟩) | (case measure => simp; omega)
      · unfold OkAt LetterN FurtherN at hok
        rw [hc] at hok
        by_cases hc128 : c < 128
        · have hnx := fun ty => next_byte (P := Tryd.prog) w s p c ty hlt hc hc128
          clear hc
          by_cases hp0 : p = 0
          · subst hp0
            have k1 : ¬ (65 ≤ c ∧ c ≤ 90) := fun h => hok (.inl (.inl h))
            have k2 : ¬ (97 ≤ c ∧ c ≤ 122) := fun h => hok (.inl (.inr h))
            clear hok
            go_wp2
            all_goals first | (exfalso; omega) | (go_returns; exact ⟨rfl, iter_below _ _ _⟩) | (exfalso; simp only [Bool.not_eq_false', Bool.not_eq_true', decide_eq_true_eq, decide_eq_false_iff_not, beq_eq_false_iff_ne, beq_iff_eq] at *; omega)
          · have k0 : 0 < p := by omega
            have k1 : ¬ (65 ≤ c ∧ c ≤ 90) := fun h => hok (.inl (.inl h))
            have k2 : ¬ (97 ≤ c ∧ c ≤ 122) := fun h => hok (.inl (.inr h))
            have k3 : ¬ (48 ≤ c ∧ c ≤ 57) := fun h => hok (.inr ⟨k0, .inl h⟩)
            have k4 : ((c : Int) == 95) = false := by simp; intro h; exact hok (.inr ⟨k0, .inr (.inl (by omega))⟩)
            have k5 : ((c : Int) == 45) = false := by simp; intro h; exact hok (.inr ⟨k0, .inr (.inr (by omega))⟩)
            clear hok hp0
            go_wp2
            all_goals first | (exfalso; omega) | (go_returns; exact ⟨rfl, iter_below _ _ _⟩) | (exfalso; simp only [Bool.not_eq_false', Bool.not_eq_true', decide_eq_true_eq, decide_eq_false_iff_not, beq_eq_false_iff_ne, beq_iff_eq] at *; omega)
        · obtain ⟨r, q, hr0, hr1, hnx0⟩ := next_high (P := Tryd.prog) w s p 21 hlt (by omega)
          have hnx : ∀ ty, (Instr.next (.pointer (some ⟨w.heap.size, 0, none⟩)) true ty).run Tryd.prog (w.iter s p) = .ok (.tuple #[.bool true, .int .i64 p, .int .i32 r]) (w.iter s q) := fun ty => hnx0
          clear hnx0 hc hok
          have k4 : ((r : Int) == 95) = false := by simp; omega
          have k5 : ((r : Int) == 45) = false := by simp; omega
          go_wp2
          all_goals first | (exfalso; omega) | (go_returns; exact ⟨rfl, iter_below _ _ _⟩) | (exfalso; simp only [Bool.not_eq_false', Bool.not_eq_true', decide_eq_true_eq, decide_eq_false_iff_not, beq_eq_false_iff_ne, beq_iff_eq] at *; omega)
    · exact absurd ⟨h1, h17, fun i hi => hall.out i (by omega)⟩ HN.out
theorem isName_any (s : ByteArray) (w : World) (hs : s.size ≤ 9223372036854775807) :
    Calls Tryd.prog 79 #[.string s] w fun e w' => e = .returned (.bool (nameB s)) ∧ Below w.heap.size w w' := by
  by_cases h : NameOk s
  · rw [show nameB s = true from decide_eq_true h]; exact isName_yes s w h
  · rw [show nameB s = false from decide_eq_false h]; exact isName_no s w hs h
end Go.Proofs.YtgbhhjdmochhpaaDoor
namespace Go.Proofs.YtgbhhjdmochhpaaDoor
open Go Go.RowKit
set_option linter.unusedVariables false
set_option linter.unusedSimpArgs false

theorem index_cons (b c : UInt8) (l : List UInt8) : Lib.index (b :: l) [c] = if b = c then 0 else if Lib.index l [c] = -1 then -1 else Lib.index l [c] + 1 := by
  rw [Lib.index]
  by_cases h : b = c
  · subst h; simp [List.isPrefixOf]
  · have hp : ([c] : List UInt8).isPrefixOf (b :: l) = false := by simp [List.isPrefixOf, Ne.symm h]
    rw [hp, if_neg h]
    simp
theorem index_nil (c : UInt8) : Lib.index [] [c] = -1 := by simp [Lib.index]
theorem index_none (c : UInt8) : ∀ l : List UInt8, (∀ b ∈ l, b ≠ c) → Lib.index l [c] = -1
  | [], _ => index_nil c
  | b :: l, h => by
    rw [index_cons, if_neg (h b (by simp)), if_pos (index_none c l (fun b hb => h b (by simp [hb])))]
theorem index_at (c : UInt8) : ∀ (j : Nat) (l : List UInt8), (∀ k b, k < j → l[k]? = some b → b ≠ c) → l[j]? = some c → Lib.index l [c] = j
  | _, [], _, h => by simp at h
  | 0, b :: l, _, h => by
    have : b = c := by simpa using h
    rw [index_cons, if_pos this]; rfl
  | j + 1, b :: l, hn, h => by
    have ih := index_at c j l (fun k x hk hx => hn (k + 1) x (by omega) (by simpa using hx)) (by simpa using h)
    rw [index_cons, if_neg (hn 0 b (by omega) (by simp)), ih, if_neg (by omega)]
    omega
theorem byte_get (s : ByteArray) (i : Nat) (h : i < s.size) : ∃ b : UInt8, s.data.toList[i]? = some b ∧ b.toNat = byteAt s i := by
  refine ⟨s.data.toList[i]'(by rw [← Lib.size_eq]; exact h), List.getElem?_eq_getElem _, ?_⟩
  rw [byteAt_eq s i h]
  rfl

abbrev dot : ByteArray := ⟨#[46]⟩
theorem extract_get (s : ByteArray) (f j : Nat) : (s.extract f s.size).data.toList[j]? = s.data.toList[f + j]? := by
  rw [Lib.extract_to_end, List.getElem?_drop]

/-- what stands between the full stops, from a place on -/
def partsR (s : ByteArray) : Nat → Nat → Nat → List ByteArray
  | 0, f, _ => [s.extract f s.size]
  | k + 1, f, i => if byteAt s i = 46 then s.extract f i :: partsR s k (i + 1) (i + 1) else partsR s k f (i + 1)
def pieces (s : ByteArray) : List ByteArray := partsR s s.size 0 0

theorem index_dot (s : ByteArray) (f i : Nat) (hf : f ≤ i) (hi : i < s.size) (hn : ∀ j, f ≤ j → j < i → byteAt s j ≠ 46) (h : byteAt s i = 46) : Lib.indexB (s.extract f s.size) dot = ((i - f : Nat) : Int) := by
  refine index_at 46 (i - f) _ (fun k b hk hb => ?_) ?_
  · rw [extract_get] at hb
    obtain ⟨b', hb', e⟩ := byte_get s (f + k) (by omega)
    rw [hb] at hb'
    obtain rfl : b = b' := by simpa using hb'
    intro e2
    subst e2
    exact hn (f + k) (by omega) (by omega) e.symm
  · rw [extract_get, show f + (i - f) = i by omega]
    obtain ⟨b', hb', e⟩ := byte_get s i hi
    rw [hb', show b' = 46 from UInt8.toNat_inj.1 (by rw [e, h]; rfl)]
theorem index_nodot (s : ByteArray) (f : Nat) (hn : ∀ j, f ≤ j → j < s.size → byteAt s j ≠ 46) : Lib.indexB (s.extract f s.size) dot = -1 := by
  refine index_none 46 _ (fun b hb e => ?_)
  obtain ⟨k, hk, rfl⟩ := List.mem_iff_getElem.1 hb
  have h1 : (s.extract f s.size).data.toList[k]? = some ((s.extract f s.size).data.toList[k]) := List.getElem?_eq_getElem hk
  rw [extract_get, e] at h1
  have hlt : f + k < s.size := by
    have := (List.getElem?_eq_some_iff.1 h1).1
    rw [Lib.size_eq]; exact this
  obtain ⟨b', hb', e'⟩ := byte_get s (f + k) hlt
  rw [h1] at hb'
  obtain rfl : (46 : UInt8) = b' := by simpa using hb'
  exact hn (f + k) (by omega) hlt e'.symm

theorem extract_two (s : ByteArray) (f a : Nat) (h : f + a ≤ s.size) : (s.extract f s.size).extract a (s.extract f s.size).size = s.extract (f + a) s.size := by
  have e1 : ((s.extract f s.size).extract a (s.extract f s.size).size).data.toList = (s.extract (f + a) s.size).data.toList := by
    rw [Lib.extract_to_end, Lib.extract_to_end, Lib.extract_to_end, List.drop_drop]
  have e2 := Array.ext' e1
  generalize (s.extract f s.size).extract a (s.extract f s.size).size = p at *
  generalize s.extract (f + a) s.size = q at *
  cases p; cases q
  simp only at e2
  rw [e2]
theorem extract_front (s : ByteArray) (f i : Nat) (hf : f ≤ i) (hi : i ≤ s.size) : (s.extract f s.size).extract 0 (i - f) = s.extract f i := by
  have e1 : ((s.extract f s.size).extract 0 (i - f)).data.toList = (s.extract f i).data.toList := by
    rw [Lib.extract_from_zero, Lib.extract_to_end, Lib.extract_data]
  have e2 := Array.ext' e1
  generalize (s.extract f s.size).extract 0 (i - f) = p at *
  generalize s.extract f i = q at *
  cases p; cases q
  simp only at e2
  rw [e2]

theorem split_parts (s : ByteArray) : ∀ (k f i : Nat), i + k = s.size → f ≤ i → (∀ j, f ≤ j → j < i → byteAt s j ≠ 46) →
    Lib.splitB dot 0 (Lib.countB (s.extract f s.size) dot) (s.extract f s.size) = partsR s k f i
  | 0, f, i, hk, hf, hn => by
    have h := index_nodot s f (fun j h1 h2 => hn j h1 (by omega))
    rw [Lib.countB_miss _ _ h, Lib.splitB_zero]
    rfl
  | k + 1, f, i, hk, hf, hn => by
    unfold partsR
    by_cases h : byteAt s i = 46
    · rw [if_pos h]
      have hi := index_dot s f i hf (by omega) hn h
      rw [Lib.countB_hit _ _ _ (by decide) hi, show (1 + Lib.countB ((s.extract f s.size).extract (i - f + dot.size) (s.extract f s.size).size) dot) = Lib.countB ((s.extract f s.size).extract (i - f + dot.size) (s.extract f s.size).size) dot + 1 by omega,
        Lib.splitB_hit _ _ _ _ _ hi]
      have hd : dot.size = 1 := rfl
      rw [Nat.add_zero, hd, extract_two s f (i - f + 1) (by omega), extract_front s f i hf (by omega), show f + (i - f + 1) = i + 1 by omega]
      rw [split_parts s k (i + 1) (i + 1) (by omega) (Nat.le_refl _) (fun j h1 h2 => by omega)]
    · rw [if_neg h]
      refine split_parts s k f (i + 1) (by omega) (by omega) (fun j h1 h2 => ?_)
      by_cases e : j = i
      · rw [e]; exact h
      · exact hn j h1 (by omega)
theorem extract_all (s : ByteArray) : s.extract 0 s.size = s := by
  have e1 : (s.extract 0 s.size).data.toList = s.data.toList := by rw [Lib.extract_to_end]; rfl
  have e2 := Array.ext' e1
  cases s
  generalize ByteArray.extract _ _ _ = p at *
  cases p
  simp only at e2
  rw [e2]
theorem split_pieces (s : ByteArray) : Lib.splitB dot 0 (Lib.countB s dot) s = pieces s := by
  have := split_parts s s.size 0 0 (by omega) (Nat.le_refl _) (fun j h1 h2 => by omega)
  rw [extract_all] at this
  exact this
theorem pieces_len (s : ByteArray) : (pieces s).length = Lib.countB s dot + 1 := by
  rw [← split_pieces]; exact Lib.splitB_all dot (by decide) 0 _ s rfl
theorem partsR_len (s : ByteArray) : ∀ k f i, 1 ≤ (partsR s k f i).length ∧ (partsR s k f i).length ≤ k + 1
  | 0, _, _ => by simp [partsR]
  | k + 1, f, i => by
    unfold partsR
    split
    · have := partsR_len s k (i + 1) (i + 1); simp only [List.length_cons]; omega
    · have := partsR_len s k f (i + 1); omega
def sizes : List ByteArray → Nat
  | [] => 0
  | p :: l => p.size + sizes l
theorem partsR_sizes (s : ByteArray) : ∀ k f i, i + k = s.size → f ≤ i → sizes (partsR s k f i) + (partsR s k f i).length = s.size - f + 1
  | 0, f, i, hk, hf => by simp [partsR, sizes, ByteArray.size_extract]
  | k + 1, f, i, hk, hf => by
    unfold partsR
    split
    · have := partsR_sizes s k (i + 1) (i + 1) (by omega) (Nat.le_refl _)
      simp only [List.length_cons, sizes, ByteArray.size_extract]
      omega
    · exact partsR_sizes s k f (i + 1) (by omega) (by omega)
theorem pieces_sizes (s : ByteArray) : sizes (pieces s) + (pieces s).length = s.size + 1 := by
  have := partsR_sizes s s.size 0 0 (by omega) (Nat.le_refl _)
  rw [Nat.sub_zero] at this
  exact this
theorem sizes_append : ∀ a b : List ByteArray, sizes (a ++ b) = sizes a + sizes b
  | [], b => by simp [sizes]
  | p :: a, b => by simp only [List.cons_append, sizes, sizes_append a b]; omega

/-- an identifier -/
def idB (s : ByteArray) : Bool := decide (s.size ≤ 64) && decide ((pieces s).length ≤ 8) && (pieces s).all nameB

/-- a list of strings in memory -/
def StrsAt (w : World) (v : Value) (l : List ByteArray) : Prop := SliceAt w v l.length 1 (fun i _ => .string (l.getD i ⟨#[]⟩)) ∧ l.length ≤ 4294967296 ∧ ∀ p ∈ l, p.size ≤ 4294967296
theorem StrsAt.below {w w' : World} {v : Value} {l : List ByteArray} (h : StrsAt w v l) (hb : Below w.heap.size w w') : StrsAt w' v l := ⟨h.1.below hb, h.2⟩
theorem StrsAt.form {w : World} {v : Value} {l : List ByteArray} (h : StrsAt w v l) : ∃ (oa : Option Addr) (cap : Nat), v = .slice oa l.length cap ∧ l.length ≤ 4294967296 ∧ (∀ i, i < l.length → (l.getD i ⟨#[]⟩).size ≤ 4294967296) ∧
    ∀ i, i < l.length → ∃ b off, oa = some ⟨b, off, none⟩ ∧ b < w.heap.size ∧ ∀ k, k < l.length → w.cell? ⟨b, off + k, none⟩ = some (.string (l.getD k ⟨#[]⟩)) := by
  obtain ⟨⟨oa, cap, h1, h2, h3, h4⟩, hlen, hsz⟩ := h
  refine ⟨oa, cap, h1, hlen, fun i hi => hsz _ ?_, fun i hi => ?_⟩
  · rw [List.getD_eq_getElem?_getD, List.getElem?_eq_getElem hi]; exact List.getElem_mem hi
  · obtain ⟨b, off, e, hlt, hc⟩ := h4 (by omega)
    exact ⟨b, off, e, hlt, fun k hk => by have := hc k 0 hk (by decide); simpa using this⟩
end Go.Proofs.YtgbhhjdmochhpaaDoor
namespace Go.Proofs.YtgbhhjdmochhpaaDoor
open Go Go.RowKit
set_option linter.unusedVariables false
set_option linter.unusedSimpArgs false

/-- a plate -/
structure Sh where
  id : ByteArray
  grade : ByteArray
  thick : Int
  len : Int
  wid : Int
  heat : ByteArray
/-- a bar -/
structure Br where
  id : ByteArray
  sect : ByteArray
  grade : ByteArray
  len : Int
  heat : ByteArray
def Sh.enc (x : Sh) : List Value := [.string x.id, .string x.grade, .int .i64 x.thick, .int .i64 x.len, .int .i64 x.wid, .string x.heat]
def Br.enc (x : Br) : List Value := [.string x.id, .string x.sect, .string x.grade, .int .i64 x.len, .string x.heat]
def Sh.val (x : Sh) : Value := .agg #[.string x.id, .string x.grade, .int .i64 x.thick, .int .i64 x.len, .int .i64 x.wid, .string x.heat]
def Br.val (x : Br) : Value := .agg #[.string x.id, .string x.sect, .string x.grade, .int .i64 x.len, .string x.heat]
def Sh.none : Sh := ⟨⟨#[]⟩, ⟨#[]⟩, 0, 0, 0, ⟨#[]⟩⟩
def Br.none : Br := ⟨⟨#[]⟩, ⟨#[]⟩, ⟨#[]⟩, 0, ⟨#[]⟩⟩
theorem Sh.enc_len (x : Sh) : x.enc.length = 6 := rfl
theorem Br.enc_len (x : Br) : x.enc.length = 5 := rfl
theorem Sh.enc_one (x : Sh) : ∀ v ∈ x.enc, v.oneCell' = true := by
  intro v hv
  simp only [Sh.enc, List.mem_cons, List.not_mem_nil, or_false] at hv
  rcases hv with rfl | rfl | rfl | rfl | rfl | rfl <;> rfl
theorem Br.enc_one (x : Br) : ∀ v ∈ x.enc, v.oneCell' = true := by
  intro v hv
  simp only [Br.enc, List.mem_cons, List.not_mem_nil, or_false] at hv
  rcases hv with rfl | rfl | rfl | rfl | rfl <;> rfl
/-- plates in memory -/
def ShAt (w : World) (v : Value) (n : Nat) (e : Nat → Sh) : Prop :=
  SliceAt w v n 6 (fun i j => match j with | 0 => .string (e i).id | 1 => .string (e i).grade | 2 => .int .i64 (e i).thick | 3 => .int .i64 (e i).len | 4 => .int .i64 (e i).wid | _ => .string (e i).heat)
def BrAt (w : World) (v : Value) (n : Nat) (e : Nat → Br) : Prop :=
  SliceAt w v n 5 (fun i j => match j with | 0 => .string (e i).id | 1 => .string (e i).sect | 2 => .string (e i).grade | 3 => .int .i64 (e i).len | _ => .string (e i).heat)
theorem ShAt.below {w w' : World} {v : Value} {n : Nat} {e : Nat → Sh} (h : ShAt w v n e) (hb : Below w.heap.size w w') : ShAt w' v n e := SliceAt.below h hb
theorem BrAt.below {w w' : World} {v : Value} {n : Nat} {e : Nat → Br} (h : BrAt w v n e) (hb : Below w.heap.size w w') : BrAt w' v n e := SliceAt.below h hb
theorem ShAt.form {w : World} {v : Value} {n : Nat} {e : Nat → Sh} (h : ShAt w v n e) : ∃ (oa : Option Addr) (cap : Nat), v = .slice oa n cap ∧ n ≤ cap ∧ cap ≤ 9223372036854775807 ∧
    ∀ i, i < n → ∃ b off, oa = some ⟨b, off, none⟩ ∧ b < w.heap.size ∧ ∀ k, k < n → w.cell? ⟨b, off + k * 6, none⟩ = some (.string (e k).id) ∧ w.cell? ⟨b, off + k * 6 + 1, none⟩ = some (.string (e k).grade) ∧ w.cell? ⟨b, off + k * 6 + 2, none⟩ = some (.int .i64 (e k).thick) ∧ w.cell? ⟨b, off + k * 6 + 3, none⟩ = some (.int .i64 (e k).len) ∧ w.cell? ⟨b, off + k * 6 + 4, none⟩ = some (.int .i64 (e k).wid) ∧ w.cell? ⟨b, off + k * 6 + 5, none⟩ = some (.string (e k).heat) := by
  obtain ⟨oa, cap, h1, h2, h3, h4⟩ := h
  refine ⟨oa, cap, h1, h2, h3, fun i hi => ?_⟩
  obtain ⟨b, off, e', hlt, hc⟩ := h4 (by omega)
  exact ⟨b, off, e', hlt, fun k hk => ⟨hc k 0 hk (by decide), hc k 1 hk (by decide), hc k 2 hk (by decide), hc k 3 hk (by decide), hc k 4 hk (by decide), hc k 5 hk (by decide)⟩⟩
theorem BrAt.form {w : World} {v : Value} {n : Nat} {e : Nat → Br} (h : BrAt w v n e) : ∃ (oa : Option Addr) (cap : Nat), v = .slice oa n cap ∧ n ≤ cap ∧ cap ≤ 9223372036854775807 ∧
    ∀ i, i < n → ∃ b off, oa = some ⟨b, off, none⟩ ∧ b < w.heap.size ∧ ∀ k, k < n → w.cell? ⟨b, off + k * 5, none⟩ = some (.string (e k).id) ∧ w.cell? ⟨b, off + k * 5 + 1, none⟩ = some (.string (e k).sect) ∧ w.cell? ⟨b, off + k * 5 + 2, none⟩ = some (.string (e k).grade) ∧ w.cell? ⟨b, off + k * 5 + 3, none⟩ = some (.int .i64 (e k).len) ∧ w.cell? ⟨b, off + k * 5 + 4, none⟩ = some (.string (e k).heat) := by
  obtain ⟨oa, cap, h1, h2, h3, h4⟩ := h
  refine ⟨oa, cap, h1, h2, h3, fun i hi => ?_⟩
  obtain ⟨b, off, e', hlt, hc⟩ := h4 (by omega)
  exact ⟨b, off, e', hlt, fun k hk => ⟨hc k 0 hk (by decide), hc k 1 hk (by decide), hc k 2 hk (by decide), hc k 3 hk (by decide), hc k 4 hk (by decide)⟩⟩
def rowL {α : Type} (e : Nat → α) (n : Nat) : List α := (List.range n).map e
theorem rowL_len {α : Type} (e : Nat → α) (n : Nat) : (rowL e n).length = n := by simp [rowL]
theorem rowL_at {α : Type} (e : Nat → α) {n i : Nat} (h : i < n) : (rowL e n)[i]? = some (e i) := by simp [rowL, h]
theorem flat_cells_at {α : Type} {enc : α → List Value} {k : Nat} {w : World} {b off n : Nat} {e : Nat → α} (hk : ∀ x, (enc x).length = k) (hp : 0 < k)
    (h : ∀ i j, i < n → j < k → w.cell? ⟨b, off + (i * k + j), none⟩ = (enc (e i))[j]?) : ∀ j u, (flatL enc (rowL e n))[j]? = some u → w.cell? ⟨b, off + j, none⟩ = some u := by
  intro j u hj
  have hl : j < n * k := by
    have := (List.getElem?_eq_some_iff.1 hj).1
    rwa [flatL_len hk, rowL_len] at this
  have hd := Nat.div_add_mod j k
  have hm := Nat.mod_lt j hp
  have hi : j / k < n := Nat.div_lt_of_lt_mul (by rw [Nat.mul_comm]; exact hl)
  have e1 : j / k * k + j % k = j := by rw [Nat.mul_comm]; exact hd
  have h2 := flatL_at hk (rowL e n) (j / k) (j % k) (e (j / k)) (rowL_at e hi) hm
  rw [e1, hj] at h2
  rw [← e1, h _ _ hi hm, ← h2]
theorem ShAt.flat {w : World} {b off n cap : Nat} {e : Nat → Sh} (h : ShAt w (.slice (some ⟨b, off, none⟩) n cap) n e) : ∀ j u, (flatL Sh.enc (rowL e n))[j]? = some u → w.cell? ⟨b, off + j, none⟩ = some u := by
  refine flat_cells_at Sh.enc_len (by decide) fun i j hi hj => ?_
  obtain ⟨oa, cap', h1, h2, h3, h4⟩ := h
  obtain ⟨b', off', e', hlt, hc⟩ := h4 (by omega)
  cases h1
  cases e'
  rw [hc i j hi hj]
  match j, hj with
  | 0, _ => rfl
  | 1, _ => rfl
  | 2, _ => rfl
  | 3, _ => rfl
  | 4, _ => rfl
  | 5, _ => rfl
theorem BrAt.flat {w : World} {b off n cap : Nat} {e : Nat → Br} (h : BrAt w (.slice (some ⟨b, off, none⟩) n cap) n e) : ∀ j u, (flatL Br.enc (rowL e n))[j]? = some u → w.cell? ⟨b, off + j, none⟩ = some u := by
  refine flat_cells_at Br.enc_len (by decide) fun i j hi hj => ?_
  obtain ⟨oa, cap', h1, h2, h3, h4⟩ := h
  obtain ⟨b', off', e', hlt, hc⟩ := h4 (by omega)
  cases h1
  cases e'
  rw [hc i j hi hj]
  match j, hj with
  | 0, _ => rfl
  | 1, _ => rfl
  | 2, _ => rfl
  | 3, _ => rfl
  | 4, _ => rfl

/-- the catalog -/
structure Mat where
  ng : Nat
  nm : Nat → ByteArray
  de : Nat → Int
  yi : Nat → Int
  gn : Nat → Nat
  gf : Nat → Nat → Int
  ns : Nat
  sn : Nat → ByteArray
  sa : Nat → Int
  sh : Nat → Int
  ss : Nat → Int
def GrAt (w : World) (v : Value) (m : Mat) (gv : Nat → Value) : Prop :=
  SliceAt w v m.ng 4 (fun i j => match j with | 0 => .string (m.nm i) | 1 => .int .i64 (m.de i) | 2 => .int .i64 (m.yi i) | _ => gv i) ∧ ∀ i, i < m.ng → IntsAt w (gv i) (m.gn i) (m.gf i)
def SeAt (w : World) (v : Value) (m : Mat) : Prop :=
  SliceAt w v m.ns 4 (fun i j => match j with | 0 => .string (m.sn i) | 1 => .int .i64 (m.sa i) | 2 => .int .i64 (m.sh i) | _ => .int .i64 (m.ss i))
theorem GrAt.below {w w' : World} {v : Value} {m : Mat} {gv : Nat → Value} (h : GrAt w v m gv) (hb : Below w.heap.size w w') : GrAt w' v m gv := ⟨h.1.below hb, fun i hi => (h.2 i hi).below hb⟩
theorem SeAt.below {w w' : World} {v : Value} {m : Mat} (h : SeAt w v m) (hb : Below w.heap.size w w') : SeAt w' v m := SliceAt.below h hb
theorem GrAt.form {w : World} {v : Value} {m : Mat} {gv : Nat → Value} (h : GrAt w v m gv) : ∃ (oa : Option Addr) (cap : Nat), v = .slice oa m.ng cap ∧ m.ng ≤ 9223372036854775807 ∧
    ∀ i, i < m.ng → ∃ b off, oa = some ⟨b, off, none⟩ ∧ b < w.heap.size ∧ ∀ k, k < m.ng → w.cell? ⟨b, off + k * 4, none⟩ = some (.string (m.nm k)) ∧ w.cell? ⟨b, off + k * 4 + 1, none⟩ = some (.int .i64 (m.de k)) ∧ w.cell? ⟨b, off + k * 4 + 2, none⟩ = some (.int .i64 (m.yi k)) ∧ w.cell? ⟨b, off + k * 4 + 3, none⟩ = some (gv k) := by
  obtain ⟨⟨oa, cap, h1, h2, h3, h4⟩, _⟩ := h
  refine ⟨oa, cap, h1, by omega, fun i hi => ?_⟩
  obtain ⟨b, off, e', hlt, hc⟩ := h4 (by omega)
  exact ⟨b, off, e', hlt, fun k hk => ⟨hc k 0 hk (by decide), hc k 1 hk (by decide), hc k 2 hk (by decide), hc k 3 hk (by decide)⟩⟩
theorem SeAt.form {w : World} {v : Value} {m : Mat} (h : SeAt w v m) : ∃ (oa : Option Addr) (cap : Nat), v = .slice oa m.ns cap ∧ m.ns ≤ 9223372036854775807 ∧
    ∀ i, i < m.ns → ∃ b off, oa = some ⟨b, off, none⟩ ∧ b < w.heap.size ∧ ∀ k, k < m.ns → w.cell? ⟨b, off + k * 4, none⟩ = some (.string (m.sn k)) ∧ w.cell? ⟨b, off + k * 4 + 1, none⟩ = some (.int .i64 (m.sa k)) ∧ w.cell? ⟨b, off + k * 4 + 2, none⟩ = some (.int .i64 (m.sh k)) ∧ w.cell? ⟨b, off + k * 4 + 3, none⟩ = some (.int .i64 (m.ss k)) := by
  obtain ⟨oa, cap, h1, h2, h3, h4⟩ := h
  refine ⟨oa, cap, h1, by omega, fun i hi => ?_⟩
  obtain ⟨b, off, e', hlt, hc⟩ := h4 (by omega)
  exact ⟨b, off, e', hlt, fun k hk => ⟨hc k 0 hk (by decide), hc k 1 hk (by decide), hc k 2 hk (by decide), hc k 3 hk (by decide)⟩⟩
/-- which grade, which section bears a name -/
def Mat.gi (m : Mat) (s : ByteArray) : Nat := firstFrom (fun i => (m.nm i).toList == s.toList) m.ng 0
def Mat.si (m : Mat) (s : ByteArray) : Nat := firstFrom (fun i => (m.sn i).toList == s.toList) m.ns 0
def Mat.hasG (m : Mat) (s : ByteArray) : Bool := decide (m.gi s < m.ng)
def Mat.hasS (m : Mat) (s : ByteArray) : Bool := decide (m.si s < m.ns)
/-- where a gauge stands among those of a grade -/
def Mat.ti (m : Mat) (i : Nat) (t : Int) : Nat := firstFrom (fun j => m.gf i j == t) (m.gn i) 0
def Mat.rolled (m : Mat) (s : ByteArray) (t : Int) : Bool := m.hasG s && decide (m.ti (m.gi s) t < m.gn (m.gi s))
section
variable {α : Type}
end
end Go.Proofs.YtgbhhjdmochhpaaDoor
namespace Go.Proofs.YtgbhhjdmochhpaaDoor
open Go Go.RowKit
set_option linter.unusedVariables false
set_option linter.unusedSimpArgs false
theorem Grade1_any (nm s : ByteArray) (de yi : Int) (oa : Option Addr) (n c : Nat) (b : Nat) (w : World) (hb : b < w.heap.size) (hc : w.cell? ⟨b, 0, none⟩ = some (.string s)) :
    Calls Tryd.prog 47 #[.agg #[.string nm, .int .i64 de, .int .i64 yi, .slice oa n c], .pointer (some ⟨b, 0, none⟩)] w fun e w' => e = .returned (.bool (nm.toList == s.toList)) ∧ Below w.heap.size w w' := by
  go_enter Tryd.func47, Tryd.ntmps47
  go_wp2
  go_returns
  exact ⟨rfl, by go_grown⟩
theorem Section1_any (nm s : ByteArray) (a h k : Int) (b : Nat) (w : World) (hb : b < w.heap.size) (hc : w.cell? ⟨b, 0, none⟩ = some (.string s)) :
    Calls Tryd.prog 50 #[.agg #[.string nm, .int .i64 a, .int .i64 h, .int .i64 k], .pointer (some ⟨b, 0, none⟩)] w fun e w' => e = .returned (.bool (nm.toList == s.toList)) ∧ Below w.heap.size w w' := by
  go_enter Tryd.func50, Tryd.ntmps50
  go_wp2
  go_returns
  exact ⟨rfl, by go_grown⟩

set_option maxHeartbeats 4000000 in
theorem idxGrade_any (m : Mat) (gv : Nat → Value) (v : Value) (b : Nat) (s : ByteArray) (w : World) (h : GrAt w v m gv) (hb : b < w.heap.size) (hc : w.cell? ⟨b, 0, none⟩ = some (.string s)) :
    Calls Tryd.prog 46 #[v, .func (.func 47) #[] #[.pointer (some ⟨b, 0, none⟩)]] w fun e w' => e = .returned (.int .i64 (if m.gi s < m.ng then (m.gi s : Int) else -1)) ∧ Below w.heap.size w w' := by
  have eg : ∀ args w, (callFunc 47 args).run Tryd.prog w = .ok (.enter 47 args) w := enters_of Tryd.func47 (by kernel_rfl) rfl
  have HGR := Lib.hid h.2
  obtain ⟨oa, cap, rfl, hn, hel⟩ := h.form
  have HEL := Lib.hid hel
  clear h hel
  obtain ⟨F, hF⟩ : ∃ F, m.gi s = F := ⟨_, rfl⟩
  rw [hF]
  have HF : Hid (firstFrom (fun i => (m.nm i).toList == s.toList) m.ng 0 = F) := hF
  obtain ⟨n, hN⟩ : ∃ n, m.ng = n := ⟨_, rfl⟩
  rw [hN] at HF hn HEL
  rw [hN]
  rw [hN] at HGR
  obtain ⟨R, hR⟩ : ∃ R, (if F < n then (F : Int) else -1) = R := ⟨_, rfl⟩
  have HR := Lib.hid hR
  rw [hR]
  clear hF hN hR
  go_enter Tryd.func46, Tryd.ntmps46
  go_wp2
  go_loopw [5, 8] (fun _ i wr => ∃ j : Nat, j ≤ n ∧ i = .int .i64 j ∧ Hid (firstFrom (fun i => (m.nm i).toList == s.toList) (n - j) j = F) ∧ Below w.heap.size w wr) (fun _ i _ => n - (intOf i).toNat)
  case atStart => exact ⟨0, by omega, rfl, HF.out, Below.refl _ _⟩
  case round =>
    obtain ⟨j, hj, rfl, hq, hB⟩ := hrel
    have HBr := Lib.hid hB
    by_cases hlt : j < n
    · obtain ⟨b1, f1, rfl, hbl1, hcl1⟩ := HEL.out j hlt
      have c0 : wr.cell? ⟨b1, f1 + j * 4, none⟩ = some (.string (m.nm j)) := (hB.cell (p := ⟨_, _, none⟩) hbl1).trans (hcl1 j hlt).1
      have c1 : wr.cell? ⟨b1, f1 + j * 4 + 1, none⟩ = some (.int .i64 (m.de j)) := (hB.cell (p := ⟨_, _, none⟩) hbl1).trans (hcl1 j hlt).2.1
      have c2 : wr.cell? ⟨b1, f1 + j * 4 + 2, none⟩ = some (.int .i64 (m.yi j)) := (hB.cell (p := ⟨_, _, none⟩) hbl1).trans (hcl1 j hlt).2.2.1
      have c3 : wr.cell? ⟨b1, f1 + j * 4 + 3, none⟩ = some (gv j) := (hB.cell (p := ⟨_, _, none⟩) hbl1).trans (hcl1 j hlt).2.2.2
      have cb : wr.cell? ⟨b, 0, none⟩ = some (.string s) := (hB.cell (p := ⟨_, _, none⟩) hb).trans hc
      obtain ⟨oc, cc, hcv, -, -⟩ := (HGR.out j hlt).form
      rw [hcv] at c3
      clear hcv
      have hbr : b1 < wr.heap.size := by have := hB.size; omega
      have hb2 : b < wr.heap.size := by have := hB.size; omega
      clear hcl1 hB hc
      by_cases h1 : ((m.nm j).toList == s.toList) = true
      · have hR0 : R = (j : Int) := by
          have hFj : F = j := hq.out.symm.trans (firstFrom_hit hlt h1)
          rw [← HR.out, hFj, if_pos hlt]
        have HR0 := Lib.hid hR0
        have hcall := Grade1_any (m.nm j) s (m.de j) (m.yi j) oc (m.gn j) cc b wr hb2 cb
        rw [h1] at hcall
        clear hR0 h1
        go_wp2_with fail
        (go_at_fn 47; refine hcall.mono ?_; rintro e w1 ⟨rfl, hB1⟩)
        have HB1 := Lib.hid (below_step HBr.out hB1)
        clear hB1
        go_wp2
        go_returns
        rw [HR0.out]
        exact ⟨rfl, HB1.out⟩
      have h1 : ((m.nm j).toList == s.toList) = false := by simpa using h1
      have hq2 : Hid (firstFrom (fun i => (m.nm i).toList == s.toList) (n - (j + 1)) (j + 1) = F) := (firstFrom_miss hlt h1).symm.trans hq.out
      have hcall := Grade1_any (m.nm j) s (m.de j) (m.yi j) oc (m.gn j) cc b wr hb2 cb
      rw [h1] at hcall
      clear h1
      go_wp2_with fail
      (go_at_fn 47; refine hcall.mono ?_; rintro e w1 ⟨rfl, hB1⟩)
      have HB1 := Lib.hid (below_step HBr.out hB1)
      clear hB1
      go_wp2
      go_roundw
      case rel => exact ⟨j + 1, by omega, by go_num, hq2, HB1.out⟩
      case measure => simp [intOf]; omega
    · have hR0 : R = -1 := by
        have hFj : F = n := hq.out.symm.trans (firstFrom_end hj hlt)
        rw [← HR.out, hFj, if_neg (by omega)]
      have HR0 := Lib.hid hR0
      clear hR0 hB
      go_wp2
      go_returns
      rw [HR0.out]
      exact ⟨rfl, HBr.out⟩

set_option maxHeartbeats 4000000 in
theorem idxSection_any (m : Mat) (v : Value) (b : Nat) (s : ByteArray) (w : World) (h : SeAt w v m) (hb : b < w.heap.size) (hc : w.cell? ⟨b, 0, none⟩ = some (.string s)) :
    Calls Tryd.prog 49 #[v, .func (.func 50) #[] #[.pointer (some ⟨b, 0, none⟩)]] w fun e w' => e = .returned (.int .i64 (if m.si s < m.ns then (m.si s : Int) else -1)) ∧ Below w.heap.size w w' := by
  have eg : ∀ args w, (callFunc 50 args).run Tryd.prog w = .ok (.enter 50 args) w := enters_of Tryd.func50 (by kernel_rfl) rfl
  skip
  obtain ⟨oa, cap, rfl, hn, hel⟩ := h.form
  have HEL := Lib.hid hel
  clear h hel
  obtain ⟨F, hF⟩ : ∃ F, m.si s = F := ⟨_, rfl⟩
  rw [hF]
  have HF : Hid (firstFrom (fun i => (m.sn i).toList == s.toList) m.ns 0 = F) := hF
  obtain ⟨n, hN⟩ : ∃ n, m.ns = n := ⟨_, rfl⟩
  rw [hN] at HF hn HEL
  rw [hN]
  skip
  obtain ⟨R, hR⟩ : ∃ R, (if F < n then (F : Int) else -1) = R := ⟨_, rfl⟩
  have HR := Lib.hid hR
  rw [hR]
  clear hF hN hR
  go_enter Tryd.func49, Tryd.ntmps49
  go_wp2
  go_loopw [5, 8] (fun _ i wr => ∃ j : Nat, j ≤ n ∧ i = .int .i64 j ∧ Hid (firstFrom (fun i => (m.sn i).toList == s.toList) (n - j) j = F) ∧ Below w.heap.size w wr) (fun _ i _ => n - (intOf i).toNat)
  case atStart => exact ⟨0, by omega, rfl, HF.out, Below.refl _ _⟩
  case round =>
    obtain ⟨j, hj, rfl, hq, hB⟩ := hrel
    have HBr := Lib.hid hB
    by_cases hlt : j < n
    · obtain ⟨b1, f1, rfl, hbl1, hcl1⟩ := HEL.out j hlt
      have c0 : wr.cell? ⟨b1, f1 + j * 4, none⟩ = some (.string (m.sn j)) := (hB.cell (p := ⟨_, _, none⟩) hbl1).trans (hcl1 j hlt).1
      have c1 : wr.cell? ⟨b1, f1 + j * 4 + 1, none⟩ = some (.int .i64 (m.sa j)) := (hB.cell (p := ⟨_, _, none⟩) hbl1).trans (hcl1 j hlt).2.1
      have c2 : wr.cell? ⟨b1, f1 + j * 4 + 2, none⟩ = some (.int .i64 (m.sh j)) := (hB.cell (p := ⟨_, _, none⟩) hbl1).trans (hcl1 j hlt).2.2.1
      have c3 : wr.cell? ⟨b1, f1 + j * 4 + 3, none⟩ = some (.int .i64 (m.ss j)) := (hB.cell (p := ⟨_, _, none⟩) hbl1).trans (hcl1 j hlt).2.2.2
      have cb : wr.cell? ⟨b, 0, none⟩ = some (.string s) := (hB.cell (p := ⟨_, _, none⟩) hb).trans hc
      skip
      skip
      skip
      have hbr : b1 < wr.heap.size := by have := hB.size; omega
      have hb2 : b < wr.heap.size := by have := hB.size; omega
      clear hcl1 hB hc
      by_cases h1 : ((m.sn j).toList == s.toList) = true
      · have hR0 : R = (j : Int) := by
          have hFj : F = j := hq.out.symm.trans (firstFrom_hit hlt h1)
          rw [← HR.out, hFj, if_pos hlt]
        have HR0 := Lib.hid hR0
        have hcall := Section1_any (m.sn j) s (m.sa j) (m.sh j) (m.ss j) b wr hb2 cb
        rw [h1] at hcall
        clear hR0 h1
        go_wp2_with fail
        (go_at_fn 50; refine hcall.mono ?_; rintro e w1 ⟨rfl, hB1⟩)
        have HB1 := Lib.hid (below_step HBr.out hB1)
        clear hB1
        go_wp2
        go_returns
        rw [HR0.out]
        exact ⟨rfl, HB1.out⟩
      have h1 : ((m.sn j).toList == s.toList) = false := by simpa using h1
      have hq2 : Hid (firstFrom (fun i => (m.sn i).toList == s.toList) (n - (j + 1)) (j + 1) = F) := (firstFrom_miss hlt h1).symm.trans hq.out
      have hcall := Section1_any (m.sn j) s (m.sa j) (m.sh j) (m.ss j) b wr hb2 cb
      rw [h1] at hcall
      clear h1
      go_wp2_with fail
      (go_at_fn 50; refine hcall.mono ?_; rintro e w1 ⟨rfl, hB1⟩)
      have HB1 := Lib.hid (below_step HBr.out hB1)
      clear hB1
      go_wp2
      go_roundw
      case rel => exact ⟨j + 1, by omega, by go_num, hq2, HB1.out⟩
      case measure => simp [intOf]; omega
    · have hR0 : R = -1 := by
        have hFj : F = n := hq.out.symm.trans (firstFrom_end hj hlt)
        rw [← HR.out, hFj, if_neg (by omega)]
      have HR0 := Lib.hid hR0
      clear hR0 hB
      go_wp2
      go_returns
      rw [HR0.out]
      exact ⟨rfl, HBr.out⟩
end Go.Proofs.YtgbhhjdmochhpaaDoor
namespace Go.Proofs.YtgbhhjdmochhpaaDoor
open Go Go.RowKit
set_option linter.unusedVariables false
set_option linter.unusedSimpArgs false

theorem info_int : (Tryd.prog.info? 3).map (fun i => (i.zero, i.size, i.bytes)) = some (some (.int .i64 0), 1, 8) := by kernel_rfl
set_option maxHeartbeats 2000000 in
theorem clone_int (oa : Option Addr) (n c : Nat) (xs : List Value) (w : World) (hl : xs.length = n * 1) (hn : n ≤ 1100000) (h0 : oa = none → n = 0)
    (hc : ∀ ad, oa = some ad → ∀ j u, xs[j]? = some u → w.cell? (ad.add j) = some u) (h1 : ∀ u ∈ xs, u.oneCell' = true) :
    Calls Tryd.prog 48 #[.slice oa n c] w fun e w' => ∃ v', e = .returned v' ∧ w'.ownsRow w.heap.size 3 1 v' n xs ∧ Below w.heap.size w w' := by
  have hu : Tryd.prog.underlying 44 = some (.slice 3) := Tryd.underlying44
  have q : ∀ (w : World) (a : Option Addr) (n c n' c' : Nat), (binOp .eql 44 (.slice a n c) (.slice none n' c')).run Tryd.prog w = .ok (.bool a.isNone) w := fun w a n c n' c' => Lib.run_eql_slice_nil w _ _ a n c n' c' hu
  obtain ⟨i0, hi, hz0, hz1, hz2⟩ := info_parts info_int
  cases oa with
  | none =>
    have hn0 := h0 rfl
    subst hn0
    have hx : xs = [] := List.eq_nil_of_length_eq_zero (by omega)
    subst hx
    clear hc h1 hl h0
    go_enter Tryd.func48, Tryd.ntmps48
    go_wp2
    go_returns
    exact ⟨_, rfl, World.ownsRow_nil _ _ _ _, Below.refl _ _⟩
  | some ad =>
    have HC : Hid (∀ j u, xs[j]? = some u → w.cell? (ad.add j) = some u) := hc ad rfl
    have HLT : Hid (∀ j u, xs[j]? = some u → (ad.add j).block < w.heap.size) := fun j u hj => by
      have := HC.out j u hj
      rcases Nat.lt_or_ge (ad.add j).block w.heap.size with h' | h'
      · exact h'
      · simp [World.cell?, Array.getElem?_eq_none h'] at this
    have H1 := Lib.hid h1
    clear hc h1 h0
    go_enter Tryd.func48, Tryd.ntmps48
    go_wp2_with (at_builtin; refine wpList_append_own _ rfl _ _ 44 rfl w.heap.size 3 i0 _ 1 8 hu hi hz0 hz1 hz2 rfl (by decide) _ _ _ rfl (World.ownsRow_made w #[] 0 (Nat.le_refl _) (Nat.zero_le _) (by simp)) ad n c xs rfl ?c1 ?c2 ?c3 ?c4 ?c5 ?c6 ?_)
    case c1 => exact hl
    case c2 =>
      intro j u hj
      exact (World.cell?_alloc_lt _ _ _ (HLT.out j u hj)).trans (HC.out j u hj)
    case c3 => exact H1.out
    case c4 => unfold maxLen; omega
    case c5 => omega
    case c6 => simp
    intro v' w1 hown hgrow _
    have hB : Below w.heap.size w w1 := ((Below.refl _ w).alloc (Nat.le_refl _) _).grown hgrow (by simp) (by intro k hk; simp [Value.ownBlock] at hk; omega)
    have HB := Lib.hid hB
    have HO : Hid (w1.ownsRow w.heap.size 3 1 v' n xs) := by
      show World.ownsRow _ _ _ _ _ _ _
      simpa using hown
    clear hown hgrow hB
    go_wp2
    go_returns
    exact ⟨_, rfl, HO.out, HB.out⟩

end Go.Proofs.YtgbhhjdmochhpaaDoor
namespace Go.Proofs.YtgbhhjdmochhpaaDoor
open Go Go.RowKit
set_option linter.unusedVariables false
set_option linter.unusedSimpArgs false
set_option maxRecDepth 100000
theorem ints_set {w : World} {v : Value} {n : Nat} {f : Nat → Int} {B : Nat} (h : IntsAt w v n f) (hn : NewFrom B v) (b i : Nat) (u : Value) (hb : b < B) : IntsAt (w.setCell ⟨b, i, none⟩ u) v n f := by
  obtain ⟨oa, cap, h1, h2, h3, h4⟩ := h
  refine ⟨oa, cap, h1, h2, h3, fun h0 => ?_⟩
  obtain ⟨b', off, e, hlt, hc⟩ := h4 h0
  refine ⟨b', off, e, by simpa using hlt, fun i j hi hj => ?_⟩
  have hb' : B ≤ b' := hn b' (by rw [h1, e]; rfl)
  rw [World.cell?_setCell_other _ _ _ _ (by intro he; have := congrArg Addr.block he; simp at this; omega)]
  exact hc i j hi hj
def firstIn (f : Nat → Int) (n : Nat) (t : Int) : Nat := firstFrom (fun j => f j == t) n 0
set_option maxHeartbeats 2000000 in
theorem index_int (v : Value) (n : Nat) (f : Nat → Int) (t : Int) (w : World) (h : IntsAt w v n f) :
    Calls Tryd.prog 88 #[v, .int .i64 t] w fun e w' => e = .returned (.int .i64 (if firstIn f n t < n then (firstIn f n t : Int) else -1)) ∧ Below w.heap.size w w' := by
  obtain ⟨oa, cap, rfl, hn, hel⟩ := h.form
  have HEL := Lib.hid hel
  clear h hel
  obtain ⟨F, hF⟩ : ∃ F, firstIn f n t = F := ⟨_, rfl⟩
  rw [hF]
  have HF : Hid (firstFrom (fun j => f j == t) n 0 = F) := hF
  obtain ⟨R, hR⟩ : ∃ R, (if F < n then (F : Int) else -1) = R := ⟨_, rfl⟩
  have HR := Lib.hid hR
  rw [hR]
  clear hF hR
  go_enter Tryd.func88, Tryd.ntmps88
  go_wp2
  go_loopw [5, 8] (fun _ i wr => ∃ j : Nat, j ≤ n ∧ i = .int .i64 j ∧ Hid (firstFrom (fun j => f j == t) (n - j) j = F) ∧ Below w.heap.size w wr) (fun _ i _ => n - (intOf i).toNat)
  case atStart => exact ⟨0, by omega, rfl, HF.out, Below.refl _ _⟩
  case round =>
    obtain ⟨j, hj, rfl, hq, hB⟩ := hrel
    have HBr := Lib.hid hB
    by_cases hlt : j < n
    · obtain ⟨b1, f1, rfl, hbl1, hcl1⟩ := HEL.out j hlt
      have c0 : wr.cell? ⟨b1, f1 + j, none⟩ = some (.int .i64 (f j)) := (hB.cell (p := ⟨_, _, none⟩) hbl1).trans (hcl1 j hlt)
      have hbr : b1 < wr.heap.size := by have := hB.size; omega
      clear hcl1 hB
      by_cases h1 : f j = t
      · have hR0 : R = (j : Int) := by
          have hFj : F = j := hq.out.symm.trans (firstFrom_hit hlt (by simpa using h1))
          rw [← HR.out, hFj, if_pos hlt]
        have HR0 := Lib.hid hR0
        have e1 : (t == f j) = true := by simp [h1]
        clear hR0 h1
        go_wp2
        go_returns
        rw [HR0.out]
        exact ⟨rfl, HBr.out⟩
      have hq2 : Hid (firstFrom (fun j => f j == t) (n - (j + 1)) (j + 1) = F) := (firstFrom_miss hlt (by simpa using h1)).symm.trans hq.out
      have e1 : (t == f j) = false := by simpa using Ne.symm h1
      clear h1
      go_wp2
      go_roundw
      case rel => exact ⟨j + 1, by omega, by go_num, hq2, HBr.out⟩
      case measure => simp [intOf]; omega
    · have hR0 : R = -1 := by
        have hFj : F = n := hq.out.symm.trans (firstFrom_end hj hlt)
        rw [← HR.out, hFj, if_neg (by omega)]
      have HR0 := Lib.hid hR0
      clear hR0 hB
      go_wp2
      go_returns
      rw [HR0.out]
      exact ⟨rfl, HBr.out⟩
theorem contains_int (v : Value) (n : Nat) (f : Nat → Int) (t : Int) (w : World) (h : IntsAt w v n f) :
    Calls Tryd.prog 81 #[v, .int .i64 t] w fun e w' => e = .returned (.bool (decide (firstIn f n t < n))) ∧ Below w.heap.size w w' := by
  have HI := Lib.hid (index_int v n f t w h)
  obtain ⟨oa, cap, rfl, -, -⟩ := h.form
  clear h
  obtain ⟨F, hF⟩ : ∃ F, firstIn f n t = F := ⟨_, rfl⟩
  rw [hF] at HI
  rw [hF]
  obtain ⟨R, hR⟩ : ∃ R, (if F < n then (F : Int) else -1) = R := ⟨_, rfl⟩
  rw [hR] at HI
  obtain ⟨D, hD⟩ : ∃ D, decide (F < n) = D := ⟨_, rfl⟩
  rw [hD]
  have hk : Hid (decide ((0 : Int) ≤ R) = D) := by
    show _ = _
    rw [← hD, ← hR]
    by_cases h : F < n
    · rw [if_pos h, decide_eq_true h]; exact decide_eq_true (by omega)
    · rw [if_neg h, decide_eq_false h]; exact decide_eq_false (by omega)
  clear hF hR hD
  go_enter Tryd.func81, Tryd.ntmps81
  go_wp2_with fail
  (go_at_call 88; refine HI.out.mono ?_; rintro e w1 ⟨rfl, hB1⟩)
  have HB1 := Lib.hid hB1
  clear hB1
  go_wp2
  go_returns
  rw [hk.out]
  exact ⟨rfl, HB1.out⟩
/-- slices.Clone of ints, as ints -/
theorem clone_ints (v : Value) (n : Nat) (f : Nat → Int) (w : World) (h : IntsAt w v n f) (hn : n ≤ 1100000) :
    Calls Tryd.prog 48 #[v] w fun e w' => ∃ v', e = .returned v' ∧ IntsAt w' v' n f ∧ NewFrom w.heap.size v' ∧ Below w.heap.size w w' := by
  obtain ⟨oa, cap, rfl, hnc, hcm, hel⟩ := h
  refine (clone_int oa n cap (listOf (fun i => .int .i64 (f i)) n) w (by rw [listOf_len]; omega) hn (fun h0 => ?_) (fun ad had j u hj => ?_) (fun u hu => ?_)).mono ?_
  · rcases Nat.eq_zero_or_pos n with hz | hz
    · exact hz
    · obtain ⟨b, off, hq, _⟩ := hel hz
      rw [h0] at hq; cases hq
  · have hjn : j < n := by
      have := (List.getElem?_eq_some_iff.1 hj).1
      rwa [listOf_len] at this
    obtain ⟨b, off, hq, _, hc⟩ := hel (by omega)
    rw [had] at hq
    cases hq
    rw [listOf_at _ _ _ hjn] at hj
    cases hj
    rw [Addr.add_lit]
    have := hc j 0 hjn (by decide)
    simpa using this
  · simp only [listOf, List.mem_map] at hu
    obtain ⟨i, _, rfl⟩ := hu
    rfl
  · rintro e w' ⟨v', rfl, ho, hb⟩
    exact ⟨v', rfl, owns_ints ho, owns_new ho, hb⟩
/-- the catalog in memory -/
def MatAt (w : World) (v : Value) (m : Mat) (gv : Nat → Value) : Prop :=
  ∃ vg vs, v = .agg #[vg, vs] ∧ GrAt w vg m gv ∧ SeAt w vs m ∧ m.ng ≤ 1100000 ∧ m.ns ≤ 1100000 ∧ ∀ i, i < m.ng → m.gn i ≤ 1100000
theorem MatAt.below {w w' : World} {v : Value} {m : Mat} {gv : Nat → Value} (h : MatAt w v m gv) (hb : Below w.heap.size w w') : MatAt w' v m gv := by
  obtain ⟨vg, vs, h1, h2, h3, h4⟩ := h
  exact ⟨vg, vs, h1, h2.below hb, h3.below hb, h4⟩
def Mat.gl (m : Mat) (s : ByteArray) : Nat := if m.hasG s = true then m.gn (m.gi s) else 0

set_option maxHeartbeats 4000000 in
theorem section_any (v : Value) (m : Mat) (gv : Nat → Value) (s : ByteArray) (w : World) (h : MatAt w v m gv) :
    Calls Tryd.prog 23 #[v, .string s] w fun e w' => ∃ s' a h k, e = .returned (.tuple #[.agg #[.string s', .int .i64 a, .int .i64 h, .int .i64 k], .bool (m.hasS s)]) ∧ (m.hasS s = true → a = m.sa (m.si s) ∧ h = m.sh (m.si s)) ∧ Below w.heap.size w w' := by
  obtain ⟨vg, vs, rfl, hG, hS, hb1, hb2, hb3⟩ := h
  have HG := Lib.hid hG
  have HS := Lib.hid hS
  have HN := Lib.hid hb3
  obtain ⟨oa, ca, rfl, hna, hea⟩ := hG.form
  obtain ⟨ob, cb, rfl, hnb, heb⟩ := hS.form
  have HEA := Lib.hid hea
  have HEB := Lib.hid heb
  clear hG hS hb3 hea heb
  obtain ⟨F, hF⟩ : ∃ F, m.si s = F := ⟨_, rfl⟩
  obtain ⟨D, hD⟩ : ∃ D, m.hasS s = D := ⟨_, rfl⟩
  have HF := Lib.hid hF
  have HD : Hid (decide (F < m.ns) = D) := by show _ = _; rw [← hF]; exact hD
  skip
  skip
  rw [hD, hF]
  obtain ⟨R, hR⟩ : ∃ R, (if F < m.ns then (F : Int) else -1) = R := ⟨_, rfl⟩
  have HR := Lib.hid hR
  clear hF hD hR
  go_enter Tryd.func23, Tryd.ntmps23
  go_wp2_with fail
  (go_at_call 49; refine (idxSection_any m _ (w.heap.size + 1) s _ (HS.out.below (w := w) (by go_grown)) (by simp <;> omega) (by simp [go_sem])).mono ?_; rintro e w1 ⟨rfl, hB⟩)
  rw [HF.out, HR.out]
  have HB1 : Hid (Below w.heap.size w w1) := by
    show Below _ _ _
    exact below_step (w := w) (by go_grown) hB
  have hs1 := hB.size
  (try simp only [World.size_alloc, World.size_setCell] at hs1)
  have z0 : w.heap.size < w1.heap.size := by omega
  have z1 : w.heap.size + 1 < w1.heap.size := by omega
  have z2 : w.heap.size + 1 + 1 < w1.heap.size := by omega
  have m0 : w1.cell? ⟨w.heap.size, 0, none⟩ = some (.slice oa m.ng ca) := (hB.cell (p := ⟨_, _, none⟩) (by simp <;> omega)).trans (by simp [go_sem])
  have m1 : w1.cell? ⟨w.heap.size, 1, none⟩ = some (.slice ob m.ns cb) := (hB.cell (p := ⟨_, _, none⟩) (by simp <;> omega)).trans (by simp [go_sem])
  have r0 : w1.cell? ⟨w.heap.size + 1 + 1, 0, none⟩ = some (.string ⟨#[]⟩) := (hB.cell (p := ⟨_, _, none⟩) (by simp <;> omega)).trans (by simp [go_sem])
  have rf0 : w1.frozen? ⟨w.heap.size + 1 + 1, 0, none⟩ = false := (hB.frozen (p := ⟨_, _, none⟩) (by simp <;> omega)).trans (by simp [go_sem])
  have r1 : w1.cell? ⟨w.heap.size + 1 + 1, 1, none⟩ = some (.int .i64 0) := (hB.cell (p := ⟨_, _, none⟩) (by simp <;> omega)).trans (by simp [go_sem])
  have rf1 : w1.frozen? ⟨w.heap.size + 1 + 1, 1, none⟩ = false := (hB.frozen (p := ⟨_, _, none⟩) (by simp <;> omega)).trans (by simp [go_sem])
  have r2 : w1.cell? ⟨w.heap.size + 1 + 1, 2, none⟩ = some (.int .i64 0) := (hB.cell (p := ⟨_, _, none⟩) (by simp <;> omega)).trans (by simp [go_sem])
  have rf2 : w1.frozen? ⟨w.heap.size + 1 + 1, 2, none⟩ = false := (hB.frozen (p := ⟨_, _, none⟩) (by simp <;> omega)).trans (by simp [go_sem])
  have r3 : w1.cell? ⟨w.heap.size + 1 + 1, 3, none⟩ = some (.int .i64 0) := (hB.cell (p := ⟨_, _, none⟩) (by simp <;> omega)).trans (by simp [go_sem])
  have rf3 : w1.frozen? ⟨w.heap.size + 1 + 1, 3, none⟩ = false := (hB.frozen (p := ⟨_, _, none⟩) (by simp <;> omega)).trans (by simp [go_sem])
  clear hs1 hB
  by_cases hlt : F < m.ns
  · have h9 : D = true := (by rw [← HD.out]; exact decide_eq_true hlt)
    have H9 := Lib.hid h9
    have hRF : R = (F : Int) := by rw [← HR.out, if_pos hlt]
    subst hRF
    clear h9
    obtain ⟨b1, f1, rfl, hbl1, hcl1⟩ := HEB.out F hlt
    have c0 : w1.cell? ⟨b1, f1 + F * 4, none⟩ = some (.string (m.sn F)) := (HB1.out.cell (p := ⟨_, _, none⟩) hbl1).trans (hcl1 F hlt).1
    have c1 : w1.cell? ⟨b1, f1 + F * 4 + 1, none⟩ = some (.int .i64 (m.sa F)) := (HB1.out.cell (p := ⟨_, _, none⟩) hbl1).trans (hcl1 F hlt).2.1
    have c2 : w1.cell? ⟨b1, f1 + F * 4 + 2, none⟩ = some (.int .i64 (m.sh F)) := (HB1.out.cell (p := ⟨_, _, none⟩) hbl1).trans (hcl1 F hlt).2.2.1
    have c3 : w1.cell? ⟨b1, f1 + F * 4 + 3, none⟩ = some (.int .i64 (m.ss F)) := (HB1.out.cell (p := ⟨_, _, none⟩) hbl1).trans (hcl1 F hlt).2.2.2
    have hbr : b1 < w1.heap.size := by omega
    have hbn : b1 ≠ w.heap.size + 1 + 1 := by omega
    have k0 : decide ((F : Int) < 0) = false := decide_eq_false (by omega)
    have k1 : F < m.ns := hlt
    clear hcl1 hlt
    go_wp2
    all_goals (refine bodyPost_ret (v := .tuple #[.agg #[.string (m.sn F), .int .i64 (m.sa F), .int .i64 (m.sh F), .int .i64 (m.ss F)], .bool true]) (by simp [results, Tryd.results23, go_sem, *]) rfl ?_)
    rw [H9.out]
    refine ⟨_, _, _, _, rfl, fun _ => ⟨rfl, rfl⟩, ?_⟩
    exact ((((HB1.out).setCell (show w.heap.size ≤ w.heap.size + 1 + 1 by omega) _).setCell (show w.heap.size ≤ w.heap.size + 1 + 1 by omega) _).setCell (show w.heap.size ≤ w.heap.size + 1 + 1 by omega) _).setCell (show w.heap.size ≤ w.heap.size + 1 + 1 by omega) _
  · have h9 : D = false := (by rw [← HD.out]; exact decide_eq_false hlt)
    have H9 := Lib.hid h9
    have hRF : R = -1 := by rw [← HR.out, if_neg hlt]
    subst hRF
    clear h9 hlt
    go_wp2
    all_goals (refine bodyPost_ret (v := .tuple #[.agg #[.string ⟨#[]⟩, .int .i64 0, .int .i64 0, .int .i64 0], .bool false]) (by simp [results, Tryd.results23, go_sem, *]) rfl ?_)
    rw [H9.out]
    refine ⟨_, _, _, _, rfl, fun h => absurd h (by decide), ?_⟩
    exact ((((HB1.out).setCell (show w.heap.size ≤ w.heap.size + 1 + 1 by omega) _).setCell (show w.heap.size ≤ w.heap.size + 1 + 1 by omega) _).setCell (show w.heap.size ≤ w.heap.size + 1 + 1 by omega) _).setCell (show w.heap.size ≤ w.heap.size + 1 + 1 by omega) _

set_option maxHeartbeats 4000000 in
theorem grade_any (v : Value) (m : Mat) (gv : Nat → Value) (s : ByteArray) (w : World) (h : MatAt w v m gv) :
    Calls Tryd.prog 22 #[v, .string s] w fun e w' => ∃ s' d y gv', e = .returned (.tuple #[.agg #[.string s', .int .i64 d, .int .i64 y, gv'], .bool (m.hasG s)]) ∧ (m.hasG s = true → d = m.de (m.gi s)) ∧ IntsAt w' gv' (m.gl s) (m.gf (m.gi s)) ∧ Below w.heap.size w w' := by
  obtain ⟨vg, vs, rfl, hG, hS, hb1, hb2, hb3⟩ := h
  have HG := Lib.hid hG
  have HS := Lib.hid hS
  have HN := Lib.hid hb3
  obtain ⟨oa, ca, rfl, hna, hea⟩ := hG.form
  obtain ⟨ob, cb, rfl, hnb, heb⟩ := hS.form
  have HEA := Lib.hid hea
  have HEB := Lib.hid heb
  clear hG hS hb3 hea heb
  obtain ⟨F, hF⟩ : ∃ F, m.gi s = F := ⟨_, rfl⟩
  obtain ⟨D, hD⟩ : ∃ D, m.hasG s = D := ⟨_, rfl⟩
  have HF := Lib.hid hF
  have HD : Hid (decide (F < m.ng) = D) := by show _ = _; rw [← hF]; exact hD
  obtain ⟨L, hL⟩ : ∃ L, m.gl s = L := ⟨_, rfl⟩
  have HL : Hid ((if D = true then m.gn F else 0) = L) := by show _ = _; rw [← hL, ← hD, ← hF]; rfl
  rw [hD, hL, hF]
  obtain ⟨R, hR⟩ : ∃ R, (if F < m.ng then (F : Int) else -1) = R := ⟨_, rfl⟩
  have HR := Lib.hid hR
  clear hF hD hL hR
  go_enter Tryd.func22, Tryd.ntmps22
  go_wp2_with fail
  (go_at_call 46; refine (idxGrade_any m gv _ (w.heap.size + 1) s _ (HG.out.below (w := w) (by go_grown)) (by simp <;> omega) (by simp [go_sem])).mono ?_; rintro e w1 ⟨rfl, hB⟩)
  rw [HF.out, HR.out]
  have HB1 : Hid (Below w.heap.size w w1) := by
    show Below _ _ _
    exact below_step (w := w) (by go_grown) hB
  have hs1 := hB.size
  (try simp only [World.size_alloc, World.size_setCell] at hs1)
  have z0 : w.heap.size < w1.heap.size := by omega
  have z1 : w.heap.size + 1 < w1.heap.size := by omega
  have z2 : w.heap.size + 1 + 1 < w1.heap.size := by omega
  have m0 : w1.cell? ⟨w.heap.size, 0, none⟩ = some (.slice oa m.ng ca) := (hB.cell (p := ⟨_, _, none⟩) (by simp <;> omega)).trans (by simp [go_sem])
  have m1 : w1.cell? ⟨w.heap.size, 1, none⟩ = some (.slice ob m.ns cb) := (hB.cell (p := ⟨_, _, none⟩) (by simp <;> omega)).trans (by simp [go_sem])
  have r0 : w1.cell? ⟨w.heap.size + 1 + 1, 0, none⟩ = some (.string ⟨#[]⟩) := (hB.cell (p := ⟨_, _, none⟩) (by simp <;> omega)).trans (by simp [go_sem])
  have rf0 : w1.frozen? ⟨w.heap.size + 1 + 1, 0, none⟩ = false := (hB.frozen (p := ⟨_, _, none⟩) (by simp <;> omega)).trans (by simp [go_sem])
  have r1 : w1.cell? ⟨w.heap.size + 1 + 1, 1, none⟩ = some (.int .i64 0) := (hB.cell (p := ⟨_, _, none⟩) (by simp <;> omega)).trans (by simp [go_sem])
  have rf1 : w1.frozen? ⟨w.heap.size + 1 + 1, 1, none⟩ = false := (hB.frozen (p := ⟨_, _, none⟩) (by simp <;> omega)).trans (by simp [go_sem])
  have r2 : w1.cell? ⟨w.heap.size + 1 + 1, 2, none⟩ = some (.int .i64 0) := (hB.cell (p := ⟨_, _, none⟩) (by simp <;> omega)).trans (by simp [go_sem])
  have rf2 : w1.frozen? ⟨w.heap.size + 1 + 1, 2, none⟩ = false := (hB.frozen (p := ⟨_, _, none⟩) (by simp <;> omega)).trans (by simp [go_sem])
  have r3 : w1.cell? ⟨w.heap.size + 1 + 1, 3, none⟩ = some (.slice none 0 0) := (hB.cell (p := ⟨_, _, none⟩) (by simp <;> omega)).trans (by simp [go_sem])
  have rf3 : w1.frozen? ⟨w.heap.size + 1 + 1, 3, none⟩ = false := (hB.frozen (p := ⟨_, _, none⟩) (by simp <;> omega)).trans (by simp [go_sem])
  clear hs1 hB
  by_cases hlt : F < m.ng
  · have h9 : D = true ∧ L = m.gn F := by
      have h1 : D = true := by rw [← HD.out]; exact decide_eq_true hlt
      exact ⟨h1, by rw [← HL.out, if_pos h1]⟩
    have H9 := Lib.hid h9
    have hRF : R = (F : Int) := by rw [← HR.out, if_pos hlt]
    subst hRF
    clear h9
    obtain ⟨b1, f1, rfl, hbl1, hcl1⟩ := HEA.out F hlt
    have c0 : w1.cell? ⟨b1, f1 + F * 4, none⟩ = some (.string (m.nm F)) := (HB1.out.cell (p := ⟨_, _, none⟩) hbl1).trans (hcl1 F hlt).1
    have c1 : w1.cell? ⟨b1, f1 + F * 4 + 1, none⟩ = some (.int .i64 (m.de F)) := (HB1.out.cell (p := ⟨_, _, none⟩) hbl1).trans (hcl1 F hlt).2.1
    have c2 : w1.cell? ⟨b1, f1 + F * 4 + 2, none⟩ = some (.int .i64 (m.yi F)) := (HB1.out.cell (p := ⟨_, _, none⟩) hbl1).trans (hcl1 F hlt).2.2.1
    have c3 : w1.cell? ⟨b1, f1 + F * 4 + 3, none⟩ = some (gv F) := (HB1.out.cell (p := ⟨_, _, none⟩) hbl1).trans (hcl1 F hlt).2.2.2
    have hbr : b1 < w1.heap.size := by omega
    have hbn : b1 ≠ w.heap.size + 1 + 1 := by omega
    have k0 : decide ((F : Int) < 0) = false := decide_eq_false (by omega)
    have k1 : F < m.ng := hlt
    obtain ⟨oc, cc, hcv, hcn, -⟩ := (HG.out.2 F hlt).form
    have HGV := Lib.hid (HG.out.2 F hlt)
    rw [hcv] at c3 HGV
    clear hcl1 hcv hlt
    go_wp2_with fail
    (go_at_call 48; refine (clone_ints _ (m.gn F) (m.gf F) _ (HGV.out.below (((((HB1.out).setCell (show w.heap.size ≤ w.heap.size + 1 + 1 by omega) _).setCell (show w.heap.size ≤ w.heap.size + 1 + 1 by omega) _).setCell (show w.heap.size ≤ w.heap.size + 1 + 1 by omega) _).setCell (show w.heap.size ≤ w.heap.size + 1 + 1 by omega) _)) (HN.out F k1)).mono ?_; rintro e w2 ⟨v2, rfl, hv2, hn2, hB2⟩)
    have HV2 := Lib.hid hv2
    have hn9 : NewFrom w1.heap.size v2 := hn2.mono (by simp)
    have HN2 := Lib.hid hn9
    clear hn2 hn9
    obtain ⟨o2, c2, rfl, -, -⟩ := hv2.form
    have HB2 : Hid (Below w.heap.size w w2) := by
      show Below _ _ _
      exact below_step (((((HB1.out).setCell (show w.heap.size ≤ w.heap.size + 1 + 1 by omega) _).setCell (show w.heap.size ≤ w.heap.size + 1 + 1 by omega) _).setCell (show w.heap.size ≤ w.heap.size + 1 + 1 by omega) _).setCell (show w.heap.size ≤ w.heap.size + 1 + 1 by omega) _) hB2
    have hs2 := hB2.size
    simp only [World.size_setCell] at hs2
    have y2 : w.heap.size + 1 + 1 < w2.heap.size := by omega
    have q0 : w2.cell? ⟨w.heap.size + 1 + 1, 0, none⟩ = some (.string (m.nm F)) := (hB2.cell (p := ⟨_, _, none⟩) (by simp <;> omega)).trans (by simp [go_sem, r0, r1, r2, r3])
    have qf0 : w2.frozen? ⟨w.heap.size + 1 + 1, 0, none⟩ = false := (hB2.frozen (p := ⟨_, _, none⟩) (by simp <;> omega)).trans (by simp [go_sem, rf0, rf1, rf2, rf3])
    have q1 : w2.cell? ⟨w.heap.size + 1 + 1, 1, none⟩ = some (.int .i64 (m.de F)) := (hB2.cell (p := ⟨_, _, none⟩) (by simp <;> omega)).trans (by simp [go_sem, r0, r1, r2, r3])
    have qf1 : w2.frozen? ⟨w.heap.size + 1 + 1, 1, none⟩ = false := (hB2.frozen (p := ⟨_, _, none⟩) (by simp <;> omega)).trans (by simp [go_sem, rf0, rf1, rf2, rf3])
    have q2 : w2.cell? ⟨w.heap.size + 1 + 1, 2, none⟩ = some (.int .i64 (m.yi F)) := (hB2.cell (p := ⟨_, _, none⟩) (by simp <;> omega)).trans (by simp [go_sem, r0, r1, r2, r3])
    have qf2 : w2.frozen? ⟨w.heap.size + 1 + 1, 2, none⟩ = false := (hB2.frozen (p := ⟨_, _, none⟩) (by simp <;> omega)).trans (by simp [go_sem, rf0, rf1, rf2, rf3])
    have q3 : w2.cell? ⟨w.heap.size + 1 + 1, 3, none⟩ = some (.slice oc (m.gn F) cc) := (hB2.cell (p := ⟨_, _, none⟩) (by simp <;> omega)).trans (by simp [go_sem, r0, r1, r2, r3])
    have qf3 : w2.frozen? ⟨w.heap.size + 1 + 1, 3, none⟩ = false := (hB2.frozen (p := ⟨_, _, none⟩) (by simp <;> omega)).trans (by simp [go_sem, rf0, rf1, rf2, rf3])
    clear hs2 hB2 hv2
    go_wp2
    all_goals (refine bodyPost_ret (v := .tuple #[.agg #[.string (m.nm F), .int .i64 (m.de F), .int .i64 (m.yi F), .slice o2 (m.gn F) c2], .bool true]) (by simp [results, Tryd.results22, go_sem, *]) rfl ?_)
    rw [H9.out.1, H9.out.2]
    refine ⟨_, _, _, _, rfl, fun _ => rfl, ?_, ?_⟩
    · exact ints_set (ints_set (ints_set (ints_set (ints_set (HV2.out) HN2.out _ _ _ z2) HN2.out _ _ _ z2) HN2.out _ _ _ z2) HN2.out _ _ _ z2) HN2.out _ _ _ z2
    · exact (((((HB2.out).setCell (show w.heap.size ≤ w.heap.size + 1 + 1 by omega) _).setCell (show w.heap.size ≤ w.heap.size + 1 + 1 by omega) _).setCell (show w.heap.size ≤ w.heap.size + 1 + 1 by omega) _).setCell (show w.heap.size ≤ w.heap.size + 1 + 1 by omega) _).setCell (show w.heap.size ≤ w.heap.size + 1 + 1 by omega) _
  · have h9 : D = false ∧ L = 0 := by
      have h1 : D = false := by rw [← HD.out]; exact decide_eq_false hlt
      exact ⟨h1, by rw [← HL.out, if_neg (by rw [h1]; decide)]⟩
    have H9 := Lib.hid h9
    have hRF : R = -1 := by rw [← HR.out, if_neg hlt]
    subst hRF
    clear h9 hlt
    go_wp2
    all_goals (refine bodyPost_ret (v := .tuple #[.agg #[.string ⟨#[]⟩, .int .i64 0, .int .i64 0, .slice none 0 0], .bool false]) (by simp [results, Tryd.results22, go_sem, *]) rfl ?_)
    rw [H9.out.1, H9.out.2]
    refine ⟨_, _, _, _, rfl, fun h => absurd h (by decide), intsAt_nil _ _, ?_⟩
    exact ((((HB1.out).setCell (show w.heap.size ≤ w.heap.size + 1 + 1 by omega) _).setCell (show w.heap.size ≤ w.heap.size + 1 + 1 by omega) _).setCell (show w.heap.size ≤ w.heap.size + 1 + 1 by omega) _).setCell (show w.heap.size ≤ w.heap.size + 1 + 1 by omega) _
end Go.Proofs.YtgbhhjdmochhpaaDoor
namespace Go.Proofs.YtgbhhjdmochhpaaDoor
open Go Go.RowKit
set_option linter.unusedVariables false
set_option linter.unusedSimpArgs false
variable {P : Program}
theorem run_append_nonil {w : World} (base : Nat) (t ty e : TypeId) (i : TypeInfo) (size : Nat) (ht : P.underlying t = some (.slice e)) (hi : P.info? e = some i)
    (v : Value) (n : Nat) (xs : List Value) (hown : w.ownsRow base e size v n xs) (c : Nat) : (Builtin.append_ #[t, t] ty #[v, .slice none 0 c]).run P w = .ok v w := by
  rcases hown.2 with ⟨rfl, rfl⟩ | ⟨g, cap, cur, rfl, hb, hg, hnc, hcm, hcs, htk⟩
  · simp [Builtin.append_, run_underlying ht, sizeOf, typeInfo, hi, Builtin.lenOf, Builtin.firstCells, storeCells]
  · simp [Builtin.append_, run_underlying ht, sizeOf, typeInfo, hi, Builtin.lenOf, Builtin.firstCells, storeCells, hnc]
theorem wpList_append_sl {w : World} {ops : Array Oper} {rest : List Oper} {o : Oper} {a : Act} {Q : Exit → Act → World → Prop} (hgd : o.guard = none) (s x : Operand) (t : TypeId)
    (ho : o.op = .call { callee := .builtin .append, args := #[s, x], argTypes := #[t, t] })
    (base : Nat) (e : TypeId) (i : TypeInfo) (z : Value) (size bytes : Nat) (ht : P.underlying t = some (.slice e)) (hi : P.info? e = some i) (hz : i.zero = some z)
    (hsize : i.size = size) (hby : i.bytes = bytes) (hzs : z.cells.size = size) (hsz : 0 < size)
    (v : Value) (n : Nat) (xs : List Value) (hs : a.eval s = v) (hown : w.ownsRow base e size v n xs)
    (oa : Option Addr) (m c : Nat) (news : List Value) (hx : a.eval x = .slice oa m c) (hl : news.length = m * size) (h0 : oa = none → m = 0) (hnews : ∀ ad, oa = some ad → ∀ j u, news[j]? = some u → w.cell? (ad.add j) = some u) (h1 : ∀ u ∈ news, u.oneCell' = true)
    (h63 : n + m ≤ maxLen) (hbytes : (n + m) * bytes ≤ 140737488355328) (hbase : base ≤ w.heap.size)
    (h : ∀ v' w', w'.ownsRow base e size v' (n + m) (xs ++ news) → w.grownBy w' v.ownBlock → wpList P ops Q rest (a.put o.dst v') w') : wpList P ops Q (o :: rest) a w := by
  cases oa with
  | none =>
    have hm := h0 rfl
    subst hm
    have hn : news = [] := List.eq_nil_of_length_eq_zero (by omega)
    subst hn
    refine wpList_plain hgd fun K hK => ?_
    have hrun := run_append_nonil (P := P) (w := w) base t o.type e i size ht hi v n xs hown c
    have hk := h v w (by simpa using hown) ⟨rfl, rfl, rfl, Nat.le_refl _, fun _ _ _ => rfl⟩
    unfold Oper.wp
    simp [execOp, ho, resolve, invoke, builtin, hs, hx, hrun, Result.andThen]
    exact hK _ _ hk
  | some ad => exact wpList_append_own w hgd s x t ho base e i z size bytes ht hi hz hsize hby hzs hsz v n xs hs hown ad m c news hx hl (hnews ad rfl) h1 h63 hbytes hbase (fun v' w' h2 h3 _ => h v' w' h2 h3)
end Go.Proofs.YtgbhhjdmochhpaaDoor
namespace Go.Proofs.YtgbhhjdmochhpaaDoor
open Go Go.ChangeShapes Go.WideShapes Go.RowKit Go.ChangeAt
set_option linter.unusedVariables false
set_option linter.unusedSimpArgs false
set_option maxRecDepth 100000

set_option maxHeartbeats 4000000 in
theorem rgrade_any (v : Value) (m : Mat) (gv : Nat → Value) (s : ByteArray) (w : World) (h : MatAt w v m gv) :
    Calls Tryd.prog 28 #[v, .string s] w fun e w' => ∃ s' d y gv', e = .returned (.tuple #[.agg #[.string s', .int .i64 d, .int .i64 y, gv'], .bool (m.hasG s)]) ∧ (m.hasG s = true → d = m.de (m.gi s)) ∧ IntsAt w' gv' (m.gl s) (m.gf (m.gi s)) ∧ Below w.heap.size w w' := by
  obtain ⟨vg, vs, rfl, hG, hS, hb1, hb2, hb3⟩ := h
  have HG := Lib.hid hG
  have HS := Lib.hid hS
  have HN := Lib.hid hb3
  obtain ⟨oa, ca, rfl, hna, hea⟩ := hG.form
  obtain ⟨ob, cb, rfl, hnb, heb⟩ := hS.form
  have HEA := Lib.hid hea
  have HEB := Lib.hid heb
  clear hG hS hb3 hea heb
  obtain ⟨F, hF⟩ : ∃ F, m.gi s = F := ⟨_, rfl⟩
  obtain ⟨D, hD⟩ : ∃ D, m.hasG s = D := ⟨_, rfl⟩
  have HF : Hid (firstFrom (fun i => (m.nm i).toList == s.toList) m.ng 0 = F) := hF
  have HD : Hid (decide (F < m.ng) = D) := by show _ = _; rw [← hF]; exact hD
  obtain ⟨L, hL⟩ : ∃ L, m.gl s = L := ⟨_, rfl⟩
  have HL : Hid ((if D = true then m.gn F else 0) = L) := by show _ = _; rw [← hL, ← hD, ← hF]; rfl
  rw [hD, hL, hF]
  clear hF hD hL
  have hu : Tryd.prog.underlying 44 = some (.slice 3) := Tryd.underlying44
  obtain ⟨i0, hi, hz0, hz1, hz2⟩ := info_parts info_int
  go_enter Tryd.func28, Tryd.ntmps28
  go_wp2
  go_loopw [6, 7] (fun i _ wr => ∃ j : Nat, j ≤ m.ng ∧ i = .int .i64 j ∧ Hid (firstFrom (fun i => (m.nm i).toList == s.toList) (m.ng - j) j = F) ∧ Below ((w.alloc (.cells #[.slice oa m.ng ca, .slice ob m.ns cb] 35)).alloc (.cells #[.string ⟨#[]⟩, .int .i64 0, .int .i64 0, .slice none 0 0] 46)).heap.size ((w.alloc (.cells #[.slice oa m.ng ca, .slice ob m.ns cb] 35)).alloc (.cells #[.string ⟨#[]⟩, .int .i64 0, .int .i64 0, .slice none 0 0] 46)) wr) (fun i _ _ => m.ng - (intOf i).toNat)
  case atStart => exact ⟨0, by omega, rfl, HF.out, Below.refl _ _⟩
  case round =>
    obtain ⟨j, hj, rfl, hq, hB⟩ := hrel
    have HBr : Hid (Below w.heap.size w wr) := by
      show Below _ _ _
      exact below_step (w := w) (by go_grown) hB
    have hs1 := hB.size
    (try simp only [World.size_alloc, World.size_setCell] at hs1)
    have z0 : w.heap.size < wr.heap.size := by omega
    have z1 : w.heap.size + 1 < wr.heap.size := by omega
    have m0 : wr.cell? ⟨w.heap.size, 0, none⟩ = some (.slice oa m.ng ca) := (hB.cell (p := ⟨_, _, none⟩) (by simp <;> omega)).trans (by simp [go_sem])
    have m1 : wr.cell? ⟨w.heap.size, 1, none⟩ = some (.slice ob m.ns cb) := (hB.cell (p := ⟨_, _, none⟩) (by simp <;> omega)).trans (by simp [go_sem])
    have r0 : wr.cell? ⟨w.heap.size + 1, 0, none⟩ = some (.string ⟨#[]⟩) := (hB.cell (p := ⟨_, _, none⟩) (by simp <;> omega)).trans (by simp [go_sem])
    have rf0 : wr.frozen? ⟨w.heap.size + 1, 0, none⟩ = false := (hB.frozen (p := ⟨_, _, none⟩) (by simp <;> omega)).trans (by simp [go_sem])
    have r1 : wr.cell? ⟨w.heap.size + 1, 1, none⟩ = some (.int .i64 0) := (hB.cell (p := ⟨_, _, none⟩) (by simp <;> omega)).trans (by simp [go_sem])
    have rf1 : wr.frozen? ⟨w.heap.size + 1, 1, none⟩ = false := (hB.frozen (p := ⟨_, _, none⟩) (by simp <;> omega)).trans (by simp [go_sem])
    have r2 : wr.cell? ⟨w.heap.size + 1, 2, none⟩ = some (.int .i64 0) := (hB.cell (p := ⟨_, _, none⟩) (by simp <;> omega)).trans (by simp [go_sem])
    have rf2 : wr.frozen? ⟨w.heap.size + 1, 2, none⟩ = false := (hB.frozen (p := ⟨_, _, none⟩) (by simp <;> omega)).trans (by simp [go_sem])
    have r3 : wr.cell? ⟨w.heap.size + 1, 3, none⟩ = some (.slice none 0 0) := (hB.cell (p := ⟨_, _, none⟩) (by simp <;> omega)).trans (by simp [go_sem])
    have rf3 : wr.frozen? ⟨w.heap.size + 1, 3, none⟩ = false := (hB.frozen (p := ⟨_, _, none⟩) (by simp <;> omega)).trans (by simp [go_sem])
    have HBX := Lib.hid hB
    clear hs1 hB
    by_cases hlt : j < m.ng
    · obtain ⟨b1, f1, rfl, hbl1, hcl1⟩ := HEA.out j hlt
      have c0 : wr.cell? ⟨b1, f1 + j * 4, none⟩ = some (.string (m.nm j)) := (HBr.out.cell (p := ⟨_, _, none⟩) hbl1).trans (hcl1 j hlt).1
      have c1 : wr.cell? ⟨b1, f1 + j * 4 + 1, none⟩ = some (.int .i64 (m.de j)) := (HBr.out.cell (p := ⟨_, _, none⟩) hbl1).trans (hcl1 j hlt).2.1
      have c2 : wr.cell? ⟨b1, f1 + j * 4 + 2, none⟩ = some (.int .i64 (m.yi j)) := (HBr.out.cell (p := ⟨_, _, none⟩) hbl1).trans (hcl1 j hlt).2.2.1
      have c3 : wr.cell? ⟨b1, f1 + j * 4 + 3, none⟩ = some (gv j) := (HBr.out.cell (p := ⟨_, _, none⟩) hbl1).trans (hcl1 j hlt).2.2.2
      have hbr : b1 < wr.heap.size := by omega
      have hbn : b1 ≠ w.heap.size + 1 := by omega
      obtain ⟨oc, cc, hcv, hcn, hcel⟩ := (HG.out.2 j hlt).form
      have HGV := Lib.hid (HG.out.2 j hlt)
      have hgn := HN.out j hlt
      rw [hcv] at c3 HGV
      clear hcv
      clear hcl1
      by_cases h1 : ((m.nm j).toList == s.toList) = true
      · have hFj : F = j := hq.out.symm.trans (firstFrom_hit hlt h1)
        have hDt : D = true := by rw [← HD.out, hFj]; exact decide_eq_true hlt
        have h9 : (D = true ∧ L = m.gn j) ∧ F = j := ⟨⟨hDt, by rw [← HL.out, if_pos hDt, hFj]⟩, hFj⟩
        have H9 := Lib.hid h9
        have HNN : Hid (oc = none → m.gn j = 0) := fun h0 => by
          rcases Nat.eq_zero_or_pos (m.gn j) with hz | hz
          · exact hz
          · obtain ⟨b, off, hq, _⟩ := hcel 0 hz
            rw [h0] at hq; cases hq
        have HCL : Hid (∀ ad, oc = some ad → ∀ k u, (listOf (fun i => .int .i64 (m.gf j i)) (m.gn j))[k]? = some u → w.cell? (ad.add k) = some u ∧ (ad.add k).block < w.heap.size) := fun ad had k u hk => by
          have hkn : k < m.gn j := by
            have := (List.getElem?_eq_some_iff.1 hk).1
            rwa [listOf_len] at this
          obtain ⟨b, off, hq, hbl, hc⟩ := hcel k hkn
          rw [had] at hq
          cases hq
          rw [listOf_at _ _ _ hkn] at hk
          cases hk
          rw [Addr.add_lit]
          exact ⟨hc k hkn, hbl⟩
        clear hFj hDt h9 hcel
        go_wp2_with (at_builtin; refine wpList_append_sl rfl _ _ 44 rfl (wr.heap.size + 1) 3 i0 _ 1 8 hu hi hz0 hz1 hz2 rfl (by decide) (.slice (some ⟨wr.heap.size + 1, 0, none⟩) 0 0) 0 [] rfl ?d0 oc (m.gn j) cc (listOf (fun i => .int .i64 (m.gf j i)) (m.gn j)) rfl ?d1 HNN.out ?d2 ?d3 ?d4 ?d5 ?d6 ?_)
        case d0 =>
          have h := World.ownsRow_made (base := wr.heap.size + 1) (e := 3) (size := 1) (wr.alloc (.cells #[.string (m.nm j), .int .i64 (m.de j), .int .i64 (m.yi j), .slice oc (m.gn j) cc] 46)) #[] 0 (by simp <;> omega) (Nat.zero_le _) (by simp)
          simpa using h
        case d1 => rw [listOf_len]; omega
        case d2 =>
          intro ad had k u hk
          obtain ⟨q1, q2⟩ := HCL.out ad had k u hk
          exact (World.cell?_alloc_lt _ _ _ (by have := HBr.out.size; simp; omega)).trans ((World.cell?_alloc_lt _ _ _ (by have := HBr.out.size; omega)).trans ((HBr.out.cell q2).trans q1))
        case d3 =>
          intro u hu
          simp only [listOf, List.mem_map] at hu
          obtain ⟨i, _, rfl⟩ := hu
          rfl
        case d4 => unfold maxLen; omega
        case d5 => omega
        case d6 => simp <;> omega
        intro v7 w7 hown hgrow
        have W9 := hgrow
        have gb : ∀ k, k < wr.heap.size + 1 → w7.heap[k]? = _ := fun k hk => hgrow.block k (by simp; omega) (by simp [Value.ownBlock]; omega)
        have n0 : w7.cell? ⟨wr.heap.size, 0, none⟩ = some (.string (m.nm j)) := (World.cell?_of_block (gb wr.heap.size (by omega))).trans (by simp [go_sem])
        have nf0 : w7.frozen? ⟨wr.heap.size, 0, none⟩ = false := (World.frozen?_of_block (gb wr.heap.size (by omega))).trans (by simp [go_sem])
        have n1 : w7.cell? ⟨wr.heap.size, 1, none⟩ = some (.int .i64 (m.de j)) := (World.cell?_of_block (gb wr.heap.size (by omega))).trans (by simp [go_sem])
        have nf1 : w7.frozen? ⟨wr.heap.size, 1, none⟩ = false := (World.frozen?_of_block (gb wr.heap.size (by omega))).trans (by simp [go_sem])
        have n2 : w7.cell? ⟨wr.heap.size, 2, none⟩ = some (.int .i64 (m.yi j)) := (World.cell?_of_block (gb wr.heap.size (by omega))).trans (by simp [go_sem])
        have nf2 : w7.frozen? ⟨wr.heap.size, 2, none⟩ = false := (World.frozen?_of_block (gb wr.heap.size (by omega))).trans (by simp [go_sem])
        have n3 : w7.cell? ⟨wr.heap.size, 3, none⟩ = some (.slice oc (m.gn j) cc) := (World.cell?_of_block (gb wr.heap.size (by omega))).trans (by simp [go_sem])
        have nf3 : w7.frozen? ⟨wr.heap.size, 3, none⟩ = false := (World.frozen?_of_block (gb wr.heap.size (by omega))).trans (by simp [go_sem])
        have s0 : w7.cell? ⟨w.heap.size + 1, 0, none⟩ = some (.string ⟨#[]⟩) := (World.cell?_of_block (gb (w.heap.size + 1) (by omega))).trans ((World.cell?_alloc_lt _ _ _ (by simp; omega)).trans ((World.cell?_alloc_lt _ _ _ z1).trans r0))
        have sf0 : w7.frozen? ⟨w.heap.size + 1, 0, none⟩ = false := (World.frozen?_of_block (gb (w.heap.size + 1) (by omega))).trans (((((Below.refl wr.heap.size wr).alloc (Nat.le_refl _) _).alloc (by simp) _).frozen (p := ⟨w.heap.size + 1, 0, none⟩) z1).trans rf0)
        have s1 : w7.cell? ⟨w.heap.size + 1, 1, none⟩ = some (.int .i64 0) := (World.cell?_of_block (gb (w.heap.size + 1) (by omega))).trans ((World.cell?_alloc_lt _ _ _ (by simp; omega)).trans ((World.cell?_alloc_lt _ _ _ z1).trans r1))
        have sf1 : w7.frozen? ⟨w.heap.size + 1, 1, none⟩ = false := (World.frozen?_of_block (gb (w.heap.size + 1) (by omega))).trans (((((Below.refl wr.heap.size wr).alloc (Nat.le_refl _) _).alloc (by simp) _).frozen (p := ⟨w.heap.size + 1, 1, none⟩) z1).trans rf1)
        have s2 : w7.cell? ⟨w.heap.size + 1, 2, none⟩ = some (.int .i64 0) := (World.cell?_of_block (gb (w.heap.size + 1) (by omega))).trans ((World.cell?_alloc_lt _ _ _ (by simp; omega)).trans ((World.cell?_alloc_lt _ _ _ z1).trans r2))
        have sf2 : w7.frozen? ⟨w.heap.size + 1, 2, none⟩ = false := (World.frozen?_of_block (gb (w.heap.size + 1) (by omega))).trans (((((Below.refl wr.heap.size wr).alloc (Nat.le_refl _) _).alloc (by simp) _).frozen (p := ⟨w.heap.size + 1, 2, none⟩) z1).trans rf2)
        have s3 : w7.cell? ⟨w.heap.size + 1, 3, none⟩ = some (.slice none 0 0) := (World.cell?_of_block (gb (w.heap.size + 1) (by omega))).trans ((World.cell?_alloc_lt _ _ _ (by simp; omega)).trans ((World.cell?_alloc_lt _ _ _ z1).trans r3))
        have sf3 : w7.frozen? ⟨w.heap.size + 1, 3, none⟩ = false := (World.frozen?_of_block (gb (w.heap.size + 1) (by omega))).trans (((((Below.refl wr.heap.size wr).alloc (Nat.le_refl _) _).alloc (by simp) _).frozen (p := ⟨w.heap.size + 1, 3, none⟩) z1).trans rf3)
        have hB7 : Below w.heap.size w w7 := (Below.alloc (Below.alloc HBr.out HBr.out.size _) (by have := HBr.out.size; simp; omega) _).grown hgrow (by have := HBr.out.size; simp; omega) (by intro k hk; simp [Value.ownBlock] at hk; have := HBr.out.size; omega)
        have HB7 := Lib.hid hB7
        have HO7 : Hid (IntsAt w7 v7 (m.gn j) (m.gf j)) := by
          show IntsAt _ _ _ _
          exact owns_ints (by simpa using hown)
        have HN7 : Hid (NewFrom (wr.heap.size + 1) v7) := owns_new hown
        have hz7 := hgrow.size
        simp only [World.size_alloc] at hz7
        have z7 : wr.heap.size < w7.heap.size := by omega
        have z8 : w.heap.size + 1 < w7.heap.size := by omega
        obtain ⟨o7, c7, rfl, -, -⟩ := HO7.out.form
        clear hown hgrow hB7 hz7 gb W9
        go_wp2
        all_goals (refine bodyPost_ret (v := .tuple #[.agg #[.string (m.nm j), .int .i64 (m.de j), .int .i64 (m.yi j), .slice o7 (m.gn j) c7], .bool true]) (by simp [results, Tryd.results28, go_sem, *]) rfl ?_)
        rw [H9.out.1.1, H9.out.1.2, H9.out.2]
        refine ⟨_, _, _, _, rfl, fun _ => rfl, ?_, ?_⟩
        · exact ints_set (ints_set (ints_set (ints_set (ints_set (HO7.out) HN7.out _ _ _ (by omega)) HN7.out _ _ _ (by omega)) HN7.out _ _ _ (by omega)) HN7.out _ _ _ (by omega)) HN7.out _ _ _ (by omega)
        · exact (((((HB7.out).setCell (show w.heap.size ≤ wr.heap.size by omega) _).setCell (show w.heap.size ≤ w.heap.size + 1 by omega) _).setCell (show w.heap.size ≤ w.heap.size + 1 by omega) _).setCell (show w.heap.size ≤ w.heap.size + 1 by omega) _).setCell (show w.heap.size ≤ w.heap.size + 1 by omega) _
      have h1 : ((m.nm j).toList == s.toList) = false := by simpa using h1
      have hq2 : Hid (firstFrom (fun i => (m.nm i).toList == s.toList) (m.ng - (j + 1)) (j + 1) = F) := (firstFrom_miss hlt h1).symm.trans hq.out
      clear hcel
      go_wp2
      go_roundw
      case rel => exact ⟨j + 1, by omega, by go_num, hq2, HBX.out⟩
      case measure => simp [intOf]; omega
    · have hFj : F = m.ng := hq.out.symm.trans (firstFrom_end hj hlt)
      have hDf : D = false := by rw [← HD.out, hFj]; exact decide_eq_false (by omega)
      have h9 : D = false ∧ L = 0 := ⟨hDf, by rw [← HL.out, if_neg (by rw [hDf]; decide)]⟩
      have H9 := Lib.hid h9
      clear h9
      clear hFj hDf
      go_wp2
      all_goals (refine bodyPost_ret (v := .tuple #[.agg #[.string ⟨#[]⟩, .int .i64 0, .int .i64 0, .slice none 0 0], .bool false]) (by simp [results, Tryd.results28, go_sem, *]) rfl ?_)
      rw [H9.out.1, H9.out.2]
      refine ⟨_, _, _, _, rfl, fun h => absurd h (by decide), intsAt_nil _ _, ?_⟩
      exact ((((HBr.out).setCell (show w.heap.size ≤ w.heap.size + 1 by omega) _).setCell (show w.heap.size ≤ w.heap.size + 1 by omega) _).setCell (show w.heap.size ≤ w.heap.size + 1 by omega) _).setCell (show w.heap.size ≤ w.heap.size + 1 by omega) _
end Go.Proofs.YtgbhhjdmochhpaaDoor
namespace Go.Proofs.YtgbhhjdmochhpaaDoor
open Go.RowKit
set_option linter.unusedSimpArgs false

set_option maxHeartbeats 1000000 in
theorem letter_yes (c : Nat) (w : World) (h : LetterN c) :
    Calls Tryd.prog 51 #[.int .u8 c] w fun e w' => e = .returned (.bool true) ∧ Below w.heap.size w w' := by
  rcases h with ⟨h0, h1⟩ | ⟨h0, h1⟩
  all_goals go_enter Tryd.func51, Tryd.ntmps51
  all_goals go_wp2
  all_goals go_returns
  all_goals (refine ⟨?_, by go_grown⟩)
  all_goals first | rfl | (exfalso; omega) | (simp; omega)
set_option maxHeartbeats 1000000 in
theorem letter_no (c : Nat) (w : World) (h : ¬ LetterN c) :
    Calls Tryd.prog 51 #[.int .u8 c] w fun e w' => e = .returned (.bool false) ∧ Below w.heap.size w w' := by
  have k1 : ¬ (65 ≤ c ∧ c ≤ 90) := fun e => h (.inl e)
  have k2 : ¬ (97 ≤ c ∧ c ≤ 122) := fun e => h (.inr e)
  clear h
  go_enter Tryd.func51, Tryd.ntmps51
  go_wp2
  all_goals go_returns
  all_goals (refine ⟨?_, by go_grown⟩)
  all_goals first | rfl | (exfalso; omega) | (simp; omega)
set_option maxHeartbeats 1000000 in
theorem digit_yes (c : Nat) (w : World) (h : 48 ≤ c ∧ c ≤ 57) :
    Calls Tryd.prog 52 #[.int .u8 c] w fun e w' => e = .returned (.bool true) ∧ Below w.heap.size w w' := by
  obtain ⟨h0, h1⟩ := h
  go_enter Tryd.func52, Tryd.ntmps52
  go_wp2
  go_returns
  refine ⟨?_, by go_grown⟩
  first | rfl | (simp; omega)
set_option maxHeartbeats 1000000 in
theorem digit_no (c : Nat) (w : World) (h : ¬ (48 ≤ c ∧ c ≤ 57)) :
    Calls Tryd.prog 52 #[.int .u8 c] w fun e w' => e = .returned (.bool false) ∧ Below w.heap.size w w' := by
  go_enter Tryd.func52, Tryd.ntmps52
  go_wp2
  all_goals go_returns
  all_goals (refine ⟨?_, by go_grown⟩)
  all_goals first | rfl | (exfalso; omega) | (simp; omega)

theorem index_byte (t : TypeId) (ht : Tryd.prog.underlying t = some .string) (s : ByteArray) (p c : Nat) (h : p < s.size) (hc : byteAt s p = c) (W : World) :
    (Instr.index t (.string s) (.int .i64 (p : Int))).run Tryd.prog W = .ok (.int .u8 c) W := by
  rw [byteAt_eq s p h] at hc
  subst hc
  simp [go_sem, ht, h]

theorem index_byte0 (t : TypeId) (ht : Tryd.prog.underlying t = some .string) (s : ByteArray) (c : Nat) (h : 0 < s.size) (hc : byteAt s 0 = c) (W : World) :
    (Instr.index t (.string s) (.int .i64 0)).run Tryd.prog W = .ok (.int .u8 c) W := index_byte t ht s 0 c h hc W

set_option maxHeartbeats 2000000 in
theorem rIsName_any (s : ByteArray) (w : World) (hs : s.size ≤ 9223372036854775807) :
    Calls Tryd.prog 26 #[.string s] w fun e w' => e = .returned (.bool (nameB s)) ∧ Below w.heap.size w w' := by
  have hst : Tryd.prog.underlying 9 = some .string := Tryd.underlying9
  by_cases h0 : s.size = 0
  · have he := empty_toList h0
    have hN : nameB s = false := decide_eq_false (fun h => by have := h.1; omega)
    rw [hN]
    clear h0 hN
    go_enter Tryd.func26, Tryd.ntmps26
    go_wp2
    go_returns
    exact ⟨rfl, by go_grown⟩
  have he := full_toList (s := s) (by omega)
  by_cases h16 : 16 < s.size
  · have hle : decide (16 < (s.size : Int)) = true := decide_eq_true (by omega)
    have hN : nameB s = false := decide_eq_false (fun h => by have := h.2.1; omega)
    rw [hN]
    clear hN
    go_enter Tryd.func26, Tryd.ntmps26
    go_wp2
    go_returns
    exact ⟨rfl, by go_grown⟩
  have hle : decide (16 < (s.size : Int)) = false := decide_eq_false (by omega)
  have h1 : 1 ≤ s.size := by omega
  have h17 : s.size ≤ 16 := by omega
  clear h0 h16
  obtain ⟨c0, hc0⟩ : ∃ c, byteAt s 0 = c := ⟨_, rfl⟩
  have hi0 := fun W => index_byte0 9 hst s c0 (by omega) hc0 W
  by_cases hl : LetterN c0
  · have HL : Hid (LetterN (byteAt s 0)) := by rw [hc0]; exact hl
    clear hc0
    go_enter Tryd.func26, Tryd.ntmps26
    go_wp2_with fail
    (go_at_call 51; refine (letter_yes _ _ hl).mono ?_; rintro e w1 ⟨rfl, hB⟩)
    go_wp2_with fail
    have HB := Lib.hid hB
    clear hB hi0
    go_loopw [3] (fun i wr => ∃ p : Nat, p ≤ s.size ∧ i = .int .i64 p ∧ Hid (∀ i, i < p → OkAt s i) ∧ Below w.heap.size w wr) (fun i _ => s.size - (intOf i).toNat)
    case atStart => exact ⟨0, by omega, rfl, fun i hi => by omega, HB.out⟩
    case round =>
      obtain ⟨p, hp, rfl, hall, hb⟩ := hrel
      have HBr := Lib.hid hb
      clear hb
      by_cases hlt : p < s.size
      · obtain ⟨c, hc⟩ : ∃ c, byteAt s p = c := ⟨_, rfl⟩
        have hi := fun W => index_byte 9 hst s p c hlt hc W
        by_cases hok : OkAt s p
        · have hall2 : Hid (∀ i, i < p + 1 → OkAt s i) := fun i hi => by
            by_cases e : i = p
            · subst e; exact hok
            · exact hall.out i (by omega)
          by_cases hL : LetterN c
          · clear hc hok
            go_wp2_with fail
            (go_at_call 51; refine (letter_yes _ _ hL).mono ?_; rintro e w2 ⟨rfl, hB2⟩)
            go_wp2
            go_roundw
            case rel => exact ⟨p + 1, by omega, by go_num, hall2, below_step HBr.out hB2⟩
            case measure => simp [intOf]; omega
          · have hF : FurtherN c := by
              rcases hok with h | h
              · rw [hc] at h; exact absurd h hL
              · rw [hc] at h; exact h.2
            clear hc hok
            by_cases hd : 48 ≤ c ∧ c ≤ 57
            · go_wp2_with fail
              (go_at_call 51; refine (letter_no _ _ hL).mono ?_; rintro e w2 ⟨rfl, hB2⟩)
              go_wp2_with fail
              (go_at_call 52; refine (digit_yes _ _ hd).mono ?_; rintro e w3 ⟨rfl, hB3⟩)
              go_wp2
              go_roundw
              case rel => exact ⟨p + 1, by omega, by go_num, hall2, below_step (below_step HBr.out hB2) hB3⟩
              case measure => simp [intOf]; omega
            · have hk : c = 95 ∨ c = 45 := by unfold FurtherN at hF; omega
              clear hF
              by_cases h95 : c = 95
              · have b1 : ((c : Int) != 95) = false := by simp; omega
                clear hk h95
                go_wp2_with fail
                (go_at_call 51; refine (letter_no _ _ hL).mono ?_; rintro e w2 ⟨rfl, hB2⟩)
                go_wp2_with fail
                (go_at_call 52; refine (digit_no _ _ hd).mono ?_; rintro e w3 ⟨rfl, hB3⟩)
                go_wp2
                go_roundw
                case rel => exact ⟨p + 1, by omega, by go_num, hall2, below_step (below_step HBr.out hB2) hB3⟩
                case measure => simp [intOf]; omega
              · have b1 : ((c : Int) != 95) = true := by simp; omega
                have b2 : ((c : Int) != 45) = false := by simp; omega
                clear hk h95
                go_wp2_with fail
                (go_at_call 51; refine (letter_no _ _ hL).mono ?_; rintro e w2 ⟨rfl, hB2⟩)
                go_wp2_with fail
                (go_at_call 52; refine (digit_no _ _ hd).mono ?_; rintro e w3 ⟨rfl, hB3⟩)
                go_wp2
                go_roundw
                case rel => exact ⟨p + 1, by omega, by go_num, hall2, below_step (below_step HBr.out hB2) hB3⟩
                case measure => simp [intOf]; omega
        · have hN : nameB s = false := decide_eq_false (fun h => hok (h.2.2 p hlt))
          have hp0 : 0 < p := by
            rcases Nat.eq_zero_or_pos p with e | e
            · subst e; exact absurd (.inl HL.out) hok
            · exact e
          have hL : ¬ LetterN c := fun h => hok (.inl (by rw [hc]; exact h))
          have hF : ¬ FurtherN c := fun h => hok (.inr ⟨hp0, by rw [hc]; exact h⟩)
          have hd : ¬ (48 ≤ c ∧ c ≤ 57) := fun h => hF (.inl h)
          have b1 : ((c : Int) != 95) = true := by simp; intro h; exact hF (.inr (.inl (by omega)))
          have b2 : ((c : Int) != 45) = true := by simp; intro h; exact hF (.inr (.inr (by omega)))
          have HN := Lib.hid hN
          clear hc hok hF hN
          go_wp2_with fail
          (go_at_call 51; refine (letter_no _ _ hL).mono ?_; rintro e w2 ⟨rfl, hB2⟩)
          go_wp2_with fail
          (go_at_call 52; refine (digit_no _ _ hd).mono ?_; rintro e w3 ⟨rfl, hB3⟩)
          go_wp2
          go_returns
          rw [HN.out]
          exact ⟨rfl, below_step (below_step HBr.out hB2) hB3⟩
      · have hN : nameB s = true := decide_eq_true ⟨h1, h17, fun i hi => hall.out i (by omega)⟩
        have HN := Lib.hid hN
        clear hN
        go_wp2
        go_ret
        rw [HN.out]
        exact ⟨rfl, HBr.out⟩
  · have hN : nameB s = false := decide_eq_false (fun h => by
      have := h.2.2 0 (by omega)
      rcases this with h | h
      · rw [hc0] at h; exact hl h
      · omega)
    rw [hN]
    clear hc0 hN
    go_enter Tryd.func26, Tryd.ntmps26
    go_wp2_with fail
    (go_at_call 51; refine (letter_no _ _ hl).mono ?_; rintro e w1 ⟨rfl, hB⟩)
    go_wp2
    go_returns
    exact ⟨rfl, by first | assumption | go_grown⟩
end Go.Proofs.YtgbhhjdmochhpaaDoor
