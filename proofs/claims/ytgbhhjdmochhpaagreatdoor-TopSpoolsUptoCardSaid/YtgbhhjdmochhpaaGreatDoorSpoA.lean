/-
  What package part and its reference say of a rolled part. Conditions: as stated. By an AI agent.
-/
import Derived.Test.YtgbhhjdmochhpaaGreatDoorMatD
import Derived.Test.YtgbhhjdmochhpaaGreatDoorPipeK
namespace Go.Proofs.YtgbhhjdmochhpaaGreatDoor
open Go Go.ChangeShapes Go.WideShapes Go.RowKit Go.ChangeAt
set_option linter.unusedVariables false
set_option linter.unusedSimpArgs false

def inB (n lo hi : Int) : Bool := decide (lo ≤ n) && decide (n ≤ hi)
theorem inB_true {n lo hi : Int} (h : inB n lo hi = true) : lo ≤ n ∧ n ≤ hi := by simpa [inB] using h
theorem inB_yes {n lo hi : Int} (h0 : lo ≤ n) (h1 : n ≤ hi) : inB n lo hi = true := by simp [inB, h0, h1]
theorem block_lt {w : World} {b : Nat} {o : Obj} (h : w.heap[b]? = some o) : b < w.heap.size := (Array.getElem?_eq_some_iff.1 h).1
theorem idB_x : idB ⟨#[120]⟩ = true := by kernel_rfl
theorem idB_b : idB ⟨#[98]⟩ = true := by kernel_rfl
theorem pfrom_any (n lo hi : Int) (w : World) : Calls Tryz.prog 30 #[.int .i64 n, .int .i64 lo, .int .i64 hi] w fun e w' => e = .returned (.bool (inB n lo hi)) ∧ Below w.heap.size w w' := by
  obtain ⟨R, hR⟩ : ∃ R, inB n lo hi = R := ⟨_, rfl⟩
  rw [hR]
  unfold inB at hR
  by_cases h1 : lo ≤ n
  · have k1 : decide (lo ≤ n) = true := decide_eq_true h1
    rw [k1, Bool.true_and] at hR
    have HR := Lib.hid hR
    clear hR h1
    go_enter Tryz.func30, Tryz.ntmps30
    go_wp2
    go_returns
    rw [← HR.out]
    exact ⟨rfl, by go_grown⟩
  · have k1 : decide (lo ≤ n) = false := decide_eq_false h1
    rw [k1, Bool.false_and] at hR
    have HR := Lib.hid hR
    clear hR h1
    go_enter Tryz.func30, Tryz.ntmps30
    go_wp2
    go_returns
    rw [← HR.out]
    exact ⟨rfl, by go_grown⟩
theorem form3 (w : World) : Calls Tryz.prog 27 #[.int .i64 3] w fun e w' => e = .returned (.int .i64 2) ∧ Below w.heap.size w w' := by
  go_enter Tryz.func27, Tryz.ntmps27
  go_wp2
  go_returns
  exact ⟨rfl, by go_grown⟩
theorem rzero0 (w : World) : Calls Tryz.prog 38 #[.agg #[.slice none 0 0, .slice none 0 0]] w fun e w' => e = .returned (.bool true) ∧ Below w.heap.size w w' := by
  go_enter Tryz.func38, Tryz.ntmps38
  go_wp2
  go_returns
  exact ⟨rfl, by go_grown⟩

set_option maxHeartbeats 4000000 in
set_option maxRecDepth 20000 in
theorem spare3 (g s : ByteArray) (n a1 a2 a3 t : Int) (w : World) (hn : 1 ≤ n) : Calls Tryz.prog 31 #[.agg #[(.string ⟨#[120]⟩), (.int .i64 1), (.int .i64 3), (.string ⟨#[98]⟩), (.string g), (.int .i64 0), (.slice none 0 0), (.slice none 0 0), (.string s), (.int .i64 n), (.int .i64 0), (.int .i64 0), (.int .i64 0), (.int .i64 0), (.int .i64 a1), (.int .i64 a2), (.int .i64 a3), (.int .i64 t)]] w fun e w' => e = .returned (.bool false) ∧ Below w.heap.size w w' := by
  have q := neq_vec 0 0 0 0 0 0
  have kn : (n == 0) = false := by simp; omega
  have kn2 : (n != 0) = true := by simp; omega
  obtain ⟨B, hB⟩ : ∃ B, (s.toList == ([] : List UInt8)) = B := ⟨_, rfl⟩
  have hf := form3
  cases B
  · go_enter Tryz.func31, Tryz.ntmps31
    go_wp2_with fail
    (go_at_call 27; refine (hf _).mono ?_; rintro e w1 ⟨rfl, hb⟩)
    have HB := Lib.hid (below_step (w := w) (by go_grown) hb)
    clear hb
    go_wp2
    go_returns
    exact ⟨rfl, HB.out⟩
  · go_enter Tryz.func31, Tryz.ntmps31
    go_wp2_with fail
    (go_at_call 27; refine (hf _).mono ?_; rintro e w1 ⟨rfl, hb⟩)
    have HB := Lib.hid (below_step (w := w) (by go_grown) hb)
    clear hb
    go_wp2
    go_returns
    exact ⟨rfl, HB.out⟩
set_option maxHeartbeats 4000000 in
set_option maxRecDepth 20000 in
theorem rspare2 (g s : ByteArray) (n a1 a2 a3 t : Int) (w : World) (hn : 1 ≤ n) : Calls Tryz.prog 11 #[.agg #[(.string ⟨#[120]⟩), (.int .i64 1), (.int .i64 2), (.string ⟨#[98]⟩), (.string g), (.int .i64 0), (.slice none 0 0), (.slice none 0 0), (.string s), (.int .i64 n), (.int .i64 0), (.int .i64 0), (.int .i64 0), (.int .i64 0), (.int .i64 a1), (.int .i64 a2), (.int .i64 a3), (.int .i64 t)]] w fun e w' => e = .returned (.bool false) ∧ Below w.heap.size w w' := by
  have q := neq_vec 0 0 0 0 0 0
  have kn : (n == 0) = false := by simp; omega
  have kn2 : (n != 0) = true := by simp; omega
  obtain ⟨B, hB⟩ : ∃ B, (s.toList == ([] : List UInt8)) = B := ⟨_, rfl⟩
  cases B
  · go_enter Tryz.func11, Tryz.ntmps11
    go_wp2_with fail
    (go_at_call 38; refine (rzero0 _).mono ?_; rintro e w1 ⟨rfl, hb⟩)
    obtain ⟨c0, c1, c2, c3, c4, c5, c6, c7, c8, c9, c10, c11, c12, c13, c14, c15, c16, c17, cf, cz⟩ := cells_at18 ((hb.block (w.heap.size) (by simp)).trans (heapA_at w _ _ rfl))
    have HB := Lib.hid (below_step (w := w) (by go_grown) hb)
    clear hb
    go_wp2
    go_returns
    exact ⟨rfl, HB.out⟩
  · go_enter Tryz.func11, Tryz.ntmps11
    go_wp2_with fail
    (go_at_call 38; refine (rzero0 _).mono ?_; rintro e w1 ⟨rfl, hb⟩)
    obtain ⟨c0, c1, c2, c3, c4, c5, c6, c7, c8, c9, c10, c11, c12, c13, c14, c15, c16, c17, cf, cz⟩ := cells_at18 ((hb.block (w.heap.size) (by simp)).trans (heapA_at w _ _ rfl))
    have HB := Lib.hid (below_step (w := w) (by go_grown) hb)
    clear hb
    go_wp2
    go_returns
    exact ⟨rfl, HB.out⟩

set_option maxHeartbeats 8000000 in
set_option maxRecDepth 20000 in
theorem rknown2 (v : Value) (m : Mat) (gv : Nat → Value) (g s : ByteArray) (n a1 a2 a3 t : Int) (w : World) (hm : MatAt w v m gv) (hg : m.hasG g = true) (hs : m.hasS s = true) : Calls Tryz.prog 12 #[.agg #[(.string ⟨#[120]⟩), (.int .i64 1), (.int .i64 2), (.string ⟨#[98]⟩), (.string g), (.int .i64 0), (.slice none 0 0), (.slice none 0 0), (.string s), (.int .i64 n), (.int .i64 0), (.int .i64 0), (.int .i64 0), (.int .i64 0), (.int .i64 a1), (.int .i64 a2), (.int .i64 a3), (.int .i64 t)], v] w fun e w' => e = .returned (.bool (inB (m.de (m.gi g)) 1000 20000 && (inB (m.sa (m.si s)) 1 1000000 && inB (m.sh (m.si s)) 1 2000))) ∧ Below w.heap.size w w' := by
  have HM := Lib.hid hm
  obtain ⟨vg, vs, rfl, hG, hS, -, -, -⟩ := hm
  obtain ⟨og, cg, rfl, -, -⟩ := hG.form
  obtain ⟨os', cs', rfl, -, -⟩ := hS.form
  clear hG hS
  obtain ⟨D, hD⟩ : ∃ d, m.de (m.gi g) = d := ⟨_, rfl⟩
  obtain ⟨R, hR⟩ : ∃ d, m.sa (m.si s) = d := ⟨_, rfl⟩
  obtain ⟨T, hT⟩ : ∃ d, m.sh (m.si s) = d := ⟨_, rfl⟩
  rw [hD, hR, hT]
  have HD := Lib.hid hD
  have HR := Lib.hid (And.intro hR hT)
  have HG := Lib.hid hg
  have HS := Lib.hid hs
  clear hD hR hT hg hs
  unfold inB
  by_cases h1 : D < 1000
  · have e1 : decide ((1000 : Int) ≤ D) = false := decide_eq_false (by omega)
    have e2 : decide (D < 1000) = true := decide_eq_true h1
    rw [e1]
    simp only [Bool.false_and]
    clear h1 e1
    go_enter Tryz.func12, Tryz.ntmps12
    go_wp2_with fail
    obtain ⟨w0, hw0⟩ : ∃ X, ((w.alloc (.cells #[(.string ⟨#[120]⟩), (.int .i64 1), (.int .i64 2), (.string ⟨#[98]⟩), (.string g), (.int .i64 0), (.slice none 0 0), (.slice none 0 0), (.string s), (.int .i64 n), (.int .i64 0), (.int .i64 0), (.int .i64 0), (.int .i64 0), (.int .i64 a1), (.int .i64 a2), (.int .i64 a3), (.int .i64 t)] 43)).alloc (.cells #[.slice og m.ng cg, .slice os' m.ns cs'] 26)) = X := ⟨_, rfl⟩
    have HQP : Hid (w0.heap[w.heap.size]? = some (.cells #[(.string ⟨#[120]⟩), (.int .i64 1), (.int .i64 2), (.string ⟨#[98]⟩), (.string g), (.int .i64 0), (.slice none 0 0), (.slice none 0 0), (.string s), (.int .i64 n), (.int .i64 0), (.int .i64 0), (.int .i64 0), (.int .i64 0), (.int .i64 a1), (.int .i64 a2), (.int .i64 a3), (.int .i64 t)] 43)) := by
      show _ = _
      rw [← hw0]
      exact (heapA_old _ _ _ (by simp)).trans (heapA_at _ _ _ rfl)
    have HQM : Hid (w0.heap[(w.heap.size + 1)]? = some (.cells #[.slice og m.ng cg, .slice os' m.ns cs'] 26)) := by
      show _ = _
      rw [← hw0]
      exact heapA_at _ _ _ (by simp)
    have hBw0 : Below w.heap.size w w0 := by rw [← hw0]; exact (((Below.refl w.heap.size w).alloc (Nat.le_refl _) _).alloc (by simp) _)
    rw [hw0]
    clear hw0
    replace HM := Lib.hid (HM.out.below hBw0)
    obtain ⟨c0, c1, c2, c3, c4, c5, c6, c7, c8, c9, c10, c11, c12, c13, c14, c15, c16, c17, cf, cz⟩ := cells_at18 HQP.out
    obtain ⟨d0, d1, df, dz⟩ := cells_at2 HQM.out
    (go_at_call 39; refine (rgrade_any _ m gv g _ (HM.out.below (by first | exact Below.refl _ _ | (show Below w0.heap.size w0 _; go_grown)))).mono ?_; rintro e_ w1 ⟨s1, d1', y1, gv', rfl, hd1, hi, hb⟩)
    have hPw1 : Below w0.heap.size w0 w1 := below_step (w := w0) (by first | exact Below.refl _ _ | go_grown) hb
    have hBw1 : Below w.heap.size w w1 := below_step hBw0 hPw1
    replace HM := Lib.hid (HM.out.below hPw1)
    have HQP2 : Hid (w1.heap[w.heap.size]? = some (.cells #[(.string ⟨#[120]⟩), (.int .i64 1), (.int .i64 2), (.string ⟨#[98]⟩), (.string g), (.int .i64 0), (.slice none 0 0), (.slice none 0 0), (.string s), (.int .i64 n), (.int .i64 0), (.int .i64 0), (.int .i64 0), (.int .i64 0), (.int .i64 a1), (.int .i64 a2), (.int .i64 a3), (.int .i64 t)] 43)) := (hPw1.block _ (block_lt HQP.out)).trans HQP.out
    have HQM2 : Hid (w1.heap[(w.heap.size + 1)]? = some (.cells #[.slice og m.ng cg, .slice os' m.ns cs'] 26)) := (hPw1.block _ (block_lt HQM.out)).trans HQM.out
    clear HQP HQM
    have HQP := HQP2
    have HQM := HQM2
    clear HQP2 HQM2
    obtain ⟨o2, c2', rfl, -, -⟩ := hi.form
    rw [HG.out]
    obtain rfl : D = d1' := HD.out.symm.trans (hd1 HG.out).symm
    clear hi hd1
    clear c0 c1 c2 c3 c4 c5 c6 c7 c8 c9 c10 c11 c12 c13 c14 c15 c16 c17 cf cz d0 d1 df dz
    clear hb hPw1 hBw0
    obtain ⟨c0, c1, c2, c3, c4, c5, c6, c7, c8, c9, c10, c11, c12, c13, c14, c15, c16, c17, cf, cz⟩ := cells_at18 HQP.out
    obtain ⟨d0, d1, df, dz⟩ := cells_at2 HQM.out
    go_wp2
    go_returns
    exact ⟨rfl, by go_grown⟩
  have a1' : decide ((1000 : Int) ≤ D) = true := decide_eq_true (by omega)
  have a2' : decide (D < 1000) = false := decide_eq_false h1
  rw [a1']
  clear a1' h1
  by_cases h2 : 20000 < D
  · have e1 : decide (D ≤ 20000) = false := decide_eq_false (by omega)
    have e2 : decide ((20000 : Int) < D) = true := decide_eq_true h2
    rw [e1]
    simp only [Bool.and_false, Bool.false_and]
    clear h2 e1
    go_enter Tryz.func12, Tryz.ntmps12
    go_wp2_with fail
    obtain ⟨w0, hw0⟩ : ∃ X, ((w.alloc (.cells #[(.string ⟨#[120]⟩), (.int .i64 1), (.int .i64 2), (.string ⟨#[98]⟩), (.string g), (.int .i64 0), (.slice none 0 0), (.slice none 0 0), (.string s), (.int .i64 n), (.int .i64 0), (.int .i64 0), (.int .i64 0), (.int .i64 0), (.int .i64 a1), (.int .i64 a2), (.int .i64 a3), (.int .i64 t)] 43)).alloc (.cells #[.slice og m.ng cg, .slice os' m.ns cs'] 26)) = X := ⟨_, rfl⟩
    have HQP : Hid (w0.heap[w.heap.size]? = some (.cells #[(.string ⟨#[120]⟩), (.int .i64 1), (.int .i64 2), (.string ⟨#[98]⟩), (.string g), (.int .i64 0), (.slice none 0 0), (.slice none 0 0), (.string s), (.int .i64 n), (.int .i64 0), (.int .i64 0), (.int .i64 0), (.int .i64 0), (.int .i64 a1), (.int .i64 a2), (.int .i64 a3), (.int .i64 t)] 43)) := by
      show _ = _
      rw [← hw0]
      exact (heapA_old _ _ _ (by simp)).trans (heapA_at _ _ _ rfl)
    have HQM : Hid (w0.heap[(w.heap.size + 1)]? = some (.cells #[.slice og m.ng cg, .slice os' m.ns cs'] 26)) := by
      show _ = _
      rw [← hw0]
      exact heapA_at _ _ _ (by simp)
    have hBw0 : Below w.heap.size w w0 := by rw [← hw0]; exact (((Below.refl w.heap.size w).alloc (Nat.le_refl _) _).alloc (by simp) _)
    rw [hw0]
    clear hw0
    replace HM := Lib.hid (HM.out.below hBw0)
    obtain ⟨c0, c1, c2, c3, c4, c5, c6, c7, c8, c9, c10, c11, c12, c13, c14, c15, c16, c17, cf, cz⟩ := cells_at18 HQP.out
    obtain ⟨d0, d1, df, dz⟩ := cells_at2 HQM.out
    (go_at_call 39; refine (rgrade_any _ m gv g _ (HM.out.below (by first | exact Below.refl _ _ | (show Below w0.heap.size w0 _; go_grown)))).mono ?_; rintro e_ w1 ⟨s1, d1', y1, gv', rfl, hd1, hi, hb⟩)
    have hPw1 : Below w0.heap.size w0 w1 := below_step (w := w0) (by first | exact Below.refl _ _ | go_grown) hb
    have hBw1 : Below w.heap.size w w1 := below_step hBw0 hPw1
    replace HM := Lib.hid (HM.out.below hPw1)
    have HQP2 : Hid (w1.heap[w.heap.size]? = some (.cells #[(.string ⟨#[120]⟩), (.int .i64 1), (.int .i64 2), (.string ⟨#[98]⟩), (.string g), (.int .i64 0), (.slice none 0 0), (.slice none 0 0), (.string s), (.int .i64 n), (.int .i64 0), (.int .i64 0), (.int .i64 0), (.int .i64 0), (.int .i64 a1), (.int .i64 a2), (.int .i64 a3), (.int .i64 t)] 43)) := (hPw1.block _ (block_lt HQP.out)).trans HQP.out
    have HQM2 : Hid (w1.heap[(w.heap.size + 1)]? = some (.cells #[.slice og m.ng cg, .slice os' m.ns cs'] 26)) := (hPw1.block _ (block_lt HQM.out)).trans HQM.out
    clear HQP HQM
    have HQP := HQP2
    have HQM := HQM2
    clear HQP2 HQM2
    obtain ⟨o2, c2', rfl, -, -⟩ := hi.form
    rw [HG.out]
    obtain rfl : D = d1' := HD.out.symm.trans (hd1 HG.out).symm
    clear hi hd1
    clear c0 c1 c2 c3 c4 c5 c6 c7 c8 c9 c10 c11 c12 c13 c14 c15 c16 c17 cf cz d0 d1 df dz
    clear hb hPw1 hBw0
    obtain ⟨c0, c1, c2, c3, c4, c5, c6, c7, c8, c9, c10, c11, c12, c13, c14, c15, c16, c17, cf, cz⟩ := cells_at18 HQP.out
    obtain ⟨d0, d1, df, dz⟩ := cells_at2 HQM.out
    go_wp2
    go_returns
    exact ⟨rfl, by go_grown⟩
  have b1' : decide (D ≤ 20000) = true := decide_eq_true (by omega)
  have b2' : decide ((20000 : Int) < D) = false := decide_eq_false h2
  rw [b1']
  clear b1' h2
  simp only [Bool.true_and]
  by_cases r0 : (1 : Int) ≤ R
  rotate_left
  · have k0 : decide ((1 : Int) ≤ R) = false := decide_eq_false r0
    rw [k0]
    (try simp only [Bool.false_and, Bool.and_false, Bool.true_and])
    clear r0
    go_enter Tryz.func12, Tryz.ntmps12
    go_wp2_with fail
    obtain ⟨w0, hw0⟩ : ∃ X, ((w.alloc (.cells #[(.string ⟨#[120]⟩), (.int .i64 1), (.int .i64 2), (.string ⟨#[98]⟩), (.string g), (.int .i64 0), (.slice none 0 0), (.slice none 0 0), (.string s), (.int .i64 n), (.int .i64 0), (.int .i64 0), (.int .i64 0), (.int .i64 0), (.int .i64 a1), (.int .i64 a2), (.int .i64 a3), (.int .i64 t)] 43)).alloc (.cells #[.slice og m.ng cg, .slice os' m.ns cs'] 26)) = X := ⟨_, rfl⟩
    have HQP : Hid (w0.heap[w.heap.size]? = some (.cells #[(.string ⟨#[120]⟩), (.int .i64 1), (.int .i64 2), (.string ⟨#[98]⟩), (.string g), (.int .i64 0), (.slice none 0 0), (.slice none 0 0), (.string s), (.int .i64 n), (.int .i64 0), (.int .i64 0), (.int .i64 0), (.int .i64 0), (.int .i64 a1), (.int .i64 a2), (.int .i64 a3), (.int .i64 t)] 43)) := by
      show _ = _
      rw [← hw0]
      exact (heapA_old _ _ _ (by simp)).trans (heapA_at _ _ _ rfl)
    have HQM : Hid (w0.heap[(w.heap.size + 1)]? = some (.cells #[.slice og m.ng cg, .slice os' m.ns cs'] 26)) := by
      show _ = _
      rw [← hw0]
      exact heapA_at _ _ _ (by simp)
    have hBw0 : Below w.heap.size w w0 := by rw [← hw0]; exact (((Below.refl w.heap.size w).alloc (Nat.le_refl _) _).alloc (by simp) _)
    rw [hw0]
    clear hw0
    replace HM := Lib.hid (HM.out.below hBw0)
    obtain ⟨c0, c1, c2, c3, c4, c5, c6, c7, c8, c9, c10, c11, c12, c13, c14, c15, c16, c17, cf, cz⟩ := cells_at18 HQP.out
    obtain ⟨d0, d1, df, dz⟩ := cells_at2 HQM.out
    (go_at_call 39; refine (rgrade_any _ m gv g _ (HM.out.below (by first | exact Below.refl _ _ | (show Below w0.heap.size w0 _; go_grown)))).mono ?_; rintro e_ w1 ⟨s1, d1', y1, gv', rfl, hd1, hi, hb⟩)
    have hPw1 : Below w0.heap.size w0 w1 := below_step (w := w0) (by first | exact Below.refl _ _ | go_grown) hb
    have hBw1 : Below w.heap.size w w1 := below_step hBw0 hPw1
    replace HM := Lib.hid (HM.out.below hPw1)
    have HQP2 : Hid (w1.heap[w.heap.size]? = some (.cells #[(.string ⟨#[120]⟩), (.int .i64 1), (.int .i64 2), (.string ⟨#[98]⟩), (.string g), (.int .i64 0), (.slice none 0 0), (.slice none 0 0), (.string s), (.int .i64 n), (.int .i64 0), (.int .i64 0), (.int .i64 0), (.int .i64 0), (.int .i64 a1), (.int .i64 a2), (.int .i64 a3), (.int .i64 t)] 43)) := (hPw1.block _ (block_lt HQP.out)).trans HQP.out
    have HQM2 : Hid (w1.heap[(w.heap.size + 1)]? = some (.cells #[.slice og m.ng cg, .slice os' m.ns cs'] 26)) := (hPw1.block _ (block_lt HQM.out)).trans HQM.out
    clear HQP HQM
    have HQP := HQP2
    have HQM := HQM2
    clear HQP2 HQM2
    obtain ⟨o2, c2', rfl, -, -⟩ := hi.form
    rw [HG.out]
    obtain rfl : D = d1' := HD.out.symm.trans (hd1 HG.out).symm
    clear hi hd1
    clear c0 c1 c2 c3 c4 c5 c6 c7 c8 c9 c10 c11 c12 c13 c14 c15 c16 c17 cf cz d0 d1 df dz
    clear hb hPw1 hBw0
    obtain ⟨c0, c1, c2, c3, c4, c5, c6, c7, c8, c9, c10, c11, c12, c13, c14, c15, c16, c17, cf, cz⟩ := cells_at18 HQP.out
    obtain ⟨d0, d1, df, dz⟩ := cells_at2 HQM.out
    go_wp2_with fail
    (go_at_call 41; refine (rsection_any _ m gv s _ (HM.out.below (by first | exact Below.refl _ _ | (show Below w1.heap.size w1 _; go_grown)))).mono ?_; rintro e_ w2 ⟨s2, r2, t2, k2, rfl, hd2, hb⟩)
    have hPw2 : Below w1.heap.size w1 w2 := below_step (w := w1) (by first | exact Below.refl _ _ | go_grown) hb
    have hBw2 : Below w.heap.size w w2 := below_step hBw1 hPw2
    replace HM := Lib.hid (HM.out.below hPw2)
    have HQP2 : Hid (w2.heap[w.heap.size]? = some (.cells #[(.string ⟨#[120]⟩), (.int .i64 1), (.int .i64 2), (.string ⟨#[98]⟩), (.string g), (.int .i64 0), (.slice none 0 0), (.slice none 0 0), (.string s), (.int .i64 n), (.int .i64 0), (.int .i64 0), (.int .i64 0), (.int .i64 0), (.int .i64 a1), (.int .i64 a2), (.int .i64 a3), (.int .i64 t)] 43)) := (hPw2.block _ (block_lt HQP.out)).trans HQP.out
    have HQM2 : Hid (w2.heap[(w.heap.size + 1)]? = some (.cells #[.slice og m.ng cg, .slice os' m.ns cs'] 26)) := (hPw2.block _ (block_lt HQM.out)).trans HQM.out
    clear HQP HQM
    have HQP := HQP2
    have HQM := HQM2
    clear HQP2 HQM2
    rw [HS.out]
    obtain ⟨hr1, hr2⟩ := hd2 HS.out
    obtain rfl : R = r2 := HR.out.1.symm.trans hr1.symm
    obtain rfl : T = t2 := HR.out.2.symm.trans hr2.symm
    clear hr1 hr2 hd2
    clear c0 c1 c2 c3 c4 c5 c6 c7 c8 c9 c10 c11 c12 c13 c14 c15 c16 c17 cf cz d0 d1 df dz
    clear hb hPw2 hBw1
    obtain ⟨c0, c1, c2, c3, c4, c5, c6, c7, c8, c9, c10, c11, c12, c13, c14, c15, c16, c17, cf, cz⟩ := cells_at18 HQP.out
    obtain ⟨d0, d1, df, dz⟩ := cells_at2 HQM.out
    go_wp2
    go_returns
    exact ⟨rfl, by go_grown⟩
  have k0 : decide ((1 : Int) ≤ R) = true := decide_eq_true r0
  rw [k0]
  (try simp only [Bool.true_and, Bool.and_true])
  clear r0
  by_cases r1 : R ≤ 1000000
  rotate_left
  · have k1 : decide (R ≤ 1000000) = false := decide_eq_false r1
    rw [k1]
    (try simp only [Bool.false_and, Bool.and_false, Bool.true_and])
    clear r1
    go_enter Tryz.func12, Tryz.ntmps12
    go_wp2_with fail
    obtain ⟨w0, hw0⟩ : ∃ X, ((w.alloc (.cells #[(.string ⟨#[120]⟩), (.int .i64 1), (.int .i64 2), (.string ⟨#[98]⟩), (.string g), (.int .i64 0), (.slice none 0 0), (.slice none 0 0), (.string s), (.int .i64 n), (.int .i64 0), (.int .i64 0), (.int .i64 0), (.int .i64 0), (.int .i64 a1), (.int .i64 a2), (.int .i64 a3), (.int .i64 t)] 43)).alloc (.cells #[.slice og m.ng cg, .slice os' m.ns cs'] 26)) = X := ⟨_, rfl⟩
    have HQP : Hid (w0.heap[w.heap.size]? = some (.cells #[(.string ⟨#[120]⟩), (.int .i64 1), (.int .i64 2), (.string ⟨#[98]⟩), (.string g), (.int .i64 0), (.slice none 0 0), (.slice none 0 0), (.string s), (.int .i64 n), (.int .i64 0), (.int .i64 0), (.int .i64 0), (.int .i64 0), (.int .i64 a1), (.int .i64 a2), (.int .i64 a3), (.int .i64 t)] 43)) := by
      show _ = _
      rw [← hw0]
      exact (heapA_old _ _ _ (by simp)).trans (heapA_at _ _ _ rfl)
    have HQM : Hid (w0.heap[(w.heap.size + 1)]? = some (.cells #[.slice og m.ng cg, .slice os' m.ns cs'] 26)) := by
      show _ = _
      rw [← hw0]
      exact heapA_at _ _ _ (by simp)
    have hBw0 : Below w.heap.size w w0 := by rw [← hw0]; exact (((Below.refl w.heap.size w).alloc (Nat.le_refl _) _).alloc (by simp) _)
    rw [hw0]
    clear hw0
    replace HM := Lib.hid (HM.out.below hBw0)
    obtain ⟨c0, c1, c2, c3, c4, c5, c6, c7, c8, c9, c10, c11, c12, c13, c14, c15, c16, c17, cf, cz⟩ := cells_at18 HQP.out
    obtain ⟨d0, d1, df, dz⟩ := cells_at2 HQM.out
    (go_at_call 39; refine (rgrade_any _ m gv g _ (HM.out.below (by first | exact Below.refl _ _ | (show Below w0.heap.size w0 _; go_grown)))).mono ?_; rintro e_ w1 ⟨s1, d1', y1, gv', rfl, hd1, hi, hb⟩)
    have hPw1 : Below w0.heap.size w0 w1 := below_step (w := w0) (by first | exact Below.refl _ _ | go_grown) hb
    have hBw1 : Below w.heap.size w w1 := below_step hBw0 hPw1
    replace HM := Lib.hid (HM.out.below hPw1)
    have HQP2 : Hid (w1.heap[w.heap.size]? = some (.cells #[(.string ⟨#[120]⟩), (.int .i64 1), (.int .i64 2), (.string ⟨#[98]⟩), (.string g), (.int .i64 0), (.slice none 0 0), (.slice none 0 0), (.string s), (.int .i64 n), (.int .i64 0), (.int .i64 0), (.int .i64 0), (.int .i64 0), (.int .i64 a1), (.int .i64 a2), (.int .i64 a3), (.int .i64 t)] 43)) := (hPw1.block _ (block_lt HQP.out)).trans HQP.out
    have HQM2 : Hid (w1.heap[(w.heap.size + 1)]? = some (.cells #[.slice og m.ng cg, .slice os' m.ns cs'] 26)) := (hPw1.block _ (block_lt HQM.out)).trans HQM.out
    clear HQP HQM
    have HQP := HQP2
    have HQM := HQM2
    clear HQP2 HQM2
    obtain ⟨o2, c2', rfl, -, -⟩ := hi.form
    rw [HG.out]
    obtain rfl : D = d1' := HD.out.symm.trans (hd1 HG.out).symm
    clear hi hd1
    clear c0 c1 c2 c3 c4 c5 c6 c7 c8 c9 c10 c11 c12 c13 c14 c15 c16 c17 cf cz d0 d1 df dz
    clear hb hPw1 hBw0
    obtain ⟨c0, c1, c2, c3, c4, c5, c6, c7, c8, c9, c10, c11, c12, c13, c14, c15, c16, c17, cf, cz⟩ := cells_at18 HQP.out
    obtain ⟨d0, d1, df, dz⟩ := cells_at2 HQM.out
    go_wp2_with fail
    (go_at_call 41; refine (rsection_any _ m gv s _ (HM.out.below (by first | exact Below.refl _ _ | (show Below w1.heap.size w1 _; go_grown)))).mono ?_; rintro e_ w2 ⟨s2, r2, t2, k2, rfl, hd2, hb⟩)
    have hPw2 : Below w1.heap.size w1 w2 := below_step (w := w1) (by first | exact Below.refl _ _ | go_grown) hb
    have hBw2 : Below w.heap.size w w2 := below_step hBw1 hPw2
    replace HM := Lib.hid (HM.out.below hPw2)
    have HQP2 : Hid (w2.heap[w.heap.size]? = some (.cells #[(.string ⟨#[120]⟩), (.int .i64 1), (.int .i64 2), (.string ⟨#[98]⟩), (.string g), (.int .i64 0), (.slice none 0 0), (.slice none 0 0), (.string s), (.int .i64 n), (.int .i64 0), (.int .i64 0), (.int .i64 0), (.int .i64 0), (.int .i64 a1), (.int .i64 a2), (.int .i64 a3), (.int .i64 t)] 43)) := (hPw2.block _ (block_lt HQP.out)).trans HQP.out
    have HQM2 : Hid (w2.heap[(w.heap.size + 1)]? = some (.cells #[.slice og m.ng cg, .slice os' m.ns cs'] 26)) := (hPw2.block _ (block_lt HQM.out)).trans HQM.out
    clear HQP HQM
    have HQP := HQP2
    have HQM := HQM2
    clear HQP2 HQM2
    rw [HS.out]
    obtain ⟨hr1, hr2⟩ := hd2 HS.out
    obtain rfl : R = r2 := HR.out.1.symm.trans hr1.symm
    obtain rfl : T = t2 := HR.out.2.symm.trans hr2.symm
    clear hr1 hr2 hd2
    clear c0 c1 c2 c3 c4 c5 c6 c7 c8 c9 c10 c11 c12 c13 c14 c15 c16 c17 cf cz d0 d1 df dz
    clear hb hPw2 hBw1
    obtain ⟨c0, c1, c2, c3, c4, c5, c6, c7, c8, c9, c10, c11, c12, c13, c14, c15, c16, c17, cf, cz⟩ := cells_at18 HQP.out
    obtain ⟨d0, d1, df, dz⟩ := cells_at2 HQM.out
    go_wp2
    go_returns
    exact ⟨rfl, by go_grown⟩
  have k1 : decide (R ≤ 1000000) = true := decide_eq_true r1
  rw [k1]
  (try simp only [Bool.true_and, Bool.and_true])
  clear r1
  by_cases r2 : (1 : Int) ≤ T
  rotate_left
  · have k2 : decide ((1 : Int) ≤ T) = false := decide_eq_false r2
    rw [k2]
    (try simp only [Bool.false_and, Bool.and_false, Bool.true_and])
    clear r2
    go_enter Tryz.func12, Tryz.ntmps12
    go_wp2_with fail
    obtain ⟨w0, hw0⟩ : ∃ X, ((w.alloc (.cells #[(.string ⟨#[120]⟩), (.int .i64 1), (.int .i64 2), (.string ⟨#[98]⟩), (.string g), (.int .i64 0), (.slice none 0 0), (.slice none 0 0), (.string s), (.int .i64 n), (.int .i64 0), (.int .i64 0), (.int .i64 0), (.int .i64 0), (.int .i64 a1), (.int .i64 a2), (.int .i64 a3), (.int .i64 t)] 43)).alloc (.cells #[.slice og m.ng cg, .slice os' m.ns cs'] 26)) = X := ⟨_, rfl⟩
    have HQP : Hid (w0.heap[w.heap.size]? = some (.cells #[(.string ⟨#[120]⟩), (.int .i64 1), (.int .i64 2), (.string ⟨#[98]⟩), (.string g), (.int .i64 0), (.slice none 0 0), (.slice none 0 0), (.string s), (.int .i64 n), (.int .i64 0), (.int .i64 0), (.int .i64 0), (.int .i64 0), (.int .i64 a1), (.int .i64 a2), (.int .i64 a3), (.int .i64 t)] 43)) := by
      show _ = _
      rw [← hw0]
      exact (heapA_old _ _ _ (by simp)).trans (heapA_at _ _ _ rfl)
    have HQM : Hid (w0.heap[(w.heap.size + 1)]? = some (.cells #[.slice og m.ng cg, .slice os' m.ns cs'] 26)) := by
      show _ = _
      rw [← hw0]
      exact heapA_at _ _ _ (by simp)
    have hBw0 : Below w.heap.size w w0 := by rw [← hw0]; exact (((Below.refl w.heap.size w).alloc (Nat.le_refl _) _).alloc (by simp) _)
    rw [hw0]
    clear hw0
    replace HM := Lib.hid (HM.out.below hBw0)
    obtain ⟨c0, c1, c2, c3, c4, c5, c6, c7, c8, c9, c10, c11, c12, c13, c14, c15, c16, c17, cf, cz⟩ := cells_at18 HQP.out
    obtain ⟨d0, d1, df, dz⟩ := cells_at2 HQM.out
    (go_at_call 39; refine (rgrade_any _ m gv g _ (HM.out.below (by first | exact Below.refl _ _ | (show Below w0.heap.size w0 _; go_grown)))).mono ?_; rintro e_ w1 ⟨s1, d1', y1, gv', rfl, hd1, hi, hb⟩)
    have hPw1 : Below w0.heap.size w0 w1 := below_step (w := w0) (by first | exact Below.refl _ _ | go_grown) hb
    have hBw1 : Below w.heap.size w w1 := below_step hBw0 hPw1
    replace HM := Lib.hid (HM.out.below hPw1)
    have HQP2 : Hid (w1.heap[w.heap.size]? = some (.cells #[(.string ⟨#[120]⟩), (.int .i64 1), (.int .i64 2), (.string ⟨#[98]⟩), (.string g), (.int .i64 0), (.slice none 0 0), (.slice none 0 0), (.string s), (.int .i64 n), (.int .i64 0), (.int .i64 0), (.int .i64 0), (.int .i64 0), (.int .i64 a1), (.int .i64 a2), (.int .i64 a3), (.int .i64 t)] 43)) := (hPw1.block _ (block_lt HQP.out)).trans HQP.out
    have HQM2 : Hid (w1.heap[(w.heap.size + 1)]? = some (.cells #[.slice og m.ng cg, .slice os' m.ns cs'] 26)) := (hPw1.block _ (block_lt HQM.out)).trans HQM.out
    clear HQP HQM
    have HQP := HQP2
    have HQM := HQM2
    clear HQP2 HQM2
    obtain ⟨o2, c2', rfl, -, -⟩ := hi.form
    rw [HG.out]
    obtain rfl : D = d1' := HD.out.symm.trans (hd1 HG.out).symm
    clear hi hd1
    clear c0 c1 c2 c3 c4 c5 c6 c7 c8 c9 c10 c11 c12 c13 c14 c15 c16 c17 cf cz d0 d1 df dz
    clear hb hPw1 hBw0
    obtain ⟨c0, c1, c2, c3, c4, c5, c6, c7, c8, c9, c10, c11, c12, c13, c14, c15, c16, c17, cf, cz⟩ := cells_at18 HQP.out
    obtain ⟨d0, d1, df, dz⟩ := cells_at2 HQM.out
    go_wp2_with fail
    (go_at_call 41; refine (rsection_any _ m gv s _ (HM.out.below (by first | exact Below.refl _ _ | (show Below w1.heap.size w1 _; go_grown)))).mono ?_; rintro e_ w2 ⟨s2, r2, t2, k2, rfl, hd2, hb⟩)
    have hPw2 : Below w1.heap.size w1 w2 := below_step (w := w1) (by first | exact Below.refl _ _ | go_grown) hb
    have hBw2 : Below w.heap.size w w2 := below_step hBw1 hPw2
    replace HM := Lib.hid (HM.out.below hPw2)
    have HQP2 : Hid (w2.heap[w.heap.size]? = some (.cells #[(.string ⟨#[120]⟩), (.int .i64 1), (.int .i64 2), (.string ⟨#[98]⟩), (.string g), (.int .i64 0), (.slice none 0 0), (.slice none 0 0), (.string s), (.int .i64 n), (.int .i64 0), (.int .i64 0), (.int .i64 0), (.int .i64 0), (.int .i64 a1), (.int .i64 a2), (.int .i64 a3), (.int .i64 t)] 43)) := (hPw2.block _ (block_lt HQP.out)).trans HQP.out
    have HQM2 : Hid (w2.heap[(w.heap.size + 1)]? = some (.cells #[.slice og m.ng cg, .slice os' m.ns cs'] 26)) := (hPw2.block _ (block_lt HQM.out)).trans HQM.out
    clear HQP HQM
    have HQP := HQP2
    have HQM := HQM2
    clear HQP2 HQM2
    rw [HS.out]
    obtain ⟨hr1, hr2⟩ := hd2 HS.out
    obtain rfl : R = r2 := HR.out.1.symm.trans hr1.symm
    obtain rfl : T = t2 := HR.out.2.symm.trans hr2.symm
    clear hr1 hr2 hd2
    clear c0 c1 c2 c3 c4 c5 c6 c7 c8 c9 c10 c11 c12 c13 c14 c15 c16 c17 cf cz d0 d1 df dz
    clear hb hPw2 hBw1
    obtain ⟨c0, c1, c2, c3, c4, c5, c6, c7, c8, c9, c10, c11, c12, c13, c14, c15, c16, c17, cf, cz⟩ := cells_at18 HQP.out
    obtain ⟨d0, d1, df, dz⟩ := cells_at2 HQM.out
    go_wp2
    go_returns
    exact ⟨rfl, by go_grown⟩
  have k2 : decide ((1 : Int) ≤ T) = true := decide_eq_true r2
  rw [k2]
  (try simp only [Bool.true_and, Bool.and_true])
  clear r2
  by_cases r3 : T ≤ 2000
  rotate_left
  · have k3 : decide (T ≤ 2000) = false := decide_eq_false r3
    rw [k3]
    (try simp only [Bool.false_and, Bool.and_false, Bool.true_and])
    clear r3
    go_enter Tryz.func12, Tryz.ntmps12
    go_wp2_with fail
    obtain ⟨w0, hw0⟩ : ∃ X, ((w.alloc (.cells #[(.string ⟨#[120]⟩), (.int .i64 1), (.int .i64 2), (.string ⟨#[98]⟩), (.string g), (.int .i64 0), (.slice none 0 0), (.slice none 0 0), (.string s), (.int .i64 n), (.int .i64 0), (.int .i64 0), (.int .i64 0), (.int .i64 0), (.int .i64 a1), (.int .i64 a2), (.int .i64 a3), (.int .i64 t)] 43)).alloc (.cells #[.slice og m.ng cg, .slice os' m.ns cs'] 26)) = X := ⟨_, rfl⟩
    have HQP : Hid (w0.heap[w.heap.size]? = some (.cells #[(.string ⟨#[120]⟩), (.int .i64 1), (.int .i64 2), (.string ⟨#[98]⟩), (.string g), (.int .i64 0), (.slice none 0 0), (.slice none 0 0), (.string s), (.int .i64 n), (.int .i64 0), (.int .i64 0), (.int .i64 0), (.int .i64 0), (.int .i64 a1), (.int .i64 a2), (.int .i64 a3), (.int .i64 t)] 43)) := by
      show _ = _
      rw [← hw0]
      exact (heapA_old _ _ _ (by simp)).trans (heapA_at _ _ _ rfl)
    have HQM : Hid (w0.heap[(w.heap.size + 1)]? = some (.cells #[.slice og m.ng cg, .slice os' m.ns cs'] 26)) := by
      show _ = _
      rw [← hw0]
      exact heapA_at _ _ _ (by simp)
    have hBw0 : Below w.heap.size w w0 := by rw [← hw0]; exact (((Below.refl w.heap.size w).alloc (Nat.le_refl _) _).alloc (by simp) _)
    rw [hw0]
    clear hw0
    replace HM := Lib.hid (HM.out.below hBw0)
    obtain ⟨c0, c1, c2, c3, c4, c5, c6, c7, c8, c9, c10, c11, c12, c13, c14, c15, c16, c17, cf, cz⟩ := cells_at18 HQP.out
    obtain ⟨d0, d1, df, dz⟩ := cells_at2 HQM.out
    (go_at_call 39; refine (rgrade_any _ m gv g _ (HM.out.below (by first | exact Below.refl _ _ | (show Below w0.heap.size w0 _; go_grown)))).mono ?_; rintro e_ w1 ⟨s1, d1', y1, gv', rfl, hd1, hi, hb⟩)
    have hPw1 : Below w0.heap.size w0 w1 := below_step (w := w0) (by first | exact Below.refl _ _ | go_grown) hb
    have hBw1 : Below w.heap.size w w1 := below_step hBw0 hPw1
    replace HM := Lib.hid (HM.out.below hPw1)
    have HQP2 : Hid (w1.heap[w.heap.size]? = some (.cells #[(.string ⟨#[120]⟩), (.int .i64 1), (.int .i64 2), (.string ⟨#[98]⟩), (.string g), (.int .i64 0), (.slice none 0 0), (.slice none 0 0), (.string s), (.int .i64 n), (.int .i64 0), (.int .i64 0), (.int .i64 0), (.int .i64 0), (.int .i64 a1), (.int .i64 a2), (.int .i64 a3), (.int .i64 t)] 43)) := (hPw1.block _ (block_lt HQP.out)).trans HQP.out
    have HQM2 : Hid (w1.heap[(w.heap.size + 1)]? = some (.cells #[.slice og m.ng cg, .slice os' m.ns cs'] 26)) := (hPw1.block _ (block_lt HQM.out)).trans HQM.out
    clear HQP HQM
    have HQP := HQP2
    have HQM := HQM2
    clear HQP2 HQM2
    obtain ⟨o2, c2', rfl, -, -⟩ := hi.form
    rw [HG.out]
    obtain rfl : D = d1' := HD.out.symm.trans (hd1 HG.out).symm
    clear hi hd1
    clear c0 c1 c2 c3 c4 c5 c6 c7 c8 c9 c10 c11 c12 c13 c14 c15 c16 c17 cf cz d0 d1 df dz
    clear hb hPw1 hBw0
    obtain ⟨c0, c1, c2, c3, c4, c5, c6, c7, c8, c9, c10, c11, c12, c13, c14, c15, c16, c17, cf, cz⟩ := cells_at18 HQP.out
    obtain ⟨d0, d1, df, dz⟩ := cells_at2 HQM.out
    go_wp2_with fail
    (go_at_call 41; refine (rsection_any _ m gv s _ (HM.out.below (by first | exact Below.refl _ _ | (show Below w1.heap.size w1 _; go_grown)))).mono ?_; rintro e_ w2 ⟨s2, r2, t2, k2, rfl, hd2, hb⟩)
    have hPw2 : Below w1.heap.size w1 w2 := below_step (w := w1) (by first | exact Below.refl _ _ | go_grown) hb
    have hBw2 : Below w.heap.size w w2 := below_step hBw1 hPw2
    replace HM := Lib.hid (HM.out.below hPw2)
    have HQP2 : Hid (w2.heap[w.heap.size]? = some (.cells #[(.string ⟨#[120]⟩), (.int .i64 1), (.int .i64 2), (.string ⟨#[98]⟩), (.string g), (.int .i64 0), (.slice none 0 0), (.slice none 0 0), (.string s), (.int .i64 n), (.int .i64 0), (.int .i64 0), (.int .i64 0), (.int .i64 0), (.int .i64 a1), (.int .i64 a2), (.int .i64 a3), (.int .i64 t)] 43)) := (hPw2.block _ (block_lt HQP.out)).trans HQP.out
    have HQM2 : Hid (w2.heap[(w.heap.size + 1)]? = some (.cells #[.slice og m.ng cg, .slice os' m.ns cs'] 26)) := (hPw2.block _ (block_lt HQM.out)).trans HQM.out
    clear HQP HQM
    have HQP := HQP2
    have HQM := HQM2
    clear HQP2 HQM2
    rw [HS.out]
    obtain ⟨hr1, hr2⟩ := hd2 HS.out
    obtain rfl : R = r2 := HR.out.1.symm.trans hr1.symm
    obtain rfl : T = t2 := HR.out.2.symm.trans hr2.symm
    clear hr1 hr2 hd2
    clear c0 c1 c2 c3 c4 c5 c6 c7 c8 c9 c10 c11 c12 c13 c14 c15 c16 c17 cf cz d0 d1 df dz
    clear hb hPw2 hBw1
    obtain ⟨c0, c1, c2, c3, c4, c5, c6, c7, c8, c9, c10, c11, c12, c13, c14, c15, c16, c17, cf, cz⟩ := cells_at18 HQP.out
    obtain ⟨d0, d1, df, dz⟩ := cells_at2 HQM.out
    go_wp2
    go_returns
    exact ⟨rfl, by go_grown⟩
  have k3 : decide (T ≤ 2000) = true := decide_eq_true r3
  rw [k3]
  (try simp only [Bool.true_and, Bool.and_true])
  clear r3
  go_enter Tryz.func12, Tryz.ntmps12
  go_wp2_with fail
  obtain ⟨w0, hw0⟩ : ∃ X, ((w.alloc (.cells #[(.string ⟨#[120]⟩), (.int .i64 1), (.int .i64 2), (.string ⟨#[98]⟩), (.string g), (.int .i64 0), (.slice none 0 0), (.slice none 0 0), (.string s), (.int .i64 n), (.int .i64 0), (.int .i64 0), (.int .i64 0), (.int .i64 0), (.int .i64 a1), (.int .i64 a2), (.int .i64 a3), (.int .i64 t)] 43)).alloc (.cells #[.slice og m.ng cg, .slice os' m.ns cs'] 26)) = X := ⟨_, rfl⟩
  have HQP : Hid (w0.heap[w.heap.size]? = some (.cells #[(.string ⟨#[120]⟩), (.int .i64 1), (.int .i64 2), (.string ⟨#[98]⟩), (.string g), (.int .i64 0), (.slice none 0 0), (.slice none 0 0), (.string s), (.int .i64 n), (.int .i64 0), (.int .i64 0), (.int .i64 0), (.int .i64 0), (.int .i64 a1), (.int .i64 a2), (.int .i64 a3), (.int .i64 t)] 43)) := by
    show _ = _
    rw [← hw0]
    exact (heapA_old _ _ _ (by simp)).trans (heapA_at _ _ _ rfl)
  have HQM : Hid (w0.heap[(w.heap.size + 1)]? = some (.cells #[.slice og m.ng cg, .slice os' m.ns cs'] 26)) := by
    show _ = _
    rw [← hw0]
    exact heapA_at _ _ _ (by simp)
  have hBw0 : Below w.heap.size w w0 := by rw [← hw0]; exact (((Below.refl w.heap.size w).alloc (Nat.le_refl _) _).alloc (by simp) _)
  rw [hw0]
  clear hw0
  replace HM := Lib.hid (HM.out.below hBw0)
  obtain ⟨c0, c1, c2, c3, c4, c5, c6, c7, c8, c9, c10, c11, c12, c13, c14, c15, c16, c17, cf, cz⟩ := cells_at18 HQP.out
  obtain ⟨d0, d1, df, dz⟩ := cells_at2 HQM.out
  (go_at_call 39; refine (rgrade_any _ m gv g _ (HM.out.below (by first | exact Below.refl _ _ | (show Below w0.heap.size w0 _; go_grown)))).mono ?_; rintro e_ w1 ⟨s1, d1', y1, gv', rfl, hd1, hi, hb⟩)
  have hPw1 : Below w0.heap.size w0 w1 := below_step (w := w0) (by first | exact Below.refl _ _ | go_grown) hb
  have hBw1 : Below w.heap.size w w1 := below_step hBw0 hPw1
  replace HM := Lib.hid (HM.out.below hPw1)
  have HQP2 : Hid (w1.heap[w.heap.size]? = some (.cells #[(.string ⟨#[120]⟩), (.int .i64 1), (.int .i64 2), (.string ⟨#[98]⟩), (.string g), (.int .i64 0), (.slice none 0 0), (.slice none 0 0), (.string s), (.int .i64 n), (.int .i64 0), (.int .i64 0), (.int .i64 0), (.int .i64 0), (.int .i64 a1), (.int .i64 a2), (.int .i64 a3), (.int .i64 t)] 43)) := (hPw1.block _ (block_lt HQP.out)).trans HQP.out
  have HQM2 : Hid (w1.heap[(w.heap.size + 1)]? = some (.cells #[.slice og m.ng cg, .slice os' m.ns cs'] 26)) := (hPw1.block _ (block_lt HQM.out)).trans HQM.out
  clear HQP HQM
  have HQP := HQP2
  have HQM := HQM2
  clear HQP2 HQM2
  obtain ⟨o2, c2', rfl, -, -⟩ := hi.form
  rw [HG.out]
  obtain rfl : D = d1' := HD.out.symm.trans (hd1 HG.out).symm
  clear hi hd1
  clear c0 c1 c2 c3 c4 c5 c6 c7 c8 c9 c10 c11 c12 c13 c14 c15 c16 c17 cf cz d0 d1 df dz
  clear hb hPw1 hBw0
  obtain ⟨c0, c1, c2, c3, c4, c5, c6, c7, c8, c9, c10, c11, c12, c13, c14, c15, c16, c17, cf, cz⟩ := cells_at18 HQP.out
  obtain ⟨d0, d1, df, dz⟩ := cells_at2 HQM.out
  go_wp2_with fail
  (go_at_call 41; refine (rsection_any _ m gv s _ (HM.out.below (by first | exact Below.refl _ _ | (show Below w1.heap.size w1 _; go_grown)))).mono ?_; rintro e_ w2 ⟨s2, r2, t2, k2, rfl, hd2, hb⟩)
  have hPw2 : Below w1.heap.size w1 w2 := below_step (w := w1) (by first | exact Below.refl _ _ | go_grown) hb
  have hBw2 : Below w.heap.size w w2 := below_step hBw1 hPw2
  replace HM := Lib.hid (HM.out.below hPw2)
  have HQP2 : Hid (w2.heap[w.heap.size]? = some (.cells #[(.string ⟨#[120]⟩), (.int .i64 1), (.int .i64 2), (.string ⟨#[98]⟩), (.string g), (.int .i64 0), (.slice none 0 0), (.slice none 0 0), (.string s), (.int .i64 n), (.int .i64 0), (.int .i64 0), (.int .i64 0), (.int .i64 0), (.int .i64 a1), (.int .i64 a2), (.int .i64 a3), (.int .i64 t)] 43)) := (hPw2.block _ (block_lt HQP.out)).trans HQP.out
  have HQM2 : Hid (w2.heap[(w.heap.size + 1)]? = some (.cells #[.slice og m.ng cg, .slice os' m.ns cs'] 26)) := (hPw2.block _ (block_lt HQM.out)).trans HQM.out
  clear HQP HQM
  have HQP := HQP2
  have HQM := HQM2
  clear HQP2 HQM2
  rw [HS.out]
  obtain ⟨hr1, hr2⟩ := hd2 HS.out
  obtain rfl : R = r2 := HR.out.1.symm.trans hr1.symm
  obtain rfl : T = t2 := HR.out.2.symm.trans hr2.symm
  clear hr1 hr2 hd2
  clear c0 c1 c2 c3 c4 c5 c6 c7 c8 c9 c10 c11 c12 c13 c14 c15 c16 c17 cf cz d0 d1 df dz
  clear hb hPw2 hBw1
  obtain ⟨c0, c1, c2, c3, c4, c5, c6, c7, c8, c9, c10, c11, c12, c13, c14, c15, c16, c17, cf, cz⟩ := cells_at18 HQP.out
  obtain ⟨d0, d1, df, dz⟩ := cells_at2 HQM.out
  go_wp2
  go_returns
  exact ⟨rfl, by go_grown⟩

set_option maxHeartbeats 8000000 in
set_option maxRecDepth 20000 in
theorem made3 (v : Value) (m : Mat) (gv : Nat → Value) (g s : ByteArray) (n a1 a2 a3 t : Int) (w : World) (hm : MatAt w v m gv) (hg : m.hasG g = true) (hs : m.hasS s = true) (hk : inB (m.de (m.gi g)) 1000 20000 = true ∧ inB (m.sa (m.si s)) 1 1000000 = true ∧ inB (m.sh (m.si s)) 1 2000 = true) : Calls Tryz.prog 32 #[.agg #[(.string ⟨#[120]⟩), (.int .i64 1), (.int .i64 3), (.string ⟨#[98]⟩), (.string g), (.int .i64 0), (.slice none 0 0), (.slice none 0 0), (.string s), (.int .i64 n), (.int .i64 0), (.int .i64 0), (.int .i64 0), (.int .i64 0), (.int .i64 a1), (.int .i64 a2), (.int .i64 a3), (.int .i64 t)], v] w fun e w' => e = .returned (.bool true) ∧ Below w.heap.size w w' := by
  have HM := Lib.hid hm
  obtain ⟨vg, vs, rfl, hG, hS, -, -, -⟩ := hm
  obtain ⟨og, cg, rfl, -, -⟩ := hG.form
  obtain ⟨os', cs', rfl, -, -⟩ := hS.form
  clear hG hS
  obtain ⟨D, hD⟩ : ∃ d, m.de (m.gi g) = d := ⟨_, rfl⟩
  obtain ⟨R, hR⟩ : ∃ d, m.sa (m.si s) = d := ⟨_, rfl⟩
  obtain ⟨T, hT⟩ : ∃ d, m.sh (m.si s) = d := ⟨_, rfl⟩
  rw [hD, hR, hT] at hk
  have HD := Lib.hid hD
  have HR := Lib.hid (And.intro hR hT)
  have HG := Lib.hid hg
  have HS := Lib.hid hs
  clear hD hR hT hg hs
  obtain ⟨hk1, hk2, hk3⟩ := hk
  have hf := form3
  have HFR : Hid (∀ W, Calls Tryz.prog 30 #[.int .i64 D, .int .i64 1000, .int .i64 20000] W fun e w' => e = .returned (.bool true) ∧ Below W.heap.size W w') := fun W => by have h := pfrom_any D 1000 20000 W; rw [hk1] at h; exact h
  have HFA : Hid (∀ W, Calls Tryz.prog 30 #[.int .i64 R, .int .i64 1, .int .i64 1000000] W fun e w' => e = .returned (.bool true) ∧ Below W.heap.size W w') := fun W => by have h := pfrom_any R 1 1000000 W; rw [hk2] at h; exact h
  have HFH : Hid (∀ W, Calls Tryz.prog 30 #[.int .i64 T, .int .i64 1, .int .i64 2000] W fun e w' => e = .returned (.bool true) ∧ Below W.heap.size W w') := fun W => by have h := pfrom_any T 1 2000 W; rw [hk3] at h; exact h
  clear hk1 hk2 hk3
  go_enter Tryz.func32, Tryz.ntmps32
  go_wp2_with fail
  obtain ⟨w0, hw0⟩ : ∃ X, ((w.alloc (.cells #[(.string ⟨#[120]⟩), (.int .i64 1), (.int .i64 3), (.string ⟨#[98]⟩), (.string g), (.int .i64 0), (.slice none 0 0), (.slice none 0 0), (.string s), (.int .i64 n), (.int .i64 0), (.int .i64 0), (.int .i64 0), (.int .i64 0), (.int .i64 a1), (.int .i64 a2), (.int .i64 a3), (.int .i64 t)] 43)).alloc (.cells #[.slice og m.ng cg, .slice os' m.ns cs'] 26)) = X := ⟨_, rfl⟩
  have HQP : Hid (w0.heap[w.heap.size]? = some (.cells #[(.string ⟨#[120]⟩), (.int .i64 1), (.int .i64 3), (.string ⟨#[98]⟩), (.string g), (.int .i64 0), (.slice none 0 0), (.slice none 0 0), (.string s), (.int .i64 n), (.int .i64 0), (.int .i64 0), (.int .i64 0), (.int .i64 0), (.int .i64 a1), (.int .i64 a2), (.int .i64 a3), (.int .i64 t)] 43)) := by
    show _ = _
    rw [← hw0]
    exact (heapA_old _ _ _ (by simp)).trans (heapA_at _ _ _ rfl)
  have HQM : Hid (w0.heap[(w.heap.size + 1)]? = some (.cells #[.slice og m.ng cg, .slice os' m.ns cs'] 26)) := by
    show _ = _
    rw [← hw0]
    exact heapA_at _ _ _ (by simp)
  have hBw0 : Below w.heap.size w w0 := by rw [← hw0]; exact (((Below.refl w.heap.size w).alloc (Nat.le_refl _) _).alloc (by simp) _)
  rw [hw0]
  clear hw0
  replace HM := Lib.hid (HM.out.below hBw0)
  obtain ⟨c0, c1, c2, c3, c4, c5, c6, c7, c8, c9, c10, c11, c12, c13, c14, c15, c16, c17, cf, cz⟩ := cells_at18 HQP.out
  obtain ⟨d0, d1, df, dz⟩ := cells_at2 HQM.out
  (go_at_call 27; refine (hf _).mono ?_; rintro e_ w1 ⟨rfl, hb⟩)
  have hPw1 : Below w0.heap.size w0 w1 := below_step (w := w0) (by first | exact Below.refl _ _ | go_grown) hb
  have hBw1 : Below w.heap.size w w1 := below_step hBw0 hPw1
  replace HM := Lib.hid (HM.out.below hPw1)
  have HQP2 : Hid (w1.heap[w.heap.size]? = some (.cells #[(.string ⟨#[120]⟩), (.int .i64 1), (.int .i64 3), (.string ⟨#[98]⟩), (.string g), (.int .i64 0), (.slice none 0 0), (.slice none 0 0), (.string s), (.int .i64 n), (.int .i64 0), (.int .i64 0), (.int .i64 0), (.int .i64 0), (.int .i64 a1), (.int .i64 a2), (.int .i64 a3), (.int .i64 t)] 43)) := (hPw1.block _ (block_lt HQP.out)).trans HQP.out
  have HQM2 : Hid (w1.heap[(w.heap.size + 1)]? = some (.cells #[.slice og m.ng cg, .slice os' m.ns cs'] 26)) := (hPw1.block _ (block_lt HQM.out)).trans HQM.out
  clear HQP HQM
  have HQP := HQP2
  have HQM := HQM2
  clear HQP2 HQM2
  clear c0 c1 c2 c3 c4 c5 c6 c7 c8 c9 c10 c11 c12 c13 c14 c15 c16 c17 cf cz d0 d1 df dz
  clear hb hPw1 hBw0
  obtain ⟨c0, c1, c2, c3, c4, c5, c6, c7, c8, c9, c10, c11, c12, c13, c14, c15, c16, c17, cf, cz⟩ := cells_at18 HQP.out
  obtain ⟨d0, d1, df, dz⟩ := cells_at2 HQM.out
  go_wp2_with fail
  (go_at_call 25; refine (grade_any _ m gv g _ (HM.out.below (by first | exact Below.refl _ _ | (show Below w1.heap.size w1 _; go_grown)))).mono ?_; rintro e_ w2 ⟨s1, d1', y1, gv', rfl, hd1, hi, hb⟩)
  have hPw2 : Below w1.heap.size w1 w2 := below_step (w := w1) (by first | exact Below.refl _ _ | go_grown) hb
  have hBw2 : Below w.heap.size w w2 := below_step hBw1 hPw2
  replace HM := Lib.hid (HM.out.below hPw2)
  have HQP2 : Hid (w2.heap[w.heap.size]? = some (.cells #[(.string ⟨#[120]⟩), (.int .i64 1), (.int .i64 3), (.string ⟨#[98]⟩), (.string g), (.int .i64 0), (.slice none 0 0), (.slice none 0 0), (.string s), (.int .i64 n), (.int .i64 0), (.int .i64 0), (.int .i64 0), (.int .i64 0), (.int .i64 a1), (.int .i64 a2), (.int .i64 a3), (.int .i64 t)] 43)) := (hPw2.block _ (block_lt HQP.out)).trans HQP.out
  have HQM2 : Hid (w2.heap[(w.heap.size + 1)]? = some (.cells #[.slice og m.ng cg, .slice os' m.ns cs'] 26)) := (hPw2.block _ (block_lt HQM.out)).trans HQM.out
  clear HQP HQM
  have HQP := HQP2
  have HQM := HQM2
  clear HQP2 HQM2
  obtain ⟨o2, c2', rfl, -, -⟩ := hi.form
  rw [HG.out]
  obtain rfl : D = d1' := HD.out.symm.trans (hd1 HG.out).symm
  clear hi hd1
  clear c0 c1 c2 c3 c4 c5 c6 c7 c8 c9 c10 c11 c12 c13 c14 c15 c16 c17 cf cz d0 d1 df dz
  clear hb hPw2 hBw1
  obtain ⟨c0, c1, c2, c3, c4, c5, c6, c7, c8, c9, c10, c11, c12, c13, c14, c15, c16, c17, cf, cz⟩ := cells_at18 HQP.out
  obtain ⟨d0, d1, df, dz⟩ := cells_at2 HQM.out
  go_wp2_with fail
  (go_at_call 30; refine (HFR.out _).mono ?_; rintro e_ w3 ⟨rfl, hb⟩)
  have hPw3 : Below w2.heap.size w2 w3 := below_step (w := w2) (by first | exact Below.refl _ _ | go_grown) hb
  have hBw3 : Below w.heap.size w w3 := below_step hBw2 hPw3
  replace HM := Lib.hid (HM.out.below hPw3)
  have HQP2 : Hid (w3.heap[w.heap.size]? = some (.cells #[(.string ⟨#[120]⟩), (.int .i64 1), (.int .i64 3), (.string ⟨#[98]⟩), (.string g), (.int .i64 0), (.slice none 0 0), (.slice none 0 0), (.string s), (.int .i64 n), (.int .i64 0), (.int .i64 0), (.int .i64 0), (.int .i64 0), (.int .i64 a1), (.int .i64 a2), (.int .i64 a3), (.int .i64 t)] 43)) := (hPw3.block _ (block_lt HQP.out)).trans HQP.out
  have HQM2 : Hid (w3.heap[(w.heap.size + 1)]? = some (.cells #[.slice og m.ng cg, .slice os' m.ns cs'] 26)) := (hPw3.block _ (block_lt HQM.out)).trans HQM.out
  clear HQP HQM
  have HQP := HQP2
  have HQM := HQM2
  clear HQP2 HQM2
  clear c0 c1 c2 c3 c4 c5 c6 c7 c8 c9 c10 c11 c12 c13 c14 c15 c16 c17 cf cz d0 d1 df dz
  clear hb hPw3 hBw2
  obtain ⟨c0, c1, c2, c3, c4, c5, c6, c7, c8, c9, c10, c11, c12, c13, c14, c15, c16, c17, cf, cz⟩ := cells_at18 HQP.out
  obtain ⟨d0, d1, df, dz⟩ := cells_at2 HQM.out
  go_wp2_with fail
  (go_at_call 27; refine (hf _).mono ?_; rintro e_ w4 ⟨rfl, hb⟩)
  have hPw4 : Below w3.heap.size w3 w4 := below_step (w := w3) (by first | exact Below.refl _ _ | go_grown) hb
  have hBw4 : Below w.heap.size w w4 := below_step hBw3 hPw4
  replace HM := Lib.hid (HM.out.below hPw4)
  have HQP2 : Hid (w4.heap[w.heap.size]? = some (.cells #[(.string ⟨#[120]⟩), (.int .i64 1), (.int .i64 3), (.string ⟨#[98]⟩), (.string g), (.int .i64 0), (.slice none 0 0), (.slice none 0 0), (.string s), (.int .i64 n), (.int .i64 0), (.int .i64 0), (.int .i64 0), (.int .i64 0), (.int .i64 a1), (.int .i64 a2), (.int .i64 a3), (.int .i64 t)] 43)) := (hPw4.block _ (block_lt HQP.out)).trans HQP.out
  have HQM2 : Hid (w4.heap[(w.heap.size + 1)]? = some (.cells #[.slice og m.ng cg, .slice os' m.ns cs'] 26)) := (hPw4.block _ (block_lt HQM.out)).trans HQM.out
  clear HQP HQM
  have HQP := HQP2
  have HQM := HQM2
  clear HQP2 HQM2
  clear c0 c1 c2 c3 c4 c5 c6 c7 c8 c9 c10 c11 c12 c13 c14 c15 c16 c17 cf cz d0 d1 df dz
  clear hb hPw4 hBw3
  obtain ⟨c0, c1, c2, c3, c4, c5, c6, c7, c8, c9, c10, c11, c12, c13, c14, c15, c16, c17, cf, cz⟩ := cells_at18 HQP.out
  obtain ⟨d0, d1, df, dz⟩ := cells_at2 HQM.out
  go_wp2_with fail
  (go_at_call 26; refine (section_any _ m gv s _ (HM.out.below (by first | exact Below.refl _ _ | (show Below w4.heap.size w4 _; go_grown)))).mono ?_; rintro e_ w5 ⟨s2, r2, t2, k2, rfl, hd2, hb⟩)
  have hPw5 : Below w4.heap.size w4 w5 := below_step (w := w4) (by first | exact Below.refl _ _ | go_grown) hb
  have hBw5 : Below w.heap.size w w5 := below_step hBw4 hPw5
  replace HM := Lib.hid (HM.out.below hPw5)
  have HQP2 : Hid (w5.heap[w.heap.size]? = some (.cells #[(.string ⟨#[120]⟩), (.int .i64 1), (.int .i64 3), (.string ⟨#[98]⟩), (.string g), (.int .i64 0), (.slice none 0 0), (.slice none 0 0), (.string s), (.int .i64 n), (.int .i64 0), (.int .i64 0), (.int .i64 0), (.int .i64 0), (.int .i64 a1), (.int .i64 a2), (.int .i64 a3), (.int .i64 t)] 43)) := (hPw5.block _ (block_lt HQP.out)).trans HQP.out
  have HQM2 : Hid (w5.heap[(w.heap.size + 1)]? = some (.cells #[.slice og m.ng cg, .slice os' m.ns cs'] 26)) := (hPw5.block _ (block_lt HQM.out)).trans HQM.out
  clear HQP HQM
  have HQP := HQP2
  have HQM := HQM2
  clear HQP2 HQM2
  rw [HS.out]
  obtain ⟨hr1, hr2⟩ := hd2 HS.out
  obtain rfl : R = r2 := HR.out.1.symm.trans hr1.symm
  obtain rfl : T = t2 := HR.out.2.symm.trans hr2.symm
  clear hr1 hr2 hd2
  clear c0 c1 c2 c3 c4 c5 c6 c7 c8 c9 c10 c11 c12 c13 c14 c15 c16 c17 cf cz d0 d1 df dz
  clear hb hPw5 hBw4
  obtain ⟨c0, c1, c2, c3, c4, c5, c6, c7, c8, c9, c10, c11, c12, c13, c14, c15, c16, c17, cf, cz⟩ := cells_at18 HQP.out
  obtain ⟨d0, d1, df, dz⟩ := cells_at2 HQM.out
  go_wp2_with fail
  (go_at_call 30; refine (HFA.out _).mono ?_; rintro e_ w6 ⟨rfl, hb⟩)
  have hPw6 : Below w5.heap.size w5 w6 := below_step (w := w5) (by first | exact Below.refl _ _ | go_grown) hb
  have hBw6 : Below w.heap.size w w6 := below_step hBw5 hPw6
  replace HM := Lib.hid (HM.out.below hPw6)
  have x0 : w6.cell? ⟨w5.heap.size, 0, none⟩ = some (.string s2) := (hb.cell (p := ⟨w5.heap.size, 0, none⟩) (by simp)).trans (by simp [go_sem])
  have x1 : w6.cell? ⟨w5.heap.size, 1, none⟩ = some (.int .i64 R) := (hb.cell (p := ⟨w5.heap.size, 1, none⟩) (by simp)).trans (by simp [go_sem])
  have x2 : w6.cell? ⟨w5.heap.size, 2, none⟩ = some (.int .i64 T) := (hb.cell (p := ⟨w5.heap.size, 2, none⟩) (by simp)).trans (by simp [go_sem])
  have x3 : w6.cell? ⟨w5.heap.size, 3, none⟩ = some (.int .i64 k2) := (hb.cell (p := ⟨w5.heap.size, 3, none⟩) (by simp)).trans (by simp [go_sem])
  have xz : w5.heap.size < w6.heap.size := by have := hb.size; simp only [World.size_alloc] at this; omega
  have HQP2 : Hid (w6.heap[w.heap.size]? = some (.cells #[(.string ⟨#[120]⟩), (.int .i64 1), (.int .i64 3), (.string ⟨#[98]⟩), (.string g), (.int .i64 0), (.slice none 0 0), (.slice none 0 0), (.string s), (.int .i64 n), (.int .i64 0), (.int .i64 0), (.int .i64 0), (.int .i64 0), (.int .i64 a1), (.int .i64 a2), (.int .i64 a3), (.int .i64 t)] 43)) := (hPw6.block _ (block_lt HQP.out)).trans HQP.out
  have HQM2 : Hid (w6.heap[(w.heap.size + 1)]? = some (.cells #[.slice og m.ng cg, .slice os' m.ns cs'] 26)) := (hPw6.block _ (block_lt HQM.out)).trans HQM.out
  clear HQP HQM
  have HQP := HQP2
  have HQM := HQM2
  clear HQP2 HQM2
  clear c0 c1 c2 c3 c4 c5 c6 c7 c8 c9 c10 c11 c12 c13 c14 c15 c16 c17 cf cz d0 d1 df dz
  clear hb hPw6 hBw5
  obtain ⟨c0, c1, c2, c3, c4, c5, c6, c7, c8, c9, c10, c11, c12, c13, c14, c15, c16, c17, cf, cz⟩ := cells_at18 HQP.out
  obtain ⟨d0, d1, df, dz⟩ := cells_at2 HQM.out
  go_wp2_with fail
  (go_at_call 30; refine (HFH.out _).mono ?_; rintro e_ w7 ⟨rfl, hb⟩)
  have hPw7 : Below w6.heap.size w6 w7 := below_step (w := w6) (by first | exact Below.refl _ _ | go_grown) hb
  have hBw7 : Below w.heap.size w w7 := below_step hBw6 hPw7
  replace HM := Lib.hid (HM.out.below hPw7)
  have HQP2 : Hid (w7.heap[w.heap.size]? = some (.cells #[(.string ⟨#[120]⟩), (.int .i64 1), (.int .i64 3), (.string ⟨#[98]⟩), (.string g), (.int .i64 0), (.slice none 0 0), (.slice none 0 0), (.string s), (.int .i64 n), (.int .i64 0), (.int .i64 0), (.int .i64 0), (.int .i64 0), (.int .i64 a1), (.int .i64 a2), (.int .i64 a3), (.int .i64 t)] 43)) := (hPw7.block _ (block_lt HQP.out)).trans HQP.out
  have HQM2 : Hid (w7.heap[(w.heap.size + 1)]? = some (.cells #[.slice og m.ng cg, .slice os' m.ns cs'] 26)) := (hPw7.block _ (block_lt HQM.out)).trans HQM.out
  clear HQP HQM
  have HQP := HQP2
  have HQM := HQM2
  clear HQP2 HQM2
  clear c0 c1 c2 c3 c4 c5 c6 c7 c8 c9 c10 c11 c12 c13 c14 c15 c16 c17 cf cz d0 d1 df dz
  clear hb hPw7 hBw6
  obtain ⟨c0, c1, c2, c3, c4, c5, c6, c7, c8, c9, c10, c11, c12, c13, c14, c15, c16, c17, cf, cz⟩ := cells_at18 HQP.out
  obtain ⟨d0, d1, df, dz⟩ := cells_at2 HQM.out
  go_wp2
  go_returns
  exact ⟨rfl, by go_grown⟩
end Go.Proofs.YtgbhhjdmochhpaaGreatDoor
