/-
  Check and Mass of a spool, the reference's Check of a profile. Conditions: as stated. By an AI agent.
-/
import Derived.Test.YtgbhhjdmochhpaaGreatDoorSpoA
namespace Go.Proofs.YtgbhhjdmochhpaaGreatDoor
open Go Go.ChangeShapes Go.WideShapes Go.RowKit Go.ChangeAt
set_option linter.unusedVariables false
set_option linter.unusedSimpArgs false

set_option maxHeartbeats 8000000 in
set_option maxRecDepth 20000 in
theorem rcheck2 (v : Value) (m : Mat) (gv : Nat → Value) (g s : ByteArray) (w : World) (hm : MatAt w v m gv) (hg : m.hasG g = true) (hs : m.hasS s = true) : Calls Tryz.prog 4 #[.agg #[(.string ⟨#[120]⟩), (.int .i64 1), (.int .i64 2), (.string ⟨#[98]⟩), (.string g), (.int .i64 0), (.slice none 0 0), (.slice none 0 0), (.string s), (.int .i64 1), (.int .i64 0), (.int .i64 0), (.int .i64 0), (.int .i64 0), (.int .i64 0), (.int .i64 0), (.int .i64 0), (.int .i64 0)], v] w fun e w' => e = .returned (.int .i64 (if (inB (m.de (m.gi g)) 1000 20000 && (inB (m.sa (m.si s)) 1 1000000 && inB (m.sh (m.si s)) 1 2000)) = true then 0 else 23)) ∧ Below w.heap.size w w' := by
  have HIX : Hid (∀ W, Calls Tryz.prog 10 #[.string ⟨#[120]⟩] W fun e w' => e = .returned (.bool true) ∧ Below W.heap.size W w') := fun W => by
    have h := rIsId_any ⟨#[120]⟩ W (by decide)
    rw [idB_x] at h
    exact h
  have HIB : Hid (∀ W, Calls Tryz.prog 10 #[.string ⟨#[98]⟩] W fun e w' => e = .returned (.bool true) ∧ Below W.heap.size W w') := fun W => by
    have h := rIsId_any ⟨#[98]⟩ W (by decide)
    rw [idB_b] at h
    exact h
  have HSP : Hid (∀ W, Calls Tryz.prog 11 #[.agg #[(.string ⟨#[120]⟩), (.int .i64 1), (.int .i64 2), (.string ⟨#[98]⟩), (.string g), (.int .i64 0), (.slice none 0 0), (.slice none 0 0), (.string s), (.int .i64 1), (.int .i64 0), (.int .i64 0), (.int .i64 0), (.int .i64 0), (.int .i64 0), (.int .i64 0), (.int .i64 0), (.int .i64 0)]] W fun e w' => e = .returned (.bool false) ∧ Below W.heap.size W w') := fun W => rspare2 g s 1 0 0 0 0 W (by decide)
  have HVA : Hid (∀ W, Calls Tryz.prog 15 #[.agg #[.int .i64 0, .int .i64 0, .int .i64 0, .int .i64 0]] W fun e w' => e = .returned (.bool true) ∧ Below W.heap.size W w') := fun W => by
    have h := rValid_any 0 0 0 0 W
    rw [show validF ((0 : Int), (0 : Int), (0 : Int)) 0 = true by decide] at h
    exact h
  obtain ⟨K, hK⟩ : ∃ b, (inB (m.de (m.gi g)) 1000 20000 && (inB (m.sa (m.si s)) 1 1000000 && inB (m.sh (m.si s)) 1 2000)) = b := ⟨_, rfl⟩
  have HKN : Hid (∀ W v', MatAt W v' m gv → Calls Tryz.prog 12 #[.agg #[(.string ⟨#[120]⟩), (.int .i64 1), (.int .i64 2), (.string ⟨#[98]⟩), (.string g), (.int .i64 0), (.slice none 0 0), (.slice none 0 0), (.string s), (.int .i64 1), (.int .i64 0), (.int .i64 0), (.int .i64 0), (.int .i64 0), (.int .i64 0), (.int .i64 0), (.int .i64 0), (.int .i64 0)], v'] W fun e w' => e = .returned (.bool K) ∧ Below W.heap.size W w') := fun W v' h => by
    have h2 := rknown2 v' m gv g s 1 0 0 0 0 W h hg hs
    rw [hK] at h2
    exact h2
  rw [hK]
  clear hK
  have HM := Lib.hid hm
  obtain ⟨vg, vs, rfl, hG, hS, -, -, -⟩ := hm
  obtain ⟨og, cg, rfl, -, -⟩ := hG.form
  obtain ⟨os', cs', rfl, -, -⟩ := hS.form
  clear hG hS
  cases K
  · go_enter Tryz.func4, Tryz.ntmps4
    go_wp2_with fail
    obtain ⟨w0, hw0⟩ : ∃ X, ((w.alloc (.cells #[(.string ⟨#[120]⟩), (.int .i64 1), (.int .i64 2), (.string ⟨#[98]⟩), (.string g), (.int .i64 0), (.slice none 0 0), (.slice none 0 0), (.string s), (.int .i64 1), (.int .i64 0), (.int .i64 0), (.int .i64 0), (.int .i64 0), (.int .i64 0), (.int .i64 0), (.int .i64 0), (.int .i64 0)] 43)).alloc (.cells #[.slice og m.ng cg, .slice os' m.ns cs'] 26)) = X := ⟨_, rfl⟩
    have HQP : Hid (w0.heap[w.heap.size]? = some (.cells #[(.string ⟨#[120]⟩), (.int .i64 1), (.int .i64 2), (.string ⟨#[98]⟩), (.string g), (.int .i64 0), (.slice none 0 0), (.slice none 0 0), (.string s), (.int .i64 1), (.int .i64 0), (.int .i64 0), (.int .i64 0), (.int .i64 0), (.int .i64 0), (.int .i64 0), (.int .i64 0), (.int .i64 0)] 43)) := by
      show _ = _
      rw [← hw0]
      exact (heapA_old _ _ _ (by simp)).trans (heapA_at _ _ _ rfl)
    have HQM : Hid (w0.heap[(w.heap.size + 1)]? = some (.cells #[.slice og m.ng cg, .slice os' m.ns cs'] 26)) := by
      show _ = _
      rw [← hw0]
      exact heapA_at _ _ _ (by simp)
    have hBw0 : Below w.heap.size w w0 := by rw [← hw0]; exact (((Below.refl w.heap.size w).alloc (Nat.le_refl _) _).alloc (by simp) _)
    rw [hw0]
    clear hw0
    replace HM := Lib.hid (HM.out.below hBw0)
    obtain ⟨c0, c1, c2, c3, c4, c5, c6, c7, c8, c9, c10, c11, c12, c13, c14, c15, c16, c17, cf, cz⟩ := cells_at18 HQP.out
    obtain ⟨d0, d1, df, dz⟩ := cells_at2 HQM.out
    (go_at_call 10; refine (HIX.out _).mono ?_; rintro e_ w1 ⟨rfl, hb⟩)
    have hPw1 : Below w0.heap.size w0 w1 := below_step (w := w0) (by first | exact Below.refl _ _ | go_grown) hb
    have hBw1 : Below w.heap.size w w1 := below_step hBw0 hPw1
    replace HM := Lib.hid (HM.out.below hPw1)
    have HQP2 : Hid (w1.heap[w.heap.size]? = some (.cells #[(.string ⟨#[120]⟩), (.int .i64 1), (.int .i64 2), (.string ⟨#[98]⟩), (.string g), (.int .i64 0), (.slice none 0 0), (.slice none 0 0), (.string s), (.int .i64 1), (.int .i64 0), (.int .i64 0), (.int .i64 0), (.int .i64 0), (.int .i64 0), (.int .i64 0), (.int .i64 0), (.int .i64 0)] 43)) := (hPw1.block _ (block_lt HQP.out)).trans HQP.out
    have HQM2 : Hid (w1.heap[(w.heap.size + 1)]? = some (.cells #[.slice og m.ng cg, .slice os' m.ns cs'] 26)) := (hPw1.block _ (block_lt HQM.out)).trans HQM.out
    clear HQP HQM
    have HQP := HQP2
    have HQM := HQM2
    clear HQP2 HQM2
    clear c0 c1 c2 c3 c4 c5 c6 c7 c8 c9 c10 c11 c12 c13 c14 c15 c16 c17 cf cz d0 d1 df dz
    clear hb hPw1 hBw0
    obtain ⟨c0, c1, c2, c3, c4, c5, c6, c7, c8, c9, c10, c11, c12, c13, c14, c15, c16, c17, cf, cz⟩ := cells_at18 HQP.out
    obtain ⟨d0, d1, df, dz⟩ := cells_at2 HQM.out
    go_wp2_with fail
    (go_at_call 10; refine (HIB.out _).mono ?_; rintro e_ w2 ⟨rfl, hb⟩)
    have hPw2 : Below w1.heap.size w1 w2 := below_step (w := w1) (by first | exact Below.refl _ _ | go_grown) hb
    have hBw2 : Below w.heap.size w w2 := below_step hBw1 hPw2
    replace HM := Lib.hid (HM.out.below hPw2)
    have HQP2 : Hid (w2.heap[w.heap.size]? = some (.cells #[(.string ⟨#[120]⟩), (.int .i64 1), (.int .i64 2), (.string ⟨#[98]⟩), (.string g), (.int .i64 0), (.slice none 0 0), (.slice none 0 0), (.string s), (.int .i64 1), (.int .i64 0), (.int .i64 0), (.int .i64 0), (.int .i64 0), (.int .i64 0), (.int .i64 0), (.int .i64 0), (.int .i64 0)] 43)) := (hPw2.block _ (block_lt HQP.out)).trans HQP.out
    have HQM2 : Hid (w2.heap[(w.heap.size + 1)]? = some (.cells #[.slice og m.ng cg, .slice os' m.ns cs'] 26)) := (hPw2.block _ (block_lt HQM.out)).trans HQM.out
    clear HQP HQM
    have HQP := HQP2
    have HQM := HQM2
    clear HQP2 HQM2
    clear c0 c1 c2 c3 c4 c5 c6 c7 c8 c9 c10 c11 c12 c13 c14 c15 c16 c17 cf cz d0 d1 df dz
    clear hb hPw2 hBw1
    obtain ⟨c0, c1, c2, c3, c4, c5, c6, c7, c8, c9, c10, c11, c12, c13, c14, c15, c16, c17, cf, cz⟩ := cells_at18 HQP.out
    obtain ⟨d0, d1, df, dz⟩ := cells_at2 HQM.out
    go_wp2_with (with_reducible refine wpList_load_all 43 w.heap.size 18 #[(.string ⟨#[120]⟩), (.int .i64 1), (.int .i64 2), (.string ⟨#[98]⟩), (.string g), (.int .i64 0), (.slice none 0 0), (.slice none 0 0), (.string s), (.int .i64 1), (.int .i64 0), (.int .i64 0), (.int .i64 0), (.int .i64 0), (.int .i64 0), (.int .i64 0), (.int .i64 0), (.int .i64 0)] 43 _ part_under part_size rfl rfl HQP.out ?_)
    (go_at_call 11; refine (HSP.out _).mono ?_; rintro e_ w3 ⟨rfl, hb⟩)
    have hPw3 : Below w2.heap.size w2 w3 := below_step (w := w2) (by first | exact Below.refl _ _ | go_grown) hb
    have hBw3 : Below w.heap.size w w3 := below_step hBw2 hPw3
    replace HM := Lib.hid (HM.out.below hPw3)
    have HQP2 : Hid (w3.heap[w.heap.size]? = some (.cells #[(.string ⟨#[120]⟩), (.int .i64 1), (.int .i64 2), (.string ⟨#[98]⟩), (.string g), (.int .i64 0), (.slice none 0 0), (.slice none 0 0), (.string s), (.int .i64 1), (.int .i64 0), (.int .i64 0), (.int .i64 0), (.int .i64 0), (.int .i64 0), (.int .i64 0), (.int .i64 0), (.int .i64 0)] 43)) := (hPw3.block _ (block_lt HQP.out)).trans HQP.out
    have HQM2 : Hid (w3.heap[(w.heap.size + 1)]? = some (.cells #[.slice og m.ng cg, .slice os' m.ns cs'] 26)) := (hPw3.block _ (block_lt HQM.out)).trans HQM.out
    clear HQP HQM
    have HQP := HQP2
    have HQM := HQM2
    clear HQP2 HQM2
    clear c0 c1 c2 c3 c4 c5 c6 c7 c8 c9 c10 c11 c12 c13 c14 c15 c16 c17 cf cz d0 d1 df dz
    clear hb hPw3 hBw2
    obtain ⟨c0, c1, c2, c3, c4, c5, c6, c7, c8, c9, c10, c11, c12, c13, c14, c15, c16, c17, cf, cz⟩ := cells_at18 HQP.out
    obtain ⟨d0, d1, df, dz⟩ := cells_at2 HQM.out
    go_wp2_with (with_reducible refine wpList_load_all 43 w.heap.size 18 #[(.string ⟨#[120]⟩), (.int .i64 1), (.int .i64 2), (.string ⟨#[98]⟩), (.string g), (.int .i64 0), (.slice none 0 0), (.slice none 0 0), (.string s), (.int .i64 1), (.int .i64 0), (.int .i64 0), (.int .i64 0), (.int .i64 0), (.int .i64 0), (.int .i64 0), (.int .i64 0), (.int .i64 0)] 43 _ part_under part_size rfl rfl HQP.out ?_)
    (go_at_call 12; refine (HKN.out _ _ (HM.out.below (by first | exact Below.refl _ _ | (show Below w3.heap.size w3 _; go_grown)))).mono ?_; rintro e_ w4 ⟨rfl, hb⟩)
    have hPw4 : Below w3.heap.size w3 w4 := below_step (w := w3) (by first | exact Below.refl _ _ | go_grown) hb
    have hBw4 : Below w.heap.size w w4 := below_step hBw3 hPw4
    replace HM := Lib.hid (HM.out.below hPw4)
    have HQP2 : Hid (w4.heap[w.heap.size]? = some (.cells #[(.string ⟨#[120]⟩), (.int .i64 1), (.int .i64 2), (.string ⟨#[98]⟩), (.string g), (.int .i64 0), (.slice none 0 0), (.slice none 0 0), (.string s), (.int .i64 1), (.int .i64 0), (.int .i64 0), (.int .i64 0), (.int .i64 0), (.int .i64 0), (.int .i64 0), (.int .i64 0), (.int .i64 0)] 43)) := (hPw4.block _ (block_lt HQP.out)).trans HQP.out
    have HQM2 : Hid (w4.heap[(w.heap.size + 1)]? = some (.cells #[.slice og m.ng cg, .slice os' m.ns cs'] 26)) := (hPw4.block _ (block_lt HQM.out)).trans HQM.out
    clear HQP HQM
    have HQP := HQP2
    have HQM := HQM2
    clear HQP2 HQM2
    clear c0 c1 c2 c3 c4 c5 c6 c7 c8 c9 c10 c11 c12 c13 c14 c15 c16 c17 cf cz d0 d1 df dz
    clear hb hPw4 hBw3
    obtain ⟨c0, c1, c2, c3, c4, c5, c6, c7, c8, c9, c10, c11, c12, c13, c14, c15, c16, c17, cf, cz⟩ := cells_at18 HQP.out
    obtain ⟨d0, d1, df, dz⟩ := cells_at2 HQM.out
    go_wp2
    go_returns
    exact ⟨rfl, by go_grown⟩
  · go_enter Tryz.func4, Tryz.ntmps4
    go_wp2_with fail
    obtain ⟨w0, hw0⟩ : ∃ X, ((w.alloc (.cells #[(.string ⟨#[120]⟩), (.int .i64 1), (.int .i64 2), (.string ⟨#[98]⟩), (.string g), (.int .i64 0), (.slice none 0 0), (.slice none 0 0), (.string s), (.int .i64 1), (.int .i64 0), (.int .i64 0), (.int .i64 0), (.int .i64 0), (.int .i64 0), (.int .i64 0), (.int .i64 0), (.int .i64 0)] 43)).alloc (.cells #[.slice og m.ng cg, .slice os' m.ns cs'] 26)) = X := ⟨_, rfl⟩
    have HQP : Hid (w0.heap[w.heap.size]? = some (.cells #[(.string ⟨#[120]⟩), (.int .i64 1), (.int .i64 2), (.string ⟨#[98]⟩), (.string g), (.int .i64 0), (.slice none 0 0), (.slice none 0 0), (.string s), (.int .i64 1), (.int .i64 0), (.int .i64 0), (.int .i64 0), (.int .i64 0), (.int .i64 0), (.int .i64 0), (.int .i64 0), (.int .i64 0)] 43)) := by
      show _ = _
      rw [← hw0]
      exact (heapA_old _ _ _ (by simp)).trans (heapA_at _ _ _ rfl)
    have HQM : Hid (w0.heap[(w.heap.size + 1)]? = some (.cells #[.slice og m.ng cg, .slice os' m.ns cs'] 26)) := by
      show _ = _
      rw [← hw0]
      exact heapA_at _ _ _ (by simp)
    have hBw0 : Below w.heap.size w w0 := by rw [← hw0]; exact (((Below.refl w.heap.size w).alloc (Nat.le_refl _) _).alloc (by simp) _)
    rw [hw0]
    clear hw0
    replace HM := Lib.hid (HM.out.below hBw0)
    obtain ⟨c0, c1, c2, c3, c4, c5, c6, c7, c8, c9, c10, c11, c12, c13, c14, c15, c16, c17, cf, cz⟩ := cells_at18 HQP.out
    obtain ⟨d0, d1, df, dz⟩ := cells_at2 HQM.out
    (go_at_call 10; refine (HIX.out _).mono ?_; rintro e_ w1 ⟨rfl, hb⟩)
    have hPw1 : Below w0.heap.size w0 w1 := below_step (w := w0) (by first | exact Below.refl _ _ | go_grown) hb
    have hBw1 : Below w.heap.size w w1 := below_step hBw0 hPw1
    replace HM := Lib.hid (HM.out.below hPw1)
    have HQP2 : Hid (w1.heap[w.heap.size]? = some (.cells #[(.string ⟨#[120]⟩), (.int .i64 1), (.int .i64 2), (.string ⟨#[98]⟩), (.string g), (.int .i64 0), (.slice none 0 0), (.slice none 0 0), (.string s), (.int .i64 1), (.int .i64 0), (.int .i64 0), (.int .i64 0), (.int .i64 0), (.int .i64 0), (.int .i64 0), (.int .i64 0), (.int .i64 0)] 43)) := (hPw1.block _ (block_lt HQP.out)).trans HQP.out
    have HQM2 : Hid (w1.heap[(w.heap.size + 1)]? = some (.cells #[.slice og m.ng cg, .slice os' m.ns cs'] 26)) := (hPw1.block _ (block_lt HQM.out)).trans HQM.out
    clear HQP HQM
    have HQP := HQP2
    have HQM := HQM2
    clear HQP2 HQM2
    clear c0 c1 c2 c3 c4 c5 c6 c7 c8 c9 c10 c11 c12 c13 c14 c15 c16 c17 cf cz d0 d1 df dz
    clear hb hPw1 hBw0
    obtain ⟨c0, c1, c2, c3, c4, c5, c6, c7, c8, c9, c10, c11, c12, c13, c14, c15, c16, c17, cf, cz⟩ := cells_at18 HQP.out
    obtain ⟨d0, d1, df, dz⟩ := cells_at2 HQM.out
    go_wp2_with fail
    (go_at_call 10; refine (HIB.out _).mono ?_; rintro e_ w2 ⟨rfl, hb⟩)
    have hPw2 : Below w1.heap.size w1 w2 := below_step (w := w1) (by first | exact Below.refl _ _ | go_grown) hb
    have hBw2 : Below w.heap.size w w2 := below_step hBw1 hPw2
    replace HM := Lib.hid (HM.out.below hPw2)
    have HQP2 : Hid (w2.heap[w.heap.size]? = some (.cells #[(.string ⟨#[120]⟩), (.int .i64 1), (.int .i64 2), (.string ⟨#[98]⟩), (.string g), (.int .i64 0), (.slice none 0 0), (.slice none 0 0), (.string s), (.int .i64 1), (.int .i64 0), (.int .i64 0), (.int .i64 0), (.int .i64 0), (.int .i64 0), (.int .i64 0), (.int .i64 0), (.int .i64 0)] 43)) := (hPw2.block _ (block_lt HQP.out)).trans HQP.out
    have HQM2 : Hid (w2.heap[(w.heap.size + 1)]? = some (.cells #[.slice og m.ng cg, .slice os' m.ns cs'] 26)) := (hPw2.block _ (block_lt HQM.out)).trans HQM.out
    clear HQP HQM
    have HQP := HQP2
    have HQM := HQM2
    clear HQP2 HQM2
    clear c0 c1 c2 c3 c4 c5 c6 c7 c8 c9 c10 c11 c12 c13 c14 c15 c16 c17 cf cz d0 d1 df dz
    clear hb hPw2 hBw1
    obtain ⟨c0, c1, c2, c3, c4, c5, c6, c7, c8, c9, c10, c11, c12, c13, c14, c15, c16, c17, cf, cz⟩ := cells_at18 HQP.out
    obtain ⟨d0, d1, df, dz⟩ := cells_at2 HQM.out
    go_wp2_with (with_reducible refine wpList_load_all 43 w.heap.size 18 #[(.string ⟨#[120]⟩), (.int .i64 1), (.int .i64 2), (.string ⟨#[98]⟩), (.string g), (.int .i64 0), (.slice none 0 0), (.slice none 0 0), (.string s), (.int .i64 1), (.int .i64 0), (.int .i64 0), (.int .i64 0), (.int .i64 0), (.int .i64 0), (.int .i64 0), (.int .i64 0), (.int .i64 0)] 43 _ part_under part_size rfl rfl HQP.out ?_)
    (go_at_call 11; refine (HSP.out _).mono ?_; rintro e_ w3 ⟨rfl, hb⟩)
    have hPw3 : Below w2.heap.size w2 w3 := below_step (w := w2) (by first | exact Below.refl _ _ | go_grown) hb
    have hBw3 : Below w.heap.size w w3 := below_step hBw2 hPw3
    replace HM := Lib.hid (HM.out.below hPw3)
    have HQP2 : Hid (w3.heap[w.heap.size]? = some (.cells #[(.string ⟨#[120]⟩), (.int .i64 1), (.int .i64 2), (.string ⟨#[98]⟩), (.string g), (.int .i64 0), (.slice none 0 0), (.slice none 0 0), (.string s), (.int .i64 1), (.int .i64 0), (.int .i64 0), (.int .i64 0), (.int .i64 0), (.int .i64 0), (.int .i64 0), (.int .i64 0), (.int .i64 0)] 43)) := (hPw3.block _ (block_lt HQP.out)).trans HQP.out
    have HQM2 : Hid (w3.heap[(w.heap.size + 1)]? = some (.cells #[.slice og m.ng cg, .slice os' m.ns cs'] 26)) := (hPw3.block _ (block_lt HQM.out)).trans HQM.out
    clear HQP HQM
    have HQP := HQP2
    have HQM := HQM2
    clear HQP2 HQM2
    clear c0 c1 c2 c3 c4 c5 c6 c7 c8 c9 c10 c11 c12 c13 c14 c15 c16 c17 cf cz d0 d1 df dz
    clear hb hPw3 hBw2
    obtain ⟨c0, c1, c2, c3, c4, c5, c6, c7, c8, c9, c10, c11, c12, c13, c14, c15, c16, c17, cf, cz⟩ := cells_at18 HQP.out
    obtain ⟨d0, d1, df, dz⟩ := cells_at2 HQM.out
    go_wp2_with (with_reducible refine wpList_load_all 43 w.heap.size 18 #[(.string ⟨#[120]⟩), (.int .i64 1), (.int .i64 2), (.string ⟨#[98]⟩), (.string g), (.int .i64 0), (.slice none 0 0), (.slice none 0 0), (.string s), (.int .i64 1), (.int .i64 0), (.int .i64 0), (.int .i64 0), (.int .i64 0), (.int .i64 0), (.int .i64 0), (.int .i64 0), (.int .i64 0)] 43 _ part_under part_size rfl rfl HQP.out ?_)
    (go_at_call 12; refine (HKN.out _ _ (HM.out.below (by first | exact Below.refl _ _ | (show Below w3.heap.size w3 _; go_grown)))).mono ?_; rintro e_ w4 ⟨rfl, hb⟩)
    have hPw4 : Below w3.heap.size w3 w4 := below_step (w := w3) (by first | exact Below.refl _ _ | go_grown) hb
    have hBw4 : Below w.heap.size w w4 := below_step hBw3 hPw4
    replace HM := Lib.hid (HM.out.below hPw4)
    have HQP2 : Hid (w4.heap[w.heap.size]? = some (.cells #[(.string ⟨#[120]⟩), (.int .i64 1), (.int .i64 2), (.string ⟨#[98]⟩), (.string g), (.int .i64 0), (.slice none 0 0), (.slice none 0 0), (.string s), (.int .i64 1), (.int .i64 0), (.int .i64 0), (.int .i64 0), (.int .i64 0), (.int .i64 0), (.int .i64 0), (.int .i64 0), (.int .i64 0)] 43)) := (hPw4.block _ (block_lt HQP.out)).trans HQP.out
    have HQM2 : Hid (w4.heap[(w.heap.size + 1)]? = some (.cells #[.slice og m.ng cg, .slice os' m.ns cs'] 26)) := (hPw4.block _ (block_lt HQM.out)).trans HQM.out
    clear HQP HQM
    have HQP := HQP2
    have HQM := HQM2
    clear HQP2 HQM2
    clear c0 c1 c2 c3 c4 c5 c6 c7 c8 c9 c10 c11 c12 c13 c14 c15 c16 c17 cf cz d0 d1 df dz
    clear hb hPw4 hBw3
    obtain ⟨c0, c1, c2, c3, c4, c5, c6, c7, c8, c9, c10, c11, c12, c13, c14, c15, c16, c17, cf, cz⟩ := cells_at18 HQP.out
    obtain ⟨d0, d1, df, dz⟩ := cells_at2 HQM.out
    go_wp2_with fail
    (go_at_call 15; refine (HVA.out _).mono ?_; rintro e_ w5 ⟨rfl, hb⟩)
    have hPw5 : Below w4.heap.size w4 w5 := below_step (w := w4) (by first | exact Below.refl _ _ | go_grown) hb
    have hBw5 : Below w.heap.size w w5 := below_step hBw4 hPw5
    replace HM := Lib.hid (HM.out.below hPw5)
    have HQP2 : Hid (w5.heap[w.heap.size]? = some (.cells #[(.string ⟨#[120]⟩), (.int .i64 1), (.int .i64 2), (.string ⟨#[98]⟩), (.string g), (.int .i64 0), (.slice none 0 0), (.slice none 0 0), (.string s), (.int .i64 1), (.int .i64 0), (.int .i64 0), (.int .i64 0), (.int .i64 0), (.int .i64 0), (.int .i64 0), (.int .i64 0), (.int .i64 0)] 43)) := (hPw5.block _ (block_lt HQP.out)).trans HQP.out
    have HQM2 : Hid (w5.heap[(w.heap.size + 1)]? = some (.cells #[.slice og m.ng cg, .slice os' m.ns cs'] 26)) := (hPw5.block _ (block_lt HQM.out)).trans HQM.out
    clear HQP HQM
    have HQP := HQP2
    have HQM := HQM2
    clear HQP2 HQM2
    clear c0 c1 c2 c3 c4 c5 c6 c7 c8 c9 c10 c11 c12 c13 c14 c15 c16 c17 cf cz d0 d1 df dz
    clear hb hPw5 hBw4
    obtain ⟨c0, c1, c2, c3, c4, c5, c6, c7, c8, c9, c10, c11, c12, c13, c14, c15, c16, c17, cf, cz⟩ := cells_at18 HQP.out
    obtain ⟨d0, d1, df, dz⟩ := cells_at2 HQM.out
    go_wp2
    go_returns
    exact ⟨rfl, by go_grown⟩

set_option maxHeartbeats 8000000 in
set_option maxRecDepth 20000 in
theorem pcheck3 (v : Value) (m : Mat) (gv : Nat → Value) (g s : ByteArray) (n a1 a2 a3 t : Int) (w : World) (hm : MatAt w v m gv) (hg : m.hasG g = true) (hs : m.hasS s = true) (hk : inB (m.de (m.gi g)) 1000 20000 = true ∧ inB (m.sa (m.si s)) 1 1000000 = true ∧ inB (m.sh (m.si s)) 1 2000 = true) (hn : 1 ≤ n ∧ n ≤ 32768) (hv : validF (a1, a2, a3) t = true) (hml : MaxLenIs w) : Calls Tryz.prog 9 #[.agg #[(.string ⟨#[120]⟩), (.int .i64 1), (.int .i64 3), (.string ⟨#[98]⟩), (.string g), (.int .i64 0), (.slice none 0 0), (.slice none 0 0), (.string s), (.int .i64 n), (.int .i64 0), (.int .i64 0), (.int .i64 0), (.int .i64 0), (.int .i64 a1), (.int .i64 a2), (.int .i64 a3), (.int .i64 t)], v] w fun e w' => e = .returned (.int .i64 0) ∧ Below w.heap.size w w' := by
  have HIX : Hid (∀ W, MaxLenIs W → Calls Tryz.prog 29 #[.string ⟨#[120]⟩] W fun e w' => e = .returned (.bool true) ∧ Below W.heap.size W w') := fun W hml => by
    have h := isId_any ⟨#[120]⟩ W (by decide) hml
    rw [idB_x] at h
    exact h
  have HIB : Hid (∀ W, MaxLenIs W → Calls Tryz.prog 29 #[.string ⟨#[98]⟩] W fun e w' => e = .returned (.bool true) ∧ Below W.heap.size W w') := fun W hml => by
    have h := isId_any ⟨#[98]⟩ W (by decide) hml
    rw [idB_b] at h
    exact h
  have HSP : Hid (∀ W, Calls Tryz.prog 31 #[.agg #[(.string ⟨#[120]⟩), (.int .i64 1), (.int .i64 3), (.string ⟨#[98]⟩), (.string g), (.int .i64 0), (.slice none 0 0), (.slice none 0 0), (.string s), (.int .i64 n), (.int .i64 0), (.int .i64 0), (.int .i64 0), (.int .i64 0), (.int .i64 a1), (.int .i64 a2), (.int .i64 a3), (.int .i64 t)]] W fun e w' => e = .returned (.bool false) ∧ Below W.heap.size W w') := fun W => spare3 g s n a1 a2 a3 t W hn.1
  have HVA : Hid (∀ W, Calls Tryz.prog 35 #[.agg #[.int .i64 a1, .int .i64 a2, .int .i64 a3, .int .i64 t]] W fun e w' => e = .returned (.bool true) ∧ Below W.heap.size W w') := fun W => by
    have h := Valid_any a1 a2 a3 t W
    rw [hv] at h
    exact h
  have HKN : Hid (∀ W v', MatAt W v' m gv → Calls Tryz.prog 32 #[.agg #[(.string ⟨#[120]⟩), (.int .i64 1), (.int .i64 3), (.string ⟨#[98]⟩), (.string g), (.int .i64 0), (.slice none 0 0), (.slice none 0 0), (.string s), (.int .i64 n), (.int .i64 0), (.int .i64 0), (.int .i64 0), (.int .i64 0), (.int .i64 a1), (.int .i64 a2), (.int .i64 a3), (.int .i64 t)], v'] W fun e w' => e = .returned (.bool true) ∧ Below W.heap.size W w') := fun W v' h => made3 v' m gv g s n a1 a2 a3 t W h hg hs hk
  have HF1 : Hid (∀ W, Calls Tryz.prog 30 #[.int .i64 1, .int .i64 1, .int .i64 1000] W fun e w' => e = .returned (.bool true) ∧ Below W.heap.size W w') := fun W => pfrom_any 1 1 1000 W
  have HFN : Hid (∀ W, Calls Tryz.prog 30 #[.int .i64 n, .int .i64 1, .int .i64 32768] W fun e w' => e = .returned (.bool true) ∧ Below W.heap.size W w') := fun W => by
    have h := pfrom_any n 1 32768 W
    rw [inB_yes hn.1 hn.2] at h
    exact h
  have hf := form3
  have HML := Lib.hid hml
  clear hml hn hv hk hg hs
  have HM := Lib.hid hm
  obtain ⟨vg, vs, rfl, hG, hS, -, -, -⟩ := hm
  obtain ⟨og, cg, rfl, -, -⟩ := hG.form
  obtain ⟨os', cs', rfl, -, -⟩ := hS.form
  clear hG hS
  go_enter Tryz.func9, Tryz.ntmps9
  go_wp2_with fail
  obtain ⟨w0, hw0⟩ : ∃ X, ((w.alloc (.cells #[(.string ⟨#[120]⟩), (.int .i64 1), (.int .i64 3), (.string ⟨#[98]⟩), (.string g), (.int .i64 0), (.slice none 0 0), (.slice none 0 0), (.string s), (.int .i64 n), (.int .i64 0), (.int .i64 0), (.int .i64 0), (.int .i64 0), (.int .i64 a1), (.int .i64 a2), (.int .i64 a3), (.int .i64 t)] 43)).alloc (.cells #[.slice og m.ng cg, .slice os' m.ns cs'] 26)) = X := ⟨_, rfl⟩
  have HQP : Hid (w0.heap[w.heap.size]? = some (.cells #[(.string ⟨#[120]⟩), (.int .i64 1), (.int .i64 3), (.string ⟨#[98]⟩), (.string g), (.int .i64 0), (.slice none 0 0), (.slice none 0 0), (.string s), (.int .i64 n), (.int .i64 0), (.int .i64 0), (.int .i64 0), (.int .i64 0), (.int .i64 a1), (.int .i64 a2), (.int .i64 a3), (.int .i64 t)] 43)) := by
    show _ = _
    rw [← hw0]
    exact (heapA_old _ _ _ (by simp)).trans (heapA_at _ _ _ rfl)
  have HQM : Hid (w0.heap[(w.heap.size + 1)]? = some (.cells #[.slice og m.ng cg, .slice os' m.ns cs'] 26)) := by
    show _ = _
    rw [← hw0]
    exact heapA_at _ _ _ (by simp)
  have hBw0 : Below w.heap.size w w0 := by rw [← hw0]; exact (((Below.refl w.heap.size w).alloc (Nat.le_refl _) _).alloc (by simp) _)
  rw [hw0]
  clear hw0
  replace HM := Lib.hid (HM.out.below hBw0)
  replace HML := Lib.hid (HML.out.below hBw0)
  obtain ⟨c0, c1, c2, c3, c4, c5, c6, c7, c8, c9, c10, c11, c12, c13, c14, c15, c16, c17, cf, cz⟩ := cells_at18 HQP.out
  obtain ⟨d0, d1, df, dz⟩ := cells_at2 HQM.out
  (go_at_call 29; refine (HIX.out _ (HML.out.below (by first | exact Below.refl _ _ | (show Below w0.heap.size w0 _; go_grown)))).mono ?_; rintro e_ w1 ⟨rfl, hb⟩)
  have hPw1 : Below w0.heap.size w0 w1 := below_step (w := w0) (by first | exact Below.refl _ _ | go_grown) hb
  have hBw1 : Below w.heap.size w w1 := below_step hBw0 hPw1
  replace HM := Lib.hid (HM.out.below hPw1)
  replace HML := Lib.hid (HML.out.below hPw1)
  have HQP2 : Hid (w1.heap[w.heap.size]? = some (.cells #[(.string ⟨#[120]⟩), (.int .i64 1), (.int .i64 3), (.string ⟨#[98]⟩), (.string g), (.int .i64 0), (.slice none 0 0), (.slice none 0 0), (.string s), (.int .i64 n), (.int .i64 0), (.int .i64 0), (.int .i64 0), (.int .i64 0), (.int .i64 a1), (.int .i64 a2), (.int .i64 a3), (.int .i64 t)] 43)) := (hPw1.block _ (block_lt HQP.out)).trans HQP.out
  have HQM2 : Hid (w1.heap[(w.heap.size + 1)]? = some (.cells #[.slice og m.ng cg, .slice os' m.ns cs'] 26)) := (hPw1.block _ (block_lt HQM.out)).trans HQM.out
  clear HQP HQM
  have HQP := HQP2
  have HQM := HQM2
  clear HQP2 HQM2
  clear c0 c1 c2 c3 c4 c5 c6 c7 c8 c9 c10 c11 c12 c13 c14 c15 c16 c17 cf cz d0 d1 df dz
  clear hb hPw1 hBw0
  obtain ⟨c0, c1, c2, c3, c4, c5, c6, c7, c8, c9, c10, c11, c12, c13, c14, c15, c16, c17, cf, cz⟩ := cells_at18 HQP.out
  obtain ⟨d0, d1, df, dz⟩ := cells_at2 HQM.out
  go_wp2_with fail
  (go_at_call 29; refine (HIB.out _ (HML.out.below (by first | exact Below.refl _ _ | (show Below w1.heap.size w1 _; go_grown)))).mono ?_; rintro e_ w2 ⟨rfl, hb⟩)
  have hPw2 : Below w1.heap.size w1 w2 := below_step (w := w1) (by first | exact Below.refl _ _ | go_grown) hb
  have hBw2 : Below w.heap.size w w2 := below_step hBw1 hPw2
  replace HM := Lib.hid (HM.out.below hPw2)
  replace HML := Lib.hid (HML.out.below hPw2)
  have HQP2 : Hid (w2.heap[w.heap.size]? = some (.cells #[(.string ⟨#[120]⟩), (.int .i64 1), (.int .i64 3), (.string ⟨#[98]⟩), (.string g), (.int .i64 0), (.slice none 0 0), (.slice none 0 0), (.string s), (.int .i64 n), (.int .i64 0), (.int .i64 0), (.int .i64 0), (.int .i64 0), (.int .i64 a1), (.int .i64 a2), (.int .i64 a3), (.int .i64 t)] 43)) := (hPw2.block _ (block_lt HQP.out)).trans HQP.out
  have HQM2 : Hid (w2.heap[(w.heap.size + 1)]? = some (.cells #[.slice og m.ng cg, .slice os' m.ns cs'] 26)) := (hPw2.block _ (block_lt HQM.out)).trans HQM.out
  clear HQP HQM
  have HQP := HQP2
  have HQM := HQM2
  clear HQP2 HQM2
  clear c0 c1 c2 c3 c4 c5 c6 c7 c8 c9 c10 c11 c12 c13 c14 c15 c16 c17 cf cz d0 d1 df dz
  clear hb hPw2 hBw1
  obtain ⟨c0, c1, c2, c3, c4, c5, c6, c7, c8, c9, c10, c11, c12, c13, c14, c15, c16, c17, cf, cz⟩ := cells_at18 HQP.out
  obtain ⟨d0, d1, df, dz⟩ := cells_at2 HQM.out
  go_wp2_with fail
  (go_at_call 30; refine (HF1.out _).mono ?_; rintro e_ w3 ⟨rfl, hb⟩)
  have hPw3 : Below w2.heap.size w2 w3 := below_step (w := w2) (by first | exact Below.refl _ _ | go_grown) hb
  have hBw3 : Below w.heap.size w w3 := below_step hBw2 hPw3
  replace HM := Lib.hid (HM.out.below hPw3)
  replace HML := Lib.hid (HML.out.below hPw3)
  have HQP2 : Hid (w3.heap[w.heap.size]? = some (.cells #[(.string ⟨#[120]⟩), (.int .i64 1), (.int .i64 3), (.string ⟨#[98]⟩), (.string g), (.int .i64 0), (.slice none 0 0), (.slice none 0 0), (.string s), (.int .i64 n), (.int .i64 0), (.int .i64 0), (.int .i64 0), (.int .i64 0), (.int .i64 a1), (.int .i64 a2), (.int .i64 a3), (.int .i64 t)] 43)) := (hPw3.block _ (block_lt HQP.out)).trans HQP.out
  have HQM2 : Hid (w3.heap[(w.heap.size + 1)]? = some (.cells #[.slice og m.ng cg, .slice os' m.ns cs'] 26)) := (hPw3.block _ (block_lt HQM.out)).trans HQM.out
  clear HQP HQM
  have HQP := HQP2
  have HQM := HQM2
  clear HQP2 HQM2
  clear c0 c1 c2 c3 c4 c5 c6 c7 c8 c9 c10 c11 c12 c13 c14 c15 c16 c17 cf cz d0 d1 df dz
  clear hb hPw3 hBw2
  obtain ⟨c0, c1, c2, c3, c4, c5, c6, c7, c8, c9, c10, c11, c12, c13, c14, c15, c16, c17, cf, cz⟩ := cells_at18 HQP.out
  obtain ⟨d0, d1, df, dz⟩ := cells_at2 HQM.out
  go_wp2_with fail
  (go_at_call 27; refine (hf _).mono ?_; rintro e_ w4 ⟨rfl, hb⟩)
  have hPw4 : Below w3.heap.size w3 w4 := below_step (w := w3) (by first | exact Below.refl _ _ | go_grown) hb
  have hBw4 : Below w.heap.size w w4 := below_step hBw3 hPw4
  replace HM := Lib.hid (HM.out.below hPw4)
  replace HML := Lib.hid (HML.out.below hPw4)
  have HQP2 : Hid (w4.heap[w.heap.size]? = some (.cells #[(.string ⟨#[120]⟩), (.int .i64 1), (.int .i64 3), (.string ⟨#[98]⟩), (.string g), (.int .i64 0), (.slice none 0 0), (.slice none 0 0), (.string s), (.int .i64 n), (.int .i64 0), (.int .i64 0), (.int .i64 0), (.int .i64 0), (.int .i64 a1), (.int .i64 a2), (.int .i64 a3), (.int .i64 t)] 43)) := (hPw4.block _ (block_lt HQP.out)).trans HQP.out
  have HQM2 : Hid (w4.heap[(w.heap.size + 1)]? = some (.cells #[.slice og m.ng cg, .slice os' m.ns cs'] 26)) := (hPw4.block _ (block_lt HQM.out)).trans HQM.out
  clear HQP HQM
  have HQP := HQP2
  have HQM := HQM2
  clear HQP2 HQM2
  clear c0 c1 c2 c3 c4 c5 c6 c7 c8 c9 c10 c11 c12 c13 c14 c15 c16 c17 cf cz d0 d1 df dz
  clear hb hPw4 hBw3
  obtain ⟨c0, c1, c2, c3, c4, c5, c6, c7, c8, c9, c10, c11, c12, c13, c14, c15, c16, c17, cf, cz⟩ := cells_at18 HQP.out
  obtain ⟨d0, d1, df, dz⟩ := cells_at2 HQM.out
  go_wp2_with (with_reducible refine wpList_load_all 43 w.heap.size 18 #[(.string ⟨#[120]⟩), (.int .i64 1), (.int .i64 3), (.string ⟨#[98]⟩), (.string g), (.int .i64 0), (.slice none 0 0), (.slice none 0 0), (.string s), (.int .i64 n), (.int .i64 0), (.int .i64 0), (.int .i64 0), (.int .i64 0), (.int .i64 a1), (.int .i64 a2), (.int .i64 a3), (.int .i64 t)] 43 _ part_under part_size rfl rfl HQP.out ?_)
  (go_at_call 31; refine (HSP.out _).mono ?_; rintro e_ w5 ⟨rfl, hb⟩)
  have hPw5 : Below w4.heap.size w4 w5 := below_step (w := w4) (by first | exact Below.refl _ _ | go_grown) hb
  have hBw5 : Below w.heap.size w w5 := below_step hBw4 hPw5
  replace HM := Lib.hid (HM.out.below hPw5)
  replace HML := Lib.hid (HML.out.below hPw5)
  have HQP2 : Hid (w5.heap[w.heap.size]? = some (.cells #[(.string ⟨#[120]⟩), (.int .i64 1), (.int .i64 3), (.string ⟨#[98]⟩), (.string g), (.int .i64 0), (.slice none 0 0), (.slice none 0 0), (.string s), (.int .i64 n), (.int .i64 0), (.int .i64 0), (.int .i64 0), (.int .i64 0), (.int .i64 a1), (.int .i64 a2), (.int .i64 a3), (.int .i64 t)] 43)) := (hPw5.block _ (block_lt HQP.out)).trans HQP.out
  have HQM2 : Hid (w5.heap[(w.heap.size + 1)]? = some (.cells #[.slice og m.ng cg, .slice os' m.ns cs'] 26)) := (hPw5.block _ (block_lt HQM.out)).trans HQM.out
  clear HQP HQM
  have HQP := HQP2
  have HQM := HQM2
  clear HQP2 HQM2
  clear c0 c1 c2 c3 c4 c5 c6 c7 c8 c9 c10 c11 c12 c13 c14 c15 c16 c17 cf cz d0 d1 df dz
  clear hb hPw5 hBw4
  obtain ⟨c0, c1, c2, c3, c4, c5, c6, c7, c8, c9, c10, c11, c12, c13, c14, c15, c16, c17, cf, cz⟩ := cells_at18 HQP.out
  obtain ⟨d0, d1, df, dz⟩ := cells_at2 HQM.out
  go_wp2_with (with_reducible refine wpList_load_all 43 w.heap.size 18 #[(.string ⟨#[120]⟩), (.int .i64 1), (.int .i64 3), (.string ⟨#[98]⟩), (.string g), (.int .i64 0), (.slice none 0 0), (.slice none 0 0), (.string s), (.int .i64 n), (.int .i64 0), (.int .i64 0), (.int .i64 0), (.int .i64 0), (.int .i64 a1), (.int .i64 a2), (.int .i64 a3), (.int .i64 t)] 43 _ part_under part_size rfl rfl HQP.out ?_)
  (go_at_call 32; refine (HKN.out _ _ (HM.out.below (by first | exact Below.refl _ _ | (show Below w5.heap.size w5 _; go_grown)))).mono ?_; rintro e_ w6 ⟨rfl, hb⟩)
  have hPw6 : Below w5.heap.size w5 w6 := below_step (w := w5) (by first | exact Below.refl _ _ | go_grown) hb
  have hBw6 : Below w.heap.size w w6 := below_step hBw5 hPw6
  replace HM := Lib.hid (HM.out.below hPw6)
  replace HML := Lib.hid (HML.out.below hPw6)
  have HQP2 : Hid (w6.heap[w.heap.size]? = some (.cells #[(.string ⟨#[120]⟩), (.int .i64 1), (.int .i64 3), (.string ⟨#[98]⟩), (.string g), (.int .i64 0), (.slice none 0 0), (.slice none 0 0), (.string s), (.int .i64 n), (.int .i64 0), (.int .i64 0), (.int .i64 0), (.int .i64 0), (.int .i64 a1), (.int .i64 a2), (.int .i64 a3), (.int .i64 t)] 43)) := (hPw6.block _ (block_lt HQP.out)).trans HQP.out
  have HQM2 : Hid (w6.heap[(w.heap.size + 1)]? = some (.cells #[.slice og m.ng cg, .slice os' m.ns cs'] 26)) := (hPw6.block _ (block_lt HQM.out)).trans HQM.out
  clear HQP HQM
  have HQP := HQP2
  have HQM := HQM2
  clear HQP2 HQM2
  clear c0 c1 c2 c3 c4 c5 c6 c7 c8 c9 c10 c11 c12 c13 c14 c15 c16 c17 cf cz d0 d1 df dz
  clear hb hPw6 hBw5
  obtain ⟨c0, c1, c2, c3, c4, c5, c6, c7, c8, c9, c10, c11, c12, c13, c14, c15, c16, c17, cf, cz⟩ := cells_at18 HQP.out
  obtain ⟨d0, d1, df, dz⟩ := cells_at2 HQM.out
  go_wp2_with fail
  (go_at_call 27; refine (hf _).mono ?_; rintro e_ w7 ⟨rfl, hb⟩)
  have hPw7 : Below w6.heap.size w6 w7 := below_step (w := w6) (by first | exact Below.refl _ _ | go_grown) hb
  have hBw7 : Below w.heap.size w w7 := below_step hBw6 hPw7
  replace HM := Lib.hid (HM.out.below hPw7)
  replace HML := Lib.hid (HML.out.below hPw7)
  have HQP2 : Hid (w7.heap[w.heap.size]? = some (.cells #[(.string ⟨#[120]⟩), (.int .i64 1), (.int .i64 3), (.string ⟨#[98]⟩), (.string g), (.int .i64 0), (.slice none 0 0), (.slice none 0 0), (.string s), (.int .i64 n), (.int .i64 0), (.int .i64 0), (.int .i64 0), (.int .i64 0), (.int .i64 a1), (.int .i64 a2), (.int .i64 a3), (.int .i64 t)] 43)) := (hPw7.block _ (block_lt HQP.out)).trans HQP.out
  have HQM2 : Hid (w7.heap[(w.heap.size + 1)]? = some (.cells #[.slice og m.ng cg, .slice os' m.ns cs'] 26)) := (hPw7.block _ (block_lt HQM.out)).trans HQM.out
  clear HQP HQM
  have HQP := HQP2
  have HQM := HQM2
  clear HQP2 HQM2
  clear c0 c1 c2 c3 c4 c5 c6 c7 c8 c9 c10 c11 c12 c13 c14 c15 c16 c17 cf cz d0 d1 df dz
  clear hb hPw7 hBw6
  obtain ⟨c0, c1, c2, c3, c4, c5, c6, c7, c8, c9, c10, c11, c12, c13, c14, c15, c16, c17, cf, cz⟩ := cells_at18 HQP.out
  obtain ⟨d0, d1, df, dz⟩ := cells_at2 HQM.out
  go_wp2_with fail
  (go_at_call 30; refine (HFN.out _).mono ?_; rintro e_ w8 ⟨rfl, hb⟩)
  have hPw8 : Below w7.heap.size w7 w8 := below_step (w := w7) (by first | exact Below.refl _ _ | go_grown) hb
  have hBw8 : Below w.heap.size w w8 := below_step hBw7 hPw8
  replace HM := Lib.hid (HM.out.below hPw8)
  replace HML := Lib.hid (HML.out.below hPw8)
  have HQP2 : Hid (w8.heap[w.heap.size]? = some (.cells #[(.string ⟨#[120]⟩), (.int .i64 1), (.int .i64 3), (.string ⟨#[98]⟩), (.string g), (.int .i64 0), (.slice none 0 0), (.slice none 0 0), (.string s), (.int .i64 n), (.int .i64 0), (.int .i64 0), (.int .i64 0), (.int .i64 0), (.int .i64 a1), (.int .i64 a2), (.int .i64 a3), (.int .i64 t)] 43)) := (hPw8.block _ (block_lt HQP.out)).trans HQP.out
  have HQM2 : Hid (w8.heap[(w.heap.size + 1)]? = some (.cells #[.slice og m.ng cg, .slice os' m.ns cs'] 26)) := (hPw8.block _ (block_lt HQM.out)).trans HQM.out
  clear HQP HQM
  have HQP := HQP2
  have HQM := HQM2
  clear HQP2 HQM2
  clear c0 c1 c2 c3 c4 c5 c6 c7 c8 c9 c10 c11 c12 c13 c14 c15 c16 c17 cf cz d0 d1 df dz
  clear hb hPw8 hBw7
  obtain ⟨c0, c1, c2, c3, c4, c5, c6, c7, c8, c9, c10, c11, c12, c13, c14, c15, c16, c17, cf, cz⟩ := cells_at18 HQP.out
  obtain ⟨d0, d1, df, dz⟩ := cells_at2 HQM.out
  go_wp2_with fail
  (go_at_call 35; refine (HVA.out _).mono ?_; rintro e_ w9 ⟨rfl, hb⟩)
  have hPw9 : Below w8.heap.size w8 w9 := below_step (w := w8) (by first | exact Below.refl _ _ | go_grown) hb
  have hBw9 : Below w.heap.size w w9 := below_step hBw8 hPw9
  replace HM := Lib.hid (HM.out.below hPw9)
  replace HML := Lib.hid (HML.out.below hPw9)
  have HQP2 : Hid (w9.heap[w.heap.size]? = some (.cells #[(.string ⟨#[120]⟩), (.int .i64 1), (.int .i64 3), (.string ⟨#[98]⟩), (.string g), (.int .i64 0), (.slice none 0 0), (.slice none 0 0), (.string s), (.int .i64 n), (.int .i64 0), (.int .i64 0), (.int .i64 0), (.int .i64 0), (.int .i64 a1), (.int .i64 a2), (.int .i64 a3), (.int .i64 t)] 43)) := (hPw9.block _ (block_lt HQP.out)).trans HQP.out
  have HQM2 : Hid (w9.heap[(w.heap.size + 1)]? = some (.cells #[.slice og m.ng cg, .slice os' m.ns cs'] 26)) := (hPw9.block _ (block_lt HQM.out)).trans HQM.out
  clear HQP HQM
  have HQP := HQP2
  have HQM := HQM2
  clear HQP2 HQM2
  clear c0 c1 c2 c3 c4 c5 c6 c7 c8 c9 c10 c11 c12 c13 c14 c15 c16 c17 cf cz d0 d1 df dz
  clear hb hPw9 hBw8
  obtain ⟨c0, c1, c2, c3, c4, c5, c6, c7, c8, c9, c10, c11, c12, c13, c14, c15, c16, c17, cf, cz⟩ := cells_at18 HQP.out
  obtain ⟨d0, d1, df, dz⟩ := cells_at2 HQM.out
  go_wp2
  go_returns
  exact ⟨rfl, by go_grown⟩

set_option maxHeartbeats 8000000 in
set_option maxRecDepth 20000 in
theorem mass3 (v : Value) (m : Mat) (gv : Nat → Value) (g s : ByteArray) (n a1 a2 a3 t : Int) (w : World) (hm : MatAt w v m gv) (hg : m.hasG g = true) (hs : m.hasS s = true) (hk : inB (m.de (m.gi g)) 1000 20000 = true ∧ inB (m.sa (m.si s)) 1 1000000 = true ∧ inB (m.sh (m.si s)) 1 2000 = true) (hn : 1 ≤ n ∧ n ≤ 32768) (hv : validF (a1, a2, a3) t = true) (hml : MaxLenIs w) : Calls Tryz.prog 8 #[.agg #[(.string ⟨#[120]⟩), (.int .i64 1), (.int .i64 3), (.string ⟨#[98]⟩), (.string g), (.int .i64 0), (.slice none 0 0), (.slice none 0 0), (.string s), (.int .i64 n), (.int .i64 0), (.int .i64 0), (.int .i64 0), (.int .i64 0), (.int .i64 a1), (.int .i64 a2), (.int .i64 a3), (.int .i64 t)], v] w fun e w' => e = .returned (.tuple #[.int .i64 ((m.sa (m.si s) * n * m.de (m.gi g)).tdiv 1000000), .int .i64 0]) ∧ Below w.heap.size w w' := by
  have hn' := hn
  have HPC : Hid (∀ W v', MatAt W v' m gv → MaxLenIs W → Calls Tryz.prog 9 #[.agg #[(.string ⟨#[120]⟩), (.int .i64 1), (.int .i64 3), (.string ⟨#[98]⟩), (.string g), (.int .i64 0), (.slice none 0 0), (.slice none 0 0), (.string s), (.int .i64 n), (.int .i64 0), (.int .i64 0), (.int .i64 0), (.int .i64 0), (.int .i64 a1), (.int .i64 a2), (.int .i64 a3), (.int .i64 t)], v'] W fun e w' => e = .returned (.int .i64 0) ∧ Below W.heap.size W w') := fun W v' h h2 => pcheck3 v' m gv g s n a1 a2 a3 t W h hg hs hk hn hv h2
  have hf := form3
  have HML := Lib.hid hml
  obtain ⟨hk1, hk2, hk3⟩ := hk
  replace hk1 := inB_true hk1
  replace hk2 := inB_true hk2
  clear hml hv hk3 hn'
  have HM := Lib.hid hm
  obtain ⟨vg, vs, rfl, hG, hS, -, -, -⟩ := hm
  obtain ⟨og, cg, rfl, -, -⟩ := hG.form
  obtain ⟨os', cs', rfl, -, -⟩ := hS.form
  clear hG hS
  obtain ⟨D, hD⟩ : ∃ d, m.de (m.gi g) = d := ⟨_, rfl⟩
  obtain ⟨R, hR⟩ : ∃ d, m.sa (m.si s) = d := ⟨_, rfl⟩
  obtain ⟨T, hT⟩ : ∃ d, m.sh (m.si s) = d := ⟨_, rfl⟩
  rw [hD] at hk1 ⊢
  rw [hR] at hk2 ⊢
  have HD := Lib.hid hD
  have HR := Lib.hid (And.intro hR hT)
  have HG := Lib.hid hg
  have HS := Lib.hid hs
  clear hD hR hT hg hs
  have hb1 : 0 ≤ R * n ∧ R * n ≤ 32768000000 := by
    refine ⟨Int.mul_nonneg (by omega) (by omega), ?_⟩
    have h1 := Int.mul_le_mul_of_nonneg_right hk2.2 (show 0 ≤ n by omega)
    have h2 := Int.mul_le_mul_of_nonneg_left hn.2 (show (0 : Int) ≤ 1000000 by decide)
    omega
  obtain ⟨RN, hRN⟩ : ∃ e, R * n = e := ⟨_, rfl⟩
  rw [hRN] at hb1
  have w1' : IntKind.i64.wrap (R * n) = RN := by rw [hRN]; exact IntWalk.i64_in _ (by omega)
  have hb2 : 0 ≤ RN * D ∧ RN * D ≤ 655360000000000 := by
    refine ⟨Int.mul_nonneg (by omega) (by omega), ?_⟩
    have h1 := Int.mul_le_mul_of_nonneg_right hb1.2 (show 0 ≤ D by omega)
    have h2 := Int.mul_le_mul_of_nonneg_left hk1.2 (show (0 : Int) ≤ 32768000000 by decide)
    omega
  obtain ⟨RD, hRD⟩ : ∃ e, RN * D = e := ⟨_, rfl⟩
  rw [hRD] at hb2
  have w2' : IntKind.i64.wrap (RN * D) = RD := by rw [hRD]; exact IntWalk.i64_in _ (by omega)
  obtain ⟨MV, hMV⟩ : ∃ e, RD.tdiv 1000000 = e := ⟨_, rfl⟩
  have hb3 : 0 ≤ MV ∧ MV ≤ 655360000000000 := by
    rw [← hMV, Int.tdiv_eq_ediv_of_nonneg hb2.1]
    omega
  have w3' : IntKind.i64.wrap (RD.tdiv 1000000) = MV := by rw [hMV]; exact IntWalk.i64_in _ (by omega)
  rw [hRN, hRD, hMV]
  clear hRN hRD hMV hb1 hb2 hb3 hk1 hk2 hn
  go_enter Tryz.func8, Tryz.ntmps8
  go_wp2_with (with_reducible refine wpList_load_all 43 w.heap.size 18 #[(.string ⟨#[120]⟩), (.int .i64 1), (.int .i64 3), (.string ⟨#[98]⟩), (.string g), (.int .i64 0), (.slice none 0 0), (.slice none 0 0), (.string s), (.int .i64 n), (.int .i64 0), (.int .i64 0), (.int .i64 0), (.int .i64 0), (.int .i64 a1), (.int .i64 a2), (.int .i64 a3), (.int .i64 t)] 43 _ part_under part_size rfl rfl (show (((w.alloc (.cells #[(.string ⟨#[120]⟩), (.int .i64 1), (.int .i64 3), (.string ⟨#[98]⟩), (.string g), (.int .i64 0), (.slice none 0 0), (.slice none 0 0), (.string s), (.int .i64 n), (.int .i64 0), (.int .i64 0), (.int .i64 0), (.int .i64 0), (.int .i64 a1), (.int .i64 a2), (.int .i64 a3), (.int .i64 t)] 43)).alloc (.cells #[.slice og m.ng cg, .slice os' m.ns cs'] 26)).heap[w.heap.size]? = some (.cells #[(.string ⟨#[120]⟩), (.int .i64 1), (.int .i64 3), (.string ⟨#[98]⟩), (.string g), (.int .i64 0), (.slice none 0 0), (.slice none 0 0), (.string s), (.int .i64 n), (.int .i64 0), (.int .i64 0), (.int .i64 0), (.int .i64 0), (.int .i64 a1), (.int .i64 a2), (.int .i64 a3), (.int .i64 t)] 43)) from (heapA_old _ _ _ (by simp)).trans (heapA_at _ _ _ rfl)) ?_)
  obtain ⟨w0, hw0⟩ : ∃ X, ((w.alloc (.cells #[(.string ⟨#[120]⟩), (.int .i64 1), (.int .i64 3), (.string ⟨#[98]⟩), (.string g), (.int .i64 0), (.slice none 0 0), (.slice none 0 0), (.string s), (.int .i64 n), (.int .i64 0), (.int .i64 0), (.int .i64 0), (.int .i64 0), (.int .i64 a1), (.int .i64 a2), (.int .i64 a3), (.int .i64 t)] 43)).alloc (.cells #[.slice og m.ng cg, .slice os' m.ns cs'] 26)) = X := ⟨_, rfl⟩
  have HQP : Hid (w0.heap[w.heap.size]? = some (.cells #[(.string ⟨#[120]⟩), (.int .i64 1), (.int .i64 3), (.string ⟨#[98]⟩), (.string g), (.int .i64 0), (.slice none 0 0), (.slice none 0 0), (.string s), (.int .i64 n), (.int .i64 0), (.int .i64 0), (.int .i64 0), (.int .i64 0), (.int .i64 a1), (.int .i64 a2), (.int .i64 a3), (.int .i64 t)] 43)) := by
    show _ = _
    rw [← hw0]
    exact (heapA_old _ _ _ (by simp)).trans (heapA_at _ _ _ rfl)
  have HQM : Hid (w0.heap[(w.heap.size + 1)]? = some (.cells #[.slice og m.ng cg, .slice os' m.ns cs'] 26)) := by
    show _ = _
    rw [← hw0]
    exact heapA_at _ _ _ (by simp)
  have hBw0 : Below w.heap.size w w0 := by rw [← hw0]; exact (((Below.refl w.heap.size w).alloc (Nat.le_refl _) _).alloc (by simp) _)
  rw [hw0]
  clear hw0
  replace HM := Lib.hid (HM.out.below hBw0)
  replace HML := Lib.hid (HML.out.below hBw0)
  obtain ⟨c0, c1, c2, c3, c4, c5, c6, c7, c8, c9, c10, c11, c12, c13, c14, c15, c16, c17, cf, cz⟩ := cells_at18 HQP.out
  obtain ⟨d0, d1, df, dz⟩ := cells_at2 HQM.out
  (go_at_call 9; refine (HPC.out _ _ (HM.out.below (by first | exact Below.refl _ _ | (show Below w0.heap.size w0 _; go_grown))) (HML.out.below (by first | exact Below.refl _ _ | (show Below w0.heap.size w0 _; go_grown)))).mono ?_; rintro e_ w1 ⟨rfl, hb⟩)
  have hPw1 : Below w0.heap.size w0 w1 := below_step (w := w0) (by first | exact Below.refl _ _ | go_grown) hb
  have hBw1 : Below w.heap.size w w1 := below_step hBw0 hPw1
  replace HM := Lib.hid (HM.out.below hPw1)
  replace HML := Lib.hid (HML.out.below hPw1)
  have HQP2 : Hid (w1.heap[w.heap.size]? = some (.cells #[(.string ⟨#[120]⟩), (.int .i64 1), (.int .i64 3), (.string ⟨#[98]⟩), (.string g), (.int .i64 0), (.slice none 0 0), (.slice none 0 0), (.string s), (.int .i64 n), (.int .i64 0), (.int .i64 0), (.int .i64 0), (.int .i64 0), (.int .i64 a1), (.int .i64 a2), (.int .i64 a3), (.int .i64 t)] 43)) := (hPw1.block _ (block_lt HQP.out)).trans HQP.out
  have HQM2 : Hid (w1.heap[(w.heap.size + 1)]? = some (.cells #[.slice og m.ng cg, .slice os' m.ns cs'] 26)) := (hPw1.block _ (block_lt HQM.out)).trans HQM.out
  clear HQP HQM
  have HQP := HQP2
  have HQM := HQM2
  clear HQP2 HQM2
  clear c0 c1 c2 c3 c4 c5 c6 c7 c8 c9 c10 c11 c12 c13 c14 c15 c16 c17 cf cz d0 d1 df dz
  clear hb hPw1 hBw0
  obtain ⟨c0, c1, c2, c3, c4, c5, c6, c7, c8, c9, c10, c11, c12, c13, c14, c15, c16, c17, cf, cz⟩ := cells_at18 HQP.out
  obtain ⟨d0, d1, df, dz⟩ := cells_at2 HQM.out
  go_wp2_with fail
  (go_at_call 25; refine (grade_any _ m gv g _ (HM.out.below (by first | exact Below.refl _ _ | (show Below w1.heap.size w1 _; go_grown)))).mono ?_; rintro e_ w2 ⟨s1, d1', y1, gv', rfl, hd1, hi, hb⟩)
  have hPw2 : Below w1.heap.size w1 w2 := below_step (w := w1) (by first | exact Below.refl _ _ | go_grown) hb
  have hBw2 : Below w.heap.size w w2 := below_step hBw1 hPw2
  replace HM := Lib.hid (HM.out.below hPw2)
  replace HML := Lib.hid (HML.out.below hPw2)
  have HQP2 : Hid (w2.heap[w.heap.size]? = some (.cells #[(.string ⟨#[120]⟩), (.int .i64 1), (.int .i64 3), (.string ⟨#[98]⟩), (.string g), (.int .i64 0), (.slice none 0 0), (.slice none 0 0), (.string s), (.int .i64 n), (.int .i64 0), (.int .i64 0), (.int .i64 0), (.int .i64 0), (.int .i64 a1), (.int .i64 a2), (.int .i64 a3), (.int .i64 t)] 43)) := (hPw2.block _ (block_lt HQP.out)).trans HQP.out
  have HQM2 : Hid (w2.heap[(w.heap.size + 1)]? = some (.cells #[.slice og m.ng cg, .slice os' m.ns cs'] 26)) := (hPw2.block _ (block_lt HQM.out)).trans HQM.out
  clear HQP HQM
  have HQP := HQP2
  have HQM := HQM2
  clear HQP2 HQM2
  obtain ⟨o2, c2', rfl, -, -⟩ := hi.form
  rw [HG.out]
  obtain rfl : D = d1' := HD.out.symm.trans (hd1 HG.out).symm
  clear hi hd1
  clear c0 c1 c2 c3 c4 c5 c6 c7 c8 c9 c10 c11 c12 c13 c14 c15 c16 c17 cf cz d0 d1 df dz
  clear hb hPw2 hBw1
  obtain ⟨c0, c1, c2, c3, c4, c5, c6, c7, c8, c9, c10, c11, c12, c13, c14, c15, c16, c17, cf, cz⟩ := cells_at18 HQP.out
  obtain ⟨d0, d1, df, dz⟩ := cells_at2 HQM.out
  go_wp2_with fail
  (go_at_call 26; refine (section_any _ m gv s _ (HM.out.below (by first | exact Below.refl _ _ | (show Below w2.heap.size w2 _; go_grown)))).mono ?_; rintro e_ w3 ⟨s2, r2, t2, k2, rfl, hd2, hb⟩)
  have x0 : w3.cell? ⟨w2.heap.size, 0, none⟩ = some (.string s1) := (hb.cell (p := ⟨w2.heap.size, 0, none⟩) (by simp)).trans (by simp [go_sem])
  have x1 : w3.cell? ⟨w2.heap.size, 1, none⟩ = some (.int .i64 D) := (hb.cell (p := ⟨w2.heap.size, 1, none⟩) (by simp)).trans (by simp [go_sem])
  have x2 : w3.cell? ⟨w2.heap.size, 2, none⟩ = some (.int .i64 y1) := (hb.cell (p := ⟨w2.heap.size, 2, none⟩) (by simp)).trans (by simp [go_sem])
  have x3 : w3.cell? ⟨w2.heap.size, 3, none⟩ = some (.slice o2 (m.gl g) c2') := (hb.cell (p := ⟨w2.heap.size, 3, none⟩) (by simp)).trans (by simp [go_sem])
  have xz : w2.heap.size < w3.heap.size := by have := hb.size; simp only [World.size_alloc] at this; omega
  have hPw3 : Below w2.heap.size w2 w3 := below_step (w := w2) (by first | exact Below.refl _ _ | go_grown) hb
  have hBw3 : Below w.heap.size w w3 := below_step hBw2 hPw3
  replace HM := Lib.hid (HM.out.below hPw3)
  replace HML := Lib.hid (HML.out.below hPw3)
  have HQP2 : Hid (w3.heap[w.heap.size]? = some (.cells #[(.string ⟨#[120]⟩), (.int .i64 1), (.int .i64 3), (.string ⟨#[98]⟩), (.string g), (.int .i64 0), (.slice none 0 0), (.slice none 0 0), (.string s), (.int .i64 n), (.int .i64 0), (.int .i64 0), (.int .i64 0), (.int .i64 0), (.int .i64 a1), (.int .i64 a2), (.int .i64 a3), (.int .i64 t)] 43)) := (hPw3.block _ (block_lt HQP.out)).trans HQP.out
  have HQM2 : Hid (w3.heap[(w.heap.size + 1)]? = some (.cells #[.slice og m.ng cg, .slice os' m.ns cs'] 26)) := (hPw3.block _ (block_lt HQM.out)).trans HQM.out
  clear HQP HQM
  have HQP := HQP2
  have HQM := HQM2
  clear HQP2 HQM2
  rw [HS.out]
  obtain ⟨hr1, hr2⟩ := hd2 HS.out
  obtain rfl : R = r2 := HR.out.1.symm.trans hr1.symm
  obtain rfl : T = t2 := HR.out.2.symm.trans hr2.symm
  clear hr1 hr2 hd2
  clear c0 c1 c2 c3 c4 c5 c6 c7 c8 c9 c10 c11 c12 c13 c14 c15 c16 c17 cf cz d0 d1 df dz
  clear hb hPw3 hBw2
  obtain ⟨c0, c1, c2, c3, c4, c5, c6, c7, c8, c9, c10, c11, c12, c13, c14, c15, c16, c17, cf, cz⟩ := cells_at18 HQP.out
  obtain ⟨d0, d1, df, dz⟩ := cells_at2 HQM.out
  go_wp2_with fail
  (go_at_call 27; refine (hf _).mono ?_; rintro e_ w4 ⟨rfl, hb⟩)
  have hPw4 : Below w3.heap.size w3 w4 := below_step (w := w3) (by first | exact Below.refl _ _ | go_grown) hb
  have hBw4 : Below w.heap.size w w4 := below_step hBw3 hPw4
  replace HM := Lib.hid (HM.out.below hPw4)
  replace HML := Lib.hid (HML.out.below hPw4)
  have y0' : w4.cell? ⟨w3.heap.size, 0, none⟩ = some (.string s2) := (hb.cell (p := ⟨w3.heap.size, 0, none⟩) (by simp)).trans (by simp [go_sem])
  have y1' : w4.cell? ⟨w3.heap.size, 1, none⟩ = some (.int .i64 R) := (hb.cell (p := ⟨w3.heap.size, 1, none⟩) (by simp)).trans (by simp [go_sem])
  have y2' : w4.cell? ⟨w3.heap.size, 2, none⟩ = some (.int .i64 T) := (hb.cell (p := ⟨w3.heap.size, 2, none⟩) (by simp)).trans (by simp [go_sem])
  have y3' : w4.cell? ⟨w3.heap.size, 3, none⟩ = some (.int .i64 k2) := (hb.cell (p := ⟨w3.heap.size, 3, none⟩) (by simp)).trans (by simp [go_sem])
  have yz' : w3.heap.size < w4.heap.size := by have := hb.size; simp only [World.size_alloc] at this; omega
  have z0' : w4.cell? ⟨w2.heap.size, 0, none⟩ = some (.string s1) := (hb.cell (p := ⟨w2.heap.size, 0, none⟩) (by simp <;> omega)).trans (by simp [go_sem, *])
  have z1' : w4.cell? ⟨w2.heap.size, 1, none⟩ = some (.int .i64 D) := (hb.cell (p := ⟨w2.heap.size, 1, none⟩) (by simp <;> omega)).trans (by simp [go_sem, *])
  have z2' : w4.cell? ⟨w2.heap.size, 2, none⟩ = some (.int .i64 y1) := (hb.cell (p := ⟨w2.heap.size, 2, none⟩) (by simp <;> omega)).trans (by simp [go_sem, *])
  have z3' : w4.cell? ⟨w2.heap.size, 3, none⟩ = some (.slice o2 (m.gl g) c2') := (hb.cell (p := ⟨w2.heap.size, 3, none⟩) (by simp <;> omega)).trans (by simp [go_sem, *])
  have zz' : w2.heap.size < w4.heap.size := by omega
  clear x0 x1 x2 x3
  have HQP2 : Hid (w4.heap[w.heap.size]? = some (.cells #[(.string ⟨#[120]⟩), (.int .i64 1), (.int .i64 3), (.string ⟨#[98]⟩), (.string g), (.int .i64 0), (.slice none 0 0), (.slice none 0 0), (.string s), (.int .i64 n), (.int .i64 0), (.int .i64 0), (.int .i64 0), (.int .i64 0), (.int .i64 a1), (.int .i64 a2), (.int .i64 a3), (.int .i64 t)] 43)) := (hPw4.block _ (block_lt HQP.out)).trans HQP.out
  have HQM2 : Hid (w4.heap[(w.heap.size + 1)]? = some (.cells #[.slice og m.ng cg, .slice os' m.ns cs'] 26)) := (hPw4.block _ (block_lt HQM.out)).trans HQM.out
  clear HQP HQM
  have HQP := HQP2
  have HQM := HQM2
  clear HQP2 HQM2
  clear c0 c1 c2 c3 c4 c5 c6 c7 c8 c9 c10 c11 c12 c13 c14 c15 c16 c17 cf cz d0 d1 df dz
  clear hb hPw4 hBw3
  obtain ⟨c0, c1, c2, c3, c4, c5, c6, c7, c8, c9, c10, c11, c12, c13, c14, c15, c16, c17, cf, cz⟩ := cells_at18 HQP.out
  obtain ⟨d0, d1, df, dz⟩ := cells_at2 HQM.out
  go_wp2
  go_returns
  exact ⟨rfl, by go_grown⟩
end Go.Proofs.YtgbhhjdmochhpaaGreatDoor
