/-
  The law's box, by walks. Conditions: none. By an AI agent.
-/
import Derived.Test.YtpjdmjmgkdgfnaaMeshYP
namespace Go.Proofs.Ytpjdmjmgkdgfnaa
open Go Go.RowKit
set_option linter.unusedVariables false
set_option linter.unusedSimpArgs false
set_option maxRecDepth 100000

theorem box_flat : flV boxF 12 = (#[.int .i64 0, .int .i64 2, .int .i64 3, .int .i64 0, .int .i64 3, .int .i64 1, .int .i64 4, .int .i64 5, .int .i64 7, .int .i64 4, .int .i64 7, .int .i64 6, .int .i64 0, .int .i64 1, .int .i64 5, .int .i64 0, .int .i64 5, .int .i64 4, .int .i64 2, .int .i64 6, .int .i64 7, .int .i64 2, .int .i64 7, .int .i64 3, .int .i64 0, .int .i64 4, .int .i64 6, .int .i64 0, .int .i64 6, .int .i64 2, .int .i64 1, .int .i64 3, .int .i64 7, .int .i64 1, .int .i64 7, .int .i64 5] : Array Value).toList := by
  simp [flV, boxF]
theorem row_of_heap {w : World} {g n : Nat} {xs : Array Value} {T : TypeId} {F : Nat → V} (h : w.heap[g]? = some (.cells xs T)) (hx : flV F n = xs.toList) (hn : n ≤ 9223372036854775807) : RowAt w (.slice (some ⟨g, 0, none⟩) n n) n F := by
  refine ⟨some ⟨g, 0, none⟩, n, rfl, Nat.le_refl _, hn, fun h0 => ⟨g, 0, rfl, (Array.getElem?_eq_some_iff.1 h).1, fun i j hi hj => ?_⟩⟩
  have h1 := flV_at F n i j hi hj
  rw [hx] at h1
  rw [show 0 + (i * 3 + j) = i * 3 + j by omega, cell_of_row w g _ xs T (0, 0) h]
  simpa using h1
theorem box_good {x s : V} (hx : -999 ≤ x.1 ∧ x.1 ≤ 999) (hy : -999 ≤ x.2.1 ∧ x.2.1 ≤ 999) (hz : -999 ≤ x.2.2 ∧ x.2.2 ≤ 999) (ha : 1 ≤ s.1 ∧ s.1 ≤ 1000) (hb : 1 ≤ s.2.1 ∧ s.2.1 ≤ 1000) (hc : 1 ≤ s.2.2 ∧ s.2.2 ≤ 1000) : Good 8 (boxP x s) 12 boxF where
  n1 := by decide
  n2 := by decide
  ins := fun i hi => by
    obtain ⟨p0, p1, p2, p3, p4, p5, p6, p7⟩ := box_pt x s
    unfold InB
    match i, hi with
    | 0, _ => rw [p0]; omega
    | 1, _ => rw [p1]; dsimp only; omega
    | 2, _ => rw [p2]; dsimp only; omega
    | 3, _ => rw [p3]; dsimp only; omega
    | 4, _ => rw [p4]; dsimp only; omega
    | 5, _ => rw [p5]; dsimp only; omega
    | 6, _ => rw [p6]; dsimp only; omega
    | 7, _ => rw [p7]; dsimp only; omega
  idx := by decide
  closed := box_closed
  pos := by
    rw [box_vol]
    have h1 := Int.mul_pos (Int.mul_pos (show 0 < s.1 by omega) (show 0 < s.2.1 by omega)) (show 0 < s.2.2 by omega)
    omega

set_option maxHeartbeats 4000000 in
theorem box_any (x y z p q r : Int) (w : World) (hx : -999 ≤ x ∧ x ≤ 999) (hy : -999 ≤ y ∧ y ≤ 999) (hz : -999 ≤ z ∧ z ≤ 999) (hp : 1 ≤ p ∧ p ≤ 1000) (hq : 1 ≤ q ∧ q ≤ 1000) (hr : 1 ≤ r ∧ r ≤ 1000) :
    Calls Try.prog 25 #[.agg #[.int .i64 x, .int .i64 y, .int .i64 z], .agg #[.int .i64 p, .int .i64 q, .int .i64 r]] w fun e w' => ∃ v, e = .returned v ∧ MAt w' v 8 (boxP (x, y, z) (p, q, r)) 12 boxF ∧ Below w.heap.size w w' := by
  obtain ⟨BP, hBP⟩ : ∃ P, boxP (x, y, z) (p, q, r) = P := ⟨_, rfl⟩
  have HBP := Lib.hid hBP
  have HB6 := Lib.hid (And.intro hx (And.intro hy (And.intro hz (And.intro hp (And.intro hq hr)))))
  rw [hBP]
  clear hBP hx hy hz hp hq hr
  obtain ⟨i0, hi0, hz00, hz01, hz02⟩ := infoR_parts info_vec
  have hu0 : Try.prog.underlying 22 = some (.slice 40) := Try.underlying22
  go_enter Try.func25, Try.ntmps25
  go_wp2
  go_loopw [6] (fun t wr => ∃ (i : Nat) (ol : Option Addr) (cl : Nat), i ≤ 8 ∧ t = .int .i64 i ∧ Hid (wr.heap[w.heap.size + 1 + 1 + 1]? = some (.cells #[.slice ol i cl, .slice none 0 0] 25)) ∧ Hid (wr.ownsRow (w.heap.size + 1 + 1 + 1 + 1) 40 3 (.slice ol i cl) i (flV BP i)) ∧ wr.cell? ⟨w.heap.size, 0, none⟩ = some (.int .i64 x) ∧ wr.cell? ⟨w.heap.size, 1, none⟩ = some (.int .i64 y) ∧ wr.cell? ⟨w.heap.size, 2, none⟩ = some (.int .i64 z) ∧ wr.cell? ⟨w.heap.size + 1, 0, none⟩ = some (.int .i64 p) ∧ wr.cell? ⟨w.heap.size + 1, 1, none⟩ = some (.int .i64 q) ∧ wr.cell? ⟨w.heap.size + 1, 2, none⟩ = some (.int .i64 r) ∧ Hid (wr.heap[w.heap.size + 1 + 1]? = some (.cells #[.slice none 0 0, .slice none 0 0] 25)) ∧ w.heap.size + 1 + 1 + 1 < wr.heap.size ∧ Below w.heap.size w wr) (fun t _ => 8 - (intOf t).toNat)
  case atStart =>
    refine ⟨0, none, 0, by omega, rfl, ?_, World.ownsRow_nil _ _ _ _, by simp [go_sem], by simp [go_sem], by simp [go_sem], by simp [go_sem], by simp [go_sem], by simp [go_sem], ?_, by simp <;> omega, by go_grown⟩
    · exact heapA_at _ _ _ (by simp)
    · exact (heapA_old _ _ _ (by simp)).trans (heapA_at _ _ _ (by simp))
  case round =>
    obtain ⟨w1, rfl⟩ : ∃ x : World, x = wr := ⟨_, rfl⟩
    obtain ⟨i, ol, cl, hi, rfl, HOUT, HO, a0, a1, a2, s0, s1, s2, HRS, zo1, hBw1⟩ := hrel
    obtain ⟨o0, o1, of1, os1⟩ := cells_at2 HOUT.out
    have z0 : w.heap.size < w1.heap.size := by omega
    have z1 : w.heap.size + 1 < w1.heap.size := by omega
    by_cases hlt : i < 8
    · obtain ⟨hx, hy, hz, hp, hq, hr⟩ := HB6.out
      have t1 : ((i : Int)).tmod 2 = ((i % 2 : Nat) : Int) := by rw [Int.tmod_eq_emod_of_nonneg (by omega)]; omega
      have t2 : ((i : Int)).tdiv 2 = ((i / 2 : Nat) : Int) := by rw [Int.tdiv_eq_ediv_of_nonneg (by omega)]; omega
      have t3 : (((i / 2 : Nat) : Int)).tmod 2 = ((i / 2 % 2 : Nat) : Int) := by rw [Int.tmod_eq_emod_of_nonneg (by omega)]; omega
      have t4 : ((i : Int)).tdiv 4 = ((i / 4 : Nat) : Int) := by rw [Int.tdiv_eq_ediv_of_nonneg (by omega)]; omega
      obtain ⟨r1, hr1⟩ : ∃ r : Nat, i % 2 = r := ⟨_, rfl⟩
      obtain ⟨r2, hr2⟩ : ∃ r : Nat, i / 2 = r := ⟨_, rfl⟩
      obtain ⟨r4, hr4⟩ : ∃ r : Nat, i / 4 = r := ⟨_, rfl⟩
      obtain ⟨r3, hr3⟩ : ∃ r : Nat, i / 2 % 2 = r := ⟨_, rfl⟩
      have l1 : r1 ≤ 1 := by omega
      have l3 : r3 ≤ 1 := by omega
      have l4 : r4 ≤ 1 := by omega
      have l2 : r2 ≤ 3 := by omega
      obtain ⟨X, hX⟩ : ∃ X, x + (r1 : Int) * p = X := ⟨_, rfl⟩
      obtain ⟨Y, hY⟩ : ∃ X, y + (r3 : Int) * q = X := ⟨_, rfl⟩
      obtain ⟨Z, hZ⟩ : ∃ X, z + (r4 : Int) * r = X := ⟨_, rfl⟩
      have HPI : Hid (flV BP i ++ [.int .i64 X, .int .i64 Y, .int .i64 Z] = flV BP (i + 1)) := by
        show _ = _
        rw [flV, ← HBP.out, ← hX, ← hY, ← hZ, ← hr1, ← hr3, ← hr4]
        rfl
      rw [hr1] at t1
      rw [hr2] at t2
      rw [hr3, hr2] at t3
      rw [hr4] at t4
      have m1 : (r1 : Int) * p ≤ 1000 ∧ 0 ≤ (r1 : Int) * p := by rcases (by omega : r1 = 0 ∨ r1 = 1) with h | h <;> subst h <;> simp <;> omega
      have m3 : (r3 : Int) * q ≤ 1000 ∧ 0 ≤ (r3 : Int) * q := by rcases (by omega : r3 = 0 ∨ r3 = 1) with h | h <;> subst h <;> simp <;> omega
      have m4 : (r4 : Int) * r ≤ 1000 ∧ 0 ≤ (r4 : Int) * r := by rcases (by omega : r4 = 0 ∨ r4 = 1) with h | h <;> subst h <;> simp <;> omega
      have u1 : IntKind.i64.wrap (r1 : Int) = (r1 : Int) := IntWalk.i64_in _ (by omega)
      have u2 : IntKind.i64.wrap (r2 : Int) = (r2 : Int) := IntWalk.i64_in _ (by omega)
      have u3 : IntKind.i64.wrap (r3 : Int) = (r3 : Int) := IntWalk.i64_in _ (by omega)
      have u4 : IntKind.i64.wrap (r4 : Int) = (r4 : Int) := IntWalk.i64_in _ (by omega)
      have v1 : IntKind.i64.wrap ((r1 : Int) * p) = (r1 : Int) * p := IntWalk.i64_in _ (by omega)
      have v3 : IntKind.i64.wrap ((r3 : Int) * q) = (r3 : Int) * q := IntWalk.i64_in _ (by omega)
      have v4 : IntKind.i64.wrap ((r4 : Int) * r) = (r4 : Int) * r := IntWalk.i64_in _ (by omega)
      have y1 : IntKind.i64.wrap (x + (r1 : Int) * p) = X := by rw [hX]; exact IntWalk.i64_in _ (by omega)
      have y3 : IntKind.i64.wrap (y + (r3 : Int) * q) = Y := by rw [hY]; exact IntWalk.i64_in _ (by omega)
      have y4 : IntKind.i64.wrap (z + (r4 : Int) * r) = Z := by rw [hZ]; exact IntWalk.i64_in _ (by omega)
      have k0 : (0 : Int) ≤ (i : Int) := by omega
      have k1 : (i : Int) < 8 := by omega
      clear hr1 hr2 hr3 hr4 hX hY hZ m1 m3 m4 hx hy hz hp hq hr l1 l2 l3 l4
      go_wp2_with (at_builtin; refine wpList_append2 rfl _ _ 22 rfl (w.heap.size + 1 + 1 + 1 + 1) 40 i0 _ 3 24 hu0 hi0 hz00 hz01 hz02 rfl (by decide) _ i (flV BP i) rfl (owns_on HO.out (by go_grown)) (some ⟨w1.heap.size, 0, none⟩) 1 1 [.int .i64 X, .int .i64 Y, .int .i64 Z] rfl rfl (fun h => by cases h) ?d2 (ints3_one _ _ _) (by unfold maxLen; omega) (by omega) ?d6 ?_)
      case d2 => exact row3_cells (heapA_at _ _ _ rfl)
      case d6 => simp <;> omega
      intro v' w6 hown hgrow hnew
      have hnb : ∀ b, b < w.heap.size + 1 + 1 + 1 + 1 → some b ≠ (Value.slice ol i cl).ownBlock := fun b hb => owns_low HO.out hb
      have hs6 := hgrow.size
      simp only [World.size_alloc] at hs6
      have hB6 : Below w.heap.size w w6 := Below.grown (by go_grown) hgrow (by simp <;> omega) (fun g hg => by
        rcases Nat.lt_or_ge g (w.heap.size + 1 + 1 + 1 + 1) with h' | h'
        · exact absurd hg.symm (hnb _ h')
        · omega)
      have kp : ∀ b, b < w.heap.size + 1 + 1 + 1 + 1 → w6.heap[b]? = w1.heap[b]? := fun b hb => (hgrow.block _ (by simp <;> omega) (hnb _ hb)).trans (heapA_old _ _ _ (by omega))
      have kc : ∀ b o, b < w.heap.size + 1 + 1 + 1 + 1 → w6.cell? ⟨b, o, none⟩ = w1.cell? ⟨b, o, none⟩ := fun b o hb => by
        unfold World.cell?
        dsimp only
        rw [kp b hb]
      have HOUT6 : Hid (w6.heap[w.heap.size + 1 + 1 + 1]? = some (.cells #[.slice ol i cl, .slice none 0 0] 25)) := (kp _ (by omega)).trans HOUT.out
      have HRS6 : Hid (w6.heap[w.heap.size + 1 + 1]? = some (.cells #[.slice none 0 0, .slice none 0 0] 25)) := (kp _ (by omega)).trans HRS.out
      have a0w6 : w6.cell? ⟨w.heap.size, 0, none⟩ = some (.int .i64 x) := (kc (w.heap.size) 0 (by omega)).trans a0
      have a1w6 : w6.cell? ⟨w.heap.size, 1, none⟩ = some (.int .i64 y) := (kc (w.heap.size) 1 (by omega)).trans a1
      have a2w6 : w6.cell? ⟨w.heap.size, 2, none⟩ = some (.int .i64 z) := (kc (w.heap.size) 2 (by omega)).trans a2
      have s0w6 : w6.cell? ⟨w.heap.size + 1, 0, none⟩ = some (.int .i64 p) := (kc (w.heap.size + 1) 0 (by omega)).trans s0
      have s1w6 : w6.cell? ⟨w.heap.size + 1, 1, none⟩ = some (.int .i64 q) := (kc (w.heap.size + 1) 1 (by omega)).trans s1
      have s2w6 : w6.cell? ⟨w.heap.size + 1, 2, none⟩ = some (.int .i64 r) := (kc (w.heap.size + 1) 2 (by omega)).trans s2
      have hown := HPI.out ▸ hown
      obtain ⟨o5, c5, rfl, -, -, -⟩ := (owns_R (F := BP) hown).form
      have HOX := Lib.hid hown
      have HNX : Hid (∀ b, b < w.heap.size + 1 + 1 + 1 + 1 → some b ≠ (Value.slice o5 (i + 1) c5).ownBlock) := fun b hb => owns_low HOX.out hb
      obtain ⟨p0, p1, pf, ps⟩ := cells_at2 HOUT6.out
      have HBW := Lib.hid hB6
      clear hown hgrow hnew hnb kp kc hB6 a0 a1 a2 s0 s1 s2 o0 o1 of1
      go_wp2
      go_roundw
      case rel =>
        refine ⟨i + 1, o5, c5, by omega, by go_num, ?_, owns_kept HOX.out (by simp) (fun g hg => heapS_other _ _ _ _ _ (fun e => HNX.out g (by omega) hg.symm)), by simp [go_sem, *], by simp [go_sem, *], by simp [go_sem, *], by simp [go_sem, *], by simp [go_sem, *], by simp [go_sem, *], (heapS_other _ _ _ _ _ (by omega)).trans HRS6.out, by simp <;> omega, by have h := HBW.out; go_grown⟩
        show _ = _
        rw [heapS_same, HOUT6.out]
        rfl
      case measure => simp [intOf]; omega
    · obtain rfl : i = 8 := by omega
      obtain ⟨r0, r1, rf, rs'⟩ := cells_at2 HRS.out
      have HL := Lib.hid (owns_R HO.out)
      have HN1 : Hid (some (w.heap.size + 1 + 1 + 1) ≠ (Value.slice ol 8 cl).ownBlock) := owns_low HO.out (by omega)
      have HN2 : Hid (some (w.heap.size + 1 + 1) ≠ (Value.slice ol 8 cl).ownBlock) := owns_low HO.out (by omega)
      clear a0 a1 a2 s0 s1 s2
      go_wp2
      all_goals (refine bodyPost_ret (v := .agg #[.slice ol 8 cl, .slice (some ⟨w1.heap.size, 0, none⟩) 12 12]) (by simp (maxDischargeDepth := 9) [results, Try.results25, go_sem, *]) rfl ?_)
      refine ⟨_, rfl, ⟨_, _, rfl, ((((HL.out.set 1 _ HN1.out).set 0 _ HN2.out).set 1 _ HN2.out).below ((Below.refl _ _).alloc (Nat.le_refl _) _)), ?_⟩, by go_grown⟩
      exact row_of_heap (heapA_at _ _ _ (by simp)) box_flat (by decide)
end Go.Proofs.Ytpjdmjmgkdgfnaa
