/-
  The reference's Moment24, by walks. Conditions: none. By an AI agent.
-/
import Derived.Test.YtpjdmjmgkdgfnaaMeshM
namespace Go.Proofs.Ytpjdmjmgkdgfnaa
open Go Go.RowKit
set_option linter.unusedVariables false
set_option linter.unusedSimpArgs false
set_option maxRecDepth 100000

theorem wrap3 {p q r : Int} (hp : -1048576 ≤ p ∧ p ≤ 1048576) (hq : -1048576 ≤ q ∧ q ≤ 1048576) (hr : -1048576 ≤ r ∧ r ≤ 1048576) : IntKind.i64.wrap (p + q) = p + q ∧ IntKind.i64.wrap (p + q + r) = p + q + r ∧ -3145728 ≤ p + q + r ∧ p + q + r ≤ 3145728 :=
  ⟨IntWalk.i64_in _ (by omega), IntWalk.i64_in _ (by omega), by omega, by omega⟩
theorem i64_of {d B : Int} (h : -B ≤ d ∧ d ≤ B) (hB : B ≤ 6917529027641081856) : -9223372036854775808 ≤ d ∧ d < 9223372036854775808 := by omega
theorem sum_ok {a d : Int} (ha : -44565841414273689896368472064 ≤ a ∧ a ≤ 44565841414273689896368472064) (hd : -(6917529027641081856 * 3145728) ≤ d ∧ d ≤ 6917529027641081856 * 3145728) : (a.natAbs : Int) < 115792089237316195423570985008687907853269984665640564039457584007913129639936 ∧ (d.natAbs : Int) < 115792089237316195423570985008687907853269984665640564039457584007913129639936 ∧ ((a + d).natAbs : Int) < 115792089237316195423570985008687907853269984665640564039457584007913129639936 := by
  refine ⟨?_, ?_, ?_⟩ <;> omega
theorem mom_step {np : Nat} {P F : Nat → V} (c : Nat) {j nf : Nat} (hin : ∀ i, i < np → InB 1048576 (P i)) (hix : ∀ j, j < nf → idxB np (F j) = true) (hj : j < nf) (hn : nf ≤ 2048) : -44565841414273689896368472064 ≤ momF c P F j ∧ momF c P F j ≤ 44565841414273689896368472064 :=
  mom_bd c hin (fun i hi => hix i (by omega)) (by omega)
/-- three Wides -/
def l3 (a b c : Int) : Array Value := (w5 a ++ w5 b ++ w5 c).toArray
theorem lC_3 (f : Nat → Int) : lC f 3 = l3 (f 0) (f 1) (f 2) := rfl
theorem l3_size (a b c : Int) : (l3 a b c).size = 15 := rfl
theorem l3_at0 {w : World} {k : Nat} {a0 a1 a2 : Int} {T : TypeId} (h : w.heap[k]? = some (.cells (l3 a0 a1 a2) T)) : w.cell? ⟨k, 0, none⟩ = some (.bool (decide (a0 < 0))) ∧ w.cell? ⟨k, 1, none⟩ = some (.int .u64 (wdF a0 0)) ∧ w.cell? ⟨k, 2, none⟩ = some (.int .u64 (wdF a0 1)) ∧ w.cell? ⟨k, 3, none⟩ = some (.int .u64 (wdF a0 2)) ∧ w.cell? ⟨k, 4, none⟩ = some (.int .u64 (wdF a0 3)) :=
  ⟨cell_of_row w k 0 _ T (0, 0) h, cell_of_row w k 1 _ T (0, 0) h, cell_of_row w k 2 _ T (0, 0) h, cell_of_row w k 3 _ T (0, 0) h, cell_of_row w k 4 _ T (0, 0) h⟩
theorem l3_set0 (a0 a1 a2 x : Int) : ((l3 a0 a1 a2).toList.take 0 ++ (#[.bool (decide (x < 0)), .int .u64 (wdF x 0), .int .u64 (wdF x 1), .int .u64 (wdF x 2), .int .u64 (wdF x 3)] : Array Value).toList ++ (l3 a0 a1 a2).toList.drop (0 + 5)).toArray = l3 x a1 a2 := rfl
theorem l3_at1 {w : World} {k : Nat} {a0 a1 a2 : Int} {T : TypeId} (h : w.heap[k]? = some (.cells (l3 a0 a1 a2) T)) : w.cell? ⟨k, 5, none⟩ = some (.bool (decide (a1 < 0))) ∧ w.cell? ⟨k, 6, none⟩ = some (.int .u64 (wdF a1 0)) ∧ w.cell? ⟨k, 7, none⟩ = some (.int .u64 (wdF a1 1)) ∧ w.cell? ⟨k, 8, none⟩ = some (.int .u64 (wdF a1 2)) ∧ w.cell? ⟨k, 9, none⟩ = some (.int .u64 (wdF a1 3)) :=
  ⟨cell_of_row w k 5 _ T (0, 0) h, cell_of_row w k 6 _ T (0, 0) h, cell_of_row w k 7 _ T (0, 0) h, cell_of_row w k 8 _ T (0, 0) h, cell_of_row w k 9 _ T (0, 0) h⟩
theorem l3_set1 (a0 a1 a2 x : Int) : ((l3 a0 a1 a2).toList.take 5 ++ (#[.bool (decide (x < 0)), .int .u64 (wdF x 0), .int .u64 (wdF x 1), .int .u64 (wdF x 2), .int .u64 (wdF x 3)] : Array Value).toList ++ (l3 a0 a1 a2).toList.drop (5 + 5)).toArray = l3 a0 x a2 := rfl
theorem l3_at2 {w : World} {k : Nat} {a0 a1 a2 : Int} {T : TypeId} (h : w.heap[k]? = some (.cells (l3 a0 a1 a2) T)) : w.cell? ⟨k, 10, none⟩ = some (.bool (decide (a2 < 0))) ∧ w.cell? ⟨k, 11, none⟩ = some (.int .u64 (wdF a2 0)) ∧ w.cell? ⟨k, 12, none⟩ = some (.int .u64 (wdF a2 1)) ∧ w.cell? ⟨k, 13, none⟩ = some (.int .u64 (wdF a2 2)) ∧ w.cell? ⟨k, 14, none⟩ = some (.int .u64 (wdF a2 3)) :=
  ⟨cell_of_row w k 10 _ T (0, 0) h, cell_of_row w k 11 _ T (0, 0) h, cell_of_row w k 12 _ T (0, 0) h, cell_of_row w k 13 _ T (0, 0) h, cell_of_row w k 14 _ T (0, 0) h⟩
theorem l3_set2 (a0 a1 a2 x : Int) : ((l3 a0 a1 a2).toList.take 10 ++ (#[.bool (decide (x < 0)), .int .u64 (wdF x 0), .int .u64 (wdF x 1), .int .u64 (wdF x 2), .int .u64 (wdF x 3)] : Array Value).toList ++ (l3 a0 a1 a2).toList.drop (10 + 5)).toArray = l3 a0 a1 x := rfl

set_option maxHeartbeats 8000000 in
theorem rMoment24_any (v : Value) (np nf : Nat) (P F : Nat → V) (w : World) (h : MAt w v np P nf F) :
    Calls Try.prog 18 #[v] w fun e w' => e = .returned (.tuple #[.agg (lC (mom24 np P nf F) 3), .int .i64 (checkM np P nf F)]) ∧ Below w.heap.size w w' := by
  have HM := Lib.hid h
  obtain ⟨g0, hg0⟩ : ∃ g : Nat → Int, g = fun _ => 0 := ⟨_, rfl⟩
  have HG0 := Lib.hid hg0
  obtain ⟨vp, vf, rfl, g1, g2⟩ := h
  obtain ⟨op, cp, rfl, -, -, help⟩ := g1.form
  obtain ⟨of', cf, rfl, hnf, hcf, hel⟩ := g2.form
  have HEL := Lib.hid hel
  have HEP := Lib.hid help
  obtain ⟨E, hE⟩ : ∃ E, checkM np P nf F = E := ⟨_, rfl⟩
  have HE := Lib.hid hE
  obtain ⟨f, hf⟩ : ∃ f, mom24 np P nf F = f := ⟨_, rfl⟩
  rw [hE, hf]
  by_cases h0 : E = 0
  · subst h0
    have HG : Hid (Good np P nf F) := check_iff.1 HE.out
    have HFF : Hid (∀ c, momF c P F nf = f c) := fun c => by rw [← hf]; unfold mom24; rw [if_pos hE]
    have HIN := Lib.hid HG.out.ins
    have HIX := Lib.hid HG.out.ix
    have hn2 := HG.out.n2
    clear hE hf g1 g2 hel help hg0
    go_enter Try.func18, Try.ntmps18
    go_wp2_with fail
    (go_at_call 14; refine (rCheck_any _ np nf P F _ (HM.out.below (by first | assumption | go_grown))).mono ?_; rintro e_ w1 ⟨rfl, hb⟩)
    have hsw1 := hb.size
    (try simp only [World.size_alloc, World.size_setCell] at hsw1)
    have zzw1 : w.heap.size < w1.heap.size := by omega
    have hPw1 : Below w.heap.size w w1 := below_step (w := w) (by first | exact Below.refl _ _ | go_grown) hb
    have zmw1 : w.heap.size < w1.heap.size := by omega
    have m0w1 : w1.cell? ⟨w.heap.size, 0, none⟩ = some (.slice op np cp) := (hb.cell (p := ⟨_, _, none⟩) (by simp <;> omega)).trans (by simp [go_sem])
    have m1w1 : w1.cell? ⟨w.heap.size, 1, none⟩ = some (.slice of' nf cf) := (hb.cell (p := ⟨_, _, none⟩) (by simp <;> omega)).trans (by simp [go_sem])
    have hBw1 : Below w.heap.size w w1 := below_step (w := w) (by first | assumption | go_grown) hb
    rw [HE.out]
    have HL1 : Hid (w1.heap[w.heap.size + 1 + 1]? = some (.cells (lC g0 0) 36)) := by
      show _ = _
      rw [hb.block (w.heap.size + 1 + 1) (by simp), lC_0]
      exact heapA_at _ _ _ (by simp)
    have HR1 : Hid (w1.heap[w.heap.size + 1]? = some (.cells (lC g0 0) 36)) := by
      show _ = _
      rw [hb.block (w.heap.size + 1) (by simp), lC_0]
      exact (heapA_old _ _ _ (by simp)).trans (heapA_at _ _ _ (by simp))
    have zrw1 : w.heap.size + 1 + 1 < w1.heap.size := by
      have := hb.size
      simp only [World.size_alloc] at this
      omega
    clear hb hsw1 hPw1
    go_wp2
    go_loopw [6] (fun i wr => ∃ j : Nat, j ≤ nf ∧ i = .int .i64 j ∧ Hid (wr.heap[w.heap.size + 1 + 1]? = some (.cells (l3 (momF 0 P F j) (momF 1 P F j) (momF 2 P F j)) 36)) ∧ Hid (wr.heap[w.heap.size + 1]? = some (.cells (lC g0 0) 36)) ∧ wr.cell? ⟨w.heap.size, 0, none⟩ = some (.slice op np cp) ∧ wr.cell? ⟨w.heap.size, 1, none⟩ = some (.slice of' nf cf) ∧ w.heap.size + 1 + 1 < wr.heap.size ∧ Below w.heap.size w wr) (fun i _ => nf - (intOf i).toNat)
    case atStart => exact ⟨0, by omega, rfl, HL1, HR1, m0w1, m1w1, zrw1, hBw1⟩
    case round =>
      clear m0w1 m1w1 zmw1 hBw1 HL1 HR1 zrw1
      obtain ⟨w2, rfl⟩ : ∃ x : World, x = wr := ⟨_, rfl⟩
      obtain ⟨j, hj, rfl, HL, HRw2, m0, m1, ztw2, hBw2⟩ := hrel
      have zzw2 : w.heap.size < w2.heap.size := by omega
      by_cases hlt : j < nf
      · obtain ⟨ia, ib, ic, hF, hia, hib, hic⟩ := idxB_nat (HIX.out j hlt)
        obtain ⟨b1, f1, rfl, hbl1, hcl1⟩ := HEL.out j hlt
        have c0 : w2.cell? ⟨b1, f1 + j * 3, none⟩ = some (.int .i64 (F j).1) := (hBw2.cell (p := ⟨_, _, none⟩) hbl1).trans (hcl1 j hlt).1
        have c1 : w2.cell? ⟨b1, f1 + j * 3 + 1, none⟩ = some (.int .i64 (F j).2.1) := (hBw2.cell (p := ⟨_, _, none⟩) hbl1).trans (hcl1 j hlt).2.1
        have c2 : w2.cell? ⟨b1, f1 + j * 3 + 2, none⟩ = some (.int .i64 (F j).2.2) := (hBw2.cell (p := ⟨_, _, none⟩) hbl1).trans (hcl1 j hlt).2.2
        rw [hF] at c0 c1 c2
        dsimp only at c0 c1 c2
        have hbr : b1 < w2.heap.size := by omega
        obtain ⟨b2, f2, rfl, hbl2, hcl2⟩ := HEP.out ia hia
        obtain ⟨px, pxE⟩ : ∃ x, (P ia).1 = x := ⟨_, rfl⟩
        obtain ⟨py, pyE⟩ : ∃ x, (P ia).2.1 = x := ⟨_, rfl⟩
        obtain ⟨pz, pzE⟩ : ∃ x, (P ia).2.2 = x := ⟨_, rfl⟩
        obtain ⟨qx, qxE⟩ : ∃ x, (P ib).1 = x := ⟨_, rfl⟩
        obtain ⟨qy, qyE⟩ : ∃ x, (P ib).2.1 = x := ⟨_, rfl⟩
        obtain ⟨qz, qzE⟩ : ∃ x, (P ib).2.2 = x := ⟨_, rfl⟩
        obtain ⟨rx, rxE⟩ : ∃ x, (P ic).1 = x := ⟨_, rfl⟩
        obtain ⟨ry, ryE⟩ : ∃ x, (P ic).2.1 = x := ⟨_, rfl⟩
        obtain ⟨rz, rzE⟩ : ∃ x, (P ic).2.2 = x := ⟨_, rfl⟩
        have epx : w2.cell? ⟨b2, f2 + ia * 3, none⟩ = some (.int .i64 px) := (hBw2.cell (p := ⟨_, _, none⟩) hbl2).trans ((hcl2 ia hia).1.trans (by rw [pxE]))
        have epy : w2.cell? ⟨b2, f2 + ia * 3 + 1, none⟩ = some (.int .i64 py) := (hBw2.cell (p := ⟨_, _, none⟩) hbl2).trans ((hcl2 ia hia).2.1.trans (by rw [pyE]))
        have epz : w2.cell? ⟨b2, f2 + ia * 3 + 2, none⟩ = some (.int .i64 pz) := (hBw2.cell (p := ⟨_, _, none⟩) hbl2).trans ((hcl2 ia hia).2.2.trans (by rw [pzE]))
        have eqx : w2.cell? ⟨b2, f2 + ib * 3, none⟩ = some (.int .i64 qx) := (hBw2.cell (p := ⟨_, _, none⟩) hbl2).trans ((hcl2 ib hib).1.trans (by rw [qxE]))
        have eqy : w2.cell? ⟨b2, f2 + ib * 3 + 1, none⟩ = some (.int .i64 qy) := (hBw2.cell (p := ⟨_, _, none⟩) hbl2).trans ((hcl2 ib hib).2.1.trans (by rw [qyE]))
        have eqz : w2.cell? ⟨b2, f2 + ib * 3 + 2, none⟩ = some (.int .i64 qz) := (hBw2.cell (p := ⟨_, _, none⟩) hbl2).trans ((hcl2 ib hib).2.2.trans (by rw [qzE]))
        have erx : w2.cell? ⟨b2, f2 + ic * 3, none⟩ = some (.int .i64 rx) := (hBw2.cell (p := ⟨_, _, none⟩) hbl2).trans ((hcl2 ic hic).1.trans (by rw [rxE]))
        have ery : w2.cell? ⟨b2, f2 + ic * 3 + 1, none⟩ = some (.int .i64 ry) := (hBw2.cell (p := ⟨_, _, none⟩) hbl2).trans ((hcl2 ic hic).2.1.trans (by rw [ryE]))
        have erz : w2.cell? ⟨b2, f2 + ic * 3 + 2, none⟩ = some (.int .i64 rz) := (hBw2.cell (p := ⟨_, _, none⟩) hbl2).trans ((hcl2 ic hic).2.2.trans (by rw [rzE]))
        have hpx : -1048576 ≤ px ∧ px ≤ 1048576 := by rw [← pxE]; have := HIN.out ia hia; unfold InB at this; omega
        have hpy : -1048576 ≤ py ∧ py ≤ 1048576 := by rw [← pyE]; have := HIN.out ia hia; unfold InB at this; omega
        have hpz : -1048576 ≤ pz ∧ pz ≤ 1048576 := by rw [← pzE]; have := HIN.out ia hia; unfold InB at this; omega
        have hqx : -1048576 ≤ qx ∧ qx ≤ 1048576 := by rw [← qxE]; have := HIN.out ib hib; unfold InB at this; omega
        have hqy : -1048576 ≤ qy ∧ qy ≤ 1048576 := by rw [← qyE]; have := HIN.out ib hib; unfold InB at this; omega
        have hqz : -1048576 ≤ qz ∧ qz ≤ 1048576 := by rw [← qzE]; have := HIN.out ib hib; unfold InB at this; omega
        have hrx : -1048576 ≤ rx ∧ rx ≤ 1048576 := by rw [← rxE]; have := HIN.out ic hic; unfold InB at this; omega
        have hry : -1048576 ≤ ry ∧ ry ≤ 1048576 := by rw [← ryE]; have := HIN.out ic hic; unfold InB at this; omega
        have hrz : -1048576 ≤ rz ∧ rz ≤ 1048576 := by rw [← rzE]; have := HIN.out ic hic; unfold InB at this; omega
        have hbr2 : b2 < w2.heap.size := by omega
        have k0 : (0 : Int) ≤ (j : Int) := by omega
        have k1 : (j : Int) < (nf : Int) := by omega
        have nn0 : (0 : Int) ≤ (ia : Int) := by omega
        have nn1 : (ia : Int) < (np : Int) := by omega
        have nn2 : (0 : Int) ≤ (ib : Int) := by omega
        have nn3 : (ib : Int) < (np : Int) := by omega
        have nn4 : (0 : Int) ≤ (ic : Int) := by omega
        have nn5 : (ic : Int) < (np : Int) := by omega
        obtain ⟨D, hD⟩ : ∃ d, detV (P ia) (P ib) (P ic) = d := ⟨_, rfl⟩
        have hDb : -6917529027641081856 ≤ D ∧ D ≤ 6917529027641081856 := by have := fdet_bd HIN.out (HIX.out j hlt); rw [hF, fdet_nat, hD] at this; exact this
        have HDET : Hid (∀ W, Calls Try.prog 27 #[.agg #[.int .i64 px, .int .i64 py, .int .i64 pz], .agg #[.int .i64 qx, .int .i64 qy, .int .i64 qz], .agg #[.int .i64 rx, .int .i64 ry, .int .i64 rz]] W fun e w' => e = .returned (.int .i64 D) ∧ Below W.heap.size W w') := by
          show ∀ W, _
          intro W
          have h := rDet_pt (P ia) (P ib) (P ic) W (HIN.out ia hia) (HIN.out ib hib) (HIN.out ic hic)
          rw [hD, pxE, pyE, pzE, qxE, qyE, qzE, rxE, ryE, rzE] at h
          exact h
        have HF := Lib.hid hF
        have HD := Lib.hid hD
        have HDB := Lib.hid hDb
        have HPBx := Lib.hid (And.intro hpx (And.intro hqx (And.intro hrx (And.intro pxE (And.intro qxE rxE)))))
        have HPBy := Lib.hid (And.intro hpy (And.intro hqy (And.intro hry (And.intro pyE (And.intro qyE ryE)))))
        have HPBz := Lib.hid (And.intro hpz (And.intro hqz (And.intro hrz (And.intro pzE (And.intro qzE rzE)))))
        clear hpx hpy hpz hqx hqy hqz hrx hry hrz hcl1 hcl2 hD hDb pxE pyE pzE qxE qyE qzE rxE ryE rzE hF
        go_wp2_with fail
        refine wp_region_seq 24 [⟨18, 21, #[.int .i64 0, .int .i64 0, .int .i64 0], 40⟩, ⟨19, 22, #[.int .i64 0, .int .i64 0, .int .i64 0], 40⟩, ⟨20, 23, #[.int .i64 0, .int .i64 0, .int .i64 0], 40⟩] [] (by kernel_rfl) (by kernel_rfl) (by kernel_rfl) (by kernel_rfl) (by kernel_rfl) ?_ ?_ ?_
        · intro r hr; cases hr
        · intro r hr; cases hr
        simp only [List.take_succ_cons, List.take_zero, fillL, Act.put, List.setIfInBounds_toArray, List.set_cons_zero, List.set_cons_succ]
        apply seq_is (by kernel_rfl)
        · intro u wx hb hd
          replace hb := hb.nil
          have hz := hb.size
          (try simp only [World.size_alloc, World.size_setCell] at hz)
          have hz0 : w.heap.size < wx.heap.size := by omega
          have hz1 : w2.heap.size < wx.heap.size := by omega
          have hz2 : b2 < wx.heap.size := by omega
          obtain ⟨hc, hf⟩ := bcell hb
          clear hb hz
          simp [depsE, Region.binds, updE, kindOf, Prp.is, Prp.any] at hd
          go_simp
          first | exact ⟨Below.refl _ _, rfl⟩ | rfl
        apply seq_is (by kernel_rfl)
        · intro u wx hb hd
          replace hb := hb.nil
          have hz := hb.size
          (try simp only [World.size_alloc, World.size_setCell] at hz)
          have hz0 : w.heap.size < wx.heap.size := by omega
          have hz1 : w2.heap.size < wx.heap.size := by omega
          have hz2 : b2 < wx.heap.size := by omega
          obtain ⟨hc, hf⟩ := bcell hb
          clear hb hz
          simp [depsE, Region.binds, updE, kindOf, Prp.is, Prp.any] at hd
          go_simp
          first | exact ⟨Below.refl _ _, rfl⟩ | rfl
        apply seq_is (by kernel_rfl)
        · intro u wx hb hd
          replace hb := hb.nil
          have hz := hb.size
          (try simp only [World.size_alloc, World.size_setCell] at hz)
          have hz0 : w.heap.size < wx.heap.size := by omega
          have hz1 : w2.heap.size < wx.heap.size := by omega
          have hz2 : b2 < wx.heap.size := by omega
          obtain ⟨hc, hf⟩ := bcell hb
          clear hb hz
          simp [depsE, Region.binds, updE, kindOf, Prp.is, Prp.any] at hd
          go_simp
          first | exact ⟨Below.refl _ _, rfl⟩ | rfl
        apply seq_is (by kernel_rfl)
        · intro u wx hb hd
          replace hb := hb.nil
          have hz := hb.size
          (try simp only [World.size_alloc, World.size_setCell] at hz)
          have hz0 : w.heap.size < wx.heap.size := by omega
          have hz1 : w2.heap.size < wx.heap.size := by omega
          have hz2 : b2 < wx.heap.size := by omega
          obtain ⟨hc, hf⟩ := bcell hb
          clear hb hz
          simp [depsE, Region.binds, updE, kindOf, Prp.is, Prp.any] at hd
          go_simp
          first | exact ⟨Below.refl _ _, rfl⟩ | rfl
        apply seq_is (by kernel_rfl)
        · intro u wx hb hd
          replace hb := hb.nil
          have hz := hb.size
          (try simp only [World.size_alloc, World.size_setCell] at hz)
          have hz0 : w.heap.size < wx.heap.size := by omega
          have hz1 : w2.heap.size < wx.heap.size := by omega
          have hz2 : b2 < wx.heap.size := by omega
          obtain ⟨hc, hf⟩ := bcell hb
          clear hb hz
          simp [depsE, Region.binds, updE, kindOf, Prp.is, Prp.any] at hd
          go_simp
          first | exact ⟨Below.refl _ _, rfl⟩ | rfl
        apply seq_is (by kernel_rfl)
        · intro u wx hb hd
          replace hb := hb.nil
          have hz := hb.size
          (try simp only [World.size_alloc, World.size_setCell] at hz)
          have hz0 : w.heap.size < wx.heap.size := by omega
          have hz1 : w2.heap.size < wx.heap.size := by omega
          have hz2 : b2 < wx.heap.size := by omega
          obtain ⟨hc, hf⟩ := bcell hb
          clear hb hz
          simp [depsE, Region.binds, updE, kindOf, Prp.is, Prp.any] at hd
          go_simp
          first | exact ⟨Below.refl _ _, rfl⟩ | rfl
        apply seq_is (by kernel_rfl)
        · intro u wx hb hd
          replace hb := hb.nil
          have hz := hb.size
          (try simp only [World.size_alloc, World.size_setCell] at hz)
          have hz0 : w.heap.size < wx.heap.size := by omega
          have hz1 : w2.heap.size < wx.heap.size := by omega
          have hz2 : b2 < wx.heap.size := by omega
          obtain ⟨hc, hf⟩ := bcell hb
          clear hb hz
          simp [depsE, Region.binds, updE, kindOf, Prp.is, Prp.any] at hd
          go_simp
          first | exact ⟨Below.refl _ _, rfl⟩ | rfl
        apply seq_is (by kernel_rfl)
        · intro u wx hb hd
          replace hb := hb.nil
          have hz := hb.size
          (try simp only [World.size_alloc, World.size_setCell] at hz)
          have hz0 : w.heap.size < wx.heap.size := by omega
          have hz1 : w2.heap.size < wx.heap.size := by omega
          have hz2 : b2 < wx.heap.size := by omega
          obtain ⟨hc, hf⟩ := bcell hb
          clear hb hz
          simp [depsE, Region.binds, updE, kindOf, Prp.is, Prp.any] at hd
          go_simp
          first | exact ⟨Below.refl _ _, rfl⟩ | rfl
        apply seq_is (by kernel_rfl)
        · intro u wx hb hd
          replace hb := hb.nil
          have hz := hb.size
          (try simp only [World.size_alloc, World.size_setCell] at hz)
          have hz0 : w.heap.size < wx.heap.size := by omega
          have hz1 : w2.heap.size < wx.heap.size := by omega
          have hz2 : b2 < wx.heap.size := by omega
          obtain ⟨hc, hf⟩ := bcell hb
          clear hb hz
          simp [depsE, Region.binds, updE, kindOf, Prp.is, Prp.any] at hd
          go_simp
          first | exact ⟨Below.refl _ _, rfl⟩ | rfl
        apply seq_is (by kernel_rfl)
        · intro u wx hb hd
          replace hb := hb.nil
          have hz := hb.size
          (try simp only [World.size_alloc, World.size_setCell] at hz)
          have hz0 : w.heap.size < wx.heap.size := by omega
          have hz1 : w2.heap.size < wx.heap.size := by omega
          have hz2 : b2 < wx.heap.size := by omega
          obtain ⟨hc, hf⟩ := bcell hb
          clear hb hz
          simp [depsE, Region.binds, updE, kindOf, Prp.is, Prp.any] at hd
          go_simp
          first | exact ⟨Below.refl _ _, rfl⟩ | rfl
        apply seq_is (by kernel_rfl)
        · intro u wx hb hd
          replace hb := hb.nil
          have hz := hb.size
          (try simp only [World.size_alloc, World.size_setCell] at hz)
          have hz0 : w.heap.size < wx.heap.size := by omega
          have hz1 : w2.heap.size < wx.heap.size := by omega
          have hz2 : b2 < wx.heap.size := by omega
          obtain ⟨hc, hf⟩ := bcell hb
          clear hb hz
          simp [depsE, Region.binds, updE, kindOf, Prp.is, Prp.any] at hd
          go_simp
          first | exact ⟨Below.refl _ _, rfl⟩ | rfl
        apply seq_is (by kernel_rfl)
        · intro u wx hb hd
          replace hb := hb.nil
          have hz := hb.size
          (try simp only [World.size_alloc, World.size_setCell] at hz)
          have hz0 : w.heap.size < wx.heap.size := by omega
          have hz1 : w2.heap.size < wx.heap.size := by omega
          have hz2 : b2 < wx.heap.size := by omega
          obtain ⟨hc, hf⟩ := bcell hb
          clear hb hz
          simp [depsE, Region.binds, updE, kindOf, Prp.is, Prp.any] at hd
          go_simp
          first | exact ⟨Below.refl _ _, rfl⟩ | rfl
        apply seq_is (by kernel_rfl)
        · intro u wx hb hd
          replace hb := hb.nil
          have hz := hb.size
          (try simp only [World.size_alloc, World.size_setCell] at hz)
          have hz0 : w.heap.size < wx.heap.size := by omega
          have hz1 : w2.heap.size < wx.heap.size := by omega
          have hz2 : b2 < wx.heap.size := by omega
          obtain ⟨hc, hf⟩ := bcell hb
          clear hb hz
          simp [depsE, Region.binds, updE, kindOf, Prp.is, Prp.any] at hd
          go_simp
          first | exact ⟨Below.refl _ _, rfl⟩ | rfl
        apply seq_is (by kernel_rfl)
        · intro u wx hb hd
          replace hb := hb.nil
          have hz := hb.size
          (try simp only [World.size_alloc, World.size_setCell] at hz)
          have hz0 : w.heap.size < wx.heap.size := by omega
          have hz1 : w2.heap.size < wx.heap.size := by omega
          have hz2 : b2 < wx.heap.size := by omega
          obtain ⟨hc, hf⟩ := bcell hb
          clear hb hz
          simp [depsE, Region.binds, updE, kindOf, Prp.is, Prp.any] at hd
          go_simp
          first | exact ⟨Below.refl _ _, rfl⟩ | rfl
        apply seq_is (by kernel_rfl)
        · intro u wx hb hd
          replace hb := hb.nil
          have hz := hb.size
          (try simp only [World.size_alloc, World.size_setCell] at hz)
          have hz0 : w.heap.size < wx.heap.size := by omega
          have hz1 : w2.heap.size < wx.heap.size := by omega
          have hz2 : b2 < wx.heap.size := by omega
          obtain ⟨hc, hf⟩ := bcell hb
          clear hb hz
          simp [depsE, Region.binds, updE, kindOf, Prp.is, Prp.any] at hd
          go_simp
          first | exact ⟨Below.refl _ _, rfl⟩ | rfl
        apply seq_is (by kernel_rfl)
        · intro u wx hb hd
          replace hb := hb.nil
          have hz := hb.size
          (try simp only [World.size_alloc, World.size_setCell] at hz)
          have hz0 : w.heap.size < wx.heap.size := by omega
          have hz1 : w2.heap.size < wx.heap.size := by omega
          have hz2 : b2 < wx.heap.size := by omega
          obtain ⟨hc, hf⟩ := bcell hb
          clear hb hz
          simp [depsE, Region.binds, updE, kindOf, Prp.is, Prp.any] at hd
          go_simp
          first | exact ⟨Below.refl _ _, rfl⟩ | rfl
        apply seq_is (by kernel_rfl)
        · intro u wx hb hd
          replace hb := hb.nil
          have hz := hb.size
          (try simp only [World.size_alloc, World.size_setCell] at hz)
          have hz0 : w.heap.size < wx.heap.size := by omega
          have hz1 : w2.heap.size < wx.heap.size := by omega
          have hz2 : b2 < wx.heap.size := by omega
          obtain ⟨hc, hf⟩ := bcell hb
          clear hb hz
          simp [depsE, Region.binds, updE, kindOf, Prp.is, Prp.any] at hd
          go_simp
          first | exact ⟨Below.refl _ _, rfl⟩ | rfl
        apply seq_is (by kernel_rfl)
        · intro u wx hb hd
          replace hb := hb.nil
          have hz := hb.size
          (try simp only [World.size_alloc, World.size_setCell] at hz)
          have hz0 : w.heap.size < wx.heap.size := by omega
          have hz1 : w2.heap.size < wx.heap.size := by omega
          have hz2 : b2 < wx.heap.size := by omega
          obtain ⟨hc, hf⟩ := bcell hb
          clear hb hz
          simp [depsE, Region.binds, updE, kindOf, Prp.is, Prp.any] at hd
          go_simp
          first | exact ⟨Below.refl _ _, rfl⟩ | rfl
        refine seq_var ⟨18, 21, #[.int .i64 0, .int .i64 0, .int .i64 0], 40⟩ (by simp) rfl ?_ ?_
        · intro u wx hb
          refine ⟨by simp [Region.wanted], ?_⟩
          go_simp
          first | done | rfl | exact ⟨rfl, rfl⟩
        refine seq_var ⟨19, 22, #[.int .i64 0, .int .i64 0, .int .i64 0], 40⟩ (by simp) rfl ?_ ?_
        · intro u wx hb
          refine ⟨by simp [Region.wanted], ?_⟩
          go_simp
          first | done | rfl | exact ⟨rfl, rfl⟩
        refine seq_var ⟨20, 23, #[.int .i64 0, .int .i64 0, .int .i64 0], 40⟩ (by simp) rfl ?_ ?_
        · intro u wx hb
          refine ⟨by simp [Region.wanted], ?_⟩
          go_simp
          first | done | rfl | exact ⟨rfl, rfl⟩
        apply seq_sto_agg ⟨18, 21, #[.int .i64 0, .int .i64 0, .int .i64 0], 40⟩ (by simp) rfl (by kernel_rfl) rfl (by kernel_rfl)
        · intro u wx hb hd
          replace hb := hb.nil
          have hz := hb.size
          (try simp only [World.size_alloc, World.size_setCell] at hz)
          have hz0 : w.heap.size < wx.heap.size := by omega
          have hz1 : w2.heap.size < wx.heap.size := by omega
          have hz2 : b2 < wx.heap.size := by omega
          obtain ⟨hc, hf⟩ := bcell hb
          clear hb hz
          simp [depsE, Region.binds, updE, kindOf, Prp.is, Prp.any] at hd
          refine ⟨by simp [Region.wanted], fun b' hub hlb hcells => ?_⟩
          have hub' : u 18 = .pointer (some ⟨b', 0, none⟩) := hub
          have hcells' : wx.heap[b']? = some (.cells #[.int .i64 0, .int .i64 0, .int .i64 0] 40) := hcells
          have hat := cells_at3 hcells'
          have HCL := Lib.hid hcells'
          clear hcells hcells' hub
          go_simp
          exact Stored.c3 HCL.out _ _ _
        apply seq_sto_agg ⟨19, 22, #[.int .i64 0, .int .i64 0, .int .i64 0], 40⟩ (by simp) rfl (by kernel_rfl) rfl (by kernel_rfl)
        · intro u wx hb hd
          replace hb := hb.nil
          have hz := hb.size
          (try simp only [World.size_alloc, World.size_setCell] at hz)
          have hz0 : w.heap.size < wx.heap.size := by omega
          have hz1 : w2.heap.size < wx.heap.size := by omega
          have hz2 : b2 < wx.heap.size := by omega
          obtain ⟨hc, hf⟩ := bcell hb
          clear hb hz
          simp [depsE, Region.binds, updE, kindOf, Prp.is, Prp.any] at hd
          refine ⟨by simp [Region.wanted], fun b' hub hlb hcells => ?_⟩
          have hub' : u 19 = .pointer (some ⟨b', 0, none⟩) := hub
          have hcells' : wx.heap[b']? = some (.cells #[.int .i64 0, .int .i64 0, .int .i64 0] 40) := hcells
          have hat := cells_at3 hcells'
          have HCL := Lib.hid hcells'
          clear hcells hcells' hub
          go_simp
          exact Stored.c3 HCL.out _ _ _
        apply seq_sto_agg ⟨20, 23, #[.int .i64 0, .int .i64 0, .int .i64 0], 40⟩ (by simp) rfl (by kernel_rfl) rfl (by kernel_rfl)
        · intro u wx hb hd
          replace hb := hb.nil
          have hz := hb.size
          (try simp only [World.size_alloc, World.size_setCell] at hz)
          have hz0 : w.heap.size < wx.heap.size := by omega
          have hz1 : w2.heap.size < wx.heap.size := by omega
          have hz2 : b2 < wx.heap.size := by omega
          obtain ⟨hc, hf⟩ := bcell hb
          clear hb hz
          simp [depsE, Region.binds, updE, kindOf, Prp.is, Prp.any] at hd
          refine ⟨by simp [Region.wanted], fun b' hub hlb hcells => ?_⟩
          have hub' : u 20 = .pointer (some ⟨b', 0, none⟩) := hub
          have hcells' : wx.heap[b']? = some (.cells #[.int .i64 0, .int .i64 0, .int .i64 0] 40) := hcells
          have hat := cells_at3 hcells'
          have HCL := Lib.hid hcells'
          clear hcells hcells' hub
          go_simp
          exact Stored.c3 HCL.out _ _ _
        intro u w5 hb hE hV hP
        replace hb := hb.nil
        clear hP
        have e0 : u 0 = _ := endE_get hE 0 (by decide) (by simp [kindOf])
        have e1 : u 1 = _ := endE_get hE 1 (by decide) (by simp [kindOf])
        have e2 : u 2 = _ := endE_get hE 2 (by decide) (by simp [kindOf])
        have e3 : u 3 = _ := endE_get hE 3 (by decide) (by simp [kindOf])
        have e4 : u 4 = _ := endE_get hE 4 (by decide) (by simp [kindOf])
        have e5 : u 5 = _ := endE_get hE 5 (by decide) (by simp [kindOf])
        have e6 : u 6 = _ := endE_get hE 6 (by decide) (by simp [kindOf])
        have e7 : u 7 = _ := endE_get hE 7 (by decide) (by simp [kindOf])
        have e8 : u 8 = _ := endE_get hE 8 (by decide) (by simp [kindOf])
        have e9 : u 9 = _ := endE_get hE 9 (by decide) (by simp [kindOf])
        have e10 : u 10 = _ := endE_get hE 10 (by decide) (by simp [kindOf])
        have e11 : u 11 = _ := endE_get hE 11 (by decide) (by simp [kindOf])
        have e12 : u 12 = _ := endE_get hE 12 (by decide) (by simp [kindOf])
        have e13 : u 13 = _ := endE_get hE 13 (by decide) (by simp [kindOf])
        have e14 : u 14 = _ := endE_get hE 14 (by decide) (by simp [kindOf])
        have e15 : u 15 = _ := endE_get hE 15 (by decide) (by simp [kindOf])
        have e16 : u 16 = _ := endE_get hE 16 (by decide) (by simp [kindOf])
        have e17 : u 17 = _ := endE_get hE 17 (by decide) (by simp [kindOf])
        have e21 : u 21 = _ := endE_get hE 21 (by decide) (by simp [kindOf])
        have e22 : u 22 = _ := endE_get hE 22 (by decide) (by simp [kindOf])
        have e23 : u 23 = _ := endE_get hE 23 (by decide) (by simp [kindOf])
        obtain ⟨⟨V0, pv0, lv0, qv0⟩, ⟨nq01, nq02, -⟩, ⟨⟨V1, pv1, lv1, qv1⟩, ⟨nq12, -⟩, ⟨⟨V2, pv2, lv2, qv2⟩, -, -⟩⟩⟩ := hV
        replace qv0 : w5.heap[V0]? = some (.cells (u 21).cells 40) := qv0
        rw [e21] at qv0
        replace pv0 : u 18 = .pointer (some ⟨V0, 0, none⟩) := pv0
        obtain ⟨mV00, mV01, mV02, mfV0, msV0⟩ := cells_at3 qv0
        have HQV0 := Lib.hid qv0
        clear qv0
        replace qv1 : w5.heap[V1]? = some (.cells (u 22).cells 40) := qv1
        rw [e22] at qv1
        replace pv1 : u 19 = .pointer (some ⟨V1, 0, none⟩) := pv1
        obtain ⟨mV10, mV11, mV12, mfV1, msV1⟩ := cells_at3 qv1
        have HQV1 := Lib.hid qv1
        clear qv1
        replace qv2 : w5.heap[V2]? = some (.cells (u 23).cells 40) := qv2
        rw [e23] at qv2
        replace pv2 : u 20 = .pointer (some ⟨V2, 0, none⟩) := pv2
        obtain ⟨mV20, mV21, mV22, mfV2, msV2⟩ := cells_at3 qv2
        have HQV2 := Lib.hid qv2
        clear qv2
        have dV0V1 : V0 ≠ V1 := fun e => nq01 (by show u _ = u _; rw [pv0, pv1, e])
        clear nq01
        have dV0V2 : V0 ≠ V2 := fun e => nq02 (by show u _ = u _; rw [pv0, pv2, e])
        clear nq02
        have dV1V2 : V1 ≠ V2 := fun e => nq12 (by show u _ = u _; rw [pv1, pv2, e])
        clear nq12
        (try simp only [World.size_alloc, World.size_setCell] at lv0)
        have dV0w50 : V0 ≠ w.heap.size := by omega
        have dV0w51 : V0 ≠ w2.heap.size := by omega
        have dV0w52 : V0 ≠ b2 := by omega
        (try have lbV0 : w2.heap.size ≤ V0 := by omega)
        clear lv0
        (try simp only [World.size_alloc, World.size_setCell] at lv1)
        have dV1w50 : V1 ≠ w.heap.size := by omega
        have dV1w51 : V1 ≠ w2.heap.size := by omega
        have dV1w52 : V1 ≠ b2 := by omega
        (try have lbV1 : w2.heap.size ≤ V1 := by omega)
        clear lv1
        (try simp only [World.size_alloc, World.size_setCell] at lv2)
        have dV2w50 : V2 ≠ w.heap.size := by omega
        have dV2w51 : V2 ≠ w2.heap.size := by omega
        have dV2w52 : V2 ≠ b2 := by omega
        (try have lbV2 : w2.heap.size ≤ V2 := by omega)
        clear lv2
        simp only [List.drop_succ_cons, List.drop_zero, List.take_succ_cons, List.take_zero, fillL, Act.put, List.setIfInBounds_toArray, List.set_cons_zero, List.set_cons_succ, e0, e1, e2, e3, e4, e5, e6, e7, e8, e9, e10, e11, e12, e13, e14, e15, e16, e17, e21, e22, e23, pv0, pv1, pv2]
        clear e0 e1 e2 e3 e4 e5 e6 e7 e8 e9 e10 e11 e12 e13 e14 e15 e16 e17 e21 e22 e23 pv0 pv1 pv2 hE
        have HBWw5 := Lib.hid hb
        have hw5 := below_step (w := w2) (by first | assumption | go_grown) hb
        have hzw5 := hb.size
        (try simp only [World.size_alloc, World.size_setCell] at hzw5)
        have hzw50 : w.heap.size < w5.heap.size := by omega
        have hzw51 : w2.heap.size < w5.heap.size := by omega
        have hzw52 : b2 < w5.heap.size := by omega
        have HHw5 := Lib.hid hb.block
        obtain ⟨hcw5, hfw5⟩ := bcell hb
        clear hb hzw5
        have hB5 : Below w.heap.size w w5 := below_step hBw2 hw5
        have zzw5 : w.heap.size < w5.heap.size := by omega
        have ztw5 : w.heap.size + 1 + 1 < w5.heap.size := by have := hw5.size; omega
        have zV0w5 : V0 < w5.heap.size := msV0
        have zV1w5 : V1 < w5.heap.size := msV1
        have zV2w5 : V2 < w5.heap.size := msV2
        have dV0w5T : V0 ≠ w.heap.size + 1 + 1 := by omega
        have dV1w5T : V1 ≠ w.heap.size + 1 + 1 := by omega
        have dV2w5T : V2 ≠ w.heap.size + 1 + 1 := by omega
        have HL5 : Hid (w5.heap[w.heap.size + 1 + 1]? = some (.cells (l3 (momF 0 P F j) (momF 1 P F j) (momF 2 P F j)) 36)) := (hw5.block _ ztw2).trans HL.out
        have HRw5 : Hid (w5.heap[w.heap.size + 1]? = some (.cells (lC g0 0) 36)) := (hw5.block _ (by omega)).trans HRw2.out
        have g0w5 := (hw5.cell (p := ⟨w.heap.size, 0, none⟩) zzw2).trans m0
        have g1w5 := (hw5.cell (p := ⟨w.heap.size, 1, none⟩) zzw2).trans m1
        have mV00w5 := mV00
        have mV01w5 := mV01
        have mV02w5 := mV02
        have mV10w5 := mV10
        have mV11w5 := mV11
        have mV12w5 := mV12
        have mV20w5 := mV20
        have mV21w5 := mV21
        have mV22w5 := mV22
        clear c0 c1 c2 epx epy epz eqx eqy eqz erx ery erz k0 k1 nn0 nn1 nn2 nn3 nn4 nn5 m0 m1 HRw2 mV00 mV01 mV02 mV10 mV11 mV12 mV20 mV21 mV22
        go_wp2_with fail
        (go_at_call 27; refine (HDET.out _).mono ?_; rintro e_ w6 ⟨rfl, hb⟩)
        have hb6 : Below w5.heap.size w5 w6 := hb
        have hs6 := hb6.size
        have zzw6 : w.heap.size < w6.heap.size := by omega
        have ztw6 : w.heap.size + 1 + 1 < w6.heap.size := by omega
        have zV0w6 : V0 < w6.heap.size := by omega
        have zV1w6 : V1 < w6.heap.size := by omega
        have zV2w6 : V2 < w6.heap.size := by omega
        have mV00w6 : w6.cell? ⟨V0, 0, none⟩ = some (.int .i64 px) := (hb6.cell (p := ⟨_, _, none⟩) zV0w5).trans mV00w5
        have mV01w6 : w6.cell? ⟨V0, 1, none⟩ = some (.int .i64 py) := (hb6.cell (p := ⟨_, _, none⟩) zV0w5).trans mV01w5
        have mV02w6 : w6.cell? ⟨V0, 2, none⟩ = some (.int .i64 pz) := (hb6.cell (p := ⟨_, _, none⟩) zV0w5).trans mV02w5
        have mV10w6 : w6.cell? ⟨V1, 0, none⟩ = some (.int .i64 qx) := (hb6.cell (p := ⟨_, _, none⟩) zV1w5).trans mV10w5
        have mV11w6 : w6.cell? ⟨V1, 1, none⟩ = some (.int .i64 qy) := (hb6.cell (p := ⟨_, _, none⟩) zV1w5).trans mV11w5
        have mV12w6 : w6.cell? ⟨V1, 2, none⟩ = some (.int .i64 qz) := (hb6.cell (p := ⟨_, _, none⟩) zV1w5).trans mV12w5
        have mV20w6 : w6.cell? ⟨V2, 0, none⟩ = some (.int .i64 rx) := (hb6.cell (p := ⟨_, _, none⟩) zV2w5).trans mV20w5
        have mV21w6 : w6.cell? ⟨V2, 1, none⟩ = some (.int .i64 ry) := (hb6.cell (p := ⟨_, _, none⟩) zV2w5).trans mV21w5
        have mV22w6 : w6.cell? ⟨V2, 2, none⟩ = some (.int .i64 rz) := (hb6.cell (p := ⟨_, _, none⟩) zV2w5).trans mV22w5
        have g0w6 : w6.cell? ⟨w.heap.size, 0, none⟩ = some (.slice (some ⟨b2, f2, none⟩) np cp) := (hb6.cell (p := ⟨_, _, none⟩) zzw5).trans g0w5
        have g1w6 : w6.cell? ⟨w.heap.size, 1, none⟩ = some (.slice (some ⟨b1, f1, none⟩) nf cf) := (hb6.cell (p := ⟨_, _, none⟩) zzw5).trans g1w5
        have HRw6 : Hid (w6.heap[w.heap.size + 1]? = some (.cells (lC g0 0) 36)) := (hb6.block _ (by omega)).trans HRw5.out
        clear mV00w5 mV01w5 mV02w5 mV10w5 mV11w5 mV12w5 mV20w5 mV21w5 mV22w5 g0w5 g1w5 HRw5
        have HL6 : Hid (w6.heap[w.heap.size + 1 + 1]? = some (.cells (l3 (momF 0 P F j) (momF 1 P F j) (momF 2 P F j)) 36)) := (hb6.block _ ztw5).trans HL5.out
        have hB6 : Below w.heap.size w w6 := below_step hB5 hb6
        clear hb hb6 HL5
        have hpx := HPBx.out.1
        have hqx := HPBx.out.2.1
        have hrx := HPBx.out.2.2.1
        have hDb := HDB.out
        obtain ⟨s0, hs0⟩ : ∃ s, px + qx + rx = s := ⟨_, rfl⟩
        have us0 : IntKind.i64.wrap (px + qx) = px + qx := (wrap3 hpx hqx hrx).1
        have vs0 : IntKind.i64.wrap (px + qx + rx) = s0 := (wrap3 hpx hqx hrx).2.1.trans hs0
        have hsb0 : -3145728 ≤ s0 ∧ s0 ≤ 3145728 := hs0 ▸ (wrap3 hpx hqx hrx).2.2
        obtain ⟨a0, ha0⟩ : ∃ a, momF 0 P F j = a := ⟨_, rfl⟩
        have HA0 := Lib.hid ha0
        have hab0 := mom_step (F := F) 0 HIN.out HIX.out hlt hn2
        rw [ha0] at hab0
        have hdb0 := mul_bd (a := D) (b := s0) (C := 6917529027641081856) (D := 3145728) (by decide) (by decide) hDb.1 hDb.2 hsb0.1 hsb0.2
        obtain ⟨n0, hn0⟩ : ∃ a, a0 + D * s0 = a := ⟨_, rfl⟩
        have HN0 : Hid (momF 0 P F (j + 1) = n0) := by
          show _ = _
          rw [← hn0, ← ha0, show momF 0 P F (j + 1) = momF 0 P F j + fdet P (F j) * fsum 0 P (F j) from rfl, HF.out, fdet_nat, HD.out, ← hs0, ← HPBx.out.2.2.2.1, ← HPBx.out.2.2.2.2.1, ← HPBx.out.2.2.2.2.2]
          rfl
        have HPR0 : Hid (∀ W, Calls Try.prog 44 #[.int .i64 D, .int .i64 s0] W fun e w' => e = .returned (.agg #[.bool (decide (D * s0 < 0)), .int .u64 ((wdF (D * s0)) 0), .int .u64 ((wdF (D * s0)) 1), .int .u64 ((wdF (D * s0)) 2), .int .u64 ((wdF (D * s0)) 3)]) ∧ Below W.heap.size W w') := fun W => rproduct_wd D s0 W (i64_of hDb (by decide)) (i64_of hsb0 (by decide))
        have HSU0 : Hid (∀ W, Calls Try.prog 43 #[.agg #[.bool (decide (a0 < 0)), .int .u64 ((wdF (a0)) 0), .int .u64 ((wdF (a0)) 1), .int .u64 ((wdF (a0)) 2), .int .u64 ((wdF (a0)) 3)], .agg #[.bool (decide (D * s0 < 0)), .int .u64 ((wdF (D * s0)) 0), .int .u64 ((wdF (D * s0)) 1), .int .u64 ((wdF (D * s0)) 2), .int .u64 ((wdF (D * s0)) 3)]] W fun e w' => e = .returned (.agg #[.bool (decide (n0 < 0)), .int .u64 ((wdF (n0)) 0), .int .u64 ((wdF (n0)) 1), .int .u64 ((wdF (n0)) 2), .int .u64 ((wdF (n0)) 3)]) ∧ Below W.heap.size W w') := fun W => hn0 ▸ rsum_wd a0 (D * s0) W (sum_ok hab0 hdb0).1 (sum_ok hab0 hdb0).2.1 (sum_ok hab0 hdb0).2.2
        obtain ⟨t0, ht0⟩ : ∃ b, decide (a0 < 0) = b := ⟨_, rfl⟩
        obtain ⟨X0, hX0⟩ : ∃ b, wdF a0 = b := ⟨_, rfl⟩
        obtain ⟨y0, hy0⟩ : ∃ b, decide (D * s0 < 0) = b := ⟨_, rfl⟩
        obtain ⟨Y0, hY0⟩ : ∃ b, wdF (D * s0) = b := ⟨_, rfl⟩
        obtain ⟨z0, hz0⟩ : ∃ b, decide (n0 < 0) = b := ⟨_, rfl⟩
        obtain ⟨Z0, hZ0⟩ : ∃ b, wdF n0 = b := ⟨_, rfl⟩
        rw [hy0, hY0] at HPR0
        rw [ht0, hX0, hy0, hY0, hz0, hZ0] at HSU0
        have HT0 := Lib.hid ht0
        have HX0 := Lib.hid hX0
        have HZ0 := Lib.hid (And.intro hz0 hZ0)
        replace HL6 : Hid (w6.heap[w.heap.size + 1 + 1]? = some (.cells (l3 a0 (momF 1 P F j) (momF 2 P F j)) 36)) := by
          rw [← HA0.out]
          exact HL6
        clear hs0 hsb0 hab0 hdb0 hn0 ha0 ht0 hX0 hy0 hY0 hz0 hZ0 hpx hqx hrx hDb
        obtain ⟨l00, l01, l02, l03, l04⟩ := l3_at0 HL6.out
        rw [HT0.out] at l00
        rw [HX0.out] at l01
        rw [HX0.out] at l02
        rw [HX0.out] at l03
        rw [HX0.out] at l04
        clear HT0 HX0
        go_wp2_with fail
        refine wp_region_relw 14 (by kernel_rfl) (by kernel_rfl) (by kernel_rfl) ?_
        simp only [List.take_succ_cons, List.take_zero, fillL, Act.put, List.setIfInBounds_toArray, List.set_cons_zero, List.set_cons_succ]
        iterate 11
          apply rel_is
          · intro u wx hb hd
            have hz := hb.size
            (try simp only [World.size_alloc, World.size_setCell] at hz)
            have hz0 : w.heap.size + 1 + 1 < wx.heap.size := by omega
            have hz1 : V0 < wx.heap.size := by omega
            have hz2 : V1 < wx.heap.size := by omega
            have hz3 : V2 < wx.heap.size := by omega
            obtain ⟨hc, hf⟩ := bcell hb
            have HBX := Lib.hid hb
            clear hb hz
            simp [depsS, Region.binds, updS, Stay.is, Stay.any] at hd
            go_simp
            first | exact ⟨Below.refl _ _, rfl⟩ | rfl
        apply rel_is
        · intro u wx hb hd
          have hz := hb.size
          (try simp only [World.size_alloc, World.size_setCell] at hz)
          have hz0 : w.heap.size + 1 + 1 < wx.heap.size := by omega
          have hz1 : V0 < wx.heap.size := by omega
          have hz2 : V1 < wx.heap.size := by omega
          have hz3 : V2 < wx.heap.size := by omega
          obtain ⟨hc, hf⟩ := bcell hb
          have HBX := Lib.hid hb
          clear hb hz
          simp [depsS, Region.binds, updS, Stay.is, Stay.any] at hd
          go_simp
          first | rfl | (go_at_call 44; refine (HPR0.out _).mono ?_; rintro e w1 ⟨rfl, hb1⟩; first | exact ⟨rfl, hb1⟩ | exact ⟨_, rfl, hb1, rfl⟩)
        apply rel_is
        · intro u wx hb hd
          have hz := hb.size
          (try simp only [World.size_alloc, World.size_setCell] at hz)
          have hz0 : w.heap.size + 1 + 1 < wx.heap.size := by omega
          have hz1 : V0 < wx.heap.size := by omega
          have hz2 : V1 < wx.heap.size := by omega
          have hz3 : V2 < wx.heap.size := by omega
          obtain ⟨hc, hf⟩ := bcell hb
          have HBX := Lib.hid hb
          clear hb hz
          simp [depsS, Region.binds, updS, Stay.is, Stay.any] at hd
          go_simp
          first | rfl | (go_at_call 43; refine (HSU0.out _).mono ?_; rintro e w1 ⟨rfl, hb1⟩; first | exact ⟨rfl, hb1⟩ | exact ⟨_, rfl, hb1, rfl⟩)
        apply rel_is
        · intro u wx hb hd
          have hz := hb.size
          (try simp only [World.size_alloc, World.size_setCell] at hz)
          have hz0 : w.heap.size + 1 + 1 < wx.heap.size := by omega
          have hz1 : V0 < wx.heap.size := by omega
          have hz2 : V1 < wx.heap.size := by omega
          have hz3 : V2 < wx.heap.size := by omega
          obtain ⟨hc, hf⟩ := bcell hb
          have HBX := Lib.hid hb
          clear hb hz
          simp [depsS, Region.binds, updS, Stay.is, Stay.any] at hd
          go_simp
          first | exact ⟨Below.refl _ _, rfl⟩ | rfl
        intro u w7 hb hE
        have e0 : u 0 = _ := endS_get hE 0 (by decide)
        have e1 : u 1 = _ := endS_get hE 1 (by decide)
        have e2 : u 2 = _ := endS_get hE 2 (by decide)
        have e3 : u 3 = _ := endS_get hE 3 (by decide)
        have e4 : u 4 = _ := endS_get hE 4 (by decide)
        have e5 : u 5 = _ := endS_get hE 5 (by decide)
        have e6 : u 6 = _ := endS_get hE 6 (by decide)
        have e7 : u 7 = _ := endS_get hE 7 (by decide)
        have e8 : u 8 = _ := endS_get hE 8 (by decide)
        have e9 : u 9 = _ := endS_get hE 9 (by decide)
        have e10 : u 10 = _ := endS_get hE 10 (by decide)
        have e11 : u 11 = _ := endS_get hE 11 (by decide)
        have e12 : u 12 = _ := endS_get hE 12 (by decide)
        have e13 : u 13 = _ := endS_get hE 13 (by decide)
        simp only [List.drop_succ_cons, List.drop_zero, List.take_succ_cons, List.take_zero, fillL, Act.put, List.setIfInBounds_toArray, List.set_cons_zero, List.set_cons_succ, e0, e1, e2, e3, e4, e5, e6, e7, e8, e9, e10, e11, e12, e13]
        clear e0 e1 e2 e3 e4 e5 e6 e7 e8 e9 e10 e11 e12 e13 hE
        have HBw7 := Lib.hid (below_step (w := w6) (by first | assumption | go_grown) hb)
        have HBXw7 := Lib.hid hb
        have hzw7 := hb.size
        (try simp only [World.size_alloc, World.size_setCell] at hzw7)
        have hzw70 : w.heap.size + 1 + 1 < w7.heap.size := by omega
        have hzw71 : V0 < w7.heap.size := by omega
        have hzw72 : V1 < w7.heap.size := by omega
        have hzw73 : V2 < w7.heap.size := by omega
        obtain ⟨hcw7, hfw7⟩ := bcell hb
        clear hb hzw7
        have hsw7 := HBw7.out.size
        have zzw7 : w.heap.size < w7.heap.size := by omega
        have ztw7 : w.heap.size + 1 + 1 < w7.heap.size := by omega
        have zV0w7 : V0 < w7.heap.size := by omega
        have zV1w7 : V1 < w7.heap.size := by omega
        have zV2w7 : V2 < w7.heap.size := by omega
        have mV00w7 : w7.cell? ⟨V0, 0, none⟩ = some (.int .i64 px) := (HBw7.out.cell (p := ⟨_, _, none⟩) zV0w6).trans mV00w6
        have mV01w7 : w7.cell? ⟨V0, 1, none⟩ = some (.int .i64 py) := (HBw7.out.cell (p := ⟨_, _, none⟩) zV0w6).trans mV01w6
        have mV02w7 : w7.cell? ⟨V0, 2, none⟩ = some (.int .i64 pz) := (HBw7.out.cell (p := ⟨_, _, none⟩) zV0w6).trans mV02w6
        have mV10w7 : w7.cell? ⟨V1, 0, none⟩ = some (.int .i64 qx) := (HBw7.out.cell (p := ⟨_, _, none⟩) zV1w6).trans mV10w6
        have mV11w7 : w7.cell? ⟨V1, 1, none⟩ = some (.int .i64 qy) := (HBw7.out.cell (p := ⟨_, _, none⟩) zV1w6).trans mV11w6
        have mV12w7 : w7.cell? ⟨V1, 2, none⟩ = some (.int .i64 qz) := (HBw7.out.cell (p := ⟨_, _, none⟩) zV1w6).trans mV12w6
        have mV20w7 : w7.cell? ⟨V2, 0, none⟩ = some (.int .i64 rx) := (HBw7.out.cell (p := ⟨_, _, none⟩) zV2w6).trans mV20w6
        have mV21w7 : w7.cell? ⟨V2, 1, none⟩ = some (.int .i64 ry) := (HBw7.out.cell (p := ⟨_, _, none⟩) zV2w6).trans mV21w6
        have mV22w7 : w7.cell? ⟨V2, 2, none⟩ = some (.int .i64 rz) := (HBw7.out.cell (p := ⟨_, _, none⟩) zV2w6).trans mV22w6
        have g0w7 : w7.cell? ⟨w.heap.size, 0, none⟩ = some (.slice (some ⟨b2, f2, none⟩) np cp) := (HBw7.out.cell (p := ⟨_, _, none⟩) zzw6).trans g0w6
        have g1w7 : w7.cell? ⟨w.heap.size, 1, none⟩ = some (.slice (some ⟨b1, f1, none⟩) nf cf) := (HBw7.out.cell (p := ⟨_, _, none⟩) zzw6).trans g1w6
        have HRw7 : Hid (w7.heap[w.heap.size + 1]? = some (.cells (lC g0 0) 36)) := (HBw7.out.block _ (by omega)).trans HRw6.out
        clear mV00w6 mV01w6 mV02w6 mV10w6 mV11w6 mV12w6 mV20w6 mV21w6 mV22w6 g0w6 g1w6 HRw6
        have HL7 : Hid (w7.heap[w.heap.size + 1 + 1]? = some (.cells (l3 a0 (momF 1 P F j) (momF 2 P F j)) 36)) := (HBw7.out.block _ ztw6).trans HL6.out
        have hB7 : Below w.heap.size w w7 := below_step hB6 HBw7.out
        clear HL6 l00 l01 l02 l03 l04 HBw7
        go_wp2_with (first
          | (with_reducible refine wpList_store_part 33 (w.heap.size + 1 + 1) 0 5 #[.bool z0, .int .u64 (Z0 0), .int .u64 (Z0 1), .int .u64 (Z0 2), .int .u64 (Z0 3)] 36 _ wide_size (by simp [go_sem]) rfl rfl rfl HL7.out (by rw [l3_size]; decide) ?_; intro w8 hs)
          | fail)
        have hsw8 := hs.size
        have zzw8 : w.heap.size < w8.heap.size := by omega
        have ztw8 : w.heap.size + 1 + 1 < w8.heap.size := by omega
        have zV0w8 : V0 < w8.heap.size := by omega
        have zV1w8 : V1 < w8.heap.size := by omega
        have zV2w8 : V2 < w8.heap.size := by omega
        have mV00w8 : w8.cell? ⟨V0, 0, none⟩ = some (.int .i64 px) := (Stored.cell hs dV0w5T).trans mV00w7
        have mV01w8 : w8.cell? ⟨V0, 1, none⟩ = some (.int .i64 py) := (Stored.cell hs dV0w5T).trans mV01w7
        have mV02w8 : w8.cell? ⟨V0, 2, none⟩ = some (.int .i64 pz) := (Stored.cell hs dV0w5T).trans mV02w7
        have mV10w8 : w8.cell? ⟨V1, 0, none⟩ = some (.int .i64 qx) := (Stored.cell hs dV1w5T).trans mV10w7
        have mV11w8 : w8.cell? ⟨V1, 1, none⟩ = some (.int .i64 qy) := (Stored.cell hs dV1w5T).trans mV11w7
        have mV12w8 : w8.cell? ⟨V1, 2, none⟩ = some (.int .i64 qz) := (Stored.cell hs dV1w5T).trans mV12w7
        have mV20w8 : w8.cell? ⟨V2, 0, none⟩ = some (.int .i64 rx) := (Stored.cell hs dV2w5T).trans mV20w7
        have mV21w8 : w8.cell? ⟨V2, 1, none⟩ = some (.int .i64 ry) := (Stored.cell hs dV2w5T).trans mV21w7
        have mV22w8 : w8.cell? ⟨V2, 2, none⟩ = some (.int .i64 rz) := (Stored.cell hs dV2w5T).trans mV22w7
        have g0w8 : w8.cell? ⟨w.heap.size, 0, none⟩ = some (.slice (some ⟨b2, f2, none⟩) np cp) := (Stored.cell hs (by omega)).trans g0w7
        have g1w8 : w8.cell? ⟨w.heap.size, 1, none⟩ = some (.slice (some ⟨b1, f1, none⟩) nf cf) := (Stored.cell hs (by omega)).trans g1w7
        have HRw8 : Hid (w8.heap[w.heap.size + 1]? = some (.cells (lC g0 0) 36)) := (hs.other _ (by omega)).trans HRw7.out
        clear mV00w7 mV01w7 mV02w7 mV10w7 mV11w7 mV12w7 mV20w7 mV21w7 mV22w7 g0w7 g1w7 HRw7
        have HL8 : Hid (w8.heap[w.heap.size + 1 + 1]? = some (.cells (l3 n0 (momF 1 P F j) (momF 2 P F j)) 36)) := by
          show _ = _
          rw [hs.here, ← HZ0.out.1, ← HZ0.out.2]
          exact congrArg (fun a => some (Obj.cells a 36)) (l3_set0 a0 (momF 1 P F j) (momF 2 P F j) n0)
        have hB8 : Below w.heap.size w w8 := Stored.below hB7 hs (by omega)
        clear hs HL7
        have hpy := HPBy.out.1
        have hqy := HPBy.out.2.1
        have hry := HPBy.out.2.2.1
        have hDb := HDB.out
        obtain ⟨s1, hs1⟩ : ∃ s, py + qy + ry = s := ⟨_, rfl⟩
        have us1 : IntKind.i64.wrap (py + qy) = py + qy := (wrap3 hpy hqy hry).1
        have vs1 : IntKind.i64.wrap (py + qy + ry) = s1 := (wrap3 hpy hqy hry).2.1.trans hs1
        have hsb1 : -3145728 ≤ s1 ∧ s1 ≤ 3145728 := hs1 ▸ (wrap3 hpy hqy hry).2.2
        obtain ⟨a1, ha1⟩ : ∃ a, momF 1 P F j = a := ⟨_, rfl⟩
        have HA1 := Lib.hid ha1
        have hab1 := mom_step (F := F) 1 HIN.out HIX.out hlt hn2
        rw [ha1] at hab1
        have hdb1 := mul_bd (a := D) (b := s1) (C := 6917529027641081856) (D := 3145728) (by decide) (by decide) hDb.1 hDb.2 hsb1.1 hsb1.2
        obtain ⟨n1, hn1⟩ : ∃ a, a1 + D * s1 = a := ⟨_, rfl⟩
        have HN1 : Hid (momF 1 P F (j + 1) = n1) := by
          show _ = _
          rw [← hn1, ← ha1, show momF 1 P F (j + 1) = momF 1 P F j + fdet P (F j) * fsum 1 P (F j) from rfl, HF.out, fdet_nat, HD.out, ← hs1, ← HPBy.out.2.2.2.1, ← HPBy.out.2.2.2.2.1, ← HPBy.out.2.2.2.2.2]
          rfl
        have HPR1 : Hid (∀ W, Calls Try.prog 44 #[.int .i64 D, .int .i64 s1] W fun e w' => e = .returned (.agg #[.bool (decide (D * s1 < 0)), .int .u64 ((wdF (D * s1)) 0), .int .u64 ((wdF (D * s1)) 1), .int .u64 ((wdF (D * s1)) 2), .int .u64 ((wdF (D * s1)) 3)]) ∧ Below W.heap.size W w') := fun W => rproduct_wd D s1 W (i64_of hDb (by decide)) (i64_of hsb1 (by decide))
        have HSU1 : Hid (∀ W, Calls Try.prog 43 #[.agg #[.bool (decide (a1 < 0)), .int .u64 ((wdF (a1)) 0), .int .u64 ((wdF (a1)) 1), .int .u64 ((wdF (a1)) 2), .int .u64 ((wdF (a1)) 3)], .agg #[.bool (decide (D * s1 < 0)), .int .u64 ((wdF (D * s1)) 0), .int .u64 ((wdF (D * s1)) 1), .int .u64 ((wdF (D * s1)) 2), .int .u64 ((wdF (D * s1)) 3)]] W fun e w' => e = .returned (.agg #[.bool (decide (n1 < 0)), .int .u64 ((wdF (n1)) 0), .int .u64 ((wdF (n1)) 1), .int .u64 ((wdF (n1)) 2), .int .u64 ((wdF (n1)) 3)]) ∧ Below W.heap.size W w') := fun W => hn1 ▸ rsum_wd a1 (D * s1) W (sum_ok hab1 hdb1).1 (sum_ok hab1 hdb1).2.1 (sum_ok hab1 hdb1).2.2
        obtain ⟨t1, ht1⟩ : ∃ b, decide (a1 < 0) = b := ⟨_, rfl⟩
        obtain ⟨X1, hX1⟩ : ∃ b, wdF a1 = b := ⟨_, rfl⟩
        obtain ⟨y1, hy1⟩ : ∃ b, decide (D * s1 < 0) = b := ⟨_, rfl⟩
        obtain ⟨Y1, hY1⟩ : ∃ b, wdF (D * s1) = b := ⟨_, rfl⟩
        obtain ⟨z1, hz1⟩ : ∃ b, decide (n1 < 0) = b := ⟨_, rfl⟩
        obtain ⟨Z1, hZ1⟩ : ∃ b, wdF n1 = b := ⟨_, rfl⟩
        rw [hy1, hY1] at HPR1
        rw [ht1, hX1, hy1, hY1, hz1, hZ1] at HSU1
        have HT1 := Lib.hid ht1
        have HX1 := Lib.hid hX1
        have HZ1 := Lib.hid (And.intro hz1 hZ1)
        replace HL8 : Hid (w8.heap[w.heap.size + 1 + 1]? = some (.cells (l3 n0 a1 (momF 2 P F j)) 36)) := by
          rw [← HA1.out]
          exact HL8
        clear hs1 hsb1 hab1 hdb1 hn1 ha1 ht1 hX1 hy1 hY1 hz1 hZ1 hpy hqy hry hDb
        obtain ⟨l10, l11, l12, l13, l14⟩ := l3_at1 HL8.out
        rw [HT1.out] at l10
        rw [HX1.out] at l11
        rw [HX1.out] at l12
        rw [HX1.out] at l13
        rw [HX1.out] at l14
        clear HT1 HX1
        go_wp2_with fail
        refine wp_region_relw 14 (by kernel_rfl) (by kernel_rfl) (by kernel_rfl) ?_
        simp only [List.take_succ_cons, List.take_zero, fillL, Act.put, List.setIfInBounds_toArray, List.set_cons_zero, List.set_cons_succ]
        iterate 11
          apply rel_is
          · intro u wx hb hd
            have hz := hb.size
            (try simp only [World.size_alloc, World.size_setCell] at hz)
            have hz0 : w.heap.size + 1 + 1 < wx.heap.size := by omega
            have hz1 : V0 < wx.heap.size := by omega
            have hz2 : V1 < wx.heap.size := by omega
            have hz3 : V2 < wx.heap.size := by omega
            obtain ⟨hc, hf⟩ := bcell hb
            have HBX := Lib.hid hb
            clear hb hz
            simp [depsS, Region.binds, updS, Stay.is, Stay.any] at hd
            go_simp
            first | exact ⟨Below.refl _ _, rfl⟩ | rfl
        apply rel_is
        · intro u wx hb hd
          have hz := hb.size
          (try simp only [World.size_alloc, World.size_setCell] at hz)
          have hz0 : w.heap.size + 1 + 1 < wx.heap.size := by omega
          have hz1 : V0 < wx.heap.size := by omega
          have hz2 : V1 < wx.heap.size := by omega
          have hz3 : V2 < wx.heap.size := by omega
          obtain ⟨hc, hf⟩ := bcell hb
          have HBX := Lib.hid hb
          clear hb hz
          simp [depsS, Region.binds, updS, Stay.is, Stay.any] at hd
          go_simp
          first | rfl | (go_at_call 44; refine (HPR1.out _).mono ?_; rintro e w1 ⟨rfl, hb1⟩; first | exact ⟨rfl, hb1⟩ | exact ⟨_, rfl, hb1, rfl⟩)
        apply rel_is
        · intro u wx hb hd
          have hz := hb.size
          (try simp only [World.size_alloc, World.size_setCell] at hz)
          have hz0 : w.heap.size + 1 + 1 < wx.heap.size := by omega
          have hz1 : V0 < wx.heap.size := by omega
          have hz2 : V1 < wx.heap.size := by omega
          have hz3 : V2 < wx.heap.size := by omega
          obtain ⟨hc, hf⟩ := bcell hb
          have HBX := Lib.hid hb
          clear hb hz
          simp [depsS, Region.binds, updS, Stay.is, Stay.any] at hd
          go_simp
          first | rfl | (go_at_call 43; refine (HSU1.out _).mono ?_; rintro e w1 ⟨rfl, hb1⟩; first | exact ⟨rfl, hb1⟩ | exact ⟨_, rfl, hb1, rfl⟩)
        apply rel_is
        · intro u wx hb hd
          have hz := hb.size
          (try simp only [World.size_alloc, World.size_setCell] at hz)
          have hz0 : w.heap.size + 1 + 1 < wx.heap.size := by omega
          have hz1 : V0 < wx.heap.size := by omega
          have hz2 : V1 < wx.heap.size := by omega
          have hz3 : V2 < wx.heap.size := by omega
          obtain ⟨hc, hf⟩ := bcell hb
          have HBX := Lib.hid hb
          clear hb hz
          simp [depsS, Region.binds, updS, Stay.is, Stay.any] at hd
          go_simp
          first | exact ⟨Below.refl _ _, rfl⟩ | rfl
        intro u w9 hb hE
        have e0 : u 0 = _ := endS_get hE 0 (by decide)
        have e1 : u 1 = _ := endS_get hE 1 (by decide)
        have e2 : u 2 = _ := endS_get hE 2 (by decide)
        have e3 : u 3 = _ := endS_get hE 3 (by decide)
        have e4 : u 4 = _ := endS_get hE 4 (by decide)
        have e5 : u 5 = _ := endS_get hE 5 (by decide)
        have e6 : u 6 = _ := endS_get hE 6 (by decide)
        have e7 : u 7 = _ := endS_get hE 7 (by decide)
        have e8 : u 8 = _ := endS_get hE 8 (by decide)
        have e9 : u 9 = _ := endS_get hE 9 (by decide)
        have e10 : u 10 = _ := endS_get hE 10 (by decide)
        have e11 : u 11 = _ := endS_get hE 11 (by decide)
        have e12 : u 12 = _ := endS_get hE 12 (by decide)
        have e13 : u 13 = _ := endS_get hE 13 (by decide)
        simp only [List.drop_succ_cons, List.drop_zero, List.take_succ_cons, List.take_zero, fillL, Act.put, List.setIfInBounds_toArray, List.set_cons_zero, List.set_cons_succ, e0, e1, e2, e3, e4, e5, e6, e7, e8, e9, e10, e11, e12, e13]
        clear e0 e1 e2 e3 e4 e5 e6 e7 e8 e9 e10 e11 e12 e13 hE
        have HBw9 := Lib.hid (below_step (w := w8) (by first | assumption | go_grown) hb)
        have HBXw9 := Lib.hid hb
        have hzw9 := hb.size
        (try simp only [World.size_alloc, World.size_setCell] at hzw9)
        have hzw90 : w.heap.size + 1 + 1 < w9.heap.size := by omega
        have hzw91 : V0 < w9.heap.size := by omega
        have hzw92 : V1 < w9.heap.size := by omega
        have hzw93 : V2 < w9.heap.size := by omega
        obtain ⟨hcw9, hfw9⟩ := bcell hb
        clear hb hzw9
        have hsw9 := HBw9.out.size
        have zzw9 : w.heap.size < w9.heap.size := by omega
        have ztw9 : w.heap.size + 1 + 1 < w9.heap.size := by omega
        have zV0w9 : V0 < w9.heap.size := by omega
        have zV1w9 : V1 < w9.heap.size := by omega
        have zV2w9 : V2 < w9.heap.size := by omega
        have mV00w9 : w9.cell? ⟨V0, 0, none⟩ = some (.int .i64 px) := (HBw9.out.cell (p := ⟨_, _, none⟩) zV0w8).trans mV00w8
        have mV01w9 : w9.cell? ⟨V0, 1, none⟩ = some (.int .i64 py) := (HBw9.out.cell (p := ⟨_, _, none⟩) zV0w8).trans mV01w8
        have mV02w9 : w9.cell? ⟨V0, 2, none⟩ = some (.int .i64 pz) := (HBw9.out.cell (p := ⟨_, _, none⟩) zV0w8).trans mV02w8
        have mV10w9 : w9.cell? ⟨V1, 0, none⟩ = some (.int .i64 qx) := (HBw9.out.cell (p := ⟨_, _, none⟩) zV1w8).trans mV10w8
        have mV11w9 : w9.cell? ⟨V1, 1, none⟩ = some (.int .i64 qy) := (HBw9.out.cell (p := ⟨_, _, none⟩) zV1w8).trans mV11w8
        have mV12w9 : w9.cell? ⟨V1, 2, none⟩ = some (.int .i64 qz) := (HBw9.out.cell (p := ⟨_, _, none⟩) zV1w8).trans mV12w8
        have mV20w9 : w9.cell? ⟨V2, 0, none⟩ = some (.int .i64 rx) := (HBw9.out.cell (p := ⟨_, _, none⟩) zV2w8).trans mV20w8
        have mV21w9 : w9.cell? ⟨V2, 1, none⟩ = some (.int .i64 ry) := (HBw9.out.cell (p := ⟨_, _, none⟩) zV2w8).trans mV21w8
        have mV22w9 : w9.cell? ⟨V2, 2, none⟩ = some (.int .i64 rz) := (HBw9.out.cell (p := ⟨_, _, none⟩) zV2w8).trans mV22w8
        have g0w9 : w9.cell? ⟨w.heap.size, 0, none⟩ = some (.slice (some ⟨b2, f2, none⟩) np cp) := (HBw9.out.cell (p := ⟨_, _, none⟩) zzw8).trans g0w8
        have g1w9 : w9.cell? ⟨w.heap.size, 1, none⟩ = some (.slice (some ⟨b1, f1, none⟩) nf cf) := (HBw9.out.cell (p := ⟨_, _, none⟩) zzw8).trans g1w8
        have HRw9 : Hid (w9.heap[w.heap.size + 1]? = some (.cells (lC g0 0) 36)) := (HBw9.out.block _ (by omega)).trans HRw8.out
        clear mV00w8 mV01w8 mV02w8 mV10w8 mV11w8 mV12w8 mV20w8 mV21w8 mV22w8 g0w8 g1w8 HRw8
        have HL9 : Hid (w9.heap[w.heap.size + 1 + 1]? = some (.cells (l3 n0 a1 (momF 2 P F j)) 36)) := (HBw9.out.block _ ztw8).trans HL8.out
        have hB9 : Below w.heap.size w w9 := below_step hB8 HBw9.out
        clear HL8 l10 l11 l12 l13 l14 HBw9
        go_wp2_with (first
          | (with_reducible refine wpList_store_part 33 (w.heap.size + 1 + 1) 5 5 #[.bool z1, .int .u64 (Z1 0), .int .u64 (Z1 1), .int .u64 (Z1 2), .int .u64 (Z1 3)] 36 _ wide_size (by simp [go_sem]) rfl rfl rfl HL9.out (by rw [l3_size]; decide) ?_; intro w10 hs)
          | fail)
        have hsw10 := hs.size
        have zzw10 : w.heap.size < w10.heap.size := by omega
        have ztw10 : w.heap.size + 1 + 1 < w10.heap.size := by omega
        have zV0w10 : V0 < w10.heap.size := by omega
        have zV1w10 : V1 < w10.heap.size := by omega
        have zV2w10 : V2 < w10.heap.size := by omega
        have mV00w10 : w10.cell? ⟨V0, 0, none⟩ = some (.int .i64 px) := (Stored.cell hs dV0w5T).trans mV00w9
        have mV01w10 : w10.cell? ⟨V0, 1, none⟩ = some (.int .i64 py) := (Stored.cell hs dV0w5T).trans mV01w9
        have mV02w10 : w10.cell? ⟨V0, 2, none⟩ = some (.int .i64 pz) := (Stored.cell hs dV0w5T).trans mV02w9
        have mV10w10 : w10.cell? ⟨V1, 0, none⟩ = some (.int .i64 qx) := (Stored.cell hs dV1w5T).trans mV10w9
        have mV11w10 : w10.cell? ⟨V1, 1, none⟩ = some (.int .i64 qy) := (Stored.cell hs dV1w5T).trans mV11w9
        have mV12w10 : w10.cell? ⟨V1, 2, none⟩ = some (.int .i64 qz) := (Stored.cell hs dV1w5T).trans mV12w9
        have mV20w10 : w10.cell? ⟨V2, 0, none⟩ = some (.int .i64 rx) := (Stored.cell hs dV2w5T).trans mV20w9
        have mV21w10 : w10.cell? ⟨V2, 1, none⟩ = some (.int .i64 ry) := (Stored.cell hs dV2w5T).trans mV21w9
        have mV22w10 : w10.cell? ⟨V2, 2, none⟩ = some (.int .i64 rz) := (Stored.cell hs dV2w5T).trans mV22w9
        have g0w10 : w10.cell? ⟨w.heap.size, 0, none⟩ = some (.slice (some ⟨b2, f2, none⟩) np cp) := (Stored.cell hs (by omega)).trans g0w9
        have g1w10 : w10.cell? ⟨w.heap.size, 1, none⟩ = some (.slice (some ⟨b1, f1, none⟩) nf cf) := (Stored.cell hs (by omega)).trans g1w9
        have HRw10 : Hid (w10.heap[w.heap.size + 1]? = some (.cells (lC g0 0) 36)) := (hs.other _ (by omega)).trans HRw9.out
        clear mV00w9 mV01w9 mV02w9 mV10w9 mV11w9 mV12w9 mV20w9 mV21w9 mV22w9 g0w9 g1w9 HRw9
        have HL10 : Hid (w10.heap[w.heap.size + 1 + 1]? = some (.cells (l3 n0 n1 (momF 2 P F j)) 36)) := by
          show _ = _
          rw [hs.here, ← HZ1.out.1, ← HZ1.out.2]
          exact congrArg (fun a => some (Obj.cells a 36)) (l3_set1 n0 a1 (momF 2 P F j) n1)
        have hB10 : Below w.heap.size w w10 := Stored.below hB9 hs (by omega)
        clear hs HL9
        have hpz := HPBz.out.1
        have hqz := HPBz.out.2.1
        have hrz := HPBz.out.2.2.1
        have hDb := HDB.out
        obtain ⟨s2, hs2⟩ : ∃ s, pz + qz + rz = s := ⟨_, rfl⟩
        have us2 : IntKind.i64.wrap (pz + qz) = pz + qz := (wrap3 hpz hqz hrz).1
        have vs2 : IntKind.i64.wrap (pz + qz + rz) = s2 := (wrap3 hpz hqz hrz).2.1.trans hs2
        have hsb2 : -3145728 ≤ s2 ∧ s2 ≤ 3145728 := hs2 ▸ (wrap3 hpz hqz hrz).2.2
        obtain ⟨a2, ha2⟩ : ∃ a, momF 2 P F j = a := ⟨_, rfl⟩
        have HA2 := Lib.hid ha2
        have hab2 := mom_step (F := F) 2 HIN.out HIX.out hlt hn2
        rw [ha2] at hab2
        have hdb2 := mul_bd (a := D) (b := s2) (C := 6917529027641081856) (D := 3145728) (by decide) (by decide) hDb.1 hDb.2 hsb2.1 hsb2.2
        obtain ⟨n2, hn2⟩ : ∃ a, a2 + D * s2 = a := ⟨_, rfl⟩
        have HN2 : Hid (momF 2 P F (j + 1) = n2) := by
          show _ = _
          rw [← hn2, ← ha2, show momF 2 P F (j + 1) = momF 2 P F j + fdet P (F j) * fsum 2 P (F j) from rfl, HF.out, fdet_nat, HD.out, ← hs2, ← HPBz.out.2.2.2.1, ← HPBz.out.2.2.2.2.1, ← HPBz.out.2.2.2.2.2]
          rfl
        have HPR2 : Hid (∀ W, Calls Try.prog 44 #[.int .i64 D, .int .i64 s2] W fun e w' => e = .returned (.agg #[.bool (decide (D * s2 < 0)), .int .u64 ((wdF (D * s2)) 0), .int .u64 ((wdF (D * s2)) 1), .int .u64 ((wdF (D * s2)) 2), .int .u64 ((wdF (D * s2)) 3)]) ∧ Below W.heap.size W w') := fun W => rproduct_wd D s2 W (i64_of hDb (by decide)) (i64_of hsb2 (by decide))
        have HSU2 : Hid (∀ W, Calls Try.prog 43 #[.agg #[.bool (decide (a2 < 0)), .int .u64 ((wdF (a2)) 0), .int .u64 ((wdF (a2)) 1), .int .u64 ((wdF (a2)) 2), .int .u64 ((wdF (a2)) 3)], .agg #[.bool (decide (D * s2 < 0)), .int .u64 ((wdF (D * s2)) 0), .int .u64 ((wdF (D * s2)) 1), .int .u64 ((wdF (D * s2)) 2), .int .u64 ((wdF (D * s2)) 3)]] W fun e w' => e = .returned (.agg #[.bool (decide (n2 < 0)), .int .u64 ((wdF (n2)) 0), .int .u64 ((wdF (n2)) 1), .int .u64 ((wdF (n2)) 2), .int .u64 ((wdF (n2)) 3)]) ∧ Below W.heap.size W w') := fun W => hn2 ▸ rsum_wd a2 (D * s2) W (sum_ok hab2 hdb2).1 (sum_ok hab2 hdb2).2.1 (sum_ok hab2 hdb2).2.2
        obtain ⟨t2, ht2⟩ : ∃ b, decide (a2 < 0) = b := ⟨_, rfl⟩
        obtain ⟨X2, hX2⟩ : ∃ b, wdF a2 = b := ⟨_, rfl⟩
        obtain ⟨y2, hy2⟩ : ∃ b, decide (D * s2 < 0) = b := ⟨_, rfl⟩
        obtain ⟨Y2, hY2⟩ : ∃ b, wdF (D * s2) = b := ⟨_, rfl⟩
        obtain ⟨z2, hz2⟩ : ∃ b, decide (n2 < 0) = b := ⟨_, rfl⟩
        obtain ⟨Z2, hZ2⟩ : ∃ b, wdF n2 = b := ⟨_, rfl⟩
        rw [hy2, hY2] at HPR2
        rw [ht2, hX2, hy2, hY2, hz2, hZ2] at HSU2
        have HT2 := Lib.hid ht2
        have HX2 := Lib.hid hX2
        have HZ2 := Lib.hid (And.intro hz2 hZ2)
        replace HL10 : Hid (w10.heap[w.heap.size + 1 + 1]? = some (.cells (l3 n0 n1 a2) 36)) := by
          rw [← HA2.out]
          exact HL10
        clear hs2 hsb2 hab2 hdb2 hn2 ha2 ht2 hX2 hy2 hY2 hz2 hZ2 hpz hqz hrz hDb
        obtain ⟨l20, l21, l22, l23, l24⟩ := l3_at2 HL10.out
        rw [HT2.out] at l20
        rw [HX2.out] at l21
        rw [HX2.out] at l22
        rw [HX2.out] at l23
        rw [HX2.out] at l24
        clear HT2 HX2
        go_wp2_with fail
        refine wp_region_relw 14 (by kernel_rfl) (by kernel_rfl) (by kernel_rfl) ?_
        simp only [List.take_succ_cons, List.take_zero, fillL, Act.put, List.setIfInBounds_toArray, List.set_cons_zero, List.set_cons_succ]
        iterate 11
          apply rel_is
          · intro u wx hb hd
            have hz := hb.size
            (try simp only [World.size_alloc, World.size_setCell] at hz)
            have hz0 : w.heap.size + 1 + 1 < wx.heap.size := by omega
            have hz1 : V0 < wx.heap.size := by omega
            have hz2 : V1 < wx.heap.size := by omega
            have hz3 : V2 < wx.heap.size := by omega
            obtain ⟨hc, hf⟩ := bcell hb
            have HBX := Lib.hid hb
            clear hb hz
            simp [depsS, Region.binds, updS, Stay.is, Stay.any] at hd
            go_simp
            first | exact ⟨Below.refl _ _, rfl⟩ | rfl
        apply rel_is
        · intro u wx hb hd
          have hz := hb.size
          (try simp only [World.size_alloc, World.size_setCell] at hz)
          have hz0 : w.heap.size + 1 + 1 < wx.heap.size := by omega
          have hz1 : V0 < wx.heap.size := by omega
          have hz2 : V1 < wx.heap.size := by omega
          have hz3 : V2 < wx.heap.size := by omega
          obtain ⟨hc, hf⟩ := bcell hb
          have HBX := Lib.hid hb
          clear hb hz
          simp [depsS, Region.binds, updS, Stay.is, Stay.any] at hd
          go_simp
          first | rfl | (go_at_call 44; refine (HPR2.out _).mono ?_; rintro e w1 ⟨rfl, hb1⟩; first | exact ⟨rfl, hb1⟩ | exact ⟨_, rfl, hb1, rfl⟩)
        apply rel_is
        · intro u wx hb hd
          have hz := hb.size
          (try simp only [World.size_alloc, World.size_setCell] at hz)
          have hz0 : w.heap.size + 1 + 1 < wx.heap.size := by omega
          have hz1 : V0 < wx.heap.size := by omega
          have hz2 : V1 < wx.heap.size := by omega
          have hz3 : V2 < wx.heap.size := by omega
          obtain ⟨hc, hf⟩ := bcell hb
          have HBX := Lib.hid hb
          clear hb hz
          simp [depsS, Region.binds, updS, Stay.is, Stay.any] at hd
          go_simp
          first | rfl | (go_at_call 43; refine (HSU2.out _).mono ?_; rintro e w1 ⟨rfl, hb1⟩; first | exact ⟨rfl, hb1⟩ | exact ⟨_, rfl, hb1, rfl⟩)
        apply rel_is
        · intro u wx hb hd
          have hz := hb.size
          (try simp only [World.size_alloc, World.size_setCell] at hz)
          have hz0 : w.heap.size + 1 + 1 < wx.heap.size := by omega
          have hz1 : V0 < wx.heap.size := by omega
          have hz2 : V1 < wx.heap.size := by omega
          have hz3 : V2 < wx.heap.size := by omega
          obtain ⟨hc, hf⟩ := bcell hb
          have HBX := Lib.hid hb
          clear hb hz
          simp [depsS, Region.binds, updS, Stay.is, Stay.any] at hd
          go_simp
          first | exact ⟨Below.refl _ _, rfl⟩ | rfl
        intro u w11 hb hE
        have e0 : u 0 = _ := endS_get hE 0 (by decide)
        have e1 : u 1 = _ := endS_get hE 1 (by decide)
        have e2 : u 2 = _ := endS_get hE 2 (by decide)
        have e3 : u 3 = _ := endS_get hE 3 (by decide)
        have e4 : u 4 = _ := endS_get hE 4 (by decide)
        have e5 : u 5 = _ := endS_get hE 5 (by decide)
        have e6 : u 6 = _ := endS_get hE 6 (by decide)
        have e7 : u 7 = _ := endS_get hE 7 (by decide)
        have e8 : u 8 = _ := endS_get hE 8 (by decide)
        have e9 : u 9 = _ := endS_get hE 9 (by decide)
        have e10 : u 10 = _ := endS_get hE 10 (by decide)
        have e11 : u 11 = _ := endS_get hE 11 (by decide)
        have e12 : u 12 = _ := endS_get hE 12 (by decide)
        have e13 : u 13 = _ := endS_get hE 13 (by decide)
        simp only [List.drop_succ_cons, List.drop_zero, List.take_succ_cons, List.take_zero, fillL, Act.put, List.setIfInBounds_toArray, List.set_cons_zero, List.set_cons_succ, e0, e1, e2, e3, e4, e5, e6, e7, e8, e9, e10, e11, e12, e13]
        clear e0 e1 e2 e3 e4 e5 e6 e7 e8 e9 e10 e11 e12 e13 hE
        have HBw11 := Lib.hid (below_step (w := w10) (by first | assumption | go_grown) hb)
        have HBXw11 := Lib.hid hb
        have hzw11 := hb.size
        (try simp only [World.size_alloc, World.size_setCell] at hzw11)
        have hzw110 : w.heap.size + 1 + 1 < w11.heap.size := by omega
        have hzw111 : V0 < w11.heap.size := by omega
        have hzw112 : V1 < w11.heap.size := by omega
        have hzw113 : V2 < w11.heap.size := by omega
        obtain ⟨hcw11, hfw11⟩ := bcell hb
        clear hb hzw11
        have hsw11 := HBw11.out.size
        have zzw11 : w.heap.size < w11.heap.size := by omega
        have ztw11 : w.heap.size + 1 + 1 < w11.heap.size := by omega
        have zV0w11 : V0 < w11.heap.size := by omega
        have zV1w11 : V1 < w11.heap.size := by omega
        have zV2w11 : V2 < w11.heap.size := by omega
        have mV00w11 : w11.cell? ⟨V0, 0, none⟩ = some (.int .i64 px) := (HBw11.out.cell (p := ⟨_, _, none⟩) zV0w10).trans mV00w10
        have mV01w11 : w11.cell? ⟨V0, 1, none⟩ = some (.int .i64 py) := (HBw11.out.cell (p := ⟨_, _, none⟩) zV0w10).trans mV01w10
        have mV02w11 : w11.cell? ⟨V0, 2, none⟩ = some (.int .i64 pz) := (HBw11.out.cell (p := ⟨_, _, none⟩) zV0w10).trans mV02w10
        have mV10w11 : w11.cell? ⟨V1, 0, none⟩ = some (.int .i64 qx) := (HBw11.out.cell (p := ⟨_, _, none⟩) zV1w10).trans mV10w10
        have mV11w11 : w11.cell? ⟨V1, 1, none⟩ = some (.int .i64 qy) := (HBw11.out.cell (p := ⟨_, _, none⟩) zV1w10).trans mV11w10
        have mV12w11 : w11.cell? ⟨V1, 2, none⟩ = some (.int .i64 qz) := (HBw11.out.cell (p := ⟨_, _, none⟩) zV1w10).trans mV12w10
        have mV20w11 : w11.cell? ⟨V2, 0, none⟩ = some (.int .i64 rx) := (HBw11.out.cell (p := ⟨_, _, none⟩) zV2w10).trans mV20w10
        have mV21w11 : w11.cell? ⟨V2, 1, none⟩ = some (.int .i64 ry) := (HBw11.out.cell (p := ⟨_, _, none⟩) zV2w10).trans mV21w10
        have mV22w11 : w11.cell? ⟨V2, 2, none⟩ = some (.int .i64 rz) := (HBw11.out.cell (p := ⟨_, _, none⟩) zV2w10).trans mV22w10
        have g0w11 : w11.cell? ⟨w.heap.size, 0, none⟩ = some (.slice (some ⟨b2, f2, none⟩) np cp) := (HBw11.out.cell (p := ⟨_, _, none⟩) zzw10).trans g0w10
        have g1w11 : w11.cell? ⟨w.heap.size, 1, none⟩ = some (.slice (some ⟨b1, f1, none⟩) nf cf) := (HBw11.out.cell (p := ⟨_, _, none⟩) zzw10).trans g1w10
        have HRw11 : Hid (w11.heap[w.heap.size + 1]? = some (.cells (lC g0 0) 36)) := (HBw11.out.block _ (by omega)).trans HRw10.out
        clear mV00w10 mV01w10 mV02w10 mV10w10 mV11w10 mV12w10 mV20w10 mV21w10 mV22w10 g0w10 g1w10 HRw10
        have HL11 : Hid (w11.heap[w.heap.size + 1 + 1]? = some (.cells (l3 n0 n1 a2) 36)) := (HBw11.out.block _ ztw10).trans HL10.out
        have hB11 : Below w.heap.size w w11 := below_step hB10 HBw11.out
        clear HL10 l20 l21 l22 l23 l24 HBw11
        go_wp2_with (first
          | (with_reducible refine wpList_store_part 33 (w.heap.size + 1 + 1) 10 5 #[.bool z2, .int .u64 (Z2 0), .int .u64 (Z2 1), .int .u64 (Z2 2), .int .u64 (Z2 3)] 36 _ wide_size (by simp [go_sem]) rfl rfl rfl HL11.out (by rw [l3_size]; decide) ?_; intro w12 hs)
          | fail)
        have hsw12 := hs.size
        have zzw12 : w.heap.size < w12.heap.size := by omega
        have ztw12 : w.heap.size + 1 + 1 < w12.heap.size := by omega
        have zV0w12 : V0 < w12.heap.size := by omega
        have zV1w12 : V1 < w12.heap.size := by omega
        have zV2w12 : V2 < w12.heap.size := by omega
        have mV00w12 : w12.cell? ⟨V0, 0, none⟩ = some (.int .i64 px) := (Stored.cell hs dV0w5T).trans mV00w11
        have mV01w12 : w12.cell? ⟨V0, 1, none⟩ = some (.int .i64 py) := (Stored.cell hs dV0w5T).trans mV01w11
        have mV02w12 : w12.cell? ⟨V0, 2, none⟩ = some (.int .i64 pz) := (Stored.cell hs dV0w5T).trans mV02w11
        have mV10w12 : w12.cell? ⟨V1, 0, none⟩ = some (.int .i64 qx) := (Stored.cell hs dV1w5T).trans mV10w11
        have mV11w12 : w12.cell? ⟨V1, 1, none⟩ = some (.int .i64 qy) := (Stored.cell hs dV1w5T).trans mV11w11
        have mV12w12 : w12.cell? ⟨V1, 2, none⟩ = some (.int .i64 qz) := (Stored.cell hs dV1w5T).trans mV12w11
        have mV20w12 : w12.cell? ⟨V2, 0, none⟩ = some (.int .i64 rx) := (Stored.cell hs dV2w5T).trans mV20w11
        have mV21w12 : w12.cell? ⟨V2, 1, none⟩ = some (.int .i64 ry) := (Stored.cell hs dV2w5T).trans mV21w11
        have mV22w12 : w12.cell? ⟨V2, 2, none⟩ = some (.int .i64 rz) := (Stored.cell hs dV2w5T).trans mV22w11
        have g0w12 : w12.cell? ⟨w.heap.size, 0, none⟩ = some (.slice (some ⟨b2, f2, none⟩) np cp) := (Stored.cell hs (by omega)).trans g0w11
        have g1w12 : w12.cell? ⟨w.heap.size, 1, none⟩ = some (.slice (some ⟨b1, f1, none⟩) nf cf) := (Stored.cell hs (by omega)).trans g1w11
        have HRw12 : Hid (w12.heap[w.heap.size + 1]? = some (.cells (lC g0 0) 36)) := (hs.other _ (by omega)).trans HRw11.out
        clear mV00w11 mV01w11 mV02w11 mV10w11 mV11w11 mV12w11 mV20w11 mV21w11 mV22w11 g0w11 g1w11 HRw11
        have HL12 : Hid (w12.heap[w.heap.size + 1 + 1]? = some (.cells (l3 n0 n1 n2) 36)) := by
          show _ = _
          rw [hs.here, ← HZ2.out.1, ← HZ2.out.2]
          exact congrArg (fun a => some (Obj.cells a 36)) (l3_set2 n0 n1 a2 n2)
        have hB12 : Below w.heap.size w w12 := Stored.below hB11 hs (by omega)
        clear hs HL11
        go_wp2
        go_roundw
        case rel => exact ⟨j + 1, by omega, by go_num, by rw [HN0.out, HN1.out, HN2.out]; exact HL12.out, HRw12, g0w12, g1w12, ztw12, hB12⟩
        case measure => simp [intOf]; omega
      · obtain rfl : j = nf := by omega
        have HL3 : Hid (w2.heap[w.heap.size + 1 + 1]? = some (.cells (lC f 3) 36)) := by
          show _ = _
          rw [HL.out, lC_3, HFF.out, HFF.out, HFF.out]
        go_wp2_with (first | (refine bodyPost_ret (results_arr_tmp rfl rfl hs.here arr_under arr_size (lC_size _ _)) rfl ?_; exact ⟨rfl, Stored.below hBw2 hs (by omega)⟩) | (with_reducible refine wpList_load_arr 36 (w.heap.size + 1 + 1) 15 _ 36 3 33 arr_under arr_size rfl (lC_size _ _) (HL3.out) ?_) | (with_reducible refine wpList_store_all 36 (w.heap.size + 1) 15 (lC _ _) 36 arr_size rfl rfl (lC_size _ _) (lC_one _ _) ⟨_, HRw2.out, lC_size _ _⟩ ?_; intro w6 hs) | go_in)
  · have kE2 : (E == 0) = false := by simpa using h0
    have kE3 : (E != 0) = true := by simpa using h0
    have HFF : Hid (lC f 3 = lC g0 0) := by
      show _ = _
      have h : ∀ c, f c = 0 := fun c => by rw [← hf]; unfold mom24; rw [if_neg (by rw [hE]; exact h0)]
      simp [lC, zF, h]
    rw [HFF.out]
    clear hE hf h0 g1 g2 hel help hg0
    go_enter Try.func18, Try.ntmps18
    go_wp2_with fail
    (go_at_call 14; refine (rCheck_any _ np nf P F _ (HM.out.below (by first | assumption | go_grown))).mono ?_; rintro e_ w1 ⟨rfl, hb⟩)
    have hsw1 := hb.size
    (try simp only [World.size_alloc, World.size_setCell] at hsw1)
    have zzw1 : w.heap.size < w1.heap.size := by omega
    have hPw1 : Below w.heap.size w w1 := below_step (w := w) (by first | exact Below.refl _ _ | go_grown) hb
    have zmw1 : w.heap.size < w1.heap.size := by omega
    have m0w1 : w1.cell? ⟨w.heap.size, 0, none⟩ = some (.slice op np cp) := (hb.cell (p := ⟨_, _, none⟩) (by simp <;> omega)).trans (by simp [go_sem])
    have m1w1 : w1.cell? ⟨w.heap.size, 1, none⟩ = some (.slice of' nf cf) := (hb.cell (p := ⟨_, _, none⟩) (by simp <;> omega)).trans (by simp [go_sem])
    have hBw1 : Below w.heap.size w w1 := below_step (w := w) (by first | assumption | go_grown) hb
    rw [HE.out]
    have HL1 : Hid (w1.heap[w.heap.size + 1 + 1]? = some (.cells (lC g0 0) 36)) := by
      show _ = _
      rw [hb.block (w.heap.size + 1 + 1) (by simp), lC_0]
      exact heapA_at _ _ _ (by simp)
    have HR1 : Hid (w1.heap[w.heap.size + 1]? = some (.cells (lC g0 0) 36)) := by
      show _ = _
      rw [hb.block (w.heap.size + 1) (by simp), lC_0]
      exact (heapA_old _ _ _ (by simp)).trans (heapA_at _ _ _ (by simp))
    have zrw1 : w.heap.size + 1 + 1 < w1.heap.size := by
      have := hb.size
      simp only [World.size_alloc] at this
      omega
    clear hb hsw1 hPw1
    go_wp2_with (first | (refine bodyPost_ret (results_arr_tmp rfl rfl hs.here arr_under arr_size (lC_size _ _)) rfl ?_; exact ⟨rfl, Stored.below hBw1 hs (by omega)⟩) | (with_reducible refine wpList_load_arr 36 (w.heap.size + 1 + 1) 15 _ 36 3 33 arr_under arr_size rfl (lC_size _ _) (HL1.out) ?_) | (with_reducible refine wpList_store_all 36 (w.heap.size + 1) 15 (lC _ _) 36 arr_size rfl rfl (lC_size _ _) (lC_one _ _) ⟨_, HR1.out, lC_size _ _⟩ ?_; intro w6 hs) | go_in)
end Go.Proofs.Ytpjdmjmgkdgfnaa
