/-
  Lists compared at equal lists; what the laws' own functions return, by walks. Conditions: as stated. By an AI agent.
-/
import Derived.Test.YtpkgadjglidnaaaDoorCabN
namespace Go.Proofs.YtpkgadjglidnaaaDoor
open Go Go.ChangeShapes Go.WideShapes Go.RowKit Go.ChangeAt
set_option linter.unusedVariables false
set_option linter.unusedSimpArgs false

def greatB (n m : Nat) (C : Nat → Cb) : Bool := decide (70 < n) || decide (70 < m) || !allTo (fun i => decide ((C i).id.size ≤ 200)) m
theorem greatB_no {n m : Nat} {C : Nat → Cb} (h : greatB n m C = false) : n ≤ 70 ∧ m ≤ 70 ∧ ∀ i, i < m → (C i).id.size ≤ 200 := by
  unfold greatB at h
  simp only [Bool.or_eq_false_iff, decide_eq_false_iff_not, Bool.not_eq_false'] at h
  exact ⟨by omega, by omega, fun i hi => by simpa using allTo_iff.1 h.2 i hi⟩
def idxB (n : Nat) (f : Nat → Int) (ln : Nat) : Bool := allTo (fun i => decide (0 ≤ f i ∧ f i < (n : Int))) ln
theorem idxB_ix {n ln : Nat} {f : Nat → Int} (h : idxB n f ln = true) : ∀ q, q < ln → 0 ≤ f q ∧ f q < n := fun q hq => by simpa using allTo_iff.1 h q hq
def sumF (T : Nat → Tr) (f : Nat → Int) : Nat → Int
  | 0 => 0
  | k + 1 => sumF T f k + (T (f k).toNat).L
theorem sumF_bd {n : Nat} {T : Nat → Tr} (hT : ∀ i, i < n → (T i).ok) {f : Nat → Int} : ∀ {k : Nat}, (∀ q, q < k → 0 ≤ f q ∧ f q < n) → 0 ≤ sumF T f k ∧ sumF T f k ≤ 1000000 * (k : Int)
  | 0, _ => by show (0 : Int) ≤ 0 ∧ (0 : Int) ≤ _; omega
  | k + 1, h => by
    have ih := sumF_bd hT (f := f) (k := k) (fun q hq => h q (by omega))
    have h1 := h k (by omega)
    have hok := hT (f k).toNat (by omega)
    unfold Tr.ok at hok
    unfold sumF
    omega

set_option maxHeartbeats 4000000 in
theorem intsEq_any (v u : Value) (n : Nat) (f : Nat → Int) (w : World) (h : IntsAt w v n f) (h' : IntsAt w u n f) : Calls Tryd.prog 18 #[v, u] w fun e w' => e = .returned (.bool true) ∧ Below w.heap.size w w' := by
  obtain ⟨oa, ca, rfl, hn, hel⟩ := h.form
  obtain ⟨ob, cb, rfl, -, hub⟩ := h'.form
  have HEL := Lib.hid hel
  have HUL := Lib.hid hub
  clear h h' hel hub
  go_enter Tryd.func18, Tryd.ntmps18
  go_wp2
  go_loopw [5] (fun i wr => ∃ j : Nat, j ≤ n ∧ i = .int .i64 j ∧ Below w.heap.size w wr) (fun i _ => n - (intOf i).toNat)
  case atStart => exact ⟨0, by omega, rfl, by go_grown⟩
  case round =>
    obtain ⟨w4, rfl⟩ : ∃ x : World, x = wr := ⟨_, rfl⟩
    obtain ⟨j, hj, rfl, hB⟩ := hrel
    by_cases hjn : j < n
    · obtain ⟨b1, f1, rfl, hbl1, hcl1⟩ := HEL.out j hjn
      obtain ⟨b2, f2, rfl, hbl2, hcl2⟩ := HUL.out j hjn
      have c1 : w4.cell? ⟨b1, f1 + j, none⟩ = some (.int .i64 (f j)) := (hB.cell (p := ⟨_, _, none⟩) hbl1).trans (hcl1 j hjn)
      have c2 : w4.cell? ⟨b2, f2 + j, none⟩ = some (.int .i64 (f j)) := (hB.cell (p := ⟨_, _, none⟩) hbl2).trans (hcl2 j hjn)
      obtain ⟨y, hy⟩ : ∃ y, f j = y := ⟨_, rfl⟩
      rw [hy] at c1 c2
      have z1 : b1 < w4.heap.size := by have := hB.size; omega
      have z2 : b2 < w4.heap.size := by have := hB.size; omega
      have k0 : (0 : Int) ≤ (j : Int) := by omega
      have k1 : (j : Int) < (n : Int) := by omega
      clear hcl1 hcl2 hy
      go_wp2_with fail
      refine wp_region_relw 9 (by kernel_rfl) (by kernel_rfl) (by kernel_rfl) ?_
      simp only [List.take_succ_cons, List.take_zero, fillL, Act.put, List.setIfInBounds_toArray, List.set_cons_zero, List.set_cons_succ]
      iterate 9
        apply rel_is
        · intro u wx hb hd
          have hz := hb.size
          (try simp only [World.size_alloc, World.size_setCell] at hz)
          have hz0 : b1 < wx.heap.size := by omega
          have hz1 : b2 < wx.heap.size := by omega
          obtain ⟨hc, hf⟩ := bcell hb
          have HBX := Lib.hid hb
          clear hb hz
          simp [depsS, Region.binds, updS, Stay.is, Stay.any] at hd
          go_simp
          first | exact ⟨Below.refl _ _, rfl⟩ | rfl
      intro u w5 hb hE
      have e0 : u 0 = _ := endS_get hE 0 (by decide)
      have e1 : u 1 = _ := endS_get hE 1 (by decide)
      have e2 : u 2 = _ := endS_get hE 2 (by decide)
      have e3 : u 3 = _ := endS_get hE 3 (by decide)
      have e4 : u 4 = _ := endS_get hE 4 (by decide)
      have e5 : u 5 = _ := endS_get hE 5 (by decide)
      have e6 : u 6 = _ := endS_get hE 6 (by decide)
      have e7 : u 7 = _ := endS_get hE 7 (by decide)
      have e8 : u 8 = _ := endS_get hE 8 (by decide)
      simp only [List.drop_succ_cons, List.drop_zero, List.take_succ_cons, List.take_zero, fillL, Act.put, List.setIfInBounds_toArray, List.set_cons_zero, List.set_cons_succ, e0, e1, e2, e3, e4, e5, e6, e7, e8]
      clear e0 e1 e2 e3 e4 e5 e6 e7 e8 hE
      have HBw5 := Lib.hid (below_step (w := w4) (by first | assumption | go_grown) hb)
      have HBXw5 := Lib.hid hb
      have hzw5 := hb.size
      (try simp only [World.size_alloc, World.size_setCell] at hzw5)
      have hzw50 : b1 < w5.heap.size := by omega
      have hzw51 : b2 < w5.heap.size := by omega
      obtain ⟨hcw5, hfw5⟩ := bcell hb
      clear hb hzw5
      go_wp2
      go_roundw
      case rel => exact ⟨j + 1, by omega, by go_num, below_step hB HBXw5.out⟩
      case measure => simp [intOf]; omega
    · go_wp2
      go_returns
      exact ⟨rfl, hB⟩

set_option maxHeartbeats 4000000 in
theorem sameEq_any (v u : Value) (m : Nat) (L : Nat → Nat) (f : Nat → Nat → Int) (w : World) (h : IPathsAt w v m L f) (h' : IPathsAt w u m L f) : Calls Tryd.prog 21 #[v, u] w fun e w' => e = .returned (.bool true) ∧ Below w.heap.size w w' := by
  obtain ⟨pv, h1, h2⟩ := h
  obtain ⟨qv, h3, h4⟩ := h'
  obtain ⟨oa, ca, rfl, hn, hn2, hel⟩ := h1
  obtain ⟨ob, cb, rfl, hm, hm2, hub⟩ := h3
  have HEL : Hid (∀ k, k < m → ∃ b off, oa = some ⟨b, off, none⟩ ∧ b < w.heap.size ∧ ∀ q, q < m → w.cell? ⟨b, off + q, none⟩ = some (pv q)) := fun k hk => by
    obtain ⟨b, off, e, hlt, hc⟩ := hel (by omega)
    exact ⟨b, off, e, hlt, fun q hq => by have := hc q 0 hq (by decide); simpa using this⟩
  have HUL : Hid (∀ k, k < m → ∃ b off, ob = some ⟨b, off, none⟩ ∧ b < w.heap.size ∧ ∀ q, q < m → w.cell? ⟨b, off + q, none⟩ = some (qv q)) := fun k hk => by
    obtain ⟨b, off, e, hlt, hc⟩ := hub (by omega)
    exact ⟨b, off, e, hlt, fun q hq => by have := hc q 0 hq (by decide); simpa using this⟩
  have HPA := Lib.hid h2
  have HQA := Lib.hid h4
  clear hel hub h2 h4
  go_enter Tryd.func21, Tryd.ntmps21
  go_wp2
  go_loopw [5] (fun i wr => ∃ k : Nat, k ≤ m ∧ i = .int .i64 k ∧ Below w.heap.size w wr) (fun i _ => m - (intOf i).toNat)
  case atStart => exact ⟨0, by omega, rfl, by go_grown⟩
  case round =>
    obtain ⟨w3, rfl⟩ : ∃ x : World, x = wr := ⟨_, rfl⟩
    obtain ⟨k, hk, rfl, hB⟩ := hrel
    by_cases hkm : k < m
    · obtain ⟨bv, fv, rfl, hblv, hclv⟩ := HEL.out k hkm
      obtain ⟨bu, fu, rfl, hblu, hclu⟩ := HUL.out k hkm
      have hpv := hclv k hkm
      have hqv := hclu k hkm
      obtain ⟨oP, cP, hpk, hlP, hclP⟩ := (HPA.out k hkm).form
      obtain ⟨oQ, cQ, hqk, -, hclQ⟩ := (HQA.out k hkm).form
      obtain ⟨ln, hln⟩ : ∃ l, L k = l := ⟨_, rfl⟩
      rw [hpk, hln] at hpv
      rw [hqk, hln] at hqv
      rw [hln] at hclP hclQ hlP
      have HPL := Lib.hid hclP
      have HQL := Lib.hid hclQ
      have HPV := Lib.hid hpv
      have HQV := Lib.hid hqv
      have paw3 : w3.cell? ⟨bv, fv + k, none⟩ = some (.slice oP ln cP) := (hB.cell (p := ⟨_, _, none⟩) hblv).trans HPV.out
      have pbw3 : w3.cell? ⟨bu, fu + k, none⟩ = some (.slice oQ ln cQ) := (hB.cell (p := ⟨_, _, none⟩) hblu).trans HQV.out
      have zvw3 : bv < w3.heap.size := by have := hB.size; omega
      have zuw3 : bu < w3.heap.size := by have := hB.size; omega
      have k0 : (0 : Int) ≤ (k : Int) := by omega
      have k1 : (k : Int) < (m : Int) := by omega
      clear hclv hclu hclP hclQ hpv hqv hpk hqk hln
      go_wp2_with fail
      refine wp_region_relw 11 (by kernel_rfl) (by kernel_rfl) (by kernel_rfl) ?_
      simp only [List.take_succ_cons, List.take_zero, fillL, Act.put, List.setIfInBounds_toArray, List.set_cons_zero, List.set_cons_succ]
      iterate 11
        apply rel_is
        · intro u wx hb hd
          have hz := hb.size
          (try simp only [World.size_alloc, World.size_setCell] at hz)
          have hz0 : bv < wx.heap.size := by omega
          have hz1 : bu < wx.heap.size := by omega
          obtain ⟨hc, hf⟩ := bcell hb
          have HBX := Lib.hid hb
          clear hb hz
          simp [depsS, Region.binds, updS, Stay.is, Stay.any] at hd
          go_simp
          first | exact ⟨Below.refl _ _, rfl⟩ | rfl
      intro u w4 hb hE
      have e0 : u 0 = _ := endS_get hE 0 (by decide)
      have e1 : u 1 = _ := endS_get hE 1 (by decide)
      have e2 : u 2 = _ := endS_get hE 2 (by decide)
      have e3 : u 3 = _ := endS_get hE 3 (by decide)
      have e4 : u 4 = _ := endS_get hE 4 (by decide)
      have e5 : u 5 = _ := endS_get hE 5 (by decide)
      have e6 : u 6 = _ := endS_get hE 6 (by decide)
      have e7 : u 7 = _ := endS_get hE 7 (by decide)
      have e8 : u 8 = _ := endS_get hE 8 (by decide)
      have e9 : u 9 = _ := endS_get hE 9 (by decide)
      have e10 : u 10 = _ := endS_get hE 10 (by decide)
      simp only [List.drop_succ_cons, List.drop_zero, List.take_succ_cons, List.take_zero, fillL, Act.put, List.setIfInBounds_toArray, List.set_cons_zero, List.set_cons_succ, e0, e1, e2, e3, e4, e5, e6, e7, e8, e9, e10]
      clear e0 e1 e2 e3 e4 e5 e6 e7 e8 e9 e10 hE
      have HBw4 := Lib.hid (below_step (w := w3) (by first | assumption | go_grown) hb)
      have HBXw4 := Lib.hid hb
      have hzw4 := hb.size
      (try simp only [World.size_alloc, World.size_setCell] at hzw4)
      have hzw40 : bv < w4.heap.size := by omega
      have hzw41 : bu < w4.heap.size := by omega
      obtain ⟨hcw4, hfw4⟩ := bcell hb
      clear hb hzw4
      have hB4 : Below w.heap.size w w4 := below_step hB HBXw4.out
      clear paw3 pbw3 zvw3 zuw3 hcw4 hfw4
      go_wp2
      go_loopw [6] (fun i wr => ∃ q : Nat, q ≤ ln ∧ i = .int .i64 q ∧ Below w.heap.size w wr) (fun i _ => ln - (intOf i).toNat)
      case atStart => exact ⟨0, by omega, rfl, hB4⟩
      case round =>
        obtain ⟨w5, rfl⟩ : ∃ x : World, x = wr := ⟨_, rfl⟩
        obtain ⟨q, hq, rfl, hB5⟩ := hrel
        have paw5 : w5.cell? ⟨bv, fv + k, none⟩ = some (.slice oP ln cP) := (hB5.cell (p := ⟨_, _, none⟩) hblv).trans HPV.out
        have pbw5 : w5.cell? ⟨bu, fu + k, none⟩ = some (.slice oQ ln cQ) := (hB5.cell (p := ⟨_, _, none⟩) hblu).trans HQV.out
        have zvw5 : bv < w5.heap.size := by have := hB5.size; omega
        have zuw5 : bu < w5.heap.size := by have := hB5.size; omega
        have k0 : (0 : Int) ≤ (k : Int) := by omega
        have k1 : (k : Int) < (m : Int) := by omega
        by_cases hql : q < ln
        · obtain ⟨bp, fp, rfl, hblp, hclp⟩ := HPL.out q hql
          obtain ⟨bq, fq, rfl, hblq, hclq⟩ := HQL.out q hql
          have c1 : w5.cell? ⟨bp, fp + q, none⟩ = some (.int .i64 (f k q)) := (hB5.cell (p := ⟨_, _, none⟩) hblp).trans (hclp q hql)
          have c2 : w5.cell? ⟨bq, fq + q, none⟩ = some (.int .i64 (f k q)) := (hB5.cell (p := ⟨_, _, none⟩) hblq).trans (hclq q hql)
          obtain ⟨y, hy⟩ : ∃ y, f k q = y := ⟨_, rfl⟩
          rw [hy] at c1 c2
          have zp : bp < w5.heap.size := by have := hB5.size; omega
          have zq : bq < w5.heap.size := by have := hB5.size; omega
          have m0 : (0 : Int) ≤ (q : Int) := by omega
          have m1 : (q : Int) < (ln : Int) := by omega
          clear hclp hclq hy
          go_wp2_with fail
          refine wp_region_relw 15 (by kernel_rfl) (by kernel_rfl) (by kernel_rfl) ?_
          simp only [List.take_succ_cons, List.take_zero, fillL, Act.put, List.setIfInBounds_toArray, List.set_cons_zero, List.set_cons_succ]
          iterate 15
            apply rel_is
            · intro u wx hb hd
              have hz := hb.size
              (try simp only [World.size_alloc, World.size_setCell] at hz)
              have hz0 : bv < wx.heap.size := by omega
              have hz1 : bu < wx.heap.size := by omega
              have hz2 : bp < wx.heap.size := by omega
              have hz3 : bq < wx.heap.size := by omega
              obtain ⟨hc, hf⟩ := bcell hb
              have HBX := Lib.hid hb
              clear hb hz
              simp [depsS, Region.binds, updS, Stay.is, Stay.any] at hd
              go_simp
              first | exact ⟨Below.refl _ _, rfl⟩ | rfl
          intro u w6 hb hE
          have e0 : u 0 = _ := endS_get hE 0 (by decide)
          have e1 : u 1 = _ := endS_get hE 1 (by decide)
          have e2 : u 2 = _ := endS_get hE 2 (by decide)
          have e3 : u 3 = _ := endS_get hE 3 (by decide)
          have e4 : u 4 = _ := endS_get hE 4 (by decide)
          have e5 : u 5 = _ := endS_get hE 5 (by decide)
          have e6 : u 6 = _ := endS_get hE 6 (by decide)
          have e7 : u 7 = _ := endS_get hE 7 (by decide)
          have e8 : u 8 = _ := endS_get hE 8 (by decide)
          have e9 : u 9 = _ := endS_get hE 9 (by decide)
          have e10 : u 10 = _ := endS_get hE 10 (by decide)
          have e11 : u 11 = _ := endS_get hE 11 (by decide)
          have e12 : u 12 = _ := endS_get hE 12 (by decide)
          have e13 : u 13 = _ := endS_get hE 13 (by decide)
          have e14 : u 14 = _ := endS_get hE 14 (by decide)
          simp only [List.drop_succ_cons, List.drop_zero, List.take_succ_cons, List.take_zero, fillL, Act.put, List.setIfInBounds_toArray, List.set_cons_zero, List.set_cons_succ, e0, e1, e2, e3, e4, e5, e6, e7, e8, e9, e10, e11, e12, e13, e14]
          clear e0 e1 e2 e3 e4 e5 e6 e7 e8 e9 e10 e11 e12 e13 e14 hE
          have HBw6 := Lib.hid (below_step (w := w5) (by first | assumption | go_grown) hb)
          have HBXw6 := Lib.hid hb
          have hzw6 := hb.size
          (try simp only [World.size_alloc, World.size_setCell] at hzw6)
          have hzw60 : bv < w6.heap.size := by omega
          have hzw61 : bu < w6.heap.size := by omega
          have hzw62 : bp < w6.heap.size := by omega
          have hzw63 : bq < w6.heap.size := by omega
          obtain ⟨hcw6, hfw6⟩ := bcell hb
          clear hb hzw6
          have hB6 : Below w.heap.size w w6 := below_step hB5 HBXw6.out
          go_wp2
          go_roundw
          case rel => exact ⟨q + 1, by omega, by go_num, hB6⟩
          case measure => simp [intOf]; omega
        · go_wp2
          go_roundw
          case rel => exact ⟨k + 1, by omega, by go_num, hB5⟩
          case measure => simp [intOf]; omega
    · go_wp2
      go_returns
      exact ⟨rfl, hB⟩

set_option maxHeartbeats 4000000 in
theorem great_any (v c : Value) (n m : Nat) (T : Nat → Tr) (C : Nat → Cb) (w : World) (h : TraysAt w v n T) (h' : CabsAt w c m C) : Calls Tryd.prog 10 #[v, c] w fun e w' => e = .returned (.bool (greatB n m C)) ∧ Below w.heap.size w w' := by
  obtain ⟨oa, ca, rfl, hn, -⟩ := h.form
  obtain ⟨ob, cb, rfl, hn', hub⟩ := h'.form
  have HUL := Lib.hid hub
  obtain ⟨R, hR⟩ : ∃ R, greatB n m C = R := ⟨_, rfl⟩
  rw [hR]
  have HR := Lib.hid hR
  clear h h' hub hR
  by_cases h1 : 70 < n
  · have k1 : decide ((70 : Int) < (n : Int)) = true := decide_eq_true (by omega)
    have HRX : Hid (R = true) := by show _ = _; rw [← HR.out]; unfold greatB; rw [decide_eq_true h1]; rfl
    go_enter Tryd.func10, Tryd.ntmps10
    go_wp2
    go_returns
    rw [HRX.out]
    exact ⟨rfl, Below.refl _ _⟩
  have k1 : decide ((70 : Int) < (n : Int)) = false := decide_eq_false (by omega)
  by_cases h2 : 70 < m
  · have k2 : decide ((70 : Int) < (m : Int)) = true := decide_eq_true (by omega)
    have HRX : Hid (R = true) := by show _ = _; rw [← HR.out]; unfold greatB; rw [decide_eq_true h2, Bool.or_true]; rfl
    go_enter Tryd.func10, Tryd.ntmps10
    go_wp2
    go_returns
    rw [HRX.out]
    exact ⟨rfl, Below.refl _ _⟩
  have k2 : decide ((70 : Int) < (m : Int)) = false := decide_eq_false (by omega)
  have HRA : Hid (R = !allTo (fun i => decide ((C i).id.size ≤ 200)) m) := by
    show _ = _
    rw [← HR.out]
    unfold greatB
    rw [decide_eq_false h1, decide_eq_false h2]
    rfl
  go_enter Tryd.func10, Tryd.ntmps10
  go_wp2
  go_loopw [5] (fun i wr => ∃ j : Nat, j ≤ m ∧ i = .int .i64 j ∧ Hid (∀ q, q < j → decide ((C q).id.size ≤ 200) = true) ∧ Below w.heap.size w wr) (fun i _ => m - (intOf i).toNat)
  case atStart => exact ⟨0, by omega, rfl, fun q hq => by omega, by go_grown⟩
  case round =>
    obtain ⟨w4, rfl⟩ : ∃ x : World, x = wr := ⟨_, rfl⟩
    obtain ⟨j, hj, rfl, hq, hB⟩ := hrel
    by_cases hjn : j < m
    · obtain ⟨b1, f1, rfl, hbl1, hcl1⟩ := HUL.out j hjn
      have c0 : w4.cell? ⟨b1, f1 + j * 4, none⟩ = some (.string (C j).id) := (hB.cell (p := ⟨_, _, none⟩) hbl1).trans (hcl1 j hjn).1
      obtain ⟨s, hs⟩ : ∃ s, (C j).id = s := ⟨_, rfl⟩
      rw [hs] at c0
      have HS := Lib.hid hs
      have z1 : b1 < w4.heap.size := by have := hB.size; omega
      have k3 : (0 : Int) ≤ (j : Int) := by omega
      have k4 : (j : Int) < (m : Int) := by omega
      clear hcl1 hs
      by_cases h3 : s.size ≤ 200
      · have kd : decide ((200 : Int) < (s.size : Int)) = false := decide_eq_false (by omega)
        have hq2 : Hid (∀ q, q < j + 1 → decide ((C q).id.size ≤ 200) = true) := fun q hq' => by
          by_cases e : q = j
          · subst e; rw [HS.out]; exact decide_eq_true h3
          · exact hq.out q (by omega)
        go_wp2
        go_roundw
        case rel => exact ⟨j + 1, by omega, by go_num, hq2, hB⟩
        case measure => simp [intOf]; omega
      · have kd : decide ((200 : Int) < (s.size : Int)) = true := decide_eq_true (by omega)
        have HRX : Hid (R = true) := by show _ = _; rw [HRA.out, allTo_no hjn (by rw [HS.out]; exact decide_eq_false h3)]; rfl
        go_wp2
        go_returns
        rw [HRX.out]
        exact ⟨rfl, hB⟩
    · have HRX : Hid (R = false) := by show _ = _; rw [HRA.out, allTo_iff.2 fun q hq' => hq.out q (by omega)]; rfl
      go_wp2
      go_returns
      rw [HRX.out]
      exact ⟨rfl, hB⟩

set_option maxHeartbeats 4000000 in
theorem indices_any (v : Value) (ln n : Nat) (f : Nat → Int) (w : World) (h : IntsAt w v ln f) : Calls Tryd.prog 24 #[v, .int .i64 (n : Int)] w fun e w' => e = .returned (.bool (idxB n f ln)) ∧ Below w.heap.size w w' := by
  obtain ⟨oa, ca, rfl, hn, hel⟩ := h.form
  have HEL := Lib.hid hel
  obtain ⟨R, hR⟩ : ∃ R, idxB n f ln = R := ⟨_, rfl⟩
  rw [hR]
  have HR := Lib.hid hR
  clear h hel hR
  go_enter Tryd.func24, Tryd.ntmps24
  go_wp2
  go_loopw [5] (fun i wr => ∃ j : Nat, j ≤ ln ∧ i = .int .i64 j ∧ Hid (∀ q, q < j → decide (0 ≤ f q ∧ f q < (n : Int)) = true) ∧ Below w.heap.size w wr) (fun i _ => ln - (intOf i).toNat)
  case atStart => exact ⟨0, by omega, rfl, fun q hq => by omega, by go_grown⟩
  case round =>
    obtain ⟨w4, rfl⟩ : ∃ x : World, x = wr := ⟨_, rfl⟩
    obtain ⟨j, hj, rfl, hq, hB⟩ := hrel
    by_cases hjn : j < ln
    · obtain ⟨b1, f1, rfl, hbl1, hcl1⟩ := HEL.out j hjn
      have c0 : w4.cell? ⟨b1, f1 + j, none⟩ = some (.int .i64 (f j)) := (hB.cell (p := ⟨_, _, none⟩) hbl1).trans (hcl1 j hjn)
      obtain ⟨y, hy⟩ : ∃ y, f j = y := ⟨_, rfl⟩
      rw [hy] at c0
      have HY := Lib.hid hy
      have z1 : b1 < w4.heap.size := by have := hB.size; omega
      have k3 : (0 : Int) ≤ (j : Int) := by omega
      have k4 : (j : Int) < (ln : Int) := by omega
      clear hcl1 hy
      by_cases h0 : y < 0
      · have kd : decide (y < 0) = true := decide_eq_true h0
        have HRX : Hid (R = false) := by show _ = _; rw [← HR.out]; exact allTo_no hjn (by rw [HY.out]; exact decide_eq_false (by omega))
        go_wp2
        go_returns
        rw [HRX.out]
        exact ⟨rfl, hB⟩
      · have kd : decide (y < 0) = false := decide_eq_false h0
        by_cases h1 : y < n
        · have ke : decide ((n : Int) ≤ y) = false := decide_eq_false (by omega)
          have hq2 : Hid (∀ q, q < j + 1 → decide (0 ≤ f q ∧ f q < (n : Int)) = true) := fun q hq' => by
            by_cases e : q = j
            · subst e; rw [HY.out]; exact decide_eq_true (by omega)
            · exact hq.out q (by omega)
          go_wp2
          go_roundw
          case rel => exact ⟨j + 1, by omega, by go_num, hq2, hB⟩
          case measure => simp [intOf]; omega
        · have ke : decide ((n : Int) ≤ y) = true := decide_eq_true (by omega)
          have HRX : Hid (R = false) := by show _ = _; rw [← HR.out]; exact allTo_no hjn (by rw [HY.out]; exact decide_eq_false (by omega))
          go_wp2
          go_returns
          rw [HRX.out]
          exact ⟨rfl, hB⟩
    · have HRX : Hid (R = true) := by show _ = _; rw [← HR.out]; exact allTo_iff.2 fun q hq' => hq.out q (by omega)
      go_wp2
      go_returns
      rw [HRX.out]
      exact ⟨rfl, hB⟩

set_option maxHeartbeats 4000000 in
theorem sum_any (v u : Value) (n ln : Nat) (T : Nat → Tr) (f : Nat → Int) (w : World) (h : TraysAt w v n T) (h' : IntsAt w u ln f) (hT : ∀ i, i < n → (T i).ok) (hix : ∀ q, q < ln → 0 ≤ f q ∧ f q < n) (hl : ln ≤ 255000000) : Calls Tryd.prog 26 #[v, u] w fun e w' => e = .returned (.int .i64 (sumF T f ln)) ∧ Below w.heap.size w w' := by
  obtain ⟨oa, ca, rfl, hn, hel⟩ := h.form
  obtain ⟨ob, cb, rfl, hn', hub⟩ := h'.form
  have HEL := Lib.hid hel
  have HUL := Lib.hid hub
  have HTK := Lib.hid hT
  have HIX := Lib.hid hix
  clear h h' hel hub hT hix
  go_enter Tryd.func26, Tryd.ntmps26
  go_wp2
  go_loopw [5, 6] (fun a i wr => ∃ (j : Nat) (s : Int), j ≤ ln ∧ i = .int .i64 j ∧ a = .int .i64 s ∧ Hid (s = sumF T f j) ∧ Below w.heap.size w wr) (fun _ i _ => ln - (intOf i).toNat)
  case atStart => exact ⟨0, 0, by omega, rfl, rfl, rfl, by go_grown⟩
  case round =>
    obtain ⟨w4, rfl⟩ : ∃ x : World, x = wr := ⟨_, rfl⟩
    obtain ⟨j, s, hj, rfl, rfl, hs, hB⟩ := hrel
    by_cases hjn : j < ln
    · obtain ⟨b2, f2, rfl, hbl2, hcl2⟩ := HUL.out j hjn
      have cu : w4.cell? ⟨b2, f2 + j, none⟩ = some (.int .i64 (f j)) := (hB.cell (p := ⟨_, _, none⟩) hbl2).trans (hcl2 j hjn)
      obtain ⟨hi0, hi1⟩ := HIX.out j hjn
      obtain ⟨i, hi⟩ : ∃ i : Nat, f j = (i : Int) := ⟨(f j).toNat, by omega⟩
      rw [hi] at cu hi0 hi1
      have hin : i < n := by omega
      obtain ⟨b1, f1, rfl, hbl1, hcl1⟩ := HEL.out i hin
      have c2 : w4.cell? ⟨b1, f1 + i * 4 + 2, none⟩ = some (.int .i64 (T i).L) := (hB.cell (p := ⟨_, _, none⟩) hbl1).trans (hcl1 i hin).2.2.1
      have hbd := sumF_bd HTK.out (f := f) (k := j) (fun q hq => HIX.out q (by omega))
      have hok := HTK.out i hin
      unfold Tr.ok at hok
      obtain ⟨l, hl2⟩ : ∃ l, (T i).L = l := ⟨_, rfl⟩
      rw [hl2] at c2 hok
      rw [← hs.out] at hbd
      have wsum : IntKind.i64.wrap (s + l) = s + l := IntWalk.i64_in _ (by omega)
      have hs2 : Hid (s + l = sumF T f (j + 1)) := by
        show _ = _
        unfold sumF
        rw [hi, ← hs.out]
        simp only [Int.toNat_natCast]
        rw [hl2]
      have z1 : b1 < w4.heap.size := by have := hB.size; omega
      have z2 : b2 < w4.heap.size := by have := hB.size; omega
      have k3 : (0 : Int) ≤ (j : Int) := by omega
      have k4 : (j : Int) < (ln : Int) := by omega
      clear hcl1 hcl2 hi hl2 hok hbd
      go_wp2
      go_roundw
      case rel => exact ⟨j + 1, s + l, by omega, by go_num, rfl, hs2, hB⟩
      case measure => simp [intOf]; omega
    · have hje : j = ln := by omega
      have HS : Hid (s = sumF T f ln) := by show _ = _; rw [hs.out, hje]
      clear hje
      go_wp2
      go_returns
      rw [← HS.out]
      exact ⟨rfl, hB⟩
end Go.Proofs.YtpkgadjglidnaaaDoor
