/-
  slices.Contains over ints; ways, by walks of cable.isWay. Conditions: as stated. By an AI agent.
-/
import Derived.Test.YtpkgadjglidnaaaDoorCabA
import Derived.Test.YtpkgadjglidnaaaDoorInts
import Derived.Test.YtpkgadjglidnaaaDoorSlices
namespace Go.Proofs.YtpkgadjglidnaaaDoor
open Go Go.ChangeShapes Go.WideShapes Go.RowKit Go.ChangeAt
set_option linter.unusedVariables false
set_option linter.unusedSimpArgs false

def wayA (T : Nat → Tr) (fr : Int) (f : Nat → Int) : Nat → Int × Bool
  | 0 => (fr, true)
  | k + 1 => (othN (T (f k).toNat).A (T (f k).toNat).B (wayA T fr f k).1, (wayA T fr f k).2 && othB (T (f k).toNat).A (T (f k).toNat).B (wayA T fr f k).1 && allTo (fun q => decide (f q ≠ f k)) k)
def isWayB (T : Nat → Tr) (fr to : Int) (f : Nat → Int) (ln : Nat) : Bool := (wayA T fr f ln).2 && decide ((wayA T fr f ln).1 = to)
theorem wayA_no {T : Nat → Tr} {fr : Int} {f : Nat → Int} {k : Nat} (h : (wayA T fr f k).2 = false) : ∀ {m : Nat}, k ≤ m → (wayA T fr f m).2 = false
  | 0, hk => by obtain rfl : k = 0 := by omega
                exact h
  | m + 1, hk => by
    by_cases e : k = m + 1
    · subst e; exact h
    · have := wayA_no h (m := m) (by omega)
      unfold wayA
      simp [this]
theorem isWayB_no {T : Nat → Tr} {fr to : Int} {f : Nat → Int} {k ln : Nat} (hk : k ≤ ln) (h : (wayA T fr f k).2 = false) : isWayB T fr to f ln = false := by
  unfold isWayB
  rw [wayA_no h hk, Bool.false_and]
theorem wayA_step {T : Nat → Tr} {fr : Int} {f : Nat → Int} {k : Nat} : wayA T fr f (k + 1) = (othN (T (f k).toNat).A (T (f k).toNat).B (wayA T fr f k).1, (wayA T fr f k).2 && othB (T (f k).toNat).A (T (f k).toNat).B (wayA T fr f k).1 && allTo (fun q => decide (f q ≠ f k)) k) := rfl
theorem roth_oth {a b v : Int} (h : othB a b v = true) : rothN a b v = othN a b v := by
  unfold othB at h
  unfold rothN othN
  simp at h
  by_cases e : v = a
  · rw [if_pos e.symm, if_pos e]
  · rw [if_neg (fun h => e h.symm), if_neg e, if_pos (by rcases h with h | h; exact absurd h e; exact h)]

/-- the first place of a number, or -1 -/
def idxF (f : Nat → Int) (x : Int) : Nat → Nat → Int
  | 0, _ => -1
  | r + 1, j => if x = f j then j else idxF f x r (j + 1)
theorem idxF_all (f : Nat → Int) (x : Int) : ∀ (r j : Nat), (decide (0 ≤ idxF f x r j)) = !allTo (fun q => decide (f (j + q) ≠ x)) r
  | 0, j => rfl
  | r + 1, j => by
    unfold idxF
    by_cases e : x = f j
    · rw [if_pos e, allTo_no (i := 0) (by omega) (by simp [e])]
      simp
    · rw [if_neg e, idxF_all f x r (j + 1)]
      congr 1
      cases hb : allTo (fun q => decide (f (j + q) ≠ x)) (r + 1) with
      | true =>
        refine allTo_iff.2 fun i hi => ?_
        have := allTo_iff.1 hb (i + 1) (by omega)
        rwa [show j + (i + 1) = j + 1 + i by omega] at this
      | false =>
        obtain ⟨i, hi, hf⟩ := allTo_not hb
        cases i with
        | zero => simp at hf; exact absurd hf.symm e
        | succ i => exact allTo_no (i := i) (by omega) (by rwa [show j + 1 + i = j + (i + 1) by omega])
set_option maxHeartbeats 4000000 in
theorem index_any (v : Value) (k : Nat) (f : Nat → Int) (x : Int) (w : World) (h : IntsAt w v k f) : Calls Tryd.prog 46 #[v, .int .i64 x] w fun e w' => e = .returned (.int .i64 (idxF f x k 0)) ∧ Below w.heap.size w w' := by
  obtain ⟨oa, ca, rfl, hn, hel⟩ := h.form
  have HEL := Lib.hid hel
  obtain ⟨R, hR⟩ : ∃ R, idxF f x k 0 = R := ⟨_, rfl⟩
  rw [hR]
  have HR := Lib.hid hR
  clear h hel hR
  go_enter Tryd.func46, Tryd.ntmps46
  go_wp2
  go_loopw [8] (fun i wr => ∃ j : Nat, j ≤ k ∧ i = .int .i64 j ∧ Hid (idxF f x (k - j) j = R) ∧ Below w.heap.size w wr) (fun i _ => k - (intOf i).toNat)
  case atStart => exact ⟨0, by omega, rfl, HR.out, by go_grown⟩
  case round =>
    obtain ⟨w1, rfl⟩ : ∃ x : World, x = wr := ⟨_, rfl⟩
    obtain ⟨j, hj, rfl, hq, hB⟩ := hrel
    by_cases hjk : j < k
    · obtain ⟨b1, f1, rfl, hbl1, hcl1⟩ := HEL.out j hjk
      have c0 : w1.cell? ⟨b1, f1 + j, none⟩ = some (.int .i64 (f j)) := (hB.cell (p := ⟨_, _, none⟩) hbl1).trans (hcl1 j hjk)
      obtain ⟨y, hy⟩ : ∃ y, f j = y := ⟨_, rfl⟩
      have hst : idxF f x (k - j) j = if x = y then (j : Int) else idxF f x (k - (j + 1)) (j + 1) := by
        rw [show k - j = (k - (j + 1)) + 1 by omega, idxF, hy]
      rw [hy] at c0
      have hbr1 : b1 < w1.heap.size := by have := hB.size; omega
      have k0 : (0 : Int) ≤ (j : Int) := by omega
      have k1 : (j : Int) < (k : Int) := by omega
      clear hcl1 hy
      by_cases hxy : x = y
      · have HRJ : Hid (R = (j : Int)) := by show _ = _; rw [← hq.out, hst, if_pos hxy]
        subst hxy
        clear hst
        go_wp2
        go_returns
        rw [HRJ.out]
        exact ⟨rfl, hB⟩
      · have kxy : (x == y) = false := by simpa using hxy
        have hq2 : Hid (idxF f x (k - (j + 1)) (j + 1) = R) := by show _ = _; rw [← hq.out, hst, if_neg hxy]
        clear hst hxy
        go_wp2
        go_roundw
        case rel => exact ⟨j + 1, by omega, by go_num, hq2, hB⟩
        case measure => simp [intOf]; omega
    · have HRJ : Hid (R = -1) := by
        show _ = _
        rw [← hq.out, show k - j = 0 by omega]
        rfl
      go_wp2
      go_returns
      rw [HRJ.out]
      exact ⟨rfl, hB⟩
set_option maxHeartbeats 4000000 in
theorem containsI_any (v : Value) (k : Nat) (f : Nat → Int) (x : Int) (w : World) (h : IntsAt w v k f) : Calls Tryd.prog 41 #[v, .int .i64 x] w fun e w' => e = .returned (.bool (!allTo (fun q => decide (f q ≠ x)) k)) ∧ Below w.heap.size w w' := by
  have hr := idxF_all f x k 0
  simp only [Nat.zero_add] at hr
  rw [← hr]
  obtain ⟨R, hR⟩ : ∃ R, idxF f x k 0 = R := ⟨_, rfl⟩
  have HI : Hid (∀ W, IntsAt W v k f → Calls Tryd.prog 46 #[v, .int .i64 x] W fun e w' => e = .returned (.int .i64 R) ∧ Below W.heap.size W w') := fun W h => hR ▸ index_any v k f x W h
  rw [hR]
  have HH := Lib.hid h
  clear hr hR h
  go_enter Tryd.func41, Tryd.ntmps41
  go_wp2_with fail
  (go_at_call 46; refine (HI.out _ HH.out).mono ?_; rintro e_ w1 ⟨rfl, hb⟩)
  have hB := below_step (w := w) (by first | exact Below.refl _ _ | go_grown) hb
  go_wp2
  go_returns
  exact ⟨rfl, hB⟩

set_option maxHeartbeats 8000000 in
theorem isWay_any (v u : Value) (n ln : Nat) (T : Nat → Tr) (f : Nat → Int) (ci : ByteArray) (cf ct cs : Int) (w : World) (h : TraysAt w v n T) (h' : IntsAt w u ln f) (hix : ∀ q, q < ln → 0 ≤ f q ∧ f q < n) :
    Calls Tryd.prog 36 #[v, u, .agg #[.string ci, .int .i64 cf, .int .i64 ct, .int .i64 cs]] w fun e w' => e = .returned (.bool (isWayB T cf ct f ln)) ∧ Below w.heap.size w w' := by
  have HII := Lib.hid h'
  have HIX := Lib.hid hix
  obtain ⟨oa, ca, rfl, hn, hel⟩ := h.form
  obtain ⟨ob, cb, rfl, hn', hub⟩ := h'.form
  have HEL := Lib.hid hel
  have HUL := Lib.hid hub
  obtain ⟨R, hR⟩ : ∃ R, isWayB T cf ct f ln = R := ⟨_, rfl⟩
  rw [hR]
  have HR := Lib.hid hR
  have hcap : ln ≤ cb := by
    obtain ⟨oa', cap', he, h2, h3, -⟩ := h'
    cases he
    exact h2
  have hcap2 : cb ≤ 9223372036854775807 := by
    obtain ⟨oa', cap', he, h2, h3, -⟩ := h'
    cases he
    exact h3
  clear h h' hel hub hR hix
  go_enter Tryd.func36, Tryd.ntmps36
  go_wp2
  go_loopw [7, 16] (fun a i wr => ∃ (k : Nat) (x : Int), k ≤ ln ∧ i = .int .i64 k ∧ a = .int .i64 x ∧ Hid (wayA T cf f k = (x, true)) ∧ wr.cell? ⟨w.heap.size, 2, none⟩ = some (.int .i64 ct) ∧ w.heap.size < wr.heap.size ∧ Below w.heap.size w wr) (fun _ i _ => ln - (intOf i).toNat)
  case atStart => exact ⟨0, cf, by omega, rfl, rfl, rfl, by simp [go_sem], by simp, by go_grown⟩
  case round =>
    obtain ⟨w3, rfl⟩ : ∃ x : World, x = wr := ⟨_, rfl⟩
    obtain ⟨k, x, hk, rfl, rfl, HW, x2, zc, hB⟩ := hrel
    by_cases hkn : k < ln
    · obtain ⟨b2, f2, rfl, hbl2, hcl2⟩ := HUL.out k hkn
      have cu : w3.cell? ⟨b2, f2 + k, none⟩ = some (.int .i64 (f k)) := (hB.cell (p := ⟨_, _, none⟩) hbl2).trans (hcl2 k hkn)
      obtain ⟨hi0, hi1⟩ := HIX.out k hkn
      obtain ⟨i, hi⟩ : ∃ i : Nat, f k = (i : Int) := ⟨(f k).toNat, by omega⟩
      rw [hi] at cu hi0 hi1
      have hin : i < n := by omega
      obtain ⟨b1, f1, rfl, hbl1, hcl1⟩ := HEL.out i hin
      have c0 : w3.cell? ⟨b1, f1 + i * 4, none⟩ = some (.int .i64 (T i).A) := (hB.cell (p := ⟨_, _, none⟩) hbl1).trans (hcl1 i hin).1
      have c1 : w3.cell? ⟨b1, f1 + i * 4 + 1, none⟩ = some (.int .i64 (T i).B) := (hB.cell (p := ⟨_, _, none⟩) hbl1).trans (hcl1 i hin).2.1
      have c2 : w3.cell? ⟨b1, f1 + i * 4 + 2, none⟩ = some (.int .i64 (T i).L) := (hB.cell (p := ⟨_, _, none⟩) hbl1).trans (hcl1 i hin).2.2.1
      have c3 : w3.cell? ⟨b1, f1 + i * 4 + 3, none⟩ = some (.int .i64 (T i).S) := (hB.cell (p := ⟨_, _, none⟩) hbl1).trans (hcl1 i hin).2.2.2
      obtain ⟨⟨ta, tb, tl, tsp⟩, htj⟩ : ∃ t, T i = t := ⟨_, rfl⟩
      rw [htj] at c0 c1 c2 c3
      dsimp only at c0 c1 c2 c3
      have HST : Hid (wayA T cf f (k + 1) = (othN ta tb x, true && othB ta tb x && allTo (fun q => decide (f q ≠ (i : Int))) k)) := by
        show _ = _
        rw [wayA_step, HW.out, hi]
        simp only [Int.toNat_natCast]
        rw [htj]
      have hbr1 : b1 < w3.heap.size := by have := hB.size; omega
      have hbr2 : b2 < w3.heap.size := by have := hB.size; omega
      have k0 : (0 : Int) ≤ (k : Int) := by omega
      have k1 : (k : Int) < (ln : Int) := by omega
      have k2 : (k : Int) ≤ (cb : Int) := by omega
      clear hcl1 hcl2 hi htj
      go_wp2_with fail
      (go_at_call 33; refine (other_any ta tb tl tsp x _).mono ?_; rintro e_ w4 ⟨rfl, hb⟩)
      have hB4 : Below w.heap.size w w4 := below_step hB hb
      have y2 : w4.cell? ⟨w.heap.size, 2, none⟩ = some (.int .i64 ct) := (hb.cell (p := ⟨_, _, none⟩) zc).trans x2
      have zc4 : w.heap.size < w4.heap.size := by have := hb.size; omega
      clear hb c0 c1 c2 c3 cu x2
      cases hob : othB ta tb x
      · have HNO : Hid ((wayA T cf f (k + 1)).2 = false) := by show _ = _; rw [HST.out]; simp [hob]
        clear hob
        have HRF : Hid (R = false) := by show _ = _; rw [← HR.out]; exact isWayB_no (k := k + 1) (by omega) HNO.out
        go_wp2
        go_returns
        rw [HRF.out]
        exact ⟨rfl, hB4⟩
      · have HOB := Lib.hid hob
        clear hob
        have HIK : Hid (∀ W, Below w.heap.size w W → IntsAt W (.slice (some ⟨b2, f2, none⟩) k cb) k f) := fun W hW => by
          obtain ⟨oa', cap', he, h2, h3, h4⟩ := HII.out.below hW
          cases he
          refine ⟨_, _, rfl, by omega, h3, fun h0 => ?_⟩
          obtain ⟨b, off, he, hlt, hc⟩ := h4 (by omega)
          exact ⟨b, off, he, hlt, fun a c ha hc' => hc a c (by omega) hc'⟩
        go_wp2_with fail
        (go_at_call 41; refine (containsI_any _ k f (i : Int) _ (HIK.out _ hB4)).mono ?_; rintro e_ w5 ⟨rfl, hb⟩)
        have hB5 : Below w.heap.size w w5 := below_step hB4 hb
        have x2 : w5.cell? ⟨w.heap.size, 2, none⟩ = some (.int .i64 ct) := (hb.cell (p := ⟨_, _, none⟩) zc4).trans y2
        have zc5 : w.heap.size < w5.heap.size := by have := hb.size; omega
        clear hb y2
        cases hal : allTo (fun q => decide (f q ≠ (i : Int))) k
        · have HNO : Hid ((wayA T cf f (k + 1)).2 = false) := by show _ = _; rw [HST.out]; simp only [hal, Bool.and_false]
          clear hal
          have HRF : Hid (R = false) := by show _ = _; rw [← HR.out]; exact isWayB_no (k := k + 1) (by omega) HNO.out
          go_wp2
          go_returns
          rw [HRF.out]
          exact ⟨rfl, hB5⟩
        · have HW2 : Hid (wayA T cf f (k + 1) = (othN ta tb x, true)) := by show _ = _; rw [HST.out, HOB.out, hal]; rfl
          clear hal
          go_wp2
          go_roundw
          case rel => exact ⟨k + 1, _, by omega, by go_num, rfl, HW2, x2, zc5, hB5⟩
          case measure => simp [intOf]; omega
    · have hke : k = ln := by omega
      have HRE : Hid (R = decide (x = ct)) := by
        show _ = _
        rw [← HR.out]
        unfold isWayB
        rw [← hke, HW.out]
        rfl
      by_cases hx : x = ct
      · have HRT : Hid (R = true) := by show _ = _; rw [HRE.out]; exact decide_eq_true hx
        subst hx
        clear hke
        go_wp2
        go_returns
        rw [HRT.out]
        exact ⟨by simp, hB⟩
      · have HRT : Hid (R = false) := by show _ = _; rw [HRE.out]; exact decide_eq_false hx
        have kx : (x == ct) = false := by simpa using hx
        clear hke hx
        go_wp2
        go_returns
        rw [HRT.out]
        exact ⟨rfl, hB⟩
end Go.Proofs.YtpkgadjglidnaaaDoor
