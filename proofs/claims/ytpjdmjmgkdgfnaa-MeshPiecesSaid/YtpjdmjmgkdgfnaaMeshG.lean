/-
  Lists of edges in memory; the reference's count, by walks. Conditions: none. By an AI agent.
-/
import Derived.Test.YtpjdmjmgkdgfnaaMeshF
import Derived.Test.YtpjdmjmgkdgfnaaInts
namespace Go.Proofs.Ytpjdmjmgkdgfnaa
open Go Go.RowKit
set_option linter.unusedVariables false
set_option linter.unusedSimpArgs false
set_option maxRecDepth 100000

def cvE (e : E2) : Nat → Value
  | 0 => .int .i64 e.1
  | _ => .int .i64 e.2
def nthE (l : List E2) (i : Nat) : E2 := l.getD i (0, 0)
/-- a list of edges in memory -/
def EAt (w : World) (v : Value) (l : List E2) : Prop := SliceAt w v l.length 2 (fun i j => cvE (nthE l i) j)
theorem EAt.below {w w' : World} {v : Value} {l : List E2} (h : EAt w v l) (hb : Below w.heap.size w w') : EAt w' v l := SliceAt.below h hb
theorem EAt.form {w : World} {v : Value} {l : List E2} (h : EAt w v l) : ∃ (oa : Option Addr) (cap : Nat), v = .slice oa l.length cap ∧ l.length ≤ cap ∧ cap ≤ 9223372036854775807 ∧
    ∀ i, i < l.length → ∃ b off, oa = some ⟨b, off, none⟩ ∧ b < w.heap.size ∧ ∀ k, k < l.length → w.cell? ⟨b, off + k * 2, none⟩ = some (.int .i64 (nthE l k).1) ∧ w.cell? ⟨b, off + k * 2 + 1, none⟩ = some (.int .i64 (nthE l k).2) := by
  obtain ⟨oa, cap, h1, h2, h3, h4⟩ := h
  refine ⟨oa, cap, h1, h2, h3, fun i hi => ?_⟩
  obtain ⟨b, off, e, hlt, hc⟩ := h4 (by omega)
  exact ⟨b, off, e, hlt, fun k hk => ⟨hc k 0 hk (by decide), hc k 1 hk (by decide)⟩⟩
theorem flatE_at : ∀ (l : List E2) (i j : Nat), i < l.length → j < 2 → (flatE l)[i * 2 + j]? = some (cvE (nthE l i) j)
  | [], i, j, hi, hj => by simp at hi
  | e :: l, 0, j, hi, hj => by
    match j, hj with
    | 0, _ => rfl
    | 1, _ => rfl
  | e :: l, i + 1, j, hi, hj => by
    have h := flatE_at l i j (by simpa using hi) hj
    rw [show (i + 1) * 2 + j = (i * 2 + j) + 2 by omega]
    exact h
theorem owns_E {w : World} {B : Nat} {v : Value} {n : Nat} {l : List E2} {t : TypeId} (h : w.ownsRow B t 2 v n (flatE l)) (hn : l.length = n) : EAt w v l := by
  subst hn
  exact owns_slice h _ (by decide) (fun i j hi hj => flatE_at l i j hi hj)
/-- how often a pair stands among the first ones -/
def cntE (l : List E2) (a b : Int) : Nat → Nat
  | 0 => 0
  | j + 1 => cntE l a b j + if (nthE l j).1 = a ∧ (nthE l j).2 = b then 1 else 0
theorem cntE_take (l : List E2) (a b : Int) : ∀ j, j ≤ l.length → cntE l a b j = (l.take j).count (a, b)
  | 0, _ => by simp [cntE]
  | j + 1, h => by
    rw [cntE, cntE_take l a b j (by omega), List.take_add_one, List.count_append, List.getElem?_eq_getElem (by omega)]
    congr 1
    simp only [nthE, List.getD_eq_getElem?_getD, List.getElem?_eq_getElem (show j < l.length by omega), Option.getD_some, Option.toList_some, List.count_singleton]
    by_cases he : l[j].1 = a ∧ l[j].2 = b
    · rw [if_pos he, if_pos (by simp [Prod.ext_iff, he])]
    · rw [if_neg he, if_neg (by simpa [Prod.ext_iff] using he)]
theorem cntE_all (l : List E2) (a b : Int) : cntE l a b l.length = l.count (a, b) := by rw [cntE_take l a b _ (Nat.le_refl _), List.take_length]
theorem cntE_le (l : List E2) (a b : Int) : ∀ j, cntE l a b j ≤ j
  | 0 => Nat.le_refl _
  | j + 1 => by have := cntE_le l a b j; rw [cntE]; split <;> omega

set_option maxHeartbeats 4000000 in
theorem count_any (v : Value) (l : List E2) (a b : Int) (w : World) (h : EAt w v l) :
    Calls Try.prog 36 #[v, .int .i64 a, .int .i64 b] w fun e w' => e = .returned (.int .i64 (l.count (a, b) : Nat)) ∧ Below w.heap.size w w' := by
  obtain ⟨oa, cap, rfl, hn, hc, hel⟩ := h.form
  obtain ⟨n, hln⟩ : ∃ n, l.length = n := ⟨_, rfl⟩
  rw [← cntE_all]
  have HN := Lib.hid hln
  rw [hln] at hn hel
  rw [hln]
  have HEL := Lib.hid hel
  clear h hel hln
  go_enter Try.func36, Try.ntmps36
  go_wp2
  go_loopw [7, 8] (fun c i wr => ∃ j : Nat, j ≤ n ∧ i = .int .i64 j ∧ c = .int .i64 (cntE l a b j : Nat) ∧ Below w.heap.size w wr) (fun _ i _ => n - (intOf i).toNat)
  case atStart => exact ⟨0, by omega, rfl, rfl, by go_grown⟩
  case round =>
    obtain ⟨w1, rfl⟩ : ∃ x : World, x = wr := ⟨_, rfl⟩
    obtain ⟨j, hj, rfl, rfl, hBw1⟩ := hrel
    by_cases hlt : j < n
    · obtain ⟨b1, f1, rfl, hbl1, hcl1⟩ := HEL.out j hlt
      have c0 : w1.cell? ⟨b1, f1 + j * 2, none⟩ = some (.int .i64 (nthE l j).1) := (hBw1.cell (p := ⟨_, _, none⟩) hbl1).trans (hcl1 j hlt).1
      have c1 : w1.cell? ⟨b1, f1 + j * 2 + 1, none⟩ = some (.int .i64 (nthE l j).2) := (hBw1.cell (p := ⟨_, _, none⟩) hbl1).trans (hcl1 j hlt).2
      have k0 : (0 : Int) ≤ (j : Int) := by omega
      have k1 : (j : Int) < (n : Int) := by omega
      have hcj := cntE_le l a b j
      clear hcl1
      obtain ⟨x, hx⟩ : ∃ x, (nthE l j).1 = x := ⟨_, rfl⟩
      obtain ⟨y, hy⟩ : ∃ y, (nthE l j).2 = y := ⟨_, rfl⟩
      have HX := Lib.hid hx
      have HY := Lib.hid hy
      rw [hx] at c0
      rw [hy] at c1
      clear hx hy
      by_cases hxa : x = a
      · subst hxa
        by_cases hyb : y = b
        · subst hyb
          have HXY : Hid ((nthE l j).1 = x ∧ (nthE l j).2 = y) := ⟨HX.out, HY.out⟩
          go_wp2
          go_roundw
          case rel =>
            have he : cntE l x y (j + 1) = cntE l x y j + 1 := by
              rw [cntE, if_pos HXY.out]
    
            refine ⟨j + 1, by omega, by go_num, by rw [he]; go_num, by go_grown⟩
          case measure => simp [intOf]; omega
        · have ky : (y == b) = false := by simpa using hyb
          have HXY : Hid (¬ ((nthE l j).1 = x ∧ (nthE l j).2 = b)) := fun h => hyb (HY.out.symm.trans h.2)
          clear hyb
          go_wp2
          go_roundw
          case rel =>
            have he : cntE l x b (j + 1) = cntE l x b j := by
              rw [cntE, if_neg HXY.out]
              rfl
            refine ⟨j + 1, by omega, by go_num, by rw [he], by go_grown⟩
          case measure => simp [intOf]; omega
      · have kx : (x == a) = false := by simpa using hxa
        have HXY : Hid (¬ ((nthE l j).1 = a ∧ (nthE l j).2 = b)) := fun h => hxa (HX.out.symm.trans h.1)
        clear hxa
        go_wp2
        go_roundw
        case rel =>
          have he : cntE l a b (j + 1) = cntE l a b j := by
            rw [cntE, if_neg HXY.out]
            rfl
          refine ⟨j + 1, by omega, by go_num, by rw [he], by go_grown⟩
        case measure => simp [intOf]; omega
    · obtain rfl : j = n := by omega
      go_wp2
      go_returns
      exact ⟨rfl, hBw1⟩
end Go.Proofs.Ytpjdmjmgkdgfnaa
