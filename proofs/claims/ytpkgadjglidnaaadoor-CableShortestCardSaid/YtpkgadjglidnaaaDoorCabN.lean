/-
  What Used returns (plain); paths that came in. Conditions: as stated. By an AI agent.
-/
import Derived.Test.YtpkgadjglidnaaaDoorCabI
import Derived.Test.YtpkgadjglidnaaaDoorCabL
namespace Go.Proofs.YtpkgadjglidnaaaDoor
open Go Go.ChangeShapes Go.WideShapes Go.RowKit Go.ChangeAt
set_option linter.unusedVariables false
set_option linter.unusedSimpArgs false

/-- the trays of a path that came in -/
def trL (g : Nat → Int) (ln : Nat) : List Nat := (List.range ln).map fun r => (g r).toNat
theorem trL_len (g : Nat → Int) (ln : Nat) : (trL g ln).length = ln := by simp [trL]
theorem trL_at {g : Nat → Int} {ln q : Nat} (h : q < ln) : (trL g ln).getD q 0 = (g q).toNat := by simp [trL, h]
def pathE (n : Nat) (T : Nat → Tr) (C : Nat → Cb) (L : Nat → Nat) (f : Nat → Nat → Int) (k : Nat) : Int := if allTo (fun q => inB (f k q) 0 ((n : Int) - 1)) (L k) = false then 9 else if isWayB T (C k).fr (C k).to (f k) (L k) = false then 17 else 0
def usdU (C : Nat → Cb) (L : Nat → Nat) (f : Nat → Nat → Int) : Nat → Nat → Int
  | 0 => fun _ => 0
  | k + 1 => addQ (usdU C L f k) (trL (f k) (L k)) (C k).sz (trL (f k) (L k)).length
def usedErr (n : Nat) (T : Nat → Tr) (m : Nat) (C : Nat → Cb) (mp : Nat) (L : Nat → Nat) (f : Nat → Nat → Int) : Int :=
  if checkF n T m C ≠ 0 then checkF n T m C else if mp ≠ m then 17 else if firstE (pathE n T C L f) m ≠ 0 then firstE (pathE n T C L f) m else if allTo (fun i => decide (usdU C L f m i ≤ (T i).S)) n = false then 18 else 0
theorem usedErr_ok {n m : Nat} {T : Nat → Tr} {C : Nat → Cb} {L : Nat → Nat} {f : Nat → Nat → Int} (h : checkF n T m C = 0) : usedErr n T m C m L f = if firstE (pathE n T C L f) m ≠ 0 then firstE (pathE n T C L f) m else if allTo (fun i => decide (usdU C L f m i ≤ (T i).S)) n = false then 18 else 0 := by
  unfold usedErr
  rw [if_neg (by simpa using h), if_neg (by simp)]
theorem usdU_succ (C : Nat → Cb) (L : Nat → Nat) (f : Nat → Nat → Int) (k : Nat) : usdU C L f (k + 1) = addQ (usdU C L f k) (trL (f k) (L k)) (C k).sz (L k) := by
  show addQ _ _ _ (trL (f k) (L k)).length = _
  rw [trL_len]
theorem way_inj {T : Nat → Tr} {fr : Int} {f : Nat → Int} : ∀ {k : Nat}, (wayA T fr f k).2 = true → ∀ q r, q < r → r < k → f q ≠ f r
  | 0, _, q, r, _, hr => by omega
  | k + 1, h, q, r, hq, hr => by
    rw [wayA_step] at h
    simp only [Bool.and_eq_true] at h
    by_cases e : r = k
    · subst e
      have := allTo_iff.1 h.2 q hq
      simpa using this
    · exact way_inj h.1.1 q r hq (by omega)
theorem trL_nodup {T : Nat → Tr} {fr to : Int} {f : Nat → Int} {n ln : Nat} (h : isWayB T fr to f ln = true) (hix : ∀ q, q < ln → 0 ≤ f q ∧ f q < n) : (trL f ln).Nodup := by
  unfold isWayB at h
  simp only [Bool.and_eq_true] at h
  unfold trL
  rw [List.nodup_iff_pairwise_ne, List.pairwise_map]
  refine List.Pairwise.imp_of_mem ?_ List.pairwise_lt_range
  intro a b ha hb hab
  have h1 := way_inj h.1 a b hab (List.mem_range.1 hb)
  have h2 := hix a (List.mem_range.1 ha)
  have h3 := hix b (List.mem_range.1 hb)
  omega
theorem addQ_nodup {F : Nat → Int} {P : List Nat} {sz : Int} {q i : Nat} (hs : 0 ≤ sz) (hP : P.Nodup) : F i ≤ addQ F P sz q i ∧ addQ F P sz q i ≤ F i + sz := by
  have hc : (P.take q).count i ≤ 1 := List.nodup_iff_count.1 (hP.sublist (List.take_sublist q P)) i
  unfold addQ
  rcases (by omega : (P.take q).count i = 0 ∨ (P.take q).count i = 1) with e | e
  · rw [e]; simp; omega
  · rw [e]; simp; omega
theorem usdU_bd {n m : Nat} {T : Nat → Tr} {C : Nat → Cb} {L : Nat → Nat} {f : Nat → Nat → Int} (hC : ∀ i, i < m → CbOk C i) : ∀ {k : Nat}, k ≤ m → (∀ q, q < k → pathE n T C L f q = 0) → ∀ i, 0 ≤ usdU C L f k i ∧ usdU C L f k i ≤ 1000000 * (k : Int)
  | 0, _, _, i => by show (0 : Int) ≤ 0 ∧ (0 : Int) ≤ _; omega
  | k + 1, hk, h, i => by
    have ih := usdU_bd hC (k := k) (by omega) (fun q hq => h q (by omega)) i
    have hp := h k (by omega)
    have hsz := (hC k (by omega)).sz
    rw [usdU_succ]
    have hnd : (trL (f k) (L k)).Nodup := by
      unfold pathE at hp
      split at hp
      · omega
      · rename_i h1
        split at hp
        · omega
        · rename_i h2
          have h1 : allTo (fun q => inB (f k q) 0 ((n : Int) - 1)) (L k) = true := by simpa using h1
          exact trL_nodup (n := n) (by simpa using h2) (fun q hq => by have := inB_true (allTo_iff.1 h1 q hq); omega)
    have := addQ_nodup (F := usdU C L f k) (sz := (C k).sz) (q := L k) (i := i) (by omega) hnd
    omega
def IPathsAt (w : World) (v : Value) (m : Nat) (L : Nat → Nat) (f : Nat → Nat → Int) : Prop := ∃ pv : Nat → Value, SliceAt w v m 1 (fun k _ => pv k) ∧ ∀ k, k < m → IntsAt w (pv k) (L k) (f k)
theorem IPathsAt.below {w w' : World} {v : Value} {m : Nat} {L : Nat → Nat} {f : Nat → Nat → Int} (h : IPathsAt w v m L f) (hb : Below w.heap.size w w') : IPathsAt w' v m L f := by
  obtain ⟨pv, h1, h2⟩ := h
  exact ⟨pv, SliceAt.below h1 hb, fun k hk => (h2 k hk).below hb⟩
theorem pathE_9 {n : Nat} {T : Nat → Tr} {C : Nat → Cb} {L : Nat → Nat} {f : Nat → Nat → Int} {k q : Nat} (hq : q < L k) (h : inB (f k q) 0 ((n : Int) - 1) = false) : pathE n T C L f k = 9 := if_pos (allTo_no hq h)
theorem pathE_w {n : Nat} {T : Nat → Tr} {C : Nat → Cb} {L : Nat → Nat} {f : Nat → Nat → Int} {k : Nat} (h : ∀ q, q < L k → inB (f k q) 0 ((n : Int) - 1) = true) : pathE n T C L f k = if isWayB T (C k).fr (C k).to (f k) (L k) = false then 17 else 0 := by
  unfold pathE
  rw [if_neg (by rw [allTo_iff.2 h]; decide)]
end Go.Proofs.YtpkgadjglidnaaaDoor
